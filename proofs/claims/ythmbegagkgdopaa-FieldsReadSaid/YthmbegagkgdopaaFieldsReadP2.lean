/-
  Functions of the program as functions of Lean. No condition.
-/
import Derived.Test.YthmbegagkgdopaaFieldsReadP1
namespace Go.Proofs.Ythmbegagkgdopaa
open Go Go.Rx
set_option maxRecDepth 100000
set_option linter.unusedVariables false
set_option linter.unusedSimpArgs false
set_option linter.unnecessarySimpa false
-- 30: vedette/vedetteref6.Read
def F30_e : (Delta × Int × Int) → PV × List (List Lf) := fun r => (.tup [.agg [li .i64 r.1.ID, li .u8 r.1.Mask, li .i64 r.1.At.X, li .i64 r.1.At.Y, li .i64 r.1.F.a0.N, ls r.1.F.a0.Text, li .i64 r.1.F.a1.N, ls r.1.F.a1.Text, li .i64 r.1.F.a2.N, ls r.1.F.a2.Text, li .i64 r.1.F.a3.N, ls r.1.F.a3.Text], .one (li .i64 r.2.1), .one (li .i64 r.2.2)], [])
def F30_u32 (n : Nat) (r1 : (Int × Int × Int)) (r2 : (Int × Int × Int)) (i6 : Int) (i7 : Int) (i12 : Int) (s13 : ByteArray) (i18 : Int) (s19 : ByteArray) (i24 : Int) (s25 : ByteArray) (i29 : Int) (i30 : Int) (s31 : ByteArray) : Option (Delta × Int × Int) :=
    (F21 n (Delta.mk r1.1 (IntKind.wrap .u8 r2.1) (Point.mk i6 i7) (A4.mk (Field.mk i12 s13) (Field.mk i18 s19) (Field.mk i24 s25) (Field.mk i30 s31)))).bind fun (r33 : Bool) =>
    if !(r33) then
      some ((Delta.mk 0 0 (Point.mk 0 0) (A4.mk (Field.mk 0 ByteArray.empty) (Field.mk 0 ByteArray.empty) (Field.mk 0 ByteArray.empty) (Field.mk 0 ByteArray.empty))), 0, 11)
    else
      some ((Delta.mk r1.1 (IntKind.wrap .u8 r2.1) (Point.mk i6 i7) (A4.mk (Field.mk i12 s13) (Field.mk i18 s19) (Field.mk i24 s25) (Field.mk i30 s31))), i29, 0)
theorem F30_u32_ok (n : Nat) (a0 : ByteArray) (r1 : (Int × Int × Int)) (r2 : (Int × Int × Int)) (i6 : Int) (i7 : Int) (i12 : Int) (s13 : ByteArray) (i18 : Int) (s19 : ByteArray) (i24 : Int) (s25 : ByteArray) (i29 : Int) (i30 : Int) (s31 : ByteArray) : SimL Try.prog D (n + 8) (n + 4) pc30_c93 [(0, .one (ls a0)), (2, .one (.ptr 2 0)), (5, .one (.ptr 5 0)), (6, .one (.ptr 6 0)), (8, .one (li .i64 i29)), (11, .one (li .i64 4))] ((2, some (.cells [li .i64 0, li .u8 0, li .i64 0, li .i64 0, li .i64 0, ls ByteArray.empty, li .i64 0, ls ByteArray.empty, li .i64 0, ls ByteArray.empty, li .i64 0, ls ByteArray.empty])) :: ((5, some (.cells [li .i64 0, li .u8 0, li .i64 0, li .i64 0, li .i64 0, ls ByteArray.empty, li .i64 0, ls ByteArray.empty, li .i64 0, ls ByteArray.empty, li .i64 0, ls ByteArray.empty])) :: ((6, some (.cells [li .i64 r1.1, li .u8 (IntKind.wrap .u8 r2.1), li .i64 i6, li .i64 i7, li .i64 i12, ls s13, li .i64 i18, ls s19, li .i64 i24, ls s25, li .i64 i30, ls s31])) :: []))) (F30_u32 n r1 r2 i6 i7 i12 s13 i18 s19 i24 s25 i29 i30 s31) (QB 0 (QT Try.prog D (n + 8) pc30_c107 (QF pc30_r 0 F30_e))) := by
    unfold F30_u32
    refine SimL.succ ?_
    refine Sim.seq ?_
    refine Sim.seq ?_
    refine Sim.region [(0, .one (ls a0)), (2, .one (.ptr 2 0)), (5, .one (.ptr 5 0)), (6, .one (.ptr 6 0)), (8, .one (li .i64 i29)), (11, .one (li .i64 4))] ((2, some (.cells [li .i64 0, li .u8 0, li .i64 0, li .i64 0, li .i64 0, ls ByteArray.empty, li .i64 0, ls ByteArray.empty, li .i64 0, ls ByteArray.empty, li .i64 0, ls ByteArray.empty])) :: ((5, some (.cells [li .i64 0, li .u8 0, li .i64 0, li .i64 0, li .i64 0, ls ByteArray.empty, li .i64 0, ls ByteArray.empty, li .i64 0, ls ByteArray.empty, li .i64 0, ls ByteArray.empty])) :: ((6, some (.cells [li .i64 r1.1, li .u8 (IntKind.wrap .u8 r2.1), li .i64 i6, li .i64 i7, li .i64 i12, ls s13, li .i64 i18, ls s19, li .i64 i24, ls s25, li .i64 i30, ls s31])) :: []))) (by kernel_rfl) ?_
    refine SimI.run 2 [(88, .one (lb false)), (87, .one (li .i64 4))] [] (by kernel_rfl) ?_
    refine SimI.done (by kernel_rfl) ?_
    refine SimE.thenN ?_
    refine Sim.condF (by kernel_rfl) ?_
    refine Sim.exit ?_
    refine SimE.thenX ?_
    refine SimE.loopX ?_
    refine SimE.blockX ?_
    refine SimE.thenN ?_
    refine Sim.seq ?_
    refine Sim.seq ?_
    refine Sim.region0 ?_
    refine SimI.run 1 [(141, .agg [li .i64 r1.1, li .u8 (IntKind.wrap .u8 r2.1), li .i64 i6, li .i64 i7, li .i64 i12, ls s13, li .i64 i18, ls s19, li .i64 i24, ls s25, li .i64 i30, ls s31])] [] (by kernel_rfl) ?_
    refine SimI.bind (og := F21 n (Delta.mk r1.1 (IntKind.wrap .u8 r2.1) (Point.mk i6 i7) (A4.mk (Field.mk i12 s13) (Field.mk i18 s19) (Field.mk i24 s25) (Field.mk i30 s31)))) { dst := some 142, op := POp.call true [[]] 21 [Operand.tmp 141], guard := none, hints := [] } (fun r33 => [(142, .one (lb r33))]) (fun r33 => []) (by kernel_rfl) (fun r33 hr => pOp_eff (by kernel_rfl) (by kernel_rfl) (eff_call (ARGS := [.agg [li .i64 r1.1, li .u8 (IntKind.wrap .u8 r2.1), li .i64 i6, li .i64 i7, li .i64 i12, ls s13, li .i64 i18, ls s19, li .i64 i24, ls s25, li .i64 i30, ls s31]]) (by kernel_rfl) (args_clean (by kernel_rfl) args_nil) (F21_ok n (Delta.mk r1.1 (IntKind.wrap .u8 r2.1) (Point.mk i6 i7) (A4.mk (Field.mk i12 s13) (Field.mk i18 s19) (Field.mk i24 s25) (Field.mk i30 s31))) r33 hr) (by kernel_rfl))) (fun r33 => ?_)
    refine SimI.run 1 [(143, .one (lb (!(r33))))] [] (by kernel_rfl) ?_
    refine SimI.done (by kernel_rfl) ?_
    refine SimE.thenN ?_
    refine Sim.cond (!(r33)) (by kernel_rfl) ?_ ?_
    · refine Sim.seq ?_
      refine Sim.region0 ?_
      refine SimI.run 4 [(4, .one (li .i64 11)), (3, .one (li .i64 0)), (144, .agg [li .i64 0, li .u8 0, li .i64 0, li .i64 0, li .i64 0, ls ByteArray.empty, li .i64 0, ls ByteArray.empty, li .i64 0, ls ByteArray.empty, li .i64 0, ls ByteArray.empty])] [(2, some (.cells [li .i64 0, li .u8 0, li .i64 0, li .i64 0, li .i64 0, ls ByteArray.empty, li .i64 0, ls ByteArray.empty, li .i64 0, ls ByteArray.empty, li .i64 0, ls ByteArray.empty]))] (by kernel_rfl) ?_
      refine SimI.done (by kernel_rfl) ?_
      refine SimE.thenN ?_
      refine Sim.ret ?_
      refine SimE.thenR ?_
      exact SimE.fin (by kernel_rfl)
    · refine Sim.skip ?_
      refine SimE.thenN ?_
      refine Sim.seq ?_
      refine Sim.region0 ?_
      refine SimI.run 5 [(4, .one (li .i64 0)), (3, .one (li .i64 i29)), (146, .one (li .i64 i29)), (145, .agg [li .i64 r1.1, li .u8 (IntKind.wrap .u8 r2.1), li .i64 i6, li .i64 i7, li .i64 i12, ls s13, li .i64 i18, ls s19, li .i64 i24, ls s25, li .i64 i30, ls s31])] [(2, some (.cells [li .i64 r1.1, li .u8 (IntKind.wrap .u8 r2.1), li .i64 i6, li .i64 i7, li .i64 i12, ls s13, li .i64 i18, ls s19, li .i64 i24, ls s25, li .i64 i30, ls s31]))] (by kernel_rfl) ?_
      refine SimI.done (by kernel_rfl) ?_
      refine SimE.thenN ?_
      refine Sim.ret ?_
      exact SimE.fin (by kernel_rfl)

def F30_u26 (n : Nat) (a0 : ByteArray) (r1 : (Int × Int × Int)) (r2 : (Int × Int × Int)) (i6 : Int) (i7 : Int) (i12 : Int) (s13 : ByteArray) (i18 : Int) (s19 : ByteArray) (i23 : Int) (i24 : Int) (s25 : ByteArray) : Option (Delta × Int × Int) :=
    if (bitsI .and .u8 (shrI .u8 (IntKind.wrap .u8 r2.1) 4) 1) == 0 then
      F30_u32 n r1 r2 i6 i7 i12 s13 i18 s19 i24 s25 i23 0 ByteArray.empty
    else
      if 0 ≤ (i23 : Int) ∧ (i23 : Int) ≤ (a0.size : Int) then
        (F54 n (a0.extract i23.toNat a0.size) 12).bind fun (r27 : (ByteArray × Int × Int)) =>
        if r27.2.2 != 0 then
          some ((Delta.mk 0 0 (Point.mk 0 0) (A4.mk (Field.mk 0 ByteArray.empty) (Field.mk 0 ByteArray.empty) (Field.mk 0 ByteArray.empty) (Field.mk 0 ByteArray.empty))), 0, r27.2.2)
        else
          if r27.1.toList == ByteArray.empty.toList then
            if 0 ≤ (IntKind.wrap .i64 (i23 + r27.2.1) : Int) ∧ (IntKind.wrap .i64 (i23 + r27.2.1) : Int) ≤ (a0.size : Int) then
              (F55 n (a0.extract (IntKind.wrap .i64 (i23 + r27.2.1)).toNat a0.size)).bind fun (r28 : (Int × Int × Int)) =>
              if r28.2.2 != 0 then
                some ((Delta.mk 0 0 (Point.mk 0 0) (A4.mk (Field.mk 0 ByteArray.empty) (Field.mk 0 ByteArray.empty) (Field.mk 0 ByteArray.empty) (Field.mk 0 ByteArray.empty))), 0, r28.2.2)
              else
                F30_u32 n r1 r2 i6 i7 i12 s13 i18 s19 i24 s25 (IntKind.wrap .i64 (IntKind.wrap .i64 (i23 + r27.2.1) + r28.2.1)) r28.1 r27.1
            else none
          else
            F30_u32 n r1 r2 i6 i7 i12 s13 i18 s19 i24 s25 (IntKind.wrap .i64 (i23 + r27.2.1)) 0 r27.1
      else none
theorem F30_u26_ok (n : Nat) (a0 : ByteArray) (r1 : (Int × Int × Int)) (r2 : (Int × Int × Int)) (i6 : Int) (i7 : Int) (i12 : Int) (s13 : ByteArray) (i18 : Int) (s19 : ByteArray) (i23 : Int) (i24 : Int) (s25 : ByteArray) : SimL Try.prog D (n + 8) (n + 5) pc30_c93 [(0, .one (ls a0)), (2, .one (.ptr 2 0)), (5, .one (.ptr 5 0)), (6, .one (.ptr 6 0)), (8, .one (li .i64 i23)), (11, .one (li .i64 3))] ((2, some (.cells [li .i64 0, li .u8 0, li .i64 0, li .i64 0, li .i64 0, ls ByteArray.empty, li .i64 0, ls ByteArray.empty, li .i64 0, ls ByteArray.empty, li .i64 0, ls ByteArray.empty])) :: ((5, some (.cells [li .i64 0, li .u8 0, li .i64 0, li .i64 0, li .i64 0, ls ByteArray.empty, li .i64 0, ls ByteArray.empty, li .i64 0, ls ByteArray.empty, li .i64 0, ls ByteArray.empty])) :: ((6, some (.cells [li .i64 r1.1, li .u8 (IntKind.wrap .u8 r2.1), li .i64 i6, li .i64 i7, li .i64 i12, ls s13, li .i64 i18, ls s19, li .i64 i24, ls s25, li .i64 0, ls ByteArray.empty])) :: []))) (F30_u26 n a0 r1 r2 i6 i7 i12 s13 i18 s19 i23 i24 s25) (QB 0 (QT Try.prog D (n + 8) pc30_c107 (QF pc30_r 0 F30_e))) := by
    unfold F30_u26
    refine SimL.succ ?_
    refine Sim.seq ?_
    refine Sim.seq ?_
    refine Sim.region [(0, .one (ls a0)), (2, .one (.ptr 2 0)), (5, .one (.ptr 5 0)), (6, .one (.ptr 6 0)), (8, .one (li .i64 i23)), (11, .one (li .i64 3))] ((2, some (.cells [li .i64 0, li .u8 0, li .i64 0, li .i64 0, li .i64 0, ls ByteArray.empty, li .i64 0, ls ByteArray.empty, li .i64 0, ls ByteArray.empty, li .i64 0, ls ByteArray.empty])) :: ((5, some (.cells [li .i64 0, li .u8 0, li .i64 0, li .i64 0, li .i64 0, ls ByteArray.empty, li .i64 0, ls ByteArray.empty, li .i64 0, ls ByteArray.empty, li .i64 0, ls ByteArray.empty])) :: ((6, some (.cells [li .i64 r1.1, li .u8 (IntKind.wrap .u8 r2.1), li .i64 i6, li .i64 i7, li .i64 i12, ls s13, li .i64 i18, ls s19, li .i64 i24, ls s25, li .i64 0, ls ByteArray.empty])) :: []))) (by kernel_rfl) ?_
    refine SimI.run 2 [(88, .one (lb true)), (87, .one (li .i64 3))] [] (by kernel_rfl) ?_
    refine SimI.done (by kernel_rfl) ?_
    refine SimE.thenN ?_
    refine Sim.condT (by kernel_rfl) ?_
    refine Sim.skip ?_
    refine SimE.thenN ?_
    refine Sim.seq ?_
    refine Sim.block ?_
    refine Sim.seq ?_
    refine Sim.seq ?_
    refine Sim.region0 ?_
    refine SimI.run 8 [(98, .one (lb ((bitsI .and .u8 (shrI .u8 (IntKind.wrap .u8 r2.1) 4) 1) == 0))), (97, .one (li .u8 (bitsI .and .u8 (shrI .u8 (IntKind.wrap .u8 r2.1) 4) 1))), (96, .one (li .u8 (shrI .u8 (IntKind.wrap .u8 r2.1) 4))), (95, .one (li .u64 4)), (94, .one (li .i64 4)), (93, .one (li .i64 3)), (92, .one (li .u8 (IntKind.wrap .u8 r2.1))), (91, .one (.ptr 6 1))] [] (by kernel_rfl) ?_
    refine SimI.done (by kernel_rfl) ?_
    refine SimE.thenN ?_
    refine Sim.cond ((bitsI .and .u8 (shrI .u8 (IntKind.wrap .u8 r2.1) 4) 1) == 0) (by kernel_rfl) ?_ ?_
    · refine Sim.exit ?_
      refine SimE.thenX ?_
      refine SimE.blockX ?_
      refine SimE.thenN ?_
      refine Sim.region0 ?_
      refine SimI.run 3 [(11, .one (li .i64 4)), (90, .one (li .i64 4)), (89, .one (li .i64 3))] [] (by kernel_rfl) ?_
      refine SimI.done (by kernel_rfl) ?_
      refine SimE.loopN ?_
      refine SimL.pre (ts := [0, 2, 5, 6, 8, 11]) (os := [2, 5, 6]) [(0, .one (ls a0)), (2, .one (.ptr 2 0)), (5, .one (.ptr 5 0)), (6, .one (.ptr 6 0)), (8, .one (li .i64 i23)), (11, .one (li .i64 4))] ((2, some (.cells [li .i64 0, li .u8 0, li .i64 0, li .i64 0, li .i64 0, ls ByteArray.empty, li .i64 0, ls ByteArray.empty, li .i64 0, ls ByteArray.empty, li .i64 0, ls ByteArray.empty])) :: ((5, some (.cells [li .i64 0, li .u8 0, li .i64 0, li .i64 0, li .i64 0, ls ByteArray.empty, li .i64 0, ls ByteArray.empty, li .i64 0, ls ByteArray.empty, li .i64 0, ls ByteArray.empty])) :: ((6, some (.cells [li .i64 r1.1, li .u8 (IntKind.wrap .u8 r2.1), li .i64 i6, li .i64 i7, li .i64 i12, ls s13, li .i64 i18, ls s19, li .i64 i24, ls s25, li .i64 0, ls ByteArray.empty])) :: []))) (by kernel_rfl) (by kernel_rfl) (by kernel_rfl) ?_
      exact F30_u32_ok n a0 r1 r2 i6 i7 i12 s13 i18 s19 i24 s25 i23 0 ByteArray.empty
    · refine Sim.skip ?_
      refine SimE.thenN ?_
      refine Sim.seq ?_
      refine Sim.region0 ?_
      refine SimI.run 2 [(101, .one (li .i64 i23)), (100, .one (ls a0))] [] (by kernel_rfl) ?_
      refine SimI.guard (c := 0 ≤ (i23 : Int) ∧ (i23 : Int) ≤ (a0.size : Int)) { dst := some 102, op := POp.prim (Prim.slice 9 true false) [Operand.tmp 100, Operand.tmp 101], guard := none, hints := [] } [(102, .one (ls (a0.extract i23.toNat a0.size)))] [] (by kernel_rfl) (fun hc => pOp_eff (by kernel_rfl) (by kernel_rfl) (eff_prim (by kernel_rfl) (pr_cutL (s := a0) (k := .i64) (a := i23) Try.underlying9 hc))) ?_
      refine SimI.bind (og := F54 n (a0.extract i23.toNat a0.size) 12) { dst := some 103, op := POp.call true [[], []] 54 [Operand.tmp 102, Operand.const (Value.int IntKind.i64 12)], guard := none, hints := [] } (fun r27 => [(103, .tup [.one (ls r27.1), .one (li .i64 r27.2.1), .one (li .i64 r27.2.2)])]) (fun r27 => []) (by kernel_rfl) (fun r27 hr => pOp_eff (by kernel_rfl) (by kernel_rfl) (eff_call (ARGS := [.one (ls (a0.extract i23.toNat a0.size)), .one (li .i64 12)]) (by kernel_rfl) (args_clean (by kernel_rfl) (args_clean (by kernel_rfl) args_nil)) (F54_ok n (a0.extract i23.toNat a0.size) 12 r27 hr) (by kernel_rfl))) (fun r27 => ?_)
      refine SimI.run 7 [(14, .one (li .i64 r27.2.2)), (13, .one (li .i64 r27.2.1)), (12, .one (ls r27.1)), (106, .one (li .i64 r27.2.2)), (105, .one (li .i64 r27.2.1)), (104, .one (ls r27.1)), (99, .tup [.one (ls r27.1), .one (li .i64 r27.2.1), .one (li .i64 r27.2.2)])] [] (by kernel_rfl) ?_
      refine SimI.done (by kernel_rfl) ?_
      refine SimE.thenN ?_
      refine Sim.seq ?_
      refine Sim.seq ?_
      refine Sim.region0 ?_
      refine SimI.run 2 [(108, .one (lb (r27.2.2 != 0))), (107, .one (li .i64 r27.2.2))] [] (by kernel_rfl) ?_
      refine SimI.done (by kernel_rfl) ?_
      refine SimE.thenN ?_
      refine Sim.cond (r27.2.2 != 0) (by kernel_rfl) ?_ ?_
      · refine Sim.seq ?_
        refine Sim.region0 ?_
        refine SimI.run 5 [(4, .one (li .i64 r27.2.2)), (3, .one (li .i64 0)), (110, .one (li .i64 r27.2.2)), (109, .agg [li .i64 0, li .u8 0, li .i64 0, li .i64 0, li .i64 0, ls ByteArray.empty, li .i64 0, ls ByteArray.empty, li .i64 0, ls ByteArray.empty, li .i64 0, ls ByteArray.empty])] [(2, some (.cells [li .i64 0, li .u8 0, li .i64 0, li .i64 0, li .i64 0, ls ByteArray.empty, li .i64 0, ls ByteArray.empty, li .i64 0, ls ByteArray.empty, li .i64 0, ls ByteArray.empty]))] (by kernel_rfl) ?_
        refine SimI.done (by kernel_rfl) ?_
        refine SimE.thenN ?_
        refine Sim.ret ?_
        refine SimE.thenR ?_
        refine SimE.blockR ?_
        refine SimE.thenR ?_
        refine SimE.loopR ?_
        refine SimE.blockR ?_
        refine SimE.thenR ?_
        exact SimE.fin (by kernel_rfl)
      · refine Sim.skip ?_
        refine SimE.thenN ?_
        refine Sim.seq ?_
        refine Sim.region0 ?_
        refine SimI.run 10 [(8, .one (li .i64 (IntKind.wrap .i64 (i23 + r27.2.1)))), (118, .one (.ptr 6 11)), (117, .one (.ptr 6 10)), (116, .one (.ptr 6 4)), (115, .one (li .i64 (IntKind.wrap .i64 (i23 + r27.2.1)))), (114, .one (li .i64 r27.2.1)), (113, .one (li .i64 i23)), (112, .one (ls r27.1)), (111, .one (li .i64 3))] [(6, some (.cells [li .i64 r1.1, li .u8 (IntKind.wrap .u8 r2.1), li .i64 i6, li .i64 i7, li .i64 i12, ls s13, li .i64 i18, ls s19, li .i64 i24, ls s25, li .i64 0, ls r27.1]))] (by kernel_rfl) ?_
        refine SimI.done (by kernel_rfl) ?_
        refine SimE.thenN ?_
        refine Sim.seq ?_
        refine Sim.region0 ?_
        refine SimI.run 2 [(120, .one (lb (r27.1.toList == ByteArray.empty.toList))), (119, .one (ls r27.1))] [] (by kernel_rfl) ?_
        refine SimI.done (by kernel_rfl) ?_
        refine SimE.thenN ?_
        refine Sim.cond (r27.1.toList == ByteArray.empty.toList) (by kernel_rfl) ?_ ?_
        · refine Sim.seq ?_
          refine Sim.region0 ?_
          refine SimI.run 2 [(123, .one (li .i64 (IntKind.wrap .i64 (i23 + r27.2.1)))), (122, .one (ls a0))] [] (by kernel_rfl) ?_
          refine SimI.guard (c := 0 ≤ (IntKind.wrap .i64 (i23 + r27.2.1) : Int) ∧ (IntKind.wrap .i64 (i23 + r27.2.1) : Int) ≤ (a0.size : Int)) { dst := some 124, op := POp.prim (Prim.slice 9 true false) [Operand.tmp 122, Operand.tmp 123], guard := none, hints := [] } [(124, .one (ls (a0.extract (IntKind.wrap .i64 (i23 + r27.2.1)).toNat a0.size)))] [] (by kernel_rfl) (fun hc => pOp_eff (by kernel_rfl) (by kernel_rfl) (eff_prim (by kernel_rfl) (pr_cutL (s := a0) (k := .i64) (a := IntKind.wrap .i64 (i23 + r27.2.1)) Try.underlying9 hc))) ?_
          refine SimI.bind (og := F55 n (a0.extract (IntKind.wrap .i64 (i23 + r27.2.1)).toNat a0.size)) { dst := some 125, op := POp.call true [[]] 55 [Operand.tmp 124], guard := none, hints := [] } (fun r28 => [(125, .tup [.one (li .i64 r28.1), .one (li .i64 r28.2.1), .one (li .i64 r28.2.2)])]) (fun r28 => []) (by kernel_rfl) (fun r28 hr => pOp_eff (by kernel_rfl) (by kernel_rfl) (eff_call (ARGS := [.one (ls (a0.extract (IntKind.wrap .i64 (i23 + r27.2.1)).toNat a0.size))]) (by kernel_rfl) (args_clean (by kernel_rfl) args_nil) (F55_ok n (a0.extract (IntKind.wrap .i64 (i23 + r27.2.1)).toNat a0.size) r28 hr) (by kernel_rfl))) (fun r28 => ?_)
          refine SimI.run 7 [(17, .one (li .i64 r28.2.2)), (16, .one (li .i64 r28.2.1)), (15, .one (li .i64 r28.1)), (128, .one (li .i64 r28.2.2)), (127, .one (li .i64 r28.2.1)), (126, .one (li .i64 r28.1)), (121, .tup [.one (li .i64 r28.1), .one (li .i64 r28.2.1), .one (li .i64 r28.2.2)])] [] (by kernel_rfl) ?_
          refine SimI.done (by kernel_rfl) ?_
          refine SimE.thenN ?_
          refine Sim.seq ?_
          refine Sim.seq ?_
          refine Sim.region0 ?_
          refine SimI.run 2 [(130, .one (lb (r28.2.2 != 0))), (129, .one (li .i64 r28.2.2))] [] (by kernel_rfl) ?_
          refine SimI.done (by kernel_rfl) ?_
          refine SimE.thenN ?_
          refine Sim.cond (r28.2.2 != 0) (by kernel_rfl) ?_ ?_
          · refine Sim.seq ?_
            refine Sim.region0 ?_
            refine SimI.run 5 [(4, .one (li .i64 r28.2.2)), (3, .one (li .i64 0)), (132, .one (li .i64 r28.2.2)), (131, .agg [li .i64 0, li .u8 0, li .i64 0, li .i64 0, li .i64 0, ls ByteArray.empty, li .i64 0, ls ByteArray.empty, li .i64 0, ls ByteArray.empty, li .i64 0, ls ByteArray.empty])] [(2, some (.cells [li .i64 0, li .u8 0, li .i64 0, li .i64 0, li .i64 0, ls ByteArray.empty, li .i64 0, ls ByteArray.empty, li .i64 0, ls ByteArray.empty, li .i64 0, ls ByteArray.empty]))] (by kernel_rfl) ?_
            refine SimI.done (by kernel_rfl) ?_
            refine SimE.thenN ?_
            refine Sim.ret ?_
            refine SimE.thenR ?_
            refine SimE.blockR ?_
            refine SimE.thenR ?_
            refine SimE.loopR ?_
            refine SimE.blockR ?_
            refine SimE.thenR ?_
            exact SimE.fin (by kernel_rfl)
          · refine Sim.skip ?_
            refine SimE.thenN ?_
            refine Sim.region0 ?_
            refine SimI.run 10 [(8, .one (li .i64 (IntKind.wrap .i64 (IntKind.wrap .i64 (i23 + r27.2.1) + r28.2.1)))), (140, .one (.ptr 6 10)), (139, .one (.ptr 6 10)), (138, .one (.ptr 6 4)), (137, .one (li .i64 (IntKind.wrap .i64 (IntKind.wrap .i64 (i23 + r27.2.1) + r28.2.1)))), (136, .one (li .i64 r28.2.1)), (135, .one (li .i64 (IntKind.wrap .i64 (i23 + r27.2.1)))), (134, .one (li .i64 r28.1)), (133, .one (li .i64 3))] [(6, some (.cells [li .i64 r1.1, li .u8 (IntKind.wrap .u8 r2.1), li .i64 i6, li .i64 i7, li .i64 i12, ls s13, li .i64 i18, ls s19, li .i64 i24, ls s25, li .i64 r28.1, ls r27.1]))] (by kernel_rfl) ?_
            refine SimI.done (by kernel_rfl) ?_
            refine SimE.blockN ?_
            refine SimE.thenN ?_
            refine Sim.region0 ?_
            refine SimI.run 3 [(11, .one (li .i64 4)), (90, .one (li .i64 4)), (89, .one (li .i64 3))] [] (by kernel_rfl) ?_
            refine SimI.done (by kernel_rfl) ?_
            refine SimE.loopN ?_
            refine SimL.pre (ts := [0, 2, 5, 6, 8, 11]) (os := [2, 5, 6]) [(0, .one (ls a0)), (2, .one (.ptr 2 0)), (5, .one (.ptr 5 0)), (6, .one (.ptr 6 0)), (8, .one (li .i64 (IntKind.wrap .i64 (IntKind.wrap .i64 (i23 + r27.2.1) + r28.2.1)))), (11, .one (li .i64 4))] ((2, some (.cells [li .i64 0, li .u8 0, li .i64 0, li .i64 0, li .i64 0, ls ByteArray.empty, li .i64 0, ls ByteArray.empty, li .i64 0, ls ByteArray.empty, li .i64 0, ls ByteArray.empty])) :: ((5, some (.cells [li .i64 0, li .u8 0, li .i64 0, li .i64 0, li .i64 0, ls ByteArray.empty, li .i64 0, ls ByteArray.empty, li .i64 0, ls ByteArray.empty, li .i64 0, ls ByteArray.empty])) :: ((6, some (.cells [li .i64 r1.1, li .u8 (IntKind.wrap .u8 r2.1), li .i64 i6, li .i64 i7, li .i64 i12, ls s13, li .i64 i18, ls s19, li .i64 i24, ls s25, li .i64 r28.1, ls r27.1])) :: []))) (by kernel_rfl) (by kernel_rfl) (by kernel_rfl) ?_
            exact F30_u32_ok n a0 r1 r2 i6 i7 i12 s13 i18 s19 i24 s25 (IntKind.wrap .i64 (IntKind.wrap .i64 (i23 + r27.2.1) + r28.2.1)) r28.1 r27.1
        · refine Sim.skip ?_
          refine SimE.blockN ?_
          refine SimE.thenN ?_
          refine Sim.region0 ?_
          refine SimI.run 3 [(11, .one (li .i64 4)), (90, .one (li .i64 4)), (89, .one (li .i64 3))] [] (by kernel_rfl) ?_
          refine SimI.done (by kernel_rfl) ?_
          refine SimE.loopN ?_
          refine SimL.pre (ts := [0, 2, 5, 6, 8, 11]) (os := [2, 5, 6]) [(0, .one (ls a0)), (2, .one (.ptr 2 0)), (5, .one (.ptr 5 0)), (6, .one (.ptr 6 0)), (8, .one (li .i64 (IntKind.wrap .i64 (i23 + r27.2.1)))), (11, .one (li .i64 4))] ((2, some (.cells [li .i64 0, li .u8 0, li .i64 0, li .i64 0, li .i64 0, ls ByteArray.empty, li .i64 0, ls ByteArray.empty, li .i64 0, ls ByteArray.empty, li .i64 0, ls ByteArray.empty])) :: ((5, some (.cells [li .i64 0, li .u8 0, li .i64 0, li .i64 0, li .i64 0, ls ByteArray.empty, li .i64 0, ls ByteArray.empty, li .i64 0, ls ByteArray.empty, li .i64 0, ls ByteArray.empty])) :: ((6, some (.cells [li .i64 r1.1, li .u8 (IntKind.wrap .u8 r2.1), li .i64 i6, li .i64 i7, li .i64 i12, ls s13, li .i64 i18, ls s19, li .i64 i24, ls s25, li .i64 0, ls r27.1])) :: []))) (by kernel_rfl) (by kernel_rfl) (by kernel_rfl) ?_
          exact F30_u32_ok n a0 r1 r2 i6 i7 i12 s13 i18 s19 i24 s25 (IntKind.wrap .i64 (i23 + r27.2.1)) 0 r27.1

def F30_u20 (n : Nat) (a0 : ByteArray) (r1 : (Int × Int × Int)) (r2 : (Int × Int × Int)) (i6 : Int) (i7 : Int) (i12 : Int) (s13 : ByteArray) (i17 : Int) (i18 : Int) (s19 : ByteArray) : Option (Delta × Int × Int) :=
    if (bitsI .and .u8 (shrI .u8 (IntKind.wrap .u8 r2.1) 3) 1) == 0 then
      F30_u26 n a0 r1 r2 i6 i7 i12 s13 i18 s19 i17 0 ByteArray.empty
    else
      if 0 ≤ (i17 : Int) ∧ (i17 : Int) ≤ (a0.size : Int) then
        (F54 n (a0.extract i17.toNat a0.size) 12).bind fun (r21 : (ByteArray × Int × Int)) =>
        if r21.2.2 != 0 then
          some ((Delta.mk 0 0 (Point.mk 0 0) (A4.mk (Field.mk 0 ByteArray.empty) (Field.mk 0 ByteArray.empty) (Field.mk 0 ByteArray.empty) (Field.mk 0 ByteArray.empty))), 0, r21.2.2)
        else
          if r21.1.toList == ByteArray.empty.toList then
            if 0 ≤ (IntKind.wrap .i64 (i17 + r21.2.1) : Int) ∧ (IntKind.wrap .i64 (i17 + r21.2.1) : Int) ≤ (a0.size : Int) then
              (F55 n (a0.extract (IntKind.wrap .i64 (i17 + r21.2.1)).toNat a0.size)).bind fun (r22 : (Int × Int × Int)) =>
              if r22.2.2 != 0 then
                some ((Delta.mk 0 0 (Point.mk 0 0) (A4.mk (Field.mk 0 ByteArray.empty) (Field.mk 0 ByteArray.empty) (Field.mk 0 ByteArray.empty) (Field.mk 0 ByteArray.empty))), 0, r22.2.2)
              else
                F30_u26 n a0 r1 r2 i6 i7 i12 s13 i18 s19 (IntKind.wrap .i64 (IntKind.wrap .i64 (i17 + r21.2.1) + r22.2.1)) r22.1 r21.1
            else none
          else
            F30_u26 n a0 r1 r2 i6 i7 i12 s13 i18 s19 (IntKind.wrap .i64 (i17 + r21.2.1)) 0 r21.1
      else none
theorem F30_u20_ok (n : Nat) (a0 : ByteArray) (r1 : (Int × Int × Int)) (r2 : (Int × Int × Int)) (i6 : Int) (i7 : Int) (i12 : Int) (s13 : ByteArray) (i17 : Int) (i18 : Int) (s19 : ByteArray) : SimL Try.prog D (n + 8) (n + 6) pc30_c93 [(0, .one (ls a0)), (2, .one (.ptr 2 0)), (5, .one (.ptr 5 0)), (6, .one (.ptr 6 0)), (8, .one (li .i64 i17)), (11, .one (li .i64 2))] ((2, some (.cells [li .i64 0, li .u8 0, li .i64 0, li .i64 0, li .i64 0, ls ByteArray.empty, li .i64 0, ls ByteArray.empty, li .i64 0, ls ByteArray.empty, li .i64 0, ls ByteArray.empty])) :: ((5, some (.cells [li .i64 0, li .u8 0, li .i64 0, li .i64 0, li .i64 0, ls ByteArray.empty, li .i64 0, ls ByteArray.empty, li .i64 0, ls ByteArray.empty, li .i64 0, ls ByteArray.empty])) :: ((6, some (.cells [li .i64 r1.1, li .u8 (IntKind.wrap .u8 r2.1), li .i64 i6, li .i64 i7, li .i64 i12, ls s13, li .i64 i18, ls s19, li .i64 0, ls ByteArray.empty, li .i64 0, ls ByteArray.empty])) :: []))) (F30_u20 n a0 r1 r2 i6 i7 i12 s13 i17 i18 s19) (QB 0 (QT Try.prog D (n + 8) pc30_c107 (QF pc30_r 0 F30_e))) := by
    unfold F30_u20
    refine SimL.succ ?_
    refine Sim.seq ?_
    refine Sim.seq ?_
    refine Sim.region [(0, .one (ls a0)), (2, .one (.ptr 2 0)), (5, .one (.ptr 5 0)), (6, .one (.ptr 6 0)), (8, .one (li .i64 i17)), (11, .one (li .i64 2))] ((2, some (.cells [li .i64 0, li .u8 0, li .i64 0, li .i64 0, li .i64 0, ls ByteArray.empty, li .i64 0, ls ByteArray.empty, li .i64 0, ls ByteArray.empty, li .i64 0, ls ByteArray.empty])) :: ((5, some (.cells [li .i64 0, li .u8 0, li .i64 0, li .i64 0, li .i64 0, ls ByteArray.empty, li .i64 0, ls ByteArray.empty, li .i64 0, ls ByteArray.empty, li .i64 0, ls ByteArray.empty])) :: ((6, some (.cells [li .i64 r1.1, li .u8 (IntKind.wrap .u8 r2.1), li .i64 i6, li .i64 i7, li .i64 i12, ls s13, li .i64 i18, ls s19, li .i64 0, ls ByteArray.empty, li .i64 0, ls ByteArray.empty])) :: []))) (by kernel_rfl) ?_
    refine SimI.run 2 [(88, .one (lb true)), (87, .one (li .i64 2))] [] (by kernel_rfl) ?_
    refine SimI.done (by kernel_rfl) ?_
    refine SimE.thenN ?_
    refine Sim.condT (by kernel_rfl) ?_
    refine Sim.skip ?_
    refine SimE.thenN ?_
    refine Sim.seq ?_
    refine Sim.block ?_
    refine Sim.seq ?_
    refine Sim.seq ?_
    refine Sim.region0 ?_
    refine SimI.run 8 [(98, .one (lb ((bitsI .and .u8 (shrI .u8 (IntKind.wrap .u8 r2.1) 3) 1) == 0))), (97, .one (li .u8 (bitsI .and .u8 (shrI .u8 (IntKind.wrap .u8 r2.1) 3) 1))), (96, .one (li .u8 (shrI .u8 (IntKind.wrap .u8 r2.1) 3))), (95, .one (li .u64 3)), (94, .one (li .i64 3)), (93, .one (li .i64 2)), (92, .one (li .u8 (IntKind.wrap .u8 r2.1))), (91, .one (.ptr 6 1))] [] (by kernel_rfl) ?_
    refine SimI.done (by kernel_rfl) ?_
    refine SimE.thenN ?_
    refine Sim.cond ((bitsI .and .u8 (shrI .u8 (IntKind.wrap .u8 r2.1) 3) 1) == 0) (by kernel_rfl) ?_ ?_
    · refine Sim.exit ?_
      refine SimE.thenX ?_
      refine SimE.blockX ?_
      refine SimE.thenN ?_
      refine Sim.region0 ?_
      refine SimI.run 3 [(11, .one (li .i64 3)), (90, .one (li .i64 3)), (89, .one (li .i64 2))] [] (by kernel_rfl) ?_
      refine SimI.done (by kernel_rfl) ?_
      refine SimE.loopN ?_
      refine SimL.pre (ts := [0, 2, 5, 6, 8, 11]) (os := [2, 5, 6]) [(0, .one (ls a0)), (2, .one (.ptr 2 0)), (5, .one (.ptr 5 0)), (6, .one (.ptr 6 0)), (8, .one (li .i64 i17)), (11, .one (li .i64 3))] ((2, some (.cells [li .i64 0, li .u8 0, li .i64 0, li .i64 0, li .i64 0, ls ByteArray.empty, li .i64 0, ls ByteArray.empty, li .i64 0, ls ByteArray.empty, li .i64 0, ls ByteArray.empty])) :: ((5, some (.cells [li .i64 0, li .u8 0, li .i64 0, li .i64 0, li .i64 0, ls ByteArray.empty, li .i64 0, ls ByteArray.empty, li .i64 0, ls ByteArray.empty, li .i64 0, ls ByteArray.empty])) :: ((6, some (.cells [li .i64 r1.1, li .u8 (IntKind.wrap .u8 r2.1), li .i64 i6, li .i64 i7, li .i64 i12, ls s13, li .i64 i18, ls s19, li .i64 0, ls ByteArray.empty, li .i64 0, ls ByteArray.empty])) :: []))) (by kernel_rfl) (by kernel_rfl) (by kernel_rfl) ?_
      exact F30_u26_ok n a0 r1 r2 i6 i7 i12 s13 i18 s19 i17 0 ByteArray.empty
    · refine Sim.skip ?_
      refine SimE.thenN ?_
      refine Sim.seq ?_
      refine Sim.region0 ?_
      refine SimI.run 2 [(101, .one (li .i64 i17)), (100, .one (ls a0))] [] (by kernel_rfl) ?_
      refine SimI.guard (c := 0 ≤ (i17 : Int) ∧ (i17 : Int) ≤ (a0.size : Int)) { dst := some 102, op := POp.prim (Prim.slice 9 true false) [Operand.tmp 100, Operand.tmp 101], guard := none, hints := [] } [(102, .one (ls (a0.extract i17.toNat a0.size)))] [] (by kernel_rfl) (fun hc => pOp_eff (by kernel_rfl) (by kernel_rfl) (eff_prim (by kernel_rfl) (pr_cutL (s := a0) (k := .i64) (a := i17) Try.underlying9 hc))) ?_
      refine SimI.bind (og := F54 n (a0.extract i17.toNat a0.size) 12) { dst := some 103, op := POp.call true [[], []] 54 [Operand.tmp 102, Operand.const (Value.int IntKind.i64 12)], guard := none, hints := [] } (fun r21 => [(103, .tup [.one (ls r21.1), .one (li .i64 r21.2.1), .one (li .i64 r21.2.2)])]) (fun r21 => []) (by kernel_rfl) (fun r21 hr => pOp_eff (by kernel_rfl) (by kernel_rfl) (eff_call (ARGS := [.one (ls (a0.extract i17.toNat a0.size)), .one (li .i64 12)]) (by kernel_rfl) (args_clean (by kernel_rfl) (args_clean (by kernel_rfl) args_nil)) (F54_ok n (a0.extract i17.toNat a0.size) 12 r21 hr) (by kernel_rfl))) (fun r21 => ?_)
      refine SimI.run 7 [(14, .one (li .i64 r21.2.2)), (13, .one (li .i64 r21.2.1)), (12, .one (ls r21.1)), (106, .one (li .i64 r21.2.2)), (105, .one (li .i64 r21.2.1)), (104, .one (ls r21.1)), (99, .tup [.one (ls r21.1), .one (li .i64 r21.2.1), .one (li .i64 r21.2.2)])] [] (by kernel_rfl) ?_
      refine SimI.done (by kernel_rfl) ?_
      refine SimE.thenN ?_
      refine Sim.seq ?_
      refine Sim.seq ?_
      refine Sim.region0 ?_
      refine SimI.run 2 [(108, .one (lb (r21.2.2 != 0))), (107, .one (li .i64 r21.2.2))] [] (by kernel_rfl) ?_
      refine SimI.done (by kernel_rfl) ?_
      refine SimE.thenN ?_
      refine Sim.cond (r21.2.2 != 0) (by kernel_rfl) ?_ ?_
      · refine Sim.seq ?_
        refine Sim.region0 ?_
        refine SimI.run 5 [(4, .one (li .i64 r21.2.2)), (3, .one (li .i64 0)), (110, .one (li .i64 r21.2.2)), (109, .agg [li .i64 0, li .u8 0, li .i64 0, li .i64 0, li .i64 0, ls ByteArray.empty, li .i64 0, ls ByteArray.empty, li .i64 0, ls ByteArray.empty, li .i64 0, ls ByteArray.empty])] [(2, some (.cells [li .i64 0, li .u8 0, li .i64 0, li .i64 0, li .i64 0, ls ByteArray.empty, li .i64 0, ls ByteArray.empty, li .i64 0, ls ByteArray.empty, li .i64 0, ls ByteArray.empty]))] (by kernel_rfl) ?_
        refine SimI.done (by kernel_rfl) ?_
        refine SimE.thenN ?_
        refine Sim.ret ?_
        refine SimE.thenR ?_
        refine SimE.blockR ?_
        refine SimE.thenR ?_
        refine SimE.loopR ?_
        refine SimE.blockR ?_
        refine SimE.thenR ?_
        exact SimE.fin (by kernel_rfl)
      · refine Sim.skip ?_
        refine SimE.thenN ?_
        refine Sim.seq ?_
        refine Sim.region0 ?_
        refine SimI.run 10 [(8, .one (li .i64 (IntKind.wrap .i64 (i17 + r21.2.1)))), (118, .one (.ptr 6 9)), (117, .one (.ptr 6 8)), (116, .one (.ptr 6 4)), (115, .one (li .i64 (IntKind.wrap .i64 (i17 + r21.2.1)))), (114, .one (li .i64 r21.2.1)), (113, .one (li .i64 i17)), (112, .one (ls r21.1)), (111, .one (li .i64 2))] [(6, some (.cells [li .i64 r1.1, li .u8 (IntKind.wrap .u8 r2.1), li .i64 i6, li .i64 i7, li .i64 i12, ls s13, li .i64 i18, ls s19, li .i64 0, ls r21.1, li .i64 0, ls ByteArray.empty]))] (by kernel_rfl) ?_
        refine SimI.done (by kernel_rfl) ?_
        refine SimE.thenN ?_
        refine Sim.seq ?_
        refine Sim.region0 ?_
        refine SimI.run 2 [(120, .one (lb (r21.1.toList == ByteArray.empty.toList))), (119, .one (ls r21.1))] [] (by kernel_rfl) ?_
        refine SimI.done (by kernel_rfl) ?_
        refine SimE.thenN ?_
        refine Sim.cond (r21.1.toList == ByteArray.empty.toList) (by kernel_rfl) ?_ ?_
        · refine Sim.seq ?_
          refine Sim.region0 ?_
          refine SimI.run 2 [(123, .one (li .i64 (IntKind.wrap .i64 (i17 + r21.2.1)))), (122, .one (ls a0))] [] (by kernel_rfl) ?_
          refine SimI.guard (c := 0 ≤ (IntKind.wrap .i64 (i17 + r21.2.1) : Int) ∧ (IntKind.wrap .i64 (i17 + r21.2.1) : Int) ≤ (a0.size : Int)) { dst := some 124, op := POp.prim (Prim.slice 9 true false) [Operand.tmp 122, Operand.tmp 123], guard := none, hints := [] } [(124, .one (ls (a0.extract (IntKind.wrap .i64 (i17 + r21.2.1)).toNat a0.size)))] [] (by kernel_rfl) (fun hc => pOp_eff (by kernel_rfl) (by kernel_rfl) (eff_prim (by kernel_rfl) (pr_cutL (s := a0) (k := .i64) (a := IntKind.wrap .i64 (i17 + r21.2.1)) Try.underlying9 hc))) ?_
          refine SimI.bind (og := F55 n (a0.extract (IntKind.wrap .i64 (i17 + r21.2.1)).toNat a0.size)) { dst := some 125, op := POp.call true [[]] 55 [Operand.tmp 124], guard := none, hints := [] } (fun r22 => [(125, .tup [.one (li .i64 r22.1), .one (li .i64 r22.2.1), .one (li .i64 r22.2.2)])]) (fun r22 => []) (by kernel_rfl) (fun r22 hr => pOp_eff (by kernel_rfl) (by kernel_rfl) (eff_call (ARGS := [.one (ls (a0.extract (IntKind.wrap .i64 (i17 + r21.2.1)).toNat a0.size))]) (by kernel_rfl) (args_clean (by kernel_rfl) args_nil) (F55_ok n (a0.extract (IntKind.wrap .i64 (i17 + r21.2.1)).toNat a0.size) r22 hr) (by kernel_rfl))) (fun r22 => ?_)
          refine SimI.run 7 [(17, .one (li .i64 r22.2.2)), (16, .one (li .i64 r22.2.1)), (15, .one (li .i64 r22.1)), (128, .one (li .i64 r22.2.2)), (127, .one (li .i64 r22.2.1)), (126, .one (li .i64 r22.1)), (121, .tup [.one (li .i64 r22.1), .one (li .i64 r22.2.1), .one (li .i64 r22.2.2)])] [] (by kernel_rfl) ?_
          refine SimI.done (by kernel_rfl) ?_
          refine SimE.thenN ?_
          refine Sim.seq ?_
          refine Sim.seq ?_
          refine Sim.region0 ?_
          refine SimI.run 2 [(130, .one (lb (r22.2.2 != 0))), (129, .one (li .i64 r22.2.2))] [] (by kernel_rfl) ?_
          refine SimI.done (by kernel_rfl) ?_
          refine SimE.thenN ?_
          refine Sim.cond (r22.2.2 != 0) (by kernel_rfl) ?_ ?_
          · refine Sim.seq ?_
            refine Sim.region0 ?_
            refine SimI.run 5 [(4, .one (li .i64 r22.2.2)), (3, .one (li .i64 0)), (132, .one (li .i64 r22.2.2)), (131, .agg [li .i64 0, li .u8 0, li .i64 0, li .i64 0, li .i64 0, ls ByteArray.empty, li .i64 0, ls ByteArray.empty, li .i64 0, ls ByteArray.empty, li .i64 0, ls ByteArray.empty])] [(2, some (.cells [li .i64 0, li .u8 0, li .i64 0, li .i64 0, li .i64 0, ls ByteArray.empty, li .i64 0, ls ByteArray.empty, li .i64 0, ls ByteArray.empty, li .i64 0, ls ByteArray.empty]))] (by kernel_rfl) ?_
            refine SimI.done (by kernel_rfl) ?_
            refine SimE.thenN ?_
            refine Sim.ret ?_
            refine SimE.thenR ?_
            refine SimE.blockR ?_
            refine SimE.thenR ?_
            refine SimE.loopR ?_
            refine SimE.blockR ?_
            refine SimE.thenR ?_
            exact SimE.fin (by kernel_rfl)
          · refine Sim.skip ?_
            refine SimE.thenN ?_
            refine Sim.region0 ?_
            refine SimI.run 10 [(8, .one (li .i64 (IntKind.wrap .i64 (IntKind.wrap .i64 (i17 + r21.2.1) + r22.2.1)))), (140, .one (.ptr 6 8)), (139, .one (.ptr 6 8)), (138, .one (.ptr 6 4)), (137, .one (li .i64 (IntKind.wrap .i64 (IntKind.wrap .i64 (i17 + r21.2.1) + r22.2.1)))), (136, .one (li .i64 r22.2.1)), (135, .one (li .i64 (IntKind.wrap .i64 (i17 + r21.2.1)))), (134, .one (li .i64 r22.1)), (133, .one (li .i64 2))] [(6, some (.cells [li .i64 r1.1, li .u8 (IntKind.wrap .u8 r2.1), li .i64 i6, li .i64 i7, li .i64 i12, ls s13, li .i64 i18, ls s19, li .i64 r22.1, ls r21.1, li .i64 0, ls ByteArray.empty]))] (by kernel_rfl) ?_
            refine SimI.done (by kernel_rfl) ?_
            refine SimE.blockN ?_
            refine SimE.thenN ?_
            refine Sim.region0 ?_
            refine SimI.run 3 [(11, .one (li .i64 3)), (90, .one (li .i64 3)), (89, .one (li .i64 2))] [] (by kernel_rfl) ?_
            refine SimI.done (by kernel_rfl) ?_
            refine SimE.loopN ?_
            refine SimL.pre (ts := [0, 2, 5, 6, 8, 11]) (os := [2, 5, 6]) [(0, .one (ls a0)), (2, .one (.ptr 2 0)), (5, .one (.ptr 5 0)), (6, .one (.ptr 6 0)), (8, .one (li .i64 (IntKind.wrap .i64 (IntKind.wrap .i64 (i17 + r21.2.1) + r22.2.1)))), (11, .one (li .i64 3))] ((2, some (.cells [li .i64 0, li .u8 0, li .i64 0, li .i64 0, li .i64 0, ls ByteArray.empty, li .i64 0, ls ByteArray.empty, li .i64 0, ls ByteArray.empty, li .i64 0, ls ByteArray.empty])) :: ((5, some (.cells [li .i64 0, li .u8 0, li .i64 0, li .i64 0, li .i64 0, ls ByteArray.empty, li .i64 0, ls ByteArray.empty, li .i64 0, ls ByteArray.empty, li .i64 0, ls ByteArray.empty])) :: ((6, some (.cells [li .i64 r1.1, li .u8 (IntKind.wrap .u8 r2.1), li .i64 i6, li .i64 i7, li .i64 i12, ls s13, li .i64 i18, ls s19, li .i64 r22.1, ls r21.1, li .i64 0, ls ByteArray.empty])) :: []))) (by kernel_rfl) (by kernel_rfl) (by kernel_rfl) ?_
            exact F30_u26_ok n a0 r1 r2 i6 i7 i12 s13 i18 s19 (IntKind.wrap .i64 (IntKind.wrap .i64 (i17 + r21.2.1) + r22.2.1)) r22.1 r21.1
        · refine Sim.skip ?_
          refine SimE.blockN ?_
          refine SimE.thenN ?_
          refine Sim.region0 ?_
          refine SimI.run 3 [(11, .one (li .i64 3)), (90, .one (li .i64 3)), (89, .one (li .i64 2))] [] (by kernel_rfl) ?_
          refine SimI.done (by kernel_rfl) ?_
          refine SimE.loopN ?_
          refine SimL.pre (ts := [0, 2, 5, 6, 8, 11]) (os := [2, 5, 6]) [(0, .one (ls a0)), (2, .one (.ptr 2 0)), (5, .one (.ptr 5 0)), (6, .one (.ptr 6 0)), (8, .one (li .i64 (IntKind.wrap .i64 (i17 + r21.2.1)))), (11, .one (li .i64 3))] ((2, some (.cells [li .i64 0, li .u8 0, li .i64 0, li .i64 0, li .i64 0, ls ByteArray.empty, li .i64 0, ls ByteArray.empty, li .i64 0, ls ByteArray.empty, li .i64 0, ls ByteArray.empty])) :: ((5, some (.cells [li .i64 0, li .u8 0, li .i64 0, li .i64 0, li .i64 0, ls ByteArray.empty, li .i64 0, ls ByteArray.empty, li .i64 0, ls ByteArray.empty, li .i64 0, ls ByteArray.empty])) :: ((6, some (.cells [li .i64 r1.1, li .u8 (IntKind.wrap .u8 r2.1), li .i64 i6, li .i64 i7, li .i64 i12, ls s13, li .i64 i18, ls s19, li .i64 0, ls r21.1, li .i64 0, ls ByteArray.empty])) :: []))) (by kernel_rfl) (by kernel_rfl) (by kernel_rfl) ?_
          exact F30_u26_ok n a0 r1 r2 i6 i7 i12 s13 i18 s19 (IntKind.wrap .i64 (i17 + r21.2.1)) 0 r21.1

def F30_u14 (n : Nat) (a0 : ByteArray) (r1 : (Int × Int × Int)) (r2 : (Int × Int × Int)) (i6 : Int) (i7 : Int) (i11 : Int) (i12 : Int) (s13 : ByteArray) : Option (Delta × Int × Int) :=
    if (bitsI .and .u8 (shrI .u8 (IntKind.wrap .u8 r2.1) 2) 1) == 0 then
      F30_u20 n a0 r1 r2 i6 i7 i12 s13 i11 0 ByteArray.empty
    else
      if 0 ≤ (i11 : Int) ∧ (i11 : Int) ≤ (a0.size : Int) then
        (F54 n (a0.extract i11.toNat a0.size) 12).bind fun (r15 : (ByteArray × Int × Int)) =>
        if r15.2.2 != 0 then
          some ((Delta.mk 0 0 (Point.mk 0 0) (A4.mk (Field.mk 0 ByteArray.empty) (Field.mk 0 ByteArray.empty) (Field.mk 0 ByteArray.empty) (Field.mk 0 ByteArray.empty))), 0, r15.2.2)
        else
          if r15.1.toList == ByteArray.empty.toList then
            if 0 ≤ (IntKind.wrap .i64 (i11 + r15.2.1) : Int) ∧ (IntKind.wrap .i64 (i11 + r15.2.1) : Int) ≤ (a0.size : Int) then
              (F55 n (a0.extract (IntKind.wrap .i64 (i11 + r15.2.1)).toNat a0.size)).bind fun (r16 : (Int × Int × Int)) =>
              if r16.2.2 != 0 then
                some ((Delta.mk 0 0 (Point.mk 0 0) (A4.mk (Field.mk 0 ByteArray.empty) (Field.mk 0 ByteArray.empty) (Field.mk 0 ByteArray.empty) (Field.mk 0 ByteArray.empty))), 0, r16.2.2)
              else
                F30_u20 n a0 r1 r2 i6 i7 i12 s13 (IntKind.wrap .i64 (IntKind.wrap .i64 (i11 + r15.2.1) + r16.2.1)) r16.1 r15.1
            else none
          else
            F30_u20 n a0 r1 r2 i6 i7 i12 s13 (IntKind.wrap .i64 (i11 + r15.2.1)) 0 r15.1
      else none
theorem F30_u14_ok (n : Nat) (a0 : ByteArray) (r1 : (Int × Int × Int)) (r2 : (Int × Int × Int)) (i6 : Int) (i7 : Int) (i11 : Int) (i12 : Int) (s13 : ByteArray) : SimL Try.prog D (n + 8) (n + 7) pc30_c93 [(0, .one (ls a0)), (2, .one (.ptr 2 0)), (5, .one (.ptr 5 0)), (6, .one (.ptr 6 0)), (8, .one (li .i64 i11)), (11, .one (li .i64 1))] ((2, some (.cells [li .i64 0, li .u8 0, li .i64 0, li .i64 0, li .i64 0, ls ByteArray.empty, li .i64 0, ls ByteArray.empty, li .i64 0, ls ByteArray.empty, li .i64 0, ls ByteArray.empty])) :: ((5, some (.cells [li .i64 0, li .u8 0, li .i64 0, li .i64 0, li .i64 0, ls ByteArray.empty, li .i64 0, ls ByteArray.empty, li .i64 0, ls ByteArray.empty, li .i64 0, ls ByteArray.empty])) :: ((6, some (.cells [li .i64 r1.1, li .u8 (IntKind.wrap .u8 r2.1), li .i64 i6, li .i64 i7, li .i64 i12, ls s13, li .i64 0, ls ByteArray.empty, li .i64 0, ls ByteArray.empty, li .i64 0, ls ByteArray.empty])) :: []))) (F30_u14 n a0 r1 r2 i6 i7 i11 i12 s13) (QB 0 (QT Try.prog D (n + 8) pc30_c107 (QF pc30_r 0 F30_e))) := by
    unfold F30_u14
    refine SimL.succ ?_
    refine Sim.seq ?_
    refine Sim.seq ?_
    refine Sim.region [(0, .one (ls a0)), (2, .one (.ptr 2 0)), (5, .one (.ptr 5 0)), (6, .one (.ptr 6 0)), (8, .one (li .i64 i11)), (11, .one (li .i64 1))] ((2, some (.cells [li .i64 0, li .u8 0, li .i64 0, li .i64 0, li .i64 0, ls ByteArray.empty, li .i64 0, ls ByteArray.empty, li .i64 0, ls ByteArray.empty, li .i64 0, ls ByteArray.empty])) :: ((5, some (.cells [li .i64 0, li .u8 0, li .i64 0, li .i64 0, li .i64 0, ls ByteArray.empty, li .i64 0, ls ByteArray.empty, li .i64 0, ls ByteArray.empty, li .i64 0, ls ByteArray.empty])) :: ((6, some (.cells [li .i64 r1.1, li .u8 (IntKind.wrap .u8 r2.1), li .i64 i6, li .i64 i7, li .i64 i12, ls s13, li .i64 0, ls ByteArray.empty, li .i64 0, ls ByteArray.empty, li .i64 0, ls ByteArray.empty])) :: []))) (by kernel_rfl) ?_
    refine SimI.run 2 [(88, .one (lb true)), (87, .one (li .i64 1))] [] (by kernel_rfl) ?_
    refine SimI.done (by kernel_rfl) ?_
    refine SimE.thenN ?_
    refine Sim.condT (by kernel_rfl) ?_
    refine Sim.skip ?_
    refine SimE.thenN ?_
    refine Sim.seq ?_
    refine Sim.block ?_
    refine Sim.seq ?_
    refine Sim.seq ?_
    refine Sim.region0 ?_
    refine SimI.run 8 [(98, .one (lb ((bitsI .and .u8 (shrI .u8 (IntKind.wrap .u8 r2.1) 2) 1) == 0))), (97, .one (li .u8 (bitsI .and .u8 (shrI .u8 (IntKind.wrap .u8 r2.1) 2) 1))), (96, .one (li .u8 (shrI .u8 (IntKind.wrap .u8 r2.1) 2))), (95, .one (li .u64 2)), (94, .one (li .i64 2)), (93, .one (li .i64 1)), (92, .one (li .u8 (IntKind.wrap .u8 r2.1))), (91, .one (.ptr 6 1))] [] (by kernel_rfl) ?_
    refine SimI.done (by kernel_rfl) ?_
    refine SimE.thenN ?_
    refine Sim.cond ((bitsI .and .u8 (shrI .u8 (IntKind.wrap .u8 r2.1) 2) 1) == 0) (by kernel_rfl) ?_ ?_
    · refine Sim.exit ?_
      refine SimE.thenX ?_
      refine SimE.blockX ?_
      refine SimE.thenN ?_
      refine Sim.region0 ?_
      refine SimI.run 3 [(11, .one (li .i64 2)), (90, .one (li .i64 2)), (89, .one (li .i64 1))] [] (by kernel_rfl) ?_
      refine SimI.done (by kernel_rfl) ?_
      refine SimE.loopN ?_
      refine SimL.pre (ts := [0, 2, 5, 6, 8, 11]) (os := [2, 5, 6]) [(0, .one (ls a0)), (2, .one (.ptr 2 0)), (5, .one (.ptr 5 0)), (6, .one (.ptr 6 0)), (8, .one (li .i64 i11)), (11, .one (li .i64 2))] ((2, some (.cells [li .i64 0, li .u8 0, li .i64 0, li .i64 0, li .i64 0, ls ByteArray.empty, li .i64 0, ls ByteArray.empty, li .i64 0, ls ByteArray.empty, li .i64 0, ls ByteArray.empty])) :: ((5, some (.cells [li .i64 0, li .u8 0, li .i64 0, li .i64 0, li .i64 0, ls ByteArray.empty, li .i64 0, ls ByteArray.empty, li .i64 0, ls ByteArray.empty, li .i64 0, ls ByteArray.empty])) :: ((6, some (.cells [li .i64 r1.1, li .u8 (IntKind.wrap .u8 r2.1), li .i64 i6, li .i64 i7, li .i64 i12, ls s13, li .i64 0, ls ByteArray.empty, li .i64 0, ls ByteArray.empty, li .i64 0, ls ByteArray.empty])) :: []))) (by kernel_rfl) (by kernel_rfl) (by kernel_rfl) ?_
      exact F30_u20_ok n a0 r1 r2 i6 i7 i12 s13 i11 0 ByteArray.empty
    · refine Sim.skip ?_
      refine SimE.thenN ?_
      refine Sim.seq ?_
      refine Sim.region0 ?_
      refine SimI.run 2 [(101, .one (li .i64 i11)), (100, .one (ls a0))] [] (by kernel_rfl) ?_
      refine SimI.guard (c := 0 ≤ (i11 : Int) ∧ (i11 : Int) ≤ (a0.size : Int)) { dst := some 102, op := POp.prim (Prim.slice 9 true false) [Operand.tmp 100, Operand.tmp 101], guard := none, hints := [] } [(102, .one (ls (a0.extract i11.toNat a0.size)))] [] (by kernel_rfl) (fun hc => pOp_eff (by kernel_rfl) (by kernel_rfl) (eff_prim (by kernel_rfl) (pr_cutL (s := a0) (k := .i64) (a := i11) Try.underlying9 hc))) ?_
      refine SimI.bind (og := F54 n (a0.extract i11.toNat a0.size) 12) { dst := some 103, op := POp.call true [[], []] 54 [Operand.tmp 102, Operand.const (Value.int IntKind.i64 12)], guard := none, hints := [] } (fun r15 => [(103, .tup [.one (ls r15.1), .one (li .i64 r15.2.1), .one (li .i64 r15.2.2)])]) (fun r15 => []) (by kernel_rfl) (fun r15 hr => pOp_eff (by kernel_rfl) (by kernel_rfl) (eff_call (ARGS := [.one (ls (a0.extract i11.toNat a0.size)), .one (li .i64 12)]) (by kernel_rfl) (args_clean (by kernel_rfl) (args_clean (by kernel_rfl) args_nil)) (F54_ok n (a0.extract i11.toNat a0.size) 12 r15 hr) (by kernel_rfl))) (fun r15 => ?_)
      refine SimI.run 7 [(14, .one (li .i64 r15.2.2)), (13, .one (li .i64 r15.2.1)), (12, .one (ls r15.1)), (106, .one (li .i64 r15.2.2)), (105, .one (li .i64 r15.2.1)), (104, .one (ls r15.1)), (99, .tup [.one (ls r15.1), .one (li .i64 r15.2.1), .one (li .i64 r15.2.2)])] [] (by kernel_rfl) ?_
      refine SimI.done (by kernel_rfl) ?_
      refine SimE.thenN ?_
      refine Sim.seq ?_
      refine Sim.seq ?_
      refine Sim.region0 ?_
      refine SimI.run 2 [(108, .one (lb (r15.2.2 != 0))), (107, .one (li .i64 r15.2.2))] [] (by kernel_rfl) ?_
      refine SimI.done (by kernel_rfl) ?_
      refine SimE.thenN ?_
      refine Sim.cond (r15.2.2 != 0) (by kernel_rfl) ?_ ?_
      · refine Sim.seq ?_
        refine Sim.region0 ?_
        refine SimI.run 5 [(4, .one (li .i64 r15.2.2)), (3, .one (li .i64 0)), (110, .one (li .i64 r15.2.2)), (109, .agg [li .i64 0, li .u8 0, li .i64 0, li .i64 0, li .i64 0, ls ByteArray.empty, li .i64 0, ls ByteArray.empty, li .i64 0, ls ByteArray.empty, li .i64 0, ls ByteArray.empty])] [(2, some (.cells [li .i64 0, li .u8 0, li .i64 0, li .i64 0, li .i64 0, ls ByteArray.empty, li .i64 0, ls ByteArray.empty, li .i64 0, ls ByteArray.empty, li .i64 0, ls ByteArray.empty]))] (by kernel_rfl) ?_
        refine SimI.done (by kernel_rfl) ?_
        refine SimE.thenN ?_
        refine Sim.ret ?_
        refine SimE.thenR ?_
        refine SimE.blockR ?_
        refine SimE.thenR ?_
        refine SimE.loopR ?_
        refine SimE.blockR ?_
        refine SimE.thenR ?_
        exact SimE.fin (by kernel_rfl)
      · refine Sim.skip ?_
        refine SimE.thenN ?_
        refine Sim.seq ?_
        refine Sim.region0 ?_
        refine SimI.run 10 [(8, .one (li .i64 (IntKind.wrap .i64 (i11 + r15.2.1)))), (118, .one (.ptr 6 7)), (117, .one (.ptr 6 6)), (116, .one (.ptr 6 4)), (115, .one (li .i64 (IntKind.wrap .i64 (i11 + r15.2.1)))), (114, .one (li .i64 r15.2.1)), (113, .one (li .i64 i11)), (112, .one (ls r15.1)), (111, .one (li .i64 1))] [(6, some (.cells [li .i64 r1.1, li .u8 (IntKind.wrap .u8 r2.1), li .i64 i6, li .i64 i7, li .i64 i12, ls s13, li .i64 0, ls r15.1, li .i64 0, ls ByteArray.empty, li .i64 0, ls ByteArray.empty]))] (by kernel_rfl) ?_
        refine SimI.done (by kernel_rfl) ?_
        refine SimE.thenN ?_
        refine Sim.seq ?_
        refine Sim.region0 ?_
        refine SimI.run 2 [(120, .one (lb (r15.1.toList == ByteArray.empty.toList))), (119, .one (ls r15.1))] [] (by kernel_rfl) ?_
        refine SimI.done (by kernel_rfl) ?_
        refine SimE.thenN ?_
        refine Sim.cond (r15.1.toList == ByteArray.empty.toList) (by kernel_rfl) ?_ ?_
        · refine Sim.seq ?_
          refine Sim.region0 ?_
          refine SimI.run 2 [(123, .one (li .i64 (IntKind.wrap .i64 (i11 + r15.2.1)))), (122, .one (ls a0))] [] (by kernel_rfl) ?_
          refine SimI.guard (c := 0 ≤ (IntKind.wrap .i64 (i11 + r15.2.1) : Int) ∧ (IntKind.wrap .i64 (i11 + r15.2.1) : Int) ≤ (a0.size : Int)) { dst := some 124, op := POp.prim (Prim.slice 9 true false) [Operand.tmp 122, Operand.tmp 123], guard := none, hints := [] } [(124, .one (ls (a0.extract (IntKind.wrap .i64 (i11 + r15.2.1)).toNat a0.size)))] [] (by kernel_rfl) (fun hc => pOp_eff (by kernel_rfl) (by kernel_rfl) (eff_prim (by kernel_rfl) (pr_cutL (s := a0) (k := .i64) (a := IntKind.wrap .i64 (i11 + r15.2.1)) Try.underlying9 hc))) ?_
          refine SimI.bind (og := F55 n (a0.extract (IntKind.wrap .i64 (i11 + r15.2.1)).toNat a0.size)) { dst := some 125, op := POp.call true [[]] 55 [Operand.tmp 124], guard := none, hints := [] } (fun r16 => [(125, .tup [.one (li .i64 r16.1), .one (li .i64 r16.2.1), .one (li .i64 r16.2.2)])]) (fun r16 => []) (by kernel_rfl) (fun r16 hr => pOp_eff (by kernel_rfl) (by kernel_rfl) (eff_call (ARGS := [.one (ls (a0.extract (IntKind.wrap .i64 (i11 + r15.2.1)).toNat a0.size))]) (by kernel_rfl) (args_clean (by kernel_rfl) args_nil) (F55_ok n (a0.extract (IntKind.wrap .i64 (i11 + r15.2.1)).toNat a0.size) r16 hr) (by kernel_rfl))) (fun r16 => ?_)
          refine SimI.run 7 [(17, .one (li .i64 r16.2.2)), (16, .one (li .i64 r16.2.1)), (15, .one (li .i64 r16.1)), (128, .one (li .i64 r16.2.2)), (127, .one (li .i64 r16.2.1)), (126, .one (li .i64 r16.1)), (121, .tup [.one (li .i64 r16.1), .one (li .i64 r16.2.1), .one (li .i64 r16.2.2)])] [] (by kernel_rfl) ?_
          refine SimI.done (by kernel_rfl) ?_
          refine SimE.thenN ?_
          refine Sim.seq ?_
          refine Sim.seq ?_
          refine Sim.region0 ?_
          refine SimI.run 2 [(130, .one (lb (r16.2.2 != 0))), (129, .one (li .i64 r16.2.2))] [] (by kernel_rfl) ?_
          refine SimI.done (by kernel_rfl) ?_
          refine SimE.thenN ?_
          refine Sim.cond (r16.2.2 != 0) (by kernel_rfl) ?_ ?_
          · refine Sim.seq ?_
            refine Sim.region0 ?_
            refine SimI.run 5 [(4, .one (li .i64 r16.2.2)), (3, .one (li .i64 0)), (132, .one (li .i64 r16.2.2)), (131, .agg [li .i64 0, li .u8 0, li .i64 0, li .i64 0, li .i64 0, ls ByteArray.empty, li .i64 0, ls ByteArray.empty, li .i64 0, ls ByteArray.empty, li .i64 0, ls ByteArray.empty])] [(2, some (.cells [li .i64 0, li .u8 0, li .i64 0, li .i64 0, li .i64 0, ls ByteArray.empty, li .i64 0, ls ByteArray.empty, li .i64 0, ls ByteArray.empty, li .i64 0, ls ByteArray.empty]))] (by kernel_rfl) ?_
            refine SimI.done (by kernel_rfl) ?_
            refine SimE.thenN ?_
            refine Sim.ret ?_
            refine SimE.thenR ?_
            refine SimE.blockR ?_
            refine SimE.thenR ?_
            refine SimE.loopR ?_
            refine SimE.blockR ?_
            refine SimE.thenR ?_
            exact SimE.fin (by kernel_rfl)
          · refine Sim.skip ?_
            refine SimE.thenN ?_
            refine Sim.region0 ?_
            refine SimI.run 10 [(8, .one (li .i64 (IntKind.wrap .i64 (IntKind.wrap .i64 (i11 + r15.2.1) + r16.2.1)))), (140, .one (.ptr 6 6)), (139, .one (.ptr 6 6)), (138, .one (.ptr 6 4)), (137, .one (li .i64 (IntKind.wrap .i64 (IntKind.wrap .i64 (i11 + r15.2.1) + r16.2.1)))), (136, .one (li .i64 r16.2.1)), (135, .one (li .i64 (IntKind.wrap .i64 (i11 + r15.2.1)))), (134, .one (li .i64 r16.1)), (133, .one (li .i64 1))] [(6, some (.cells [li .i64 r1.1, li .u8 (IntKind.wrap .u8 r2.1), li .i64 i6, li .i64 i7, li .i64 i12, ls s13, li .i64 r16.1, ls r15.1, li .i64 0, ls ByteArray.empty, li .i64 0, ls ByteArray.empty]))] (by kernel_rfl) ?_
            refine SimI.done (by kernel_rfl) ?_
            refine SimE.blockN ?_
            refine SimE.thenN ?_
            refine Sim.region0 ?_
            refine SimI.run 3 [(11, .one (li .i64 2)), (90, .one (li .i64 2)), (89, .one (li .i64 1))] [] (by kernel_rfl) ?_
            refine SimI.done (by kernel_rfl) ?_
            refine SimE.loopN ?_
            refine SimL.pre (ts := [0, 2, 5, 6, 8, 11]) (os := [2, 5, 6]) [(0, .one (ls a0)), (2, .one (.ptr 2 0)), (5, .one (.ptr 5 0)), (6, .one (.ptr 6 0)), (8, .one (li .i64 (IntKind.wrap .i64 (IntKind.wrap .i64 (i11 + r15.2.1) + r16.2.1)))), (11, .one (li .i64 2))] ((2, some (.cells [li .i64 0, li .u8 0, li .i64 0, li .i64 0, li .i64 0, ls ByteArray.empty, li .i64 0, ls ByteArray.empty, li .i64 0, ls ByteArray.empty, li .i64 0, ls ByteArray.empty])) :: ((5, some (.cells [li .i64 0, li .u8 0, li .i64 0, li .i64 0, li .i64 0, ls ByteArray.empty, li .i64 0, ls ByteArray.empty, li .i64 0, ls ByteArray.empty, li .i64 0, ls ByteArray.empty])) :: ((6, some (.cells [li .i64 r1.1, li .u8 (IntKind.wrap .u8 r2.1), li .i64 i6, li .i64 i7, li .i64 i12, ls s13, li .i64 r16.1, ls r15.1, li .i64 0, ls ByteArray.empty, li .i64 0, ls ByteArray.empty])) :: []))) (by kernel_rfl) (by kernel_rfl) (by kernel_rfl) ?_
            exact F30_u20_ok n a0 r1 r2 i6 i7 i12 s13 (IntKind.wrap .i64 (IntKind.wrap .i64 (i11 + r15.2.1) + r16.2.1)) r16.1 r15.1
        · refine Sim.skip ?_
          refine SimE.blockN ?_
          refine SimE.thenN ?_
          refine Sim.region0 ?_
          refine SimI.run 3 [(11, .one (li .i64 2)), (90, .one (li .i64 2)), (89, .one (li .i64 1))] [] (by kernel_rfl) ?_
          refine SimI.done (by kernel_rfl) ?_
          refine SimE.loopN ?_
          refine SimL.pre (ts := [0, 2, 5, 6, 8, 11]) (os := [2, 5, 6]) [(0, .one (ls a0)), (2, .one (.ptr 2 0)), (5, .one (.ptr 5 0)), (6, .one (.ptr 6 0)), (8, .one (li .i64 (IntKind.wrap .i64 (i11 + r15.2.1)))), (11, .one (li .i64 2))] ((2, some (.cells [li .i64 0, li .u8 0, li .i64 0, li .i64 0, li .i64 0, ls ByteArray.empty, li .i64 0, ls ByteArray.empty, li .i64 0, ls ByteArray.empty, li .i64 0, ls ByteArray.empty])) :: ((5, some (.cells [li .i64 0, li .u8 0, li .i64 0, li .i64 0, li .i64 0, ls ByteArray.empty, li .i64 0, ls ByteArray.empty, li .i64 0, ls ByteArray.empty, li .i64 0, ls ByteArray.empty])) :: ((6, some (.cells [li .i64 r1.1, li .u8 (IntKind.wrap .u8 r2.1), li .i64 i6, li .i64 i7, li .i64 i12, ls s13, li .i64 0, ls r15.1, li .i64 0, ls ByteArray.empty, li .i64 0, ls ByteArray.empty])) :: []))) (by kernel_rfl) (by kernel_rfl) (by kernel_rfl) ?_
          exact F30_u20_ok n a0 r1 r2 i6 i7 i12 s13 (IntKind.wrap .i64 (i11 + r15.2.1)) 0 r15.1

def F30_j8 (n : Nat) (a0 : ByteArray) (r1 : (Int × Int × Int)) (r2 : (Int × Int × Int)) (i5 : Int) (i6 : Int) (i7 : Int) : Option (Delta × Int × Int) :=
    if (bitsI .and .u8 (shrI .u8 (IntKind.wrap .u8 r2.1) 1) 1) == 0 then
      F30_u14 n a0 r1 r2 i6 i7 i5 0 ByteArray.empty
    else
      if 0 ≤ (i5 : Int) ∧ (i5 : Int) ≤ (a0.size : Int) then
        (F54 n (a0.extract i5.toNat a0.size) 12).bind fun (r9 : (ByteArray × Int × Int)) =>
        if r9.2.2 != 0 then
          some ((Delta.mk 0 0 (Point.mk 0 0) (A4.mk (Field.mk 0 ByteArray.empty) (Field.mk 0 ByteArray.empty) (Field.mk 0 ByteArray.empty) (Field.mk 0 ByteArray.empty))), 0, r9.2.2)
        else
          if r9.1.toList == ByteArray.empty.toList then
            if 0 ≤ (IntKind.wrap .i64 (i5 + r9.2.1) : Int) ∧ (IntKind.wrap .i64 (i5 + r9.2.1) : Int) ≤ (a0.size : Int) then
              (F55 n (a0.extract (IntKind.wrap .i64 (i5 + r9.2.1)).toNat a0.size)).bind fun (r10 : (Int × Int × Int)) =>
              if r10.2.2 != 0 then
                some ((Delta.mk 0 0 (Point.mk 0 0) (A4.mk (Field.mk 0 ByteArray.empty) (Field.mk 0 ByteArray.empty) (Field.mk 0 ByteArray.empty) (Field.mk 0 ByteArray.empty))), 0, r10.2.2)
              else
                F30_u14 n a0 r1 r2 i6 i7 (IntKind.wrap .i64 (IntKind.wrap .i64 (i5 + r9.2.1) + r10.2.1)) r10.1 r9.1
            else none
          else
            F30_u14 n a0 r1 r2 i6 i7 (IntKind.wrap .i64 (i5 + r9.2.1)) 0 r9.1
      else none
theorem F30_j8_ok (n : Nat) (a0 : ByteArray) (r1 : (Int × Int × Int)) (r2 : (Int × Int × Int)) (i5 : Int) (i6 : Int) (i7 : Int) : Sim Try.prog D (n + 8) pc30_c108 [(0, .one (ls a0)), (2, .one (.ptr 2 0)), (5, .one (.ptr 5 0)), (6, .one (.ptr 6 0)), (8, .one (li .i64 i5))] ((2, some (.cells [li .i64 0, li .u8 0, li .i64 0, li .i64 0, li .i64 0, ls ByteArray.empty, li .i64 0, ls ByteArray.empty, li .i64 0, ls ByteArray.empty, li .i64 0, ls ByteArray.empty])) :: ((5, some (.cells [li .i64 0, li .u8 0, li .i64 0, li .i64 0, li .i64 0, ls ByteArray.empty, li .i64 0, ls ByteArray.empty, li .i64 0, ls ByteArray.empty, li .i64 0, ls ByteArray.empty])) :: ((6, some (.cells [li .i64 r1.1, li .u8 (IntKind.wrap .u8 r2.1), li .i64 i6, li .i64 i7, li .i64 0, ls ByteArray.empty, li .i64 0, ls ByteArray.empty, li .i64 0, ls ByteArray.empty, li .i64 0, ls ByteArray.empty])) :: []))) (F30_j8 n a0 r1 r2 i5 i6 i7) (QF pc30_r 0 F30_e) := by
    unfold F30_j8
    refine Sim.seq ?_
    refine Sim.seq ?_
    refine Sim.region [(0, .one (ls a0)), (2, .one (.ptr 2 0)), (5, .one (.ptr 5 0)), (6, .one (.ptr 6 0)), (8, .one (li .i64 i5))] ((2, some (.cells [li .i64 0, li .u8 0, li .i64 0, li .i64 0, li .i64 0, ls ByteArray.empty, li .i64 0, ls ByteArray.empty, li .i64 0, ls ByteArray.empty, li .i64 0, ls ByteArray.empty])) :: ((5, some (.cells [li .i64 0, li .u8 0, li .i64 0, li .i64 0, li .i64 0, ls ByteArray.empty, li .i64 0, ls ByteArray.empty, li .i64 0, ls ByteArray.empty, li .i64 0, ls ByteArray.empty])) :: ((6, some (.cells [li .i64 r1.1, li .u8 (IntKind.wrap .u8 r2.1), li .i64 i6, li .i64 i7, li .i64 0, ls ByteArray.empty, li .i64 0, ls ByteArray.empty, li .i64 0, ls ByteArray.empty, li .i64 0, ls ByteArray.empty])) :: []))) (by kernel_rfl) ?_
    refine SimI.run 1 [(11, .one (li .i64 0))] [] (by kernel_rfl) ?_
    refine SimI.done (by kernel_rfl) ?_
    refine SimE.thenN ?_
    refine Sim.block ?_
    refine Sim.loop ?_
    refine SimL.succ ?_
    refine Sim.seq ?_
    refine Sim.seq ?_
    refine Sim.region [(0, .one (ls a0)), (2, .one (.ptr 2 0)), (5, .one (.ptr 5 0)), (6, .one (.ptr 6 0)), (8, .one (li .i64 i5)), (11, .one (li .i64 0))] ((2, some (.cells [li .i64 0, li .u8 0, li .i64 0, li .i64 0, li .i64 0, ls ByteArray.empty, li .i64 0, ls ByteArray.empty, li .i64 0, ls ByteArray.empty, li .i64 0, ls ByteArray.empty])) :: ((5, some (.cells [li .i64 0, li .u8 0, li .i64 0, li .i64 0, li .i64 0, ls ByteArray.empty, li .i64 0, ls ByteArray.empty, li .i64 0, ls ByteArray.empty, li .i64 0, ls ByteArray.empty])) :: ((6, some (.cells [li .i64 r1.1, li .u8 (IntKind.wrap .u8 r2.1), li .i64 i6, li .i64 i7, li .i64 0, ls ByteArray.empty, li .i64 0, ls ByteArray.empty, li .i64 0, ls ByteArray.empty, li .i64 0, ls ByteArray.empty])) :: []))) (by kernel_rfl) ?_
    refine SimI.run 2 [(88, .one (lb true)), (87, .one (li .i64 0))] [] (by kernel_rfl) ?_
    refine SimI.done (by kernel_rfl) ?_
    refine SimE.thenN ?_
    refine Sim.condT (by kernel_rfl) ?_
    refine Sim.skip ?_
    refine SimE.thenN ?_
    refine Sim.seq ?_
    refine Sim.block ?_
    refine Sim.seq ?_
    refine Sim.seq ?_
    refine Sim.region0 ?_
    refine SimI.run 8 [(98, .one (lb ((bitsI .and .u8 (shrI .u8 (IntKind.wrap .u8 r2.1) 1) 1) == 0))), (97, .one (li .u8 (bitsI .and .u8 (shrI .u8 (IntKind.wrap .u8 r2.1) 1) 1))), (96, .one (li .u8 (shrI .u8 (IntKind.wrap .u8 r2.1) 1))), (95, .one (li .u64 1)), (94, .one (li .i64 1)), (93, .one (li .i64 0)), (92, .one (li .u8 (IntKind.wrap .u8 r2.1))), (91, .one (.ptr 6 1))] [] (by kernel_rfl) ?_
    refine SimI.done (by kernel_rfl) ?_
    refine SimE.thenN ?_
    refine Sim.cond ((bitsI .and .u8 (shrI .u8 (IntKind.wrap .u8 r2.1) 1) 1) == 0) (by kernel_rfl) ?_ ?_
    · refine Sim.exit ?_
      refine SimE.thenX ?_
      refine SimE.blockX ?_
      refine SimE.thenN ?_
      refine Sim.region0 ?_
      refine SimI.run 3 [(11, .one (li .i64 1)), (90, .one (li .i64 1)), (89, .one (li .i64 0))] [] (by kernel_rfl) ?_
      refine SimI.done (by kernel_rfl) ?_
      refine SimE.loopN ?_
      refine SimL.pre (ts := [0, 2, 5, 6, 8, 11]) (os := [2, 5, 6]) [(0, .one (ls a0)), (2, .one (.ptr 2 0)), (5, .one (.ptr 5 0)), (6, .one (.ptr 6 0)), (8, .one (li .i64 i5)), (11, .one (li .i64 1))] ((2, some (.cells [li .i64 0, li .u8 0, li .i64 0, li .i64 0, li .i64 0, ls ByteArray.empty, li .i64 0, ls ByteArray.empty, li .i64 0, ls ByteArray.empty, li .i64 0, ls ByteArray.empty])) :: ((5, some (.cells [li .i64 0, li .u8 0, li .i64 0, li .i64 0, li .i64 0, ls ByteArray.empty, li .i64 0, ls ByteArray.empty, li .i64 0, ls ByteArray.empty, li .i64 0, ls ByteArray.empty])) :: ((6, some (.cells [li .i64 r1.1, li .u8 (IntKind.wrap .u8 r2.1), li .i64 i6, li .i64 i7, li .i64 0, ls ByteArray.empty, li .i64 0, ls ByteArray.empty, li .i64 0, ls ByteArray.empty, li .i64 0, ls ByteArray.empty])) :: []))) (by kernel_rfl) (by kernel_rfl) (by kernel_rfl) ?_
      exact F30_u14_ok n a0 r1 r2 i6 i7 i5 0 ByteArray.empty
    · refine Sim.skip ?_
      refine SimE.thenN ?_
      refine Sim.seq ?_
      refine Sim.region0 ?_
      refine SimI.run 2 [(101, .one (li .i64 i5)), (100, .one (ls a0))] [] (by kernel_rfl) ?_
      refine SimI.guard (c := 0 ≤ (i5 : Int) ∧ (i5 : Int) ≤ (a0.size : Int)) { dst := some 102, op := POp.prim (Prim.slice 9 true false) [Operand.tmp 100, Operand.tmp 101], guard := none, hints := [] } [(102, .one (ls (a0.extract i5.toNat a0.size)))] [] (by kernel_rfl) (fun hc => pOp_eff (by kernel_rfl) (by kernel_rfl) (eff_prim (by kernel_rfl) (pr_cutL (s := a0) (k := .i64) (a := i5) Try.underlying9 hc))) ?_
      refine SimI.bind (og := F54 n (a0.extract i5.toNat a0.size) 12) { dst := some 103, op := POp.call true [[], []] 54 [Operand.tmp 102, Operand.const (Value.int IntKind.i64 12)], guard := none, hints := [] } (fun r9 => [(103, .tup [.one (ls r9.1), .one (li .i64 r9.2.1), .one (li .i64 r9.2.2)])]) (fun r9 => []) (by kernel_rfl) (fun r9 hr => pOp_eff (by kernel_rfl) (by kernel_rfl) (eff_call (ARGS := [.one (ls (a0.extract i5.toNat a0.size)), .one (li .i64 12)]) (by kernel_rfl) (args_clean (by kernel_rfl) (args_clean (by kernel_rfl) args_nil)) (F54_ok n (a0.extract i5.toNat a0.size) 12 r9 hr) (by kernel_rfl))) (fun r9 => ?_)
      refine SimI.run 7 [(14, .one (li .i64 r9.2.2)), (13, .one (li .i64 r9.2.1)), (12, .one (ls r9.1)), (106, .one (li .i64 r9.2.2)), (105, .one (li .i64 r9.2.1)), (104, .one (ls r9.1)), (99, .tup [.one (ls r9.1), .one (li .i64 r9.2.1), .one (li .i64 r9.2.2)])] [] (by kernel_rfl) ?_
      refine SimI.done (by kernel_rfl) ?_
      refine SimE.thenN ?_
      refine Sim.seq ?_
      refine Sim.seq ?_
      refine Sim.region0 ?_
      refine SimI.run 2 [(108, .one (lb (r9.2.2 != 0))), (107, .one (li .i64 r9.2.2))] [] (by kernel_rfl) ?_
      refine SimI.done (by kernel_rfl) ?_
      refine SimE.thenN ?_
      refine Sim.cond (r9.2.2 != 0) (by kernel_rfl) ?_ ?_
      · refine Sim.seq ?_
        refine Sim.region0 ?_
        refine SimI.run 5 [(4, .one (li .i64 r9.2.2)), (3, .one (li .i64 0)), (110, .one (li .i64 r9.2.2)), (109, .agg [li .i64 0, li .u8 0, li .i64 0, li .i64 0, li .i64 0, ls ByteArray.empty, li .i64 0, ls ByteArray.empty, li .i64 0, ls ByteArray.empty, li .i64 0, ls ByteArray.empty])] [(2, some (.cells [li .i64 0, li .u8 0, li .i64 0, li .i64 0, li .i64 0, ls ByteArray.empty, li .i64 0, ls ByteArray.empty, li .i64 0, ls ByteArray.empty, li .i64 0, ls ByteArray.empty]))] (by kernel_rfl) ?_
        refine SimI.done (by kernel_rfl) ?_
        refine SimE.thenN ?_
        refine Sim.ret ?_
        refine SimE.thenR ?_
        refine SimE.blockR ?_
        refine SimE.thenR ?_
        refine SimE.loopR ?_
        refine SimE.blockR ?_
        refine SimE.thenR ?_
        exact SimE.fin (by kernel_rfl)
      · refine Sim.skip ?_
        refine SimE.thenN ?_
        refine Sim.seq ?_
        refine Sim.region0 ?_
        refine SimI.run 10 [(8, .one (li .i64 (IntKind.wrap .i64 (i5 + r9.2.1)))), (118, .one (.ptr 6 5)), (117, .one (.ptr 6 4)), (116, .one (.ptr 6 4)), (115, .one (li .i64 (IntKind.wrap .i64 (i5 + r9.2.1)))), (114, .one (li .i64 r9.2.1)), (113, .one (li .i64 i5)), (112, .one (ls r9.1)), (111, .one (li .i64 0))] [(6, some (.cells [li .i64 r1.1, li .u8 (IntKind.wrap .u8 r2.1), li .i64 i6, li .i64 i7, li .i64 0, ls r9.1, li .i64 0, ls ByteArray.empty, li .i64 0, ls ByteArray.empty, li .i64 0, ls ByteArray.empty]))] (by kernel_rfl) ?_
        refine SimI.done (by kernel_rfl) ?_
        refine SimE.thenN ?_
        refine Sim.seq ?_
        refine Sim.region0 ?_
        refine SimI.run 2 [(120, .one (lb (r9.1.toList == ByteArray.empty.toList))), (119, .one (ls r9.1))] [] (by kernel_rfl) ?_
        refine SimI.done (by kernel_rfl) ?_
        refine SimE.thenN ?_
        refine Sim.cond (r9.1.toList == ByteArray.empty.toList) (by kernel_rfl) ?_ ?_
        · refine Sim.seq ?_
          refine Sim.region0 ?_
          refine SimI.run 2 [(123, .one (li .i64 (IntKind.wrap .i64 (i5 + r9.2.1)))), (122, .one (ls a0))] [] (by kernel_rfl) ?_
          refine SimI.guard (c := 0 ≤ (IntKind.wrap .i64 (i5 + r9.2.1) : Int) ∧ (IntKind.wrap .i64 (i5 + r9.2.1) : Int) ≤ (a0.size : Int)) { dst := some 124, op := POp.prim (Prim.slice 9 true false) [Operand.tmp 122, Operand.tmp 123], guard := none, hints := [] } [(124, .one (ls (a0.extract (IntKind.wrap .i64 (i5 + r9.2.1)).toNat a0.size)))] [] (by kernel_rfl) (fun hc => pOp_eff (by kernel_rfl) (by kernel_rfl) (eff_prim (by kernel_rfl) (pr_cutL (s := a0) (k := .i64) (a := IntKind.wrap .i64 (i5 + r9.2.1)) Try.underlying9 hc))) ?_
          refine SimI.bind (og := F55 n (a0.extract (IntKind.wrap .i64 (i5 + r9.2.1)).toNat a0.size)) { dst := some 125, op := POp.call true [[]] 55 [Operand.tmp 124], guard := none, hints := [] } (fun r10 => [(125, .tup [.one (li .i64 r10.1), .one (li .i64 r10.2.1), .one (li .i64 r10.2.2)])]) (fun r10 => []) (by kernel_rfl) (fun r10 hr => pOp_eff (by kernel_rfl) (by kernel_rfl) (eff_call (ARGS := [.one (ls (a0.extract (IntKind.wrap .i64 (i5 + r9.2.1)).toNat a0.size))]) (by kernel_rfl) (args_clean (by kernel_rfl) args_nil) (F55_ok n (a0.extract (IntKind.wrap .i64 (i5 + r9.2.1)).toNat a0.size) r10 hr) (by kernel_rfl))) (fun r10 => ?_)
          refine SimI.run 7 [(17, .one (li .i64 r10.2.2)), (16, .one (li .i64 r10.2.1)), (15, .one (li .i64 r10.1)), (128, .one (li .i64 r10.2.2)), (127, .one (li .i64 r10.2.1)), (126, .one (li .i64 r10.1)), (121, .tup [.one (li .i64 r10.1), .one (li .i64 r10.2.1), .one (li .i64 r10.2.2)])] [] (by kernel_rfl) ?_
          refine SimI.done (by kernel_rfl) ?_
          refine SimE.thenN ?_
          refine Sim.seq ?_
          refine Sim.seq ?_
          refine Sim.region0 ?_
          refine SimI.run 2 [(130, .one (lb (r10.2.2 != 0))), (129, .one (li .i64 r10.2.2))] [] (by kernel_rfl) ?_
          refine SimI.done (by kernel_rfl) ?_
          refine SimE.thenN ?_
          refine Sim.cond (r10.2.2 != 0) (by kernel_rfl) ?_ ?_
          · refine Sim.seq ?_
            refine Sim.region0 ?_
            refine SimI.run 5 [(4, .one (li .i64 r10.2.2)), (3, .one (li .i64 0)), (132, .one (li .i64 r10.2.2)), (131, .agg [li .i64 0, li .u8 0, li .i64 0, li .i64 0, li .i64 0, ls ByteArray.empty, li .i64 0, ls ByteArray.empty, li .i64 0, ls ByteArray.empty, li .i64 0, ls ByteArray.empty])] [(2, some (.cells [li .i64 0, li .u8 0, li .i64 0, li .i64 0, li .i64 0, ls ByteArray.empty, li .i64 0, ls ByteArray.empty, li .i64 0, ls ByteArray.empty, li .i64 0, ls ByteArray.empty]))] (by kernel_rfl) ?_
            refine SimI.done (by kernel_rfl) ?_
            refine SimE.thenN ?_
            refine Sim.ret ?_
            refine SimE.thenR ?_
            refine SimE.blockR ?_
            refine SimE.thenR ?_
            refine SimE.loopR ?_
            refine SimE.blockR ?_
            refine SimE.thenR ?_
            exact SimE.fin (by kernel_rfl)
          · refine Sim.skip ?_
            refine SimE.thenN ?_
            refine Sim.region0 ?_
            refine SimI.run 10 [(8, .one (li .i64 (IntKind.wrap .i64 (IntKind.wrap .i64 (i5 + r9.2.1) + r10.2.1)))), (140, .one (.ptr 6 4)), (139, .one (.ptr 6 4)), (138, .one (.ptr 6 4)), (137, .one (li .i64 (IntKind.wrap .i64 (IntKind.wrap .i64 (i5 + r9.2.1) + r10.2.1)))), (136, .one (li .i64 r10.2.1)), (135, .one (li .i64 (IntKind.wrap .i64 (i5 + r9.2.1)))), (134, .one (li .i64 r10.1)), (133, .one (li .i64 0))] [(6, some (.cells [li .i64 r1.1, li .u8 (IntKind.wrap .u8 r2.1), li .i64 i6, li .i64 i7, li .i64 r10.1, ls r9.1, li .i64 0, ls ByteArray.empty, li .i64 0, ls ByteArray.empty, li .i64 0, ls ByteArray.empty]))] (by kernel_rfl) ?_
            refine SimI.done (by kernel_rfl) ?_
            refine SimE.blockN ?_
            refine SimE.thenN ?_
            refine Sim.region0 ?_
            refine SimI.run 3 [(11, .one (li .i64 1)), (90, .one (li .i64 1)), (89, .one (li .i64 0))] [] (by kernel_rfl) ?_
            refine SimI.done (by kernel_rfl) ?_
            refine SimE.loopN ?_
            refine SimL.pre (ts := [0, 2, 5, 6, 8, 11]) (os := [2, 5, 6]) [(0, .one (ls a0)), (2, .one (.ptr 2 0)), (5, .one (.ptr 5 0)), (6, .one (.ptr 6 0)), (8, .one (li .i64 (IntKind.wrap .i64 (IntKind.wrap .i64 (i5 + r9.2.1) + r10.2.1)))), (11, .one (li .i64 1))] ((2, some (.cells [li .i64 0, li .u8 0, li .i64 0, li .i64 0, li .i64 0, ls ByteArray.empty, li .i64 0, ls ByteArray.empty, li .i64 0, ls ByteArray.empty, li .i64 0, ls ByteArray.empty])) :: ((5, some (.cells [li .i64 0, li .u8 0, li .i64 0, li .i64 0, li .i64 0, ls ByteArray.empty, li .i64 0, ls ByteArray.empty, li .i64 0, ls ByteArray.empty, li .i64 0, ls ByteArray.empty])) :: ((6, some (.cells [li .i64 r1.1, li .u8 (IntKind.wrap .u8 r2.1), li .i64 i6, li .i64 i7, li .i64 r10.1, ls r9.1, li .i64 0, ls ByteArray.empty, li .i64 0, ls ByteArray.empty, li .i64 0, ls ByteArray.empty])) :: []))) (by kernel_rfl) (by kernel_rfl) (by kernel_rfl) ?_
            exact F30_u14_ok n a0 r1 r2 i6 i7 (IntKind.wrap .i64 (IntKind.wrap .i64 (i5 + r9.2.1) + r10.2.1)) r10.1 r9.1
        · refine Sim.skip ?_
          refine SimE.blockN ?_
          refine SimE.thenN ?_
          refine Sim.region0 ?_
          refine SimI.run 3 [(11, .one (li .i64 1)), (90, .one (li .i64 1)), (89, .one (li .i64 0))] [] (by kernel_rfl) ?_
          refine SimI.done (by kernel_rfl) ?_
          refine SimE.loopN ?_
          refine SimL.pre (ts := [0, 2, 5, 6, 8, 11]) (os := [2, 5, 6]) [(0, .one (ls a0)), (2, .one (.ptr 2 0)), (5, .one (.ptr 5 0)), (6, .one (.ptr 6 0)), (8, .one (li .i64 (IntKind.wrap .i64 (i5 + r9.2.1)))), (11, .one (li .i64 1))] ((2, some (.cells [li .i64 0, li .u8 0, li .i64 0, li .i64 0, li .i64 0, ls ByteArray.empty, li .i64 0, ls ByteArray.empty, li .i64 0, ls ByteArray.empty, li .i64 0, ls ByteArray.empty])) :: ((5, some (.cells [li .i64 0, li .u8 0, li .i64 0, li .i64 0, li .i64 0, ls ByteArray.empty, li .i64 0, ls ByteArray.empty, li .i64 0, ls ByteArray.empty, li .i64 0, ls ByteArray.empty])) :: ((6, some (.cells [li .i64 r1.1, li .u8 (IntKind.wrap .u8 r2.1), li .i64 i6, li .i64 i7, li .i64 0, ls r9.1, li .i64 0, ls ByteArray.empty, li .i64 0, ls ByteArray.empty, li .i64 0, ls ByteArray.empty])) :: []))) (by kernel_rfl) (by kernel_rfl) (by kernel_rfl) ?_
          exact F30_u14_ok n a0 r1 r2 i6 i7 (IntKind.wrap .i64 (i5 + r9.2.1)) 0 r9.1

def F30 (n : Nat) (a0 : ByteArray) : Option (Delta × Int × Int) :=
  (F53 n a0 0 1000000).bind fun (r1 : (Int × Int × Int)) =>
  if r1.2.2 != 0 then
    some ((Delta.mk 0 0 (Point.mk 0 0) (A4.mk (Field.mk 0 ByteArray.empty) (Field.mk 0 ByteArray.empty) (Field.mk 0 ByteArray.empty) (Field.mk 0 ByteArray.empty))), 0, r1.2.2)
  else
    (F53 n a0 r1.2.1 31).bind fun (r2 : (Int × Int × Int)) =>
    if r2.2.2 != 0 then
      some ((Delta.mk 0 0 (Point.mk 0 0) (A4.mk (Field.mk 0 ByteArray.empty) (Field.mk 0 ByteArray.empty) (Field.mk 0 ByteArray.empty) (Field.mk 0 ByteArray.empty))), 0, r2.2.2)
    else
      if decide ((1000000 : Int) < r1.1) then
        some ((Delta.mk 0 0 (Point.mk 0 0) (A4.mk (Field.mk 0 ByteArray.empty) (Field.mk 0 ByteArray.empty) (Field.mk 0 ByteArray.empty) (Field.mk 0 ByteArray.empty))), 0, 11)
      else
        if decide (r2.1 < 1) then
          some ((Delta.mk 0 0 (Point.mk 0 0) (A4.mk (Field.mk 0 ByteArray.empty) (Field.mk 0 ByteArray.empty) (Field.mk 0 ByteArray.empty) (Field.mk 0 ByteArray.empty))), 0, 11)
        else
          if decide ((31 : Int) < r2.1) then
            some ((Delta.mk 0 0 (Point.mk 0 0) (A4.mk (Field.mk 0 ByteArray.empty) (Field.mk 0 ByteArray.empty) (Field.mk 0 ByteArray.empty) (Field.mk 0 ByteArray.empty))), 0, 11)
          else
            if (bitsI .and .u8 (IntKind.wrap .u8 r2.1) 1) != 0 then
              (F53 n a0 r2.2.1 1048576).bind fun (r3 : (Int × Int × Int)) =>
              if r3.2.2 != 0 then
                some ((Delta.mk 0 0 (Point.mk 0 0) (A4.mk (Field.mk 0 ByteArray.empty) (Field.mk 0 ByteArray.empty) (Field.mk 0 ByteArray.empty) (Field.mk 0 ByteArray.empty))), 0, r3.2.2)
              else
                (F53 n a0 r3.2.1 1048576).bind fun (r4 : (Int × Int × Int)) =>
                if r4.2.2 != 0 then
                  some ((Delta.mk 0 0 (Point.mk 0 0) (A4.mk (Field.mk 0 ByteArray.empty) (Field.mk 0 ByteArray.empty) (Field.mk 0 ByteArray.empty) (Field.mk 0 ByteArray.empty))), 0, r4.2.2)
                else
                  F30_j8 n a0 r1 r2 r4.2.1 r3.1 r4.1
            else
              F30_j8 n a0 r1 r2 r2.2.1 0 0
theorem F30_ok (n : Nat) (a0 : ByteArray) : ∀ r, F30 n a0 = some r → D 30 [.one (ls a0)] [] = some (F30_e r) := by
  refine fn_to (D := D) (n := n + 8) (nt := 147) (rs := pc30_r) (c := pc30_c118) (L := [(0, .one (ls a0))]) (M := []) (k := 0) rfl rfl rfl rfl rfl rfl ?_
  unfold F30
  refine Sim.seq ?_
  refine Sim.region0 ?_
  refine SimI.run 3 [(4, .one (li .i64 0)), (3, .one (li .i64 0)), (2, .one (.ptr 2 0))] [(2, some (.cells [li .i64 0, li .u8 0, li .i64 0, li .i64 0, li .i64 0, ls ByteArray.empty, li .i64 0, ls ByteArray.empty, li .i64 0, ls ByteArray.empty, li .i64 0, ls ByteArray.empty]))] (by kernel_rfl) ?_
  refine SimI.done (by kernel_rfl) ?_
  refine SimE.thenN ?_
  refine Sim.seq ?_
  refine Sim.region0 ?_
  refine SimI.run 3 [(5, .one (.ptr 5 0)), (18, .agg [li .i64 0, li .u8 0, li .i64 0, li .i64 0, li .i64 0, ls ByteArray.empty, li .i64 0, ls ByteArray.empty, li .i64 0, ls ByteArray.empty, li .i64 0, ls ByteArray.empty])] [(5, some (.cells [li .i64 0, li .u8 0, li .i64 0, li .i64 0, li .i64 0, ls ByteArray.empty, li .i64 0, ls ByteArray.empty, li .i64 0, ls ByteArray.empty, li .i64 0, ls ByteArray.empty])), (5, some (.cells [li .i64 0, li .u8 0, li .i64 0, li .i64 0, li .i64 0, ls ByteArray.empty, li .i64 0, ls ByteArray.empty, li .i64 0, ls ByteArray.empty, li .i64 0, ls ByteArray.empty]))] (by kernel_rfl) ?_
  refine SimI.done (by kernel_rfl) ?_
  refine SimE.thenN ?_
  refine Sim.seq ?_
  refine Sim.region0 ?_
  refine SimI.run 3 [(6, .one (.ptr 6 0)), (19, .agg [li .i64 0, li .u8 0, li .i64 0, li .i64 0, li .i64 0, ls ByteArray.empty, li .i64 0, ls ByteArray.empty, li .i64 0, ls ByteArray.empty, li .i64 0, ls ByteArray.empty])] [(6, some (.cells [li .i64 0, li .u8 0, li .i64 0, li .i64 0, li .i64 0, ls ByteArray.empty, li .i64 0, ls ByteArray.empty, li .i64 0, ls ByteArray.empty, li .i64 0, ls ByteArray.empty])), (6, some (.cells [li .i64 0, li .u8 0, li .i64 0, li .i64 0, li .i64 0, ls ByteArray.empty, li .i64 0, ls ByteArray.empty, li .i64 0, ls ByteArray.empty, li .i64 0, ls ByteArray.empty]))] (by kernel_rfl) ?_
  refine SimI.done (by kernel_rfl) ?_
  refine SimE.thenN ?_
  refine Sim.seq ?_
  refine Sim.region0 ?_
  refine SimI.run 1 [(21, .one (ls a0))] [] (by kernel_rfl) ?_
  refine SimI.bind (og := F53 n a0 0 1000000) { dst := some 22, op := POp.call true [[], [], []] 53 [Operand.tmp 21, Operand.const (Value.int IntKind.i64 0), Operand.const (Value.int IntKind.u64 1000000)], guard := none, hints := [] } (fun r1 => [(22, .tup [.one (li .i64 r1.1), .one (li .i64 r1.2.1), .one (li .i64 r1.2.2)])]) (fun r1 => []) (by kernel_rfl) (fun r1 hr => pOp_eff (by kernel_rfl) (by kernel_rfl) (eff_call (ARGS := [.one (ls a0), .one (li .i64 0), .one (li .u64 1000000)]) (by kernel_rfl) (args_clean (by kernel_rfl) (args_clean (by kernel_rfl) (args_clean (by kernel_rfl) args_nil))) (F53_ok n a0 0 1000000 r1 hr) (by kernel_rfl))) (fun r1 => ?_)
  refine SimI.run 7 [(9, .one (li .i64 r1.2.2)), (8, .one (li .i64 r1.2.1)), (7, .one (li .i64 r1.1)), (25, .one (li .i64 r1.2.2)), (24, .one (li .i64 r1.2.1)), (23, .one (li .i64 r1.1)), (20, .tup [.one (li .i64 r1.1), .one (li .i64 r1.2.1), .one (li .i64 r1.2.2)])] [] (by kernel_rfl) ?_
  refine SimI.done (by kernel_rfl) ?_
  refine SimE.thenN ?_
  refine Sim.seq ?_
  refine Sim.seq ?_
  refine Sim.region0 ?_
  refine SimI.run 2 [(27, .one (lb (r1.2.2 != 0))), (26, .one (li .i64 r1.2.2))] [] (by kernel_rfl) ?_
  refine SimI.done (by kernel_rfl) ?_
  refine SimE.thenN ?_
  refine Sim.cond (r1.2.2 != 0) (by kernel_rfl) ?_ ?_
  · refine Sim.seq ?_
    refine Sim.region0 ?_
    refine SimI.run 5 [(4, .one (li .i64 r1.2.2)), (3, .one (li .i64 0)), (29, .one (li .i64 r1.2.2)), (28, .agg [li .i64 0, li .u8 0, li .i64 0, li .i64 0, li .i64 0, ls ByteArray.empty, li .i64 0, ls ByteArray.empty, li .i64 0, ls ByteArray.empty, li .i64 0, ls ByteArray.empty])] [(2, some (.cells [li .i64 0, li .u8 0, li .i64 0, li .i64 0, li .i64 0, ls ByteArray.empty, li .i64 0, ls ByteArray.empty, li .i64 0, ls ByteArray.empty, li .i64 0, ls ByteArray.empty]))] (by kernel_rfl) ?_
    refine SimI.done (by kernel_rfl) ?_
    refine SimE.thenN ?_
    refine Sim.ret ?_
    refine SimE.thenR ?_
    exact SimE.fin (by kernel_rfl)
  · refine Sim.skip ?_
    refine SimE.thenN ?_
    refine Sim.seq ?_
    refine Sim.region0 ?_
    refine SimI.run 2 [(32, .one (li .i64 r1.2.1)), (31, .one (ls a0))] [] (by kernel_rfl) ?_
    refine SimI.bind (og := F53 n a0 r1.2.1 31) { dst := some 33, op := POp.call true [[], [], []] 53 [Operand.tmp 31, Operand.tmp 32, Operand.const (Value.int IntKind.u64 31)], guard := none, hints := [] } (fun r2 => [(33, .tup [.one (li .i64 r2.1), .one (li .i64 r2.2.1), .one (li .i64 r2.2.2)])]) (fun r2 => []) (by kernel_rfl) (fun r2 hr => pOp_eff (by kernel_rfl) (by kernel_rfl) (eff_call (ARGS := [.one (ls a0), .one (li .i64 r1.2.1), .one (li .u64 31)]) (by kernel_rfl) (args_clean (by kernel_rfl) (args_clean (by kernel_rfl) (args_clean (by kernel_rfl) args_nil))) (F53_ok n a0 r1.2.1 31 r2 hr) (by kernel_rfl))) (fun r2 => ?_)
    refine SimI.run 7 [(9, .one (li .i64 r2.2.2)), (8, .one (li .i64 r2.2.1)), (10, .one (li .i64 r2.1)), (36, .one (li .i64 r2.2.2)), (35, .one (li .i64 r2.2.1)), (34, .one (li .i64 r2.1)), (30, .tup [.one (li .i64 r2.1), .one (li .i64 r2.2.1), .one (li .i64 r2.2.2)])] [] (by kernel_rfl) ?_
    refine SimI.done (by kernel_rfl) ?_
    refine SimE.thenN ?_
    refine Sim.seq ?_
    refine Sim.seq ?_
    refine Sim.region0 ?_
    refine SimI.run 2 [(38, .one (lb (r2.2.2 != 0))), (37, .one (li .i64 r2.2.2))] [] (by kernel_rfl) ?_
    refine SimI.done (by kernel_rfl) ?_
    refine SimE.thenN ?_
    refine Sim.cond (r2.2.2 != 0) (by kernel_rfl) ?_ ?_
    · refine Sim.seq ?_
      refine Sim.region0 ?_
      refine SimI.run 5 [(4, .one (li .i64 r2.2.2)), (3, .one (li .i64 0)), (40, .one (li .i64 r2.2.2)), (39, .agg [li .i64 0, li .u8 0, li .i64 0, li .i64 0, li .i64 0, ls ByteArray.empty, li .i64 0, ls ByteArray.empty, li .i64 0, ls ByteArray.empty, li .i64 0, ls ByteArray.empty])] [(2, some (.cells [li .i64 0, li .u8 0, li .i64 0, li .i64 0, li .i64 0, ls ByteArray.empty, li .i64 0, ls ByteArray.empty, li .i64 0, ls ByteArray.empty, li .i64 0, ls ByteArray.empty]))] (by kernel_rfl) ?_
      refine SimI.done (by kernel_rfl) ?_
      refine SimE.thenN ?_
      refine Sim.ret ?_
      refine SimE.thenR ?_
      exact SimE.fin (by kernel_rfl)
    · refine Sim.skip ?_
      refine SimE.thenN ?_
      refine Sim.seq ?_
      refine Sim.seq ?_
      refine Sim.region0 ?_
      refine SimI.run 3 [(43, .one (lb (decide ((1000000 : Int) < r1.1)))), (42, .one (lb (decide ((1000000 : Int) < r1.1)))), (41, .one (li .i64 r1.1))] [] (by kernel_rfl) ?_
      refine SimI.split 43 (decide ((1000000 : Int) < r1.1)) (by kernel_rfl) ?_ ?_
      · refine SimI.run 7 [(50, .one (lb true)), (49, .tup []), (48, .tup []), (47, .one (lb true)), (46, .one (lb true)), (45, .tup []), (44, .tup [])] [] (by kernel_rfl) ?_
        refine SimI.done (by kernel_rfl) ?_
        refine SimE.thenN ?_
        refine Sim.condT (by kernel_rfl) ?_
        refine Sim.seq ?_
        refine Sim.region0 ?_
        refine SimI.run 4 [(4, .one (li .i64 11)), (3, .one (li .i64 0)), (51, .agg [li .i64 0, li .u8 0, li .i64 0, li .i64 0, li .i64 0, ls ByteArray.empty, li .i64 0, ls ByteArray.empty, li .i64 0, ls ByteArray.empty, li .i64 0, ls ByteArray.empty])] [(2, some (.cells [li .i64 0, li .u8 0, li .i64 0, li .i64 0, li .i64 0, ls ByteArray.empty, li .i64 0, ls ByteArray.empty, li .i64 0, ls ByteArray.empty, li .i64 0, ls ByteArray.empty]))] (by kernel_rfl) ?_
        refine SimI.done (by kernel_rfl) ?_
        refine SimE.thenN ?_
        refine Sim.ret ?_
        refine SimE.thenR ?_
        exact SimE.fin (by kernel_rfl)
      · refine SimI.run 4 [(47, .one (lb (decide (r2.1 < 1)))), (46, .one (lb (decide (r2.1 < 1)))), (45, .one (lb (decide (r2.1 < 1)))), (44, .one (li .i64 r2.1))] [] (by kernel_rfl) ?_
        refine SimI.split 47 (decide (r2.1 < 1)) (by kernel_rfl) ?_ ?_
        · refine SimI.run 3 [(50, .one (lb true)), (49, .tup []), (48, .tup [])] [] (by kernel_rfl) ?_
          refine SimI.done (by kernel_rfl) ?_
          refine SimE.thenN ?_
          refine Sim.condT (by kernel_rfl) ?_
          refine Sim.seq ?_
          refine Sim.region0 ?_
          refine SimI.run 4 [(4, .one (li .i64 11)), (3, .one (li .i64 0)), (51, .agg [li .i64 0, li .u8 0, li .i64 0, li .i64 0, li .i64 0, ls ByteArray.empty, li .i64 0, ls ByteArray.empty, li .i64 0, ls ByteArray.empty, li .i64 0, ls ByteArray.empty])] [(2, some (.cells [li .i64 0, li .u8 0, li .i64 0, li .i64 0, li .i64 0, ls ByteArray.empty, li .i64 0, ls ByteArray.empty, li .i64 0, ls ByteArray.empty, li .i64 0, ls ByteArray.empty]))] (by kernel_rfl) ?_
          refine SimI.done (by kernel_rfl) ?_
          refine SimE.thenN ?_
          refine Sim.ret ?_
          refine SimE.thenR ?_
          exact SimE.fin (by kernel_rfl)
        · refine SimI.run 3 [(50, .one (lb (decide ((31 : Int) < r2.1)))), (49, .one (lb (decide ((31 : Int) < r2.1)))), (48, .one (li .i64 r2.1))] [] (by kernel_rfl) ?_
          refine SimI.done (by kernel_rfl) ?_
          refine SimE.thenN ?_
          refine Sim.cond (decide ((31 : Int) < r2.1)) (by kernel_rfl) ?_ ?_
          · refine Sim.seq ?_
            refine Sim.region0 ?_
            refine SimI.run 4 [(4, .one (li .i64 11)), (3, .one (li .i64 0)), (51, .agg [li .i64 0, li .u8 0, li .i64 0, li .i64 0, li .i64 0, ls ByteArray.empty, li .i64 0, ls ByteArray.empty, li .i64 0, ls ByteArray.empty, li .i64 0, ls ByteArray.empty])] [(2, some (.cells [li .i64 0, li .u8 0, li .i64 0, li .i64 0, li .i64 0, ls ByteArray.empty, li .i64 0, ls ByteArray.empty, li .i64 0, ls ByteArray.empty, li .i64 0, ls ByteArray.empty]))] (by kernel_rfl) ?_
            refine SimI.done (by kernel_rfl) ?_
            refine SimE.thenN ?_
            refine Sim.ret ?_
            refine SimE.thenR ?_
            exact SimE.fin (by kernel_rfl)
          · refine Sim.skip ?_
            refine SimE.thenN ?_
            refine Sim.seq ?_
            refine Sim.region0 ?_
            refine SimI.run 7 [(56, .one (.ptr 6 1)), (55, .one (.ptr 6 0)), (54, .one (li .u8 (IntKind.wrap .u8 r2.1))), (53, .one (li .i64 r2.1)), (52, .one (li .i64 r1.1))] [(6, some (.cells [li .i64 r1.1, li .u8 (IntKind.wrap .u8 r2.1), li .i64 0, li .i64 0, li .i64 0, ls ByteArray.empty, li .i64 0, ls ByteArray.empty, li .i64 0, ls ByteArray.empty, li .i64 0, ls ByteArray.empty])), (6, some (.cells [li .i64 r1.1, li .u8 0, li .i64 0, li .i64 0, li .i64 0, ls ByteArray.empty, li .i64 0, ls ByteArray.empty, li .i64 0, ls ByteArray.empty, li .i64 0, ls ByteArray.empty]))] (by kernel_rfl) ?_
            refine SimI.done (by kernel_rfl) ?_
            refine SimE.thenN ?_
            refine Sim.seq ?_
            refine Sim.seq ?_
            refine Sim.region0 ?_
            refine SimI.run 4 [(60, .one (lb ((bitsI .and .u8 (IntKind.wrap .u8 r2.1) 1) != 0))), (59, .one (li .u8 (bitsI .and .u8 (IntKind.wrap .u8 r2.1) 1))), (58, .one (li .u8 (IntKind.wrap .u8 r2.1))), (57, .one (.ptr 6 1))] [] (by kernel_rfl) ?_
            refine SimI.done (by kernel_rfl) ?_
            refine SimE.thenN ?_
            refine Sim.cond ((bitsI .and .u8 (IntKind.wrap .u8 r2.1) 1) != 0) (by kernel_rfl) ?_ ?_
            · refine Sim.seq ?_
              refine Sim.region0 ?_
              refine SimI.run 2 [(63, .one (li .i64 r2.2.1)), (62, .one (ls a0))] [] (by kernel_rfl) ?_
              refine SimI.bind (og := F53 n a0 r2.2.1 1048576) { dst := some 64, op := POp.call true [[], [], []] 53 [Operand.tmp 62, Operand.tmp 63, Operand.const (Value.int IntKind.u64 1048576)], guard := none, hints := [] } (fun r3 => [(64, .tup [.one (li .i64 r3.1), .one (li .i64 r3.2.1), .one (li .i64 r3.2.2)])]) (fun r3 => []) (by kernel_rfl) (fun r3 hr => pOp_eff (by kernel_rfl) (by kernel_rfl) (eff_call (ARGS := [.one (ls a0), .one (li .i64 r2.2.1), .one (li .u64 1048576)]) (by kernel_rfl) (args_clean (by kernel_rfl) (args_clean (by kernel_rfl) (args_clean (by kernel_rfl) args_nil))) (F53_ok n a0 r2.2.1 1048576 r3 hr) (by kernel_rfl))) (fun r3 => ?_)
              refine SimI.run 9 [(9, .one (li .i64 r3.2.2)), (8, .one (li .i64 r3.2.1)), (69, .one (.ptr 6 2)), (68, .one (.ptr 6 2)), (67, .one (li .i64 r3.2.2)), (66, .one (li .i64 r3.2.1)), (65, .one (li .i64 r3.1)), (61, .tup [.one (li .i64 r3.1), .one (li .i64 r3.2.1), .one (li .i64 r3.2.2)])] [(6, some (.cells [li .i64 r1.1, li .u8 (IntKind.wrap .u8 r2.1), li .i64 r3.1, li .i64 0, li .i64 0, ls ByteArray.empty, li .i64 0, ls ByteArray.empty, li .i64 0, ls ByteArray.empty, li .i64 0, ls ByteArray.empty]))] (by kernel_rfl) ?_
              refine SimI.done (by kernel_rfl) ?_
              refine SimE.thenN ?_
              refine Sim.seq ?_
              refine Sim.seq ?_
              refine Sim.region0 ?_
              refine SimI.run 2 [(71, .one (lb (r3.2.2 != 0))), (70, .one (li .i64 r3.2.2))] [] (by kernel_rfl) ?_
              refine SimI.done (by kernel_rfl) ?_
              refine SimE.thenN ?_
              refine Sim.cond (r3.2.2 != 0) (by kernel_rfl) ?_ ?_
              · refine Sim.seq ?_
                refine Sim.region0 ?_
                refine SimI.run 5 [(4, .one (li .i64 r3.2.2)), (3, .one (li .i64 0)), (73, .one (li .i64 r3.2.2)), (72, .agg [li .i64 0, li .u8 0, li .i64 0, li .i64 0, li .i64 0, ls ByteArray.empty, li .i64 0, ls ByteArray.empty, li .i64 0, ls ByteArray.empty, li .i64 0, ls ByteArray.empty])] [(2, some (.cells [li .i64 0, li .u8 0, li .i64 0, li .i64 0, li .i64 0, ls ByteArray.empty, li .i64 0, ls ByteArray.empty, li .i64 0, ls ByteArray.empty, li .i64 0, ls ByteArray.empty]))] (by kernel_rfl) ?_
                refine SimI.done (by kernel_rfl) ?_
                refine SimE.thenN ?_
                refine Sim.ret ?_
                refine SimE.thenR ?_
                refine SimE.thenR ?_
                exact SimE.fin (by kernel_rfl)
              · refine Sim.skip ?_
                refine SimE.thenN ?_
                refine Sim.seq ?_
                refine Sim.region0 ?_
                refine SimI.run 2 [(76, .one (li .i64 r3.2.1)), (75, .one (ls a0))] [] (by kernel_rfl) ?_
                refine SimI.bind (og := F53 n a0 r3.2.1 1048576) { dst := some 77, op := POp.call true [[], [], []] 53 [Operand.tmp 75, Operand.tmp 76, Operand.const (Value.int IntKind.u64 1048576)], guard := none, hints := [] } (fun r4 => [(77, .tup [.one (li .i64 r4.1), .one (li .i64 r4.2.1), .one (li .i64 r4.2.2)])]) (fun r4 => []) (by kernel_rfl) (fun r4 hr => pOp_eff (by kernel_rfl) (by kernel_rfl) (eff_call (ARGS := [.one (ls a0), .one (li .i64 r3.2.1), .one (li .u64 1048576)]) (by kernel_rfl) (args_clean (by kernel_rfl) (args_clean (by kernel_rfl) (args_clean (by kernel_rfl) args_nil))) (F53_ok n a0 r3.2.1 1048576 r4 hr) (by kernel_rfl))) (fun r4 => ?_)
                refine SimI.run 9 [(9, .one (li .i64 r4.2.2)), (8, .one (li .i64 r4.2.1)), (82, .one (.ptr 6 3)), (81, .one (.ptr 6 2)), (80, .one (li .i64 r4.2.2)), (79, .one (li .i64 r4.2.1)), (78, .one (li .i64 r4.1)), (74, .tup [.one (li .i64 r4.1), .one (li .i64 r4.2.1), .one (li .i64 r4.2.2)])] [(6, some (.cells [li .i64 r1.1, li .u8 (IntKind.wrap .u8 r2.1), li .i64 r3.1, li .i64 r4.1, li .i64 0, ls ByteArray.empty, li .i64 0, ls ByteArray.empty, li .i64 0, ls ByteArray.empty, li .i64 0, ls ByteArray.empty]))] (by kernel_rfl) ?_
                refine SimI.done (by kernel_rfl) ?_
                refine SimE.thenN ?_
                refine Sim.seq ?_
                refine Sim.region0 ?_
                refine SimI.run 2 [(84, .one (lb (r4.2.2 != 0))), (83, .one (li .i64 r4.2.2))] [] (by kernel_rfl) ?_
                refine SimI.done (by kernel_rfl) ?_
                refine SimE.thenN ?_
                refine Sim.cond (r4.2.2 != 0) (by kernel_rfl) ?_ ?_
                · refine Sim.seq ?_
                  refine Sim.region0 ?_
                  refine SimI.run 5 [(4, .one (li .i64 r4.2.2)), (3, .one (li .i64 0)), (86, .one (li .i64 r4.2.2)), (85, .agg [li .i64 0, li .u8 0, li .i64 0, li .i64 0, li .i64 0, ls ByteArray.empty, li .i64 0, ls ByteArray.empty, li .i64 0, ls ByteArray.empty, li .i64 0, ls ByteArray.empty])] [(2, some (.cells [li .i64 0, li .u8 0, li .i64 0, li .i64 0, li .i64 0, ls ByteArray.empty, li .i64 0, ls ByteArray.empty, li .i64 0, ls ByteArray.empty, li .i64 0, ls ByteArray.empty]))] (by kernel_rfl) ?_
                  refine SimI.done (by kernel_rfl) ?_
                  refine SimE.thenN ?_
                  refine Sim.ret ?_
                  refine SimE.thenR ?_
                  exact SimE.fin (by kernel_rfl)
                · refine Sim.skip ?_
                  refine SimE.thenN ?_
                  refine Sim.pre (ts := [0, 2, 5, 6, 8]) (os := [2, 5, 6]) [(0, .one (ls a0)), (2, .one (.ptr 2 0)), (5, .one (.ptr 5 0)), (6, .one (.ptr 6 0)), (8, .one (li .i64 r4.2.1))] ((2, some (.cells [li .i64 0, li .u8 0, li .i64 0, li .i64 0, li .i64 0, ls ByteArray.empty, li .i64 0, ls ByteArray.empty, li .i64 0, ls ByteArray.empty, li .i64 0, ls ByteArray.empty])) :: ((5, some (.cells [li .i64 0, li .u8 0, li .i64 0, li .i64 0, li .i64 0, ls ByteArray.empty, li .i64 0, ls ByteArray.empty, li .i64 0, ls ByteArray.empty, li .i64 0, ls ByteArray.empty])) :: ((6, some (.cells [li .i64 r1.1, li .u8 (IntKind.wrap .u8 r2.1), li .i64 r3.1, li .i64 r4.1, li .i64 0, ls ByteArray.empty, li .i64 0, ls ByteArray.empty, li .i64 0, ls ByteArray.empty, li .i64 0, ls ByteArray.empty])) :: []))) (by kernel_rfl) (by kernel_rfl) (by kernel_rfl) ?_
                  exact F30_j8_ok n a0 r1 r2 r4.2.1 r3.1 r4.1
            · refine Sim.skip ?_
              refine SimE.thenN ?_
              refine Sim.pre (ts := [0, 2, 5, 6, 8]) (os := [2, 5, 6]) [(0, .one (ls a0)), (2, .one (.ptr 2 0)), (5, .one (.ptr 5 0)), (6, .one (.ptr 6 0)), (8, .one (li .i64 r2.2.1))] ((2, some (.cells [li .i64 0, li .u8 0, li .i64 0, li .i64 0, li .i64 0, ls ByteArray.empty, li .i64 0, ls ByteArray.empty, li .i64 0, ls ByteArray.empty, li .i64 0, ls ByteArray.empty])) :: ((5, some (.cells [li .i64 0, li .u8 0, li .i64 0, li .i64 0, li .i64 0, ls ByteArray.empty, li .i64 0, ls ByteArray.empty, li .i64 0, ls ByteArray.empty, li .i64 0, ls ByteArray.empty])) :: ((6, some (.cells [li .i64 r1.1, li .u8 (IntKind.wrap .u8 r2.1), li .i64 0, li .i64 0, li .i64 0, ls ByteArray.empty, li .i64 0, ls ByteArray.empty, li .i64 0, ls ByteArray.empty, li .i64 0, ls ByteArray.empty])) :: []))) (by kernel_rfl) (by kernel_rfl) (by kernel_rfl) ?_
              exact F30_j8_ok n a0 r1 r2 r2.2.1 0 0


-- 4: vedette/vedettelaw6.FieldsRead
def F4_e : Bool → PV × List (List Lf) := fun r => (.one (lb r), [])
def F4 (n : Nat) (a0 : ByteArray) : Option Bool :=
  ((some true)).bind fun (r1 : Bool) =>
  if !(r1) then
    some false
  else
    if decide ((400 : Int) < (a0.size : Int)) then
      some true
    else
      (F29 n a0).bind fun (r2 : (Delta × Int × Int)) =>
      (F30 n a0).bind fun (r3 : (Delta × Int × Int)) =>
      if Delta.eqb r2.1 r3.1 then
        if r2.2.1 == r3.2.1 then
          some (r2.2.2 == r3.2.2)
        else
          some false
      else
        some false
theorem F4_ok (n : Nat) (a0 : ByteArray) : ∀ r, F4 n a0 = some r → D 4 [.one (ls a0)] [] = some (F4_e r) := by
  refine fn_to (D := D) (n := n + 8) (nt := 39) (rs := pc4_r) (c := pc4_c25) (L := [(0, .one (ls a0))]) (M := []) (k := 0) rfl rfl rfl rfl rfl rfl ?_
  unfold F4
  refine Sim.seq ?_
  refine Sim.region0 ?_
  refine SimI.run 1 [(2, .one (lb false))] [] (by kernel_rfl) ?_
  refine SimI.done (by kernel_rfl) ?_
  refine SimE.thenN ?_
  refine Sim.seq ?_
  refine Sim.seq ?_
  refine Sim.region0 ?_
  refine SimI.bind (og := (some true)) { dst := some 9, op := POp.call true [] 14 [], guard := none, hints := [] } (fun r1 => [(9, .one (lb r1))]) (fun r1 => []) (by kernel_rfl) (fun r1 hr => pOp_eff (by kernel_rfl) (by kernel_rfl) (eff_call (ARGS := []) (by kernel_rfl) (args_nil) (F14_ok n r1 hr) (by kernel_rfl))) (fun r1 => ?_)
  refine SimI.run 1 [(10, .one (lb (!(r1))))] [] (by kernel_rfl) ?_
  refine SimI.done (by kernel_rfl) ?_
  refine SimE.thenN ?_
  refine Sim.cond (!(r1)) (by kernel_rfl) ?_ ?_
  · refine Sim.seq ?_
    refine Sim.region0 ?_
    refine SimI.run 1 [(2, .one (lb false))] [] (by kernel_rfl) ?_
    refine SimI.done (by kernel_rfl) ?_
    refine SimE.thenN ?_
    refine Sim.ret ?_
    refine SimE.thenR ?_
    exact SimE.fin (by kernel_rfl)
  · refine Sim.skip ?_
    refine SimE.thenN ?_
    refine Sim.seq ?_
    refine Sim.seq ?_
    refine Sim.region0 ?_
    refine SimI.run 3 [(13, .one (lb (decide ((400 : Int) < (a0.size : Int))))), (12, .one (li .i64 (a0.size : Int))), (11, .one (ls a0))] [] (by kernel_rfl) ?_
    refine SimI.done (by kernel_rfl) ?_
    refine SimE.thenN ?_
    refine Sim.cond (decide ((400 : Int) < (a0.size : Int))) (by kernel_rfl) ?_ ?_
    · refine Sim.seq ?_
      refine Sim.region0 ?_
      refine SimI.run 1 [(2, .one (lb true))] [] (by kernel_rfl) ?_
      refine SimI.done (by kernel_rfl) ?_
      refine SimE.thenN ?_
      refine Sim.ret ?_
      refine SimE.thenR ?_
      exact SimE.fin (by kernel_rfl)
    · refine Sim.skip ?_
      refine SimE.thenN ?_
      refine Sim.seq ?_
      refine Sim.region0 ?_
      refine SimI.run 1 [(15, .one (ls a0))] [] (by kernel_rfl) ?_
      refine SimI.bind (og := F29 n a0) { dst := some 16, op := POp.call true [[]] 29 [Operand.tmp 15], guard := none, hints := [] } (fun r2 => [(16, .tup [.agg [li .i64 r2.1.ID, li .u8 r2.1.Mask, li .i64 r2.1.At.X, li .i64 r2.1.At.Y, li .i64 r2.1.F.a0.N, ls r2.1.F.a0.Text, li .i64 r2.1.F.a1.N, ls r2.1.F.a1.Text, li .i64 r2.1.F.a2.N, ls r2.1.F.a2.Text, li .i64 r2.1.F.a3.N, ls r2.1.F.a3.Text], .one (li .i64 r2.2.1), .one (li .i64 r2.2.2)])]) (fun r2 => []) (by kernel_rfl) (fun r2 hr => pOp_eff (by kernel_rfl) (by kernel_rfl) (eff_call (ARGS := [.one (ls a0)]) (by kernel_rfl) (args_clean (by kernel_rfl) args_nil) (F29_ok n a0 r2 hr) (by kernel_rfl))) (fun r2 => ?_)
      refine SimI.run 8 [(5, .one (li .i64 r2.2.2)), (4, .one (li .i64 r2.2.1)), (3, .one (.ptr 3 0)), (19, .one (li .i64 r2.2.2)), (18, .one (li .i64 r2.2.1)), (17, .agg [li .i64 r2.1.ID, li .u8 r2.1.Mask, li .i64 r2.1.At.X, li .i64 r2.1.At.Y, li .i64 r2.1.F.a0.N, ls r2.1.F.a0.Text, li .i64 r2.1.F.a1.N, ls r2.1.F.a1.Text, li .i64 r2.1.F.a2.N, ls r2.1.F.a2.Text, li .i64 r2.1.F.a3.N, ls r2.1.F.a3.Text]), (14, .tup [.agg [li .i64 r2.1.ID, li .u8 r2.1.Mask, li .i64 r2.1.At.X, li .i64 r2.1.At.Y, li .i64 r2.1.F.a0.N, ls r2.1.F.a0.Text, li .i64 r2.1.F.a1.N, ls r2.1.F.a1.Text, li .i64 r2.1.F.a2.N, ls r2.1.F.a2.Text, li .i64 r2.1.F.a3.N, ls r2.1.F.a3.Text], .one (li .i64 r2.2.1), .one (li .i64 r2.2.2)])] [(3, some (.cells [li .i64 r2.1.ID, li .u8 r2.1.Mask, li .i64 r2.1.At.X, li .i64 r2.1.At.Y, li .i64 r2.1.F.a0.N, ls r2.1.F.a0.Text, li .i64 r2.1.F.a1.N, ls r2.1.F.a1.Text, li .i64 r2.1.F.a2.N, ls r2.1.F.a2.Text, li .i64 r2.1.F.a3.N, ls r2.1.F.a3.Text])), (3, some (.cells [li .i64 0, li .u8 0, li .i64 0, li .i64 0, li .i64 0, ls ByteArray.empty, li .i64 0, ls ByteArray.empty, li .i64 0, ls ByteArray.empty, li .i64 0, ls ByteArray.empty]))] (by kernel_rfl) ?_
      refine SimI.done (by kernel_rfl) ?_
      refine SimE.thenN ?_
      refine Sim.seq ?_
      refine Sim.region0 ?_
      refine SimI.run 1 [(21, .one (ls a0))] [] (by kernel_rfl) ?_
      refine SimI.bind (og := F30 n a0) { dst := some 22, op := POp.call true [[]] 30 [Operand.tmp 21], guard := none, hints := [] } (fun r3 => [(22, .tup [.agg [li .i64 r3.1.ID, li .u8 r3.1.Mask, li .i64 r3.1.At.X, li .i64 r3.1.At.Y, li .i64 r3.1.F.a0.N, ls r3.1.F.a0.Text, li .i64 r3.1.F.a1.N, ls r3.1.F.a1.Text, li .i64 r3.1.F.a2.N, ls r3.1.F.a2.Text, li .i64 r3.1.F.a3.N, ls r3.1.F.a3.Text], .one (li .i64 r3.2.1), .one (li .i64 r3.2.2)])]) (fun r3 => []) (by kernel_rfl) (fun r3 hr => pOp_eff (by kernel_rfl) (by kernel_rfl) (eff_call (ARGS := [.one (ls a0)]) (by kernel_rfl) (args_clean (by kernel_rfl) args_nil) (F30_ok n a0 r3 hr) (by kernel_rfl))) (fun r3 => ?_)
      refine SimI.run 8 [(8, .one (li .i64 r3.2.2)), (7, .one (li .i64 r3.2.1)), (6, .one (.ptr 6 0)), (25, .one (li .i64 r3.2.2)), (24, .one (li .i64 r3.2.1)), (23, .agg [li .i64 r3.1.ID, li .u8 r3.1.Mask, li .i64 r3.1.At.X, li .i64 r3.1.At.Y, li .i64 r3.1.F.a0.N, ls r3.1.F.a0.Text, li .i64 r3.1.F.a1.N, ls r3.1.F.a1.Text, li .i64 r3.1.F.a2.N, ls r3.1.F.a2.Text, li .i64 r3.1.F.a3.N, ls r3.1.F.a3.Text]), (20, .tup [.agg [li .i64 r3.1.ID, li .u8 r3.1.Mask, li .i64 r3.1.At.X, li .i64 r3.1.At.Y, li .i64 r3.1.F.a0.N, ls r3.1.F.a0.Text, li .i64 r3.1.F.a1.N, ls r3.1.F.a1.Text, li .i64 r3.1.F.a2.N, ls r3.1.F.a2.Text, li .i64 r3.1.F.a3.N, ls r3.1.F.a3.Text], .one (li .i64 r3.2.1), .one (li .i64 r3.2.2)])] [(6, some (.cells [li .i64 r3.1.ID, li .u8 r3.1.Mask, li .i64 r3.1.At.X, li .i64 r3.1.At.Y, li .i64 r3.1.F.a0.N, ls r3.1.F.a0.Text, li .i64 r3.1.F.a1.N, ls r3.1.F.a1.Text, li .i64 r3.1.F.a2.N, ls r3.1.F.a2.Text, li .i64 r3.1.F.a3.N, ls r3.1.F.a3.Text])), (6, some (.cells [li .i64 0, li .u8 0, li .i64 0, li .i64 0, li .i64 0, ls ByteArray.empty, li .i64 0, ls ByteArray.empty, li .i64 0, ls ByteArray.empty, li .i64 0, ls ByteArray.empty]))] (by kernel_rfl) ?_
      refine SimI.done (by kernel_rfl) ?_
      refine SimE.thenN ?_
      refine Sim.seq ?_
      refine Sim.region0 ?_
      refine SimI.run 2 [(27, .agg [li .i64 r3.1.ID, li .u8 r3.1.Mask, li .i64 r3.1.At.X, li .i64 r3.1.At.Y, li .i64 r3.1.F.a0.N, ls r3.1.F.a0.Text, li .i64 r3.1.F.a1.N, ls r3.1.F.a1.Text, li .i64 r3.1.F.a2.N, ls r3.1.F.a2.Text, li .i64 r3.1.F.a3.N, ls r3.1.F.a3.Text]), (26, .agg [li .i64 r2.1.ID, li .u8 r2.1.Mask, li .i64 r2.1.At.X, li .i64 r2.1.At.Y, li .i64 r2.1.F.a0.N, ls r2.1.F.a0.Text, li .i64 r2.1.F.a1.N, ls r2.1.F.a1.Text, li .i64 r2.1.F.a2.N, ls r2.1.F.a2.Text, li .i64 r2.1.F.a3.N, ls r2.1.F.a3.Text])] [] (by kernel_rfl) ?_
      refine SimI.step { dst := some 28, op := POp.prim (Prim.bin BinOp.eql 30 false false) [Operand.tmp 26, Operand.tmp 27], guard := none, hints := [] } [(28, .one (lb (Delta.eqb r2.1 r3.1)))] [] (by kernel_rfl) (pOp_eff (by kernel_rfl) (by kernel_rfl) (eff_prim (by kernel_rfl) (Delta_eql r2.1 r3.1 _ _))) ?_
      refine SimI.run 1 [(29, .one (lb (Delta.eqb r2.1 r3.1)))] [] (by kernel_rfl) ?_
      refine SimI.split 29 (Delta.eqb r2.1 r3.1) (by kernel_rfl) ?_ ?_
      · refine SimI.run 5 [(34, .one (lb (r2.2.1 == r3.2.1))), (33, .one (lb (r2.2.1 == r3.2.1))), (32, .one (lb (r2.2.1 == r3.2.1))), (31, .one (li .i64 r3.2.1)), (30, .one (li .i64 r2.2.1))] [] (by kernel_rfl) ?_
        refine SimI.split 34 (r2.2.1 == r3.2.1) (by kernel_rfl) ?_ ?_
        · refine SimI.run 5 [(2, .one (lb (r2.2.2 == r3.2.2))), (38, .one (lb (r2.2.2 == r3.2.2))), (37, .one (lb (r2.2.2 == r3.2.2))), (36, .one (li .i64 r3.2.2)), (35, .one (li .i64 r2.2.2))] [] (by kernel_rfl) ?_
          refine SimI.done (by kernel_rfl) ?_
          refine SimE.thenN ?_
          refine Sim.ret ?_
          exact SimE.fin (by kernel_rfl)
        · refine SimI.run 5 [(2, .one (lb false)), (38, .one (lb false)), (37, .tup []), (36, .tup []), (35, .tup [])] [] (by kernel_rfl) ?_
          refine SimI.done (by kernel_rfl) ?_
          refine SimE.thenN ?_
          refine Sim.ret ?_
          exact SimE.fin (by kernel_rfl)
      · refine SimI.run 10 [(2, .one (lb false)), (38, .one (lb false)), (37, .tup []), (36, .tup []), (35, .tup []), (34, .one (lb false)), (33, .one (lb false)), (32, .tup []), (31, .tup []), (30, .tup [])] [] (by kernel_rfl) ?_
        refine SimI.done (by kernel_rfl) ?_
        refine SimE.thenN ?_
        refine Sim.ret ?_
        exact SimE.fin (by kernel_rfl)


end Go.Proofs.Ythmbegagkgdopaa
