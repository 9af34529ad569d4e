/-
  Functions of the program as functions of Lean. No condition.
-/
import Derived.Test.YthmbegagkgdopaaFieldsReadP0
namespace Go.Proofs.Ythmbegagkgdopaa
open Go Go.Rx
set_option maxRecDepth 100000
set_option linter.unusedVariables false
set_option linter.unusedSimpArgs false
set_option linter.unnecessarySimpa false
-- 29: vedette/fields.Read
def F29_e : (Delta × Int × Int) → PV × List (List Lf) := fun r => (.tup [.agg [li .i64 r.1.ID, li .u8 r.1.Mask, li .i64 r.1.At.X, li .i64 r.1.At.Y, li .i64 r.1.F.a0.N, ls r.1.F.a0.Text, li .i64 r.1.F.a1.N, ls r.1.F.a1.Text, li .i64 r.1.F.a2.N, ls r.1.F.a2.Text, li .i64 r.1.F.a3.N, ls r.1.F.a3.Text], .one (li .i64 r.2.1), .one (li .i64 r.2.2)], [])
def F29_j49 (n : Nat) (r1 : (Int × Reader)) (r2 : (Int × Reader)) (r4 : (Int × Reader)) (r5 : (Int × Reader)) (i38 : Int) (s39 : ByteArray) (i40 : Int) (s41 : ByteArray) (i42 : Int) (s43 : ByteArray) (i44 : Int) (s45 : ByteArray) (s46 : ByteArray) (i47 : Int) (i48 : Int) : Option (Delta × Int × Int) :=
    if i48 != 0 then
      some ((Delta.mk 0 0 (Point.mk 0 0) (A4.mk (Field.mk 0 ByteArray.empty) (Field.mk 0 ByteArray.empty) (Field.mk 0 ByteArray.empty) (Field.mk 0 ByteArray.empty))), 0, i48)
    else
      (F25 n (Delta.mk r1.1 (IntKind.wrap .u8 r2.1) (Point.mk r4.1 r5.1) (A4.mk (Field.mk i38 s39) (Field.mk i40 s41) (Field.mk i42 s43) (Field.mk i44 s45)))).bind fun (r50 : Bool) =>
      if !(r50) then
        some ((Delta.mk 0 0 (Point.mk 0 0) (A4.mk (Field.mk 0 ByteArray.empty) (Field.mk 0 ByteArray.empty) (Field.mk 0 ByteArray.empty) (Field.mk 0 ByteArray.empty))), 0, 11)
      else
        some ((Delta.mk r1.1 (IntKind.wrap .u8 r2.1) (Point.mk r4.1 r5.1) (A4.mk (Field.mk i38 s39) (Field.mk i40 s41) (Field.mk i42 s43) (Field.mk i44 s45))), i47, 0)
theorem F29_j49_ok (n : Nat) (r1 : (Int × Reader)) (r2 : (Int × Reader)) (r4 : (Int × Reader)) (r5 : (Int × Reader)) (i38 : Int) (s39 : ByteArray) (i40 : Int) (s41 : ByteArray) (i42 : Int) (s43 : ByteArray) (i44 : Int) (s45 : ByteArray) (s46 : ByteArray) (i47 : Int) (i48 : Int) : Sim Try.prog D (n + 8) pc29_c65 [(2, .one (.ptr 2 0)), (5, .one (.ptr 11 0)), (6, .one (.ptr 6 0))] ((2, some (.cells [li .i64 0, li .u8 0, li .i64 0, li .i64 0, li .i64 0, ls ByteArray.empty, li .i64 0, ls ByteArray.empty, li .i64 0, ls ByteArray.empty, li .i64 0, ls ByteArray.empty])) :: ((6, some (.cells [li .i64 r1.1, li .u8 (IntKind.wrap .u8 r2.1), li .i64 r4.1, li .i64 r5.1, li .i64 i38, ls s39, li .i64 i40, ls s41, li .i64 i42, ls s43, li .i64 i44, ls s45])) :: ((11, some (.cells [ls s46, li .i64 i47, li .i64 i48])) :: []))) (F29_j49 n r1 r2 r4 r5 i38 s39 i40 s41 i42 s43 i44 s45 s46 i47 i48) (QF pc29_r 0 F29_e) := by
    unfold F29_j49
    refine Sim.seq ?_
    refine Sim.seq ?_
    refine Sim.region [(2, .one (.ptr 2 0)), (5, .one (.ptr 11 0)), (6, .one (.ptr 6 0))] ((2, some (.cells [li .i64 0, li .u8 0, li .i64 0, li .i64 0, li .i64 0, ls ByteArray.empty, li .i64 0, ls ByteArray.empty, li .i64 0, ls ByteArray.empty, li .i64 0, ls ByteArray.empty])) :: ((6, some (.cells [li .i64 r1.1, li .u8 (IntKind.wrap .u8 r2.1), li .i64 r4.1, li .i64 r5.1, li .i64 i38, ls s39, li .i64 i40, ls s41, li .i64 i42, ls s43, li .i64 i44, ls s45])) :: ((11, some (.cells [ls s46, li .i64 i47, li .i64 i48])) :: []))) (by kernel_rfl) ?_
    refine SimI.run 5 [(75, .one (lb (i48 != 0))), (74, .one (li .i64 i48)), (73, .one (.ptr 11 2)), (72, .one (.ptr 11 0)), (71, .one (.ptr 11 0))] [] (by kernel_rfl) ?_
    refine SimI.done (by kernel_rfl) ?_
    refine SimE.thenN ?_
    refine Sim.cond (i48 != 0) (by kernel_rfl) ?_ ?_
    · refine Sim.seq ?_
      refine Sim.region0 ?_
      refine SimI.run 8 [(4, .one (li .i64 i48)), (3, .one (li .i64 0)), (80, .one (li .i64 i48)), (79, .one (.ptr 11 2)), (78, .one (.ptr 11 0)), (77, .one (.ptr 11 0)), (76, .agg [li .i64 0, li .u8 0, li .i64 0, li .i64 0, li .i64 0, ls ByteArray.empty, li .i64 0, ls ByteArray.empty, li .i64 0, ls ByteArray.empty, li .i64 0, ls ByteArray.empty])] [(2, some (.cells [li .i64 0, li .u8 0, li .i64 0, li .i64 0, li .i64 0, ls ByteArray.empty, li .i64 0, ls ByteArray.empty, li .i64 0, ls ByteArray.empty, li .i64 0, ls ByteArray.empty]))] (by kernel_rfl) ?_
      refine SimI.done (by kernel_rfl) ?_
      refine SimE.thenN ?_
      refine Sim.ret ?_
      refine SimE.thenR ?_
      exact SimE.fin (by kernel_rfl)
    · refine Sim.skip ?_
      refine SimE.thenN ?_
      refine Sim.seq ?_
      refine Sim.seq ?_
      refine Sim.region0 ?_
      refine SimI.run 1 [(81, .agg [li .i64 r1.1, li .u8 (IntKind.wrap .u8 r2.1), li .i64 r4.1, li .i64 r5.1, li .i64 i38, ls s39, li .i64 i40, ls s41, li .i64 i42, ls s43, li .i64 i44, ls s45])] [] (by kernel_rfl) ?_
      refine SimI.bind (og := F25 n (Delta.mk r1.1 (IntKind.wrap .u8 r2.1) (Point.mk r4.1 r5.1) (A4.mk (Field.mk i38 s39) (Field.mk i40 s41) (Field.mk i42 s43) (Field.mk i44 s45)))) { dst := some 82, op := POp.call true [[]] 25 [Operand.tmp 81], guard := none, hints := [] } (fun r50 => [(82, .one (lb r50))]) (fun r50 => []) (by kernel_rfl) (fun r50 hr => pOp_eff (by kernel_rfl) (by kernel_rfl) (eff_call (ARGS := [.agg [li .i64 r1.1, li .u8 (IntKind.wrap .u8 r2.1), li .i64 r4.1, li .i64 r5.1, li .i64 i38, ls s39, li .i64 i40, ls s41, li .i64 i42, ls s43, li .i64 i44, ls s45]]) (by kernel_rfl) (args_clean (by kernel_rfl) args_nil) (F25_ok n (Delta.mk r1.1 (IntKind.wrap .u8 r2.1) (Point.mk r4.1 r5.1) (A4.mk (Field.mk i38 s39) (Field.mk i40 s41) (Field.mk i42 s43) (Field.mk i44 s45))) r50 hr) (by kernel_rfl))) (fun r50 => ?_)
      refine SimI.run 1 [(83, .one (lb (!(r50))))] [] (by kernel_rfl) ?_
      refine SimI.done (by kernel_rfl) ?_
      refine SimE.thenN ?_
      refine Sim.cond (!(r50)) (by kernel_rfl) ?_ ?_
      · refine Sim.seq ?_
        refine Sim.region0 ?_
        refine SimI.run 4 [(4, .one (li .i64 11)), (3, .one (li .i64 0)), (84, .agg [li .i64 0, li .u8 0, li .i64 0, li .i64 0, li .i64 0, ls ByteArray.empty, li .i64 0, ls ByteArray.empty, li .i64 0, ls ByteArray.empty, li .i64 0, ls ByteArray.empty])] [(2, some (.cells [li .i64 0, li .u8 0, li .i64 0, li .i64 0, li .i64 0, ls ByteArray.empty, li .i64 0, ls ByteArray.empty, li .i64 0, ls ByteArray.empty, li .i64 0, ls ByteArray.empty]))] (by kernel_rfl) ?_
        refine SimI.done (by kernel_rfl) ?_
        refine SimE.thenN ?_
        refine Sim.ret ?_
        refine SimE.thenR ?_
        exact SimE.fin (by kernel_rfl)
      · refine Sim.skip ?_
        refine SimE.thenN ?_
        refine Sim.seq ?_
        refine Sim.region0 ?_
        refine SimI.run 8 [(4, .one (li .i64 0)), (3, .one (li .i64 i47)), (89, .one (li .i64 i47)), (88, .one (.ptr 11 1)), (87, .one (.ptr 11 0)), (86, .one (.ptr 11 0)), (85, .agg [li .i64 r1.1, li .u8 (IntKind.wrap .u8 r2.1), li .i64 r4.1, li .i64 r5.1, li .i64 i38, ls s39, li .i64 i40, ls s41, li .i64 i42, ls s43, li .i64 i44, ls s45])] [(2, some (.cells [li .i64 r1.1, li .u8 (IntKind.wrap .u8 r2.1), li .i64 r4.1, li .i64 r5.1, li .i64 i38, ls s39, li .i64 i40, ls s41, li .i64 i42, ls s43, li .i64 i44, ls s45]))] (by kernel_rfl) ?_
        refine SimI.done (by kernel_rfl) ?_
        refine SimE.thenN ?_
        refine Sim.ret ?_
        exact SimE.fin (by kernel_rfl)

def F29_u37 (n : Nat) (r1 : (Int × Reader)) (r2 : (Int × Reader)) (r4 : (Int × Reader)) (r5 : (Int × Reader)) (ii8 : Int) (s9 : ByteArray) (ii16 : Int) (s17 : ByteArray) (i24 : Int) (s25 : ByteArray) (ii32 : Int) (s33 : ByteArray) (s34 : ByteArray) (i35 : Int) (i36 : Int) : Option (Delta × Int × Int) :=
    F29_j49 n r1 r2 r4 r5 ii8 s9 ii16 s17 i24 s25 ii32 s33 s34 i35 i36
theorem F29_u37_ok (n : Nat) (r1 : (Int × Reader)) (r2 : (Int × Reader)) (r4 : (Int × Reader)) (r5 : (Int × Reader)) (ii8 : Int) (s9 : ByteArray) (ii16 : Int) (s17 : ByteArray) (i24 : Int) (s25 : ByteArray) (ii32 : Int) (s33 : ByteArray) (s34 : ByteArray) (i35 : Int) (i36 : Int) : SimL Try.prog D (n + 8) (n + 4) pc29_c43 [(2, .one (.ptr 2 0)), (5, .one (.ptr 11 0)), (6, .one (.ptr 6 0)), (51, .one (li .i64 4))] ((2, some (.cells [li .i64 0, li .u8 0, li .i64 0, li .i64 0, li .i64 0, ls ByteArray.empty, li .i64 0, ls ByteArray.empty, li .i64 0, ls ByteArray.empty, li .i64 0, ls ByteArray.empty])) :: ((6, some (.cells [li .i64 r1.1, li .u8 (IntKind.wrap .u8 r2.1), li .i64 r4.1, li .i64 r5.1, li .i64 ii8, ls s9, li .i64 ii16, ls s17, li .i64 i24, ls s25, li .i64 ii32, ls s33])) :: ((11, some (.cells [ls s34, li .i64 i35, li .i64 i36])) :: []))) (F29_u37 n r1 r2 r4 r5 ii8 s9 ii16 s17 i24 s25 ii32 s33 s34 i35 i36) (QB 0 (QT Try.prog D (n + 8) pc29_c65 (QF pc29_r 0 F29_e))) := by
    unfold F29_u37
    refine SimL.succ ?_
    refine Sim.seq ?_
    refine Sim.region [(2, .one (.ptr 2 0)), (5, .one (.ptr 11 0)), (6, .one (.ptr 6 0)), (51, .one (li .i64 4))] ((2, some (.cells [li .i64 0, li .u8 0, li .i64 0, li .i64 0, li .i64 0, ls ByteArray.empty, li .i64 0, ls ByteArray.empty, li .i64 0, ls ByteArray.empty, li .i64 0, ls ByteArray.empty])) :: ((6, some (.cells [li .i64 r1.1, li .u8 (IntKind.wrap .u8 r2.1), li .i64 r4.1, li .i64 r5.1, li .i64 ii8, ls s9, li .i64 ii16, ls s17, li .i64 i24, ls s25, li .i64 ii32, ls s33])) :: ((11, some (.cells [ls s34, li .i64 i35, li .i64 i36])) :: []))) (by kernel_rfl) ?_
    refine SimI.run 1 [(52, .one (lb false))] [] (by kernel_rfl) ?_
    refine SimI.done (by kernel_rfl) ?_
    refine SimE.thenN ?_
    refine Sim.seq ?_
    refine Sim.condF (by kernel_rfl) ?_
    refine Sim.exit ?_
    refine SimE.thenX ?_
    refine SimE.loopX ?_
    refine SimE.blockX ?_
    refine SimE.thenN ?_
    refine Sim.pre (ts := [2, 5, 6]) (os := [2, 6, 11]) [(2, .one (.ptr 2 0)), (5, .one (.ptr 11 0)), (6, .one (.ptr 6 0))] ((2, some (.cells [li .i64 0, li .u8 0, li .i64 0, li .i64 0, li .i64 0, ls ByteArray.empty, li .i64 0, ls ByteArray.empty, li .i64 0, ls ByteArray.empty, li .i64 0, ls ByteArray.empty])) :: ((6, some (.cells [li .i64 r1.1, li .u8 (IntKind.wrap .u8 r2.1), li .i64 r4.1, li .i64 r5.1, li .i64 ii8, ls s9, li .i64 ii16, ls s17, li .i64 i24, ls s25, li .i64 ii32, ls s33])) :: ((11, some (.cells [ls s34, li .i64 i35, li .i64 i36])) :: []))) (by kernel_rfl) (by kernel_rfl) (by kernel_rfl) ?_
    exact F29_j49_ok n r1 r2 r4 r5 ii8 s9 ii16 s17 i24 s25 ii32 s33 s34 i35 i36

def F29_u29 (n : Nat) (r1 : (Int × Reader)) (r2 : (Int × Reader)) (r4 : (Int × Reader)) (r5 : (Int × Reader)) (ii8 : Int) (s9 : ByteArray) (ii16 : Int) (s17 : ByteArray) (i24 : Int) (s25 : ByteArray) (s26 : ByteArray) (i27 : Int) (i28 : Int) : Option (Delta × Int × Int) :=
    if i28 != 0 then
      F29_j49 n r1 r2 r4 r5 ii8 s9 ii16 s17 i24 s25 0 ByteArray.empty s26 i27 i28
    else
      (F43 n (IntKind.wrap .u8 r2.1) 3).bind fun (r30 : Bool) =>
      if r30 then
        (F52 n (Reader.mk s26 i27 i28)).bind fun (r31 : (Field × Reader)) =>
        F29_u37 n r1 r2 r4 r5 ii8 s9 ii16 s17 i24 s25 r31.1.N r31.1.Text r31.2.s r31.2.at_ r31.2.e
      else
        F29_u37 n r1 r2 r4 r5 ii8 s9 ii16 s17 i24 s25 0 ByteArray.empty s26 i27 i28
theorem F29_u29_ok (n : Nat) (r1 : (Int × Reader)) (r2 : (Int × Reader)) (r4 : (Int × Reader)) (r5 : (Int × Reader)) (ii8 : Int) (s9 : ByteArray) (ii16 : Int) (s17 : ByteArray) (i24 : Int) (s25 : ByteArray) (s26 : ByteArray) (i27 : Int) (i28 : Int) : SimL Try.prog D (n + 8) (n + 5) pc29_c43 [(2, .one (.ptr 2 0)), (5, .one (.ptr 11 0)), (6, .one (.ptr 6 0)), (51, .one (li .i64 3))] ((2, some (.cells [li .i64 0, li .u8 0, li .i64 0, li .i64 0, li .i64 0, ls ByteArray.empty, li .i64 0, ls ByteArray.empty, li .i64 0, ls ByteArray.empty, li .i64 0, ls ByteArray.empty])) :: ((6, some (.cells [li .i64 r1.1, li .u8 (IntKind.wrap .u8 r2.1), li .i64 r4.1, li .i64 r5.1, li .i64 ii8, ls s9, li .i64 ii16, ls s17, li .i64 i24, ls s25, li .i64 0, ls ByteArray.empty])) :: ((11, some (.cells [ls s26, li .i64 i27, li .i64 i28])) :: []))) (F29_u29 n r1 r2 r4 r5 ii8 s9 ii16 s17 i24 s25 s26 i27 i28) (QB 0 (QT Try.prog D (n + 8) pc29_c65 (QF pc29_r 0 F29_e))) := by
    unfold F29_u29
    refine SimL.succ ?_
    refine Sim.seq ?_
    refine Sim.region [(2, .one (.ptr 2 0)), (5, .one (.ptr 11 0)), (6, .one (.ptr 6 0)), (51, .one (li .i64 3))] ((2, some (.cells [li .i64 0, li .u8 0, li .i64 0, li .i64 0, li .i64 0, ls ByteArray.empty, li .i64 0, ls ByteArray.empty, li .i64 0, ls ByteArray.empty, li .i64 0, ls ByteArray.empty])) :: ((6, some (.cells [li .i64 r1.1, li .u8 (IntKind.wrap .u8 r2.1), li .i64 r4.1, li .i64 r5.1, li .i64 ii8, ls s9, li .i64 ii16, ls s17, li .i64 i24, ls s25, li .i64 0, ls ByteArray.empty])) :: ((11, some (.cells [ls s26, li .i64 i27, li .i64 i28])) :: []))) (by kernel_rfl) ?_
    refine SimI.run 1 [(52, .one (lb true))] [] (by kernel_rfl) ?_
    refine SimI.done (by kernel_rfl) ?_
    refine SimE.thenN ?_
    refine Sim.seq ?_
    refine Sim.condT (by kernel_rfl) ?_
    refine Sim.skip ?_
    refine SimE.thenN ?_
    refine Sim.seq ?_
    refine Sim.block ?_
    refine Sim.seq ?_
    refine Sim.region0 ?_
    refine SimI.run 2 [(8, .one (li .i64 3)), (53, .one (li .i64 3))] [] (by kernel_rfl) ?_
    refine SimI.done (by kernel_rfl) ?_
    refine SimE.thenN ?_
    refine Sim.block ?_
    refine Sim.seq ?_
    refine Sim.region0 ?_
    refine SimI.run 6 [(54, .one (lb (i28 != 0))), (59, .one (lb (i28 != 0))), (58, .one (li .i64 i28)), (57, .one (.ptr 11 2)), (56, .one (.ptr 11 0)), (55, .one (.ptr 11 0))] [] (by kernel_rfl) ?_
    refine SimI.done (by kernel_rfl) ?_
    refine SimE.thenN ?_
    refine Sim.cond (i28 != 0) (by kernel_rfl) ?_ ?_
    · refine Sim.exit ?_
      refine SimE.blockY rfl ?_
      refine SimE.blockY rfl ?_
      refine SimE.thenX ?_
      refine SimE.loopX ?_
      refine SimE.blockX ?_
      refine SimE.thenN ?_
      refine Sim.pre (ts := [2, 5, 6]) (os := [2, 6, 11]) [(2, .one (.ptr 2 0)), (5, .one (.ptr 11 0)), (6, .one (.ptr 6 0))] ((2, some (.cells [li .i64 0, li .u8 0, li .i64 0, li .i64 0, li .i64 0, ls ByteArray.empty, li .i64 0, ls ByteArray.empty, li .i64 0, ls ByteArray.empty, li .i64 0, ls ByteArray.empty])) :: ((6, some (.cells [li .i64 r1.1, li .u8 (IntKind.wrap .u8 r2.1), li .i64 r4.1, li .i64 r5.1, li .i64 ii8, ls s9, li .i64 ii16, ls s17, li .i64 i24, ls s25, li .i64 0, ls ByteArray.empty])) :: ((11, some (.cells [ls s26, li .i64 i27, li .i64 i28])) :: []))) (by kernel_rfl) (by kernel_rfl) (by kernel_rfl) ?_
      exact F29_j49_ok n r1 r2 r4 r5 ii8 s9 ii16 s17 i24 s25 0 ByteArray.empty s26 i27 i28
    · refine Sim.seq ?_
      refine Sim.region0 ?_
      refine SimI.run 3 [(63, .one (li .i64 3)), (62, .one (li .u8 (IntKind.wrap .u8 r2.1))), (61, .one (.ptr 6 1))] [] (by kernel_rfl) ?_
      refine SimI.bind (og := F43 n (IntKind.wrap .u8 r2.1) 3) { dst := some 64, op := POp.call true [[], []] 43 [Operand.tmp 62, Operand.tmp 63], guard := none, hints := [] } (fun r30 => [(64, .one (lb r30))]) (fun r30 => []) (by kernel_rfl) (fun r30 hr => pOp_eff (by kernel_rfl) (by kernel_rfl) (eff_call (ARGS := [.one (li .u8 (IntKind.wrap .u8 r2.1)), .one (li .i64 3)]) (by kernel_rfl) (args_clean (by kernel_rfl) (args_clean (by kernel_rfl) args_nil)) (F43_ok n (IntKind.wrap .u8 r2.1) 3 r30 hr) (by kernel_rfl))) (fun r30 => ?_)
      refine SimI.run 1 [(60, .one (lb r30))] [] (by kernel_rfl) ?_
      refine SimI.done (by kernel_rfl) ?_
      refine SimE.thenN ?_
      refine Sim.cond r30 (by kernel_rfl) ?_ ?_
      · refine Sim.region0 ?_
        refine SimI.run 2 [(66, .one (.ptr 11 0)), (65, .one (li .i64 3))] [] (by kernel_rfl) ?_
        refine SimI.bind (og := F52 n (Reader.mk s26 i27 i28)) { dst := some 67, op := POp.call true [[]] 52 [Operand.tmp 66], guard := none, hints := [] } (fun r31 => [(67, .agg [li .i64 r31.1.N, ls r31.1.Text])]) (fun r31 => [(11, some (.cells [ls r31.2.s, li .i64 r31.2.at_, li .i64 r31.2.e]))]) (by kernel_rfl) (fun r31 hr => pOp_eff (by kernel_rfl) (by kernel_rfl) (eff_callp (ARGS := [.one (.ptr 11 0)]) (ARGS' := [.one (.ptr 1000000 0)]) (ks := [11]) (os := [[ls s26, li .i64 i27, li .i64 i28]]) (os' := [[ls r31.2.s, li .i64 r31.2.at_, li .i64 r31.2.e]]) (by kernel_rfl) (args_ptr (by kernel_rfl) args_nil) rfl (by kernel_rfl) (F52_ok n (Reader.mk s26 i27 i28) r31 hr) (by kernel_rfl) (by kernel_rfl))) (fun r31 => ?_)
        refine SimI.run 3 [(69, .one (.ptr 6 10)), (68, .one (.ptr 6 4))] [(6, some (.cells [li .i64 r1.1, li .u8 (IntKind.wrap .u8 r2.1), li .i64 r4.1, li .i64 r5.1, li .i64 ii8, ls s9, li .i64 ii16, ls s17, li .i64 i24, ls s25, li .i64 r31.1.N, ls r31.1.Text]))] (by kernel_rfl) ?_
        refine SimI.done (by kernel_rfl) ?_
        refine SimE.blockN ?_
        refine SimE.blockN ?_
        refine SimE.thenN ?_
        refine Sim.region0 ?_
        refine SimI.run 2 [(51, .one (li .i64 4)), (70, .one (li .i64 4))] [] (by kernel_rfl) ?_
        refine SimI.done (by kernel_rfl) ?_
        refine SimE.loopN ?_
        refine SimL.pre (ts := [2, 5, 6, 51]) (os := [2, 6, 11]) [(2, .one (.ptr 2 0)), (5, .one (.ptr 11 0)), (6, .one (.ptr 6 0)), (51, .one (li .i64 4))] ((2, some (.cells [li .i64 0, li .u8 0, li .i64 0, li .i64 0, li .i64 0, ls ByteArray.empty, li .i64 0, ls ByteArray.empty, li .i64 0, ls ByteArray.empty, li .i64 0, ls ByteArray.empty])) :: ((6, some (.cells [li .i64 r1.1, li .u8 (IntKind.wrap .u8 r2.1), li .i64 r4.1, li .i64 r5.1, li .i64 ii8, ls s9, li .i64 ii16, ls s17, li .i64 i24, ls s25, li .i64 r31.1.N, ls r31.1.Text])) :: ((11, some (.cells [ls r31.2.s, li .i64 r31.2.at_, li .i64 r31.2.e])) :: []))) (by kernel_rfl) (by kernel_rfl) (by kernel_rfl) ?_
        exact F29_u37_ok n r1 r2 r4 r5 ii8 s9 ii16 s17 i24 s25 r31.1.N r31.1.Text r31.2.s r31.2.at_ r31.2.e
      · refine Sim.skip ?_
        refine SimE.blockN ?_
        refine SimE.blockN ?_
        refine SimE.thenN ?_
        refine Sim.region0 ?_
        refine SimI.run 2 [(51, .one (li .i64 4)), (70, .one (li .i64 4))] [] (by kernel_rfl) ?_
        refine SimI.done (by kernel_rfl) ?_
        refine SimE.loopN ?_
        refine SimL.pre (ts := [2, 5, 6, 51]) (os := [2, 6, 11]) [(2, .one (.ptr 2 0)), (5, .one (.ptr 11 0)), (6, .one (.ptr 6 0)), (51, .one (li .i64 4))] ((2, some (.cells [li .i64 0, li .u8 0, li .i64 0, li .i64 0, li .i64 0, ls ByteArray.empty, li .i64 0, ls ByteArray.empty, li .i64 0, ls ByteArray.empty, li .i64 0, ls ByteArray.empty])) :: ((6, some (.cells [li .i64 r1.1, li .u8 (IntKind.wrap .u8 r2.1), li .i64 r4.1, li .i64 r5.1, li .i64 ii8, ls s9, li .i64 ii16, ls s17, li .i64 i24, ls s25, li .i64 0, ls ByteArray.empty])) :: ((11, some (.cells [ls s26, li .i64 i27, li .i64 i28])) :: []))) (by kernel_rfl) (by kernel_rfl) (by kernel_rfl) ?_
        exact F29_u37_ok n r1 r2 r4 r5 ii8 s9 ii16 s17 i24 s25 0 ByteArray.empty s26 i27 i28

def F29_u21 (n : Nat) (r1 : (Int × Reader)) (r2 : (Int × Reader)) (r4 : (Int × Reader)) (r5 : (Int × Reader)) (ii8 : Int) (s9 : ByteArray) (ii16 : Int) (s17 : ByteArray) (s18 : ByteArray) (i19 : Int) (i20 : Int) : Option (Delta × Int × Int) :=
    if i20 != 0 then
      F29_j49 n r1 r2 r4 r5 ii8 s9 ii16 s17 0 ByteArray.empty 0 ByteArray.empty s18 i19 i20
    else
      (F43 n (IntKind.wrap .u8 r2.1) 2).bind fun (r22 : Bool) =>
      if r22 then
        (F52 n (Reader.mk s18 i19 i20)).bind fun (r23 : (Field × Reader)) =>
        F29_u29 n r1 r2 r4 r5 ii8 s9 ii16 s17 r23.1.N r23.1.Text r23.2.s r23.2.at_ r23.2.e
      else
        F29_u29 n r1 r2 r4 r5 ii8 s9 ii16 s17 0 ByteArray.empty s18 i19 i20
theorem F29_u21_ok (n : Nat) (r1 : (Int × Reader)) (r2 : (Int × Reader)) (r4 : (Int × Reader)) (r5 : (Int × Reader)) (ii8 : Int) (s9 : ByteArray) (ii16 : Int) (s17 : ByteArray) (s18 : ByteArray) (i19 : Int) (i20 : Int) : SimL Try.prog D (n + 8) (n + 6) pc29_c43 [(2, .one (.ptr 2 0)), (5, .one (.ptr 11 0)), (6, .one (.ptr 6 0)), (51, .one (li .i64 2))] ((2, some (.cells [li .i64 0, li .u8 0, li .i64 0, li .i64 0, li .i64 0, ls ByteArray.empty, li .i64 0, ls ByteArray.empty, li .i64 0, ls ByteArray.empty, li .i64 0, ls ByteArray.empty])) :: ((6, some (.cells [li .i64 r1.1, li .u8 (IntKind.wrap .u8 r2.1), li .i64 r4.1, li .i64 r5.1, li .i64 ii8, ls s9, li .i64 ii16, ls s17, li .i64 0, ls ByteArray.empty, li .i64 0, ls ByteArray.empty])) :: ((11, some (.cells [ls s18, li .i64 i19, li .i64 i20])) :: []))) (F29_u21 n r1 r2 r4 r5 ii8 s9 ii16 s17 s18 i19 i20) (QB 0 (QT Try.prog D (n + 8) pc29_c65 (QF pc29_r 0 F29_e))) := by
    unfold F29_u21
    refine SimL.succ ?_
    refine Sim.seq ?_
    refine Sim.region [(2, .one (.ptr 2 0)), (5, .one (.ptr 11 0)), (6, .one (.ptr 6 0)), (51, .one (li .i64 2))] ((2, some (.cells [li .i64 0, li .u8 0, li .i64 0, li .i64 0, li .i64 0, ls ByteArray.empty, li .i64 0, ls ByteArray.empty, li .i64 0, ls ByteArray.empty, li .i64 0, ls ByteArray.empty])) :: ((6, some (.cells [li .i64 r1.1, li .u8 (IntKind.wrap .u8 r2.1), li .i64 r4.1, li .i64 r5.1, li .i64 ii8, ls s9, li .i64 ii16, ls s17, li .i64 0, ls ByteArray.empty, li .i64 0, ls ByteArray.empty])) :: ((11, some (.cells [ls s18, li .i64 i19, li .i64 i20])) :: []))) (by kernel_rfl) ?_
    refine SimI.run 1 [(52, .one (lb true))] [] (by kernel_rfl) ?_
    refine SimI.done (by kernel_rfl) ?_
    refine SimE.thenN ?_
    refine Sim.seq ?_
    refine Sim.condT (by kernel_rfl) ?_
    refine Sim.skip ?_
    refine SimE.thenN ?_
    refine Sim.seq ?_
    refine Sim.block ?_
    refine Sim.seq ?_
    refine Sim.region0 ?_
    refine SimI.run 2 [(8, .one (li .i64 2)), (53, .one (li .i64 2))] [] (by kernel_rfl) ?_
    refine SimI.done (by kernel_rfl) ?_
    refine SimE.thenN ?_
    refine Sim.block ?_
    refine Sim.seq ?_
    refine Sim.region0 ?_
    refine SimI.run 6 [(54, .one (lb (i20 != 0))), (59, .one (lb (i20 != 0))), (58, .one (li .i64 i20)), (57, .one (.ptr 11 2)), (56, .one (.ptr 11 0)), (55, .one (.ptr 11 0))] [] (by kernel_rfl) ?_
    refine SimI.done (by kernel_rfl) ?_
    refine SimE.thenN ?_
    refine Sim.cond (i20 != 0) (by kernel_rfl) ?_ ?_
    · refine Sim.exit ?_
      refine SimE.blockY rfl ?_
      refine SimE.blockY rfl ?_
      refine SimE.thenX ?_
      refine SimE.loopX ?_
      refine SimE.blockX ?_
      refine SimE.thenN ?_
      refine Sim.pre (ts := [2, 5, 6]) (os := [2, 6, 11]) [(2, .one (.ptr 2 0)), (5, .one (.ptr 11 0)), (6, .one (.ptr 6 0))] ((2, some (.cells [li .i64 0, li .u8 0, li .i64 0, li .i64 0, li .i64 0, ls ByteArray.empty, li .i64 0, ls ByteArray.empty, li .i64 0, ls ByteArray.empty, li .i64 0, ls ByteArray.empty])) :: ((6, some (.cells [li .i64 r1.1, li .u8 (IntKind.wrap .u8 r2.1), li .i64 r4.1, li .i64 r5.1, li .i64 ii8, ls s9, li .i64 ii16, ls s17, li .i64 0, ls ByteArray.empty, li .i64 0, ls ByteArray.empty])) :: ((11, some (.cells [ls s18, li .i64 i19, li .i64 i20])) :: []))) (by kernel_rfl) (by kernel_rfl) (by kernel_rfl) ?_
      exact F29_j49_ok n r1 r2 r4 r5 ii8 s9 ii16 s17 0 ByteArray.empty 0 ByteArray.empty s18 i19 i20
    · refine Sim.seq ?_
      refine Sim.region0 ?_
      refine SimI.run 3 [(63, .one (li .i64 2)), (62, .one (li .u8 (IntKind.wrap .u8 r2.1))), (61, .one (.ptr 6 1))] [] (by kernel_rfl) ?_
      refine SimI.bind (og := F43 n (IntKind.wrap .u8 r2.1) 2) { dst := some 64, op := POp.call true [[], []] 43 [Operand.tmp 62, Operand.tmp 63], guard := none, hints := [] } (fun r22 => [(64, .one (lb r22))]) (fun r22 => []) (by kernel_rfl) (fun r22 hr => pOp_eff (by kernel_rfl) (by kernel_rfl) (eff_call (ARGS := [.one (li .u8 (IntKind.wrap .u8 r2.1)), .one (li .i64 2)]) (by kernel_rfl) (args_clean (by kernel_rfl) (args_clean (by kernel_rfl) args_nil)) (F43_ok n (IntKind.wrap .u8 r2.1) 2 r22 hr) (by kernel_rfl))) (fun r22 => ?_)
      refine SimI.run 1 [(60, .one (lb r22))] [] (by kernel_rfl) ?_
      refine SimI.done (by kernel_rfl) ?_
      refine SimE.thenN ?_
      refine Sim.cond r22 (by kernel_rfl) ?_ ?_
      · refine Sim.region0 ?_
        refine SimI.run 2 [(66, .one (.ptr 11 0)), (65, .one (li .i64 2))] [] (by kernel_rfl) ?_
        refine SimI.bind (og := F52 n (Reader.mk s18 i19 i20)) { dst := some 67, op := POp.call true [[]] 52 [Operand.tmp 66], guard := none, hints := [] } (fun r23 => [(67, .agg [li .i64 r23.1.N, ls r23.1.Text])]) (fun r23 => [(11, some (.cells [ls r23.2.s, li .i64 r23.2.at_, li .i64 r23.2.e]))]) (by kernel_rfl) (fun r23 hr => pOp_eff (by kernel_rfl) (by kernel_rfl) (eff_callp (ARGS := [.one (.ptr 11 0)]) (ARGS' := [.one (.ptr 1000000 0)]) (ks := [11]) (os := [[ls s18, li .i64 i19, li .i64 i20]]) (os' := [[ls r23.2.s, li .i64 r23.2.at_, li .i64 r23.2.e]]) (by kernel_rfl) (args_ptr (by kernel_rfl) args_nil) rfl (by kernel_rfl) (F52_ok n (Reader.mk s18 i19 i20) r23 hr) (by kernel_rfl) (by kernel_rfl))) (fun r23 => ?_)
        refine SimI.run 3 [(69, .one (.ptr 6 8)), (68, .one (.ptr 6 4))] [(6, some (.cells [li .i64 r1.1, li .u8 (IntKind.wrap .u8 r2.1), li .i64 r4.1, li .i64 r5.1, li .i64 ii8, ls s9, li .i64 ii16, ls s17, li .i64 r23.1.N, ls r23.1.Text, li .i64 0, ls ByteArray.empty]))] (by kernel_rfl) ?_
        refine SimI.done (by kernel_rfl) ?_
        refine SimE.blockN ?_
        refine SimE.blockN ?_
        refine SimE.thenN ?_
        refine Sim.region0 ?_
        refine SimI.run 2 [(51, .one (li .i64 3)), (70, .one (li .i64 3))] [] (by kernel_rfl) ?_
        refine SimI.done (by kernel_rfl) ?_
        refine SimE.loopN ?_
        refine SimL.pre (ts := [2, 5, 6, 51]) (os := [2, 6, 11]) [(2, .one (.ptr 2 0)), (5, .one (.ptr 11 0)), (6, .one (.ptr 6 0)), (51, .one (li .i64 3))] ((2, some (.cells [li .i64 0, li .u8 0, li .i64 0, li .i64 0, li .i64 0, ls ByteArray.empty, li .i64 0, ls ByteArray.empty, li .i64 0, ls ByteArray.empty, li .i64 0, ls ByteArray.empty])) :: ((6, some (.cells [li .i64 r1.1, li .u8 (IntKind.wrap .u8 r2.1), li .i64 r4.1, li .i64 r5.1, li .i64 ii8, ls s9, li .i64 ii16, ls s17, li .i64 r23.1.N, ls r23.1.Text, li .i64 0, ls ByteArray.empty])) :: ((11, some (.cells [ls r23.2.s, li .i64 r23.2.at_, li .i64 r23.2.e])) :: []))) (by kernel_rfl) (by kernel_rfl) (by kernel_rfl) ?_
        exact F29_u29_ok n r1 r2 r4 r5 ii8 s9 ii16 s17 r23.1.N r23.1.Text r23.2.s r23.2.at_ r23.2.e
      · refine Sim.skip ?_
        refine SimE.blockN ?_
        refine SimE.blockN ?_
        refine SimE.thenN ?_
        refine Sim.region0 ?_
        refine SimI.run 2 [(51, .one (li .i64 3)), (70, .one (li .i64 3))] [] (by kernel_rfl) ?_
        refine SimI.done (by kernel_rfl) ?_
        refine SimE.loopN ?_
        refine SimL.pre (ts := [2, 5, 6, 51]) (os := [2, 6, 11]) [(2, .one (.ptr 2 0)), (5, .one (.ptr 11 0)), (6, .one (.ptr 6 0)), (51, .one (li .i64 3))] ((2, some (.cells [li .i64 0, li .u8 0, li .i64 0, li .i64 0, li .i64 0, ls ByteArray.empty, li .i64 0, ls ByteArray.empty, li .i64 0, ls ByteArray.empty, li .i64 0, ls ByteArray.empty])) :: ((6, some (.cells [li .i64 r1.1, li .u8 (IntKind.wrap .u8 r2.1), li .i64 r4.1, li .i64 r5.1, li .i64 ii8, ls s9, li .i64 ii16, ls s17, li .i64 0, ls ByteArray.empty, li .i64 0, ls ByteArray.empty])) :: ((11, some (.cells [ls s18, li .i64 i19, li .i64 i20])) :: []))) (by kernel_rfl) (by kernel_rfl) (by kernel_rfl) ?_
        exact F29_u29_ok n r1 r2 r4 r5 ii8 s9 ii16 s17 0 ByteArray.empty s18 i19 i20

def F29_u13 (n : Nat) (r1 : (Int × Reader)) (r2 : (Int × Reader)) (r4 : (Int × Reader)) (r5 : (Int × Reader)) (ii8 : Int) (s9 : ByteArray) (s10 : ByteArray) (i11 : Int) (i12 : Int) : Option (Delta × Int × Int) :=
    if i12 != 0 then
      F29_j49 n r1 r2 r4 r5 ii8 s9 0 ByteArray.empty 0 ByteArray.empty 0 ByteArray.empty s10 i11 i12
    else
      (F43 n (IntKind.wrap .u8 r2.1) 1).bind fun (r14 : Bool) =>
      if r14 then
        (F52 n (Reader.mk s10 i11 i12)).bind fun (r15 : (Field × Reader)) =>
        F29_u21 n r1 r2 r4 r5 ii8 s9 r15.1.N r15.1.Text r15.2.s r15.2.at_ r15.2.e
      else
        F29_u21 n r1 r2 r4 r5 ii8 s9 0 ByteArray.empty s10 i11 i12
theorem F29_u13_ok (n : Nat) (r1 : (Int × Reader)) (r2 : (Int × Reader)) (r4 : (Int × Reader)) (r5 : (Int × Reader)) (ii8 : Int) (s9 : ByteArray) (s10 : ByteArray) (i11 : Int) (i12 : Int) : SimL Try.prog D (n + 8) (n + 7) pc29_c43 [(2, .one (.ptr 2 0)), (5, .one (.ptr 11 0)), (6, .one (.ptr 6 0)), (51, .one (li .i64 1))] ((2, some (.cells [li .i64 0, li .u8 0, li .i64 0, li .i64 0, li .i64 0, ls ByteArray.empty, li .i64 0, ls ByteArray.empty, li .i64 0, ls ByteArray.empty, li .i64 0, ls ByteArray.empty])) :: ((6, some (.cells [li .i64 r1.1, li .u8 (IntKind.wrap .u8 r2.1), li .i64 r4.1, li .i64 r5.1, li .i64 ii8, ls s9, li .i64 0, ls ByteArray.empty, li .i64 0, ls ByteArray.empty, li .i64 0, ls ByteArray.empty])) :: ((11, some (.cells [ls s10, li .i64 i11, li .i64 i12])) :: []))) (F29_u13 n r1 r2 r4 r5 ii8 s9 s10 i11 i12) (QB 0 (QT Try.prog D (n + 8) pc29_c65 (QF pc29_r 0 F29_e))) := by
    unfold F29_u13
    refine SimL.succ ?_
    refine Sim.seq ?_
    refine Sim.region [(2, .one (.ptr 2 0)), (5, .one (.ptr 11 0)), (6, .one (.ptr 6 0)), (51, .one (li .i64 1))] ((2, some (.cells [li .i64 0, li .u8 0, li .i64 0, li .i64 0, li .i64 0, ls ByteArray.empty, li .i64 0, ls ByteArray.empty, li .i64 0, ls ByteArray.empty, li .i64 0, ls ByteArray.empty])) :: ((6, some (.cells [li .i64 r1.1, li .u8 (IntKind.wrap .u8 r2.1), li .i64 r4.1, li .i64 r5.1, li .i64 ii8, ls s9, li .i64 0, ls ByteArray.empty, li .i64 0, ls ByteArray.empty, li .i64 0, ls ByteArray.empty])) :: ((11, some (.cells [ls s10, li .i64 i11, li .i64 i12])) :: []))) (by kernel_rfl) ?_
    refine SimI.run 1 [(52, .one (lb true))] [] (by kernel_rfl) ?_
    refine SimI.done (by kernel_rfl) ?_
    refine SimE.thenN ?_
    refine Sim.seq ?_
    refine Sim.condT (by kernel_rfl) ?_
    refine Sim.skip ?_
    refine SimE.thenN ?_
    refine Sim.seq ?_
    refine Sim.block ?_
    refine Sim.seq ?_
    refine Sim.region0 ?_
    refine SimI.run 2 [(8, .one (li .i64 1)), (53, .one (li .i64 1))] [] (by kernel_rfl) ?_
    refine SimI.done (by kernel_rfl) ?_
    refine SimE.thenN ?_
    refine Sim.block ?_
    refine Sim.seq ?_
    refine Sim.region0 ?_
    refine SimI.run 6 [(54, .one (lb (i12 != 0))), (59, .one (lb (i12 != 0))), (58, .one (li .i64 i12)), (57, .one (.ptr 11 2)), (56, .one (.ptr 11 0)), (55, .one (.ptr 11 0))] [] (by kernel_rfl) ?_
    refine SimI.done (by kernel_rfl) ?_
    refine SimE.thenN ?_
    refine Sim.cond (i12 != 0) (by kernel_rfl) ?_ ?_
    · refine Sim.exit ?_
      refine SimE.blockY rfl ?_
      refine SimE.blockY rfl ?_
      refine SimE.thenX ?_
      refine SimE.loopX ?_
      refine SimE.blockX ?_
      refine SimE.thenN ?_
      refine Sim.pre (ts := [2, 5, 6]) (os := [2, 6, 11]) [(2, .one (.ptr 2 0)), (5, .one (.ptr 11 0)), (6, .one (.ptr 6 0))] ((2, some (.cells [li .i64 0, li .u8 0, li .i64 0, li .i64 0, li .i64 0, ls ByteArray.empty, li .i64 0, ls ByteArray.empty, li .i64 0, ls ByteArray.empty, li .i64 0, ls ByteArray.empty])) :: ((6, some (.cells [li .i64 r1.1, li .u8 (IntKind.wrap .u8 r2.1), li .i64 r4.1, li .i64 r5.1, li .i64 ii8, ls s9, li .i64 0, ls ByteArray.empty, li .i64 0, ls ByteArray.empty, li .i64 0, ls ByteArray.empty])) :: ((11, some (.cells [ls s10, li .i64 i11, li .i64 i12])) :: []))) (by kernel_rfl) (by kernel_rfl) (by kernel_rfl) ?_
      exact F29_j49_ok n r1 r2 r4 r5 ii8 s9 0 ByteArray.empty 0 ByteArray.empty 0 ByteArray.empty s10 i11 i12
    · refine Sim.seq ?_
      refine Sim.region0 ?_
      refine SimI.run 3 [(63, .one (li .i64 1)), (62, .one (li .u8 (IntKind.wrap .u8 r2.1))), (61, .one (.ptr 6 1))] [] (by kernel_rfl) ?_
      refine SimI.bind (og := F43 n (IntKind.wrap .u8 r2.1) 1) { dst := some 64, op := POp.call true [[], []] 43 [Operand.tmp 62, Operand.tmp 63], guard := none, hints := [] } (fun r14 => [(64, .one (lb r14))]) (fun r14 => []) (by kernel_rfl) (fun r14 hr => pOp_eff (by kernel_rfl) (by kernel_rfl) (eff_call (ARGS := [.one (li .u8 (IntKind.wrap .u8 r2.1)), .one (li .i64 1)]) (by kernel_rfl) (args_clean (by kernel_rfl) (args_clean (by kernel_rfl) args_nil)) (F43_ok n (IntKind.wrap .u8 r2.1) 1 r14 hr) (by kernel_rfl))) (fun r14 => ?_)
      refine SimI.run 1 [(60, .one (lb r14))] [] (by kernel_rfl) ?_
      refine SimI.done (by kernel_rfl) ?_
      refine SimE.thenN ?_
      refine Sim.cond r14 (by kernel_rfl) ?_ ?_
      · refine Sim.region0 ?_
        refine SimI.run 2 [(66, .one (.ptr 11 0)), (65, .one (li .i64 1))] [] (by kernel_rfl) ?_
        refine SimI.bind (og := F52 n (Reader.mk s10 i11 i12)) { dst := some 67, op := POp.call true [[]] 52 [Operand.tmp 66], guard := none, hints := [] } (fun r15 => [(67, .agg [li .i64 r15.1.N, ls r15.1.Text])]) (fun r15 => [(11, some (.cells [ls r15.2.s, li .i64 r15.2.at_, li .i64 r15.2.e]))]) (by kernel_rfl) (fun r15 hr => pOp_eff (by kernel_rfl) (by kernel_rfl) (eff_callp (ARGS := [.one (.ptr 11 0)]) (ARGS' := [.one (.ptr 1000000 0)]) (ks := [11]) (os := [[ls s10, li .i64 i11, li .i64 i12]]) (os' := [[ls r15.2.s, li .i64 r15.2.at_, li .i64 r15.2.e]]) (by kernel_rfl) (args_ptr (by kernel_rfl) args_nil) rfl (by kernel_rfl) (F52_ok n (Reader.mk s10 i11 i12) r15 hr) (by kernel_rfl) (by kernel_rfl))) (fun r15 => ?_)
        refine SimI.run 3 [(69, .one (.ptr 6 6)), (68, .one (.ptr 6 4))] [(6, some (.cells [li .i64 r1.1, li .u8 (IntKind.wrap .u8 r2.1), li .i64 r4.1, li .i64 r5.1, li .i64 ii8, ls s9, li .i64 r15.1.N, ls r15.1.Text, li .i64 0, ls ByteArray.empty, li .i64 0, ls ByteArray.empty]))] (by kernel_rfl) ?_
        refine SimI.done (by kernel_rfl) ?_
        refine SimE.blockN ?_
        refine SimE.blockN ?_
        refine SimE.thenN ?_
        refine Sim.region0 ?_
        refine SimI.run 2 [(51, .one (li .i64 2)), (70, .one (li .i64 2))] [] (by kernel_rfl) ?_
        refine SimI.done (by kernel_rfl) ?_
        refine SimE.loopN ?_
        refine SimL.pre (ts := [2, 5, 6, 51]) (os := [2, 6, 11]) [(2, .one (.ptr 2 0)), (5, .one (.ptr 11 0)), (6, .one (.ptr 6 0)), (51, .one (li .i64 2))] ((2, some (.cells [li .i64 0, li .u8 0, li .i64 0, li .i64 0, li .i64 0, ls ByteArray.empty, li .i64 0, ls ByteArray.empty, li .i64 0, ls ByteArray.empty, li .i64 0, ls ByteArray.empty])) :: ((6, some (.cells [li .i64 r1.1, li .u8 (IntKind.wrap .u8 r2.1), li .i64 r4.1, li .i64 r5.1, li .i64 ii8, ls s9, li .i64 r15.1.N, ls r15.1.Text, li .i64 0, ls ByteArray.empty, li .i64 0, ls ByteArray.empty])) :: ((11, some (.cells [ls r15.2.s, li .i64 r15.2.at_, li .i64 r15.2.e])) :: []))) (by kernel_rfl) (by kernel_rfl) (by kernel_rfl) ?_
        exact F29_u21_ok n r1 r2 r4 r5 ii8 s9 r15.1.N r15.1.Text r15.2.s r15.2.at_ r15.2.e
      · refine Sim.skip ?_
        refine SimE.blockN ?_
        refine SimE.blockN ?_
        refine SimE.thenN ?_
        refine Sim.region0 ?_
        refine SimI.run 2 [(51, .one (li .i64 2)), (70, .one (li .i64 2))] [] (by kernel_rfl) ?_
        refine SimI.done (by kernel_rfl) ?_
        refine SimE.loopN ?_
        refine SimL.pre (ts := [2, 5, 6, 51]) (os := [2, 6, 11]) [(2, .one (.ptr 2 0)), (5, .one (.ptr 11 0)), (6, .one (.ptr 6 0)), (51, .one (li .i64 2))] ((2, some (.cells [li .i64 0, li .u8 0, li .i64 0, li .i64 0, li .i64 0, ls ByteArray.empty, li .i64 0, ls ByteArray.empty, li .i64 0, ls ByteArray.empty, li .i64 0, ls ByteArray.empty])) :: ((6, some (.cells [li .i64 r1.1, li .u8 (IntKind.wrap .u8 r2.1), li .i64 r4.1, li .i64 r5.1, li .i64 ii8, ls s9, li .i64 0, ls ByteArray.empty, li .i64 0, ls ByteArray.empty, li .i64 0, ls ByteArray.empty])) :: ((11, some (.cells [ls s10, li .i64 i11, li .i64 i12])) :: []))) (by kernel_rfl) (by kernel_rfl) (by kernel_rfl) ?_
        exact F29_u21_ok n r1 r2 r4 r5 ii8 s9 0 ByteArray.empty s10 i11 i12

def F29_j94 (n : Nat) (r1 : (Int × Reader)) (r2 : (Int × Reader)) (i83 : Int) (s84 : ByteArray) (i85 : Int) (s86 : ByteArray) (i87 : Int) (s88 : ByteArray) (i89 : Int) (s90 : ByteArray) (s91 : ByteArray) (i92 : Int) (i93 : Int) : Option (Delta × Int × Int) :=
    if i93 != 0 then
      some ((Delta.mk 0 0 (Point.mk 0 0) (A4.mk (Field.mk 0 ByteArray.empty) (Field.mk 0 ByteArray.empty) (Field.mk 0 ByteArray.empty) (Field.mk 0 ByteArray.empty))), 0, i93)
    else
      (F25 n (Delta.mk r1.1 (IntKind.wrap .u8 r2.1) (Point.mk 0 0) (A4.mk (Field.mk i83 s84) (Field.mk i85 s86) (Field.mk i87 s88) (Field.mk i89 s90)))).bind fun (r95 : Bool) =>
      if !(r95) then
        some ((Delta.mk 0 0 (Point.mk 0 0) (A4.mk (Field.mk 0 ByteArray.empty) (Field.mk 0 ByteArray.empty) (Field.mk 0 ByteArray.empty) (Field.mk 0 ByteArray.empty))), 0, 11)
      else
        some ((Delta.mk r1.1 (IntKind.wrap .u8 r2.1) (Point.mk 0 0) (A4.mk (Field.mk i83 s84) (Field.mk i85 s86) (Field.mk i87 s88) (Field.mk i89 s90))), i92, 0)
theorem F29_j94_ok (n : Nat) (r1 : (Int × Reader)) (r2 : (Int × Reader)) (i83 : Int) (s84 : ByteArray) (i85 : Int) (s86 : ByteArray) (i87 : Int) (s88 : ByteArray) (i89 : Int) (s90 : ByteArray) (s91 : ByteArray) (i92 : Int) (i93 : Int) : Sim Try.prog D (n + 8) pc29_c65 [(2, .one (.ptr 2 0)), (5, .one (.ptr 11 0)), (6, .one (.ptr 6 0))] ((2, some (.cells [li .i64 0, li .u8 0, li .i64 0, li .i64 0, li .i64 0, ls ByteArray.empty, li .i64 0, ls ByteArray.empty, li .i64 0, ls ByteArray.empty, li .i64 0, ls ByteArray.empty])) :: ((6, some (.cells [li .i64 r1.1, li .u8 (IntKind.wrap .u8 r2.1), li .i64 0, li .i64 0, li .i64 i83, ls s84, li .i64 i85, ls s86, li .i64 i87, ls s88, li .i64 i89, ls s90])) :: ((11, some (.cells [ls s91, li .i64 i92, li .i64 i93])) :: []))) (F29_j94 n r1 r2 i83 s84 i85 s86 i87 s88 i89 s90 s91 i92 i93) (QF pc29_r 0 F29_e) := by
    unfold F29_j94
    refine Sim.seq ?_
    refine Sim.seq ?_
    refine Sim.region [(2, .one (.ptr 2 0)), (5, .one (.ptr 11 0)), (6, .one (.ptr 6 0))] ((2, some (.cells [li .i64 0, li .u8 0, li .i64 0, li .i64 0, li .i64 0, ls ByteArray.empty, li .i64 0, ls ByteArray.empty, li .i64 0, ls ByteArray.empty, li .i64 0, ls ByteArray.empty])) :: ((6, some (.cells [li .i64 r1.1, li .u8 (IntKind.wrap .u8 r2.1), li .i64 0, li .i64 0, li .i64 i83, ls s84, li .i64 i85, ls s86, li .i64 i87, ls s88, li .i64 i89, ls s90])) :: ((11, some (.cells [ls s91, li .i64 i92, li .i64 i93])) :: []))) (by kernel_rfl) ?_
    refine SimI.run 5 [(75, .one (lb (i93 != 0))), (74, .one (li .i64 i93)), (73, .one (.ptr 11 2)), (72, .one (.ptr 11 0)), (71, .one (.ptr 11 0))] [] (by kernel_rfl) ?_
    refine SimI.done (by kernel_rfl) ?_
    refine SimE.thenN ?_
    refine Sim.cond (i93 != 0) (by kernel_rfl) ?_ ?_
    · refine Sim.seq ?_
      refine Sim.region0 ?_
      refine SimI.run 8 [(4, .one (li .i64 i93)), (3, .one (li .i64 0)), (80, .one (li .i64 i93)), (79, .one (.ptr 11 2)), (78, .one (.ptr 11 0)), (77, .one (.ptr 11 0)), (76, .agg [li .i64 0, li .u8 0, li .i64 0, li .i64 0, li .i64 0, ls ByteArray.empty, li .i64 0, ls ByteArray.empty, li .i64 0, ls ByteArray.empty, li .i64 0, ls ByteArray.empty])] [(2, some (.cells [li .i64 0, li .u8 0, li .i64 0, li .i64 0, li .i64 0, ls ByteArray.empty, li .i64 0, ls ByteArray.empty, li .i64 0, ls ByteArray.empty, li .i64 0, ls ByteArray.empty]))] (by kernel_rfl) ?_
      refine SimI.done (by kernel_rfl) ?_
      refine SimE.thenN ?_
      refine Sim.ret ?_
      refine SimE.thenR ?_
      exact SimE.fin (by kernel_rfl)
    · refine Sim.skip ?_
      refine SimE.thenN ?_
      refine Sim.seq ?_
      refine Sim.seq ?_
      refine Sim.region0 ?_
      refine SimI.run 1 [(81, .agg [li .i64 r1.1, li .u8 (IntKind.wrap .u8 r2.1), li .i64 0, li .i64 0, li .i64 i83, ls s84, li .i64 i85, ls s86, li .i64 i87, ls s88, li .i64 i89, ls s90])] [] (by kernel_rfl) ?_
      refine SimI.bind (og := F25 n (Delta.mk r1.1 (IntKind.wrap .u8 r2.1) (Point.mk 0 0) (A4.mk (Field.mk i83 s84) (Field.mk i85 s86) (Field.mk i87 s88) (Field.mk i89 s90)))) { dst := some 82, op := POp.call true [[]] 25 [Operand.tmp 81], guard := none, hints := [] } (fun r95 => [(82, .one (lb r95))]) (fun r95 => []) (by kernel_rfl) (fun r95 hr => pOp_eff (by kernel_rfl) (by kernel_rfl) (eff_call (ARGS := [.agg [li .i64 r1.1, li .u8 (IntKind.wrap .u8 r2.1), li .i64 0, li .i64 0, li .i64 i83, ls s84, li .i64 i85, ls s86, li .i64 i87, ls s88, li .i64 i89, ls s90]]) (by kernel_rfl) (args_clean (by kernel_rfl) args_nil) (F25_ok n (Delta.mk r1.1 (IntKind.wrap .u8 r2.1) (Point.mk 0 0) (A4.mk (Field.mk i83 s84) (Field.mk i85 s86) (Field.mk i87 s88) (Field.mk i89 s90))) r95 hr) (by kernel_rfl))) (fun r95 => ?_)
      refine SimI.run 1 [(83, .one (lb (!(r95))))] [] (by kernel_rfl) ?_
      refine SimI.done (by kernel_rfl) ?_
      refine SimE.thenN ?_
      refine Sim.cond (!(r95)) (by kernel_rfl) ?_ ?_
      · refine Sim.seq ?_
        refine Sim.region0 ?_
        refine SimI.run 4 [(4, .one (li .i64 11)), (3, .one (li .i64 0)), (84, .agg [li .i64 0, li .u8 0, li .i64 0, li .i64 0, li .i64 0, ls ByteArray.empty, li .i64 0, ls ByteArray.empty, li .i64 0, ls ByteArray.empty, li .i64 0, ls ByteArray.empty])] [(2, some (.cells [li .i64 0, li .u8 0, li .i64 0, li .i64 0, li .i64 0, ls ByteArray.empty, li .i64 0, ls ByteArray.empty, li .i64 0, ls ByteArray.empty, li .i64 0, ls ByteArray.empty]))] (by kernel_rfl) ?_
        refine SimI.done (by kernel_rfl) ?_
        refine SimE.thenN ?_
        refine Sim.ret ?_
        refine SimE.thenR ?_
        exact SimE.fin (by kernel_rfl)
      · refine Sim.skip ?_
        refine SimE.thenN ?_
        refine Sim.seq ?_
        refine Sim.region0 ?_
        refine SimI.run 8 [(4, .one (li .i64 0)), (3, .one (li .i64 i92)), (89, .one (li .i64 i92)), (88, .one (.ptr 11 1)), (87, .one (.ptr 11 0)), (86, .one (.ptr 11 0)), (85, .agg [li .i64 r1.1, li .u8 (IntKind.wrap .u8 r2.1), li .i64 0, li .i64 0, li .i64 i83, ls s84, li .i64 i85, ls s86, li .i64 i87, ls s88, li .i64 i89, ls s90])] [(2, some (.cells [li .i64 r1.1, li .u8 (IntKind.wrap .u8 r2.1), li .i64 0, li .i64 0, li .i64 i83, ls s84, li .i64 i85, ls s86, li .i64 i87, ls s88, li .i64 i89, ls s90]))] (by kernel_rfl) ?_
        refine SimI.done (by kernel_rfl) ?_
        refine SimE.thenN ?_
        refine Sim.ret ?_
        exact SimE.fin (by kernel_rfl)

def F29_u82 (n : Nat) (r1 : (Int × Reader)) (r2 : (Int × Reader)) (i53 : Int) (s54 : ByteArray) (i61 : Int) (s62 : ByteArray) (i69 : Int) (s70 : ByteArray) (i77 : Int) (s78 : ByteArray) (s79 : ByteArray) (i80 : Int) (i81 : Int) : Option (Delta × Int × Int) :=
    F29_j94 n r1 r2 i53 s54 i61 s62 i69 s70 i77 s78 s79 i80 i81
theorem F29_u82_ok (n : Nat) (r1 : (Int × Reader)) (r2 : (Int × Reader)) (i53 : Int) (s54 : ByteArray) (i61 : Int) (s62 : ByteArray) (i69 : Int) (s70 : ByteArray) (i77 : Int) (s78 : ByteArray) (s79 : ByteArray) (i80 : Int) (i81 : Int) : SimL Try.prog D (n + 8) (n + 4) pc29_c43 [(2, .one (.ptr 2 0)), (5, .one (.ptr 11 0)), (6, .one (.ptr 6 0)), (51, .one (li .i64 4))] ((2, some (.cells [li .i64 0, li .u8 0, li .i64 0, li .i64 0, li .i64 0, ls ByteArray.empty, li .i64 0, ls ByteArray.empty, li .i64 0, ls ByteArray.empty, li .i64 0, ls ByteArray.empty])) :: ((6, some (.cells [li .i64 r1.1, li .u8 (IntKind.wrap .u8 r2.1), li .i64 0, li .i64 0, li .i64 i53, ls s54, li .i64 i61, ls s62, li .i64 i69, ls s70, li .i64 i77, ls s78])) :: ((11, some (.cells [ls s79, li .i64 i80, li .i64 i81])) :: []))) (F29_u82 n r1 r2 i53 s54 i61 s62 i69 s70 i77 s78 s79 i80 i81) (QB 0 (QT Try.prog D (n + 8) pc29_c65 (QF pc29_r 0 F29_e))) := by
    unfold F29_u82
    refine SimL.succ ?_
    refine Sim.seq ?_
    refine Sim.region [(2, .one (.ptr 2 0)), (5, .one (.ptr 11 0)), (6, .one (.ptr 6 0)), (51, .one (li .i64 4))] ((2, some (.cells [li .i64 0, li .u8 0, li .i64 0, li .i64 0, li .i64 0, ls ByteArray.empty, li .i64 0, ls ByteArray.empty, li .i64 0, ls ByteArray.empty, li .i64 0, ls ByteArray.empty])) :: ((6, some (.cells [li .i64 r1.1, li .u8 (IntKind.wrap .u8 r2.1), li .i64 0, li .i64 0, li .i64 i53, ls s54, li .i64 i61, ls s62, li .i64 i69, ls s70, li .i64 i77, ls s78])) :: ((11, some (.cells [ls s79, li .i64 i80, li .i64 i81])) :: []))) (by kernel_rfl) ?_
    refine SimI.run 1 [(52, .one (lb false))] [] (by kernel_rfl) ?_
    refine SimI.done (by kernel_rfl) ?_
    refine SimE.thenN ?_
    refine Sim.seq ?_
    refine Sim.condF (by kernel_rfl) ?_
    refine Sim.exit ?_
    refine SimE.thenX ?_
    refine SimE.loopX ?_
    refine SimE.blockX ?_
    refine SimE.thenN ?_
    refine Sim.pre (ts := [2, 5, 6]) (os := [2, 6, 11]) [(2, .one (.ptr 2 0)), (5, .one (.ptr 11 0)), (6, .one (.ptr 6 0))] ((2, some (.cells [li .i64 0, li .u8 0, li .i64 0, li .i64 0, li .i64 0, ls ByteArray.empty, li .i64 0, ls ByteArray.empty, li .i64 0, ls ByteArray.empty, li .i64 0, ls ByteArray.empty])) :: ((6, some (.cells [li .i64 r1.1, li .u8 (IntKind.wrap .u8 r2.1), li .i64 0, li .i64 0, li .i64 i53, ls s54, li .i64 i61, ls s62, li .i64 i69, ls s70, li .i64 i77, ls s78])) :: ((11, some (.cells [ls s79, li .i64 i80, li .i64 i81])) :: []))) (by kernel_rfl) (by kernel_rfl) (by kernel_rfl) ?_
    exact F29_j94_ok n r1 r2 i53 s54 i61 s62 i69 s70 i77 s78 s79 i80 i81

def F29_u74 (n : Nat) (r1 : (Int × Reader)) (r2 : (Int × Reader)) (i53 : Int) (s54 : ByteArray) (i61 : Int) (s62 : ByteArray) (i69 : Int) (s70 : ByteArray) (s71 : ByteArray) (i72 : Int) (i73 : Int) : Option (Delta × Int × Int) :=
    if i73 != 0 then
      F29_j94 n r1 r2 i53 s54 i61 s62 i69 s70 0 ByteArray.empty s71 i72 i73
    else
      (F43 n (IntKind.wrap .u8 r2.1) 3).bind fun (r75 : Bool) =>
      if r75 then
        (F52 n (Reader.mk s71 i72 i73)).bind fun (r76 : (Field × Reader)) =>
        F29_u82 n r1 r2 i53 s54 i61 s62 i69 s70 r76.1.N r76.1.Text r76.2.s r76.2.at_ r76.2.e
      else
        F29_u82 n r1 r2 i53 s54 i61 s62 i69 s70 0 ByteArray.empty s71 i72 i73
theorem F29_u74_ok (n : Nat) (r1 : (Int × Reader)) (r2 : (Int × Reader)) (i53 : Int) (s54 : ByteArray) (i61 : Int) (s62 : ByteArray) (i69 : Int) (s70 : ByteArray) (s71 : ByteArray) (i72 : Int) (i73 : Int) : SimL Try.prog D (n + 8) (n + 5) pc29_c43 [(2, .one (.ptr 2 0)), (5, .one (.ptr 11 0)), (6, .one (.ptr 6 0)), (51, .one (li .i64 3))] ((2, some (.cells [li .i64 0, li .u8 0, li .i64 0, li .i64 0, li .i64 0, ls ByteArray.empty, li .i64 0, ls ByteArray.empty, li .i64 0, ls ByteArray.empty, li .i64 0, ls ByteArray.empty])) :: ((6, some (.cells [li .i64 r1.1, li .u8 (IntKind.wrap .u8 r2.1), li .i64 0, li .i64 0, li .i64 i53, ls s54, li .i64 i61, ls s62, li .i64 i69, ls s70, li .i64 0, ls ByteArray.empty])) :: ((11, some (.cells [ls s71, li .i64 i72, li .i64 i73])) :: []))) (F29_u74 n r1 r2 i53 s54 i61 s62 i69 s70 s71 i72 i73) (QB 0 (QT Try.prog D (n + 8) pc29_c65 (QF pc29_r 0 F29_e))) := by
    unfold F29_u74
    refine SimL.succ ?_
    refine Sim.seq ?_
    refine Sim.region [(2, .one (.ptr 2 0)), (5, .one (.ptr 11 0)), (6, .one (.ptr 6 0)), (51, .one (li .i64 3))] ((2, some (.cells [li .i64 0, li .u8 0, li .i64 0, li .i64 0, li .i64 0, ls ByteArray.empty, li .i64 0, ls ByteArray.empty, li .i64 0, ls ByteArray.empty, li .i64 0, ls ByteArray.empty])) :: ((6, some (.cells [li .i64 r1.1, li .u8 (IntKind.wrap .u8 r2.1), li .i64 0, li .i64 0, li .i64 i53, ls s54, li .i64 i61, ls s62, li .i64 i69, ls s70, li .i64 0, ls ByteArray.empty])) :: ((11, some (.cells [ls s71, li .i64 i72, li .i64 i73])) :: []))) (by kernel_rfl) ?_
    refine SimI.run 1 [(52, .one (lb true))] [] (by kernel_rfl) ?_
    refine SimI.done (by kernel_rfl) ?_
    refine SimE.thenN ?_
    refine Sim.seq ?_
    refine Sim.condT (by kernel_rfl) ?_
    refine Sim.skip ?_
    refine SimE.thenN ?_
    refine Sim.seq ?_
    refine Sim.block ?_
    refine Sim.seq ?_
    refine Sim.region0 ?_
    refine SimI.run 2 [(8, .one (li .i64 3)), (53, .one (li .i64 3))] [] (by kernel_rfl) ?_
    refine SimI.done (by kernel_rfl) ?_
    refine SimE.thenN ?_
    refine Sim.block ?_
    refine Sim.seq ?_
    refine Sim.region0 ?_
    refine SimI.run 6 [(54, .one (lb (i73 != 0))), (59, .one (lb (i73 != 0))), (58, .one (li .i64 i73)), (57, .one (.ptr 11 2)), (56, .one (.ptr 11 0)), (55, .one (.ptr 11 0))] [] (by kernel_rfl) ?_
    refine SimI.done (by kernel_rfl) ?_
    refine SimE.thenN ?_
    refine Sim.cond (i73 != 0) (by kernel_rfl) ?_ ?_
    · refine Sim.exit ?_
      refine SimE.blockY rfl ?_
      refine SimE.blockY rfl ?_
      refine SimE.thenX ?_
      refine SimE.loopX ?_
      refine SimE.blockX ?_
      refine SimE.thenN ?_
      refine Sim.pre (ts := [2, 5, 6]) (os := [2, 6, 11]) [(2, .one (.ptr 2 0)), (5, .one (.ptr 11 0)), (6, .one (.ptr 6 0))] ((2, some (.cells [li .i64 0, li .u8 0, li .i64 0, li .i64 0, li .i64 0, ls ByteArray.empty, li .i64 0, ls ByteArray.empty, li .i64 0, ls ByteArray.empty, li .i64 0, ls ByteArray.empty])) :: ((6, some (.cells [li .i64 r1.1, li .u8 (IntKind.wrap .u8 r2.1), li .i64 0, li .i64 0, li .i64 i53, ls s54, li .i64 i61, ls s62, li .i64 i69, ls s70, li .i64 0, ls ByteArray.empty])) :: ((11, some (.cells [ls s71, li .i64 i72, li .i64 i73])) :: []))) (by kernel_rfl) (by kernel_rfl) (by kernel_rfl) ?_
      exact F29_j94_ok n r1 r2 i53 s54 i61 s62 i69 s70 0 ByteArray.empty s71 i72 i73
    · refine Sim.seq ?_
      refine Sim.region0 ?_
      refine SimI.run 3 [(63, .one (li .i64 3)), (62, .one (li .u8 (IntKind.wrap .u8 r2.1))), (61, .one (.ptr 6 1))] [] (by kernel_rfl) ?_
      refine SimI.bind (og := F43 n (IntKind.wrap .u8 r2.1) 3) { dst := some 64, op := POp.call true [[], []] 43 [Operand.tmp 62, Operand.tmp 63], guard := none, hints := [] } (fun r75 => [(64, .one (lb r75))]) (fun r75 => []) (by kernel_rfl) (fun r75 hr => pOp_eff (by kernel_rfl) (by kernel_rfl) (eff_call (ARGS := [.one (li .u8 (IntKind.wrap .u8 r2.1)), .one (li .i64 3)]) (by kernel_rfl) (args_clean (by kernel_rfl) (args_clean (by kernel_rfl) args_nil)) (F43_ok n (IntKind.wrap .u8 r2.1) 3 r75 hr) (by kernel_rfl))) (fun r75 => ?_)
      refine SimI.run 1 [(60, .one (lb r75))] [] (by kernel_rfl) ?_
      refine SimI.done (by kernel_rfl) ?_
      refine SimE.thenN ?_
      refine Sim.cond r75 (by kernel_rfl) ?_ ?_
      · refine Sim.region0 ?_
        refine SimI.run 2 [(66, .one (.ptr 11 0)), (65, .one (li .i64 3))] [] (by kernel_rfl) ?_
        refine SimI.bind (og := F52 n (Reader.mk s71 i72 i73)) { dst := some 67, op := POp.call true [[]] 52 [Operand.tmp 66], guard := none, hints := [] } (fun r76 => [(67, .agg [li .i64 r76.1.N, ls r76.1.Text])]) (fun r76 => [(11, some (.cells [ls r76.2.s, li .i64 r76.2.at_, li .i64 r76.2.e]))]) (by kernel_rfl) (fun r76 hr => pOp_eff (by kernel_rfl) (by kernel_rfl) (eff_callp (ARGS := [.one (.ptr 11 0)]) (ARGS' := [.one (.ptr 1000000 0)]) (ks := [11]) (os := [[ls s71, li .i64 i72, li .i64 i73]]) (os' := [[ls r76.2.s, li .i64 r76.2.at_, li .i64 r76.2.e]]) (by kernel_rfl) (args_ptr (by kernel_rfl) args_nil) rfl (by kernel_rfl) (F52_ok n (Reader.mk s71 i72 i73) r76 hr) (by kernel_rfl) (by kernel_rfl))) (fun r76 => ?_)
        refine SimI.run 3 [(69, .one (.ptr 6 10)), (68, .one (.ptr 6 4))] [(6, some (.cells [li .i64 r1.1, li .u8 (IntKind.wrap .u8 r2.1), li .i64 0, li .i64 0, li .i64 i53, ls s54, li .i64 i61, ls s62, li .i64 i69, ls s70, li .i64 r76.1.N, ls r76.1.Text]))] (by kernel_rfl) ?_
        refine SimI.done (by kernel_rfl) ?_
        refine SimE.blockN ?_
        refine SimE.blockN ?_
        refine SimE.thenN ?_
        refine Sim.region0 ?_
        refine SimI.run 2 [(51, .one (li .i64 4)), (70, .one (li .i64 4))] [] (by kernel_rfl) ?_
        refine SimI.done (by kernel_rfl) ?_
        refine SimE.loopN ?_
        refine SimL.pre (ts := [2, 5, 6, 51]) (os := [2, 6, 11]) [(2, .one (.ptr 2 0)), (5, .one (.ptr 11 0)), (6, .one (.ptr 6 0)), (51, .one (li .i64 4))] ((2, some (.cells [li .i64 0, li .u8 0, li .i64 0, li .i64 0, li .i64 0, ls ByteArray.empty, li .i64 0, ls ByteArray.empty, li .i64 0, ls ByteArray.empty, li .i64 0, ls ByteArray.empty])) :: ((6, some (.cells [li .i64 r1.1, li .u8 (IntKind.wrap .u8 r2.1), li .i64 0, li .i64 0, li .i64 i53, ls s54, li .i64 i61, ls s62, li .i64 i69, ls s70, li .i64 r76.1.N, ls r76.1.Text])) :: ((11, some (.cells [ls r76.2.s, li .i64 r76.2.at_, li .i64 r76.2.e])) :: []))) (by kernel_rfl) (by kernel_rfl) (by kernel_rfl) ?_
        exact F29_u82_ok n r1 r2 i53 s54 i61 s62 i69 s70 r76.1.N r76.1.Text r76.2.s r76.2.at_ r76.2.e
      · refine Sim.skip ?_
        refine SimE.blockN ?_
        refine SimE.blockN ?_
        refine SimE.thenN ?_
        refine Sim.region0 ?_
        refine SimI.run 2 [(51, .one (li .i64 4)), (70, .one (li .i64 4))] [] (by kernel_rfl) ?_
        refine SimI.done (by kernel_rfl) ?_
        refine SimE.loopN ?_
        refine SimL.pre (ts := [2, 5, 6, 51]) (os := [2, 6, 11]) [(2, .one (.ptr 2 0)), (5, .one (.ptr 11 0)), (6, .one (.ptr 6 0)), (51, .one (li .i64 4))] ((2, some (.cells [li .i64 0, li .u8 0, li .i64 0, li .i64 0, li .i64 0, ls ByteArray.empty, li .i64 0, ls ByteArray.empty, li .i64 0, ls ByteArray.empty, li .i64 0, ls ByteArray.empty])) :: ((6, some (.cells [li .i64 r1.1, li .u8 (IntKind.wrap .u8 r2.1), li .i64 0, li .i64 0, li .i64 i53, ls s54, li .i64 i61, ls s62, li .i64 i69, ls s70, li .i64 0, ls ByteArray.empty])) :: ((11, some (.cells [ls s71, li .i64 i72, li .i64 i73])) :: []))) (by kernel_rfl) (by kernel_rfl) (by kernel_rfl) ?_
        exact F29_u82_ok n r1 r2 i53 s54 i61 s62 i69 s70 0 ByteArray.empty s71 i72 i73

def F29_u66 (n : Nat) (r1 : (Int × Reader)) (r2 : (Int × Reader)) (i53 : Int) (s54 : ByteArray) (i61 : Int) (s62 : ByteArray) (s63 : ByteArray) (ii64 : Int) (i65 : Int) : Option (Delta × Int × Int) :=
    if i65 != 0 then
      F29_j94 n r1 r2 i53 s54 i61 s62 0 ByteArray.empty 0 ByteArray.empty s63 ii64 i65
    else
      (F43 n (IntKind.wrap .u8 r2.1) 2).bind fun (r67 : Bool) =>
      if r67 then
        (F52 n (Reader.mk s63 ii64 i65)).bind fun (r68 : (Field × Reader)) =>
        F29_u74 n r1 r2 i53 s54 i61 s62 r68.1.N r68.1.Text r68.2.s r68.2.at_ r68.2.e
      else
        F29_u74 n r1 r2 i53 s54 i61 s62 0 ByteArray.empty s63 ii64 i65
theorem F29_u66_ok (n : Nat) (r1 : (Int × Reader)) (r2 : (Int × Reader)) (i53 : Int) (s54 : ByteArray) (i61 : Int) (s62 : ByteArray) (s63 : ByteArray) (ii64 : Int) (i65 : Int) : SimL Try.prog D (n + 8) (n + 6) pc29_c43 [(2, .one (.ptr 2 0)), (5, .one (.ptr 11 0)), (6, .one (.ptr 6 0)), (51, .one (li .i64 2))] ((2, some (.cells [li .i64 0, li .u8 0, li .i64 0, li .i64 0, li .i64 0, ls ByteArray.empty, li .i64 0, ls ByteArray.empty, li .i64 0, ls ByteArray.empty, li .i64 0, ls ByteArray.empty])) :: ((6, some (.cells [li .i64 r1.1, li .u8 (IntKind.wrap .u8 r2.1), li .i64 0, li .i64 0, li .i64 i53, ls s54, li .i64 i61, ls s62, li .i64 0, ls ByteArray.empty, li .i64 0, ls ByteArray.empty])) :: ((11, some (.cells [ls s63, li .i64 ii64, li .i64 i65])) :: []))) (F29_u66 n r1 r2 i53 s54 i61 s62 s63 ii64 i65) (QB 0 (QT Try.prog D (n + 8) pc29_c65 (QF pc29_r 0 F29_e))) := by
    unfold F29_u66
    refine SimL.succ ?_
    refine Sim.seq ?_
    refine Sim.region [(2, .one (.ptr 2 0)), (5, .one (.ptr 11 0)), (6, .one (.ptr 6 0)), (51, .one (li .i64 2))] ((2, some (.cells [li .i64 0, li .u8 0, li .i64 0, li .i64 0, li .i64 0, ls ByteArray.empty, li .i64 0, ls ByteArray.empty, li .i64 0, ls ByteArray.empty, li .i64 0, ls ByteArray.empty])) :: ((6, some (.cells [li .i64 r1.1, li .u8 (IntKind.wrap .u8 r2.1), li .i64 0, li .i64 0, li .i64 i53, ls s54, li .i64 i61, ls s62, li .i64 0, ls ByteArray.empty, li .i64 0, ls ByteArray.empty])) :: ((11, some (.cells [ls s63, li .i64 ii64, li .i64 i65])) :: []))) (by kernel_rfl) ?_
    refine SimI.run 1 [(52, .one (lb true))] [] (by kernel_rfl) ?_
    refine SimI.done (by kernel_rfl) ?_
    refine SimE.thenN ?_
    refine Sim.seq ?_
    refine Sim.condT (by kernel_rfl) ?_
    refine Sim.skip ?_
    refine SimE.thenN ?_
    refine Sim.seq ?_
    refine Sim.block ?_
    refine Sim.seq ?_
    refine Sim.region0 ?_
    refine SimI.run 2 [(8, .one (li .i64 2)), (53, .one (li .i64 2))] [] (by kernel_rfl) ?_
    refine SimI.done (by kernel_rfl) ?_
    refine SimE.thenN ?_
    refine Sim.block ?_
    refine Sim.seq ?_
    refine Sim.region0 ?_
    refine SimI.run 6 [(54, .one (lb (i65 != 0))), (59, .one (lb (i65 != 0))), (58, .one (li .i64 i65)), (57, .one (.ptr 11 2)), (56, .one (.ptr 11 0)), (55, .one (.ptr 11 0))] [] (by kernel_rfl) ?_
    refine SimI.done (by kernel_rfl) ?_
    refine SimE.thenN ?_
    refine Sim.cond (i65 != 0) (by kernel_rfl) ?_ ?_
    · refine Sim.exit ?_
      refine SimE.blockY rfl ?_
      refine SimE.blockY rfl ?_
      refine SimE.thenX ?_
      refine SimE.loopX ?_
      refine SimE.blockX ?_
      refine SimE.thenN ?_
      refine Sim.pre (ts := [2, 5, 6]) (os := [2, 6, 11]) [(2, .one (.ptr 2 0)), (5, .one (.ptr 11 0)), (6, .one (.ptr 6 0))] ((2, some (.cells [li .i64 0, li .u8 0, li .i64 0, li .i64 0, li .i64 0, ls ByteArray.empty, li .i64 0, ls ByteArray.empty, li .i64 0, ls ByteArray.empty, li .i64 0, ls ByteArray.empty])) :: ((6, some (.cells [li .i64 r1.1, li .u8 (IntKind.wrap .u8 r2.1), li .i64 0, li .i64 0, li .i64 i53, ls s54, li .i64 i61, ls s62, li .i64 0, ls ByteArray.empty, li .i64 0, ls ByteArray.empty])) :: ((11, some (.cells [ls s63, li .i64 ii64, li .i64 i65])) :: []))) (by kernel_rfl) (by kernel_rfl) (by kernel_rfl) ?_
      exact F29_j94_ok n r1 r2 i53 s54 i61 s62 0 ByteArray.empty 0 ByteArray.empty s63 ii64 i65
    · refine Sim.seq ?_
      refine Sim.region0 ?_
      refine SimI.run 3 [(63, .one (li .i64 2)), (62, .one (li .u8 (IntKind.wrap .u8 r2.1))), (61, .one (.ptr 6 1))] [] (by kernel_rfl) ?_
      refine SimI.bind (og := F43 n (IntKind.wrap .u8 r2.1) 2) { dst := some 64, op := POp.call true [[], []] 43 [Operand.tmp 62, Operand.tmp 63], guard := none, hints := [] } (fun r67 => [(64, .one (lb r67))]) (fun r67 => []) (by kernel_rfl) (fun r67 hr => pOp_eff (by kernel_rfl) (by kernel_rfl) (eff_call (ARGS := [.one (li .u8 (IntKind.wrap .u8 r2.1)), .one (li .i64 2)]) (by kernel_rfl) (args_clean (by kernel_rfl) (args_clean (by kernel_rfl) args_nil)) (F43_ok n (IntKind.wrap .u8 r2.1) 2 r67 hr) (by kernel_rfl))) (fun r67 => ?_)
      refine SimI.run 1 [(60, .one (lb r67))] [] (by kernel_rfl) ?_
      refine SimI.done (by kernel_rfl) ?_
      refine SimE.thenN ?_
      refine Sim.cond r67 (by kernel_rfl) ?_ ?_
      · refine Sim.region0 ?_
        refine SimI.run 2 [(66, .one (.ptr 11 0)), (65, .one (li .i64 2))] [] (by kernel_rfl) ?_
        refine SimI.bind (og := F52 n (Reader.mk s63 ii64 i65)) { dst := some 67, op := POp.call true [[]] 52 [Operand.tmp 66], guard := none, hints := [] } (fun r68 => [(67, .agg [li .i64 r68.1.N, ls r68.1.Text])]) (fun r68 => [(11, some (.cells [ls r68.2.s, li .i64 r68.2.at_, li .i64 r68.2.e]))]) (by kernel_rfl) (fun r68 hr => pOp_eff (by kernel_rfl) (by kernel_rfl) (eff_callp (ARGS := [.one (.ptr 11 0)]) (ARGS' := [.one (.ptr 1000000 0)]) (ks := [11]) (os := [[ls s63, li .i64 ii64, li .i64 i65]]) (os' := [[ls r68.2.s, li .i64 r68.2.at_, li .i64 r68.2.e]]) (by kernel_rfl) (args_ptr (by kernel_rfl) args_nil) rfl (by kernel_rfl) (F52_ok n (Reader.mk s63 ii64 i65) r68 hr) (by kernel_rfl) (by kernel_rfl))) (fun r68 => ?_)
        refine SimI.run 3 [(69, .one (.ptr 6 8)), (68, .one (.ptr 6 4))] [(6, some (.cells [li .i64 r1.1, li .u8 (IntKind.wrap .u8 r2.1), li .i64 0, li .i64 0, li .i64 i53, ls s54, li .i64 i61, ls s62, li .i64 r68.1.N, ls r68.1.Text, li .i64 0, ls ByteArray.empty]))] (by kernel_rfl) ?_
        refine SimI.done (by kernel_rfl) ?_
        refine SimE.blockN ?_
        refine SimE.blockN ?_
        refine SimE.thenN ?_
        refine Sim.region0 ?_
        refine SimI.run 2 [(51, .one (li .i64 3)), (70, .one (li .i64 3))] [] (by kernel_rfl) ?_
        refine SimI.done (by kernel_rfl) ?_
        refine SimE.loopN ?_
        refine SimL.pre (ts := [2, 5, 6, 51]) (os := [2, 6, 11]) [(2, .one (.ptr 2 0)), (5, .one (.ptr 11 0)), (6, .one (.ptr 6 0)), (51, .one (li .i64 3))] ((2, some (.cells [li .i64 0, li .u8 0, li .i64 0, li .i64 0, li .i64 0, ls ByteArray.empty, li .i64 0, ls ByteArray.empty, li .i64 0, ls ByteArray.empty, li .i64 0, ls ByteArray.empty])) :: ((6, some (.cells [li .i64 r1.1, li .u8 (IntKind.wrap .u8 r2.1), li .i64 0, li .i64 0, li .i64 i53, ls s54, li .i64 i61, ls s62, li .i64 r68.1.N, ls r68.1.Text, li .i64 0, ls ByteArray.empty])) :: ((11, some (.cells [ls r68.2.s, li .i64 r68.2.at_, li .i64 r68.2.e])) :: []))) (by kernel_rfl) (by kernel_rfl) (by kernel_rfl) ?_
        exact F29_u74_ok n r1 r2 i53 s54 i61 s62 r68.1.N r68.1.Text r68.2.s r68.2.at_ r68.2.e
      · refine Sim.skip ?_
        refine SimE.blockN ?_
        refine SimE.blockN ?_
        refine SimE.thenN ?_
        refine Sim.region0 ?_
        refine SimI.run 2 [(51, .one (li .i64 3)), (70, .one (li .i64 3))] [] (by kernel_rfl) ?_
        refine SimI.done (by kernel_rfl) ?_
        refine SimE.loopN ?_
        refine SimL.pre (ts := [2, 5, 6, 51]) (os := [2, 6, 11]) [(2, .one (.ptr 2 0)), (5, .one (.ptr 11 0)), (6, .one (.ptr 6 0)), (51, .one (li .i64 3))] ((2, some (.cells [li .i64 0, li .u8 0, li .i64 0, li .i64 0, li .i64 0, ls ByteArray.empty, li .i64 0, ls ByteArray.empty, li .i64 0, ls ByteArray.empty, li .i64 0, ls ByteArray.empty])) :: ((6, some (.cells [li .i64 r1.1, li .u8 (IntKind.wrap .u8 r2.1), li .i64 0, li .i64 0, li .i64 i53, ls s54, li .i64 i61, ls s62, li .i64 0, ls ByteArray.empty, li .i64 0, ls ByteArray.empty])) :: ((11, some (.cells [ls s63, li .i64 ii64, li .i64 i65])) :: []))) (by kernel_rfl) (by kernel_rfl) (by kernel_rfl) ?_
        exact F29_u74_ok n r1 r2 i53 s54 i61 s62 0 ByteArray.empty s63 ii64 i65

def F29_u58 (n : Nat) (r1 : (Int × Reader)) (r2 : (Int × Reader)) (i53 : Int) (s54 : ByteArray) (s55 : ByteArray) (i56 : Int) (i57 : Int) : Option (Delta × Int × Int) :=
    if i57 != 0 then
      F29_j94 n r1 r2 i53 s54 0 ByteArray.empty 0 ByteArray.empty 0 ByteArray.empty s55 i56 i57
    else
      (F43 n (IntKind.wrap .u8 r2.1) 1).bind fun (r59 : Bool) =>
      if r59 then
        (F52 n (Reader.mk s55 i56 i57)).bind fun (r60 : (Field × Reader)) =>
        F29_u66 n r1 r2 i53 s54 r60.1.N r60.1.Text r60.2.s r60.2.at_ r60.2.e
      else
        F29_u66 n r1 r2 i53 s54 0 ByteArray.empty s55 i56 i57
theorem F29_u58_ok (n : Nat) (r1 : (Int × Reader)) (r2 : (Int × Reader)) (i53 : Int) (s54 : ByteArray) (s55 : ByteArray) (i56 : Int) (i57 : Int) : SimL Try.prog D (n + 8) (n + 7) pc29_c43 [(2, .one (.ptr 2 0)), (5, .one (.ptr 11 0)), (6, .one (.ptr 6 0)), (51, .one (li .i64 1))] ((2, some (.cells [li .i64 0, li .u8 0, li .i64 0, li .i64 0, li .i64 0, ls ByteArray.empty, li .i64 0, ls ByteArray.empty, li .i64 0, ls ByteArray.empty, li .i64 0, ls ByteArray.empty])) :: ((6, some (.cells [li .i64 r1.1, li .u8 (IntKind.wrap .u8 r2.1), li .i64 0, li .i64 0, li .i64 i53, ls s54, li .i64 0, ls ByteArray.empty, li .i64 0, ls ByteArray.empty, li .i64 0, ls ByteArray.empty])) :: ((11, some (.cells [ls s55, li .i64 i56, li .i64 i57])) :: []))) (F29_u58 n r1 r2 i53 s54 s55 i56 i57) (QB 0 (QT Try.prog D (n + 8) pc29_c65 (QF pc29_r 0 F29_e))) := by
    unfold F29_u58
    refine SimL.succ ?_
    refine Sim.seq ?_
    refine Sim.region [(2, .one (.ptr 2 0)), (5, .one (.ptr 11 0)), (6, .one (.ptr 6 0)), (51, .one (li .i64 1))] ((2, some (.cells [li .i64 0, li .u8 0, li .i64 0, li .i64 0, li .i64 0, ls ByteArray.empty, li .i64 0, ls ByteArray.empty, li .i64 0, ls ByteArray.empty, li .i64 0, ls ByteArray.empty])) :: ((6, some (.cells [li .i64 r1.1, li .u8 (IntKind.wrap .u8 r2.1), li .i64 0, li .i64 0, li .i64 i53, ls s54, li .i64 0, ls ByteArray.empty, li .i64 0, ls ByteArray.empty, li .i64 0, ls ByteArray.empty])) :: ((11, some (.cells [ls s55, li .i64 i56, li .i64 i57])) :: []))) (by kernel_rfl) ?_
    refine SimI.run 1 [(52, .one (lb true))] [] (by kernel_rfl) ?_
    refine SimI.done (by kernel_rfl) ?_
    refine SimE.thenN ?_
    refine Sim.seq ?_
    refine Sim.condT (by kernel_rfl) ?_
    refine Sim.skip ?_
    refine SimE.thenN ?_
    refine Sim.seq ?_
    refine Sim.block ?_
    refine Sim.seq ?_
    refine Sim.region0 ?_
    refine SimI.run 2 [(8, .one (li .i64 1)), (53, .one (li .i64 1))] [] (by kernel_rfl) ?_
    refine SimI.done (by kernel_rfl) ?_
    refine SimE.thenN ?_
    refine Sim.block ?_
    refine Sim.seq ?_
    refine Sim.region0 ?_
    refine SimI.run 6 [(54, .one (lb (i57 != 0))), (59, .one (lb (i57 != 0))), (58, .one (li .i64 i57)), (57, .one (.ptr 11 2)), (56, .one (.ptr 11 0)), (55, .one (.ptr 11 0))] [] (by kernel_rfl) ?_
    refine SimI.done (by kernel_rfl) ?_
    refine SimE.thenN ?_
    refine Sim.cond (i57 != 0) (by kernel_rfl) ?_ ?_
    · refine Sim.exit ?_
      refine SimE.blockY rfl ?_
      refine SimE.blockY rfl ?_
      refine SimE.thenX ?_
      refine SimE.loopX ?_
      refine SimE.blockX ?_
      refine SimE.thenN ?_
      refine Sim.pre (ts := [2, 5, 6]) (os := [2, 6, 11]) [(2, .one (.ptr 2 0)), (5, .one (.ptr 11 0)), (6, .one (.ptr 6 0))] ((2, some (.cells [li .i64 0, li .u8 0, li .i64 0, li .i64 0, li .i64 0, ls ByteArray.empty, li .i64 0, ls ByteArray.empty, li .i64 0, ls ByteArray.empty, li .i64 0, ls ByteArray.empty])) :: ((6, some (.cells [li .i64 r1.1, li .u8 (IntKind.wrap .u8 r2.1), li .i64 0, li .i64 0, li .i64 i53, ls s54, li .i64 0, ls ByteArray.empty, li .i64 0, ls ByteArray.empty, li .i64 0, ls ByteArray.empty])) :: ((11, some (.cells [ls s55, li .i64 i56, li .i64 i57])) :: []))) (by kernel_rfl) (by kernel_rfl) (by kernel_rfl) ?_
      exact F29_j94_ok n r1 r2 i53 s54 0 ByteArray.empty 0 ByteArray.empty 0 ByteArray.empty s55 i56 i57
    · refine Sim.seq ?_
      refine Sim.region0 ?_
      refine SimI.run 3 [(63, .one (li .i64 1)), (62, .one (li .u8 (IntKind.wrap .u8 r2.1))), (61, .one (.ptr 6 1))] [] (by kernel_rfl) ?_
      refine SimI.bind (og := F43 n (IntKind.wrap .u8 r2.1) 1) { dst := some 64, op := POp.call true [[], []] 43 [Operand.tmp 62, Operand.tmp 63], guard := none, hints := [] } (fun r59 => [(64, .one (lb r59))]) (fun r59 => []) (by kernel_rfl) (fun r59 hr => pOp_eff (by kernel_rfl) (by kernel_rfl) (eff_call (ARGS := [.one (li .u8 (IntKind.wrap .u8 r2.1)), .one (li .i64 1)]) (by kernel_rfl) (args_clean (by kernel_rfl) (args_clean (by kernel_rfl) args_nil)) (F43_ok n (IntKind.wrap .u8 r2.1) 1 r59 hr) (by kernel_rfl))) (fun r59 => ?_)
      refine SimI.run 1 [(60, .one (lb r59))] [] (by kernel_rfl) ?_
      refine SimI.done (by kernel_rfl) ?_
      refine SimE.thenN ?_
      refine Sim.cond r59 (by kernel_rfl) ?_ ?_
      · refine Sim.region0 ?_
        refine SimI.run 2 [(66, .one (.ptr 11 0)), (65, .one (li .i64 1))] [] (by kernel_rfl) ?_
        refine SimI.bind (og := F52 n (Reader.mk s55 i56 i57)) { dst := some 67, op := POp.call true [[]] 52 [Operand.tmp 66], guard := none, hints := [] } (fun r60 => [(67, .agg [li .i64 r60.1.N, ls r60.1.Text])]) (fun r60 => [(11, some (.cells [ls r60.2.s, li .i64 r60.2.at_, li .i64 r60.2.e]))]) (by kernel_rfl) (fun r60 hr => pOp_eff (by kernel_rfl) (by kernel_rfl) (eff_callp (ARGS := [.one (.ptr 11 0)]) (ARGS' := [.one (.ptr 1000000 0)]) (ks := [11]) (os := [[ls s55, li .i64 i56, li .i64 i57]]) (os' := [[ls r60.2.s, li .i64 r60.2.at_, li .i64 r60.2.e]]) (by kernel_rfl) (args_ptr (by kernel_rfl) args_nil) rfl (by kernel_rfl) (F52_ok n (Reader.mk s55 i56 i57) r60 hr) (by kernel_rfl) (by kernel_rfl))) (fun r60 => ?_)
        refine SimI.run 3 [(69, .one (.ptr 6 6)), (68, .one (.ptr 6 4))] [(6, some (.cells [li .i64 r1.1, li .u8 (IntKind.wrap .u8 r2.1), li .i64 0, li .i64 0, li .i64 i53, ls s54, li .i64 r60.1.N, ls r60.1.Text, li .i64 0, ls ByteArray.empty, li .i64 0, ls ByteArray.empty]))] (by kernel_rfl) ?_
        refine SimI.done (by kernel_rfl) ?_
        refine SimE.blockN ?_
        refine SimE.blockN ?_
        refine SimE.thenN ?_
        refine Sim.region0 ?_
        refine SimI.run 2 [(51, .one (li .i64 2)), (70, .one (li .i64 2))] [] (by kernel_rfl) ?_
        refine SimI.done (by kernel_rfl) ?_
        refine SimE.loopN ?_
        refine SimL.pre (ts := [2, 5, 6, 51]) (os := [2, 6, 11]) [(2, .one (.ptr 2 0)), (5, .one (.ptr 11 0)), (6, .one (.ptr 6 0)), (51, .one (li .i64 2))] ((2, some (.cells [li .i64 0, li .u8 0, li .i64 0, li .i64 0, li .i64 0, ls ByteArray.empty, li .i64 0, ls ByteArray.empty, li .i64 0, ls ByteArray.empty, li .i64 0, ls ByteArray.empty])) :: ((6, some (.cells [li .i64 r1.1, li .u8 (IntKind.wrap .u8 r2.1), li .i64 0, li .i64 0, li .i64 i53, ls s54, li .i64 r60.1.N, ls r60.1.Text, li .i64 0, ls ByteArray.empty, li .i64 0, ls ByteArray.empty])) :: ((11, some (.cells [ls r60.2.s, li .i64 r60.2.at_, li .i64 r60.2.e])) :: []))) (by kernel_rfl) (by kernel_rfl) (by kernel_rfl) ?_
        exact F29_u66_ok n r1 r2 i53 s54 r60.1.N r60.1.Text r60.2.s r60.2.at_ r60.2.e
      · refine Sim.skip ?_
        refine SimE.blockN ?_
        refine SimE.blockN ?_
        refine SimE.thenN ?_
        refine Sim.region0 ?_
        refine SimI.run 2 [(51, .one (li .i64 2)), (70, .one (li .i64 2))] [] (by kernel_rfl) ?_
        refine SimI.done (by kernel_rfl) ?_
        refine SimE.loopN ?_
        refine SimL.pre (ts := [2, 5, 6, 51]) (os := [2, 6, 11]) [(2, .one (.ptr 2 0)), (5, .one (.ptr 11 0)), (6, .one (.ptr 6 0)), (51, .one (li .i64 2))] ((2, some (.cells [li .i64 0, li .u8 0, li .i64 0, li .i64 0, li .i64 0, ls ByteArray.empty, li .i64 0, ls ByteArray.empty, li .i64 0, ls ByteArray.empty, li .i64 0, ls ByteArray.empty])) :: ((6, some (.cells [li .i64 r1.1, li .u8 (IntKind.wrap .u8 r2.1), li .i64 0, li .i64 0, li .i64 i53, ls s54, li .i64 0, ls ByteArray.empty, li .i64 0, ls ByteArray.empty, li .i64 0, ls ByteArray.empty])) :: ((11, some (.cells [ls s55, li .i64 i56, li .i64 i57])) :: []))) (by kernel_rfl) (by kernel_rfl) (by kernel_rfl) ?_
        exact F29_u66_ok n r1 r2 i53 s54 0 ByteArray.empty s55 i56 i57

def F29_j3 (n : Nat) (r1 : (Int × Reader)) (r2 : (Int × Reader)) : Option (Delta × Int × Int) :=
    if (bitsI .and .u8 (IntKind.wrap .u8 r2.1) 1) != 0 then
      (F51 n r2.2).bind fun (r4 : (Int × Reader)) =>
      (F51 n r4.2).bind fun (r5 : (Int × Reader)) =>
      if r5.2.e != 0 then
        F29_j49 n r1 r2 r4 r5 0 ByteArray.empty 0 ByteArray.empty 0 ByteArray.empty 0 ByteArray.empty r5.2.s r5.2.at_ r5.2.e
      else
        (F43 n (IntKind.wrap .u8 r2.1) 0).bind fun (r6 : Bool) =>
        if r6 then
          (F52 n r5.2).bind fun (r7 : (Field × Reader)) =>
          F29_u13 n r1 r2 r4 r5 r7.1.N r7.1.Text r7.2.s r7.2.at_ r7.2.e
        else
          F29_u13 n r1 r2 r4 r5 0 ByteArray.empty r5.2.s r5.2.at_ r5.2.e
    else
      if r2.2.e != 0 then
        F29_j94 n r1 r2 0 ByteArray.empty 0 ByteArray.empty 0 ByteArray.empty 0 ByteArray.empty r2.2.s r2.2.at_ r2.2.e
      else
        (F43 n (IntKind.wrap .u8 r2.1) 0).bind fun (r51 : Bool) =>
        if r51 then
          (F52 n r2.2).bind fun (r52 : (Field × Reader)) =>
          F29_u58 n r1 r2 r52.1.N r52.1.Text r52.2.s r52.2.at_ r52.2.e
        else
          F29_u58 n r1 r2 0 ByteArray.empty r2.2.s r2.2.at_ r2.2.e
theorem F29_j3_ok (n : Nat) (r1 : (Int × Reader)) (r2 : (Int × Reader)) : Sim Try.prog D (n + 8) pc29_c68 [(2, .one (.ptr 2 0)), (5, .one (.ptr 11 0)), (6, .one (.ptr 6 0)), (7, .one (li .i64 r2.1))] ((2, some (.cells [li .i64 0, li .u8 0, li .i64 0, li .i64 0, li .i64 0, ls ByteArray.empty, li .i64 0, ls ByteArray.empty, li .i64 0, ls ByteArray.empty, li .i64 0, ls ByteArray.empty])) :: ((6, some (.cells [li .i64 r1.1, li .u8 0, li .i64 0, li .i64 0, li .i64 0, ls ByteArray.empty, li .i64 0, ls ByteArray.empty, li .i64 0, ls ByteArray.empty, li .i64 0, ls ByteArray.empty])) :: ((11, some (.cells [ls r2.2.s, li .i64 r2.2.at_, li .i64 r2.2.e])) :: []))) (F29_j3 n r1 r2) (QF pc29_r 0 F29_e) := by
    unfold F29_j3
    refine Sim.seq ?_
    refine Sim.seq ?_
    refine Sim.region [(2, .one (.ptr 2 0)), (5, .one (.ptr 11 0)), (6, .one (.ptr 6 0)), (7, .one (li .i64 r2.1))] ((2, some (.cells [li .i64 0, li .u8 0, li .i64 0, li .i64 0, li .i64 0, ls ByteArray.empty, li .i64 0, ls ByteArray.empty, li .i64 0, ls ByteArray.empty, li .i64 0, ls ByteArray.empty])) :: ((6, some (.cells [li .i64 r1.1, li .u8 0, li .i64 0, li .i64 0, li .i64 0, ls ByteArray.empty, li .i64 0, ls ByteArray.empty, li .i64 0, ls ByteArray.empty, li .i64 0, ls ByteArray.empty])) :: ((11, some (.cells [ls r2.2.s, li .i64 r2.2.at_, li .i64 r2.2.e])) :: []))) (by kernel_rfl) ?_
    refine SimI.run 4 [(38, .one (.ptr 6 1)), (37, .one (li .u8 (IntKind.wrap .u8 r2.1))), (36, .one (li .i64 r2.1))] [(6, some (.cells [li .i64 r1.1, li .u8 (IntKind.wrap .u8 r2.1), li .i64 0, li .i64 0, li .i64 0, ls ByteArray.empty, li .i64 0, ls ByteArray.empty, li .i64 0, ls ByteArray.empty, li .i64 0, ls ByteArray.empty]))] (by kernel_rfl) ?_
    refine SimI.done (by kernel_rfl) ?_
    refine SimE.thenN ?_
    refine Sim.seq ?_
    refine Sim.region0 ?_
    refine SimI.run 4 [(42, .one (lb ((bitsI .and .u8 (IntKind.wrap .u8 r2.1) 1) != 0))), (41, .one (li .u8 (bitsI .and .u8 (IntKind.wrap .u8 r2.1) 1))), (40, .one (li .u8 (IntKind.wrap .u8 r2.1))), (39, .one (.ptr 6 1))] [] (by kernel_rfl) ?_
    refine SimI.done (by kernel_rfl) ?_
    refine SimE.thenN ?_
    refine Sim.cond ((bitsI .and .u8 (IntKind.wrap .u8 r2.1) 1) != 0) (by kernel_rfl) ?_ ?_
    · refine Sim.seq ?_
      refine Sim.region0 ?_
      refine SimI.run 1 [(43, .one (.ptr 11 0))] [] (by kernel_rfl) ?_
      refine SimI.bind (og := F51 n r2.2) { dst := some 44, op := POp.call true [[]] 51 [Operand.tmp 43], guard := none, hints := [] } (fun r4 => [(44, .one (li .i64 r4.1))]) (fun r4 => [(11, some (.cells [ls r4.2.s, li .i64 r4.2.at_, li .i64 r4.2.e]))]) (by kernel_rfl) (fun r4 hr => pOp_eff (by kernel_rfl) (by kernel_rfl) (eff_callp (ARGS := [.one (.ptr 11 0)]) (ARGS' := [.one (.ptr 1000000 0)]) (ks := [11]) (os := [[ls r2.2.s, li .i64 r2.2.at_, li .i64 r2.2.e]]) (os' := [[ls r4.2.s, li .i64 r4.2.at_, li .i64 r4.2.e]]) (by kernel_rfl) (args_ptr (by kernel_rfl) args_nil) rfl (by kernel_rfl) (F51_ok n r2.2 r4 hr) (by kernel_rfl) (by kernel_rfl))) (fun r4 => ?_)
      refine SimI.run 3 [(46, .one (.ptr 6 2)), (45, .one (.ptr 6 2))] [(6, some (.cells [li .i64 r1.1, li .u8 (IntKind.wrap .u8 r2.1), li .i64 r4.1, li .i64 0, li .i64 0, ls ByteArray.empty, li .i64 0, ls ByteArray.empty, li .i64 0, ls ByteArray.empty, li .i64 0, ls ByteArray.empty]))] (by kernel_rfl) ?_
      refine SimI.done (by kernel_rfl) ?_
      refine SimE.thenN ?_
      refine Sim.region0 ?_
      refine SimI.run 1 [(47, .one (.ptr 11 0))] [] (by kernel_rfl) ?_
      refine SimI.bind (og := F51 n r4.2) { dst := some 48, op := POp.call true [[]] 51 [Operand.tmp 47], guard := none, hints := [] } (fun r5 => [(48, .one (li .i64 r5.1))]) (fun r5 => [(11, some (.cells [ls r5.2.s, li .i64 r5.2.at_, li .i64 r5.2.e]))]) (by kernel_rfl) (fun r5 hr => pOp_eff (by kernel_rfl) (by kernel_rfl) (eff_callp (ARGS := [.one (.ptr 11 0)]) (ARGS' := [.one (.ptr 1000000 0)]) (ks := [11]) (os := [[ls r4.2.s, li .i64 r4.2.at_, li .i64 r4.2.e]]) (os' := [[ls r5.2.s, li .i64 r5.2.at_, li .i64 r5.2.e]]) (by kernel_rfl) (args_ptr (by kernel_rfl) args_nil) rfl (by kernel_rfl) (F51_ok n r4.2 r5 hr) (by kernel_rfl) (by kernel_rfl))) (fun r5 => ?_)
      refine SimI.run 3 [(50, .one (.ptr 6 3)), (49, .one (.ptr 6 2))] [(6, some (.cells [li .i64 r1.1, li .u8 (IntKind.wrap .u8 r2.1), li .i64 r4.1, li .i64 r5.1, li .i64 0, ls ByteArray.empty, li .i64 0, ls ByteArray.empty, li .i64 0, ls ByteArray.empty, li .i64 0, ls ByteArray.empty]))] (by kernel_rfl) ?_
      refine SimI.done (by kernel_rfl) ?_
      refine SimE.thenN ?_
      refine Sim.seq ?_
      refine Sim.label ?_
      refine SimE.thenN ?_
      refine Sim.seq ?_
      refine Sim.seq ?_
      refine Sim.region0 ?_
      refine SimI.run 1 [(51, .one (li .i64 0))] [] (by kernel_rfl) ?_
      refine SimI.done (by kernel_rfl) ?_
      refine SimE.thenN ?_
      refine Sim.block ?_
      refine Sim.loop ?_
      refine SimL.succ ?_
      refine Sim.seq ?_
      refine Sim.region [(2, .one (.ptr 2 0)), (5, .one (.ptr 11 0)), (6, .one (.ptr 6 0)), (51, .one (li .i64 0))] ((2, some (.cells [li .i64 0, li .u8 0, li .i64 0, li .i64 0, li .i64 0, ls ByteArray.empty, li .i64 0, ls ByteArray.empty, li .i64 0, ls ByteArray.empty, li .i64 0, ls ByteArray.empty])) :: ((6, some (.cells [li .i64 r1.1, li .u8 (IntKind.wrap .u8 r2.1), li .i64 r4.1, li .i64 r5.1, li .i64 0, ls ByteArray.empty, li .i64 0, ls ByteArray.empty, li .i64 0, ls ByteArray.empty, li .i64 0, ls ByteArray.empty])) :: ((11, some (.cells [ls r5.2.s, li .i64 r5.2.at_, li .i64 r5.2.e])) :: []))) (by kernel_rfl) ?_
      refine SimI.run 1 [(52, .one (lb true))] [] (by kernel_rfl) ?_
      refine SimI.done (by kernel_rfl) ?_
      refine SimE.thenN ?_
      refine Sim.seq ?_
      refine Sim.condT (by kernel_rfl) ?_
      refine Sim.skip ?_
      refine SimE.thenN ?_
      refine Sim.seq ?_
      refine Sim.block ?_
      refine Sim.seq ?_
      refine Sim.region0 ?_
      refine SimI.run 2 [(8, .one (li .i64 0)), (53, .one (li .i64 0))] [] (by kernel_rfl) ?_
      refine SimI.done (by kernel_rfl) ?_
      refine SimE.thenN ?_
      refine Sim.block ?_
      refine Sim.seq ?_
      refine Sim.region0 ?_
      refine SimI.run 6 [(54, .one (lb (r5.2.e != 0))), (59, .one (lb (r5.2.e != 0))), (58, .one (li .i64 r5.2.e)), (57, .one (.ptr 11 2)), (56, .one (.ptr 11 0)), (55, .one (.ptr 11 0))] [] (by kernel_rfl) ?_
      refine SimI.done (by kernel_rfl) ?_
      refine SimE.thenN ?_
      refine Sim.cond (r5.2.e != 0) (by kernel_rfl) ?_ ?_
      · refine Sim.exit ?_
        refine SimE.blockY rfl ?_
        refine SimE.blockY rfl ?_
        refine SimE.thenX ?_
        refine SimE.loopX ?_
        refine SimE.blockX ?_
        refine SimE.thenN ?_
        refine Sim.pre (ts := [2, 5, 6]) (os := [2, 6, 11]) [(2, .one (.ptr 2 0)), (5, .one (.ptr 11 0)), (6, .one (.ptr 6 0))] ((2, some (.cells [li .i64 0, li .u8 0, li .i64 0, li .i64 0, li .i64 0, ls ByteArray.empty, li .i64 0, ls ByteArray.empty, li .i64 0, ls ByteArray.empty, li .i64 0, ls ByteArray.empty])) :: ((6, some (.cells [li .i64 r1.1, li .u8 (IntKind.wrap .u8 r2.1), li .i64 r4.1, li .i64 r5.1, li .i64 0, ls ByteArray.empty, li .i64 0, ls ByteArray.empty, li .i64 0, ls ByteArray.empty, li .i64 0, ls ByteArray.empty])) :: ((11, some (.cells [ls r5.2.s, li .i64 r5.2.at_, li .i64 r5.2.e])) :: []))) (by kernel_rfl) (by kernel_rfl) (by kernel_rfl) ?_
        exact F29_j49_ok n r1 r2 r4 r5 0 ByteArray.empty 0 ByteArray.empty 0 ByteArray.empty 0 ByteArray.empty r5.2.s r5.2.at_ r5.2.e
      · refine Sim.seq ?_
        refine Sim.region0 ?_
        refine SimI.run 3 [(63, .one (li .i64 0)), (62, .one (li .u8 (IntKind.wrap .u8 r2.1))), (61, .one (.ptr 6 1))] [] (by kernel_rfl) ?_
        refine SimI.bind (og := F43 n (IntKind.wrap .u8 r2.1) 0) { dst := some 64, op := POp.call true [[], []] 43 [Operand.tmp 62, Operand.tmp 63], guard := none, hints := [] } (fun r6 => [(64, .one (lb r6))]) (fun r6 => []) (by kernel_rfl) (fun r6 hr => pOp_eff (by kernel_rfl) (by kernel_rfl) (eff_call (ARGS := [.one (li .u8 (IntKind.wrap .u8 r2.1)), .one (li .i64 0)]) (by kernel_rfl) (args_clean (by kernel_rfl) (args_clean (by kernel_rfl) args_nil)) (F43_ok n (IntKind.wrap .u8 r2.1) 0 r6 hr) (by kernel_rfl))) (fun r6 => ?_)
        refine SimI.run 1 [(60, .one (lb r6))] [] (by kernel_rfl) ?_
        refine SimI.done (by kernel_rfl) ?_
        refine SimE.thenN ?_
        refine Sim.cond r6 (by kernel_rfl) ?_ ?_
        · refine Sim.region0 ?_
          refine SimI.run 2 [(66, .one (.ptr 11 0)), (65, .one (li .i64 0))] [] (by kernel_rfl) ?_
          refine SimI.bind (og := F52 n r5.2) { dst := some 67, op := POp.call true [[]] 52 [Operand.tmp 66], guard := none, hints := [] } (fun r7 => [(67, .agg [li .i64 r7.1.N, ls r7.1.Text])]) (fun r7 => [(11, some (.cells [ls r7.2.s, li .i64 r7.2.at_, li .i64 r7.2.e]))]) (by kernel_rfl) (fun r7 hr => pOp_eff (by kernel_rfl) (by kernel_rfl) (eff_callp (ARGS := [.one (.ptr 11 0)]) (ARGS' := [.one (.ptr 1000000 0)]) (ks := [11]) (os := [[ls r5.2.s, li .i64 r5.2.at_, li .i64 r5.2.e]]) (os' := [[ls r7.2.s, li .i64 r7.2.at_, li .i64 r7.2.e]]) (by kernel_rfl) (args_ptr (by kernel_rfl) args_nil) rfl (by kernel_rfl) (F52_ok n r5.2 r7 hr) (by kernel_rfl) (by kernel_rfl))) (fun r7 => ?_)
          refine SimI.run 3 [(69, .one (.ptr 6 4)), (68, .one (.ptr 6 4))] [(6, some (.cells [li .i64 r1.1, li .u8 (IntKind.wrap .u8 r2.1), li .i64 r4.1, li .i64 r5.1, li .i64 r7.1.N, ls r7.1.Text, li .i64 0, ls ByteArray.empty, li .i64 0, ls ByteArray.empty, li .i64 0, ls ByteArray.empty]))] (by kernel_rfl) ?_
          refine SimI.done (by kernel_rfl) ?_
          refine SimE.blockN ?_
          refine SimE.blockN ?_
          refine SimE.thenN ?_
          refine Sim.region0 ?_
          refine SimI.run 2 [(51, .one (li .i64 1)), (70, .one (li .i64 1))] [] (by kernel_rfl) ?_
          refine SimI.done (by kernel_rfl) ?_
          refine SimE.loopN ?_
          refine SimL.pre (ts := [2, 5, 6, 51]) (os := [2, 6, 11]) [(2, .one (.ptr 2 0)), (5, .one (.ptr 11 0)), (6, .one (.ptr 6 0)), (51, .one (li .i64 1))] ((2, some (.cells [li .i64 0, li .u8 0, li .i64 0, li .i64 0, li .i64 0, ls ByteArray.empty, li .i64 0, ls ByteArray.empty, li .i64 0, ls ByteArray.empty, li .i64 0, ls ByteArray.empty])) :: ((6, some (.cells [li .i64 r1.1, li .u8 (IntKind.wrap .u8 r2.1), li .i64 r4.1, li .i64 r5.1, li .i64 r7.1.N, ls r7.1.Text, li .i64 0, ls ByteArray.empty, li .i64 0, ls ByteArray.empty, li .i64 0, ls ByteArray.empty])) :: ((11, some (.cells [ls r7.2.s, li .i64 r7.2.at_, li .i64 r7.2.e])) :: []))) (by kernel_rfl) (by kernel_rfl) (by kernel_rfl) ?_
          exact F29_u13_ok n r1 r2 r4 r5 r7.1.N r7.1.Text r7.2.s r7.2.at_ r7.2.e
        · refine Sim.skip ?_
          refine SimE.blockN ?_
          refine SimE.blockN ?_
          refine SimE.thenN ?_
          refine Sim.region0 ?_
          refine SimI.run 2 [(51, .one (li .i64 1)), (70, .one (li .i64 1))] [] (by kernel_rfl) ?_
          refine SimI.done (by kernel_rfl) ?_
          refine SimE.loopN ?_
          refine SimL.pre (ts := [2, 5, 6, 51]) (os := [2, 6, 11]) [(2, .one (.ptr 2 0)), (5, .one (.ptr 11 0)), (6, .one (.ptr 6 0)), (51, .one (li .i64 1))] ((2, some (.cells [li .i64 0, li .u8 0, li .i64 0, li .i64 0, li .i64 0, ls ByteArray.empty, li .i64 0, ls ByteArray.empty, li .i64 0, ls ByteArray.empty, li .i64 0, ls ByteArray.empty])) :: ((6, some (.cells [li .i64 r1.1, li .u8 (IntKind.wrap .u8 r2.1), li .i64 r4.1, li .i64 r5.1, li .i64 0, ls ByteArray.empty, li .i64 0, ls ByteArray.empty, li .i64 0, ls ByteArray.empty, li .i64 0, ls ByteArray.empty])) :: ((11, some (.cells [ls r5.2.s, li .i64 r5.2.at_, li .i64 r5.2.e])) :: []))) (by kernel_rfl) (by kernel_rfl) (by kernel_rfl) ?_
          exact F29_u13_ok n r1 r2 r4 r5 0 ByteArray.empty r5.2.s r5.2.at_ r5.2.e
    · refine Sim.skip ?_
      refine SimE.thenN ?_
      refine Sim.seq ?_
      refine Sim.label ?_
      refine SimE.thenN ?_
      refine Sim.seq ?_
      refine Sim.seq ?_
      refine Sim.region0 ?_
      refine SimI.run 1 [(51, .one (li .i64 0))] [] (by kernel_rfl) ?_
      refine SimI.done (by kernel_rfl) ?_
      refine SimE.thenN ?_
      refine Sim.block ?_
      refine Sim.loop ?_
      refine SimL.succ ?_
      refine Sim.seq ?_
      refine Sim.region [(2, .one (.ptr 2 0)), (5, .one (.ptr 11 0)), (6, .one (.ptr 6 0)), (51, .one (li .i64 0))] ((2, some (.cells [li .i64 0, li .u8 0, li .i64 0, li .i64 0, li .i64 0, ls ByteArray.empty, li .i64 0, ls ByteArray.empty, li .i64 0, ls ByteArray.empty, li .i64 0, ls ByteArray.empty])) :: ((6, some (.cells [li .i64 r1.1, li .u8 (IntKind.wrap .u8 r2.1), li .i64 0, li .i64 0, li .i64 0, ls ByteArray.empty, li .i64 0, ls ByteArray.empty, li .i64 0, ls ByteArray.empty, li .i64 0, ls ByteArray.empty])) :: ((11, some (.cells [ls r2.2.s, li .i64 r2.2.at_, li .i64 r2.2.e])) :: []))) (by kernel_rfl) ?_
      refine SimI.run 1 [(52, .one (lb true))] [] (by kernel_rfl) ?_
      refine SimI.done (by kernel_rfl) ?_
      refine SimE.thenN ?_
      refine Sim.seq ?_
      refine Sim.condT (by kernel_rfl) ?_
      refine Sim.skip ?_
      refine SimE.thenN ?_
      refine Sim.seq ?_
      refine Sim.block ?_
      refine Sim.seq ?_
      refine Sim.region0 ?_
      refine SimI.run 2 [(8, .one (li .i64 0)), (53, .one (li .i64 0))] [] (by kernel_rfl) ?_
      refine SimI.done (by kernel_rfl) ?_
      refine SimE.thenN ?_
      refine Sim.block ?_
      refine Sim.seq ?_
      refine Sim.region0 ?_
      refine SimI.run 6 [(54, .one (lb (r2.2.e != 0))), (59, .one (lb (r2.2.e != 0))), (58, .one (li .i64 r2.2.e)), (57, .one (.ptr 11 2)), (56, .one (.ptr 11 0)), (55, .one (.ptr 11 0))] [] (by kernel_rfl) ?_
      refine SimI.done (by kernel_rfl) ?_
      refine SimE.thenN ?_
      refine Sim.cond (r2.2.e != 0) (by kernel_rfl) ?_ ?_
      · refine Sim.exit ?_
        refine SimE.blockY rfl ?_
        refine SimE.blockY rfl ?_
        refine SimE.thenX ?_
        refine SimE.loopX ?_
        refine SimE.blockX ?_
        refine SimE.thenN ?_
        refine Sim.pre (ts := [2, 5, 6]) (os := [2, 6, 11]) [(2, .one (.ptr 2 0)), (5, .one (.ptr 11 0)), (6, .one (.ptr 6 0))] ((2, some (.cells [li .i64 0, li .u8 0, li .i64 0, li .i64 0, li .i64 0, ls ByteArray.empty, li .i64 0, ls ByteArray.empty, li .i64 0, ls ByteArray.empty, li .i64 0, ls ByteArray.empty])) :: ((6, some (.cells [li .i64 r1.1, li .u8 (IntKind.wrap .u8 r2.1), li .i64 0, li .i64 0, li .i64 0, ls ByteArray.empty, li .i64 0, ls ByteArray.empty, li .i64 0, ls ByteArray.empty, li .i64 0, ls ByteArray.empty])) :: ((11, some (.cells [ls r2.2.s, li .i64 r2.2.at_, li .i64 r2.2.e])) :: []))) (by kernel_rfl) (by kernel_rfl) (by kernel_rfl) ?_
        exact F29_j94_ok n r1 r2 0 ByteArray.empty 0 ByteArray.empty 0 ByteArray.empty 0 ByteArray.empty r2.2.s r2.2.at_ r2.2.e
      · refine Sim.seq ?_
        refine Sim.region0 ?_
        refine SimI.run 3 [(63, .one (li .i64 0)), (62, .one (li .u8 (IntKind.wrap .u8 r2.1))), (61, .one (.ptr 6 1))] [] (by kernel_rfl) ?_
        refine SimI.bind (og := F43 n (IntKind.wrap .u8 r2.1) 0) { dst := some 64, op := POp.call true [[], []] 43 [Operand.tmp 62, Operand.tmp 63], guard := none, hints := [] } (fun r51 => [(64, .one (lb r51))]) (fun r51 => []) (by kernel_rfl) (fun r51 hr => pOp_eff (by kernel_rfl) (by kernel_rfl) (eff_call (ARGS := [.one (li .u8 (IntKind.wrap .u8 r2.1)), .one (li .i64 0)]) (by kernel_rfl) (args_clean (by kernel_rfl) (args_clean (by kernel_rfl) args_nil)) (F43_ok n (IntKind.wrap .u8 r2.1) 0 r51 hr) (by kernel_rfl))) (fun r51 => ?_)
        refine SimI.run 1 [(60, .one (lb r51))] [] (by kernel_rfl) ?_
        refine SimI.done (by kernel_rfl) ?_
        refine SimE.thenN ?_
        refine Sim.cond r51 (by kernel_rfl) ?_ ?_
        · refine Sim.region0 ?_
          refine SimI.run 2 [(66, .one (.ptr 11 0)), (65, .one (li .i64 0))] [] (by kernel_rfl) ?_
          refine SimI.bind (og := F52 n r2.2) { dst := some 67, op := POp.call true [[]] 52 [Operand.tmp 66], guard := none, hints := [] } (fun r52 => [(67, .agg [li .i64 r52.1.N, ls r52.1.Text])]) (fun r52 => [(11, some (.cells [ls r52.2.s, li .i64 r52.2.at_, li .i64 r52.2.e]))]) (by kernel_rfl) (fun r52 hr => pOp_eff (by kernel_rfl) (by kernel_rfl) (eff_callp (ARGS := [.one (.ptr 11 0)]) (ARGS' := [.one (.ptr 1000000 0)]) (ks := [11]) (os := [[ls r2.2.s, li .i64 r2.2.at_, li .i64 r2.2.e]]) (os' := [[ls r52.2.s, li .i64 r52.2.at_, li .i64 r52.2.e]]) (by kernel_rfl) (args_ptr (by kernel_rfl) args_nil) rfl (by kernel_rfl) (F52_ok n r2.2 r52 hr) (by kernel_rfl) (by kernel_rfl))) (fun r52 => ?_)
          refine SimI.run 3 [(69, .one (.ptr 6 4)), (68, .one (.ptr 6 4))] [(6, some (.cells [li .i64 r1.1, li .u8 (IntKind.wrap .u8 r2.1), li .i64 0, li .i64 0, li .i64 r52.1.N, ls r52.1.Text, li .i64 0, ls ByteArray.empty, li .i64 0, ls ByteArray.empty, li .i64 0, ls ByteArray.empty]))] (by kernel_rfl) ?_
          refine SimI.done (by kernel_rfl) ?_
          refine SimE.blockN ?_
          refine SimE.blockN ?_
          refine SimE.thenN ?_
          refine Sim.region0 ?_
          refine SimI.run 2 [(51, .one (li .i64 1)), (70, .one (li .i64 1))] [] (by kernel_rfl) ?_
          refine SimI.done (by kernel_rfl) ?_
          refine SimE.loopN ?_
          refine SimL.pre (ts := [2, 5, 6, 51]) (os := [2, 6, 11]) [(2, .one (.ptr 2 0)), (5, .one (.ptr 11 0)), (6, .one (.ptr 6 0)), (51, .one (li .i64 1))] ((2, some (.cells [li .i64 0, li .u8 0, li .i64 0, li .i64 0, li .i64 0, ls ByteArray.empty, li .i64 0, ls ByteArray.empty, li .i64 0, ls ByteArray.empty, li .i64 0, ls ByteArray.empty])) :: ((6, some (.cells [li .i64 r1.1, li .u8 (IntKind.wrap .u8 r2.1), li .i64 0, li .i64 0, li .i64 r52.1.N, ls r52.1.Text, li .i64 0, ls ByteArray.empty, li .i64 0, ls ByteArray.empty, li .i64 0, ls ByteArray.empty])) :: ((11, some (.cells [ls r52.2.s, li .i64 r52.2.at_, li .i64 r52.2.e])) :: []))) (by kernel_rfl) (by kernel_rfl) (by kernel_rfl) ?_
          exact F29_u58_ok n r1 r2 r52.1.N r52.1.Text r52.2.s r52.2.at_ r52.2.e
        · refine Sim.skip ?_
          refine SimE.blockN ?_
          refine SimE.blockN ?_
          refine SimE.thenN ?_
          refine Sim.region0 ?_
          refine SimI.run 2 [(51, .one (li .i64 1)), (70, .one (li .i64 1))] [] (by kernel_rfl) ?_
          refine SimI.done (by kernel_rfl) ?_
          refine SimE.loopN ?_
          refine SimL.pre (ts := [2, 5, 6, 51]) (os := [2, 6, 11]) [(2, .one (.ptr 2 0)), (5, .one (.ptr 11 0)), (6, .one (.ptr 6 0)), (51, .one (li .i64 1))] ((2, some (.cells [li .i64 0, li .u8 0, li .i64 0, li .i64 0, li .i64 0, ls ByteArray.empty, li .i64 0, ls ByteArray.empty, li .i64 0, ls ByteArray.empty, li .i64 0, ls ByteArray.empty])) :: ((6, some (.cells [li .i64 r1.1, li .u8 (IntKind.wrap .u8 r2.1), li .i64 0, li .i64 0, li .i64 0, ls ByteArray.empty, li .i64 0, ls ByteArray.empty, li .i64 0, ls ByteArray.empty, li .i64 0, ls ByteArray.empty])) :: ((11, some (.cells [ls r2.2.s, li .i64 r2.2.at_, li .i64 r2.2.e])) :: []))) (by kernel_rfl) (by kernel_rfl) (by kernel_rfl) ?_
          exact F29_u58_ok n r1 r2 0 ByteArray.empty r2.2.s r2.2.at_ r2.2.e

def F29 (n : Nat) (a0 : ByteArray) : Option (Delta × Int × Int) :=
  (F51 n (Reader.mk a0 0 0)).bind fun (r1 : (Int × Reader)) =>
  (F51 n r1.2).bind fun (r2 : (Int × Reader)) =>
  if r2.2.e == 0 then
    if decide ((1000000 : Int) < r1.1) then
      some ((Delta.mk 0 0 (Point.mk 0 0) (A4.mk (Field.mk 0 ByteArray.empty) (Field.mk 0 ByteArray.empty) (Field.mk 0 ByteArray.empty) (Field.mk 0 ByteArray.empty))), 0, 11)
    else
      if r2.1 == 0 then
        some ((Delta.mk 0 0 (Point.mk 0 0) (A4.mk (Field.mk 0 ByteArray.empty) (Field.mk 0 ByteArray.empty) (Field.mk 0 ByteArray.empty) (Field.mk 0 ByteArray.empty))), 0, 11)
      else
        if decide ((31 : Int) < r2.1) then
          some ((Delta.mk 0 0 (Point.mk 0 0) (A4.mk (Field.mk 0 ByteArray.empty) (Field.mk 0 ByteArray.empty) (Field.mk 0 ByteArray.empty) (Field.mk 0 ByteArray.empty))), 0, 11)
        else
          F29_j3 n r1 r2
  else
    F29_j3 n r1 r2
theorem F29_ok (n : Nat) (a0 : ByteArray) : ∀ r, F29 n a0 = some r → D 29 [.one (ls a0)] [] = some (F29_e r) := by
  refine fn_to (D := D) (n := n + 8) (nt := 90) (rs := pc29_r) (c := pc29_c74) (L := [(0, .one (ls a0))]) (M := []) (k := 0) rfl rfl rfl rfl rfl rfl ?_
  unfold F29
  refine Sim.seq ?_
  refine Sim.region0 ?_
  refine SimI.run 3 [(4, .one (li .i64 0)), (3, .one (li .i64 0)), (2, .one (.ptr 2 0))] [(2, some (.cells [li .i64 0, li .u8 0, li .i64 0, li .i64 0, li .i64 0, ls ByteArray.empty, li .i64 0, ls ByteArray.empty, li .i64 0, ls ByteArray.empty, li .i64 0, ls ByteArray.empty]))] (by kernel_rfl) ?_
  refine SimI.done (by kernel_rfl) ?_
  refine SimE.thenN ?_
  refine Sim.scope ?_
  refine Sim.seq ?_
  refine Sim.region0 ?_
  refine SimI.run 4 [(5, .one (.ptr 11 0)), (11, .one (.ptr 11 0)), (10, .agg [ls a0, li .i64 0, li .i64 0]), (9, .one (ls a0))] [(11, some (.cells [ls a0, li .i64 0, li .i64 0]))] (by kernel_rfl) ?_
  refine SimI.done (by kernel_rfl) ?_
  refine SimE.thenN ?_
  refine Sim.seq ?_
  refine Sim.region0 ?_
  refine SimI.run 1 [(12, .one (.ptr 11 0))] [] (by kernel_rfl) ?_
  refine SimI.bind (og := F51 n (Reader.mk a0 0 0)) { dst := some 13, op := POp.call true [[]] 51 [Operand.tmp 12], guard := none, hints := [] } (fun r1 => [(13, .one (li .i64 r1.1))]) (fun r1 => [(11, some (.cells [ls r1.2.s, li .i64 r1.2.at_, li .i64 r1.2.e]))]) (by kernel_rfl) (fun r1 hr => pOp_eff (by kernel_rfl) (by kernel_rfl) (eff_callp (ARGS := [.one (.ptr 11 0)]) (ARGS' := [.one (.ptr 1000000 0)]) (ks := [11]) (os := [[ls a0, li .i64 0, li .i64 0]]) (os' := [[ls r1.2.s, li .i64 r1.2.at_, li .i64 r1.2.e]]) (by kernel_rfl) (args_ptr (by kernel_rfl) args_nil) rfl (by kernel_rfl) (F51_ok n (Reader.mk a0 0 0) r1 hr) (by kernel_rfl) (by kernel_rfl))) (fun r1 => ?_)
  refine SimI.run 3 [(6, .one (.ptr 6 0)), (14, .agg [li .i64 r1.1, li .u8 0, li .i64 0, li .i64 0, li .i64 0, ls ByteArray.empty, li .i64 0, ls ByteArray.empty, li .i64 0, ls ByteArray.empty, li .i64 0, ls ByteArray.empty])] [(6, some (.cells [li .i64 r1.1, li .u8 0, li .i64 0, li .i64 0, li .i64 0, ls ByteArray.empty, li .i64 0, ls ByteArray.empty, li .i64 0, ls ByteArray.empty, li .i64 0, ls ByteArray.empty])), (6, some (.cells [li .i64 0, li .u8 0, li .i64 0, li .i64 0, li .i64 0, ls ByteArray.empty, li .i64 0, ls ByteArray.empty, li .i64 0, ls ByteArray.empty, li .i64 0, ls ByteArray.empty]))] (by kernel_rfl) ?_
  refine SimI.done (by kernel_rfl) ?_
  refine SimE.thenN ?_
  refine Sim.seq ?_
  refine Sim.region0 ?_
  refine SimI.run 1 [(15, .one (.ptr 11 0))] [] (by kernel_rfl) ?_
  refine SimI.bind (og := F51 n r1.2) { dst := some 16, op := POp.call true [[]] 51 [Operand.tmp 15], guard := none, hints := [] } (fun r2 => [(16, .one (li .i64 r2.1))]) (fun r2 => [(11, some (.cells [ls r2.2.s, li .i64 r2.2.at_, li .i64 r2.2.e]))]) (by kernel_rfl) (fun r2 hr => pOp_eff (by kernel_rfl) (by kernel_rfl) (eff_callp (ARGS := [.one (.ptr 11 0)]) (ARGS' := [.one (.ptr 1000000 0)]) (ks := [11]) (os := [[ls r1.2.s, li .i64 r1.2.at_, li .i64 r1.2.e]]) (os' := [[ls r2.2.s, li .i64 r2.2.at_, li .i64 r2.2.e]]) (by kernel_rfl) (args_ptr (by kernel_rfl) args_nil) rfl (by kernel_rfl) (F51_ok n r1.2 r2 hr) (by kernel_rfl) (by kernel_rfl))) (fun r2 => ?_)
  refine SimI.run 1 [(7, .one (li .i64 r2.1))] [] (by kernel_rfl) ?_
  refine SimI.done (by kernel_rfl) ?_
  refine SimE.thenN ?_
  refine Sim.seq ?_
  refine Sim.seq ?_
  refine Sim.region0 ?_
  refine SimI.run 6 [(22, .one (lb (r2.2.e == 0))), (21, .one (lb (r2.2.e == 0))), (20, .one (li .i64 r2.2.e)), (19, .one (.ptr 11 2)), (18, .one (.ptr 11 0)), (17, .one (.ptr 11 0))] [] (by kernel_rfl) ?_
  refine SimI.split 22 (r2.2.e == 0) (by kernel_rfl) ?_ ?_
  · refine SimI.run 4 [(26, .one (lb (decide ((1000000 : Int) < r1.1)))), (25, .one (lb (decide ((1000000 : Int) < r1.1)))), (24, .one (li .i64 r1.1)), (23, .one (.ptr 6 0))] [] (by kernel_rfl) ?_
    refine SimI.split 26 (decide ((1000000 : Int) < r1.1)) (by kernel_rfl) ?_ ?_
    · refine SimI.run 8 [(34, .one (lb true)), (33, .one (lb true)), (32, .tup []), (31, .tup []), (30, .one (lb true)), (29, .one (lb true)), (28, .tup []), (27, .tup [])] [] (by kernel_rfl) ?_
      refine SimI.done (by kernel_rfl) ?_
      refine SimE.thenN ?_
      refine Sim.condT (by kernel_rfl) ?_
      refine Sim.seq ?_
      refine Sim.region0 ?_
      refine SimI.run 4 [(4, .one (li .i64 11)), (3, .one (li .i64 0)), (35, .agg [li .i64 0, li .u8 0, li .i64 0, li .i64 0, li .i64 0, ls ByteArray.empty, li .i64 0, ls ByteArray.empty, li .i64 0, ls ByteArray.empty, li .i64 0, ls ByteArray.empty])] [(2, some (.cells [li .i64 0, li .u8 0, li .i64 0, li .i64 0, li .i64 0, ls ByteArray.empty, li .i64 0, ls ByteArray.empty, li .i64 0, ls ByteArray.empty, li .i64 0, ls ByteArray.empty]))] (by kernel_rfl) ?_
      refine SimI.done (by kernel_rfl) ?_
      refine SimE.thenN ?_
      refine Sim.ret ?_
      refine SimE.thenR ?_
      exact SimE.fin (by kernel_rfl)
    · refine SimI.run 4 [(30, .one (lb (r2.1 == 0))), (29, .one (lb (r2.1 == 0))), (28, .one (lb (r2.1 == 0))), (27, .one (li .i64 r2.1))] [] (by kernel_rfl) ?_
      refine SimI.split 30 (r2.1 == 0) (by kernel_rfl) ?_ ?_
      · refine SimI.run 4 [(34, .one (lb true)), (33, .one (lb true)), (32, .tup []), (31, .tup [])] [] (by kernel_rfl) ?_
        refine SimI.done (by kernel_rfl) ?_
        refine SimE.thenN ?_
        refine Sim.condT (by kernel_rfl) ?_
        refine Sim.seq ?_
        refine Sim.region0 ?_
        refine SimI.run 4 [(4, .one (li .i64 11)), (3, .one (li .i64 0)), (35, .agg [li .i64 0, li .u8 0, li .i64 0, li .i64 0, li .i64 0, ls ByteArray.empty, li .i64 0, ls ByteArray.empty, li .i64 0, ls ByteArray.empty, li .i64 0, ls ByteArray.empty])] [(2, some (.cells [li .i64 0, li .u8 0, li .i64 0, li .i64 0, li .i64 0, ls ByteArray.empty, li .i64 0, ls ByteArray.empty, li .i64 0, ls ByteArray.empty, li .i64 0, ls ByteArray.empty]))] (by kernel_rfl) ?_
        refine SimI.done (by kernel_rfl) ?_
        refine SimE.thenN ?_
        refine Sim.ret ?_
        refine SimE.thenR ?_
        exact SimE.fin (by kernel_rfl)
      · refine SimI.run 4 [(34, .one (lb (decide ((31 : Int) < r2.1)))), (33, .one (lb (decide ((31 : Int) < r2.1)))), (32, .one (lb (decide ((31 : Int) < r2.1)))), (31, .one (li .i64 r2.1))] [] (by kernel_rfl) ?_
        refine SimI.done (by kernel_rfl) ?_
        refine SimE.thenN ?_
        refine Sim.cond (decide ((31 : Int) < r2.1)) (by kernel_rfl) ?_ ?_
        · refine Sim.seq ?_
          refine Sim.region0 ?_
          refine SimI.run 4 [(4, .one (li .i64 11)), (3, .one (li .i64 0)), (35, .agg [li .i64 0, li .u8 0, li .i64 0, li .i64 0, li .i64 0, ls ByteArray.empty, li .i64 0, ls ByteArray.empty, li .i64 0, ls ByteArray.empty, li .i64 0, ls ByteArray.empty])] [(2, some (.cells [li .i64 0, li .u8 0, li .i64 0, li .i64 0, li .i64 0, ls ByteArray.empty, li .i64 0, ls ByteArray.empty, li .i64 0, ls ByteArray.empty, li .i64 0, ls ByteArray.empty]))] (by kernel_rfl) ?_
          refine SimI.done (by kernel_rfl) ?_
          refine SimE.thenN ?_
          refine Sim.ret ?_
          refine SimE.thenR ?_
          exact SimE.fin (by kernel_rfl)
        · refine Sim.skip ?_
          refine SimE.thenN ?_
          refine Sim.pre (ts := [2, 5, 6, 7]) (os := [2, 6, 11]) [(2, .one (.ptr 2 0)), (5, .one (.ptr 11 0)), (6, .one (.ptr 6 0)), (7, .one (li .i64 r2.1))] ((2, some (.cells [li .i64 0, li .u8 0, li .i64 0, li .i64 0, li .i64 0, ls ByteArray.empty, li .i64 0, ls ByteArray.empty, li .i64 0, ls ByteArray.empty, li .i64 0, ls ByteArray.empty])) :: ((6, some (.cells [li .i64 r1.1, li .u8 0, li .i64 0, li .i64 0, li .i64 0, ls ByteArray.empty, li .i64 0, ls ByteArray.empty, li .i64 0, ls ByteArray.empty, li .i64 0, ls ByteArray.empty])) :: ((11, some (.cells [ls r2.2.s, li .i64 r2.2.at_, li .i64 r2.2.e])) :: []))) (by kernel_rfl) (by kernel_rfl) (by kernel_rfl) ?_
          exact F29_j3_ok n r1 r2
  · refine SimI.run 12 [(34, .one (lb false)), (33, .tup []), (32, .tup []), (31, .tup []), (30, .tup []), (29, .tup []), (28, .tup []), (27, .tup []), (26, .tup []), (25, .tup []), (24, .tup []), (23, .tup [])] [] (by kernel_rfl) ?_
    refine SimI.done (by kernel_rfl) ?_
    refine SimE.thenN ?_
    refine Sim.condF (by kernel_rfl) ?_
    refine Sim.skip ?_
    refine SimE.thenN ?_
    refine Sim.pre (ts := [2, 5, 6, 7]) (os := [2, 6, 11]) [(2, .one (.ptr 2 0)), (5, .one (.ptr 11 0)), (6, .one (.ptr 6 0)), (7, .one (li .i64 r2.1))] ((2, some (.cells [li .i64 0, li .u8 0, li .i64 0, li .i64 0, li .i64 0, ls ByteArray.empty, li .i64 0, ls ByteArray.empty, li .i64 0, ls ByteArray.empty, li .i64 0, ls ByteArray.empty])) :: ((6, some (.cells [li .i64 r1.1, li .u8 0, li .i64 0, li .i64 0, li .i64 0, ls ByteArray.empty, li .i64 0, ls ByteArray.empty, li .i64 0, ls ByteArray.empty, li .i64 0, ls ByteArray.empty])) :: ((11, some (.cells [ls r2.2.s, li .i64 r2.2.at_, li .i64 r2.2.e])) :: []))) (by kernel_rfl) (by kernel_rfl) (by kernel_rfl) ?_
    exact F29_j3_ok n r1 r2


-- 14: vedette/vedettelaw6.known
theorem F14_ok (n : Nat) : ∀ r, (some true : Option Bool) = some r → D 14 [] [] = some (.one (lb r), []) := by
  rintro _ ⟨⟩
  exact all_of (N := 60) (by kernel_rfl)


-- 27: vedette/vedetteref6.IsField
def F27_e : Bool → PV × List (List Lf) := fun r => (.one (lb r), [])
def F27 (n : Nat) (a0 : Field) : Option Bool :=
  if a0.N == 0 then
    some (decide ((a0.Text.size : Int) ≤ 12))
  else
    if a0.Text.toList == ByteArray.empty.toList then
      some (decide ((a0.Text.size : Int) ≤ 12))
    else
      some false
theorem F27_ok (n : Nat) (a0 : Field) : ∀ r, F27 n a0 = some r → D 27 [.agg [li .i64 a0.N, ls a0.Text]] [] = some (F27_e r) := by
  refine fn_to (D := D) (n := n + 8) (nt := 17) (rs := pc27_r) (c := pc27_c5) (L := [(0, .agg [li .i64 a0.N, ls a0.Text])]) (M := []) (k := 0) rfl rfl rfl rfl rfl rfl ?_
  unfold F27
  refine Sim.seq ?_
  refine Sim.region0 ?_
  refine SimI.run 2 [(2, .one (lb false)), (1, .one (.ptr 1 0))] [(1, some (.cells [li .i64 a0.N, ls a0.Text]))] (by kernel_rfl) ?_
  refine SimI.done (by kernel_rfl) ?_
  refine SimE.thenN ?_
  refine Sim.seq ?_
  refine Sim.region0 ?_
  refine SimI.run 4 [(6, .one (lb (a0.N == 0))), (5, .one (lb (a0.N == 0))), (4, .one (li .i64 a0.N)), (3, .one (.ptr 1 0))] [] (by kernel_rfl) ?_
  refine SimI.split 6 (a0.N == 0) (by kernel_rfl) ?_ ?_
  · refine SimI.run 11 [(2, .one (lb (decide ((a0.Text.size : Int) ≤ 12)))), (16, .one (lb (decide ((a0.Text.size : Int) ≤ 12)))), (15, .one (lb (decide ((a0.Text.size : Int) ≤ 12)))), (14, .one (li .i64 (a0.Text.size : Int))), (13, .one (ls a0.Text)), (12, .one (.ptr 1 1)), (11, .one (lb true)), (10, .one (lb true)), (9, .tup []), (8, .tup []), (7, .tup [])] [] (by kernel_rfl) ?_
    refine SimI.done (by kernel_rfl) ?_
    refine SimE.thenN ?_
    refine Sim.ret ?_
    exact SimE.fin (by kernel_rfl)
  · refine SimI.run 5 [(11, .one (lb (a0.Text.toList == ByteArray.empty.toList))), (10, .one (lb (a0.Text.toList == ByteArray.empty.toList))), (9, .one (lb (a0.Text.toList == ByteArray.empty.toList))), (8, .one (ls a0.Text)), (7, .one (.ptr 1 1))] [] (by kernel_rfl) ?_
    refine SimI.split 11 (a0.Text.toList == ByteArray.empty.toList) (by kernel_rfl) ?_ ?_
    · refine SimI.run 6 [(2, .one (lb (decide ((a0.Text.size : Int) ≤ 12)))), (16, .one (lb (decide ((a0.Text.size : Int) ≤ 12)))), (15, .one (lb (decide ((a0.Text.size : Int) ≤ 12)))), (14, .one (li .i64 (a0.Text.size : Int))), (13, .one (ls a0.Text)), (12, .one (.ptr 1 1))] [] (by kernel_rfl) ?_
      refine SimI.done (by kernel_rfl) ?_
      refine SimE.thenN ?_
      refine Sim.ret ?_
      exact SimE.fin (by kernel_rfl)
    · refine SimI.run 6 [(2, .one (lb false)), (16, .one (lb false)), (15, .tup []), (14, .tup []), (13, .tup []), (12, .tup [])] [] (by kernel_rfl) ?_
      refine SimI.done (by kernel_rfl) ?_
      refine SimE.thenN ?_
      refine Sim.ret ?_
      exact SimE.fin (by kernel_rfl)


-- 46: vedette/vedetteref3.On
def F46_e : Bool → PV × List (List Lf) := fun r => (.one (lb r), [])
def F46 (n : Nat) (a0 : Point) : Option Bool :=
  if decide ((0 : Int) ≤ a0.X) then
    if decide (a0.X < 64) then
      if decide ((0 : Int) ≤ a0.Y) then
        some (decide (a0.Y < 64))
      else
        some false
    else
      some false
  else
    some false
theorem F46_ok (n : Nat) (a0 : Point) : ∀ r, F46 n a0 = some r → D 46 [.agg [li .i64 a0.X, li .i64 a0.Y]] [] = some (F46_e r) := by
  refine fn_to (D := D) (n := n + 8) (nt := 21) (rs := pc46_r) (c := pc46_c5) (L := [(0, .agg [li .i64 a0.X, li .i64 a0.Y])]) (M := []) (k := 0) rfl rfl rfl rfl rfl rfl ?_
  unfold F46
  refine Sim.seq ?_
  refine Sim.region0 ?_
  refine SimI.run 2 [(2, .one (lb false)), (1, .one (.ptr 1 0))] [(1, some (.cells [li .i64 a0.X, li .i64 a0.Y]))] (by kernel_rfl) ?_
  refine SimI.done (by kernel_rfl) ?_
  refine SimE.thenN ?_
  refine Sim.seq ?_
  refine Sim.region0 ?_
  refine SimI.run 4 [(6, .one (lb (decide ((0 : Int) ≤ a0.X)))), (5, .one (lb (decide ((0 : Int) ≤ a0.X)))), (4, .one (li .i64 a0.X)), (3, .one (.ptr 1 0))] [] (by kernel_rfl) ?_
  refine SimI.split 6 (decide ((0 : Int) ≤ a0.X)) (by kernel_rfl) ?_ ?_
  · refine SimI.run 5 [(11, .one (lb (decide (a0.X < 64)))), (10, .one (lb (decide (a0.X < 64)))), (9, .one (lb (decide (a0.X < 64)))), (8, .one (li .i64 a0.X)), (7, .one (.ptr 1 0))] [] (by kernel_rfl) ?_
    refine SimI.split 11 (decide (a0.X < 64)) (by kernel_rfl) ?_ ?_
    · refine SimI.run 5 [(16, .one (lb (decide ((0 : Int) ≤ a0.Y)))), (15, .one (lb (decide ((0 : Int) ≤ a0.Y)))), (14, .one (lb (decide ((0 : Int) ≤ a0.Y)))), (13, .one (li .i64 a0.Y)), (12, .one (.ptr 1 1))] [] (by kernel_rfl) ?_
      refine SimI.split 16 (decide ((0 : Int) ≤ a0.Y)) (by kernel_rfl) ?_ ?_
      · refine SimI.run 5 [(2, .one (lb (decide (a0.Y < 64)))), (20, .one (lb (decide (a0.Y < 64)))), (19, .one (lb (decide (a0.Y < 64)))), (18, .one (li .i64 a0.Y)), (17, .one (.ptr 1 1))] [] (by kernel_rfl) ?_
        refine SimI.done (by kernel_rfl) ?_
        refine SimE.thenN ?_
        refine Sim.ret ?_
        exact SimE.fin (by kernel_rfl)
      · refine SimI.run 5 [(2, .one (lb false)), (20, .one (lb false)), (19, .tup []), (18, .tup []), (17, .tup [])] [] (by kernel_rfl) ?_
        refine SimI.done (by kernel_rfl) ?_
        refine SimE.thenN ?_
        refine Sim.ret ?_
        exact SimE.fin (by kernel_rfl)
    · refine SimI.run 10 [(2, .one (lb false)), (20, .one (lb false)), (19, .tup []), (18, .tup []), (17, .tup []), (16, .one (lb false)), (15, .one (lb false)), (14, .tup []), (13, .tup []), (12, .tup [])] [] (by kernel_rfl) ?_
      refine SimI.done (by kernel_rfl) ?_
      refine SimE.thenN ?_
      refine Sim.ret ?_
      exact SimE.fin (by kernel_rfl)
  · refine SimI.run 15 [(2, .one (lb false)), (20, .one (lb false)), (19, .tup []), (18, .tup []), (17, .tup []), (16, .one (lb false)), (15, .one (lb false)), (14, .tup []), (13, .tup []), (12, .tup []), (11, .one (lb false)), (10, .one (lb false)), (9, .tup []), (8, .tup []), (7, .tup [])] [] (by kernel_rfl) ?_
    refine SimI.done (by kernel_rfl) ?_
    refine SimE.thenN ?_
    refine Sim.ret ?_
    exact SimE.fin (by kernel_rfl)


-- 21: vedette/vedetteref6.IsDelta
def F21_e : Bool → PV × List (List Lf) := fun r => (.one (lb r), [])
def F21_u10 (n : Nat) : Option Bool :=
    some true
theorem F21_u10_ok (n : Nat) (a0 : Delta) : SimL Try.prog D (n + 8) (n + 4) pc21_c32 [(1, .one (.ptr 1 0)), (3, .one (li .i64 4))] ((1, some (.cells [li .i64 a0.ID, li .u8 a0.Mask, li .i64 a0.At.X, li .i64 a0.At.Y, li .i64 a0.F.a0.N, ls a0.F.a0.Text, li .i64 a0.F.a1.N, ls a0.F.a1.Text, li .i64 a0.F.a2.N, ls a0.F.a2.Text, li .i64 a0.F.a3.N, ls a0.F.a3.Text])) :: []) (F21_u10 n) (QB 0 (QT Try.prog D (n + 8) pc21_c38 (QF pc21_r 0 F21_e))) := by
    unfold F21_u10
    refine SimL.succ ?_
    refine Sim.seq ?_
    refine Sim.seq ?_
    refine Sim.region [(1, .one (.ptr 1 0)), (3, .one (li .i64 4))] ((1, some (.cells [li .i64 a0.ID, li .u8 a0.Mask, li .i64 a0.At.X, li .i64 a0.At.Y, li .i64 a0.F.a0.N, ls a0.F.a0.Text, li .i64 a0.F.a1.N, ls a0.F.a1.Text, li .i64 a0.F.a2.N, ls a0.F.a2.Text, li .i64 a0.F.a3.N, ls a0.F.a3.Text])) :: []) (by kernel_rfl) ?_
    refine SimI.run 2 [(45, .one (lb false)), (44, .one (li .i64 4))] [] (by kernel_rfl) ?_
    refine SimI.done (by kernel_rfl) ?_
    refine SimE.thenN ?_
    refine Sim.condF (by kernel_rfl) ?_
    refine Sim.exit ?_
    refine SimE.thenX ?_
    refine SimE.loopX ?_
    refine SimE.blockX ?_
    refine SimE.thenN ?_
    refine Sim.seq ?_
    refine Sim.region0 ?_
    refine SimI.run 1 [(2, .one (lb true))] [] (by kernel_rfl) ?_
    refine SimI.done (by kernel_rfl) ?_
    refine SimE.thenN ?_
    refine Sim.ret ?_
    exact SimE.fin (by kernel_rfl)

def F21_u8 (n : Nat) (a0 : Delta) : Option Bool :=
    (F27 n a0.F.a3).bind fun (r9 : Bool) =>
    if !(r9) then
      some false
    else
      if (bitsI .and .u8 (shrI .u8 a0.Mask 4) 1) == 0 then
        if !(Field.eqb a0.F.a3 (Field.mk 0 ByteArray.empty)) then
          some false
        else
          F21_u10 n
      else
        F21_u10 n
theorem F21_u8_ok (n : Nat) (a0 : Delta) : SimL Try.prog D (n + 8) (n + 5) pc21_c32 [(1, .one (.ptr 1 0)), (3, .one (li .i64 3))] ((1, some (.cells [li .i64 a0.ID, li .u8 a0.Mask, li .i64 a0.At.X, li .i64 a0.At.Y, li .i64 a0.F.a0.N, ls a0.F.a0.Text, li .i64 a0.F.a1.N, ls a0.F.a1.Text, li .i64 a0.F.a2.N, ls a0.F.a2.Text, li .i64 a0.F.a3.N, ls a0.F.a3.Text])) :: []) (F21_u8 n a0) (QB 0 (QT Try.prog D (n + 8) pc21_c38 (QF pc21_r 0 F21_e))) := by
    unfold F21_u8
    refine SimL.succ ?_
    refine Sim.seq ?_
    refine Sim.seq ?_
    refine Sim.region [(1, .one (.ptr 1 0)), (3, .one (li .i64 3))] ((1, some (.cells [li .i64 a0.ID, li .u8 a0.Mask, li .i64 a0.At.X, li .i64 a0.At.Y, li .i64 a0.F.a0.N, ls a0.F.a0.Text, li .i64 a0.F.a1.N, ls a0.F.a1.Text, li .i64 a0.F.a2.N, ls a0.F.a2.Text, li .i64 a0.F.a3.N, ls a0.F.a3.Text])) :: []) (by kernel_rfl) ?_
    refine SimI.run 2 [(45, .one (lb true)), (44, .one (li .i64 3))] [] (by kernel_rfl) ?_
    refine SimI.done (by kernel_rfl) ?_
    refine SimE.thenN ?_
    refine Sim.condT (by kernel_rfl) ?_
    refine Sim.skip ?_
    refine SimE.thenN ?_
    refine Sim.seq ?_
    refine Sim.block ?_
    refine Sim.seq ?_
    refine Sim.region0 ?_
    refine SimI.run 4 [(51, .agg [li .i64 a0.F.a3.N, ls a0.F.a3.Text]), (50, .one (.ptr 1 10)), (49, .one (.ptr 1 4)), (48, .one (li .i64 3))] [] (by kernel_rfl) ?_
    refine SimI.bind (og := F27 n a0.F.a3) { dst := some 52, op := POp.call true [[]] 27 [Operand.tmp 51], guard := none, hints := [] } (fun r9 => [(52, .one (lb r9))]) (fun r9 => []) (by kernel_rfl) (fun r9 hr => pOp_eff (by kernel_rfl) (by kernel_rfl) (eff_call (ARGS := [.agg [li .i64 a0.F.a3.N, ls a0.F.a3.Text]]) (by kernel_rfl) (args_clean (by kernel_rfl) args_nil) (F27_ok n a0.F.a3 r9 hr) (by kernel_rfl))) (fun r9 => ?_)
    refine SimI.run 2 [(54, .one (lb (!(r9)))), (53, .one (lb (!(r9))))] [] (by kernel_rfl) ?_
    refine SimI.split 54 (!(r9)) (by kernel_rfl) ?_ ?_
    · refine SimI.run 17 [(71, .one (lb true)), (70, .tup []), (69, .tup []), (68, .tup []), (67, .tup []), (66, .tup []), (65, .tup []), (64, .tup []), (63, .tup []), (62, .tup []), (61, .tup []), (60, .tup []), (59, .tup []), (58, .tup []), (57, .tup []), (56, .tup []), (55, .tup [])] [] (by kernel_rfl) ?_
      refine SimI.done (by kernel_rfl) ?_
      refine SimE.thenN ?_
      refine Sim.condT (by kernel_rfl) ?_
      refine Sim.seq ?_
      refine Sim.region0 ?_
      refine SimI.run 1 [(2, .one (lb false))] [] (by kernel_rfl) ?_
      refine SimI.done (by kernel_rfl) ?_
      refine SimE.thenN ?_
      refine Sim.ret ?_
      refine SimE.blockR ?_
      refine SimE.thenR ?_
      refine SimE.loopR ?_
      refine SimE.blockR ?_
      refine SimE.thenR ?_
      exact SimE.fin (by kernel_rfl)
    · refine SimI.run 9 [(63, .one (lb ((bitsI .and .u8 (shrI .u8 a0.Mask 4) 1) == 0))), (62, .one (lb ((bitsI .and .u8 (shrI .u8 a0.Mask 4) 1) == 0))), (61, .one (li .u8 (bitsI .and .u8 (shrI .u8 a0.Mask 4) 1))), (60, .one (li .u8 (shrI .u8 a0.Mask 4))), (59, .one (li .u64 4)), (58, .one (li .i64 4)), (57, .one (li .i64 3)), (56, .one (li .u8 a0.Mask)), (55, .one (.ptr 1 1))] [] (by kernel_rfl) ?_
      refine SimI.split 63 ((bitsI .and .u8 (shrI .u8 a0.Mask 4) 1) == 0) (by kernel_rfl) ?_ ?_
      · refine SimI.run 5 [(68, .agg [li .i64 0, ls ByteArray.empty]), (67, .agg [li .i64 a0.F.a3.N, ls a0.F.a3.Text]), (66, .one (.ptr 1 10)), (65, .one (.ptr 1 4)), (64, .one (li .i64 3))] [] (by kernel_rfl) ?_
        refine SimI.step { dst := some 69, op := POp.prim (Prim.bin BinOp.neq 25 false false) [Operand.tmp 67, Operand.tmp 68], guard := some (63, true), hints := [] } [(69, .one (lb (!(Field.eqb a0.F.a3 (Field.mk 0 ByteArray.empty)))))] [] (by kernel_rfl) (pOp_eff (by kernel_rfl) (by kernel_rfl) (eff_prim (by kernel_rfl) (Field_eqn a0.F.a3 (Field.mk 0 ByteArray.empty) _ _))) ?_
        refine SimI.run 2 [(71, .one (lb (!(Field.eqb a0.F.a3 (Field.mk 0 ByteArray.empty))))), (70, .one (lb (!(Field.eqb a0.F.a3 (Field.mk 0 ByteArray.empty)))))] [] (by kernel_rfl) ?_
        refine SimI.done (by kernel_rfl) ?_
        refine SimE.thenN ?_
        refine Sim.cond (!(Field.eqb a0.F.a3 (Field.mk 0 ByteArray.empty))) (by kernel_rfl) ?_ ?_
        · refine Sim.seq ?_
          refine Sim.region0 ?_
          refine SimI.run 1 [(2, .one (lb false))] [] (by kernel_rfl) ?_
          refine SimI.done (by kernel_rfl) ?_
          refine SimE.thenN ?_
          refine Sim.ret ?_
          refine SimE.blockR ?_
          refine SimE.thenR ?_
          refine SimE.loopR ?_
          refine SimE.blockR ?_
          refine SimE.thenR ?_
          exact SimE.fin (by kernel_rfl)
        · refine Sim.skip ?_
          refine SimE.blockN ?_
          refine SimE.thenN ?_
          refine Sim.region0 ?_
          refine SimI.run 3 [(3, .one (li .i64 4)), (47, .one (li .i64 4)), (46, .one (li .i64 3))] [] (by kernel_rfl) ?_
          refine SimI.done (by kernel_rfl) ?_
          refine SimE.loopN ?_
          refine SimL.pre (ts := [1, 3]) (os := [1]) [(1, .one (.ptr 1 0)), (3, .one (li .i64 4))] ((1, some (.cells [li .i64 a0.ID, li .u8 a0.Mask, li .i64 a0.At.X, li .i64 a0.At.Y, li .i64 a0.F.a0.N, ls a0.F.a0.Text, li .i64 a0.F.a1.N, ls a0.F.a1.Text, li .i64 a0.F.a2.N, ls a0.F.a2.Text, li .i64 a0.F.a3.N, ls a0.F.a3.Text])) :: []) (by kernel_rfl) (by kernel_rfl) (by kernel_rfl) ?_
          exact F21_u10_ok n a0
      · refine SimI.run 8 [(71, .one (lb false)), (70, .one (lb false)), (69, .tup []), (68, .tup []), (67, .tup []), (66, .tup []), (65, .tup []), (64, .tup [])] [] (by kernel_rfl) ?_
        refine SimI.done (by kernel_rfl) ?_
        refine SimE.thenN ?_
        refine Sim.condF (by kernel_rfl) ?_
        refine Sim.skip ?_
        refine SimE.blockN ?_
        refine SimE.thenN ?_
        refine Sim.region0 ?_
        refine SimI.run 3 [(3, .one (li .i64 4)), (47, .one (li .i64 4)), (46, .one (li .i64 3))] [] (by kernel_rfl) ?_
        refine SimI.done (by kernel_rfl) ?_
        refine SimE.loopN ?_
        refine SimL.pre (ts := [1, 3]) (os := [1]) [(1, .one (.ptr 1 0)), (3, .one (li .i64 4))] ((1, some (.cells [li .i64 a0.ID, li .u8 a0.Mask, li .i64 a0.At.X, li .i64 a0.At.Y, li .i64 a0.F.a0.N, ls a0.F.a0.Text, li .i64 a0.F.a1.N, ls a0.F.a1.Text, li .i64 a0.F.a2.N, ls a0.F.a2.Text, li .i64 a0.F.a3.N, ls a0.F.a3.Text])) :: []) (by kernel_rfl) (by kernel_rfl) (by kernel_rfl) ?_
        exact F21_u10_ok n a0

def F21_u6 (n : Nat) (a0 : Delta) : Option Bool :=
    (F27 n a0.F.a2).bind fun (r7 : Bool) =>
    if !(r7) then
      some false
    else
      if (bitsI .and .u8 (shrI .u8 a0.Mask 3) 1) == 0 then
        if !(Field.eqb a0.F.a2 (Field.mk 0 ByteArray.empty)) then
          some false
        else
          F21_u8 n a0
      else
        F21_u8 n a0
theorem F21_u6_ok (n : Nat) (a0 : Delta) : SimL Try.prog D (n + 8) (n + 6) pc21_c32 [(1, .one (.ptr 1 0)), (3, .one (li .i64 2))] ((1, some (.cells [li .i64 a0.ID, li .u8 a0.Mask, li .i64 a0.At.X, li .i64 a0.At.Y, li .i64 a0.F.a0.N, ls a0.F.a0.Text, li .i64 a0.F.a1.N, ls a0.F.a1.Text, li .i64 a0.F.a2.N, ls a0.F.a2.Text, li .i64 a0.F.a3.N, ls a0.F.a3.Text])) :: []) (F21_u6 n a0) (QB 0 (QT Try.prog D (n + 8) pc21_c38 (QF pc21_r 0 F21_e))) := by
    unfold F21_u6
    refine SimL.succ ?_
    refine Sim.seq ?_
    refine Sim.seq ?_
    refine Sim.region [(1, .one (.ptr 1 0)), (3, .one (li .i64 2))] ((1, some (.cells [li .i64 a0.ID, li .u8 a0.Mask, li .i64 a0.At.X, li .i64 a0.At.Y, li .i64 a0.F.a0.N, ls a0.F.a0.Text, li .i64 a0.F.a1.N, ls a0.F.a1.Text, li .i64 a0.F.a2.N, ls a0.F.a2.Text, li .i64 a0.F.a3.N, ls a0.F.a3.Text])) :: []) (by kernel_rfl) ?_
    refine SimI.run 2 [(45, .one (lb true)), (44, .one (li .i64 2))] [] (by kernel_rfl) ?_
    refine SimI.done (by kernel_rfl) ?_
    refine SimE.thenN ?_
    refine Sim.condT (by kernel_rfl) ?_
    refine Sim.skip ?_
    refine SimE.thenN ?_
    refine Sim.seq ?_
    refine Sim.block ?_
    refine Sim.seq ?_
    refine Sim.region0 ?_
    refine SimI.run 4 [(51, .agg [li .i64 a0.F.a2.N, ls a0.F.a2.Text]), (50, .one (.ptr 1 8)), (49, .one (.ptr 1 4)), (48, .one (li .i64 2))] [] (by kernel_rfl) ?_
    refine SimI.bind (og := F27 n a0.F.a2) { dst := some 52, op := POp.call true [[]] 27 [Operand.tmp 51], guard := none, hints := [] } (fun r7 => [(52, .one (lb r7))]) (fun r7 => []) (by kernel_rfl) (fun r7 hr => pOp_eff (by kernel_rfl) (by kernel_rfl) (eff_call (ARGS := [.agg [li .i64 a0.F.a2.N, ls a0.F.a2.Text]]) (by kernel_rfl) (args_clean (by kernel_rfl) args_nil) (F27_ok n a0.F.a2 r7 hr) (by kernel_rfl))) (fun r7 => ?_)
    refine SimI.run 2 [(54, .one (lb (!(r7)))), (53, .one (lb (!(r7))))] [] (by kernel_rfl) ?_
    refine SimI.split 54 (!(r7)) (by kernel_rfl) ?_ ?_
    · refine SimI.run 17 [(71, .one (lb true)), (70, .tup []), (69, .tup []), (68, .tup []), (67, .tup []), (66, .tup []), (65, .tup []), (64, .tup []), (63, .tup []), (62, .tup []), (61, .tup []), (60, .tup []), (59, .tup []), (58, .tup []), (57, .tup []), (56, .tup []), (55, .tup [])] [] (by kernel_rfl) ?_
      refine SimI.done (by kernel_rfl) ?_
      refine SimE.thenN ?_
      refine Sim.condT (by kernel_rfl) ?_
      refine Sim.seq ?_
      refine Sim.region0 ?_
      refine SimI.run 1 [(2, .one (lb false))] [] (by kernel_rfl) ?_
      refine SimI.done (by kernel_rfl) ?_
      refine SimE.thenN ?_
      refine Sim.ret ?_
      refine SimE.blockR ?_
      refine SimE.thenR ?_
      refine SimE.loopR ?_
      refine SimE.blockR ?_
      refine SimE.thenR ?_
      exact SimE.fin (by kernel_rfl)
    · refine SimI.run 9 [(63, .one (lb ((bitsI .and .u8 (shrI .u8 a0.Mask 3) 1) == 0))), (62, .one (lb ((bitsI .and .u8 (shrI .u8 a0.Mask 3) 1) == 0))), (61, .one (li .u8 (bitsI .and .u8 (shrI .u8 a0.Mask 3) 1))), (60, .one (li .u8 (shrI .u8 a0.Mask 3))), (59, .one (li .u64 3)), (58, .one (li .i64 3)), (57, .one (li .i64 2)), (56, .one (li .u8 a0.Mask)), (55, .one (.ptr 1 1))] [] (by kernel_rfl) ?_
      refine SimI.split 63 ((bitsI .and .u8 (shrI .u8 a0.Mask 3) 1) == 0) (by kernel_rfl) ?_ ?_
      · refine SimI.run 5 [(68, .agg [li .i64 0, ls ByteArray.empty]), (67, .agg [li .i64 a0.F.a2.N, ls a0.F.a2.Text]), (66, .one (.ptr 1 8)), (65, .one (.ptr 1 4)), (64, .one (li .i64 2))] [] (by kernel_rfl) ?_
        refine SimI.step { dst := some 69, op := POp.prim (Prim.bin BinOp.neq 25 false false) [Operand.tmp 67, Operand.tmp 68], guard := some (63, true), hints := [] } [(69, .one (lb (!(Field.eqb a0.F.a2 (Field.mk 0 ByteArray.empty)))))] [] (by kernel_rfl) (pOp_eff (by kernel_rfl) (by kernel_rfl) (eff_prim (by kernel_rfl) (Field_eqn a0.F.a2 (Field.mk 0 ByteArray.empty) _ _))) ?_
        refine SimI.run 2 [(71, .one (lb (!(Field.eqb a0.F.a2 (Field.mk 0 ByteArray.empty))))), (70, .one (lb (!(Field.eqb a0.F.a2 (Field.mk 0 ByteArray.empty)))))] [] (by kernel_rfl) ?_
        refine SimI.done (by kernel_rfl) ?_
        refine SimE.thenN ?_
        refine Sim.cond (!(Field.eqb a0.F.a2 (Field.mk 0 ByteArray.empty))) (by kernel_rfl) ?_ ?_
        · refine Sim.seq ?_
          refine Sim.region0 ?_
          refine SimI.run 1 [(2, .one (lb false))] [] (by kernel_rfl) ?_
          refine SimI.done (by kernel_rfl) ?_
          refine SimE.thenN ?_
          refine Sim.ret ?_
          refine SimE.blockR ?_
          refine SimE.thenR ?_
          refine SimE.loopR ?_
          refine SimE.blockR ?_
          refine SimE.thenR ?_
          exact SimE.fin (by kernel_rfl)
        · refine Sim.skip ?_
          refine SimE.blockN ?_
          refine SimE.thenN ?_
          refine Sim.region0 ?_
          refine SimI.run 3 [(3, .one (li .i64 3)), (47, .one (li .i64 3)), (46, .one (li .i64 2))] [] (by kernel_rfl) ?_
          refine SimI.done (by kernel_rfl) ?_
          refine SimE.loopN ?_
          refine SimL.pre (ts := [1, 3]) (os := [1]) [(1, .one (.ptr 1 0)), (3, .one (li .i64 3))] ((1, some (.cells [li .i64 a0.ID, li .u8 a0.Mask, li .i64 a0.At.X, li .i64 a0.At.Y, li .i64 a0.F.a0.N, ls a0.F.a0.Text, li .i64 a0.F.a1.N, ls a0.F.a1.Text, li .i64 a0.F.a2.N, ls a0.F.a2.Text, li .i64 a0.F.a3.N, ls a0.F.a3.Text])) :: []) (by kernel_rfl) (by kernel_rfl) (by kernel_rfl) ?_
          exact F21_u8_ok n a0
      · refine SimI.run 8 [(71, .one (lb false)), (70, .one (lb false)), (69, .tup []), (68, .tup []), (67, .tup []), (66, .tup []), (65, .tup []), (64, .tup [])] [] (by kernel_rfl) ?_
        refine SimI.done (by kernel_rfl) ?_
        refine SimE.thenN ?_
        refine Sim.condF (by kernel_rfl) ?_
        refine Sim.skip ?_
        refine SimE.blockN ?_
        refine SimE.thenN ?_
        refine Sim.region0 ?_
        refine SimI.run 3 [(3, .one (li .i64 3)), (47, .one (li .i64 3)), (46, .one (li .i64 2))] [] (by kernel_rfl) ?_
        refine SimI.done (by kernel_rfl) ?_
        refine SimE.loopN ?_
        refine SimL.pre (ts := [1, 3]) (os := [1]) [(1, .one (.ptr 1 0)), (3, .one (li .i64 3))] ((1, some (.cells [li .i64 a0.ID, li .u8 a0.Mask, li .i64 a0.At.X, li .i64 a0.At.Y, li .i64 a0.F.a0.N, ls a0.F.a0.Text, li .i64 a0.F.a1.N, ls a0.F.a1.Text, li .i64 a0.F.a2.N, ls a0.F.a2.Text, li .i64 a0.F.a3.N, ls a0.F.a3.Text])) :: []) (by kernel_rfl) (by kernel_rfl) (by kernel_rfl) ?_
        exact F21_u8_ok n a0

def F21_u4 (n : Nat) (a0 : Delta) : Option Bool :=
    (F27 n a0.F.a1).bind fun (r5 : Bool) =>
    if !(r5) then
      some false
    else
      if (bitsI .and .u8 (shrI .u8 a0.Mask 2) 1) == 0 then
        if !(Field.eqb a0.F.a1 (Field.mk 0 ByteArray.empty)) then
          some false
        else
          F21_u6 n a0
      else
        F21_u6 n a0
theorem F21_u4_ok (n : Nat) (a0 : Delta) : SimL Try.prog D (n + 8) (n + 7) pc21_c32 [(1, .one (.ptr 1 0)), (3, .one (li .i64 1))] ((1, some (.cells [li .i64 a0.ID, li .u8 a0.Mask, li .i64 a0.At.X, li .i64 a0.At.Y, li .i64 a0.F.a0.N, ls a0.F.a0.Text, li .i64 a0.F.a1.N, ls a0.F.a1.Text, li .i64 a0.F.a2.N, ls a0.F.a2.Text, li .i64 a0.F.a3.N, ls a0.F.a3.Text])) :: []) (F21_u4 n a0) (QB 0 (QT Try.prog D (n + 8) pc21_c38 (QF pc21_r 0 F21_e))) := by
    unfold F21_u4
    refine SimL.succ ?_
    refine Sim.seq ?_
    refine Sim.seq ?_
    refine Sim.region [(1, .one (.ptr 1 0)), (3, .one (li .i64 1))] ((1, some (.cells [li .i64 a0.ID, li .u8 a0.Mask, li .i64 a0.At.X, li .i64 a0.At.Y, li .i64 a0.F.a0.N, ls a0.F.a0.Text, li .i64 a0.F.a1.N, ls a0.F.a1.Text, li .i64 a0.F.a2.N, ls a0.F.a2.Text, li .i64 a0.F.a3.N, ls a0.F.a3.Text])) :: []) (by kernel_rfl) ?_
    refine SimI.run 2 [(45, .one (lb true)), (44, .one (li .i64 1))] [] (by kernel_rfl) ?_
    refine SimI.done (by kernel_rfl) ?_
    refine SimE.thenN ?_
    refine Sim.condT (by kernel_rfl) ?_
    refine Sim.skip ?_
    refine SimE.thenN ?_
    refine Sim.seq ?_
    refine Sim.block ?_
    refine Sim.seq ?_
    refine Sim.region0 ?_
    refine SimI.run 4 [(51, .agg [li .i64 a0.F.a1.N, ls a0.F.a1.Text]), (50, .one (.ptr 1 6)), (49, .one (.ptr 1 4)), (48, .one (li .i64 1))] [] (by kernel_rfl) ?_
    refine SimI.bind (og := F27 n a0.F.a1) { dst := some 52, op := POp.call true [[]] 27 [Operand.tmp 51], guard := none, hints := [] } (fun r5 => [(52, .one (lb r5))]) (fun r5 => []) (by kernel_rfl) (fun r5 hr => pOp_eff (by kernel_rfl) (by kernel_rfl) (eff_call (ARGS := [.agg [li .i64 a0.F.a1.N, ls a0.F.a1.Text]]) (by kernel_rfl) (args_clean (by kernel_rfl) args_nil) (F27_ok n a0.F.a1 r5 hr) (by kernel_rfl))) (fun r5 => ?_)
    refine SimI.run 2 [(54, .one (lb (!(r5)))), (53, .one (lb (!(r5))))] [] (by kernel_rfl) ?_
    refine SimI.split 54 (!(r5)) (by kernel_rfl) ?_ ?_
    · refine SimI.run 17 [(71, .one (lb true)), (70, .tup []), (69, .tup []), (68, .tup []), (67, .tup []), (66, .tup []), (65, .tup []), (64, .tup []), (63, .tup []), (62, .tup []), (61, .tup []), (60, .tup []), (59, .tup []), (58, .tup []), (57, .tup []), (56, .tup []), (55, .tup [])] [] (by kernel_rfl) ?_
      refine SimI.done (by kernel_rfl) ?_
      refine SimE.thenN ?_
      refine Sim.condT (by kernel_rfl) ?_
      refine Sim.seq ?_
      refine Sim.region0 ?_
      refine SimI.run 1 [(2, .one (lb false))] [] (by kernel_rfl) ?_
      refine SimI.done (by kernel_rfl) ?_
      refine SimE.thenN ?_
      refine Sim.ret ?_
      refine SimE.blockR ?_
      refine SimE.thenR ?_
      refine SimE.loopR ?_
      refine SimE.blockR ?_
      refine SimE.thenR ?_
      exact SimE.fin (by kernel_rfl)
    · refine SimI.run 9 [(63, .one (lb ((bitsI .and .u8 (shrI .u8 a0.Mask 2) 1) == 0))), (62, .one (lb ((bitsI .and .u8 (shrI .u8 a0.Mask 2) 1) == 0))), (61, .one (li .u8 (bitsI .and .u8 (shrI .u8 a0.Mask 2) 1))), (60, .one (li .u8 (shrI .u8 a0.Mask 2))), (59, .one (li .u64 2)), (58, .one (li .i64 2)), (57, .one (li .i64 1)), (56, .one (li .u8 a0.Mask)), (55, .one (.ptr 1 1))] [] (by kernel_rfl) ?_
      refine SimI.split 63 ((bitsI .and .u8 (shrI .u8 a0.Mask 2) 1) == 0) (by kernel_rfl) ?_ ?_
      · refine SimI.run 5 [(68, .agg [li .i64 0, ls ByteArray.empty]), (67, .agg [li .i64 a0.F.a1.N, ls a0.F.a1.Text]), (66, .one (.ptr 1 6)), (65, .one (.ptr 1 4)), (64, .one (li .i64 1))] [] (by kernel_rfl) ?_
        refine SimI.step { dst := some 69, op := POp.prim (Prim.bin BinOp.neq 25 false false) [Operand.tmp 67, Operand.tmp 68], guard := some (63, true), hints := [] } [(69, .one (lb (!(Field.eqb a0.F.a1 (Field.mk 0 ByteArray.empty)))))] [] (by kernel_rfl) (pOp_eff (by kernel_rfl) (by kernel_rfl) (eff_prim (by kernel_rfl) (Field_eqn a0.F.a1 (Field.mk 0 ByteArray.empty) _ _))) ?_
        refine SimI.run 2 [(71, .one (lb (!(Field.eqb a0.F.a1 (Field.mk 0 ByteArray.empty))))), (70, .one (lb (!(Field.eqb a0.F.a1 (Field.mk 0 ByteArray.empty)))))] [] (by kernel_rfl) ?_
        refine SimI.done (by kernel_rfl) ?_
        refine SimE.thenN ?_
        refine Sim.cond (!(Field.eqb a0.F.a1 (Field.mk 0 ByteArray.empty))) (by kernel_rfl) ?_ ?_
        · refine Sim.seq ?_
          refine Sim.region0 ?_
          refine SimI.run 1 [(2, .one (lb false))] [] (by kernel_rfl) ?_
          refine SimI.done (by kernel_rfl) ?_
          refine SimE.thenN ?_
          refine Sim.ret ?_
          refine SimE.blockR ?_
          refine SimE.thenR ?_
          refine SimE.loopR ?_
          refine SimE.blockR ?_
          refine SimE.thenR ?_
          exact SimE.fin (by kernel_rfl)
        · refine Sim.skip ?_
          refine SimE.blockN ?_
          refine SimE.thenN ?_
          refine Sim.region0 ?_
          refine SimI.run 3 [(3, .one (li .i64 2)), (47, .one (li .i64 2)), (46, .one (li .i64 1))] [] (by kernel_rfl) ?_
          refine SimI.done (by kernel_rfl) ?_
          refine SimE.loopN ?_
          refine SimL.pre (ts := [1, 3]) (os := [1]) [(1, .one (.ptr 1 0)), (3, .one (li .i64 2))] ((1, some (.cells [li .i64 a0.ID, li .u8 a0.Mask, li .i64 a0.At.X, li .i64 a0.At.Y, li .i64 a0.F.a0.N, ls a0.F.a0.Text, li .i64 a0.F.a1.N, ls a0.F.a1.Text, li .i64 a0.F.a2.N, ls a0.F.a2.Text, li .i64 a0.F.a3.N, ls a0.F.a3.Text])) :: []) (by kernel_rfl) (by kernel_rfl) (by kernel_rfl) ?_
          exact F21_u6_ok n a0
      · refine SimI.run 8 [(71, .one (lb false)), (70, .one (lb false)), (69, .tup []), (68, .tup []), (67, .tup []), (66, .tup []), (65, .tup []), (64, .tup [])] [] (by kernel_rfl) ?_
        refine SimI.done (by kernel_rfl) ?_
        refine SimE.thenN ?_
        refine Sim.condF (by kernel_rfl) ?_
        refine Sim.skip ?_
        refine SimE.blockN ?_
        refine SimE.thenN ?_
        refine Sim.region0 ?_
        refine SimI.run 3 [(3, .one (li .i64 2)), (47, .one (li .i64 2)), (46, .one (li .i64 1))] [] (by kernel_rfl) ?_
        refine SimI.done (by kernel_rfl) ?_
        refine SimE.loopN ?_
        refine SimL.pre (ts := [1, 3]) (os := [1]) [(1, .one (.ptr 1 0)), (3, .one (li .i64 2))] ((1, some (.cells [li .i64 a0.ID, li .u8 a0.Mask, li .i64 a0.At.X, li .i64 a0.At.Y, li .i64 a0.F.a0.N, ls a0.F.a0.Text, li .i64 a0.F.a1.N, ls a0.F.a1.Text, li .i64 a0.F.a2.N, ls a0.F.a2.Text, li .i64 a0.F.a3.N, ls a0.F.a3.Text])) :: []) (by kernel_rfl) (by kernel_rfl) (by kernel_rfl) ?_
        exact F21_u6_ok n a0

def F21_j2 (n : Nat) (a0 : Delta) : Option Bool :=
    (F27 n a0.F.a0).bind fun (r3 : Bool) =>
    if !(r3) then
      some false
    else
      if (bitsI .and .u8 (shrI .u8 a0.Mask 1) 1) == 0 then
        if !(Field.eqb a0.F.a0 (Field.mk 0 ByteArray.empty)) then
          some false
        else
          F21_u4 n a0
      else
        F21_u4 n a0
theorem F21_j2_ok (n : Nat) (a0 : Delta) : Sim Try.prog D (n + 8) pc21_c39 [(1, .one (.ptr 1 0))] ((1, some (.cells [li .i64 a0.ID, li .u8 a0.Mask, li .i64 a0.At.X, li .i64 a0.At.Y, li .i64 a0.F.a0.N, ls a0.F.a0.Text, li .i64 a0.F.a1.N, ls a0.F.a1.Text, li .i64 a0.F.a2.N, ls a0.F.a2.Text, li .i64 a0.F.a3.N, ls a0.F.a3.Text])) :: []) (F21_j2 n a0) (QF pc21_r 0 F21_e) := by
    unfold F21_j2
    refine Sim.seq ?_
    refine Sim.seq ?_
    refine Sim.region [(1, .one (.ptr 1 0))] ((1, some (.cells [li .i64 a0.ID, li .u8 a0.Mask, li .i64 a0.At.X, li .i64 a0.At.Y, li .i64 a0.F.a0.N, ls a0.F.a0.Text, li .i64 a0.F.a1.N, ls a0.F.a1.Text, li .i64 a0.F.a2.N, ls a0.F.a2.Text, li .i64 a0.F.a3.N, ls a0.F.a3.Text])) :: []) (by kernel_rfl) ?_
    refine SimI.run 1 [(3, .one (li .i64 0))] [] (by kernel_rfl) ?_
    refine SimI.done (by kernel_rfl) ?_
    refine SimE.thenN ?_
    refine Sim.block ?_
    refine Sim.loop ?_
    refine SimL.succ ?_
    refine Sim.seq ?_
    refine Sim.seq ?_
    refine Sim.region [(1, .one (.ptr 1 0)), (3, .one (li .i64 0))] ((1, some (.cells [li .i64 a0.ID, li .u8 a0.Mask, li .i64 a0.At.X, li .i64 a0.At.Y, li .i64 a0.F.a0.N, ls a0.F.a0.Text, li .i64 a0.F.a1.N, ls a0.F.a1.Text, li .i64 a0.F.a2.N, ls a0.F.a2.Text, li .i64 a0.F.a3.N, ls a0.F.a3.Text])) :: []) (by kernel_rfl) ?_
    refine SimI.run 2 [(45, .one (lb true)), (44, .one (li .i64 0))] [] (by kernel_rfl) ?_
    refine SimI.done (by kernel_rfl) ?_
    refine SimE.thenN ?_
    refine Sim.condT (by kernel_rfl) ?_
    refine Sim.skip ?_
    refine SimE.thenN ?_
    refine Sim.seq ?_
    refine Sim.block ?_
    refine Sim.seq ?_
    refine Sim.region0 ?_
    refine SimI.run 4 [(51, .agg [li .i64 a0.F.a0.N, ls a0.F.a0.Text]), (50, .one (.ptr 1 4)), (49, .one (.ptr 1 4)), (48, .one (li .i64 0))] [] (by kernel_rfl) ?_
    refine SimI.bind (og := F27 n a0.F.a0) { dst := some 52, op := POp.call true [[]] 27 [Operand.tmp 51], guard := none, hints := [] } (fun r3 => [(52, .one (lb r3))]) (fun r3 => []) (by kernel_rfl) (fun r3 hr => pOp_eff (by kernel_rfl) (by kernel_rfl) (eff_call (ARGS := [.agg [li .i64 a0.F.a0.N, ls a0.F.a0.Text]]) (by kernel_rfl) (args_clean (by kernel_rfl) args_nil) (F27_ok n a0.F.a0 r3 hr) (by kernel_rfl))) (fun r3 => ?_)
    refine SimI.run 2 [(54, .one (lb (!(r3)))), (53, .one (lb (!(r3))))] [] (by kernel_rfl) ?_
    refine SimI.split 54 (!(r3)) (by kernel_rfl) ?_ ?_
    · refine SimI.run 17 [(71, .one (lb true)), (70, .tup []), (69, .tup []), (68, .tup []), (67, .tup []), (66, .tup []), (65, .tup []), (64, .tup []), (63, .tup []), (62, .tup []), (61, .tup []), (60, .tup []), (59, .tup []), (58, .tup []), (57, .tup []), (56, .tup []), (55, .tup [])] [] (by kernel_rfl) ?_
      refine SimI.done (by kernel_rfl) ?_
      refine SimE.thenN ?_
      refine Sim.condT (by kernel_rfl) ?_
      refine Sim.seq ?_
      refine Sim.region0 ?_
      refine SimI.run 1 [(2, .one (lb false))] [] (by kernel_rfl) ?_
      refine SimI.done (by kernel_rfl) ?_
      refine SimE.thenN ?_
      refine Sim.ret ?_
      refine SimE.blockR ?_
      refine SimE.thenR ?_
      refine SimE.loopR ?_
      refine SimE.blockR ?_
      refine SimE.thenR ?_
      exact SimE.fin (by kernel_rfl)
    · refine SimI.run 9 [(63, .one (lb ((bitsI .and .u8 (shrI .u8 a0.Mask 1) 1) == 0))), (62, .one (lb ((bitsI .and .u8 (shrI .u8 a0.Mask 1) 1) == 0))), (61, .one (li .u8 (bitsI .and .u8 (shrI .u8 a0.Mask 1) 1))), (60, .one (li .u8 (shrI .u8 a0.Mask 1))), (59, .one (li .u64 1)), (58, .one (li .i64 1)), (57, .one (li .i64 0)), (56, .one (li .u8 a0.Mask)), (55, .one (.ptr 1 1))] [] (by kernel_rfl) ?_
      refine SimI.split 63 ((bitsI .and .u8 (shrI .u8 a0.Mask 1) 1) == 0) (by kernel_rfl) ?_ ?_
      · refine SimI.run 5 [(68, .agg [li .i64 0, ls ByteArray.empty]), (67, .agg [li .i64 a0.F.a0.N, ls a0.F.a0.Text]), (66, .one (.ptr 1 4)), (65, .one (.ptr 1 4)), (64, .one (li .i64 0))] [] (by kernel_rfl) ?_
        refine SimI.step { dst := some 69, op := POp.prim (Prim.bin BinOp.neq 25 false false) [Operand.tmp 67, Operand.tmp 68], guard := some (63, true), hints := [] } [(69, .one (lb (!(Field.eqb a0.F.a0 (Field.mk 0 ByteArray.empty)))))] [] (by kernel_rfl) (pOp_eff (by kernel_rfl) (by kernel_rfl) (eff_prim (by kernel_rfl) (Field_eqn a0.F.a0 (Field.mk 0 ByteArray.empty) _ _))) ?_
        refine SimI.run 2 [(71, .one (lb (!(Field.eqb a0.F.a0 (Field.mk 0 ByteArray.empty))))), (70, .one (lb (!(Field.eqb a0.F.a0 (Field.mk 0 ByteArray.empty)))))] [] (by kernel_rfl) ?_
        refine SimI.done (by kernel_rfl) ?_
        refine SimE.thenN ?_
        refine Sim.cond (!(Field.eqb a0.F.a0 (Field.mk 0 ByteArray.empty))) (by kernel_rfl) ?_ ?_
        · refine Sim.seq ?_
          refine Sim.region0 ?_
          refine SimI.run 1 [(2, .one (lb false))] [] (by kernel_rfl) ?_
          refine SimI.done (by kernel_rfl) ?_
          refine SimE.thenN ?_
          refine Sim.ret ?_
          refine SimE.blockR ?_
          refine SimE.thenR ?_
          refine SimE.loopR ?_
          refine SimE.blockR ?_
          refine SimE.thenR ?_
          exact SimE.fin (by kernel_rfl)
        · refine Sim.skip ?_
          refine SimE.blockN ?_
          refine SimE.thenN ?_
          refine Sim.region0 ?_
          refine SimI.run 3 [(3, .one (li .i64 1)), (47, .one (li .i64 1)), (46, .one (li .i64 0))] [] (by kernel_rfl) ?_
          refine SimI.done (by kernel_rfl) ?_
          refine SimE.loopN ?_
          refine SimL.pre (ts := [1, 3]) (os := [1]) [(1, .one (.ptr 1 0)), (3, .one (li .i64 1))] ((1, some (.cells [li .i64 a0.ID, li .u8 a0.Mask, li .i64 a0.At.X, li .i64 a0.At.Y, li .i64 a0.F.a0.N, ls a0.F.a0.Text, li .i64 a0.F.a1.N, ls a0.F.a1.Text, li .i64 a0.F.a2.N, ls a0.F.a2.Text, li .i64 a0.F.a3.N, ls a0.F.a3.Text])) :: []) (by kernel_rfl) (by kernel_rfl) (by kernel_rfl) ?_
          exact F21_u4_ok n a0
      · refine SimI.run 8 [(71, .one (lb false)), (70, .one (lb false)), (69, .tup []), (68, .tup []), (67, .tup []), (66, .tup []), (65, .tup []), (64, .tup [])] [] (by kernel_rfl) ?_
        refine SimI.done (by kernel_rfl) ?_
        refine SimE.thenN ?_
        refine Sim.condF (by kernel_rfl) ?_
        refine Sim.skip ?_
        refine SimE.blockN ?_
        refine SimE.thenN ?_
        refine Sim.region0 ?_
        refine SimI.run 3 [(3, .one (li .i64 1)), (47, .one (li .i64 1)), (46, .one (li .i64 0))] [] (by kernel_rfl) ?_
        refine SimI.done (by kernel_rfl) ?_
        refine SimE.loopN ?_
        refine SimL.pre (ts := [1, 3]) (os := [1]) [(1, .one (.ptr 1 0)), (3, .one (li .i64 1))] ((1, some (.cells [li .i64 a0.ID, li .u8 a0.Mask, li .i64 a0.At.X, li .i64 a0.At.Y, li .i64 a0.F.a0.N, ls a0.F.a0.Text, li .i64 a0.F.a1.N, ls a0.F.a1.Text, li .i64 a0.F.a2.N, ls a0.F.a2.Text, li .i64 a0.F.a3.N, ls a0.F.a3.Text])) :: []) (by kernel_rfl) (by kernel_rfl) (by kernel_rfl) ?_
        exact F21_u4_ok n a0

def F21 (n : Nat) (a0 : Delta) : Option Bool :=
  if decide (a0.ID < 0) then
    some false
  else
    if decide ((1000000 : Int) < a0.ID) then
      some false
    else
      if decide (a0.Mask < 1) then
        some false
      else
        if decide ((31 : Int) < a0.Mask) then
          some false
        else
          if (bitsI .and .u8 a0.Mask 1) != 0 then
            (F46 n a0.At).bind fun (r1 : Bool) =>
            if !(r1) then
              some false
            else
              if (bitsI .and .u8 a0.Mask 1) == 0 then
                if !(Point.eqb a0.At (Point.mk 0 0)) then
                  some false
                else
                  F21_j2 n a0
              else
                F21_j2 n a0
          else
            if (bitsI .and .u8 a0.Mask 1) == 0 then
              if !(Point.eqb a0.At (Point.mk 0 0)) then
                some false
              else
                F21_j2 n a0
            else
              F21_j2 n a0
theorem F21_ok (n : Nat) (a0 : Delta) : ∀ r, F21 n a0 = some r → D 21 [.agg [li .i64 a0.ID, li .u8 a0.Mask, li .i64 a0.At.X, li .i64 a0.At.Y, li .i64 a0.F.a0.N, ls a0.F.a0.Text, li .i64 a0.F.a1.N, ls a0.F.a1.Text, li .i64 a0.F.a2.N, ls a0.F.a2.Text, li .i64 a0.F.a3.N, ls a0.F.a3.Text]] [] = some (F21_e r) := by
  refine fn_to (D := D) (n := n + 8) (nt := 72) (rs := pc21_r) (c := pc21_c42) (L := [(0, .agg [li .i64 a0.ID, li .u8 a0.Mask, li .i64 a0.At.X, li .i64 a0.At.Y, li .i64 a0.F.a0.N, ls a0.F.a0.Text, li .i64 a0.F.a1.N, ls a0.F.a1.Text, li .i64 a0.F.a2.N, ls a0.F.a2.Text, li .i64 a0.F.a3.N, ls a0.F.a3.Text])]) (M := []) (k := 0) rfl rfl rfl rfl rfl rfl ?_
  unfold F21
  refine Sim.seq ?_
  refine Sim.region0 ?_
  refine SimI.run 2 [(2, .one (lb false)), (1, .one (.ptr 1 0))] [(1, some (.cells [li .i64 a0.ID, li .u8 a0.Mask, li .i64 a0.At.X, li .i64 a0.At.Y, li .i64 a0.F.a0.N, ls a0.F.a0.Text, li .i64 a0.F.a1.N, ls a0.F.a1.Text, li .i64 a0.F.a2.N, ls a0.F.a2.Text, li .i64 a0.F.a3.N, ls a0.F.a3.Text]))] (by kernel_rfl) ?_
  refine SimI.done (by kernel_rfl) ?_
  refine SimE.thenN ?_
  refine Sim.seq ?_
  refine Sim.seq ?_
  refine Sim.region0 ?_
  refine SimI.run 4 [(7, .one (lb (decide (a0.ID < 0)))), (6, .one (lb (decide (a0.ID < 0)))), (5, .one (li .i64 a0.ID)), (4, .one (.ptr 1 0))] [] (by kernel_rfl) ?_
  refine SimI.split 7 (decide (a0.ID < 0)) (by kernel_rfl) ?_ ?_
  · refine SimI.run 14 [(21, .one (lb true)), (20, .tup []), (19, .tup []), (18, .tup []), (17, .one (lb true)), (16, .one (lb true)), (15, .tup []), (14, .tup []), (13, .tup []), (12, .one (lb true)), (11, .one (lb true)), (10, .tup []), (9, .tup []), (8, .tup [])] [] (by kernel_rfl) ?_
    refine SimI.done (by kernel_rfl) ?_
    refine SimE.thenN ?_
    refine Sim.condT (by kernel_rfl) ?_
    refine Sim.seq ?_
    refine Sim.region0 ?_
    refine SimI.run 1 [(2, .one (lb false))] [] (by kernel_rfl) ?_
    refine SimI.done (by kernel_rfl) ?_
    refine SimE.thenN ?_
    refine Sim.ret ?_
    refine SimE.thenR ?_
    exact SimE.fin (by kernel_rfl)
  · refine SimI.run 5 [(12, .one (lb (decide ((1000000 : Int) < a0.ID)))), (11, .one (lb (decide ((1000000 : Int) < a0.ID)))), (10, .one (lb (decide ((1000000 : Int) < a0.ID)))), (9, .one (li .i64 a0.ID)), (8, .one (.ptr 1 0))] [] (by kernel_rfl) ?_
    refine SimI.split 12 (decide ((1000000 : Int) < a0.ID)) (by kernel_rfl) ?_ ?_
    · refine SimI.run 9 [(21, .one (lb true)), (20, .tup []), (19, .tup []), (18, .tup []), (17, .one (lb true)), (16, .one (lb true)), (15, .tup []), (14, .tup []), (13, .tup [])] [] (by kernel_rfl) ?_
      refine SimI.done (by kernel_rfl) ?_
      refine SimE.thenN ?_
      refine Sim.condT (by kernel_rfl) ?_
      refine Sim.seq ?_
      refine Sim.region0 ?_
      refine SimI.run 1 [(2, .one (lb false))] [] (by kernel_rfl) ?_
      refine SimI.done (by kernel_rfl) ?_
      refine SimE.thenN ?_
      refine Sim.ret ?_
      refine SimE.thenR ?_
      exact SimE.fin (by kernel_rfl)
    · refine SimI.run 5 [(17, .one (lb (decide (a0.Mask < 1)))), (16, .one (lb (decide (a0.Mask < 1)))), (15, .one (lb (decide (a0.Mask < 1)))), (14, .one (li .u8 a0.Mask)), (13, .one (.ptr 1 1))] [] (by kernel_rfl) ?_
      refine SimI.split 17 (decide (a0.Mask < 1)) (by kernel_rfl) ?_ ?_
      · refine SimI.run 4 [(21, .one (lb true)), (20, .tup []), (19, .tup []), (18, .tup [])] [] (by kernel_rfl) ?_
        refine SimI.done (by kernel_rfl) ?_
        refine SimE.thenN ?_
        refine Sim.condT (by kernel_rfl) ?_
        refine Sim.seq ?_
        refine Sim.region0 ?_
        refine SimI.run 1 [(2, .one (lb false))] [] (by kernel_rfl) ?_
        refine SimI.done (by kernel_rfl) ?_
        refine SimE.thenN ?_
        refine Sim.ret ?_
        refine SimE.thenR ?_
        exact SimE.fin (by kernel_rfl)
      · refine SimI.run 4 [(21, .one (lb (decide ((31 : Int) < a0.Mask)))), (20, .one (lb (decide ((31 : Int) < a0.Mask)))), (19, .one (li .u8 a0.Mask)), (18, .one (.ptr 1 1))] [] (by kernel_rfl) ?_
        refine SimI.done (by kernel_rfl) ?_
        refine SimE.thenN ?_
        refine Sim.cond (decide ((31 : Int) < a0.Mask)) (by kernel_rfl) ?_ ?_
        · refine Sim.seq ?_
          refine Sim.region0 ?_
          refine SimI.run 1 [(2, .one (lb false))] [] (by kernel_rfl) ?_
          refine SimI.done (by kernel_rfl) ?_
          refine SimE.thenN ?_
          refine Sim.ret ?_
          refine SimE.thenR ?_
          exact SimE.fin (by kernel_rfl)
        · refine Sim.skip ?_
          refine SimE.thenN ?_
          refine Sim.seq ?_
          refine Sim.seq ?_
          refine Sim.region0 ?_
          refine SimI.run 5 [(26, .one (lb ((bitsI .and .u8 a0.Mask 1) != 0))), (25, .one (lb ((bitsI .and .u8 a0.Mask 1) != 0))), (24, .one (li .u8 (bitsI .and .u8 a0.Mask 1))), (23, .one (li .u8 a0.Mask)), (22, .one (.ptr 1 1))] [] (by kernel_rfl) ?_
          refine SimI.split 26 ((bitsI .and .u8 a0.Mask 1) != 0) (by kernel_rfl) ?_ ?_
          · refine SimI.run 2 [(28, .agg [li .i64 a0.At.X, li .i64 a0.At.Y]), (27, .one (.ptr 1 2))] [] (by kernel_rfl) ?_
            refine SimI.bind (og := F46 n a0.At) { dst := some 29, op := POp.call true [[]] 46 [Operand.tmp 28], guard := some (26, true), hints := [] } (fun r1 => [(29, .one (lb r1))]) (fun r1 => []) (by kernel_rfl) (fun r1 hr => pOp_eff (by kernel_rfl) (by kernel_rfl) (eff_call (ARGS := [.agg [li .i64 a0.At.X, li .i64 a0.At.Y]]) (by kernel_rfl) (args_clean (by kernel_rfl) args_nil) (F46_ok n a0.At r1 hr) (by kernel_rfl))) (fun r1 => ?_)
            refine SimI.run 3 [(32, .one (lb (!(r1)))), (31, .one (lb (!(r1)))), (30, .one (lb (!(r1))))] [] (by kernel_rfl) ?_
            refine SimI.split 32 (!(r1)) (by kernel_rfl) ?_ ?_
            · refine SimI.run 11 [(43, .one (lb true)), (42, .tup []), (41, .tup []), (40, .tup []), (39, .tup []), (38, .tup []), (37, .tup []), (36, .tup []), (35, .tup []), (34, .tup []), (33, .tup [])] [] (by kernel_rfl) ?_
              refine SimI.done (by kernel_rfl) ?_
              refine SimE.thenN ?_
              refine Sim.condT (by kernel_rfl) ?_
              refine Sim.seq ?_
              refine Sim.region0 ?_
              refine SimI.run 1 [(2, .one (lb false))] [] (by kernel_rfl) ?_
              refine SimI.done (by kernel_rfl) ?_
              refine SimE.thenN ?_
              refine Sim.ret ?_
              refine SimE.thenR ?_
              exact SimE.fin (by kernel_rfl)
            · refine SimI.run 5 [(37, .one (lb ((bitsI .and .u8 a0.Mask 1) == 0))), (36, .one (lb ((bitsI .and .u8 a0.Mask 1) == 0))), (35, .one (li .u8 (bitsI .and .u8 a0.Mask 1))), (34, .one (li .u8 a0.Mask)), (33, .one (.ptr 1 1))] [] (by kernel_rfl) ?_
              refine SimI.split 37 ((bitsI .and .u8 a0.Mask 1) == 0) (by kernel_rfl) ?_ ?_
              · refine SimI.run 3 [(40, .agg [li .i64 0, li .i64 0]), (39, .agg [li .i64 a0.At.X, li .i64 a0.At.Y]), (38, .one (.ptr 1 2))] [] (by kernel_rfl) ?_
                refine SimI.step { dst := some 41, op := POp.prim (Prim.bin BinOp.neq 23 false false) [Operand.tmp 39, Operand.tmp 40], guard := some (37, true), hints := [] } [(41, .one (lb (!(Point.eqb a0.At (Point.mk 0 0)))))] [] (by kernel_rfl) (pOp_eff (by kernel_rfl) (by kernel_rfl) (eff_prim (by kernel_rfl) (Point_eqn a0.At (Point.mk 0 0) _ _))) ?_
                refine SimI.run 2 [(43, .one (lb (!(Point.eqb a0.At (Point.mk 0 0))))), (42, .one (lb (!(Point.eqb a0.At (Point.mk 0 0)))))] [] (by kernel_rfl) ?_
                refine SimI.done (by kernel_rfl) ?_
                refine SimE.thenN ?_
                refine Sim.cond (!(Point.eqb a0.At (Point.mk 0 0))) (by kernel_rfl) ?_ ?_
                · refine Sim.seq ?_
                  refine Sim.region0 ?_
                  refine SimI.run 1 [(2, .one (lb false))] [] (by kernel_rfl) ?_
                  refine SimI.done (by kernel_rfl) ?_
                  refine SimE.thenN ?_
                  refine Sim.ret ?_
                  refine SimE.thenR ?_
                  exact SimE.fin (by kernel_rfl)
                · refine Sim.skip ?_
                  refine SimE.thenN ?_
                  refine Sim.pre (ts := [1]) (os := [1]) [(1, .one (.ptr 1 0))] ((1, some (.cells [li .i64 a0.ID, li .u8 a0.Mask, li .i64 a0.At.X, li .i64 a0.At.Y, li .i64 a0.F.a0.N, ls a0.F.a0.Text, li .i64 a0.F.a1.N, ls a0.F.a1.Text, li .i64 a0.F.a2.N, ls a0.F.a2.Text, li .i64 a0.F.a3.N, ls a0.F.a3.Text])) :: []) (by kernel_rfl) (by kernel_rfl) (by kernel_rfl) ?_
                  exact F21_j2_ok n a0
              · refine SimI.run 6 [(43, .one (lb false)), (42, .one (lb false)), (41, .tup []), (40, .tup []), (39, .tup []), (38, .tup [])] [] (by kernel_rfl) ?_
                refine SimI.done (by kernel_rfl) ?_
                refine SimE.thenN ?_
                refine Sim.condF (by kernel_rfl) ?_
                refine Sim.skip ?_
                refine SimE.thenN ?_
                refine Sim.pre (ts := [1]) (os := [1]) [(1, .one (.ptr 1 0))] ((1, some (.cells [li .i64 a0.ID, li .u8 a0.Mask, li .i64 a0.At.X, li .i64 a0.At.Y, li .i64 a0.F.a0.N, ls a0.F.a0.Text, li .i64 a0.F.a1.N, ls a0.F.a1.Text, li .i64 a0.F.a2.N, ls a0.F.a2.Text, li .i64 a0.F.a3.N, ls a0.F.a3.Text])) :: []) (by kernel_rfl) (by kernel_rfl) (by kernel_rfl) ?_
                exact F21_j2_ok n a0
          · refine SimI.run 11 [(37, .one (lb ((bitsI .and .u8 a0.Mask 1) == 0))), (36, .one (lb ((bitsI .and .u8 a0.Mask 1) == 0))), (35, .one (li .u8 (bitsI .and .u8 a0.Mask 1))), (34, .one (li .u8 a0.Mask)), (33, .one (.ptr 1 1)), (32, .one (lb false)), (31, .one (lb false)), (30, .tup []), (29, .tup []), (28, .tup []), (27, .tup [])] [] (by kernel_rfl) ?_
            refine SimI.split 37 ((bitsI .and .u8 a0.Mask 1) == 0) (by kernel_rfl) ?_ ?_
            · refine SimI.run 3 [(40, .agg [li .i64 0, li .i64 0]), (39, .agg [li .i64 a0.At.X, li .i64 a0.At.Y]), (38, .one (.ptr 1 2))] [] (by kernel_rfl) ?_
              refine SimI.step { dst := some 41, op := POp.prim (Prim.bin BinOp.neq 23 false false) [Operand.tmp 39, Operand.tmp 40], guard := some (37, true), hints := [] } [(41, .one (lb (!(Point.eqb a0.At (Point.mk 0 0)))))] [] (by kernel_rfl) (pOp_eff (by kernel_rfl) (by kernel_rfl) (eff_prim (by kernel_rfl) (Point_eqn a0.At (Point.mk 0 0) _ _))) ?_
              refine SimI.run 2 [(43, .one (lb (!(Point.eqb a0.At (Point.mk 0 0))))), (42, .one (lb (!(Point.eqb a0.At (Point.mk 0 0)))))] [] (by kernel_rfl) ?_
              refine SimI.done (by kernel_rfl) ?_
              refine SimE.thenN ?_
              refine Sim.cond (!(Point.eqb a0.At (Point.mk 0 0))) (by kernel_rfl) ?_ ?_
              · refine Sim.seq ?_
                refine Sim.region0 ?_
                refine SimI.run 1 [(2, .one (lb false))] [] (by kernel_rfl) ?_
                refine SimI.done (by kernel_rfl) ?_
                refine SimE.thenN ?_
                refine Sim.ret ?_
                refine SimE.thenR ?_
                exact SimE.fin (by kernel_rfl)
              · refine Sim.skip ?_
                refine SimE.thenN ?_
                refine Sim.pre (ts := [1]) (os := [1]) [(1, .one (.ptr 1 0))] ((1, some (.cells [li .i64 a0.ID, li .u8 a0.Mask, li .i64 a0.At.X, li .i64 a0.At.Y, li .i64 a0.F.a0.N, ls a0.F.a0.Text, li .i64 a0.F.a1.N, ls a0.F.a1.Text, li .i64 a0.F.a2.N, ls a0.F.a2.Text, li .i64 a0.F.a3.N, ls a0.F.a3.Text])) :: []) (by kernel_rfl) (by kernel_rfl) (by kernel_rfl) ?_
                exact F21_j2_ok n a0
            · refine SimI.run 6 [(43, .one (lb false)), (42, .one (lb false)), (41, .tup []), (40, .tup []), (39, .tup []), (38, .tup [])] [] (by kernel_rfl) ?_
              refine SimI.done (by kernel_rfl) ?_
              refine SimE.thenN ?_
              refine Sim.condF (by kernel_rfl) ?_
              refine Sim.skip ?_
              refine SimE.thenN ?_
              refine Sim.pre (ts := [1]) (os := [1]) [(1, .one (.ptr 1 0))] ((1, some (.cells [li .i64 a0.ID, li .u8 a0.Mask, li .i64 a0.At.X, li .i64 a0.At.Y, li .i64 a0.F.a0.N, ls a0.F.a0.Text, li .i64 a0.F.a1.N, ls a0.F.a1.Text, li .i64 a0.F.a2.N, ls a0.F.a2.Text, li .i64 a0.F.a3.N, ls a0.F.a3.Text])) :: []) (by kernel_rfl) (by kernel_rfl) (by kernel_rfl) ?_
              exact F21_j2_ok n a0


-- 72: vedette/vedetteref1.Get
def F72_e : (Int × Int × Int) → PV × List (List Lf) := fun r => (.tup [.one (li .u64 r.1), .one (li .i64 r.2.1), .one (li .i64 r.2.2)], [])
def F72_j10 (n : Nat) (i5 : Int) (i6 : Int) (x8 : Int) : Option (Int × Int × Int) :=
    some (bitsI .or .u64 i5 (shlI .u64 (IntKind.wrap .u64 (bitsI .and .u8 x8 127)) (IntKind.wrap .u64 (IntKind.wrap .i64 (7 * i6)))), IntKind.wrap .i64 (i6 + 1), 0)
theorem F72_j10_ok (n : Nat) (i5 : Int) (i6 : Int) (x8 : Int) (m_l7 : Nat) : Sim Try.prog D (n + 8) pc72_c28 [(5, .one (li .u64 (bitsI .or .u64 i5 (shlI .u64 (IntKind.wrap .u64 (bitsI .and .u8 x8 127)) (IntKind.wrap .u64 (IntKind.wrap .i64 (7 * i6))))))), (6, .one (li .i64 i6))] [] (F72_j10 n i5 i6 x8) (QB 1 (QT Try.prog D (n + 8) pc72_c37 (QL Try.prog D (n + 8) m_l7 pc72_c39 (QB 0 (QT Try.prog D (n + 8) pc72_c45 (QF pc72_r 0 F72_e)))))) := by
    unfold F72_j10
    refine Sim.seq ?_
    refine Sim.region [(5, .one (li .u64 (bitsI .or .u64 i5 (shlI .u64 (IntKind.wrap .u64 (bitsI .and .u8 x8 127)) (IntKind.wrap .u64 (IntKind.wrap .i64 (7 * i6))))))), (6, .one (li .i64 i6))] [] (by kernel_rfl) ?_
    refine SimI.run 6 [(4, .one (li .i64 0)), (3, .one (li .i64 (IntKind.wrap .i64 (i6 + 1)))), (2, .one (li .u64 (bitsI .or .u64 i5 (shlI .u64 (IntKind.wrap .u64 (bitsI .and .u8 x8 127)) (IntKind.wrap .u64 (IntKind.wrap .i64 (7 * i6))))))), (42, .one (li .i64 (IntKind.wrap .i64 (i6 + 1)))), (41, .one (li .i64 i6)), (40, .one (li .u64 (bitsI .or .u64 i5 (shlI .u64 (IntKind.wrap .u64 (bitsI .and .u8 x8 127)) (IntKind.wrap .u64 (IntKind.wrap .i64 (7 * i6)))))))] [] (by kernel_rfl) ?_
    refine SimI.done (by kernel_rfl) ?_
    refine SimE.thenN ?_
    refine Sim.ret ?_
    refine SimE.blockR ?_
    refine SimE.thenR ?_
    refine SimE.loopR ?_
    refine SimE.blockR ?_
    refine SimE.thenR ?_
    exact SimE.fin (by kernel_rfl)

def F72_j9 (n : Nat) (i5 : Int) (i6 : Int) (x8 : Int) (rec_l7 : Int → Int → Option (Int × Int × Int)) : Option (Int × Int × Int) :=
    if ¬ (IntKind.wrap .u64 (IntKind.wrap .i64 (7 * i6)) < 0) then
      if decide (x8 < 128) then
        if x8 == 0 then
          if decide ((0 : Int) < i6) then
            some (0, 0, 11)
          else
            F72_j10 n i5 i6 x8
        else
          F72_j10 n i5 i6 x8
      else
        rec_l7 (bitsI .or .u64 i5 (shlI .u64 (IntKind.wrap .u64 (bitsI .and .u8 x8 127)) (IntKind.wrap .u64 (IntKind.wrap .i64 (7 * i6))))) (IntKind.wrap .i64 (i6 + 1))
    else none
theorem F72_j9_ok (n : Nat) (a0 : ByteArray) (i5 : Int) (i6 : Int) (x8 : Int) (rec_l7 : Int → Int → Option (Int × Int × Int)) (m_l7 : Nat) (ih_l7 : ∀ (i5 : Int) (i6 : Int), SimL Try.prog D (n + 8) m_l7 pc72_c39 [(0, .one (ls a0)), (5, .one (li .u64 i5)), (6, .one (li .i64 i6))] [] (rec_l7 i5 i6) (QB 0 (QT Try.prog D (n + 8) pc72_c45 (QF pc72_r 0 F72_e)))) : Sim Try.prog D (n + 8) pc72_c33 [(0, .one (ls a0)), (5, .one (li .u64 i5)), (6, .one (li .i64 i6)), (7, .one (li .u8 x8))] [] (F72_j9 n i5 i6 x8 rec_l7) (QB 1 (QT Try.prog D (n + 8) pc72_c37 (QL Try.prog D (n + 8) m_l7 pc72_c39 (QB 0 (QT Try.prog D (n + 8) pc72_c45 (QF pc72_r 0 F72_e)))))) := by
    unfold F72_j9
    refine Sim.seq ?_
    refine Sim.region [(0, .one (ls a0)), (5, .one (li .u64 i5)), (6, .one (li .i64 i6)), (7, .one (li .u8 x8))] [] (by kernel_rfl) ?_
    refine SimI.run 7 [(29, .one (li .u64 (IntKind.wrap .u64 (IntKind.wrap .i64 (7 * i6))))), (28, .one (li .i64 (IntKind.wrap .i64 (7 * i6)))), (27, .one (li .i64 i6)), (26, .one (li .u64 (IntKind.wrap .u64 (bitsI .and .u8 x8 127)))), (25, .one (li .u8 (bitsI .and .u8 x8 127))), (24, .one (li .u8 x8)), (23, .one (li .u64 i5))] [] (by kernel_rfl) ?_
    refine SimI.guard (c := ¬ (IntKind.wrap .u64 (IntKind.wrap .i64 (7 * i6)) < 0)) { dst := some 30, op := POp.prim (Prim.bin BinOp.shl 70 false false) [Operand.tmp 26, Operand.tmp 29], guard := none, hints := [] } [(30, .one (li .u64 (shlI .u64 (IntKind.wrap .u64 (bitsI .and .u8 x8 127)) (IntKind.wrap .u64 (IntKind.wrap .i64 (7 * i6))))))] [] (by kernel_rfl) (fun hc => pOp_eff (by kernel_rfl) (by kernel_rfl) (eff_prim (by kernel_rfl) (pr_shl _ _ _ .u64 .u64 (IntKind.wrap .u64 (bitsI .and .u8 x8 127)) (IntKind.wrap .u64 (IntKind.wrap .i64 (7 * i6))) hc))) ?_
    refine SimI.run 2 [(5, .one (li .u64 (bitsI .or .u64 i5 (shlI .u64 (IntKind.wrap .u64 (bitsI .and .u8 x8 127)) (IntKind.wrap .u64 (IntKind.wrap .i64 (7 * i6))))))), (31, .one (li .u64 (bitsI .or .u64 i5 (shlI .u64 (IntKind.wrap .u64 (bitsI .and .u8 x8 127)) (IntKind.wrap .u64 (IntKind.wrap .i64 (7 * i6)))))))] [] (by kernel_rfl) ?_
    refine SimI.done (by kernel_rfl) ?_
    refine SimE.thenN ?_
    refine Sim.seq ?_
    refine Sim.region0 ?_
    refine SimI.run 2 [(33, .one (lb (decide (x8 < 128)))), (32, .one (li .u8 x8))] [] (by kernel_rfl) ?_
    refine SimI.done (by kernel_rfl) ?_
    refine SimE.thenN ?_
    refine Sim.cond (decide (x8 < 128)) (by kernel_rfl) ?_ ?_
    · refine Sim.seq ?_
      refine Sim.seq ?_
      refine Sim.region0 ?_
      refine SimI.run 3 [(36, .one (lb (x8 == 0))), (35, .one (lb (x8 == 0))), (34, .one (li .u8 x8))] [] (by kernel_rfl) ?_
      refine SimI.split 36 (x8 == 0) (by kernel_rfl) ?_ ?_
      · refine SimI.run 3 [(39, .one (lb (decide ((0 : Int) < i6)))), (38, .one (lb (decide ((0 : Int) < i6)))), (37, .one (li .i64 i6))] [] (by kernel_rfl) ?_
        refine SimI.done (by kernel_rfl) ?_
        refine SimE.thenN ?_
        refine Sim.cond (decide ((0 : Int) < i6)) (by kernel_rfl) ?_ ?_
        · refine Sim.seq ?_
          refine Sim.region0 ?_
          refine SimI.run 3 [(4, .one (li .i64 11)), (3, .one (li .i64 0)), (2, .one (li .u64 0))] [] (by kernel_rfl) ?_
          refine SimI.done (by kernel_rfl) ?_
          refine SimE.thenN ?_
          refine Sim.ret ?_
          refine SimE.thenR ?_
          refine SimE.blockR ?_
          refine SimE.thenR ?_
          refine SimE.loopR ?_
          refine SimE.blockR ?_
          refine SimE.thenR ?_
          exact SimE.fin (by kernel_rfl)
        · refine Sim.skip ?_
          refine SimE.thenN ?_
          refine Sim.pre (ts := [5, 6]) (os := []) [(5, .one (li .u64 (bitsI .or .u64 i5 (shlI .u64 (IntKind.wrap .u64 (bitsI .and .u8 x8 127)) (IntKind.wrap .u64 (IntKind.wrap .i64 (7 * i6))))))), (6, .one (li .i64 i6))] [] (by kernel_rfl) (by kernel_rfl) (by kernel_rfl) ?_
          exact F72_j10_ok n i5 i6 x8 m_l7
      · refine SimI.run 3 [(39, .one (lb false)), (38, .tup []), (37, .tup [])] [] (by kernel_rfl) ?_
        refine SimI.done (by kernel_rfl) ?_
        refine SimE.thenN ?_
        refine Sim.condF (by kernel_rfl) ?_
        refine Sim.skip ?_
        refine SimE.thenN ?_
        refine Sim.pre (ts := [5, 6]) (os := []) [(5, .one (li .u64 (bitsI .or .u64 i5 (shlI .u64 (IntKind.wrap .u64 (bitsI .and .u8 x8 127)) (IntKind.wrap .u64 (IntKind.wrap .i64 (7 * i6))))))), (6, .one (li .i64 i6))] [] (by kernel_rfl) (by kernel_rfl) (by kernel_rfl) ?_
        exact F72_j10_ok n i5 i6 x8 m_l7
    · refine Sim.skip ?_
      refine SimE.blockN ?_
      refine SimE.thenN ?_
      refine Sim.region0 ?_
      refine SimI.run 3 [(6, .one (li .i64 (IntKind.wrap .i64 (i6 + 1)))), (13, .one (li .i64 (IntKind.wrap .i64 (i6 + 1)))), (12, .one (li .i64 i6))] [] (by kernel_rfl) ?_
      refine SimI.done (by kernel_rfl) ?_
      refine SimE.loopN ?_
      refine SimL.pre (ts := [0, 5, 6]) (os := []) [(0, .one (ls a0)), (5, .one (li .u64 (bitsI .or .u64 i5 (shlI .u64 (IntKind.wrap .u64 (bitsI .and .u8 x8 127)) (IntKind.wrap .u64 (IntKind.wrap .i64 (7 * i6))))))), (6, .one (li .i64 (IntKind.wrap .i64 (i6 + 1))))] [] (by kernel_rfl) (by kernel_rfl) (by kernel_rfl) ?_
      exact ih_l7 (bitsI .or .u64 i5 (shlI .u64 (IntKind.wrap .u64 (bitsI .and .u8 x8 127)) (IntKind.wrap .u64 (IntKind.wrap .i64 (7 * i6))))) (IntKind.wrap .i64 (i6 + 1))

def F72_l7 (n : Nat) (a0 : ByteArray) : Nat → Int → Int → Option (Int × Int × Int)
  | 0, _, _ => none
  | m + 1, i5, i6 =>
    if decide (i6 < (a0.size : Int)) then
      (ix (bytesL a0) i6).bind fun (x8 : Int) =>
      if i6 == 9 then
        if decide ((1 : Int) < x8) then
          some (0, 0, 11)
        else
          F72_j9 n i5 i6 x8 (F72_l7 n a0 m)
      else
        F72_j9 n i5 i6 x8 (F72_l7 n a0 m)
    else
      some (0, 0, 10)
theorem F72_l7_ok (n : Nat) (a0 : ByteArray) : ∀ (m : Nat) (i5 : Int) (i6 : Int), SimL Try.prog D (n + 8) m pc72_c39 [(0, .one (ls a0)), (5, .one (li .u64 i5)), (6, .one (li .i64 i6))] [] (F72_l7 n a0 m i5 i6) (QB 0 (QT Try.prog D (n + 8) pc72_c45 (QF pc72_r 0 F72_e))) := by
  intro m_l7
  induction m_l7 with
  | zero => intro i5 i6; exact SimL.zero'  rfl
  | succ m_l7 ih_l7 =>
    intro i5 i6
    refine SimL.succ ?_
    unfold F72_l7
    refine Sim.seq ?_
    refine Sim.seq ?_
    refine Sim.region [(0, .one (ls a0)), (5, .one (li .u64 i5)), (6, .one (li .i64 i6))] [] (by kernel_rfl) ?_
    refine SimI.run 4 [(11, .one (lb (decide (i6 < (a0.size : Int))))), (10, .one (li .i64 (a0.size : Int))), (9, .one (ls a0)), (8, .one (li .i64 i6))] [] (by kernel_rfl) ?_
    refine SimI.done (by kernel_rfl) ?_
    refine SimE.thenN ?_
    refine Sim.cond (decide (i6 < (a0.size : Int))) (by kernel_rfl) ?_ ?_
    · refine Sim.skip ?_
      refine SimE.thenN ?_
      refine Sim.seq ?_
      refine Sim.block ?_
      refine Sim.seq ?_
      refine Sim.region0 ?_
      refine SimI.run 2 [(15, .one (li .i64 i6)), (14, .one (ls a0))] [] (by kernel_rfl) ?_
      refine SimI.bind (og := ix (bytesL a0) i6) { dst := some 16, op := POp.prim (Prim.index 9) [Operand.tmp 14, Operand.tmp 15], guard := none, hints := [] } (fun x8 => [(16, .one (li .u8 x8))]) (fun x8 => []) (by kernel_rfl) (fun x8 hr => pOp_eff (by kernel_rfl) (by kernel_rfl) (eff_prim (by kernel_rfl) (pr_index (s := a0) (k := .i64) (i := i6) (b := x8) Try.underlying9 hr))) (fun x8 => ?_)
      refine SimI.run 1 [(7, .one (li .u8 x8))] [] (by kernel_rfl) ?_
      refine SimI.done (by kernel_rfl) ?_
      refine SimE.thenN ?_
      refine Sim.seq ?_
      refine Sim.seq ?_
      refine Sim.region0 ?_
      refine SimI.run 3 [(19, .one (lb (i6 == 9))), (18, .one (lb (i6 == 9))), (17, .one (li .i64 i6))] [] (by kernel_rfl) ?_
      refine SimI.split 19 (i6 == 9) (by kernel_rfl) ?_ ?_
      · refine SimI.run 3 [(22, .one (lb (decide ((1 : Int) < x8)))), (21, .one (lb (decide ((1 : Int) < x8)))), (20, .one (li .u8 x8))] [] (by kernel_rfl) ?_
        refine SimI.done (by kernel_rfl) ?_
        refine SimE.thenN ?_
        refine Sim.cond (decide ((1 : Int) < x8)) (by kernel_rfl) ?_ ?_
        · refine Sim.seq ?_
          refine Sim.region0 ?_
          refine SimI.run 3 [(4, .one (li .i64 11)), (3, .one (li .i64 0)), (2, .one (li .u64 0))] [] (by kernel_rfl) ?_
          refine SimI.done (by kernel_rfl) ?_
          refine SimE.thenN ?_
          refine Sim.ret ?_
          refine SimE.thenR ?_
          refine SimE.blockR ?_
          refine SimE.thenR ?_
          refine SimE.loopR ?_
          refine SimE.blockR ?_
          refine SimE.thenR ?_
          exact SimE.fin (by kernel_rfl)
        · refine Sim.skip ?_
          refine SimE.thenN ?_
          refine Sim.pre (ts := [0, 5, 6, 7]) (os := []) [(0, .one (ls a0)), (5, .one (li .u64 i5)), (6, .one (li .i64 i6)), (7, .one (li .u8 x8))] [] (by kernel_rfl) (by kernel_rfl) (by kernel_rfl) ?_
          exact F72_j9_ok n a0 i5 i6 x8 (F72_l7 n a0 m_l7) m_l7 ih_l7
      · refine SimI.run 3 [(22, .one (lb false)), (21, .tup []), (20, .tup [])] [] (by kernel_rfl) ?_
        refine SimI.done (by kernel_rfl) ?_
        refine SimE.thenN ?_
        refine Sim.condF (by kernel_rfl) ?_
        refine Sim.skip ?_
        refine SimE.thenN ?_
        refine Sim.pre (ts := [0, 5, 6, 7]) (os := []) [(0, .one (ls a0)), (5, .one (li .u64 i5)), (6, .one (li .i64 i6)), (7, .one (li .u8 x8))] [] (by kernel_rfl) (by kernel_rfl) (by kernel_rfl) ?_
        exact F72_j9_ok n a0 i5 i6 x8 (F72_l7 n a0 m_l7) m_l7 ih_l7
    · refine Sim.exit ?_
      refine SimE.thenX ?_
      refine SimE.loopX ?_
      refine SimE.blockX ?_
      refine SimE.thenN ?_
      refine Sim.seq ?_
      refine Sim.region0 ?_
      refine SimI.run 3 [(4, .one (li .i64 10)), (3, .one (li .i64 0)), (2, .one (li .u64 0))] [] (by kernel_rfl) ?_
      refine SimI.done (by kernel_rfl) ?_
      refine SimE.thenN ?_
      refine Sim.ret ?_
      exact SimE.fin (by kernel_rfl)

def F72 (n : Nat) (a0 : ByteArray) : Option (Int × Int × Int) :=
  F72_l7 n a0 (n + 8) 0 0
theorem F72_ok (n : Nat) (a0 : ByteArray) : ∀ r, F72 n a0 = some r → D 72 [.one (ls a0)] [] = some (F72_e r) := by
  refine fn_to (D := D) (n := n + 8) (nt := 43) (rs := pc72_r) (c := pc72_c48) (L := [(0, .one (ls a0))]) (M := []) (k := 0) rfl rfl rfl rfl rfl rfl ?_
  unfold F72
  refine Sim.seq ?_
  refine Sim.region0 ?_
  refine SimI.run 3 [(4, .one (li .i64 0)), (3, .one (li .i64 0)), (2, .one (li .u64 0))] [] (by kernel_rfl) ?_
  refine SimI.done (by kernel_rfl) ?_
  refine SimE.thenN ?_
  refine Sim.seq ?_
  refine Sim.region0 ?_
  refine SimI.run 1 [(5, .one (li .u64 0))] [] (by kernel_rfl) ?_
  refine SimI.done (by kernel_rfl) ?_
  refine SimE.thenN ?_
  refine Sim.seq ?_
  refine Sim.seq ?_
  refine Sim.region0 ?_
  refine SimI.run 1 [(6, .one (li .i64 0))] [] (by kernel_rfl) ?_
  refine SimI.done (by kernel_rfl) ?_
  refine SimE.thenN ?_
  refine Sim.block ?_
  refine Sim.loop ?_
  refine SimL.pre (ts := [0, 5, 6]) (os := []) [(0, .one (ls a0)), (5, .one (li .u64 0)), (6, .one (li .i64 0))] [] (by kernel_rfl) (by kernel_rfl) (by kernel_rfl) ?_
  exact F72_l7_ok n a0 (n + 8) 0 0


-- 53: vedette/vedetteref6.number
def F53_e : (Int × Int × Int) → PV × List (List Lf) := fun r => (.tup [.one (li .i64 r.1), .one (li .i64 r.2.1), .one (li .i64 r.2.2)], [])
def F53 (n : Nat) (a0 : ByteArray) (a1 : Int) (a2 : Int) : Option (Int × Int × Int) :=
  if 0 ≤ (a1 : Int) ∧ (a1 : Int) ≤ (a0.size : Int) then
    (F72 n (a0.extract a1.toNat a0.size)).bind fun (r1 : (Int × Int × Int)) =>
    if r1.2.2 != 0 then
      some (0, a1, r1.2.2)
    else
      if decide (a2 < r1.1) then
        some (IntKind.wrap .i64 (IntKind.wrap .i64 a2 + 1), IntKind.wrap .i64 (a1 + r1.2.1), 0)
      else
        some (IntKind.wrap .i64 r1.1, IntKind.wrap .i64 (a1 + r1.2.1), 0)
  else none
theorem F53_ok (n : Nat) (a0 : ByteArray) (a1 : Int) (a2 : Int) : ∀ r, F53 n a0 a1 a2 = some r → D 53 [.one (ls a0), .one (li .i64 a1), .one (li .u64 a2)] [] = some (F53_e r) := by
  refine fn_to (D := D) (n := n + 8) (nt := 38) (rs := pc53_r) (c := pc53_c23) (L := [(0, .one (ls a0)), (1, .one (li .i64 a1)), (2, .one (li .u64 a2))]) (M := []) (k := 0) rfl rfl rfl rfl rfl rfl ?_
  unfold F53
  refine Sim.seq ?_
  refine Sim.region0 ?_
  refine SimI.run 3 [(8, .one (li .i64 0)), (7, .one (li .i64 0)), (6, .one (li .i64 0))] [] (by kernel_rfl) ?_
  refine SimI.done (by kernel_rfl) ?_
  refine SimE.thenN ?_
  refine Sim.seq ?_
  refine Sim.region0 ?_
  refine SimI.run 2 [(14, .one (li .i64 a1)), (13, .one (ls a0))] [] (by kernel_rfl) ?_
  refine SimI.guard (c := 0 ≤ (a1 : Int) ∧ (a1 : Int) ≤ (a0.size : Int)) { dst := some 15, op := POp.prim (Prim.slice 9 true false) [Operand.tmp 13, Operand.tmp 14], guard := none, hints := [] } [(15, .one (ls (a0.extract a1.toNat a0.size)))] [] (by kernel_rfl) (fun hc => pOp_eff (by kernel_rfl) (by kernel_rfl) (eff_prim (by kernel_rfl) (pr_cutL (s := a0) (k := .i64) (a := a1) Try.underlying9 hc))) ?_
  refine SimI.bind (og := F72 n (a0.extract a1.toNat a0.size)) { dst := some 16, op := POp.call true [[]] 72 [Operand.tmp 15], guard := none, hints := [] } (fun r1 => [(16, .tup [.one (li .u64 r1.1), .one (li .i64 r1.2.1), .one (li .i64 r1.2.2)])]) (fun r1 => []) (by kernel_rfl) (fun r1 hr => pOp_eff (by kernel_rfl) (by kernel_rfl) (eff_call (ARGS := [.one (ls (a0.extract a1.toNat a0.size))]) (by kernel_rfl) (args_clean (by kernel_rfl) args_nil) (F72_ok n (a0.extract a1.toNat a0.size) r1 hr) (by kernel_rfl))) (fun r1 => ?_)
  refine SimI.run 7 [(11, .one (li .i64 r1.2.2)), (10, .one (li .i64 r1.2.1)), (9, .one (li .u64 r1.1)), (19, .one (li .i64 r1.2.2)), (18, .one (li .i64 r1.2.1)), (17, .one (li .u64 r1.1)), (12, .tup [.one (li .u64 r1.1), .one (li .i64 r1.2.1), .one (li .i64 r1.2.2)])] [] (by kernel_rfl) ?_
  refine SimI.done (by kernel_rfl) ?_
  refine SimE.thenN ?_
  refine Sim.seq ?_
  refine Sim.seq ?_
  refine Sim.region0 ?_
  refine SimI.run 2 [(21, .one (lb (r1.2.2 != 0))), (20, .one (li .i64 r1.2.2))] [] (by kernel_rfl) ?_
  refine SimI.done (by kernel_rfl) ?_
  refine SimE.thenN ?_
  refine Sim.cond (r1.2.2 != 0) (by kernel_rfl) ?_ ?_
  · refine Sim.seq ?_
    refine Sim.region0 ?_
    refine SimI.run 5 [(8, .one (li .i64 r1.2.2)), (7, .one (li .i64 a1)), (6, .one (li .i64 0)), (23, .one (li .i64 r1.2.2)), (22, .one (li .i64 a1))] [] (by kernel_rfl) ?_
    refine SimI.done (by kernel_rfl) ?_
    refine SimE.thenN ?_
    refine Sim.ret ?_
    refine SimE.thenR ?_
    exact SimE.fin (by kernel_rfl)
  · refine Sim.skip ?_
    refine SimE.thenN ?_
    refine Sim.seq ?_
    refine Sim.seq ?_
    refine Sim.region0 ?_
    refine SimI.run 3 [(26, .one (lb (decide (a2 < r1.1)))), (25, .one (li .u64 a2)), (24, .one (li .u64 r1.1))] [] (by kernel_rfl) ?_
    refine SimI.done (by kernel_rfl) ?_
    refine SimE.thenN ?_
    refine Sim.cond (decide (a2 < r1.1)) (by kernel_rfl) ?_ ?_
    · refine Sim.seq ?_
      refine Sim.region0 ?_
      refine SimI.run 9 [(8, .one (li .i64 0)), (7, .one (li .i64 (IntKind.wrap .i64 (a1 + r1.2.1)))), (6, .one (li .i64 (IntKind.wrap .i64 (IntKind.wrap .i64 a2 + 1)))), (32, .one (li .i64 (IntKind.wrap .i64 (a1 + r1.2.1)))), (31, .one (li .i64 r1.2.1)), (30, .one (li .i64 a1)), (29, .one (li .i64 (IntKind.wrap .i64 (IntKind.wrap .i64 a2 + 1)))), (28, .one (li .i64 (IntKind.wrap .i64 a2))), (27, .one (li .u64 a2))] [] (by kernel_rfl) ?_
      refine SimI.done (by kernel_rfl) ?_
      refine SimE.thenN ?_
      refine Sim.ret ?_
      refine SimE.thenR ?_
      exact SimE.fin (by kernel_rfl)
    · refine Sim.skip ?_
      refine SimE.thenN ?_
      refine Sim.seq ?_
      refine Sim.region0 ?_
      refine SimI.run 8 [(8, .one (li .i64 0)), (7, .one (li .i64 (IntKind.wrap .i64 (a1 + r1.2.1)))), (6, .one (li .i64 (IntKind.wrap .i64 r1.1))), (37, .one (li .i64 (IntKind.wrap .i64 (a1 + r1.2.1)))), (36, .one (li .i64 r1.2.1)), (35, .one (li .i64 a1)), (34, .one (li .i64 (IntKind.wrap .i64 r1.1))), (33, .one (li .u64 r1.1))] [] (by kernel_rfl) ?_
      refine SimI.done (by kernel_rfl) ?_
      refine SimE.thenN ?_
      refine Sim.ret ?_
      exact SimE.fin (by kernel_rfl)


-- 54: vedette/vedetteref1.Texts
def F54_e : (ByteArray × Int × Int) → PV × List (List Lf) := fun r => (.tup [.one (ls r.1), .one (li .i64 r.2.1), .one (li .i64 r.2.2)], [])
def F54 (n : Nat) (a0 : ByteArray) (a1 : Int) : Option (ByteArray × Int × Int) :=
  (F72 n a0).bind fun (r1 : (Int × Int × Int)) =>
  if r1.2.2 != 0 then
    some (ByteArray.empty, 0, r1.2.2)
  else
    if decide (IntKind.wrap .u64 (imax 0 a1) < r1.1) then
      some (ByteArray.empty, 0, 13)
    else
      if decide (IntKind.wrap .u64 (IntKind.wrap .i64 ((a0.size : Int) - r1.2.1)) < r1.1) then
        some (ByteArray.empty, 0, 10)
      else
        if 0 ≤ (r1.2.1 : Int) ∧ (r1.2.1 : Int) ≤ IntKind.wrap .i64 (r1.2.1 + IntKind.wrap .i64 r1.1) ∧ IntKind.wrap .i64 (r1.2.1 + IntKind.wrap .i64 r1.1) ≤ (a0.size : Int) then
          some (a0.extract r1.2.1.toNat (IntKind.wrap .i64 (r1.2.1 + IntKind.wrap .i64 r1.1)).toNat, IntKind.wrap .i64 (r1.2.1 + IntKind.wrap .i64 r1.1), 0)
        else none
theorem F54_ok (n : Nat) (a0 : ByteArray) (a1 : Int) : ∀ r, F54 n a0 a1 = some r → D 54 [.one (ls a0), .one (li .i64 a1)] [] = some (F54_e r) := by
  refine fn_to (D := D) (n := n + 8) (nt := 45) (rs := pc54_r) (c := pc54_c28) (L := [(0, .one (ls a0)), (1, .one (li .i64 a1))]) (M := []) (k := 0) rfl rfl rfl rfl rfl rfl ?_
  unfold F54
  refine Sim.seq ?_
  refine Sim.region0 ?_
  refine SimI.run 3 [(6, .one (li .i64 0)), (5, .one (li .i64 0)), (4, .one (ls ByteArray.empty))] [] (by kernel_rfl) ?_
  refine SimI.done (by kernel_rfl) ?_
  refine SimE.thenN ?_
  refine Sim.seq ?_
  refine Sim.region0 ?_
  refine SimI.run 1 [(11, .one (ls a0))] [] (by kernel_rfl) ?_
  refine SimI.bind (og := F72 n a0) { dst := some 12, op := POp.call true [[]] 72 [Operand.tmp 11], guard := none, hints := [] } (fun r1 => [(12, .tup [.one (li .u64 r1.1), .one (li .i64 r1.2.1), .one (li .i64 r1.2.2)])]) (fun r1 => []) (by kernel_rfl) (fun r1 hr => pOp_eff (by kernel_rfl) (by kernel_rfl) (eff_call (ARGS := [.one (ls a0)]) (by kernel_rfl) (args_clean (by kernel_rfl) args_nil) (F72_ok n a0 r1 hr) (by kernel_rfl))) (fun r1 => ?_)
  refine SimI.run 7 [(9, .one (li .i64 r1.2.2)), (8, .one (li .i64 r1.2.1)), (7, .one (li .u64 r1.1)), (15, .one (li .i64 r1.2.2)), (14, .one (li .i64 r1.2.1)), (13, .one (li .u64 r1.1)), (10, .tup [.one (li .u64 r1.1), .one (li .i64 r1.2.1), .one (li .i64 r1.2.2)])] [] (by kernel_rfl) ?_
  refine SimI.done (by kernel_rfl) ?_
  refine SimE.thenN ?_
  refine Sim.seq ?_
  refine Sim.block ?_
  refine Sim.seq ?_
  refine Sim.region0 ?_
  refine SimI.run 3 [(16, .one (lb (r1.2.2 != 0))), (18, .one (lb (r1.2.2 != 0))), (17, .one (li .i64 r1.2.2))] [] (by kernel_rfl) ?_
  refine SimI.done (by kernel_rfl) ?_
  refine SimE.thenN ?_
  refine Sim.cond (r1.2.2 != 0) (by kernel_rfl) ?_ ?_
  · refine Sim.seq ?_
    refine Sim.region0 ?_
    refine SimI.run 4 [(6, .one (li .i64 r1.2.2)), (5, .one (li .i64 0)), (4, .one (ls ByteArray.empty)), (19, .one (li .i64 r1.2.2))] [] (by kernel_rfl) ?_
    refine SimI.done (by kernel_rfl) ?_
    refine SimE.thenN ?_
    refine Sim.ret ?_
    refine SimE.blockR ?_
    refine SimE.thenR ?_
    exact SimE.fin (by kernel_rfl)
  · refine Sim.seq ?_
    refine Sim.region0 ?_
    refine SimI.run 6 [(20, .one (lb (decide (IntKind.wrap .u64 (imax 0 a1) < r1.1)))), (25, .one (lb (decide (IntKind.wrap .u64 (imax 0 a1) < r1.1)))), (24, .one (li .u64 (IntKind.wrap .u64 (imax 0 a1)))), (23, .one (li .i64 (imax 0 a1))), (22, .one (li .i64 a1)), (21, .one (li .u64 r1.1))] [] (by kernel_rfl) ?_
    refine SimI.done (by kernel_rfl) ?_
    refine SimE.thenN ?_
    refine Sim.cond (decide (IntKind.wrap .u64 (imax 0 a1) < r1.1)) (by kernel_rfl) ?_ ?_
    · refine Sim.seq ?_
      refine Sim.region0 ?_
      refine SimI.run 3 [(6, .one (li .i64 13)), (5, .one (li .i64 0)), (4, .one (ls ByteArray.empty))] [] (by kernel_rfl) ?_
      refine SimI.done (by kernel_rfl) ?_
      refine SimE.thenN ?_
      refine Sim.ret ?_
      refine SimE.blockR ?_
      refine SimE.thenR ?_
      exact SimE.fin (by kernel_rfl)
    · refine Sim.seq ?_
      refine Sim.region0 ?_
      refine SimI.run 8 [(26, .one (lb (decide (IntKind.wrap .u64 (IntKind.wrap .i64 ((a0.size : Int) - r1.2.1)) < r1.1)))), (33, .one (lb (decide (IntKind.wrap .u64 (IntKind.wrap .i64 ((a0.size : Int) - r1.2.1)) < r1.1)))), (32, .one (li .u64 (IntKind.wrap .u64 (IntKind.wrap .i64 ((a0.size : Int) - r1.2.1))))), (31, .one (li .i64 (IntKind.wrap .i64 ((a0.size : Int) - r1.2.1)))), (30, .one (li .i64 r1.2.1)), (29, .one (li .i64 (a0.size : Int))), (28, .one (ls a0)), (27, .one (li .u64 r1.1))] [] (by kernel_rfl) ?_
      refine SimI.done (by kernel_rfl) ?_
      refine SimE.thenN ?_
      refine Sim.cond (decide (IntKind.wrap .u64 (IntKind.wrap .i64 ((a0.size : Int) - r1.2.1)) < r1.1)) (by kernel_rfl) ?_ ?_
      · refine Sim.seq ?_
        refine Sim.region0 ?_
        refine SimI.run 3 [(6, .one (li .i64 10)), (5, .one (li .i64 0)), (4, .one (ls ByteArray.empty))] [] (by kernel_rfl) ?_
        refine SimI.done (by kernel_rfl) ?_
        refine SimE.thenN ?_
        refine Sim.ret ?_
        refine SimE.blockR ?_
        refine SimE.thenR ?_
        exact SimE.fin (by kernel_rfl)
      · refine Sim.skip ?_
        refine SimE.blockN ?_
        refine SimE.thenN ?_
        refine Sim.seq ?_
        refine Sim.region0 ?_
        refine SimI.run 6 [(39, .one (li .i64 (IntKind.wrap .i64 (r1.2.1 + IntKind.wrap .i64 r1.1)))), (38, .one (li .i64 (IntKind.wrap .i64 r1.1))), (37, .one (li .u64 r1.1)), (36, .one (li .i64 r1.2.1)), (35, .one (li .i64 r1.2.1)), (34, .one (ls a0))] [] (by kernel_rfl) ?_
        refine SimI.guard (c := 0 ≤ (r1.2.1 : Int) ∧ (r1.2.1 : Int) ≤ IntKind.wrap .i64 (r1.2.1 + IntKind.wrap .i64 r1.1) ∧ IntKind.wrap .i64 (r1.2.1 + IntKind.wrap .i64 r1.1) ≤ (a0.size : Int)) { dst := some 40, op := POp.prim (Prim.slice 9 true true) [Operand.tmp 34, Operand.tmp 35, Operand.tmp 39], guard := none, hints := [] } [(40, .one (ls (a0.extract r1.2.1.toNat (IntKind.wrap .i64 (r1.2.1 + IntKind.wrap .i64 r1.1)).toNat)))] [] (by kernel_rfl) (fun hc => pOp_eff (by kernel_rfl) (by kernel_rfl) (eff_prim (by kernel_rfl) (pr_cutS (s := a0) (k := .i64) (l := .i64) (a := r1.2.1) (b := IntKind.wrap .i64 (r1.2.1 + IntKind.wrap .i64 r1.1)) Try.underlying9 hc))) ?_
        refine SimI.run 7 [(6, .one (li .i64 0)), (5, .one (li .i64 (IntKind.wrap .i64 (r1.2.1 + IntKind.wrap .i64 r1.1)))), (4, .one (ls (a0.extract r1.2.1.toNat (IntKind.wrap .i64 (r1.2.1 + IntKind.wrap .i64 r1.1)).toNat))), (44, .one (li .i64 (IntKind.wrap .i64 (r1.2.1 + IntKind.wrap .i64 r1.1)))), (43, .one (li .i64 (IntKind.wrap .i64 r1.1))), (42, .one (li .u64 r1.1)), (41, .one (li .i64 r1.2.1))] [] (by kernel_rfl) ?_
        refine SimI.done (by kernel_rfl) ?_
        refine SimE.thenN ?_
        refine Sim.ret ?_
        exact SimE.fin (by kernel_rfl)


-- 73: vedette/vedetteref1.Zag
def F73_e : Int → PV × List (List Lf) := fun r => (.one (li .i64 r), [])
def F73 (n : Nat) (a0 : Int) : Option Int :=
  some (bitsI .xor .i64 (IntKind.wrap .i64 (shrI .u64 a0 1)) (IntKind.wrap .i64 (0 - (IntKind.wrap .i64 (bitsI .and .u64 a0 1)))))
theorem F73_ok (n : Nat) (a0 : Int) : ∀ r, F73 n a0 = some r → D 73 [.one (li .u64 a0)] [] = some (F73_e r) := by
  refine fn_to (D := D) (n := n + 8) (nt := 11) (rs := pc73_r) (c := pc73_c5) (L := [(0, .one (li .u64 a0))]) (M := []) (k := 0) rfl rfl rfl rfl rfl rfl ?_
  unfold F73
  refine Sim.seq ?_
  refine Sim.region0 ?_
  refine SimI.run 1 [(2, .one (li .i64 0))] [] (by kernel_rfl) ?_
  refine SimI.done (by kernel_rfl) ?_
  refine SimE.thenN ?_
  refine Sim.seq ?_
  refine Sim.region0 ?_
  refine SimI.run 9 [(2, .one (li .i64 (bitsI .xor .i64 (IntKind.wrap .i64 (shrI .u64 a0 1)) (IntKind.wrap .i64 (0 - (IntKind.wrap .i64 (bitsI .and .u64 a0 1))))))), (10, .one (li .i64 (bitsI .xor .i64 (IntKind.wrap .i64 (shrI .u64 a0 1)) (IntKind.wrap .i64 (0 - (IntKind.wrap .i64 (bitsI .and .u64 a0 1))))))), (9, .one (li .i64 (IntKind.wrap .i64 (0 - (IntKind.wrap .i64 (bitsI .and .u64 a0 1)))))), (8, .one (li .i64 (IntKind.wrap .i64 (bitsI .and .u64 a0 1)))), (7, .one (li .u64 (bitsI .and .u64 a0 1))), (6, .one (li .u64 a0)), (5, .one (li .i64 (IntKind.wrap .i64 (shrI .u64 a0 1)))), (4, .one (li .u64 (shrI .u64 a0 1))), (3, .one (li .u64 a0))] [] (by kernel_rfl) ?_
  refine SimI.done (by kernel_rfl) ?_
  refine SimE.thenN ?_
  refine Sim.ret ?_
  exact SimE.fin (by kernel_rfl)


-- 55: vedette/vedetteref1.Ints
def F55_e : (Int × Int × Int) → PV × List (List Lf) := fun r => (.tup [.one (li .i64 r.1), .one (li .i64 r.2.1), .one (li .i64 r.2.2)], [])
def F55 (n : Nat) (a0 : ByteArray) : Option (Int × Int × Int) :=
  (F72 n a0).bind fun (r1 : (Int × Int × Int)) =>
  (F73 n r1.1).bind fun (r2 : Int) =>
  some (r2, r1.2.1, r1.2.2)
theorem F55_ok (n : Nat) (a0 : ByteArray) : ∀ r, F55 n a0 = some r → D 55 [.one (ls a0)] [] = some (F55_e r) := by
  refine fn_to (D := D) (n := n + 8) (nt := 18) (rs := pc55_r) (c := pc55_c7) (L := [(0, .one (ls a0))]) (M := []) (k := 0) rfl rfl rfl rfl rfl rfl ?_
  unfold F55
  refine Sim.seq ?_
  refine Sim.region0 ?_
  refine SimI.run 3 [(4, .one (li .i64 0)), (3, .one (li .i64 0)), (2, .one (li .i64 0))] [] (by kernel_rfl) ?_
  refine SimI.done (by kernel_rfl) ?_
  refine SimE.thenN ?_
  refine Sim.seq ?_
  refine Sim.region0 ?_
  refine SimI.run 1 [(9, .one (ls a0))] [] (by kernel_rfl) ?_
  refine SimI.bind (og := F72 n a0) { dst := some 10, op := POp.call true [[]] 72 [Operand.tmp 9], guard := none, hints := [] } (fun r1 => [(10, .tup [.one (li .u64 r1.1), .one (li .i64 r1.2.1), .one (li .i64 r1.2.2)])]) (fun r1 => []) (by kernel_rfl) (fun r1 hr => pOp_eff (by kernel_rfl) (by kernel_rfl) (eff_call (ARGS := [.one (ls a0)]) (by kernel_rfl) (args_clean (by kernel_rfl) args_nil) (F72_ok n a0 r1 hr) (by kernel_rfl))) (fun r1 => ?_)
  refine SimI.run 7 [(7, .one (li .i64 r1.2.2)), (6, .one (li .i64 r1.2.1)), (5, .one (li .u64 r1.1)), (13, .one (li .i64 r1.2.2)), (12, .one (li .i64 r1.2.1)), (11, .one (li .u64 r1.1)), (8, .tup [.one (li .u64 r1.1), .one (li .i64 r1.2.1), .one (li .i64 r1.2.2)])] [] (by kernel_rfl) ?_
  refine SimI.done (by kernel_rfl) ?_
  refine SimE.thenN ?_
  refine Sim.seq ?_
  refine Sim.region0 ?_
  refine SimI.run 1 [(14, .one (li .u64 r1.1))] [] (by kernel_rfl) ?_
  refine SimI.bind (og := F73 n r1.1) { dst := some 15, op := POp.call true [[]] 73 [Operand.tmp 14], guard := none, hints := [] } (fun r2 => [(15, .one (li .i64 r2))]) (fun r2 => []) (by kernel_rfl) (fun r2 hr => pOp_eff (by kernel_rfl) (by kernel_rfl) (eff_call (ARGS := [.one (li .u64 r1.1)]) (by kernel_rfl) (args_clean (by kernel_rfl) args_nil) (F73_ok n r1.1 r2 hr) (by kernel_rfl))) (fun r2 => ?_)
  refine SimI.run 5 [(4, .one (li .i64 r1.2.2)), (3, .one (li .i64 r1.2.1)), (2, .one (li .i64 r2)), (17, .one (li .i64 r1.2.2)), (16, .one (li .i64 r1.2.1))] [] (by kernel_rfl) ?_
  refine SimI.done (by kernel_rfl) ?_
  refine SimE.thenN ?_
  refine Sim.ret ?_
  exact SimE.fin (by kernel_rfl)


end Go.Proofs.Ythmbegagkgdopaa
