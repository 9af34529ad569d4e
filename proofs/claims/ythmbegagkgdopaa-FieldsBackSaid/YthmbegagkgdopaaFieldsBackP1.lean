/-
  Functions of the program as functions of Lean. No condition.
-/
import Derived.Test.YthmbegagkgdopaaFieldsBackP0
namespace Go.Proofs.Ythmbegagkgdopaa
open Go Go.Rx
set_option maxRecDepth 100000
set_option linter.unusedVariables false
set_option linter.unusedSimpArgs false
set_option linter.unnecessarySimpa false
-- 29: vedette/fields.Read
def F29_e : (Delta × Int × Int) → PV × List (List Lf) := fun r => (.tup [.agg [li .i64 r.1.ID, li .u8 r.1.Mask, li .i64 r.1.At.X, li .i64 r.1.At.Y, li .i64 r.1.F.a0.N, ls r.1.F.a0.Text, li .i64 r.1.F.a1.N, ls r.1.F.a1.Text, li .i64 r.1.F.a2.N, ls r.1.F.a2.Text, li .i64 r.1.F.a3.N, ls r.1.F.a3.Text], .one (li .i64 r.2.1), .one (li .i64 r.2.2)], [])
def F29_j49 (n : Nat) (r1 : (Int × Reader)) (r2 : (Int × Reader)) (r4 : (Int × Reader)) (r5 : (Int × Reader)) (i38 : Int) (s39 : ByteArray) (i40 : Int) (s41 : ByteArray) (i42 : Int) (s43 : ByteArray) (i44 : Int) (s45 : ByteArray) (s46 : ByteArray) (i47 : Int) (i48 : Int) : Option (Delta × Int × Int) :=
    if i48 != 0 then
      some ((Delta.mk 0 0 (Point.mk 0 0) (A4.mk (Field.mk 0 ByteArray.empty) (Field.mk 0 ByteArray.empty) (Field.mk 0 ByteArray.empty) (Field.mk 0 ByteArray.empty))), 0, i48)
    else
      (F25 n (Delta.mk r1.1 (IntKind.wrap .u8 r2.1) (Point.mk r4.1 r5.1) (A4.mk (Field.mk i38 s39) (Field.mk i40 s41) (Field.mk i42 s43) (Field.mk i44 s45)))).bind fun (r50 : Bool) =>
      if !(r50) then
        some ((Delta.mk 0 0 (Point.mk 0 0) (A4.mk (Field.mk 0 ByteArray.empty) (Field.mk 0 ByteArray.empty) (Field.mk 0 ByteArray.empty) (Field.mk 0 ByteArray.empty))), 0, 11)
      else
        some ((Delta.mk r1.1 (IntKind.wrap .u8 r2.1) (Point.mk r4.1 r5.1) (A4.mk (Field.mk i38 s39) (Field.mk i40 s41) (Field.mk i42 s43) (Field.mk i44 s45))), i47, 0)
theorem F29_j49_ok (n : Nat) (r1 : (Int × Reader)) (r2 : (Int × Reader)) (r4 : (Int × Reader)) (r5 : (Int × Reader)) (i38 : Int) (s39 : ByteArray) (i40 : Int) (s41 : ByteArray) (i42 : Int) (s43 : ByteArray) (i44 : Int) (s45 : ByteArray) (s46 : ByteArray) (i47 : Int) (i48 : Int) : Sim Try.prog D (n + 8) pc29_c65 [(2, .one (.ptr 2 0)), (5, .one (.ptr 11 0)), (6, .one (.ptr 6 0))] ((2, some (.cells [li .i64 0, li .u8 0, li .i64 0, li .i64 0, li .i64 0, ls ByteArray.empty, li .i64 0, ls ByteArray.empty, li .i64 0, ls ByteArray.empty, li .i64 0, ls ByteArray.empty])) :: ((6, some (.cells [li .i64 r1.1, li .u8 (IntKind.wrap .u8 r2.1), li .i64 r4.1, li .i64 r5.1, li .i64 i38, ls s39, li .i64 i40, ls s41, li .i64 i42, ls s43, li .i64 i44, ls s45])) :: ((11, some (.cells [ls s46, li .i64 i47, li .i64 i48])) :: []))) (F29_j49 n r1 r2 r4 r5 i38 s39 i40 s41 i42 s43 i44 s45 s46 i47 i48) (QF pc29_r 0 F29_e) := by
    unfold F29_j49
    refine Sim.seq ?_
    refine Sim.seq ?_
    refine Sim.region [(2, .one (.ptr 2 0)), (5, .one (.ptr 11 0)), (6, .one (.ptr 6 0))] ((2, some (.cells [li .i64 0, li .u8 0, li .i64 0, li .i64 0, li .i64 0, ls ByteArray.empty, li .i64 0, ls ByteArray.empty, li .i64 0, ls ByteArray.empty, li .i64 0, ls ByteArray.empty])) :: ((6, some (.cells [li .i64 r1.1, li .u8 (IntKind.wrap .u8 r2.1), li .i64 r4.1, li .i64 r5.1, li .i64 i38, ls s39, li .i64 i40, ls s41, li .i64 i42, ls s43, li .i64 i44, ls s45])) :: ((11, some (.cells [ls s46, li .i64 i47, li .i64 i48])) :: []))) (by kernel_rfl) ?_
    refine SimI.run 5 [(75, .one (lb (i48 != 0))), (74, .one (li .i64 i48)), (73, .one (.ptr 11 2)), (72, .one (.ptr 11 0)), (71, .one (.ptr 11 0))] [] (by kernel_rfl) ?_
    refine SimI.done (by kernel_rfl) ?_
    refine SimE.thenN ?_
    refine Sim.cond (i48 != 0) (by kernel_rfl) ?_ ?_
    · refine Sim.seq ?_
      refine Sim.region0 ?_
      refine SimI.run 8 [(4, .one (li .i64 i48)), (3, .one (li .i64 0)), (80, .one (li .i64 i48)), (79, .one (.ptr 11 2)), (78, .one (.ptr 11 0)), (77, .one (.ptr 11 0)), (76, .agg [li .i64 0, li .u8 0, li .i64 0, li .i64 0, li .i64 0, ls ByteArray.empty, li .i64 0, ls ByteArray.empty, li .i64 0, ls ByteArray.empty, li .i64 0, ls ByteArray.empty])] [(2, some (.cells [li .i64 0, li .u8 0, li .i64 0, li .i64 0, li .i64 0, ls ByteArray.empty, li .i64 0, ls ByteArray.empty, li .i64 0, ls ByteArray.empty, li .i64 0, ls ByteArray.empty]))] (by kernel_rfl) ?_
      refine SimI.done (by kernel_rfl) ?_
      refine SimE.thenN ?_
      refine Sim.ret ?_
      refine SimE.thenR ?_
      exact SimE.fin (by kernel_rfl)
    · refine Sim.skip ?_
      refine SimE.thenN ?_
      refine Sim.seq ?_
      refine Sim.seq ?_
      refine Sim.region0 ?_
      refine SimI.run 1 [(81, .agg [li .i64 r1.1, li .u8 (IntKind.wrap .u8 r2.1), li .i64 r4.1, li .i64 r5.1, li .i64 i38, ls s39, li .i64 i40, ls s41, li .i64 i42, ls s43, li .i64 i44, ls s45])] [] (by kernel_rfl) ?_
      refine SimI.bind (og := F25 n (Delta.mk r1.1 (IntKind.wrap .u8 r2.1) (Point.mk r4.1 r5.1) (A4.mk (Field.mk i38 s39) (Field.mk i40 s41) (Field.mk i42 s43) (Field.mk i44 s45)))) { dst := some 82, op := POp.call true [[]] 25 [Operand.tmp 81], guard := none, hints := [] } (fun r50 => [(82, .one (lb r50))]) (fun r50 => []) (by kernel_rfl) (fun r50 hr => pOp_eff (by kernel_rfl) (by kernel_rfl) (eff_call (ARGS := [.agg [li .i64 r1.1, li .u8 (IntKind.wrap .u8 r2.1), li .i64 r4.1, li .i64 r5.1, li .i64 i38, ls s39, li .i64 i40, ls s41, li .i64 i42, ls s43, li .i64 i44, ls s45]]) (by kernel_rfl) (args_clean (by kernel_rfl) args_nil) (F25_ok n (Delta.mk r1.1 (IntKind.wrap .u8 r2.1) (Point.mk r4.1 r5.1) (A4.mk (Field.mk i38 s39) (Field.mk i40 s41) (Field.mk i42 s43) (Field.mk i44 s45))) r50 hr) (by kernel_rfl))) (fun r50 => ?_)
      refine SimI.run 1 [(83, .one (lb (!(r50))))] [] (by kernel_rfl) ?_
      refine SimI.done (by kernel_rfl) ?_
      refine SimE.thenN ?_
      refine Sim.cond (!(r50)) (by kernel_rfl) ?_ ?_
      · refine Sim.seq ?_
        refine Sim.region0 ?_
        refine SimI.run 4 [(4, .one (li .i64 11)), (3, .one (li .i64 0)), (84, .agg [li .i64 0, li .u8 0, li .i64 0, li .i64 0, li .i64 0, ls ByteArray.empty, li .i64 0, ls ByteArray.empty, li .i64 0, ls ByteArray.empty, li .i64 0, ls ByteArray.empty])] [(2, some (.cells [li .i64 0, li .u8 0, li .i64 0, li .i64 0, li .i64 0, ls ByteArray.empty, li .i64 0, ls ByteArray.empty, li .i64 0, ls ByteArray.empty, li .i64 0, ls ByteArray.empty]))] (by kernel_rfl) ?_
        refine SimI.done (by kernel_rfl) ?_
        refine SimE.thenN ?_
        refine Sim.ret ?_
        refine SimE.thenR ?_
        exact SimE.fin (by kernel_rfl)
      · refine Sim.skip ?_
        refine SimE.thenN ?_
        refine Sim.seq ?_
        refine Sim.region0 ?_
        refine SimI.run 8 [(4, .one (li .i64 0)), (3, .one (li .i64 i47)), (89, .one (li .i64 i47)), (88, .one (.ptr 11 1)), (87, .one (.ptr 11 0)), (86, .one (.ptr 11 0)), (85, .agg [li .i64 r1.1, li .u8 (IntKind.wrap .u8 r2.1), li .i64 r4.1, li .i64 r5.1, li .i64 i38, ls s39, li .i64 i40, ls s41, li .i64 i42, ls s43, li .i64 i44, ls s45])] [(2, some (.cells [li .i64 r1.1, li .u8 (IntKind.wrap .u8 r2.1), li .i64 r4.1, li .i64 r5.1, li .i64 i38, ls s39, li .i64 i40, ls s41, li .i64 i42, ls s43, li .i64 i44, ls s45]))] (by kernel_rfl) ?_
        refine SimI.done (by kernel_rfl) ?_
        refine SimE.thenN ?_
        refine Sim.ret ?_
        exact SimE.fin (by kernel_rfl)

def F29_u37 (n : Nat) (r1 : (Int × Reader)) (r2 : (Int × Reader)) (r4 : (Int × Reader)) (r5 : (Int × Reader)) (ii8 : Int) (s9 : ByteArray) (ii16 : Int) (s17 : ByteArray) (i24 : Int) (s25 : ByteArray) (ii32 : Int) (s33 : ByteArray) (s34 : ByteArray) (i35 : Int) (i36 : Int) : Option (Delta × Int × Int) :=
    F29_j49 n r1 r2 r4 r5 ii8 s9 ii16 s17 i24 s25 ii32 s33 s34 i35 i36
theorem F29_u37_ok (n : Nat) (r1 : (Int × Reader)) (r2 : (Int × Reader)) (r4 : (Int × Reader)) (r5 : (Int × Reader)) (ii8 : Int) (s9 : ByteArray) (ii16 : Int) (s17 : ByteArray) (i24 : Int) (s25 : ByteArray) (ii32 : Int) (s33 : ByteArray) (s34 : ByteArray) (i35 : Int) (i36 : Int) : SimL Try.prog D (n + 8) (n + 4) pc29_c43 [(2, .one (.ptr 2 0)), (5, .one (.ptr 11 0)), (6, .one (.ptr 6 0)), (51, .one (li .i64 4))] ((2, some (.cells [li .i64 0, li .u8 0, li .i64 0, li .i64 0, li .i64 0, ls ByteArray.empty, li .i64 0, ls ByteArray.empty, li .i64 0, ls ByteArray.empty, li .i64 0, ls ByteArray.empty])) :: ((6, some (.cells [li .i64 r1.1, li .u8 (IntKind.wrap .u8 r2.1), li .i64 r4.1, li .i64 r5.1, li .i64 ii8, ls s9, li .i64 ii16, ls s17, li .i64 i24, ls s25, li .i64 ii32, ls s33])) :: ((11, some (.cells [ls s34, li .i64 i35, li .i64 i36])) :: []))) (F29_u37 n r1 r2 r4 r5 ii8 s9 ii16 s17 i24 s25 ii32 s33 s34 i35 i36) (QB 0 (QT Try.prog D (n + 8) pc29_c65 (QF pc29_r 0 F29_e))) := by
    unfold F29_u37
    refine SimL.succ ?_
    refine Sim.seq ?_
    refine Sim.region [(2, .one (.ptr 2 0)), (5, .one (.ptr 11 0)), (6, .one (.ptr 6 0)), (51, .one (li .i64 4))] ((2, some (.cells [li .i64 0, li .u8 0, li .i64 0, li .i64 0, li .i64 0, ls ByteArray.empty, li .i64 0, ls ByteArray.empty, li .i64 0, ls ByteArray.empty, li .i64 0, ls ByteArray.empty])) :: ((6, some (.cells [li .i64 r1.1, li .u8 (IntKind.wrap .u8 r2.1), li .i64 r4.1, li .i64 r5.1, li .i64 ii8, ls s9, li .i64 ii16, ls s17, li .i64 i24, ls s25, li .i64 ii32, ls s33])) :: ((11, some (.cells [ls s34, li .i64 i35, li .i64 i36])) :: []))) (by kernel_rfl) ?_
    refine SimI.run 1 [(52, .one (lb false))] [] (by kernel_rfl) ?_
    refine SimI.done (by kernel_rfl) ?_
    refine SimE.thenN ?_
    refine Sim.seq ?_
    refine Sim.condF (by kernel_rfl) ?_
    refine Sim.exit ?_
    refine SimE.thenX ?_
    refine SimE.loopX ?_
    refine SimE.blockX ?_
    refine SimE.thenN ?_
    refine Sim.pre (ts := [2, 5, 6]) (os := [2, 6, 11]) [(2, .one (.ptr 2 0)), (5, .one (.ptr 11 0)), (6, .one (.ptr 6 0))] ((2, some (.cells [li .i64 0, li .u8 0, li .i64 0, li .i64 0, li .i64 0, ls ByteArray.empty, li .i64 0, ls ByteArray.empty, li .i64 0, ls ByteArray.empty, li .i64 0, ls ByteArray.empty])) :: ((6, some (.cells [li .i64 r1.1, li .u8 (IntKind.wrap .u8 r2.1), li .i64 r4.1, li .i64 r5.1, li .i64 ii8, ls s9, li .i64 ii16, ls s17, li .i64 i24, ls s25, li .i64 ii32, ls s33])) :: ((11, some (.cells [ls s34, li .i64 i35, li .i64 i36])) :: []))) (by kernel_rfl) (by kernel_rfl) (by kernel_rfl) ?_
    exact F29_j49_ok n r1 r2 r4 r5 ii8 s9 ii16 s17 i24 s25 ii32 s33 s34 i35 i36

def F29_u29 (n : Nat) (r1 : (Int × Reader)) (r2 : (Int × Reader)) (r4 : (Int × Reader)) (r5 : (Int × Reader)) (ii8 : Int) (s9 : ByteArray) (ii16 : Int) (s17 : ByteArray) (i24 : Int) (s25 : ByteArray) (s26 : ByteArray) (i27 : Int) (i28 : Int) : Option (Delta × Int × Int) :=
    if i28 != 0 then
      F29_j49 n r1 r2 r4 r5 ii8 s9 ii16 s17 i24 s25 0 ByteArray.empty s26 i27 i28
    else
      (F43 n (IntKind.wrap .u8 r2.1) 3).bind fun (r30 : Bool) =>
      if r30 then
        (F52 n (Reader.mk s26 i27 i28)).bind fun (r31 : (Field × Reader)) =>
        F29_u37 n r1 r2 r4 r5 ii8 s9 ii16 s17 i24 s25 r31.1.N r31.1.Text r31.2.s r31.2.at_ r31.2.e
      else
        F29_u37 n r1 r2 r4 r5 ii8 s9 ii16 s17 i24 s25 0 ByteArray.empty s26 i27 i28
theorem F29_u29_ok (n : Nat) (r1 : (Int × Reader)) (r2 : (Int × Reader)) (r4 : (Int × Reader)) (r5 : (Int × Reader)) (ii8 : Int) (s9 : ByteArray) (ii16 : Int) (s17 : ByteArray) (i24 : Int) (s25 : ByteArray) (s26 : ByteArray) (i27 : Int) (i28 : Int) : SimL Try.prog D (n + 8) (n + 5) pc29_c43 [(2, .one (.ptr 2 0)), (5, .one (.ptr 11 0)), (6, .one (.ptr 6 0)), (51, .one (li .i64 3))] ((2, some (.cells [li .i64 0, li .u8 0, li .i64 0, li .i64 0, li .i64 0, ls ByteArray.empty, li .i64 0, ls ByteArray.empty, li .i64 0, ls ByteArray.empty, li .i64 0, ls ByteArray.empty])) :: ((6, some (.cells [li .i64 r1.1, li .u8 (IntKind.wrap .u8 r2.1), li .i64 r4.1, li .i64 r5.1, li .i64 ii8, ls s9, li .i64 ii16, ls s17, li .i64 i24, ls s25, li .i64 0, ls ByteArray.empty])) :: ((11, some (.cells [ls s26, li .i64 i27, li .i64 i28])) :: []))) (F29_u29 n r1 r2 r4 r5 ii8 s9 ii16 s17 i24 s25 s26 i27 i28) (QB 0 (QT Try.prog D (n + 8) pc29_c65 (QF pc29_r 0 F29_e))) := by
    unfold F29_u29
    refine SimL.succ ?_
    refine Sim.seq ?_
    refine Sim.region [(2, .one (.ptr 2 0)), (5, .one (.ptr 11 0)), (6, .one (.ptr 6 0)), (51, .one (li .i64 3))] ((2, some (.cells [li .i64 0, li .u8 0, li .i64 0, li .i64 0, li .i64 0, ls ByteArray.empty, li .i64 0, ls ByteArray.empty, li .i64 0, ls ByteArray.empty, li .i64 0, ls ByteArray.empty])) :: ((6, some (.cells [li .i64 r1.1, li .u8 (IntKind.wrap .u8 r2.1), li .i64 r4.1, li .i64 r5.1, li .i64 ii8, ls s9, li .i64 ii16, ls s17, li .i64 i24, ls s25, li .i64 0, ls ByteArray.empty])) :: ((11, some (.cells [ls s26, li .i64 i27, li .i64 i28])) :: []))) (by kernel_rfl) ?_
    refine SimI.run 1 [(52, .one (lb true))] [] (by kernel_rfl) ?_
    refine SimI.done (by kernel_rfl) ?_
    refine SimE.thenN ?_
    refine Sim.seq ?_
    refine Sim.condT (by kernel_rfl) ?_
    refine Sim.skip ?_
    refine SimE.thenN ?_
    refine Sim.seq ?_
    refine Sim.block ?_
    refine Sim.seq ?_
    refine Sim.region0 ?_
    refine SimI.run 2 [(8, .one (li .i64 3)), (53, .one (li .i64 3))] [] (by kernel_rfl) ?_
    refine SimI.done (by kernel_rfl) ?_
    refine SimE.thenN ?_
    refine Sim.block ?_
    refine Sim.seq ?_
    refine Sim.region0 ?_
    refine SimI.run 6 [(54, .one (lb (i28 != 0))), (59, .one (lb (i28 != 0))), (58, .one (li .i64 i28)), (57, .one (.ptr 11 2)), (56, .one (.ptr 11 0)), (55, .one (.ptr 11 0))] [] (by kernel_rfl) ?_
    refine SimI.done (by kernel_rfl) ?_
    refine SimE.thenN ?_
    refine Sim.cond (i28 != 0) (by kernel_rfl) ?_ ?_
    · refine Sim.exit ?_
      refine SimE.blockY rfl ?_
      refine SimE.blockY rfl ?_
      refine SimE.thenX ?_
      refine SimE.loopX ?_
      refine SimE.blockX ?_
      refine SimE.thenN ?_
      refine Sim.pre (ts := [2, 5, 6]) (os := [2, 6, 11]) [(2, .one (.ptr 2 0)), (5, .one (.ptr 11 0)), (6, .one (.ptr 6 0))] ((2, some (.cells [li .i64 0, li .u8 0, li .i64 0, li .i64 0, li .i64 0, ls ByteArray.empty, li .i64 0, ls ByteArray.empty, li .i64 0, ls ByteArray.empty, li .i64 0, ls ByteArray.empty])) :: ((6, some (.cells [li .i64 r1.1, li .u8 (IntKind.wrap .u8 r2.1), li .i64 r4.1, li .i64 r5.1, li .i64 ii8, ls s9, li .i64 ii16, ls s17, li .i64 i24, ls s25, li .i64 0, ls ByteArray.empty])) :: ((11, some (.cells [ls s26, li .i64 i27, li .i64 i28])) :: []))) (by kernel_rfl) (by kernel_rfl) (by kernel_rfl) ?_
      exact F29_j49_ok n r1 r2 r4 r5 ii8 s9 ii16 s17 i24 s25 0 ByteArray.empty s26 i27 i28
    · refine Sim.seq ?_
      refine Sim.region0 ?_
      refine SimI.run 3 [(63, .one (li .i64 3)), (62, .one (li .u8 (IntKind.wrap .u8 r2.1))), (61, .one (.ptr 6 1))] [] (by kernel_rfl) ?_
      refine SimI.bind (og := F43 n (IntKind.wrap .u8 r2.1) 3) { dst := some 64, op := POp.call true [[], []] 43 [Operand.tmp 62, Operand.tmp 63], guard := none, hints := [] } (fun r30 => [(64, .one (lb r30))]) (fun r30 => []) (by kernel_rfl) (fun r30 hr => pOp_eff (by kernel_rfl) (by kernel_rfl) (eff_call (ARGS := [.one (li .u8 (IntKind.wrap .u8 r2.1)), .one (li .i64 3)]) (by kernel_rfl) (args_clean (by kernel_rfl) (args_clean (by kernel_rfl) args_nil)) (F43_ok n (IntKind.wrap .u8 r2.1) 3 r30 hr) (by kernel_rfl))) (fun r30 => ?_)
      refine SimI.run 1 [(60, .one (lb r30))] [] (by kernel_rfl) ?_
      refine SimI.done (by kernel_rfl) ?_
      refine SimE.thenN ?_
      refine Sim.cond r30 (by kernel_rfl) ?_ ?_
      · refine Sim.region0 ?_
        refine SimI.run 2 [(66, .one (.ptr 11 0)), (65, .one (li .i64 3))] [] (by kernel_rfl) ?_
        refine SimI.bind (og := F52 n (Reader.mk s26 i27 i28)) { dst := some 67, op := POp.call true [[]] 52 [Operand.tmp 66], guard := none, hints := [] } (fun r31 => [(67, .agg [li .i64 r31.1.N, ls r31.1.Text])]) (fun r31 => [(11, some (.cells [ls r31.2.s, li .i64 r31.2.at_, li .i64 r31.2.e]))]) (by kernel_rfl) (fun r31 hr => pOp_eff (by kernel_rfl) (by kernel_rfl) (eff_callp (ARGS := [.one (.ptr 11 0)]) (ARGS' := [.one (.ptr 1000000 0)]) (ks := [11]) (os := [[ls s26, li .i64 i27, li .i64 i28]]) (os' := [[ls r31.2.s, li .i64 r31.2.at_, li .i64 r31.2.e]]) (by kernel_rfl) (args_ptr (by kernel_rfl) args_nil) rfl (by kernel_rfl) (F52_ok n (Reader.mk s26 i27 i28) r31 hr) (by kernel_rfl) (by kernel_rfl))) (fun r31 => ?_)
        refine SimI.run 3 [(69, .one (.ptr 6 10)), (68, .one (.ptr 6 4))] [(6, some (.cells [li .i64 r1.1, li .u8 (IntKind.wrap .u8 r2.1), li .i64 r4.1, li .i64 r5.1, li .i64 ii8, ls s9, li .i64 ii16, ls s17, li .i64 i24, ls s25, li .i64 r31.1.N, ls r31.1.Text]))] (by kernel_rfl) ?_
        refine SimI.done (by kernel_rfl) ?_
        refine SimE.blockN ?_
        refine SimE.blockN ?_
        refine SimE.thenN ?_
        refine Sim.region0 ?_
        refine SimI.run 2 [(51, .one (li .i64 4)), (70, .one (li .i64 4))] [] (by kernel_rfl) ?_
        refine SimI.done (by kernel_rfl) ?_
        refine SimE.loopN ?_
        refine SimL.pre (ts := [2, 5, 6, 51]) (os := [2, 6, 11]) [(2, .one (.ptr 2 0)), (5, .one (.ptr 11 0)), (6, .one (.ptr 6 0)), (51, .one (li .i64 4))] ((2, some (.cells [li .i64 0, li .u8 0, li .i64 0, li .i64 0, li .i64 0, ls ByteArray.empty, li .i64 0, ls ByteArray.empty, li .i64 0, ls ByteArray.empty, li .i64 0, ls ByteArray.empty])) :: ((6, some (.cells [li .i64 r1.1, li .u8 (IntKind.wrap .u8 r2.1), li .i64 r4.1, li .i64 r5.1, li .i64 ii8, ls s9, li .i64 ii16, ls s17, li .i64 i24, ls s25, li .i64 r31.1.N, ls r31.1.Text])) :: ((11, some (.cells [ls r31.2.s, li .i64 r31.2.at_, li .i64 r31.2.e])) :: []))) (by kernel_rfl) (by kernel_rfl) (by kernel_rfl) ?_
        exact F29_u37_ok n r1 r2 r4 r5 ii8 s9 ii16 s17 i24 s25 r31.1.N r31.1.Text r31.2.s r31.2.at_ r31.2.e
      · refine Sim.skip ?_
        refine SimE.blockN ?_
        refine SimE.blockN ?_
        refine SimE.thenN ?_
        refine Sim.region0 ?_
        refine SimI.run 2 [(51, .one (li .i64 4)), (70, .one (li .i64 4))] [] (by kernel_rfl) ?_
        refine SimI.done (by kernel_rfl) ?_
        refine SimE.loopN ?_
        refine SimL.pre (ts := [2, 5, 6, 51]) (os := [2, 6, 11]) [(2, .one (.ptr 2 0)), (5, .one (.ptr 11 0)), (6, .one (.ptr 6 0)), (51, .one (li .i64 4))] ((2, some (.cells [li .i64 0, li .u8 0, li .i64 0, li .i64 0, li .i64 0, ls ByteArray.empty, li .i64 0, ls ByteArray.empty, li .i64 0, ls ByteArray.empty, li .i64 0, ls ByteArray.empty])) :: ((6, some (.cells [li .i64 r1.1, li .u8 (IntKind.wrap .u8 r2.1), li .i64 r4.1, li .i64 r5.1, li .i64 ii8, ls s9, li .i64 ii16, ls s17, li .i64 i24, ls s25, li .i64 0, ls ByteArray.empty])) :: ((11, some (.cells [ls s26, li .i64 i27, li .i64 i28])) :: []))) (by kernel_rfl) (by kernel_rfl) (by kernel_rfl) ?_
        exact F29_u37_ok n r1 r2 r4 r5 ii8 s9 ii16 s17 i24 s25 0 ByteArray.empty s26 i27 i28

def F29_u21 (n : Nat) (r1 : (Int × Reader)) (r2 : (Int × Reader)) (r4 : (Int × Reader)) (r5 : (Int × Reader)) (ii8 : Int) (s9 : ByteArray) (ii16 : Int) (s17 : ByteArray) (s18 : ByteArray) (i19 : Int) (i20 : Int) : Option (Delta × Int × Int) :=
    if i20 != 0 then
      F29_j49 n r1 r2 r4 r5 ii8 s9 ii16 s17 0 ByteArray.empty 0 ByteArray.empty s18 i19 i20
    else
      (F43 n (IntKind.wrap .u8 r2.1) 2).bind fun (r22 : Bool) =>
      if r22 then
        (F52 n (Reader.mk s18 i19 i20)).bind fun (r23 : (Field × Reader)) =>
        F29_u29 n r1 r2 r4 r5 ii8 s9 ii16 s17 r23.1.N r23.1.Text r23.2.s r23.2.at_ r23.2.e
      else
        F29_u29 n r1 r2 r4 r5 ii8 s9 ii16 s17 0 ByteArray.empty s18 i19 i20
theorem F29_u21_ok (n : Nat) (r1 : (Int × Reader)) (r2 : (Int × Reader)) (r4 : (Int × Reader)) (r5 : (Int × Reader)) (ii8 : Int) (s9 : ByteArray) (ii16 : Int) (s17 : ByteArray) (s18 : ByteArray) (i19 : Int) (i20 : Int) : SimL Try.prog D (n + 8) (n + 6) pc29_c43 [(2, .one (.ptr 2 0)), (5, .one (.ptr 11 0)), (6, .one (.ptr 6 0)), (51, .one (li .i64 2))] ((2, some (.cells [li .i64 0, li .u8 0, li .i64 0, li .i64 0, li .i64 0, ls ByteArray.empty, li .i64 0, ls ByteArray.empty, li .i64 0, ls ByteArray.empty, li .i64 0, ls ByteArray.empty])) :: ((6, some (.cells [li .i64 r1.1, li .u8 (IntKind.wrap .u8 r2.1), li .i64 r4.1, li .i64 r5.1, li .i64 ii8, ls s9, li .i64 ii16, ls s17, li .i64 0, ls ByteArray.empty, li .i64 0, ls ByteArray.empty])) :: ((11, some (.cells [ls s18, li .i64 i19, li .i64 i20])) :: []))) (F29_u21 n r1 r2 r4 r5 ii8 s9 ii16 s17 s18 i19 i20) (QB 0 (QT Try.prog D (n + 8) pc29_c65 (QF pc29_r 0 F29_e))) := by
    unfold F29_u21
    refine SimL.succ ?_
    refine Sim.seq ?_
    refine Sim.region [(2, .one (.ptr 2 0)), (5, .one (.ptr 11 0)), (6, .one (.ptr 6 0)), (51, .one (li .i64 2))] ((2, some (.cells [li .i64 0, li .u8 0, li .i64 0, li .i64 0, li .i64 0, ls ByteArray.empty, li .i64 0, ls ByteArray.empty, li .i64 0, ls ByteArray.empty, li .i64 0, ls ByteArray.empty])) :: ((6, some (.cells [li .i64 r1.1, li .u8 (IntKind.wrap .u8 r2.1), li .i64 r4.1, li .i64 r5.1, li .i64 ii8, ls s9, li .i64 ii16, ls s17, li .i64 0, ls ByteArray.empty, li .i64 0, ls ByteArray.empty])) :: ((11, some (.cells [ls s18, li .i64 i19, li .i64 i20])) :: []))) (by kernel_rfl) ?_
    refine SimI.run 1 [(52, .one (lb true))] [] (by kernel_rfl) ?_
    refine SimI.done (by kernel_rfl) ?_
    refine SimE.thenN ?_
    refine Sim.seq ?_
    refine Sim.condT (by kernel_rfl) ?_
    refine Sim.skip ?_
    refine SimE.thenN ?_
    refine Sim.seq ?_
    refine Sim.block ?_
    refine Sim.seq ?_
    refine Sim.region0 ?_
    refine SimI.run 2 [(8, .one (li .i64 2)), (53, .one (li .i64 2))] [] (by kernel_rfl) ?_
    refine SimI.done (by kernel_rfl) ?_
    refine SimE.thenN ?_
    refine Sim.block ?_
    refine Sim.seq ?_
    refine Sim.region0 ?_
    refine SimI.run 6 [(54, .one (lb (i20 != 0))), (59, .one (lb (i20 != 0))), (58, .one (li .i64 i20)), (57, .one (.ptr 11 2)), (56, .one (.ptr 11 0)), (55, .one (.ptr 11 0))] [] (by kernel_rfl) ?_
    refine SimI.done (by kernel_rfl) ?_
    refine SimE.thenN ?_
    refine Sim.cond (i20 != 0) (by kernel_rfl) ?_ ?_
    · refine Sim.exit ?_
      refine SimE.blockY rfl ?_
      refine SimE.blockY rfl ?_
      refine SimE.thenX ?_
      refine SimE.loopX ?_
      refine SimE.blockX ?_
      refine SimE.thenN ?_
      refine Sim.pre (ts := [2, 5, 6]) (os := [2, 6, 11]) [(2, .one (.ptr 2 0)), (5, .one (.ptr 11 0)), (6, .one (.ptr 6 0))] ((2, some (.cells [li .i64 0, li .u8 0, li .i64 0, li .i64 0, li .i64 0, ls ByteArray.empty, li .i64 0, ls ByteArray.empty, li .i64 0, ls ByteArray.empty, li .i64 0, ls ByteArray.empty])) :: ((6, some (.cells [li .i64 r1.1, li .u8 (IntKind.wrap .u8 r2.1), li .i64 r4.1, li .i64 r5.1, li .i64 ii8, ls s9, li .i64 ii16, ls s17, li .i64 0, ls ByteArray.empty, li .i64 0, ls ByteArray.empty])) :: ((11, some (.cells [ls s18, li .i64 i19, li .i64 i20])) :: []))) (by kernel_rfl) (by kernel_rfl) (by kernel_rfl) ?_
      exact F29_j49_ok n r1 r2 r4 r5 ii8 s9 ii16 s17 0 ByteArray.empty 0 ByteArray.empty s18 i19 i20
    · refine Sim.seq ?_
      refine Sim.region0 ?_
      refine SimI.run 3 [(63, .one (li .i64 2)), (62, .one (li .u8 (IntKind.wrap .u8 r2.1))), (61, .one (.ptr 6 1))] [] (by kernel_rfl) ?_
      refine SimI.bind (og := F43 n (IntKind.wrap .u8 r2.1) 2) { dst := some 64, op := POp.call true [[], []] 43 [Operand.tmp 62, Operand.tmp 63], guard := none, hints := [] } (fun r22 => [(64, .one (lb r22))]) (fun r22 => []) (by kernel_rfl) (fun r22 hr => pOp_eff (by kernel_rfl) (by kernel_rfl) (eff_call (ARGS := [.one (li .u8 (IntKind.wrap .u8 r2.1)), .one (li .i64 2)]) (by kernel_rfl) (args_clean (by kernel_rfl) (args_clean (by kernel_rfl) args_nil)) (F43_ok n (IntKind.wrap .u8 r2.1) 2 r22 hr) (by kernel_rfl))) (fun r22 => ?_)
      refine SimI.run 1 [(60, .one (lb r22))] [] (by kernel_rfl) ?_
      refine SimI.done (by kernel_rfl) ?_
      refine SimE.thenN ?_
      refine Sim.cond r22 (by kernel_rfl) ?_ ?_
      · refine Sim.region0 ?_
        refine SimI.run 2 [(66, .one (.ptr 11 0)), (65, .one (li .i64 2))] [] (by kernel_rfl) ?_
        refine SimI.bind (og := F52 n (Reader.mk s18 i19 i20)) { dst := some 67, op := POp.call true [[]] 52 [Operand.tmp 66], guard := none, hints := [] } (fun r23 => [(67, .agg [li .i64 r23.1.N, ls r23.1.Text])]) (fun r23 => [(11, some (.cells [ls r23.2.s, li .i64 r23.2.at_, li .i64 r23.2.e]))]) (by kernel_rfl) (fun r23 hr => pOp_eff (by kernel_rfl) (by kernel_rfl) (eff_callp (ARGS := [.one (.ptr 11 0)]) (ARGS' := [.one (.ptr 1000000 0)]) (ks := [11]) (os := [[ls s18, li .i64 i19, li .i64 i20]]) (os' := [[ls r23.2.s, li .i64 r23.2.at_, li .i64 r23.2.e]]) (by kernel_rfl) (args_ptr (by kernel_rfl) args_nil) rfl (by kernel_rfl) (F52_ok n (Reader.mk s18 i19 i20) r23 hr) (by kernel_rfl) (by kernel_rfl))) (fun r23 => ?_)
        refine SimI.run 3 [(69, .one (.ptr 6 8)), (68, .one (.ptr 6 4))] [(6, some (.cells [li .i64 r1.1, li .u8 (IntKind.wrap .u8 r2.1), li .i64 r4.1, li .i64 r5.1, li .i64 ii8, ls s9, li .i64 ii16, ls s17, li .i64 r23.1.N, ls r23.1.Text, li .i64 0, ls ByteArray.empty]))] (by kernel_rfl) ?_
        refine SimI.done (by kernel_rfl) ?_
        refine SimE.blockN ?_
        refine SimE.blockN ?_
        refine SimE.thenN ?_
        refine Sim.region0 ?_
        refine SimI.run 2 [(51, .one (li .i64 3)), (70, .one (li .i64 3))] [] (by kernel_rfl) ?_
        refine SimI.done (by kernel_rfl) ?_
        refine SimE.loopN ?_
        refine SimL.pre (ts := [2, 5, 6, 51]) (os := [2, 6, 11]) [(2, .one (.ptr 2 0)), (5, .one (.ptr 11 0)), (6, .one (.ptr 6 0)), (51, .one (li .i64 3))] ((2, some (.cells [li .i64 0, li .u8 0, li .i64 0, li .i64 0, li .i64 0, ls ByteArray.empty, li .i64 0, ls ByteArray.empty, li .i64 0, ls ByteArray.empty, li .i64 0, ls ByteArray.empty])) :: ((6, some (.cells [li .i64 r1.1, li .u8 (IntKind.wrap .u8 r2.1), li .i64 r4.1, li .i64 r5.1, li .i64 ii8, ls s9, li .i64 ii16, ls s17, li .i64 r23.1.N, ls r23.1.Text, li .i64 0, ls ByteArray.empty])) :: ((11, some (.cells [ls r23.2.s, li .i64 r23.2.at_, li .i64 r23.2.e])) :: []))) (by kernel_rfl) (by kernel_rfl) (by kernel_rfl) ?_
        exact F29_u29_ok n r1 r2 r4 r5 ii8 s9 ii16 s17 r23.1.N r23.1.Text r23.2.s r23.2.at_ r23.2.e
      · refine Sim.skip ?_
        refine SimE.blockN ?_
        refine SimE.blockN ?_
        refine SimE.thenN ?_
        refine Sim.region0 ?_
        refine SimI.run 2 [(51, .one (li .i64 3)), (70, .one (li .i64 3))] [] (by kernel_rfl) ?_
        refine SimI.done (by kernel_rfl) ?_
        refine SimE.loopN ?_
        refine SimL.pre (ts := [2, 5, 6, 51]) (os := [2, 6, 11]) [(2, .one (.ptr 2 0)), (5, .one (.ptr 11 0)), (6, .one (.ptr 6 0)), (51, .one (li .i64 3))] ((2, some (.cells [li .i64 0, li .u8 0, li .i64 0, li .i64 0, li .i64 0, ls ByteArray.empty, li .i64 0, ls ByteArray.empty, li .i64 0, ls ByteArray.empty, li .i64 0, ls ByteArray.empty])) :: ((6, some (.cells [li .i64 r1.1, li .u8 (IntKind.wrap .u8 r2.1), li .i64 r4.1, li .i64 r5.1, li .i64 ii8, ls s9, li .i64 ii16, ls s17, li .i64 0, ls ByteArray.empty, li .i64 0, ls ByteArray.empty])) :: ((11, some (.cells [ls s18, li .i64 i19, li .i64 i20])) :: []))) (by kernel_rfl) (by kernel_rfl) (by kernel_rfl) ?_
        exact F29_u29_ok n r1 r2 r4 r5 ii8 s9 ii16 s17 0 ByteArray.empty s18 i19 i20

def F29_u13 (n : Nat) (r1 : (Int × Reader)) (r2 : (Int × Reader)) (r4 : (Int × Reader)) (r5 : (Int × Reader)) (ii8 : Int) (s9 : ByteArray) (s10 : ByteArray) (i11 : Int) (i12 : Int) : Option (Delta × Int × Int) :=
    if i12 != 0 then
      F29_j49 n r1 r2 r4 r5 ii8 s9 0 ByteArray.empty 0 ByteArray.empty 0 ByteArray.empty s10 i11 i12
    else
      (F43 n (IntKind.wrap .u8 r2.1) 1).bind fun (r14 : Bool) =>
      if r14 then
        (F52 n (Reader.mk s10 i11 i12)).bind fun (r15 : (Field × Reader)) =>
        F29_u21 n r1 r2 r4 r5 ii8 s9 r15.1.N r15.1.Text r15.2.s r15.2.at_ r15.2.e
      else
        F29_u21 n r1 r2 r4 r5 ii8 s9 0 ByteArray.empty s10 i11 i12
theorem F29_u13_ok (n : Nat) (r1 : (Int × Reader)) (r2 : (Int × Reader)) (r4 : (Int × Reader)) (r5 : (Int × Reader)) (ii8 : Int) (s9 : ByteArray) (s10 : ByteArray) (i11 : Int) (i12 : Int) : SimL Try.prog D (n + 8) (n + 7) pc29_c43 [(2, .one (.ptr 2 0)), (5, .one (.ptr 11 0)), (6, .one (.ptr 6 0)), (51, .one (li .i64 1))] ((2, some (.cells [li .i64 0, li .u8 0, li .i64 0, li .i64 0, li .i64 0, ls ByteArray.empty, li .i64 0, ls ByteArray.empty, li .i64 0, ls ByteArray.empty, li .i64 0, ls ByteArray.empty])) :: ((6, some (.cells [li .i64 r1.1, li .u8 (IntKind.wrap .u8 r2.1), li .i64 r4.1, li .i64 r5.1, li .i64 ii8, ls s9, li .i64 0, ls ByteArray.empty, li .i64 0, ls ByteArray.empty, li .i64 0, ls ByteArray.empty])) :: ((11, some (.cells [ls s10, li .i64 i11, li .i64 i12])) :: []))) (F29_u13 n r1 r2 r4 r5 ii8 s9 s10 i11 i12) (QB 0 (QT Try.prog D (n + 8) pc29_c65 (QF pc29_r 0 F29_e))) := by
    unfold F29_u13
    refine SimL.succ ?_
    refine Sim.seq ?_
    refine Sim.region [(2, .one (.ptr 2 0)), (5, .one (.ptr 11 0)), (6, .one (.ptr 6 0)), (51, .one (li .i64 1))] ((2, some (.cells [li .i64 0, li .u8 0, li .i64 0, li .i64 0, li .i64 0, ls ByteArray.empty, li .i64 0, ls ByteArray.empty, li .i64 0, ls ByteArray.empty, li .i64 0, ls ByteArray.empty])) :: ((6, some (.cells [li .i64 r1.1, li .u8 (IntKind.wrap .u8 r2.1), li .i64 r4.1, li .i64 r5.1, li .i64 ii8, ls s9, li .i64 0, ls ByteArray.empty, li .i64 0, ls ByteArray.empty, li .i64 0, ls ByteArray.empty])) :: ((11, some (.cells [ls s10, li .i64 i11, li .i64 i12])) :: []))) (by kernel_rfl) ?_
    refine SimI.run 1 [(52, .one (lb true))] [] (by kernel_rfl) ?_
    refine SimI.done (by kernel_rfl) ?_
    refine SimE.thenN ?_
    refine Sim.seq ?_
    refine Sim.condT (by kernel_rfl) ?_
    refine Sim.skip ?_
    refine SimE.thenN ?_
    refine Sim.seq ?_
    refine Sim.block ?_
    refine Sim.seq ?_
    refine Sim.region0 ?_
    refine SimI.run 2 [(8, .one (li .i64 1)), (53, .one (li .i64 1))] [] (by kernel_rfl) ?_
    refine SimI.done (by kernel_rfl) ?_
    refine SimE.thenN ?_
    refine Sim.block ?_
    refine Sim.seq ?_
    refine Sim.region0 ?_
    refine SimI.run 6 [(54, .one (lb (i12 != 0))), (59, .one (lb (i12 != 0))), (58, .one (li .i64 i12)), (57, .one (.ptr 11 2)), (56, .one (.ptr 11 0)), (55, .one (.ptr 11 0))] [] (by kernel_rfl) ?_
    refine SimI.done (by kernel_rfl) ?_
    refine SimE.thenN ?_
    refine Sim.cond (i12 != 0) (by kernel_rfl) ?_ ?_
    · refine Sim.exit ?_
      refine SimE.blockY rfl ?_
      refine SimE.blockY rfl ?_
      refine SimE.thenX ?_
      refine SimE.loopX ?_
      refine SimE.blockX ?_
      refine SimE.thenN ?_
      refine Sim.pre (ts := [2, 5, 6]) (os := [2, 6, 11]) [(2, .one (.ptr 2 0)), (5, .one (.ptr 11 0)), (6, .one (.ptr 6 0))] ((2, some (.cells [li .i64 0, li .u8 0, li .i64 0, li .i64 0, li .i64 0, ls ByteArray.empty, li .i64 0, ls ByteArray.empty, li .i64 0, ls ByteArray.empty, li .i64 0, ls ByteArray.empty])) :: ((6, some (.cells [li .i64 r1.1, li .u8 (IntKind.wrap .u8 r2.1), li .i64 r4.1, li .i64 r5.1, li .i64 ii8, ls s9, li .i64 0, ls ByteArray.empty, li .i64 0, ls ByteArray.empty, li .i64 0, ls ByteArray.empty])) :: ((11, some (.cells [ls s10, li .i64 i11, li .i64 i12])) :: []))) (by kernel_rfl) (by kernel_rfl) (by kernel_rfl) ?_
      exact F29_j49_ok n r1 r2 r4 r5 ii8 s9 0 ByteArray.empty 0 ByteArray.empty 0 ByteArray.empty s10 i11 i12
    · refine Sim.seq ?_
      refine Sim.region0 ?_
      refine SimI.run 3 [(63, .one (li .i64 1)), (62, .one (li .u8 (IntKind.wrap .u8 r2.1))), (61, .one (.ptr 6 1))] [] (by kernel_rfl) ?_
      refine SimI.bind (og := F43 n (IntKind.wrap .u8 r2.1) 1) { dst := some 64, op := POp.call true [[], []] 43 [Operand.tmp 62, Operand.tmp 63], guard := none, hints := [] } (fun r14 => [(64, .one (lb r14))]) (fun r14 => []) (by kernel_rfl) (fun r14 hr => pOp_eff (by kernel_rfl) (by kernel_rfl) (eff_call (ARGS := [.one (li .u8 (IntKind.wrap .u8 r2.1)), .one (li .i64 1)]) (by kernel_rfl) (args_clean (by kernel_rfl) (args_clean (by kernel_rfl) args_nil)) (F43_ok n (IntKind.wrap .u8 r2.1) 1 r14 hr) (by kernel_rfl))) (fun r14 => ?_)
      refine SimI.run 1 [(60, .one (lb r14))] [] (by kernel_rfl) ?_
      refine SimI.done (by kernel_rfl) ?_
      refine SimE.thenN ?_
      refine Sim.cond r14 (by kernel_rfl) ?_ ?_
      · refine Sim.region0 ?_
        refine SimI.run 2 [(66, .one (.ptr 11 0)), (65, .one (li .i64 1))] [] (by kernel_rfl) ?_
        refine SimI.bind (og := F52 n (Reader.mk s10 i11 i12)) { dst := some 67, op := POp.call true [[]] 52 [Operand.tmp 66], guard := none, hints := [] } (fun r15 => [(67, .agg [li .i64 r15.1.N, ls r15.1.Text])]) (fun r15 => [(11, some (.cells [ls r15.2.s, li .i64 r15.2.at_, li .i64 r15.2.e]))]) (by kernel_rfl) (fun r15 hr => pOp_eff (by kernel_rfl) (by kernel_rfl) (eff_callp (ARGS := [.one (.ptr 11 0)]) (ARGS' := [.one (.ptr 1000000 0)]) (ks := [11]) (os := [[ls s10, li .i64 i11, li .i64 i12]]) (os' := [[ls r15.2.s, li .i64 r15.2.at_, li .i64 r15.2.e]]) (by kernel_rfl) (args_ptr (by kernel_rfl) args_nil) rfl (by kernel_rfl) (F52_ok n (Reader.mk s10 i11 i12) r15 hr) (by kernel_rfl) (by kernel_rfl))) (fun r15 => ?_)
        refine SimI.run 3 [(69, .one (.ptr 6 6)), (68, .one (.ptr 6 4))] [(6, some (.cells [li .i64 r1.1, li .u8 (IntKind.wrap .u8 r2.1), li .i64 r4.1, li .i64 r5.1, li .i64 ii8, ls s9, li .i64 r15.1.N, ls r15.1.Text, li .i64 0, ls ByteArray.empty, li .i64 0, ls ByteArray.empty]))] (by kernel_rfl) ?_
        refine SimI.done (by kernel_rfl) ?_
        refine SimE.blockN ?_
        refine SimE.blockN ?_
        refine SimE.thenN ?_
        refine Sim.region0 ?_
        refine SimI.run 2 [(51, .one (li .i64 2)), (70, .one (li .i64 2))] [] (by kernel_rfl) ?_
        refine SimI.done (by kernel_rfl) ?_
        refine SimE.loopN ?_
        refine SimL.pre (ts := [2, 5, 6, 51]) (os := [2, 6, 11]) [(2, .one (.ptr 2 0)), (5, .one (.ptr 11 0)), (6, .one (.ptr 6 0)), (51, .one (li .i64 2))] ((2, some (.cells [li .i64 0, li .u8 0, li .i64 0, li .i64 0, li .i64 0, ls ByteArray.empty, li .i64 0, ls ByteArray.empty, li .i64 0, ls ByteArray.empty, li .i64 0, ls ByteArray.empty])) :: ((6, some (.cells [li .i64 r1.1, li .u8 (IntKind.wrap .u8 r2.1), li .i64 r4.1, li .i64 r5.1, li .i64 ii8, ls s9, li .i64 r15.1.N, ls r15.1.Text, li .i64 0, ls ByteArray.empty, li .i64 0, ls ByteArray.empty])) :: ((11, some (.cells [ls r15.2.s, li .i64 r15.2.at_, li .i64 r15.2.e])) :: []))) (by kernel_rfl) (by kernel_rfl) (by kernel_rfl) ?_
        exact F29_u21_ok n r1 r2 r4 r5 ii8 s9 r15.1.N r15.1.Text r15.2.s r15.2.at_ r15.2.e
      · refine Sim.skip ?_
        refine SimE.blockN ?_
        refine SimE.blockN ?_
        refine SimE.thenN ?_
        refine Sim.region0 ?_
        refine SimI.run 2 [(51, .one (li .i64 2)), (70, .one (li .i64 2))] [] (by kernel_rfl) ?_
        refine SimI.done (by kernel_rfl) ?_
        refine SimE.loopN ?_
        refine SimL.pre (ts := [2, 5, 6, 51]) (os := [2, 6, 11]) [(2, .one (.ptr 2 0)), (5, .one (.ptr 11 0)), (6, .one (.ptr 6 0)), (51, .one (li .i64 2))] ((2, some (.cells [li .i64 0, li .u8 0, li .i64 0, li .i64 0, li .i64 0, ls ByteArray.empty, li .i64 0, ls ByteArray.empty, li .i64 0, ls ByteArray.empty, li .i64 0, ls ByteArray.empty])) :: ((6, some (.cells [li .i64 r1.1, li .u8 (IntKind.wrap .u8 r2.1), li .i64 r4.1, li .i64 r5.1, li .i64 ii8, ls s9, li .i64 0, ls ByteArray.empty, li .i64 0, ls ByteArray.empty, li .i64 0, ls ByteArray.empty])) :: ((11, some (.cells [ls s10, li .i64 i11, li .i64 i12])) :: []))) (by kernel_rfl) (by kernel_rfl) (by kernel_rfl) ?_
        exact F29_u21_ok n r1 r2 r4 r5 ii8 s9 0 ByteArray.empty s10 i11 i12

def F29_j94 (n : Nat) (r1 : (Int × Reader)) (r2 : (Int × Reader)) (i83 : Int) (s84 : ByteArray) (i85 : Int) (s86 : ByteArray) (i87 : Int) (s88 : ByteArray) (i89 : Int) (s90 : ByteArray) (s91 : ByteArray) (i92 : Int) (i93 : Int) : Option (Delta × Int × Int) :=
    if i93 != 0 then
      some ((Delta.mk 0 0 (Point.mk 0 0) (A4.mk (Field.mk 0 ByteArray.empty) (Field.mk 0 ByteArray.empty) (Field.mk 0 ByteArray.empty) (Field.mk 0 ByteArray.empty))), 0, i93)
    else
      (F25 n (Delta.mk r1.1 (IntKind.wrap .u8 r2.1) (Point.mk 0 0) (A4.mk (Field.mk i83 s84) (Field.mk i85 s86) (Field.mk i87 s88) (Field.mk i89 s90)))).bind fun (r95 : Bool) =>
      if !(r95) then
        some ((Delta.mk 0 0 (Point.mk 0 0) (A4.mk (Field.mk 0 ByteArray.empty) (Field.mk 0 ByteArray.empty) (Field.mk 0 ByteArray.empty) (Field.mk 0 ByteArray.empty))), 0, 11)
      else
        some ((Delta.mk r1.1 (IntKind.wrap .u8 r2.1) (Point.mk 0 0) (A4.mk (Field.mk i83 s84) (Field.mk i85 s86) (Field.mk i87 s88) (Field.mk i89 s90))), i92, 0)
theorem F29_j94_ok (n : Nat) (r1 : (Int × Reader)) (r2 : (Int × Reader)) (i83 : Int) (s84 : ByteArray) (i85 : Int) (s86 : ByteArray) (i87 : Int) (s88 : ByteArray) (i89 : Int) (s90 : ByteArray) (s91 : ByteArray) (i92 : Int) (i93 : Int) : Sim Try.prog D (n + 8) pc29_c65 [(2, .one (.ptr 2 0)), (5, .one (.ptr 11 0)), (6, .one (.ptr 6 0))] ((2, some (.cells [li .i64 0, li .u8 0, li .i64 0, li .i64 0, li .i64 0, ls ByteArray.empty, li .i64 0, ls ByteArray.empty, li .i64 0, ls ByteArray.empty, li .i64 0, ls ByteArray.empty])) :: ((6, some (.cells [li .i64 r1.1, li .u8 (IntKind.wrap .u8 r2.1), li .i64 0, li .i64 0, li .i64 i83, ls s84, li .i64 i85, ls s86, li .i64 i87, ls s88, li .i64 i89, ls s90])) :: ((11, some (.cells [ls s91, li .i64 i92, li .i64 i93])) :: []))) (F29_j94 n r1 r2 i83 s84 i85 s86 i87 s88 i89 s90 s91 i92 i93) (QF pc29_r 0 F29_e) := by
    unfold F29_j94
    refine Sim.seq ?_
    refine Sim.seq ?_
    refine Sim.region [(2, .one (.ptr 2 0)), (5, .one (.ptr 11 0)), (6, .one (.ptr 6 0))] ((2, some (.cells [li .i64 0, li .u8 0, li .i64 0, li .i64 0, li .i64 0, ls ByteArray.empty, li .i64 0, ls ByteArray.empty, li .i64 0, ls ByteArray.empty, li .i64 0, ls ByteArray.empty])) :: ((6, some (.cells [li .i64 r1.1, li .u8 (IntKind.wrap .u8 r2.1), li .i64 0, li .i64 0, li .i64 i83, ls s84, li .i64 i85, ls s86, li .i64 i87, ls s88, li .i64 i89, ls s90])) :: ((11, some (.cells [ls s91, li .i64 i92, li .i64 i93])) :: []))) (by kernel_rfl) ?_
    refine SimI.run 5 [(75, .one (lb (i93 != 0))), (74, .one (li .i64 i93)), (73, .one (.ptr 11 2)), (72, .one (.ptr 11 0)), (71, .one (.ptr 11 0))] [] (by kernel_rfl) ?_
    refine SimI.done (by kernel_rfl) ?_
    refine SimE.thenN ?_
    refine Sim.cond (i93 != 0) (by kernel_rfl) ?_ ?_
    · refine Sim.seq ?_
      refine Sim.region0 ?_
      refine SimI.run 8 [(4, .one (li .i64 i93)), (3, .one (li .i64 0)), (80, .one (li .i64 i93)), (79, .one (.ptr 11 2)), (78, .one (.ptr 11 0)), (77, .one (.ptr 11 0)), (76, .agg [li .i64 0, li .u8 0, li .i64 0, li .i64 0, li .i64 0, ls ByteArray.empty, li .i64 0, ls ByteArray.empty, li .i64 0, ls ByteArray.empty, li .i64 0, ls ByteArray.empty])] [(2, some (.cells [li .i64 0, li .u8 0, li .i64 0, li .i64 0, li .i64 0, ls ByteArray.empty, li .i64 0, ls ByteArray.empty, li .i64 0, ls ByteArray.empty, li .i64 0, ls ByteArray.empty]))] (by kernel_rfl) ?_
      refine SimI.done (by kernel_rfl) ?_
      refine SimE.thenN ?_
      refine Sim.ret ?_
      refine SimE.thenR ?_
      exact SimE.fin (by kernel_rfl)
    · refine Sim.skip ?_
      refine SimE.thenN ?_
      refine Sim.seq ?_
      refine Sim.seq ?_
      refine Sim.region0 ?_
      refine SimI.run 1 [(81, .agg [li .i64 r1.1, li .u8 (IntKind.wrap .u8 r2.1), li .i64 0, li .i64 0, li .i64 i83, ls s84, li .i64 i85, ls s86, li .i64 i87, ls s88, li .i64 i89, ls s90])] [] (by kernel_rfl) ?_
      refine SimI.bind (og := F25 n (Delta.mk r1.1 (IntKind.wrap .u8 r2.1) (Point.mk 0 0) (A4.mk (Field.mk i83 s84) (Field.mk i85 s86) (Field.mk i87 s88) (Field.mk i89 s90)))) { dst := some 82, op := POp.call true [[]] 25 [Operand.tmp 81], guard := none, hints := [] } (fun r95 => [(82, .one (lb r95))]) (fun r95 => []) (by kernel_rfl) (fun r95 hr => pOp_eff (by kernel_rfl) (by kernel_rfl) (eff_call (ARGS := [.agg [li .i64 r1.1, li .u8 (IntKind.wrap .u8 r2.1), li .i64 0, li .i64 0, li .i64 i83, ls s84, li .i64 i85, ls s86, li .i64 i87, ls s88, li .i64 i89, ls s90]]) (by kernel_rfl) (args_clean (by kernel_rfl) args_nil) (F25_ok n (Delta.mk r1.1 (IntKind.wrap .u8 r2.1) (Point.mk 0 0) (A4.mk (Field.mk i83 s84) (Field.mk i85 s86) (Field.mk i87 s88) (Field.mk i89 s90))) r95 hr) (by kernel_rfl))) (fun r95 => ?_)
      refine SimI.run 1 [(83, .one (lb (!(r95))))] [] (by kernel_rfl) ?_
      refine SimI.done (by kernel_rfl) ?_
      refine SimE.thenN ?_
      refine Sim.cond (!(r95)) (by kernel_rfl) ?_ ?_
      · refine Sim.seq ?_
        refine Sim.region0 ?_
        refine SimI.run 4 [(4, .one (li .i64 11)), (3, .one (li .i64 0)), (84, .agg [li .i64 0, li .u8 0, li .i64 0, li .i64 0, li .i64 0, ls ByteArray.empty, li .i64 0, ls ByteArray.empty, li .i64 0, ls ByteArray.empty, li .i64 0, ls ByteArray.empty])] [(2, some (.cells [li .i64 0, li .u8 0, li .i64 0, li .i64 0, li .i64 0, ls ByteArray.empty, li .i64 0, ls ByteArray.empty, li .i64 0, ls ByteArray.empty, li .i64 0, ls ByteArray.empty]))] (by kernel_rfl) ?_
        refine SimI.done (by kernel_rfl) ?_
        refine SimE.thenN ?_
        refine Sim.ret ?_
        refine SimE.thenR ?_
        exact SimE.fin (by kernel_rfl)
      · refine Sim.skip ?_
        refine SimE.thenN ?_
        refine Sim.seq ?_
        refine Sim.region0 ?_
        refine SimI.run 8 [(4, .one (li .i64 0)), (3, .one (li .i64 i92)), (89, .one (li .i64 i92)), (88, .one (.ptr 11 1)), (87, .one (.ptr 11 0)), (86, .one (.ptr 11 0)), (85, .agg [li .i64 r1.1, li .u8 (IntKind.wrap .u8 r2.1), li .i64 0, li .i64 0, li .i64 i83, ls s84, li .i64 i85, ls s86, li .i64 i87, ls s88, li .i64 i89, ls s90])] [(2, some (.cells [li .i64 r1.1, li .u8 (IntKind.wrap .u8 r2.1), li .i64 0, li .i64 0, li .i64 i83, ls s84, li .i64 i85, ls s86, li .i64 i87, ls s88, li .i64 i89, ls s90]))] (by kernel_rfl) ?_
        refine SimI.done (by kernel_rfl) ?_
        refine SimE.thenN ?_
        refine Sim.ret ?_
        exact SimE.fin (by kernel_rfl)

def F29_u82 (n : Nat) (r1 : (Int × Reader)) (r2 : (Int × Reader)) (i53 : Int) (s54 : ByteArray) (i61 : Int) (s62 : ByteArray) (i69 : Int) (s70 : ByteArray) (i77 : Int) (s78 : ByteArray) (s79 : ByteArray) (i80 : Int) (i81 : Int) : Option (Delta × Int × Int) :=
    F29_j94 n r1 r2 i53 s54 i61 s62 i69 s70 i77 s78 s79 i80 i81
theorem F29_u82_ok (n : Nat) (r1 : (Int × Reader)) (r2 : (Int × Reader)) (i53 : Int) (s54 : ByteArray) (i61 : Int) (s62 : ByteArray) (i69 : Int) (s70 : ByteArray) (i77 : Int) (s78 : ByteArray) (s79 : ByteArray) (i80 : Int) (i81 : Int) : SimL Try.prog D (n + 8) (n + 4) pc29_c43 [(2, .one (.ptr 2 0)), (5, .one (.ptr 11 0)), (6, .one (.ptr 6 0)), (51, .one (li .i64 4))] ((2, some (.cells [li .i64 0, li .u8 0, li .i64 0, li .i64 0, li .i64 0, ls ByteArray.empty, li .i64 0, ls ByteArray.empty, li .i64 0, ls ByteArray.empty, li .i64 0, ls ByteArray.empty])) :: ((6, some (.cells [li .i64 r1.1, li .u8 (IntKind.wrap .u8 r2.1), li .i64 0, li .i64 0, li .i64 i53, ls s54, li .i64 i61, ls s62, li .i64 i69, ls s70, li .i64 i77, ls s78])) :: ((11, some (.cells [ls s79, li .i64 i80, li .i64 i81])) :: []))) (F29_u82 n r1 r2 i53 s54 i61 s62 i69 s70 i77 s78 s79 i80 i81) (QB 0 (QT Try.prog D (n + 8) pc29_c65 (QF pc29_r 0 F29_e))) := by
    unfold F29_u82
    refine SimL.succ ?_
    refine Sim.seq ?_
    refine Sim.region [(2, .one (.ptr 2 0)), (5, .one (.ptr 11 0)), (6, .one (.ptr 6 0)), (51, .one (li .i64 4))] ((2, some (.cells [li .i64 0, li .u8 0, li .i64 0, li .i64 0, li .i64 0, ls ByteArray.empty, li .i64 0, ls ByteArray.empty, li .i64 0, ls ByteArray.empty, li .i64 0, ls ByteArray.empty])) :: ((6, some (.cells [li .i64 r1.1, li .u8 (IntKind.wrap .u8 r2.1), li .i64 0, li .i64 0, li .i64 i53, ls s54, li .i64 i61, ls s62, li .i64 i69, ls s70, li .i64 i77, ls s78])) :: ((11, some (.cells [ls s79, li .i64 i80, li .i64 i81])) :: []))) (by kernel_rfl) ?_
    refine SimI.run 1 [(52, .one (lb false))] [] (by kernel_rfl) ?_
    refine SimI.done (by kernel_rfl) ?_
    refine SimE.thenN ?_
    refine Sim.seq ?_
    refine Sim.condF (by kernel_rfl) ?_
    refine Sim.exit ?_
    refine SimE.thenX ?_
    refine SimE.loopX ?_
    refine SimE.blockX ?_
    refine SimE.thenN ?_
    refine Sim.pre (ts := [2, 5, 6]) (os := [2, 6, 11]) [(2, .one (.ptr 2 0)), (5, .one (.ptr 11 0)), (6, .one (.ptr 6 0))] ((2, some (.cells [li .i64 0, li .u8 0, li .i64 0, li .i64 0, li .i64 0, ls ByteArray.empty, li .i64 0, ls ByteArray.empty, li .i64 0, ls ByteArray.empty, li .i64 0, ls ByteArray.empty])) :: ((6, some (.cells [li .i64 r1.1, li .u8 (IntKind.wrap .u8 r2.1), li .i64 0, li .i64 0, li .i64 i53, ls s54, li .i64 i61, ls s62, li .i64 i69, ls s70, li .i64 i77, ls s78])) :: ((11, some (.cells [ls s79, li .i64 i80, li .i64 i81])) :: []))) (by kernel_rfl) (by kernel_rfl) (by kernel_rfl) ?_
    exact F29_j94_ok n r1 r2 i53 s54 i61 s62 i69 s70 i77 s78 s79 i80 i81

def F29_u74 (n : Nat) (r1 : (Int × Reader)) (r2 : (Int × Reader)) (i53 : Int) (s54 : ByteArray) (i61 : Int) (s62 : ByteArray) (i69 : Int) (s70 : ByteArray) (s71 : ByteArray) (i72 : Int) (i73 : Int) : Option (Delta × Int × Int) :=
    if i73 != 0 then
      F29_j94 n r1 r2 i53 s54 i61 s62 i69 s70 0 ByteArray.empty s71 i72 i73
    else
      (F43 n (IntKind.wrap .u8 r2.1) 3).bind fun (r75 : Bool) =>
      if r75 then
        (F52 n (Reader.mk s71 i72 i73)).bind fun (r76 : (Field × Reader)) =>
        F29_u82 n r1 r2 i53 s54 i61 s62 i69 s70 r76.1.N r76.1.Text r76.2.s r76.2.at_ r76.2.e
      else
        F29_u82 n r1 r2 i53 s54 i61 s62 i69 s70 0 ByteArray.empty s71 i72 i73
theorem F29_u74_ok (n : Nat) (r1 : (Int × Reader)) (r2 : (Int × Reader)) (i53 : Int) (s54 : ByteArray) (i61 : Int) (s62 : ByteArray) (i69 : Int) (s70 : ByteArray) (s71 : ByteArray) (i72 : Int) (i73 : Int) : SimL Try.prog D (n + 8) (n + 5) pc29_c43 [(2, .one (.ptr 2 0)), (5, .one (.ptr 11 0)), (6, .one (.ptr 6 0)), (51, .one (li .i64 3))] ((2, some (.cells [li .i64 0, li .u8 0, li .i64 0, li .i64 0, li .i64 0, ls ByteArray.empty, li .i64 0, ls ByteArray.empty, li .i64 0, ls ByteArray.empty, li .i64 0, ls ByteArray.empty])) :: ((6, some (.cells [li .i64 r1.1, li .u8 (IntKind.wrap .u8 r2.1), li .i64 0, li .i64 0, li .i64 i53, ls s54, li .i64 i61, ls s62, li .i64 i69, ls s70, li .i64 0, ls ByteArray.empty])) :: ((11, some (.cells [ls s71, li .i64 i72, li .i64 i73])) :: []))) (F29_u74 n r1 r2 i53 s54 i61 s62 i69 s70 s71 i72 i73) (QB 0 (QT Try.prog D (n + 8) pc29_c65 (QF pc29_r 0 F29_e))) := by
    unfold F29_u74
    refine SimL.succ ?_
    refine Sim.seq ?_
    refine Sim.region [(2, .one (.ptr 2 0)), (5, .one (.ptr 11 0)), (6, .one (.ptr 6 0)), (51, .one (li .i64 3))] ((2, some (.cells [li .i64 0, li .u8 0, li .i64 0, li .i64 0, li .i64 0, ls ByteArray.empty, li .i64 0, ls ByteArray.empty, li .i64 0, ls ByteArray.empty, li .i64 0, ls ByteArray.empty])) :: ((6, some (.cells [li .i64 r1.1, li .u8 (IntKind.wrap .u8 r2.1), li .i64 0, li .i64 0, li .i64 i53, ls s54, li .i64 i61, ls s62, li .i64 i69, ls s70, li .i64 0, ls ByteArray.empty])) :: ((11, some (.cells [ls s71, li .i64 i72, li .i64 i73])) :: []))) (by kernel_rfl) ?_
    refine SimI.run 1 [(52, .one (lb true))] [] (by kernel_rfl) ?_
    refine SimI.done (by kernel_rfl) ?_
    refine SimE.thenN ?_
    refine Sim.seq ?_
    refine Sim.condT (by kernel_rfl) ?_
    refine Sim.skip ?_
    refine SimE.thenN ?_
    refine Sim.seq ?_
    refine Sim.block ?_
    refine Sim.seq ?_
    refine Sim.region0 ?_
    refine SimI.run 2 [(8, .one (li .i64 3)), (53, .one (li .i64 3))] [] (by kernel_rfl) ?_
    refine SimI.done (by kernel_rfl) ?_
    refine SimE.thenN ?_
    refine Sim.block ?_
    refine Sim.seq ?_
    refine Sim.region0 ?_
    refine SimI.run 6 [(54, .one (lb (i73 != 0))), (59, .one (lb (i73 != 0))), (58, .one (li .i64 i73)), (57, .one (.ptr 11 2)), (56, .one (.ptr 11 0)), (55, .one (.ptr 11 0))] [] (by kernel_rfl) ?_
    refine SimI.done (by kernel_rfl) ?_
    refine SimE.thenN ?_
    refine Sim.cond (i73 != 0) (by kernel_rfl) ?_ ?_
    · refine Sim.exit ?_
      refine SimE.blockY rfl ?_
      refine SimE.blockY rfl ?_
      refine SimE.thenX ?_
      refine SimE.loopX ?_
      refine SimE.blockX ?_
      refine SimE.thenN ?_
      refine Sim.pre (ts := [2, 5, 6]) (os := [2, 6, 11]) [(2, .one (.ptr 2 0)), (5, .one (.ptr 11 0)), (6, .one (.ptr 6 0))] ((2, some (.cells [li .i64 0, li .u8 0, li .i64 0, li .i64 0, li .i64 0, ls ByteArray.empty, li .i64 0, ls ByteArray.empty, li .i64 0, ls ByteArray.empty, li .i64 0, ls ByteArray.empty])) :: ((6, some (.cells [li .i64 r1.1, li .u8 (IntKind.wrap .u8 r2.1), li .i64 0, li .i64 0, li .i64 i53, ls s54, li .i64 i61, ls s62, li .i64 i69, ls s70, li .i64 0, ls ByteArray.empty])) :: ((11, some (.cells [ls s71, li .i64 i72, li .i64 i73])) :: []))) (by kernel_rfl) (by kernel_rfl) (by kernel_rfl) ?_
      exact F29_j94_ok n r1 r2 i53 s54 i61 s62 i69 s70 0 ByteArray.empty s71 i72 i73
    · refine Sim.seq ?_
      refine Sim.region0 ?_
      refine SimI.run 3 [(63, .one (li .i64 3)), (62, .one (li .u8 (IntKind.wrap .u8 r2.1))), (61, .one (.ptr 6 1))] [] (by kernel_rfl) ?_
      refine SimI.bind (og := F43 n (IntKind.wrap .u8 r2.1) 3) { dst := some 64, op := POp.call true [[], []] 43 [Operand.tmp 62, Operand.tmp 63], guard := none, hints := [] } (fun r75 => [(64, .one (lb r75))]) (fun r75 => []) (by kernel_rfl) (fun r75 hr => pOp_eff (by kernel_rfl) (by kernel_rfl) (eff_call (ARGS := [.one (li .u8 (IntKind.wrap .u8 r2.1)), .one (li .i64 3)]) (by kernel_rfl) (args_clean (by kernel_rfl) (args_clean (by kernel_rfl) args_nil)) (F43_ok n (IntKind.wrap .u8 r2.1) 3 r75 hr) (by kernel_rfl))) (fun r75 => ?_)
      refine SimI.run 1 [(60, .one (lb r75))] [] (by kernel_rfl) ?_
      refine SimI.done (by kernel_rfl) ?_
      refine SimE.thenN ?_
      refine Sim.cond r75 (by kernel_rfl) ?_ ?_
      · refine Sim.region0 ?_
        refine SimI.run 2 [(66, .one (.ptr 11 0)), (65, .one (li .i64 3))] [] (by kernel_rfl) ?_
        refine SimI.bind (og := F52 n (Reader.mk s71 i72 i73)) { dst := some 67, op := POp.call true [[]] 52 [Operand.tmp 66], guard := none, hints := [] } (fun r76 => [(67, .agg [li .i64 r76.1.N, ls r76.1.Text])]) (fun r76 => [(11, some (.cells [ls r76.2.s, li .i64 r76.2.at_, li .i64 r76.2.e]))]) (by kernel_rfl) (fun r76 hr => pOp_eff (by kernel_rfl) (by kernel_rfl) (eff_callp (ARGS := [.one (.ptr 11 0)]) (ARGS' := [.one (.ptr 1000000 0)]) (ks := [11]) (os := [[ls s71, li .i64 i72, li .i64 i73]]) (os' := [[ls r76.2.s, li .i64 r76.2.at_, li .i64 r76.2.e]]) (by kernel_rfl) (args_ptr (by kernel_rfl) args_nil) rfl (by kernel_rfl) (F52_ok n (Reader.mk s71 i72 i73) r76 hr) (by kernel_rfl) (by kernel_rfl))) (fun r76 => ?_)
        refine SimI.run 3 [(69, .one (.ptr 6 10)), (68, .one (.ptr 6 4))] [(6, some (.cells [li .i64 r1.1, li .u8 (IntKind.wrap .u8 r2.1), li .i64 0, li .i64 0, li .i64 i53, ls s54, li .i64 i61, ls s62, li .i64 i69, ls s70, li .i64 r76.1.N, ls r76.1.Text]))] (by kernel_rfl) ?_
        refine SimI.done (by kernel_rfl) ?_
        refine SimE.blockN ?_
        refine SimE.blockN ?_
        refine SimE.thenN ?_
        refine Sim.region0 ?_
        refine SimI.run 2 [(51, .one (li .i64 4)), (70, .one (li .i64 4))] [] (by kernel_rfl) ?_
        refine SimI.done (by kernel_rfl) ?_
        refine SimE.loopN ?_
        refine SimL.pre (ts := [2, 5, 6, 51]) (os := [2, 6, 11]) [(2, .one (.ptr 2 0)), (5, .one (.ptr 11 0)), (6, .one (.ptr 6 0)), (51, .one (li .i64 4))] ((2, some (.cells [li .i64 0, li .u8 0, li .i64 0, li .i64 0, li .i64 0, ls ByteArray.empty, li .i64 0, ls ByteArray.empty, li .i64 0, ls ByteArray.empty, li .i64 0, ls ByteArray.empty])) :: ((6, some (.cells [li .i64 r1.1, li .u8 (IntKind.wrap .u8 r2.1), li .i64 0, li .i64 0, li .i64 i53, ls s54, li .i64 i61, ls s62, li .i64 i69, ls s70, li .i64 r76.1.N, ls r76.1.Text])) :: ((11, some (.cells [ls r76.2.s, li .i64 r76.2.at_, li .i64 r76.2.e])) :: []))) (by kernel_rfl) (by kernel_rfl) (by kernel_rfl) ?_
        exact F29_u82_ok n r1 r2 i53 s54 i61 s62 i69 s70 r76.1.N r76.1.Text r76.2.s r76.2.at_ r76.2.e
      · refine Sim.skip ?_
        refine SimE.blockN ?_
        refine SimE.blockN ?_
        refine SimE.thenN ?_
        refine Sim.region0 ?_
        refine SimI.run 2 [(51, .one (li .i64 4)), (70, .one (li .i64 4))] [] (by kernel_rfl) ?_
        refine SimI.done (by kernel_rfl) ?_
        refine SimE.loopN ?_
        refine SimL.pre (ts := [2, 5, 6, 51]) (os := [2, 6, 11]) [(2, .one (.ptr 2 0)), (5, .one (.ptr 11 0)), (6, .one (.ptr 6 0)), (51, .one (li .i64 4))] ((2, some (.cells [li .i64 0, li .u8 0, li .i64 0, li .i64 0, li .i64 0, ls ByteArray.empty, li .i64 0, ls ByteArray.empty, li .i64 0, ls ByteArray.empty, li .i64 0, ls ByteArray.empty])) :: ((6, some (.cells [li .i64 r1.1, li .u8 (IntKind.wrap .u8 r2.1), li .i64 0, li .i64 0, li .i64 i53, ls s54, li .i64 i61, ls s62, li .i64 i69, ls s70, li .i64 0, ls ByteArray.empty])) :: ((11, some (.cells [ls s71, li .i64 i72, li .i64 i73])) :: []))) (by kernel_rfl) (by kernel_rfl) (by kernel_rfl) ?_
        exact F29_u82_ok n r1 r2 i53 s54 i61 s62 i69 s70 0 ByteArray.empty s71 i72 i73

def F29_u66 (n : Nat) (r1 : (Int × Reader)) (r2 : (Int × Reader)) (i53 : Int) (s54 : ByteArray) (i61 : Int) (s62 : ByteArray) (s63 : ByteArray) (ii64 : Int) (i65 : Int) : Option (Delta × Int × Int) :=
    if i65 != 0 then
      F29_j94 n r1 r2 i53 s54 i61 s62 0 ByteArray.empty 0 ByteArray.empty s63 ii64 i65
    else
      (F43 n (IntKind.wrap .u8 r2.1) 2).bind fun (r67 : Bool) =>
      if r67 then
        (F52 n (Reader.mk s63 ii64 i65)).bind fun (r68 : (Field × Reader)) =>
        F29_u74 n r1 r2 i53 s54 i61 s62 r68.1.N r68.1.Text r68.2.s r68.2.at_ r68.2.e
      else
        F29_u74 n r1 r2 i53 s54 i61 s62 0 ByteArray.empty s63 ii64 i65
theorem F29_u66_ok (n : Nat) (r1 : (Int × Reader)) (r2 : (Int × Reader)) (i53 : Int) (s54 : ByteArray) (i61 : Int) (s62 : ByteArray) (s63 : ByteArray) (ii64 : Int) (i65 : Int) : SimL Try.prog D (n + 8) (n + 6) pc29_c43 [(2, .one (.ptr 2 0)), (5, .one (.ptr 11 0)), (6, .one (.ptr 6 0)), (51, .one (li .i64 2))] ((2, some (.cells [li .i64 0, li .u8 0, li .i64 0, li .i64 0, li .i64 0, ls ByteArray.empty, li .i64 0, ls ByteArray.empty, li .i64 0, ls ByteArray.empty, li .i64 0, ls ByteArray.empty])) :: ((6, some (.cells [li .i64 r1.1, li .u8 (IntKind.wrap .u8 r2.1), li .i64 0, li .i64 0, li .i64 i53, ls s54, li .i64 i61, ls s62, li .i64 0, ls ByteArray.empty, li .i64 0, ls ByteArray.empty])) :: ((11, some (.cells [ls s63, li .i64 ii64, li .i64 i65])) :: []))) (F29_u66 n r1 r2 i53 s54 i61 s62 s63 ii64 i65) (QB 0 (QT Try.prog D (n + 8) pc29_c65 (QF pc29_r 0 F29_e))) := by
    unfold F29_u66
    refine SimL.succ ?_
    refine Sim.seq ?_
    refine Sim.region [(2, .one (.ptr 2 0)), (5, .one (.ptr 11 0)), (6, .one (.ptr 6 0)), (51, .one (li .i64 2))] ((2, some (.cells [li .i64 0, li .u8 0, li .i64 0, li .i64 0, li .i64 0, ls ByteArray.empty, li .i64 0, ls ByteArray.empty, li .i64 0, ls ByteArray.empty, li .i64 0, ls ByteArray.empty])) :: ((6, some (.cells [li .i64 r1.1, li .u8 (IntKind.wrap .u8 r2.1), li .i64 0, li .i64 0, li .i64 i53, ls s54, li .i64 i61, ls s62, li .i64 0, ls ByteArray.empty, li .i64 0, ls ByteArray.empty])) :: ((11, some (.cells [ls s63, li .i64 ii64, li .i64 i65])) :: []))) (by kernel_rfl) ?_
    refine SimI.run 1 [(52, .one (lb true))] [] (by kernel_rfl) ?_
    refine SimI.done (by kernel_rfl) ?_
    refine SimE.thenN ?_
    refine Sim.seq ?_
    refine Sim.condT (by kernel_rfl) ?_
    refine Sim.skip ?_
    refine SimE.thenN ?_
    refine Sim.seq ?_
    refine Sim.block ?_
    refine Sim.seq ?_
    refine Sim.region0 ?_
    refine SimI.run 2 [(8, .one (li .i64 2)), (53, .one (li .i64 2))] [] (by kernel_rfl) ?_
    refine SimI.done (by kernel_rfl) ?_
    refine SimE.thenN ?_
    refine Sim.block ?_
    refine Sim.seq ?_
    refine Sim.region0 ?_
    refine SimI.run 6 [(54, .one (lb (i65 != 0))), (59, .one (lb (i65 != 0))), (58, .one (li .i64 i65)), (57, .one (.ptr 11 2)), (56, .one (.ptr 11 0)), (55, .one (.ptr 11 0))] [] (by kernel_rfl) ?_
    refine SimI.done (by kernel_rfl) ?_
    refine SimE.thenN ?_
    refine Sim.cond (i65 != 0) (by kernel_rfl) ?_ ?_
    · refine Sim.exit ?_
      refine SimE.blockY rfl ?_
      refine SimE.blockY rfl ?_
      refine SimE.thenX ?_
      refine SimE.loopX ?_
      refine SimE.blockX ?_
      refine SimE.thenN ?_
      refine Sim.pre (ts := [2, 5, 6]) (os := [2, 6, 11]) [(2, .one (.ptr 2 0)), (5, .one (.ptr 11 0)), (6, .one (.ptr 6 0))] ((2, some (.cells [li .i64 0, li .u8 0, li .i64 0, li .i64 0, li .i64 0, ls ByteArray.empty, li .i64 0, ls ByteArray.empty, li .i64 0, ls ByteArray.empty, li .i64 0, ls ByteArray.empty])) :: ((6, some (.cells [li .i64 r1.1, li .u8 (IntKind.wrap .u8 r2.1), li .i64 0, li .i64 0, li .i64 i53, ls s54, li .i64 i61, ls s62, li .i64 0, ls ByteArray.empty, li .i64 0, ls ByteArray.empty])) :: ((11, some (.cells [ls s63, li .i64 ii64, li .i64 i65])) :: []))) (by kernel_rfl) (by kernel_rfl) (by kernel_rfl) ?_
      exact F29_j94_ok n r1 r2 i53 s54 i61 s62 0 ByteArray.empty 0 ByteArray.empty s63 ii64 i65
    · refine Sim.seq ?_
      refine Sim.region0 ?_
      refine SimI.run 3 [(63, .one (li .i64 2)), (62, .one (li .u8 (IntKind.wrap .u8 r2.1))), (61, .one (.ptr 6 1))] [] (by kernel_rfl) ?_
      refine SimI.bind (og := F43 n (IntKind.wrap .u8 r2.1) 2) { dst := some 64, op := POp.call true [[], []] 43 [Operand.tmp 62, Operand.tmp 63], guard := none, hints := [] } (fun r67 => [(64, .one (lb r67))]) (fun r67 => []) (by kernel_rfl) (fun r67 hr => pOp_eff (by kernel_rfl) (by kernel_rfl) (eff_call (ARGS := [.one (li .u8 (IntKind.wrap .u8 r2.1)), .one (li .i64 2)]) (by kernel_rfl) (args_clean (by kernel_rfl) (args_clean (by kernel_rfl) args_nil)) (F43_ok n (IntKind.wrap .u8 r2.1) 2 r67 hr) (by kernel_rfl))) (fun r67 => ?_)
      refine SimI.run 1 [(60, .one (lb r67))] [] (by kernel_rfl) ?_
      refine SimI.done (by kernel_rfl) ?_
      refine SimE.thenN ?_
      refine Sim.cond r67 (by kernel_rfl) ?_ ?_
      · refine Sim.region0 ?_
        refine SimI.run 2 [(66, .one (.ptr 11 0)), (65, .one (li .i64 2))] [] (by kernel_rfl) ?_
        refine SimI.bind (og := F52 n (Reader.mk s63 ii64 i65)) { dst := some 67, op := POp.call true [[]] 52 [Operand.tmp 66], guard := none, hints := [] } (fun r68 => [(67, .agg [li .i64 r68.1.N, ls r68.1.Text])]) (fun r68 => [(11, some (.cells [ls r68.2.s, li .i64 r68.2.at_, li .i64 r68.2.e]))]) (by kernel_rfl) (fun r68 hr => pOp_eff (by kernel_rfl) (by kernel_rfl) (eff_callp (ARGS := [.one (.ptr 11 0)]) (ARGS' := [.one (.ptr 1000000 0)]) (ks := [11]) (os := [[ls s63, li .i64 ii64, li .i64 i65]]) (os' := [[ls r68.2.s, li .i64 r68.2.at_, li .i64 r68.2.e]]) (by kernel_rfl) (args_ptr (by kernel_rfl) args_nil) rfl (by kernel_rfl) (F52_ok n (Reader.mk s63 ii64 i65) r68 hr) (by kernel_rfl) (by kernel_rfl))) (fun r68 => ?_)
        refine SimI.run 3 [(69, .one (.ptr 6 8)), (68, .one (.ptr 6 4))] [(6, some (.cells [li .i64 r1.1, li .u8 (IntKind.wrap .u8 r2.1), li .i64 0, li .i64 0, li .i64 i53, ls s54, li .i64 i61, ls s62, li .i64 r68.1.N, ls r68.1.Text, li .i64 0, ls ByteArray.empty]))] (by kernel_rfl) ?_
        refine SimI.done (by kernel_rfl) ?_
        refine SimE.blockN ?_
        refine SimE.blockN ?_
        refine SimE.thenN ?_
        refine Sim.region0 ?_
        refine SimI.run 2 [(51, .one (li .i64 3)), (70, .one (li .i64 3))] [] (by kernel_rfl) ?_
        refine SimI.done (by kernel_rfl) ?_
        refine SimE.loopN ?_
        refine SimL.pre (ts := [2, 5, 6, 51]) (os := [2, 6, 11]) [(2, .one (.ptr 2 0)), (5, .one (.ptr 11 0)), (6, .one (.ptr 6 0)), (51, .one (li .i64 3))] ((2, some (.cells [li .i64 0, li .u8 0, li .i64 0, li .i64 0, li .i64 0, ls ByteArray.empty, li .i64 0, ls ByteArray.empty, li .i64 0, ls ByteArray.empty, li .i64 0, ls ByteArray.empty])) :: ((6, some (.cells [li .i64 r1.1, li .u8 (IntKind.wrap .u8 r2.1), li .i64 0, li .i64 0, li .i64 i53, ls s54, li .i64 i61, ls s62, li .i64 r68.1.N, ls r68.1.Text, li .i64 0, ls ByteArray.empty])) :: ((11, some (.cells [ls r68.2.s, li .i64 r68.2.at_, li .i64 r68.2.e])) :: []))) (by kernel_rfl) (by kernel_rfl) (by kernel_rfl) ?_
        exact F29_u74_ok n r1 r2 i53 s54 i61 s62 r68.1.N r68.1.Text r68.2.s r68.2.at_ r68.2.e
      · refine Sim.skip ?_
        refine SimE.blockN ?_
        refine SimE.blockN ?_
        refine SimE.thenN ?_
        refine Sim.region0 ?_
        refine SimI.run 2 [(51, .one (li .i64 3)), (70, .one (li .i64 3))] [] (by kernel_rfl) ?_
        refine SimI.done (by kernel_rfl) ?_
        refine SimE.loopN ?_
        refine SimL.pre (ts := [2, 5, 6, 51]) (os := [2, 6, 11]) [(2, .one (.ptr 2 0)), (5, .one (.ptr 11 0)), (6, .one (.ptr 6 0)), (51, .one (li .i64 3))] ((2, some (.cells [li .i64 0, li .u8 0, li .i64 0, li .i64 0, li .i64 0, ls ByteArray.empty, li .i64 0, ls ByteArray.empty, li .i64 0, ls ByteArray.empty, li .i64 0, ls ByteArray.empty])) :: ((6, some (.cells [li .i64 r1.1, li .u8 (IntKind.wrap .u8 r2.1), li .i64 0, li .i64 0, li .i64 i53, ls s54, li .i64 i61, ls s62, li .i64 0, ls ByteArray.empty, li .i64 0, ls ByteArray.empty])) :: ((11, some (.cells [ls s63, li .i64 ii64, li .i64 i65])) :: []))) (by kernel_rfl) (by kernel_rfl) (by kernel_rfl) ?_
        exact F29_u74_ok n r1 r2 i53 s54 i61 s62 0 ByteArray.empty s63 ii64 i65

def F29_u58 (n : Nat) (r1 : (Int × Reader)) (r2 : (Int × Reader)) (i53 : Int) (s54 : ByteArray) (s55 : ByteArray) (i56 : Int) (i57 : Int) : Option (Delta × Int × Int) :=
    if i57 != 0 then
      F29_j94 n r1 r2 i53 s54 0 ByteArray.empty 0 ByteArray.empty 0 ByteArray.empty s55 i56 i57
    else
      (F43 n (IntKind.wrap .u8 r2.1) 1).bind fun (r59 : Bool) =>
      if r59 then
        (F52 n (Reader.mk s55 i56 i57)).bind fun (r60 : (Field × Reader)) =>
        F29_u66 n r1 r2 i53 s54 r60.1.N r60.1.Text r60.2.s r60.2.at_ r60.2.e
      else
        F29_u66 n r1 r2 i53 s54 0 ByteArray.empty s55 i56 i57
theorem F29_u58_ok (n : Nat) (r1 : (Int × Reader)) (r2 : (Int × Reader)) (i53 : Int) (s54 : ByteArray) (s55 : ByteArray) (i56 : Int) (i57 : Int) : SimL Try.prog D (n + 8) (n + 7) pc29_c43 [(2, .one (.ptr 2 0)), (5, .one (.ptr 11 0)), (6, .one (.ptr 6 0)), (51, .one (li .i64 1))] ((2, some (.cells [li .i64 0, li .u8 0, li .i64 0, li .i64 0, li .i64 0, ls ByteArray.empty, li .i64 0, ls ByteArray.empty, li .i64 0, ls ByteArray.empty, li .i64 0, ls ByteArray.empty])) :: ((6, some (.cells [li .i64 r1.1, li .u8 (IntKind.wrap .u8 r2.1), li .i64 0, li .i64 0, li .i64 i53, ls s54, li .i64 0, ls ByteArray.empty, li .i64 0, ls ByteArray.empty, li .i64 0, ls ByteArray.empty])) :: ((11, some (.cells [ls s55, li .i64 i56, li .i64 i57])) :: []))) (F29_u58 n r1 r2 i53 s54 s55 i56 i57) (QB 0 (QT Try.prog D (n + 8) pc29_c65 (QF pc29_r 0 F29_e))) := by
    unfold F29_u58
    refine SimL.succ ?_
    refine Sim.seq ?_
    refine Sim.region [(2, .one (.ptr 2 0)), (5, .one (.ptr 11 0)), (6, .one (.ptr 6 0)), (51, .one (li .i64 1))] ((2, some (.cells [li .i64 0, li .u8 0, li .i64 0, li .i64 0, li .i64 0, ls ByteArray.empty, li .i64 0, ls ByteArray.empty, li .i64 0, ls ByteArray.empty, li .i64 0, ls ByteArray.empty])) :: ((6, some (.cells [li .i64 r1.1, li .u8 (IntKind.wrap .u8 r2.1), li .i64 0, li .i64 0, li .i64 i53, ls s54, li .i64 0, ls ByteArray.empty, li .i64 0, ls ByteArray.empty, li .i64 0, ls ByteArray.empty])) :: ((11, some (.cells [ls s55, li .i64 i56, li .i64 i57])) :: []))) (by kernel_rfl) ?_
    refine SimI.run 1 [(52, .one (lb true))] [] (by kernel_rfl) ?_
    refine SimI.done (by kernel_rfl) ?_
    refine SimE.thenN ?_
    refine Sim.seq ?_
    refine Sim.condT (by kernel_rfl) ?_
    refine Sim.skip ?_
    refine SimE.thenN ?_
    refine Sim.seq ?_
    refine Sim.block ?_
    refine Sim.seq ?_
    refine Sim.region0 ?_
    refine SimI.run 2 [(8, .one (li .i64 1)), (53, .one (li .i64 1))] [] (by kernel_rfl) ?_
    refine SimI.done (by kernel_rfl) ?_
    refine SimE.thenN ?_
    refine Sim.block ?_
    refine Sim.seq ?_
    refine Sim.region0 ?_
    refine SimI.run 6 [(54, .one (lb (i57 != 0))), (59, .one (lb (i57 != 0))), (58, .one (li .i64 i57)), (57, .one (.ptr 11 2)), (56, .one (.ptr 11 0)), (55, .one (.ptr 11 0))] [] (by kernel_rfl) ?_
    refine SimI.done (by kernel_rfl) ?_
    refine SimE.thenN ?_
    refine Sim.cond (i57 != 0) (by kernel_rfl) ?_ ?_
    · refine Sim.exit ?_
      refine SimE.blockY rfl ?_
      refine SimE.blockY rfl ?_
      refine SimE.thenX ?_
      refine SimE.loopX ?_
      refine SimE.blockX ?_
      refine SimE.thenN ?_
      refine Sim.pre (ts := [2, 5, 6]) (os := [2, 6, 11]) [(2, .one (.ptr 2 0)), (5, .one (.ptr 11 0)), (6, .one (.ptr 6 0))] ((2, some (.cells [li .i64 0, li .u8 0, li .i64 0, li .i64 0, li .i64 0, ls ByteArray.empty, li .i64 0, ls ByteArray.empty, li .i64 0, ls ByteArray.empty, li .i64 0, ls ByteArray.empty])) :: ((6, some (.cells [li .i64 r1.1, li .u8 (IntKind.wrap .u8 r2.1), li .i64 0, li .i64 0, li .i64 i53, ls s54, li .i64 0, ls ByteArray.empty, li .i64 0, ls ByteArray.empty, li .i64 0, ls ByteArray.empty])) :: ((11, some (.cells [ls s55, li .i64 i56, li .i64 i57])) :: []))) (by kernel_rfl) (by kernel_rfl) (by kernel_rfl) ?_
      exact F29_j94_ok n r1 r2 i53 s54 0 ByteArray.empty 0 ByteArray.empty 0 ByteArray.empty s55 i56 i57
    · refine Sim.seq ?_
      refine Sim.region0 ?_
      refine SimI.run 3 [(63, .one (li .i64 1)), (62, .one (li .u8 (IntKind.wrap .u8 r2.1))), (61, .one (.ptr 6 1))] [] (by kernel_rfl) ?_
      refine SimI.bind (og := F43 n (IntKind.wrap .u8 r2.1) 1) { dst := some 64, op := POp.call true [[], []] 43 [Operand.tmp 62, Operand.tmp 63], guard := none, hints := [] } (fun r59 => [(64, .one (lb r59))]) (fun r59 => []) (by kernel_rfl) (fun r59 hr => pOp_eff (by kernel_rfl) (by kernel_rfl) (eff_call (ARGS := [.one (li .u8 (IntKind.wrap .u8 r2.1)), .one (li .i64 1)]) (by kernel_rfl) (args_clean (by kernel_rfl) (args_clean (by kernel_rfl) args_nil)) (F43_ok n (IntKind.wrap .u8 r2.1) 1 r59 hr) (by kernel_rfl))) (fun r59 => ?_)
      refine SimI.run 1 [(60, .one (lb r59))] [] (by kernel_rfl) ?_
      refine SimI.done (by kernel_rfl) ?_
      refine SimE.thenN ?_
      refine Sim.cond r59 (by kernel_rfl) ?_ ?_
      · refine Sim.region0 ?_
        refine SimI.run 2 [(66, .one (.ptr 11 0)), (65, .one (li .i64 1))] [] (by kernel_rfl) ?_
        refine SimI.bind (og := F52 n (Reader.mk s55 i56 i57)) { dst := some 67, op := POp.call true [[]] 52 [Operand.tmp 66], guard := none, hints := [] } (fun r60 => [(67, .agg [li .i64 r60.1.N, ls r60.1.Text])]) (fun r60 => [(11, some (.cells [ls r60.2.s, li .i64 r60.2.at_, li .i64 r60.2.e]))]) (by kernel_rfl) (fun r60 hr => pOp_eff (by kernel_rfl) (by kernel_rfl) (eff_callp (ARGS := [.one (.ptr 11 0)]) (ARGS' := [.one (.ptr 1000000 0)]) (ks := [11]) (os := [[ls s55, li .i64 i56, li .i64 i57]]) (os' := [[ls r60.2.s, li .i64 r60.2.at_, li .i64 r60.2.e]]) (by kernel_rfl) (args_ptr (by kernel_rfl) args_nil) rfl (by kernel_rfl) (F52_ok n (Reader.mk s55 i56 i57) r60 hr) (by kernel_rfl) (by kernel_rfl))) (fun r60 => ?_)
        refine SimI.run 3 [(69, .one (.ptr 6 6)), (68, .one (.ptr 6 4))] [(6, some (.cells [li .i64 r1.1, li .u8 (IntKind.wrap .u8 r2.1), li .i64 0, li .i64 0, li .i64 i53, ls s54, li .i64 r60.1.N, ls r60.1.Text, li .i64 0, ls ByteArray.empty, li .i64 0, ls ByteArray.empty]))] (by kernel_rfl) ?_
        refine SimI.done (by kernel_rfl) ?_
        refine SimE.blockN ?_
        refine SimE.blockN ?_
        refine SimE.thenN ?_
        refine Sim.region0 ?_
        refine SimI.run 2 [(51, .one (li .i64 2)), (70, .one (li .i64 2))] [] (by kernel_rfl) ?_
        refine SimI.done (by kernel_rfl) ?_
        refine SimE.loopN ?_
        refine SimL.pre (ts := [2, 5, 6, 51]) (os := [2, 6, 11]) [(2, .one (.ptr 2 0)), (5, .one (.ptr 11 0)), (6, .one (.ptr 6 0)), (51, .one (li .i64 2))] ((2, some (.cells [li .i64 0, li .u8 0, li .i64 0, li .i64 0, li .i64 0, ls ByteArray.empty, li .i64 0, ls ByteArray.empty, li .i64 0, ls ByteArray.empty, li .i64 0, ls ByteArray.empty])) :: ((6, some (.cells [li .i64 r1.1, li .u8 (IntKind.wrap .u8 r2.1), li .i64 0, li .i64 0, li .i64 i53, ls s54, li .i64 r60.1.N, ls r60.1.Text, li .i64 0, ls ByteArray.empty, li .i64 0, ls ByteArray.empty])) :: ((11, some (.cells [ls r60.2.s, li .i64 r60.2.at_, li .i64 r60.2.e])) :: []))) (by kernel_rfl) (by kernel_rfl) (by kernel_rfl) ?_
        exact F29_u66_ok n r1 r2 i53 s54 r60.1.N r60.1.Text r60.2.s r60.2.at_ r60.2.e
      · refine Sim.skip ?_
        refine SimE.blockN ?_
        refine SimE.blockN ?_
        refine SimE.thenN ?_
        refine Sim.region0 ?_
        refine SimI.run 2 [(51, .one (li .i64 2)), (70, .one (li .i64 2))] [] (by kernel_rfl) ?_
        refine SimI.done (by kernel_rfl) ?_
        refine SimE.loopN ?_
        refine SimL.pre (ts := [2, 5, 6, 51]) (os := [2, 6, 11]) [(2, .one (.ptr 2 0)), (5, .one (.ptr 11 0)), (6, .one (.ptr 6 0)), (51, .one (li .i64 2))] ((2, some (.cells [li .i64 0, li .u8 0, li .i64 0, li .i64 0, li .i64 0, ls ByteArray.empty, li .i64 0, ls ByteArray.empty, li .i64 0, ls ByteArray.empty, li .i64 0, ls ByteArray.empty])) :: ((6, some (.cells [li .i64 r1.1, li .u8 (IntKind.wrap .u8 r2.1), li .i64 0, li .i64 0, li .i64 i53, ls s54, li .i64 0, ls ByteArray.empty, li .i64 0, ls ByteArray.empty, li .i64 0, ls ByteArray.empty])) :: ((11, some (.cells [ls s55, li .i64 i56, li .i64 i57])) :: []))) (by kernel_rfl) (by kernel_rfl) (by kernel_rfl) ?_
        exact F29_u66_ok n r1 r2 i53 s54 0 ByteArray.empty s55 i56 i57

def F29_j3 (n : Nat) (r1 : (Int × Reader)) (r2 : (Int × Reader)) : Option (Delta × Int × Int) :=
    if (bitsI .and .u8 (IntKind.wrap .u8 r2.1) 1) != 0 then
      (F51 n r2.2).bind fun (r4 : (Int × Reader)) =>
      (F51 n r4.2).bind fun (r5 : (Int × Reader)) =>
      if r5.2.e != 0 then
        F29_j49 n r1 r2 r4 r5 0 ByteArray.empty 0 ByteArray.empty 0 ByteArray.empty 0 ByteArray.empty r5.2.s r5.2.at_ r5.2.e
      else
        (F43 n (IntKind.wrap .u8 r2.1) 0).bind fun (r6 : Bool) =>
        if r6 then
          (F52 n r5.2).bind fun (r7 : (Field × Reader)) =>
          F29_u13 n r1 r2 r4 r5 r7.1.N r7.1.Text r7.2.s r7.2.at_ r7.2.e
        else
          F29_u13 n r1 r2 r4 r5 0 ByteArray.empty r5.2.s r5.2.at_ r5.2.e
    else
      if r2.2.e != 0 then
        F29_j94 n r1 r2 0 ByteArray.empty 0 ByteArray.empty 0 ByteArray.empty 0 ByteArray.empty r2.2.s r2.2.at_ r2.2.e
      else
        (F43 n (IntKind.wrap .u8 r2.1) 0).bind fun (r51 : Bool) =>
        if r51 then
          (F52 n r2.2).bind fun (r52 : (Field × Reader)) =>
          F29_u58 n r1 r2 r52.1.N r52.1.Text r52.2.s r52.2.at_ r52.2.e
        else
          F29_u58 n r1 r2 0 ByteArray.empty r2.2.s r2.2.at_ r2.2.e
theorem F29_j3_ok (n : Nat) (r1 : (Int × Reader)) (r2 : (Int × Reader)) : Sim Try.prog D (n + 8) pc29_c68 [(2, .one (.ptr 2 0)), (5, .one (.ptr 11 0)), (6, .one (.ptr 6 0)), (7, .one (li .i64 r2.1))] ((2, some (.cells [li .i64 0, li .u8 0, li .i64 0, li .i64 0, li .i64 0, ls ByteArray.empty, li .i64 0, ls ByteArray.empty, li .i64 0, ls ByteArray.empty, li .i64 0, ls ByteArray.empty])) :: ((6, some (.cells [li .i64 r1.1, li .u8 0, li .i64 0, li .i64 0, li .i64 0, ls ByteArray.empty, li .i64 0, ls ByteArray.empty, li .i64 0, ls ByteArray.empty, li .i64 0, ls ByteArray.empty])) :: ((11, some (.cells [ls r2.2.s, li .i64 r2.2.at_, li .i64 r2.2.e])) :: []))) (F29_j3 n r1 r2) (QF pc29_r 0 F29_e) := by
    unfold F29_j3
    refine Sim.seq ?_
    refine Sim.seq ?_
    refine Sim.region [(2, .one (.ptr 2 0)), (5, .one (.ptr 11 0)), (6, .one (.ptr 6 0)), (7, .one (li .i64 r2.1))] ((2, some (.cells [li .i64 0, li .u8 0, li .i64 0, li .i64 0, li .i64 0, ls ByteArray.empty, li .i64 0, ls ByteArray.empty, li .i64 0, ls ByteArray.empty, li .i64 0, ls ByteArray.empty])) :: ((6, some (.cells [li .i64 r1.1, li .u8 0, li .i64 0, li .i64 0, li .i64 0, ls ByteArray.empty, li .i64 0, ls ByteArray.empty, li .i64 0, ls ByteArray.empty, li .i64 0, ls ByteArray.empty])) :: ((11, some (.cells [ls r2.2.s, li .i64 r2.2.at_, li .i64 r2.2.e])) :: []))) (by kernel_rfl) ?_
    refine SimI.run 4 [(38, .one (.ptr 6 1)), (37, .one (li .u8 (IntKind.wrap .u8 r2.1))), (36, .one (li .i64 r2.1))] [(6, some (.cells [li .i64 r1.1, li .u8 (IntKind.wrap .u8 r2.1), li .i64 0, li .i64 0, li .i64 0, ls ByteArray.empty, li .i64 0, ls ByteArray.empty, li .i64 0, ls ByteArray.empty, li .i64 0, ls ByteArray.empty]))] (by kernel_rfl) ?_
    refine SimI.done (by kernel_rfl) ?_
    refine SimE.thenN ?_
    refine Sim.seq ?_
    refine Sim.region0 ?_
    refine SimI.run 4 [(42, .one (lb ((bitsI .and .u8 (IntKind.wrap .u8 r2.1) 1) != 0))), (41, .one (li .u8 (bitsI .and .u8 (IntKind.wrap .u8 r2.1) 1))), (40, .one (li .u8 (IntKind.wrap .u8 r2.1))), (39, .one (.ptr 6 1))] [] (by kernel_rfl) ?_
    refine SimI.done (by kernel_rfl) ?_
    refine SimE.thenN ?_
    refine Sim.cond ((bitsI .and .u8 (IntKind.wrap .u8 r2.1) 1) != 0) (by kernel_rfl) ?_ ?_
    · refine Sim.seq ?_
      refine Sim.region0 ?_
      refine SimI.run 1 [(43, .one (.ptr 11 0))] [] (by kernel_rfl) ?_
      refine SimI.bind (og := F51 n r2.2) { dst := some 44, op := POp.call true [[]] 51 [Operand.tmp 43], guard := none, hints := [] } (fun r4 => [(44, .one (li .i64 r4.1))]) (fun r4 => [(11, some (.cells [ls r4.2.s, li .i64 r4.2.at_, li .i64 r4.2.e]))]) (by kernel_rfl) (fun r4 hr => pOp_eff (by kernel_rfl) (by kernel_rfl) (eff_callp (ARGS := [.one (.ptr 11 0)]) (ARGS' := [.one (.ptr 1000000 0)]) (ks := [11]) (os := [[ls r2.2.s, li .i64 r2.2.at_, li .i64 r2.2.e]]) (os' := [[ls r4.2.s, li .i64 r4.2.at_, li .i64 r4.2.e]]) (by kernel_rfl) (args_ptr (by kernel_rfl) args_nil) rfl (by kernel_rfl) (F51_ok n r2.2 r4 hr) (by kernel_rfl) (by kernel_rfl))) (fun r4 => ?_)
      refine SimI.run 3 [(46, .one (.ptr 6 2)), (45, .one (.ptr 6 2))] [(6, some (.cells [li .i64 r1.1, li .u8 (IntKind.wrap .u8 r2.1), li .i64 r4.1, li .i64 0, li .i64 0, ls ByteArray.empty, li .i64 0, ls ByteArray.empty, li .i64 0, ls ByteArray.empty, li .i64 0, ls ByteArray.empty]))] (by kernel_rfl) ?_
      refine SimI.done (by kernel_rfl) ?_
      refine SimE.thenN ?_
      refine Sim.region0 ?_
      refine SimI.run 1 [(47, .one (.ptr 11 0))] [] (by kernel_rfl) ?_
      refine SimI.bind (og := F51 n r4.2) { dst := some 48, op := POp.call true [[]] 51 [Operand.tmp 47], guard := none, hints := [] } (fun r5 => [(48, .one (li .i64 r5.1))]) (fun r5 => [(11, some (.cells [ls r5.2.s, li .i64 r5.2.at_, li .i64 r5.2.e]))]) (by kernel_rfl) (fun r5 hr => pOp_eff (by kernel_rfl) (by kernel_rfl) (eff_callp (ARGS := [.one (.ptr 11 0)]) (ARGS' := [.one (.ptr 1000000 0)]) (ks := [11]) (os := [[ls r4.2.s, li .i64 r4.2.at_, li .i64 r4.2.e]]) (os' := [[ls r5.2.s, li .i64 r5.2.at_, li .i64 r5.2.e]]) (by kernel_rfl) (args_ptr (by kernel_rfl) args_nil) rfl (by kernel_rfl) (F51_ok n r4.2 r5 hr) (by kernel_rfl) (by kernel_rfl))) (fun r5 => ?_)
      refine SimI.run 3 [(50, .one (.ptr 6 3)), (49, .one (.ptr 6 2))] [(6, some (.cells [li .i64 r1.1, li .u8 (IntKind.wrap .u8 r2.1), li .i64 r4.1, li .i64 r5.1, li .i64 0, ls ByteArray.empty, li .i64 0, ls ByteArray.empty, li .i64 0, ls ByteArray.empty, li .i64 0, ls ByteArray.empty]))] (by kernel_rfl) ?_
      refine SimI.done (by kernel_rfl) ?_
      refine SimE.thenN ?_
      refine Sim.seq ?_
      refine Sim.label ?_
      refine SimE.thenN ?_
      refine Sim.seq ?_
      refine Sim.seq ?_
      refine Sim.region0 ?_
      refine SimI.run 1 [(51, .one (li .i64 0))] [] (by kernel_rfl) ?_
      refine SimI.done (by kernel_rfl) ?_
      refine SimE.thenN ?_
      refine Sim.block ?_
      refine Sim.loop ?_
      refine SimL.succ ?_
      refine Sim.seq ?_
      refine Sim.region [(2, .one (.ptr 2 0)), (5, .one (.ptr 11 0)), (6, .one (.ptr 6 0)), (51, .one (li .i64 0))] ((2, some (.cells [li .i64 0, li .u8 0, li .i64 0, li .i64 0, li .i64 0, ls ByteArray.empty, li .i64 0, ls ByteArray.empty, li .i64 0, ls ByteArray.empty, li .i64 0, ls ByteArray.empty])) :: ((6, some (.cells [li .i64 r1.1, li .u8 (IntKind.wrap .u8 r2.1), li .i64 r4.1, li .i64 r5.1, li .i64 0, ls ByteArray.empty, li .i64 0, ls ByteArray.empty, li .i64 0, ls ByteArray.empty, li .i64 0, ls ByteArray.empty])) :: ((11, some (.cells [ls r5.2.s, li .i64 r5.2.at_, li .i64 r5.2.e])) :: []))) (by kernel_rfl) ?_
      refine SimI.run 1 [(52, .one (lb true))] [] (by kernel_rfl) ?_
      refine SimI.done (by kernel_rfl) ?_
      refine SimE.thenN ?_
      refine Sim.seq ?_
      refine Sim.condT (by kernel_rfl) ?_
      refine Sim.skip ?_
      refine SimE.thenN ?_
      refine Sim.seq ?_
      refine Sim.block ?_
      refine Sim.seq ?_
      refine Sim.region0 ?_
      refine SimI.run 2 [(8, .one (li .i64 0)), (53, .one (li .i64 0))] [] (by kernel_rfl) ?_
      refine SimI.done (by kernel_rfl) ?_
      refine SimE.thenN ?_
      refine Sim.block ?_
      refine Sim.seq ?_
      refine Sim.region0 ?_
      refine SimI.run 6 [(54, .one (lb (r5.2.e != 0))), (59, .one (lb (r5.2.e != 0))), (58, .one (li .i64 r5.2.e)), (57, .one (.ptr 11 2)), (56, .one (.ptr 11 0)), (55, .one (.ptr 11 0))] [] (by kernel_rfl) ?_
      refine SimI.done (by kernel_rfl) ?_
      refine SimE.thenN ?_
      refine Sim.cond (r5.2.e != 0) (by kernel_rfl) ?_ ?_
      · refine Sim.exit ?_
        refine SimE.blockY rfl ?_
        refine SimE.blockY rfl ?_
        refine SimE.thenX ?_
        refine SimE.loopX ?_
        refine SimE.blockX ?_
        refine SimE.thenN ?_
        refine Sim.pre (ts := [2, 5, 6]) (os := [2, 6, 11]) [(2, .one (.ptr 2 0)), (5, .one (.ptr 11 0)), (6, .one (.ptr 6 0))] ((2, some (.cells [li .i64 0, li .u8 0, li .i64 0, li .i64 0, li .i64 0, ls ByteArray.empty, li .i64 0, ls ByteArray.empty, li .i64 0, ls ByteArray.empty, li .i64 0, ls ByteArray.empty])) :: ((6, some (.cells [li .i64 r1.1, li .u8 (IntKind.wrap .u8 r2.1), li .i64 r4.1, li .i64 r5.1, li .i64 0, ls ByteArray.empty, li .i64 0, ls ByteArray.empty, li .i64 0, ls ByteArray.empty, li .i64 0, ls ByteArray.empty])) :: ((11, some (.cells [ls r5.2.s, li .i64 r5.2.at_, li .i64 r5.2.e])) :: []))) (by kernel_rfl) (by kernel_rfl) (by kernel_rfl) ?_
        exact F29_j49_ok n r1 r2 r4 r5 0 ByteArray.empty 0 ByteArray.empty 0 ByteArray.empty 0 ByteArray.empty r5.2.s r5.2.at_ r5.2.e
      · refine Sim.seq ?_
        refine Sim.region0 ?_
        refine SimI.run 3 [(63, .one (li .i64 0)), (62, .one (li .u8 (IntKind.wrap .u8 r2.1))), (61, .one (.ptr 6 1))] [] (by kernel_rfl) ?_
        refine SimI.bind (og := F43 n (IntKind.wrap .u8 r2.1) 0) { dst := some 64, op := POp.call true [[], []] 43 [Operand.tmp 62, Operand.tmp 63], guard := none, hints := [] } (fun r6 => [(64, .one (lb r6))]) (fun r6 => []) (by kernel_rfl) (fun r6 hr => pOp_eff (by kernel_rfl) (by kernel_rfl) (eff_call (ARGS := [.one (li .u8 (IntKind.wrap .u8 r2.1)), .one (li .i64 0)]) (by kernel_rfl) (args_clean (by kernel_rfl) (args_clean (by kernel_rfl) args_nil)) (F43_ok n (IntKind.wrap .u8 r2.1) 0 r6 hr) (by kernel_rfl))) (fun r6 => ?_)
        refine SimI.run 1 [(60, .one (lb r6))] [] (by kernel_rfl) ?_
        refine SimI.done (by kernel_rfl) ?_
        refine SimE.thenN ?_
        refine Sim.cond r6 (by kernel_rfl) ?_ ?_
        · refine Sim.region0 ?_
          refine SimI.run 2 [(66, .one (.ptr 11 0)), (65, .one (li .i64 0))] [] (by kernel_rfl) ?_
          refine SimI.bind (og := F52 n r5.2) { dst := some 67, op := POp.call true [[]] 52 [Operand.tmp 66], guard := none, hints := [] } (fun r7 => [(67, .agg [li .i64 r7.1.N, ls r7.1.Text])]) (fun r7 => [(11, some (.cells [ls r7.2.s, li .i64 r7.2.at_, li .i64 r7.2.e]))]) (by kernel_rfl) (fun r7 hr => pOp_eff (by kernel_rfl) (by kernel_rfl) (eff_callp (ARGS := [.one (.ptr 11 0)]) (ARGS' := [.one (.ptr 1000000 0)]) (ks := [11]) (os := [[ls r5.2.s, li .i64 r5.2.at_, li .i64 r5.2.e]]) (os' := [[ls r7.2.s, li .i64 r7.2.at_, li .i64 r7.2.e]]) (by kernel_rfl) (args_ptr (by kernel_rfl) args_nil) rfl (by kernel_rfl) (F52_ok n r5.2 r7 hr) (by kernel_rfl) (by kernel_rfl))) (fun r7 => ?_)
          refine SimI.run 3 [(69, .one (.ptr 6 4)), (68, .one (.ptr 6 4))] [(6, some (.cells [li .i64 r1.1, li .u8 (IntKind.wrap .u8 r2.1), li .i64 r4.1, li .i64 r5.1, li .i64 r7.1.N, ls r7.1.Text, li .i64 0, ls ByteArray.empty, li .i64 0, ls ByteArray.empty, li .i64 0, ls ByteArray.empty]))] (by kernel_rfl) ?_
          refine SimI.done (by kernel_rfl) ?_
          refine SimE.blockN ?_
          refine SimE.blockN ?_
          refine SimE.thenN ?_
          refine Sim.region0 ?_
          refine SimI.run 2 [(51, .one (li .i64 1)), (70, .one (li .i64 1))] [] (by kernel_rfl) ?_
          refine SimI.done (by kernel_rfl) ?_
          refine SimE.loopN ?_
          refine SimL.pre (ts := [2, 5, 6, 51]) (os := [2, 6, 11]) [(2, .one (.ptr 2 0)), (5, .one (.ptr 11 0)), (6, .one (.ptr 6 0)), (51, .one (li .i64 1))] ((2, some (.cells [li .i64 0, li .u8 0, li .i64 0, li .i64 0, li .i64 0, ls ByteArray.empty, li .i64 0, ls ByteArray.empty, li .i64 0, ls ByteArray.empty, li .i64 0, ls ByteArray.empty])) :: ((6, some (.cells [li .i64 r1.1, li .u8 (IntKind.wrap .u8 r2.1), li .i64 r4.1, li .i64 r5.1, li .i64 r7.1.N, ls r7.1.Text, li .i64 0, ls ByteArray.empty, li .i64 0, ls ByteArray.empty, li .i64 0, ls ByteArray.empty])) :: ((11, some (.cells [ls r7.2.s, li .i64 r7.2.at_, li .i64 r7.2.e])) :: []))) (by kernel_rfl) (by kernel_rfl) (by kernel_rfl) ?_
          exact F29_u13_ok n r1 r2 r4 r5 r7.1.N r7.1.Text r7.2.s r7.2.at_ r7.2.e
        · refine Sim.skip ?_
          refine SimE.blockN ?_
          refine SimE.blockN ?_
          refine SimE.thenN ?_
          refine Sim.region0 ?_
          refine SimI.run 2 [(51, .one (li .i64 1)), (70, .one (li .i64 1))] [] (by kernel_rfl) ?_
          refine SimI.done (by kernel_rfl) ?_
          refine SimE.loopN ?_
          refine SimL.pre (ts := [2, 5, 6, 51]) (os := [2, 6, 11]) [(2, .one (.ptr 2 0)), (5, .one (.ptr 11 0)), (6, .one (.ptr 6 0)), (51, .one (li .i64 1))] ((2, some (.cells [li .i64 0, li .u8 0, li .i64 0, li .i64 0, li .i64 0, ls ByteArray.empty, li .i64 0, ls ByteArray.empty, li .i64 0, ls ByteArray.empty, li .i64 0, ls ByteArray.empty])) :: ((6, some (.cells [li .i64 r1.1, li .u8 (IntKind.wrap .u8 r2.1), li .i64 r4.1, li .i64 r5.1, li .i64 0, ls ByteArray.empty, li .i64 0, ls ByteArray.empty, li .i64 0, ls ByteArray.empty, li .i64 0, ls ByteArray.empty])) :: ((11, some (.cells [ls r5.2.s, li .i64 r5.2.at_, li .i64 r5.2.e])) :: []))) (by kernel_rfl) (by kernel_rfl) (by kernel_rfl) ?_
          exact F29_u13_ok n r1 r2 r4 r5 0 ByteArray.empty r5.2.s r5.2.at_ r5.2.e
    · refine Sim.skip ?_
      refine SimE.thenN ?_
      refine Sim.seq ?_
      refine Sim.label ?_
      refine SimE.thenN ?_
      refine Sim.seq ?_
      refine Sim.seq ?_
      refine Sim.region0 ?_
      refine SimI.run 1 [(51, .one (li .i64 0))] [] (by kernel_rfl) ?_
      refine SimI.done (by kernel_rfl) ?_
      refine SimE.thenN ?_
      refine Sim.block ?_
      refine Sim.loop ?_
      refine SimL.succ ?_
      refine Sim.seq ?_
      refine Sim.region [(2, .one (.ptr 2 0)), (5, .one (.ptr 11 0)), (6, .one (.ptr 6 0)), (51, .one (li .i64 0))] ((2, some (.cells [li .i64 0, li .u8 0, li .i64 0, li .i64 0, li .i64 0, ls ByteArray.empty, li .i64 0, ls ByteArray.empty, li .i64 0, ls ByteArray.empty, li .i64 0, ls ByteArray.empty])) :: ((6, some (.cells [li .i64 r1.1, li .u8 (IntKind.wrap .u8 r2.1), li .i64 0, li .i64 0, li .i64 0, ls ByteArray.empty, li .i64 0, ls ByteArray.empty, li .i64 0, ls ByteArray.empty, li .i64 0, ls ByteArray.empty])) :: ((11, some (.cells [ls r2.2.s, li .i64 r2.2.at_, li .i64 r2.2.e])) :: []))) (by kernel_rfl) ?_
      refine SimI.run 1 [(52, .one (lb true))] [] (by kernel_rfl) ?_
      refine SimI.done (by kernel_rfl) ?_
      refine SimE.thenN ?_
      refine Sim.seq ?_
      refine Sim.condT (by kernel_rfl) ?_
      refine Sim.skip ?_
      refine SimE.thenN ?_
      refine Sim.seq ?_
      refine Sim.block ?_
      refine Sim.seq ?_
      refine Sim.region0 ?_
      refine SimI.run 2 [(8, .one (li .i64 0)), (53, .one (li .i64 0))] [] (by kernel_rfl) ?_
      refine SimI.done (by kernel_rfl) ?_
      refine SimE.thenN ?_
      refine Sim.block ?_
      refine Sim.seq ?_
      refine Sim.region0 ?_
      refine SimI.run 6 [(54, .one (lb (r2.2.e != 0))), (59, .one (lb (r2.2.e != 0))), (58, .one (li .i64 r2.2.e)), (57, .one (.ptr 11 2)), (56, .one (.ptr 11 0)), (55, .one (.ptr 11 0))] [] (by kernel_rfl) ?_
      refine SimI.done (by kernel_rfl) ?_
      refine SimE.thenN ?_
      refine Sim.cond (r2.2.e != 0) (by kernel_rfl) ?_ ?_
      · refine Sim.exit ?_
        refine SimE.blockY rfl ?_
        refine SimE.blockY rfl ?_
        refine SimE.thenX ?_
        refine SimE.loopX ?_
        refine SimE.blockX ?_
        refine SimE.thenN ?_
        refine Sim.pre (ts := [2, 5, 6]) (os := [2, 6, 11]) [(2, .one (.ptr 2 0)), (5, .one (.ptr 11 0)), (6, .one (.ptr 6 0))] ((2, some (.cells [li .i64 0, li .u8 0, li .i64 0, li .i64 0, li .i64 0, ls ByteArray.empty, li .i64 0, ls ByteArray.empty, li .i64 0, ls ByteArray.empty, li .i64 0, ls ByteArray.empty])) :: ((6, some (.cells [li .i64 r1.1, li .u8 (IntKind.wrap .u8 r2.1), li .i64 0, li .i64 0, li .i64 0, ls ByteArray.empty, li .i64 0, ls ByteArray.empty, li .i64 0, ls ByteArray.empty, li .i64 0, ls ByteArray.empty])) :: ((11, some (.cells [ls r2.2.s, li .i64 r2.2.at_, li .i64 r2.2.e])) :: []))) (by kernel_rfl) (by kernel_rfl) (by kernel_rfl) ?_
        exact F29_j94_ok n r1 r2 0 ByteArray.empty 0 ByteArray.empty 0 ByteArray.empty 0 ByteArray.empty r2.2.s r2.2.at_ r2.2.e
      · refine Sim.seq ?_
        refine Sim.region0 ?_
        refine SimI.run 3 [(63, .one (li .i64 0)), (62, .one (li .u8 (IntKind.wrap .u8 r2.1))), (61, .one (.ptr 6 1))] [] (by kernel_rfl) ?_
        refine SimI.bind (og := F43 n (IntKind.wrap .u8 r2.1) 0) { dst := some 64, op := POp.call true [[], []] 43 [Operand.tmp 62, Operand.tmp 63], guard := none, hints := [] } (fun r51 => [(64, .one (lb r51))]) (fun r51 => []) (by kernel_rfl) (fun r51 hr => pOp_eff (by kernel_rfl) (by kernel_rfl) (eff_call (ARGS := [.one (li .u8 (IntKind.wrap .u8 r2.1)), .one (li .i64 0)]) (by kernel_rfl) (args_clean (by kernel_rfl) (args_clean (by kernel_rfl) args_nil)) (F43_ok n (IntKind.wrap .u8 r2.1) 0 r51 hr) (by kernel_rfl))) (fun r51 => ?_)
        refine SimI.run 1 [(60, .one (lb r51))] [] (by kernel_rfl) ?_
        refine SimI.done (by kernel_rfl) ?_
        refine SimE.thenN ?_
        refine Sim.cond r51 (by kernel_rfl) ?_ ?_
        · refine Sim.region0 ?_
          refine SimI.run 2 [(66, .one (.ptr 11 0)), (65, .one (li .i64 0))] [] (by kernel_rfl) ?_
          refine SimI.bind (og := F52 n r2.2) { dst := some 67, op := POp.call true [[]] 52 [Operand.tmp 66], guard := none, hints := [] } (fun r52 => [(67, .agg [li .i64 r52.1.N, ls r52.1.Text])]) (fun r52 => [(11, some (.cells [ls r52.2.s, li .i64 r52.2.at_, li .i64 r52.2.e]))]) (by kernel_rfl) (fun r52 hr => pOp_eff (by kernel_rfl) (by kernel_rfl) (eff_callp (ARGS := [.one (.ptr 11 0)]) (ARGS' := [.one (.ptr 1000000 0)]) (ks := [11]) (os := [[ls r2.2.s, li .i64 r2.2.at_, li .i64 r2.2.e]]) (os' := [[ls r52.2.s, li .i64 r52.2.at_, li .i64 r52.2.e]]) (by kernel_rfl) (args_ptr (by kernel_rfl) args_nil) rfl (by kernel_rfl) (F52_ok n r2.2 r52 hr) (by kernel_rfl) (by kernel_rfl))) (fun r52 => ?_)
          refine SimI.run 3 [(69, .one (.ptr 6 4)), (68, .one (.ptr 6 4))] [(6, some (.cells [li .i64 r1.1, li .u8 (IntKind.wrap .u8 r2.1), li .i64 0, li .i64 0, li .i64 r52.1.N, ls r52.1.Text, li .i64 0, ls ByteArray.empty, li .i64 0, ls ByteArray.empty, li .i64 0, ls ByteArray.empty]))] (by kernel_rfl) ?_
          refine SimI.done (by kernel_rfl) ?_
          refine SimE.blockN ?_
          refine SimE.blockN ?_
          refine SimE.thenN ?_
          refine Sim.region0 ?_
          refine SimI.run 2 [(51, .one (li .i64 1)), (70, .one (li .i64 1))] [] (by kernel_rfl) ?_
          refine SimI.done (by kernel_rfl) ?_
          refine SimE.loopN ?_
          refine SimL.pre (ts := [2, 5, 6, 51]) (os := [2, 6, 11]) [(2, .one (.ptr 2 0)), (5, .one (.ptr 11 0)), (6, .one (.ptr 6 0)), (51, .one (li .i64 1))] ((2, some (.cells [li .i64 0, li .u8 0, li .i64 0, li .i64 0, li .i64 0, ls ByteArray.empty, li .i64 0, ls ByteArray.empty, li .i64 0, ls ByteArray.empty, li .i64 0, ls ByteArray.empty])) :: ((6, some (.cells [li .i64 r1.1, li .u8 (IntKind.wrap .u8 r2.1), li .i64 0, li .i64 0, li .i64 r52.1.N, ls r52.1.Text, li .i64 0, ls ByteArray.empty, li .i64 0, ls ByteArray.empty, li .i64 0, ls ByteArray.empty])) :: ((11, some (.cells [ls r52.2.s, li .i64 r52.2.at_, li .i64 r52.2.e])) :: []))) (by kernel_rfl) (by kernel_rfl) (by kernel_rfl) ?_
          exact F29_u58_ok n r1 r2 r52.1.N r52.1.Text r52.2.s r52.2.at_ r52.2.e
        · refine Sim.skip ?_
          refine SimE.blockN ?_
          refine SimE.blockN ?_
          refine SimE.thenN ?_
          refine Sim.region0 ?_
          refine SimI.run 2 [(51, .one (li .i64 1)), (70, .one (li .i64 1))] [] (by kernel_rfl) ?_
          refine SimI.done (by kernel_rfl) ?_
          refine SimE.loopN ?_
          refine SimL.pre (ts := [2, 5, 6, 51]) (os := [2, 6, 11]) [(2, .one (.ptr 2 0)), (5, .one (.ptr 11 0)), (6, .one (.ptr 6 0)), (51, .one (li .i64 1))] ((2, some (.cells [li .i64 0, li .u8 0, li .i64 0, li .i64 0, li .i64 0, ls ByteArray.empty, li .i64 0, ls ByteArray.empty, li .i64 0, ls ByteArray.empty, li .i64 0, ls ByteArray.empty])) :: ((6, some (.cells [li .i64 r1.1, li .u8 (IntKind.wrap .u8 r2.1), li .i64 0, li .i64 0, li .i64 0, ls ByteArray.empty, li .i64 0, ls ByteArray.empty, li .i64 0, ls ByteArray.empty, li .i64 0, ls ByteArray.empty])) :: ((11, some (.cells [ls r2.2.s, li .i64 r2.2.at_, li .i64 r2.2.e])) :: []))) (by kernel_rfl) (by kernel_rfl) (by kernel_rfl) ?_
          exact F29_u58_ok n r1 r2 0 ByteArray.empty r2.2.s r2.2.at_ r2.2.e

def F29 (n : Nat) (a0 : ByteArray) : Option (Delta × Int × Int) :=
  (F51 n (Reader.mk a0 0 0)).bind fun (r1 : (Int × Reader)) =>
  (F51 n r1.2).bind fun (r2 : (Int × Reader)) =>
  if r2.2.e == 0 then
    if decide ((1000000 : Int) < r1.1) then
      some ((Delta.mk 0 0 (Point.mk 0 0) (A4.mk (Field.mk 0 ByteArray.empty) (Field.mk 0 ByteArray.empty) (Field.mk 0 ByteArray.empty) (Field.mk 0 ByteArray.empty))), 0, 11)
    else
      if r2.1 == 0 then
        some ((Delta.mk 0 0 (Point.mk 0 0) (A4.mk (Field.mk 0 ByteArray.empty) (Field.mk 0 ByteArray.empty) (Field.mk 0 ByteArray.empty) (Field.mk 0 ByteArray.empty))), 0, 11)
      else
        if decide ((31 : Int) < r2.1) then
          some ((Delta.mk 0 0 (Point.mk 0 0) (A4.mk (Field.mk 0 ByteArray.empty) (Field.mk 0 ByteArray.empty) (Field.mk 0 ByteArray.empty) (Field.mk 0 ByteArray.empty))), 0, 11)
        else
          F29_j3 n r1 r2
  else
    F29_j3 n r1 r2
theorem F29_ok (n : Nat) (a0 : ByteArray) : ∀ r, F29 n a0 = some r → D 29 [.one (ls a0)] [] = some (F29_e r) := by
  refine fn_to (D := D) (n := n + 8) (nt := 90) (rs := pc29_r) (c := pc29_c74) (L := [(0, .one (ls a0))]) (M := []) (k := 0) rfl rfl rfl rfl rfl rfl ?_
  unfold F29
  refine Sim.seq ?_
  refine Sim.region0 ?_
  refine SimI.run 3 [(4, .one (li .i64 0)), (3, .one (li .i64 0)), (2, .one (.ptr 2 0))] [(2, some (.cells [li .i64 0, li .u8 0, li .i64 0, li .i64 0, li .i64 0, ls ByteArray.empty, li .i64 0, ls ByteArray.empty, li .i64 0, ls ByteArray.empty, li .i64 0, ls ByteArray.empty]))] (by kernel_rfl) ?_
  refine SimI.done (by kernel_rfl) ?_
  refine SimE.thenN ?_
  refine Sim.scope ?_
  refine Sim.seq ?_
  refine Sim.region0 ?_
  refine SimI.run 4 [(5, .one (.ptr 11 0)), (11, .one (.ptr 11 0)), (10, .agg [ls a0, li .i64 0, li .i64 0]), (9, .one (ls a0))] [(11, some (.cells [ls a0, li .i64 0, li .i64 0]))] (by kernel_rfl) ?_
  refine SimI.done (by kernel_rfl) ?_
  refine SimE.thenN ?_
  refine Sim.seq ?_
  refine Sim.region0 ?_
  refine SimI.run 1 [(12, .one (.ptr 11 0))] [] (by kernel_rfl) ?_
  refine SimI.bind (og := F51 n (Reader.mk a0 0 0)) { dst := some 13, op := POp.call true [[]] 51 [Operand.tmp 12], guard := none, hints := [] } (fun r1 => [(13, .one (li .i64 r1.1))]) (fun r1 => [(11, some (.cells [ls r1.2.s, li .i64 r1.2.at_, li .i64 r1.2.e]))]) (by kernel_rfl) (fun r1 hr => pOp_eff (by kernel_rfl) (by kernel_rfl) (eff_callp (ARGS := [.one (.ptr 11 0)]) (ARGS' := [.one (.ptr 1000000 0)]) (ks := [11]) (os := [[ls a0, li .i64 0, li .i64 0]]) (os' := [[ls r1.2.s, li .i64 r1.2.at_, li .i64 r1.2.e]]) (by kernel_rfl) (args_ptr (by kernel_rfl) args_nil) rfl (by kernel_rfl) (F51_ok n (Reader.mk a0 0 0) r1 hr) (by kernel_rfl) (by kernel_rfl))) (fun r1 => ?_)
  refine SimI.run 3 [(6, .one (.ptr 6 0)), (14, .agg [li .i64 r1.1, li .u8 0, li .i64 0, li .i64 0, li .i64 0, ls ByteArray.empty, li .i64 0, ls ByteArray.empty, li .i64 0, ls ByteArray.empty, li .i64 0, ls ByteArray.empty])] [(6, some (.cells [li .i64 r1.1, li .u8 0, li .i64 0, li .i64 0, li .i64 0, ls ByteArray.empty, li .i64 0, ls ByteArray.empty, li .i64 0, ls ByteArray.empty, li .i64 0, ls ByteArray.empty])), (6, some (.cells [li .i64 0, li .u8 0, li .i64 0, li .i64 0, li .i64 0, ls ByteArray.empty, li .i64 0, ls ByteArray.empty, li .i64 0, ls ByteArray.empty, li .i64 0, ls ByteArray.empty]))] (by kernel_rfl) ?_
  refine SimI.done (by kernel_rfl) ?_
  refine SimE.thenN ?_
  refine Sim.seq ?_
  refine Sim.region0 ?_
  refine SimI.run 1 [(15, .one (.ptr 11 0))] [] (by kernel_rfl) ?_
  refine SimI.bind (og := F51 n r1.2) { dst := some 16, op := POp.call true [[]] 51 [Operand.tmp 15], guard := none, hints := [] } (fun r2 => [(16, .one (li .i64 r2.1))]) (fun r2 => [(11, some (.cells [ls r2.2.s, li .i64 r2.2.at_, li .i64 r2.2.e]))]) (by kernel_rfl) (fun r2 hr => pOp_eff (by kernel_rfl) (by kernel_rfl) (eff_callp (ARGS := [.one (.ptr 11 0)]) (ARGS' := [.one (.ptr 1000000 0)]) (ks := [11]) (os := [[ls r1.2.s, li .i64 r1.2.at_, li .i64 r1.2.e]]) (os' := [[ls r2.2.s, li .i64 r2.2.at_, li .i64 r2.2.e]]) (by kernel_rfl) (args_ptr (by kernel_rfl) args_nil) rfl (by kernel_rfl) (F51_ok n r1.2 r2 hr) (by kernel_rfl) (by kernel_rfl))) (fun r2 => ?_)
  refine SimI.run 1 [(7, .one (li .i64 r2.1))] [] (by kernel_rfl) ?_
  refine SimI.done (by kernel_rfl) ?_
  refine SimE.thenN ?_
  refine Sim.seq ?_
  refine Sim.seq ?_
  refine Sim.region0 ?_
  refine SimI.run 6 [(22, .one (lb (r2.2.e == 0))), (21, .one (lb (r2.2.e == 0))), (20, .one (li .i64 r2.2.e)), (19, .one (.ptr 11 2)), (18, .one (.ptr 11 0)), (17, .one (.ptr 11 0))] [] (by kernel_rfl) ?_
  refine SimI.split 22 (r2.2.e == 0) (by kernel_rfl) ?_ ?_
  · refine SimI.run 4 [(26, .one (lb (decide ((1000000 : Int) < r1.1)))), (25, .one (lb (decide ((1000000 : Int) < r1.1)))), (24, .one (li .i64 r1.1)), (23, .one (.ptr 6 0))] [] (by kernel_rfl) ?_
    refine SimI.split 26 (decide ((1000000 : Int) < r1.1)) (by kernel_rfl) ?_ ?_
    · refine SimI.run 8 [(34, .one (lb true)), (33, .one (lb true)), (32, .tup []), (31, .tup []), (30, .one (lb true)), (29, .one (lb true)), (28, .tup []), (27, .tup [])] [] (by kernel_rfl) ?_
      refine SimI.done (by kernel_rfl) ?_
      refine SimE.thenN ?_
      refine Sim.condT (by kernel_rfl) ?_
      refine Sim.seq ?_
      refine Sim.region0 ?_
      refine SimI.run 4 [(4, .one (li .i64 11)), (3, .one (li .i64 0)), (35, .agg [li .i64 0, li .u8 0, li .i64 0, li .i64 0, li .i64 0, ls ByteArray.empty, li .i64 0, ls ByteArray.empty, li .i64 0, ls ByteArray.empty, li .i64 0, ls ByteArray.empty])] [(2, some (.cells [li .i64 0, li .u8 0, li .i64 0, li .i64 0, li .i64 0, ls ByteArray.empty, li .i64 0, ls ByteArray.empty, li .i64 0, ls ByteArray.empty, li .i64 0, ls ByteArray.empty]))] (by kernel_rfl) ?_
      refine SimI.done (by kernel_rfl) ?_
      refine SimE.thenN ?_
      refine Sim.ret ?_
      refine SimE.thenR ?_
      exact SimE.fin (by kernel_rfl)
    · refine SimI.run 4 [(30, .one (lb (r2.1 == 0))), (29, .one (lb (r2.1 == 0))), (28, .one (lb (r2.1 == 0))), (27, .one (li .i64 r2.1))] [] (by kernel_rfl) ?_
      refine SimI.split 30 (r2.1 == 0) (by kernel_rfl) ?_ ?_
      · refine SimI.run 4 [(34, .one (lb true)), (33, .one (lb true)), (32, .tup []), (31, .tup [])] [] (by kernel_rfl) ?_
        refine SimI.done (by kernel_rfl) ?_
        refine SimE.thenN ?_
        refine Sim.condT (by kernel_rfl) ?_
        refine Sim.seq ?_
        refine Sim.region0 ?_
        refine SimI.run 4 [(4, .one (li .i64 11)), (3, .one (li .i64 0)), (35, .agg [li .i64 0, li .u8 0, li .i64 0, li .i64 0, li .i64 0, ls ByteArray.empty, li .i64 0, ls ByteArray.empty, li .i64 0, ls ByteArray.empty, li .i64 0, ls ByteArray.empty])] [(2, some (.cells [li .i64 0, li .u8 0, li .i64 0, li .i64 0, li .i64 0, ls ByteArray.empty, li .i64 0, ls ByteArray.empty, li .i64 0, ls ByteArray.empty, li .i64 0, ls ByteArray.empty]))] (by kernel_rfl) ?_
        refine SimI.done (by kernel_rfl) ?_
        refine SimE.thenN ?_
        refine Sim.ret ?_
        refine SimE.thenR ?_
        exact SimE.fin (by kernel_rfl)
      · refine SimI.run 4 [(34, .one (lb (decide ((31 : Int) < r2.1)))), (33, .one (lb (decide ((31 : Int) < r2.1)))), (32, .one (lb (decide ((31 : Int) < r2.1)))), (31, .one (li .i64 r2.1))] [] (by kernel_rfl) ?_
        refine SimI.done (by kernel_rfl) ?_
        refine SimE.thenN ?_
        refine Sim.cond (decide ((31 : Int) < r2.1)) (by kernel_rfl) ?_ ?_
        · refine Sim.seq ?_
          refine Sim.region0 ?_
          refine SimI.run 4 [(4, .one (li .i64 11)), (3, .one (li .i64 0)), (35, .agg [li .i64 0, li .u8 0, li .i64 0, li .i64 0, li .i64 0, ls ByteArray.empty, li .i64 0, ls ByteArray.empty, li .i64 0, ls ByteArray.empty, li .i64 0, ls ByteArray.empty])] [(2, some (.cells [li .i64 0, li .u8 0, li .i64 0, li .i64 0, li .i64 0, ls ByteArray.empty, li .i64 0, ls ByteArray.empty, li .i64 0, ls ByteArray.empty, li .i64 0, ls ByteArray.empty]))] (by kernel_rfl) ?_
          refine SimI.done (by kernel_rfl) ?_
          refine SimE.thenN ?_
          refine Sim.ret ?_
          refine SimE.thenR ?_
          exact SimE.fin (by kernel_rfl)
        · refine Sim.skip ?_
          refine SimE.thenN ?_
          refine Sim.pre (ts := [2, 5, 6, 7]) (os := [2, 6, 11]) [(2, .one (.ptr 2 0)), (5, .one (.ptr 11 0)), (6, .one (.ptr 6 0)), (7, .one (li .i64 r2.1))] ((2, some (.cells [li .i64 0, li .u8 0, li .i64 0, li .i64 0, li .i64 0, ls ByteArray.empty, li .i64 0, ls ByteArray.empty, li .i64 0, ls ByteArray.empty, li .i64 0, ls ByteArray.empty])) :: ((6, some (.cells [li .i64 r1.1, li .u8 0, li .i64 0, li .i64 0, li .i64 0, ls ByteArray.empty, li .i64 0, ls ByteArray.empty, li .i64 0, ls ByteArray.empty, li .i64 0, ls ByteArray.empty])) :: ((11, some (.cells [ls r2.2.s, li .i64 r2.2.at_, li .i64 r2.2.e])) :: []))) (by kernel_rfl) (by kernel_rfl) (by kernel_rfl) ?_
          exact F29_j3_ok n r1 r2
  · refine SimI.run 12 [(34, .one (lb false)), (33, .tup []), (32, .tup []), (31, .tup []), (30, .tup []), (29, .tup []), (28, .tup []), (27, .tup []), (26, .tup []), (25, .tup []), (24, .tup []), (23, .tup [])] [] (by kernel_rfl) ?_
    refine SimI.done (by kernel_rfl) ?_
    refine SimE.thenN ?_
    refine Sim.condF (by kernel_rfl) ?_
    refine Sim.skip ?_
    refine SimE.thenN ?_
    refine Sim.pre (ts := [2, 5, 6, 7]) (os := [2, 6, 11]) [(2, .one (.ptr 2 0)), (5, .one (.ptr 11 0)), (6, .one (.ptr 6 0)), (7, .one (li .i64 r2.1))] ((2, some (.cells [li .i64 0, li .u8 0, li .i64 0, li .i64 0, li .i64 0, ls ByteArray.empty, li .i64 0, ls ByteArray.empty, li .i64 0, ls ByteArray.empty, li .i64 0, ls ByteArray.empty])) :: ((6, some (.cells [li .i64 r1.1, li .u8 0, li .i64 0, li .i64 0, li .i64 0, ls ByteArray.empty, li .i64 0, ls ByteArray.empty, li .i64 0, ls ByteArray.empty, li .i64 0, ls ByteArray.empty])) :: ((11, some (.cells [ls r2.2.s, li .i64 r2.2.at_, li .i64 r2.2.e])) :: []))) (by kernel_rfl) (by kernel_rfl) (by kernel_rfl) ?_
    exact F29_j3_ok n r1 r2


-- 14: vedette/vedettelaw6.known
theorem F14_ok (n : Nat) : ∀ r, (some true : Option Bool) = some r → D 14 [] [] = some (.one (lb r), []) := by
  rintro _ ⟨⟩
  exact all_of (N := 60) (by kernel_rfl)


-- 17: vedette/vedettelaw6.fewField
def F17_e : Bool → PV × List (List Lf) := fun r => (.one (lb r), [])
def F17 (n : Nat) (a0 : Field) : Option Bool :=
  some (decide ((a0.Text.size : Int) ≤ 40))
theorem F17_ok (n : Nat) (a0 : Field) : ∀ r, F17 n a0 = some r → D 17 [.agg [li .i64 a0.N, ls a0.Text]] [] = some (F17_e r) := by
  refine fn_to (D := D) (n := n + 8) (nt := 7) (rs := pc17_r) (c := pc17_c5) (L := [(0, .agg [li .i64 a0.N, ls a0.Text])]) (M := []) (k := 0) rfl rfl rfl rfl rfl rfl ?_
  unfold F17
  refine Sim.seq ?_
  refine Sim.region0 ?_
  refine SimI.run 2 [(2, .one (lb false)), (1, .one (.ptr 1 0))] [(1, some (.cells [li .i64 a0.N, ls a0.Text]))] (by kernel_rfl) ?_
  refine SimI.done (by kernel_rfl) ?_
  refine SimE.thenN ?_
  refine Sim.seq ?_
  refine Sim.region0 ?_
  refine SimI.run 5 [(2, .one (lb (decide ((a0.Text.size : Int) ≤ 40)))), (6, .one (lb (decide ((a0.Text.size : Int) ≤ 40)))), (5, .one (li .i64 (a0.Text.size : Int))), (4, .one (ls a0.Text)), (3, .one (.ptr 1 1))] [] (by kernel_rfl) ?_
  refine SimI.done (by kernel_rfl) ?_
  refine SimE.thenN ?_
  refine Sim.ret ?_
  exact SimE.fin (by kernel_rfl)


-- 15: vedette/vedettelaw6.fewThing
def F15_e : Bool → PV × List (List Lf) := fun r => (.one (lb r), [])
def F15 (n : Nat) (a0 : Thing) : Option Bool :=
  (F17 n a0.F.a0).bind fun (r1 : Bool) =>
  if !(r1) then
    some false
  else
    (F17 n a0.F.a1).bind fun (r2 : Bool) =>
    if !(r2) then
      some false
    else
      (F17 n a0.F.a2).bind fun (r3 : Bool) =>
      if !(r3) then
        some false
      else
        (F17 n a0.F.a3).bind fun (r4 : Bool) =>
        if !(r4) then
          some false
        else
          some true
theorem F15_ok (n : Nat) (a0 : Thing) : ∀ r, F15 n a0 = some r → D 15 [.agg [li .i64 a0.ID, li .i64 a0.At.X, li .i64 a0.At.Y, li .i64 a0.F.a0.N, ls a0.F.a0.Text, li .i64 a0.F.a1.N, ls a0.F.a1.Text, li .i64 a0.F.a2.N, ls a0.F.a2.Text, li .i64 a0.F.a3.N, ls a0.F.a3.Text]] [] = some (F15_e r) := by
  refine fn_to (D := D) (n := n + 8) (nt := 14) (rs := pc15_r) (c := pc15_c26) (L := [(0, .agg [li .i64 a0.ID, li .i64 a0.At.X, li .i64 a0.At.Y, li .i64 a0.F.a0.N, ls a0.F.a0.Text, li .i64 a0.F.a1.N, ls a0.F.a1.Text, li .i64 a0.F.a2.N, ls a0.F.a2.Text, li .i64 a0.F.a3.N, ls a0.F.a3.Text])]) (M := []) (k := 0) rfl rfl rfl rfl rfl rfl ?_
  unfold F15
  refine Sim.seq ?_
  refine Sim.region0 ?_
  refine SimI.run 2 [(2, .one (lb false)), (1, .one (.ptr 1 0))] [(1, some (.cells [li .i64 a0.ID, li .i64 a0.At.X, li .i64 a0.At.Y, li .i64 a0.F.a0.N, ls a0.F.a0.Text, li .i64 a0.F.a1.N, ls a0.F.a1.Text, li .i64 a0.F.a2.N, ls a0.F.a2.Text, li .i64 a0.F.a3.N, ls a0.F.a3.Text]))] (by kernel_rfl) ?_
  refine SimI.done (by kernel_rfl) ?_
  refine SimE.thenN ?_
  refine Sim.seq ?_
  refine Sim.seq ?_
  refine Sim.region0 ?_
  refine SimI.run 1 [(3, .one (li .i64 0))] [] (by kernel_rfl) ?_
  refine SimI.done (by kernel_rfl) ?_
  refine SimE.thenN ?_
  refine Sim.block ?_
  refine Sim.loop ?_
  refine SimL.succ ?_
  refine Sim.seq ?_
  refine Sim.seq ?_
  refine Sim.region [(1, .one (.ptr 1 0)), (3, .one (li .i64 0))] ((1, some (.cells [li .i64 a0.ID, li .i64 a0.At.X, li .i64 a0.At.Y, li .i64 a0.F.a0.N, ls a0.F.a0.Text, li .i64 a0.F.a1.N, ls a0.F.a1.Text, li .i64 a0.F.a2.N, ls a0.F.a2.Text, li .i64 a0.F.a3.N, ls a0.F.a3.Text])) :: []) (by kernel_rfl) ?_
  refine SimI.run 2 [(5, .one (lb true)), (4, .one (li .i64 0))] [] (by kernel_rfl) ?_
  refine SimI.done (by kernel_rfl) ?_
  refine SimE.thenN ?_
  refine Sim.condT (by kernel_rfl) ?_
  refine Sim.skip ?_
  refine SimE.thenN ?_
  refine Sim.seq ?_
  refine Sim.block ?_
  refine Sim.seq ?_
  refine Sim.region0 ?_
  refine SimI.run 4 [(11, .agg [li .i64 a0.F.a0.N, ls a0.F.a0.Text]), (10, .one (.ptr 1 3)), (9, .one (.ptr 1 3)), (8, .one (li .i64 0))] [] (by kernel_rfl) ?_
  refine SimI.bind (og := F17 n a0.F.a0) { dst := some 12, op := POp.call true [[]] 17 [Operand.tmp 11], guard := none, hints := [] } (fun r1 => [(12, .one (lb r1))]) (fun r1 => []) (by kernel_rfl) (fun r1 hr => pOp_eff (by kernel_rfl) (by kernel_rfl) (eff_call (ARGS := [.agg [li .i64 a0.F.a0.N, ls a0.F.a0.Text]]) (by kernel_rfl) (args_clean (by kernel_rfl) args_nil) (F17_ok n a0.F.a0 r1 hr) (by kernel_rfl))) (fun r1 => ?_)
  refine SimI.run 1 [(13, .one (lb (!(r1))))] [] (by kernel_rfl) ?_
  refine SimI.done (by kernel_rfl) ?_
  refine SimE.thenN ?_
  refine Sim.cond (!(r1)) (by kernel_rfl) ?_ ?_
  · refine Sim.seq ?_
    refine Sim.region0 ?_
    refine SimI.run 1 [(2, .one (lb false))] [] (by kernel_rfl) ?_
    refine SimI.done (by kernel_rfl) ?_
    refine SimE.thenN ?_
    refine Sim.ret ?_
    refine SimE.blockR ?_
    refine SimE.thenR ?_
    refine SimE.loopR ?_
    refine SimE.blockR ?_
    refine SimE.thenR ?_
    exact SimE.fin (by kernel_rfl)
  · refine Sim.skip ?_
    refine SimE.blockN ?_
    refine SimE.thenN ?_
    refine Sim.region0 ?_
    refine SimI.run 3 [(3, .one (li .i64 1)), (7, .one (li .i64 1)), (6, .one (li .i64 0))] [] (by kernel_rfl) ?_
    refine SimI.done (by kernel_rfl) ?_
    refine SimE.loopN ?_
    refine SimL.succ ?_
    refine Sim.seq ?_
    refine Sim.seq ?_
    refine Sim.region [(1, .one (.ptr 1 0)), (3, .one (li .i64 1))] ((1, some (.cells [li .i64 a0.ID, li .i64 a0.At.X, li .i64 a0.At.Y, li .i64 a0.F.a0.N, ls a0.F.a0.Text, li .i64 a0.F.a1.N, ls a0.F.a1.Text, li .i64 a0.F.a2.N, ls a0.F.a2.Text, li .i64 a0.F.a3.N, ls a0.F.a3.Text])) :: []) (by kernel_rfl) ?_
    refine SimI.run 2 [(5, .one (lb true)), (4, .one (li .i64 1))] [] (by kernel_rfl) ?_
    refine SimI.done (by kernel_rfl) ?_
    refine SimE.thenN ?_
    refine Sim.condT (by kernel_rfl) ?_
    refine Sim.skip ?_
    refine SimE.thenN ?_
    refine Sim.seq ?_
    refine Sim.block ?_
    refine Sim.seq ?_
    refine Sim.region0 ?_
    refine SimI.run 4 [(11, .agg [li .i64 a0.F.a1.N, ls a0.F.a1.Text]), (10, .one (.ptr 1 5)), (9, .one (.ptr 1 3)), (8, .one (li .i64 1))] [] (by kernel_rfl) ?_
    refine SimI.bind (og := F17 n a0.F.a1) { dst := some 12, op := POp.call true [[]] 17 [Operand.tmp 11], guard := none, hints := [] } (fun r2 => [(12, .one (lb r2))]) (fun r2 => []) (by kernel_rfl) (fun r2 hr => pOp_eff (by kernel_rfl) (by kernel_rfl) (eff_call (ARGS := [.agg [li .i64 a0.F.a1.N, ls a0.F.a1.Text]]) (by kernel_rfl) (args_clean (by kernel_rfl) args_nil) (F17_ok n a0.F.a1 r2 hr) (by kernel_rfl))) (fun r2 => ?_)
    refine SimI.run 1 [(13, .one (lb (!(r2))))] [] (by kernel_rfl) ?_
    refine SimI.done (by kernel_rfl) ?_
    refine SimE.thenN ?_
    refine Sim.cond (!(r2)) (by kernel_rfl) ?_ ?_
    · refine Sim.seq ?_
      refine Sim.region0 ?_
      refine SimI.run 1 [(2, .one (lb false))] [] (by kernel_rfl) ?_
      refine SimI.done (by kernel_rfl) ?_
      refine SimE.thenN ?_
      refine Sim.ret ?_
      refine SimE.blockR ?_
      refine SimE.thenR ?_
      refine SimE.loopR ?_
      refine SimE.blockR ?_
      refine SimE.thenR ?_
      exact SimE.fin (by kernel_rfl)
    · refine Sim.skip ?_
      refine SimE.blockN ?_
      refine SimE.thenN ?_
      refine Sim.region0 ?_
      refine SimI.run 3 [(3, .one (li .i64 2)), (7, .one (li .i64 2)), (6, .one (li .i64 1))] [] (by kernel_rfl) ?_
      refine SimI.done (by kernel_rfl) ?_
      refine SimE.loopN ?_
      refine SimL.succ ?_
      refine Sim.seq ?_
      refine Sim.seq ?_
      refine Sim.region [(1, .one (.ptr 1 0)), (3, .one (li .i64 2))] ((1, some (.cells [li .i64 a0.ID, li .i64 a0.At.X, li .i64 a0.At.Y, li .i64 a0.F.a0.N, ls a0.F.a0.Text, li .i64 a0.F.a1.N, ls a0.F.a1.Text, li .i64 a0.F.a2.N, ls a0.F.a2.Text, li .i64 a0.F.a3.N, ls a0.F.a3.Text])) :: []) (by kernel_rfl) ?_
      refine SimI.run 2 [(5, .one (lb true)), (4, .one (li .i64 2))] [] (by kernel_rfl) ?_
      refine SimI.done (by kernel_rfl) ?_
      refine SimE.thenN ?_
      refine Sim.condT (by kernel_rfl) ?_
      refine Sim.skip ?_
      refine SimE.thenN ?_
      refine Sim.seq ?_
      refine Sim.block ?_
      refine Sim.seq ?_
      refine Sim.region0 ?_
      refine SimI.run 4 [(11, .agg [li .i64 a0.F.a2.N, ls a0.F.a2.Text]), (10, .one (.ptr 1 7)), (9, .one (.ptr 1 3)), (8, .one (li .i64 2))] [] (by kernel_rfl) ?_
      refine SimI.bind (og := F17 n a0.F.a2) { dst := some 12, op := POp.call true [[]] 17 [Operand.tmp 11], guard := none, hints := [] } (fun r3 => [(12, .one (lb r3))]) (fun r3 => []) (by kernel_rfl) (fun r3 hr => pOp_eff (by kernel_rfl) (by kernel_rfl) (eff_call (ARGS := [.agg [li .i64 a0.F.a2.N, ls a0.F.a2.Text]]) (by kernel_rfl) (args_clean (by kernel_rfl) args_nil) (F17_ok n a0.F.a2 r3 hr) (by kernel_rfl))) (fun r3 => ?_)
      refine SimI.run 1 [(13, .one (lb (!(r3))))] [] (by kernel_rfl) ?_
      refine SimI.done (by kernel_rfl) ?_
      refine SimE.thenN ?_
      refine Sim.cond (!(r3)) (by kernel_rfl) ?_ ?_
      · refine Sim.seq ?_
        refine Sim.region0 ?_
        refine SimI.run 1 [(2, .one (lb false))] [] (by kernel_rfl) ?_
        refine SimI.done (by kernel_rfl) ?_
        refine SimE.thenN ?_
        refine Sim.ret ?_
        refine SimE.blockR ?_
        refine SimE.thenR ?_
        refine SimE.loopR ?_
        refine SimE.blockR ?_
        refine SimE.thenR ?_
        exact SimE.fin (by kernel_rfl)
      · refine Sim.skip ?_
        refine SimE.blockN ?_
        refine SimE.thenN ?_
        refine Sim.region0 ?_
        refine SimI.run 3 [(3, .one (li .i64 3)), (7, .one (li .i64 3)), (6, .one (li .i64 2))] [] (by kernel_rfl) ?_
        refine SimI.done (by kernel_rfl) ?_
        refine SimE.loopN ?_
        refine SimL.succ ?_
        refine Sim.seq ?_
        refine Sim.seq ?_
        refine Sim.region [(1, .one (.ptr 1 0)), (3, .one (li .i64 3))] ((1, some (.cells [li .i64 a0.ID, li .i64 a0.At.X, li .i64 a0.At.Y, li .i64 a0.F.a0.N, ls a0.F.a0.Text, li .i64 a0.F.a1.N, ls a0.F.a1.Text, li .i64 a0.F.a2.N, ls a0.F.a2.Text, li .i64 a0.F.a3.N, ls a0.F.a3.Text])) :: []) (by kernel_rfl) ?_
        refine SimI.run 2 [(5, .one (lb true)), (4, .one (li .i64 3))] [] (by kernel_rfl) ?_
        refine SimI.done (by kernel_rfl) ?_
        refine SimE.thenN ?_
        refine Sim.condT (by kernel_rfl) ?_
        refine Sim.skip ?_
        refine SimE.thenN ?_
        refine Sim.seq ?_
        refine Sim.block ?_
        refine Sim.seq ?_
        refine Sim.region0 ?_
        refine SimI.run 4 [(11, .agg [li .i64 a0.F.a3.N, ls a0.F.a3.Text]), (10, .one (.ptr 1 9)), (9, .one (.ptr 1 3)), (8, .one (li .i64 3))] [] (by kernel_rfl) ?_
        refine SimI.bind (og := F17 n a0.F.a3) { dst := some 12, op := POp.call true [[]] 17 [Operand.tmp 11], guard := none, hints := [] } (fun r4 => [(12, .one (lb r4))]) (fun r4 => []) (by kernel_rfl) (fun r4 hr => pOp_eff (by kernel_rfl) (by kernel_rfl) (eff_call (ARGS := [.agg [li .i64 a0.F.a3.N, ls a0.F.a3.Text]]) (by kernel_rfl) (args_clean (by kernel_rfl) args_nil) (F17_ok n a0.F.a3 r4 hr) (by kernel_rfl))) (fun r4 => ?_)
        refine SimI.run 1 [(13, .one (lb (!(r4))))] [] (by kernel_rfl) ?_
        refine SimI.done (by kernel_rfl) ?_
        refine SimE.thenN ?_
        refine Sim.cond (!(r4)) (by kernel_rfl) ?_ ?_
        · refine Sim.seq ?_
          refine Sim.region0 ?_
          refine SimI.run 1 [(2, .one (lb false))] [] (by kernel_rfl) ?_
          refine SimI.done (by kernel_rfl) ?_
          refine SimE.thenN ?_
          refine Sim.ret ?_
          refine SimE.blockR ?_
          refine SimE.thenR ?_
          refine SimE.loopR ?_
          refine SimE.blockR ?_
          refine SimE.thenR ?_
          exact SimE.fin (by kernel_rfl)
        · refine Sim.skip ?_
          refine SimE.blockN ?_
          refine SimE.thenN ?_
          refine Sim.region0 ?_
          refine SimI.run 3 [(3, .one (li .i64 4)), (7, .one (li .i64 4)), (6, .one (li .i64 3))] [] (by kernel_rfl) ?_
          refine SimI.done (by kernel_rfl) ?_
          refine SimE.loopN ?_
          refine SimL.succ ?_
          refine Sim.seq ?_
          refine Sim.seq ?_
          refine Sim.region [(1, .one (.ptr 1 0)), (3, .one (li .i64 4))] ((1, some (.cells [li .i64 a0.ID, li .i64 a0.At.X, li .i64 a0.At.Y, li .i64 a0.F.a0.N, ls a0.F.a0.Text, li .i64 a0.F.a1.N, ls a0.F.a1.Text, li .i64 a0.F.a2.N, ls a0.F.a2.Text, li .i64 a0.F.a3.N, ls a0.F.a3.Text])) :: []) (by kernel_rfl) ?_
          refine SimI.run 2 [(5, .one (lb false)), (4, .one (li .i64 4))] [] (by kernel_rfl) ?_
          refine SimI.done (by kernel_rfl) ?_
          refine SimE.thenN ?_
          refine Sim.condF (by kernel_rfl) ?_
          refine Sim.exit ?_
          refine SimE.thenX ?_
          refine SimE.loopX ?_
          refine SimE.blockX ?_
          refine SimE.thenN ?_
          refine Sim.seq ?_
          refine Sim.region0 ?_
          refine SimI.run 1 [(2, .one (lb true))] [] (by kernel_rfl) ?_
          refine SimI.done (by kernel_rfl) ?_
          refine SimE.thenN ?_
          refine Sim.ret ?_
          exact SimE.fin (by kernel_rfl)


-- 27: vedette/vedetteref6.IsField
def F27_e : Bool → PV × List (List Lf) := fun r => (.one (lb r), [])
def F27 (n : Nat) (a0 : Field) : Option Bool :=
  if a0.N == 0 then
    some (decide ((a0.Text.size : Int) ≤ 12))
  else
    if a0.Text.toList == ByteArray.empty.toList then
      some (decide ((a0.Text.size : Int) ≤ 12))
    else
      some false
theorem F27_ok (n : Nat) (a0 : Field) : ∀ r, F27 n a0 = some r → D 27 [.agg [li .i64 a0.N, ls a0.Text]] [] = some (F27_e r) := by
  refine fn_to (D := D) (n := n + 8) (nt := 17) (rs := pc27_r) (c := pc27_c5) (L := [(0, .agg [li .i64 a0.N, ls a0.Text])]) (M := []) (k := 0) rfl rfl rfl rfl rfl rfl ?_
  unfold F27
  refine Sim.seq ?_
  refine Sim.region0 ?_
  refine SimI.run 2 [(2, .one (lb false)), (1, .one (.ptr 1 0))] [(1, some (.cells [li .i64 a0.N, ls a0.Text]))] (by kernel_rfl) ?_
  refine SimI.done (by kernel_rfl) ?_
  refine SimE.thenN ?_
  refine Sim.seq ?_
  refine Sim.region0 ?_
  refine SimI.run 4 [(6, .one (lb (a0.N == 0))), (5, .one (lb (a0.N == 0))), (4, .one (li .i64 a0.N)), (3, .one (.ptr 1 0))] [] (by kernel_rfl) ?_
  refine SimI.split 6 (a0.N == 0) (by kernel_rfl) ?_ ?_
  · refine SimI.run 11 [(2, .one (lb (decide ((a0.Text.size : Int) ≤ 12)))), (16, .one (lb (decide ((a0.Text.size : Int) ≤ 12)))), (15, .one (lb (decide ((a0.Text.size : Int) ≤ 12)))), (14, .one (li .i64 (a0.Text.size : Int))), (13, .one (ls a0.Text)), (12, .one (.ptr 1 1)), (11, .one (lb true)), (10, .one (lb true)), (9, .tup []), (8, .tup []), (7, .tup [])] [] (by kernel_rfl) ?_
    refine SimI.done (by kernel_rfl) ?_
    refine SimE.thenN ?_
    refine Sim.ret ?_
    exact SimE.fin (by kernel_rfl)
  · refine SimI.run 5 [(11, .one (lb (a0.Text.toList == ByteArray.empty.toList))), (10, .one (lb (a0.Text.toList == ByteArray.empty.toList))), (9, .one (lb (a0.Text.toList == ByteArray.empty.toList))), (8, .one (ls a0.Text)), (7, .one (.ptr 1 1))] [] (by kernel_rfl) ?_
    refine SimI.split 11 (a0.Text.toList == ByteArray.empty.toList) (by kernel_rfl) ?_ ?_
    · refine SimI.run 6 [(2, .one (lb (decide ((a0.Text.size : Int) ≤ 12)))), (16, .one (lb (decide ((a0.Text.size : Int) ≤ 12)))), (15, .one (lb (decide ((a0.Text.size : Int) ≤ 12)))), (14, .one (li .i64 (a0.Text.size : Int))), (13, .one (ls a0.Text)), (12, .one (.ptr 1 1))] [] (by kernel_rfl) ?_
      refine SimI.done (by kernel_rfl) ?_
      refine SimE.thenN ?_
      refine Sim.ret ?_
      exact SimE.fin (by kernel_rfl)
    · refine SimI.run 6 [(2, .one (lb false)), (16, .one (lb false)), (15, .tup []), (14, .tup []), (13, .tup []), (12, .tup [])] [] (by kernel_rfl) ?_
      refine SimI.done (by kernel_rfl) ?_
      refine SimE.thenN ?_
      refine Sim.ret ?_
      exact SimE.fin (by kernel_rfl)


-- 46: vedette/vedetteref3.On
def F46_e : Bool → PV × List (List Lf) := fun r => (.one (lb r), [])
def F46 (n : Nat) (a0 : Point) : Option Bool :=
  if decide ((0 : Int) ≤ a0.X) then
    if decide (a0.X < 64) then
      if decide ((0 : Int) ≤ a0.Y) then
        some (decide (a0.Y < 64))
      else
        some false
    else
      some false
  else
    some false
theorem F46_ok (n : Nat) (a0 : Point) : ∀ r, F46 n a0 = some r → D 46 [.agg [li .i64 a0.X, li .i64 a0.Y]] [] = some (F46_e r) := by
  refine fn_to (D := D) (n := n + 8) (nt := 21) (rs := pc46_r) (c := pc46_c5) (L := [(0, .agg [li .i64 a0.X, li .i64 a0.Y])]) (M := []) (k := 0) rfl rfl rfl rfl rfl rfl ?_
  unfold F46
  refine Sim.seq ?_
  refine Sim.region0 ?_
  refine SimI.run 2 [(2, .one (lb false)), (1, .one (.ptr 1 0))] [(1, some (.cells [li .i64 a0.X, li .i64 a0.Y]))] (by kernel_rfl) ?_
  refine SimI.done (by kernel_rfl) ?_
  refine SimE.thenN ?_
  refine Sim.seq ?_
  refine Sim.region0 ?_
  refine SimI.run 4 [(6, .one (lb (decide ((0 : Int) ≤ a0.X)))), (5, .one (lb (decide ((0 : Int) ≤ a0.X)))), (4, .one (li .i64 a0.X)), (3, .one (.ptr 1 0))] [] (by kernel_rfl) ?_
  refine SimI.split 6 (decide ((0 : Int) ≤ a0.X)) (by kernel_rfl) ?_ ?_
  · refine SimI.run 5 [(11, .one (lb (decide (a0.X < 64)))), (10, .one (lb (decide (a0.X < 64)))), (9, .one (lb (decide (a0.X < 64)))), (8, .one (li .i64 a0.X)), (7, .one (.ptr 1 0))] [] (by kernel_rfl) ?_
    refine SimI.split 11 (decide (a0.X < 64)) (by kernel_rfl) ?_ ?_
    · refine SimI.run 5 [(16, .one (lb (decide ((0 : Int) ≤ a0.Y)))), (15, .one (lb (decide ((0 : Int) ≤ a0.Y)))), (14, .one (lb (decide ((0 : Int) ≤ a0.Y)))), (13, .one (li .i64 a0.Y)), (12, .one (.ptr 1 1))] [] (by kernel_rfl) ?_
      refine SimI.split 16 (decide ((0 : Int) ≤ a0.Y)) (by kernel_rfl) ?_ ?_
      · refine SimI.run 5 [(2, .one (lb (decide (a0.Y < 64)))), (20, .one (lb (decide (a0.Y < 64)))), (19, .one (lb (decide (a0.Y < 64)))), (18, .one (li .i64 a0.Y)), (17, .one (.ptr 1 1))] [] (by kernel_rfl) ?_
        refine SimI.done (by kernel_rfl) ?_
        refine SimE.thenN ?_
        refine Sim.ret ?_
        exact SimE.fin (by kernel_rfl)
      · refine SimI.run 5 [(2, .one (lb false)), (20, .one (lb false)), (19, .tup []), (18, .tup []), (17, .tup [])] [] (by kernel_rfl) ?_
        refine SimI.done (by kernel_rfl) ?_
        refine SimE.thenN ?_
        refine Sim.ret ?_
        exact SimE.fin (by kernel_rfl)
    · refine SimI.run 10 [(2, .one (lb false)), (20, .one (lb false)), (19, .tup []), (18, .tup []), (17, .tup []), (16, .one (lb false)), (15, .one (lb false)), (14, .tup []), (13, .tup []), (12, .tup [])] [] (by kernel_rfl) ?_
      refine SimI.done (by kernel_rfl) ?_
      refine SimE.thenN ?_
      refine Sim.ret ?_
      exact SimE.fin (by kernel_rfl)
  · refine SimI.run 15 [(2, .one (lb false)), (20, .one (lb false)), (19, .tup []), (18, .tup []), (17, .tup []), (16, .one (lb false)), (15, .one (lb false)), (14, .tup []), (13, .tup []), (12, .tup []), (11, .one (lb false)), (10, .one (lb false)), (9, .tup []), (8, .tup []), (7, .tup [])] [] (by kernel_rfl) ?_
    refine SimI.done (by kernel_rfl) ?_
    refine SimE.thenN ?_
    refine Sim.ret ?_
    exact SimE.fin (by kernel_rfl)


-- 31: vedette/vedetteref6.Is
def F31_e : Bool → PV × List (List Lf) := fun r => (.one (lb r), [])
def F31_u15 (n : Nat) (b14 : Bool) : Option Bool :=
    some b14
theorem F31_u15_ok (n : Nat) (a0 : Thing) (b14 : Bool) : SimL Try.prog D (n + 8) (n + 4) pc31_c13 [(1, .one (.ptr 1 0)), (3, .one (lb b14)), (4, .one (li .i64 4))] ((1, some (.cells [li .i64 a0.ID, li .i64 a0.At.X, li .i64 a0.At.Y, li .i64 a0.F.a0.N, ls a0.F.a0.Text, li .i64 a0.F.a1.N, ls a0.F.a1.Text, li .i64 a0.F.a2.N, ls a0.F.a2.Text, li .i64 a0.F.a3.N, ls a0.F.a3.Text])) :: []) (F31_u15 n b14) (QB 0 (QT Try.prog D (n + 8) pc31_c19 (QF pc31_r 0 F31_e))) := by
    unfold F31_u15
    refine SimL.succ ?_
    refine Sim.seq ?_
    refine Sim.seq ?_
    refine Sim.region [(1, .one (.ptr 1 0)), (3, .one (lb b14)), (4, .one (li .i64 4))] ((1, some (.cells [li .i64 a0.ID, li .i64 a0.At.X, li .i64 a0.At.Y, li .i64 a0.F.a0.N, ls a0.F.a0.Text, li .i64 a0.F.a1.N, ls a0.F.a1.Text, li .i64 a0.F.a2.N, ls a0.F.a2.Text, li .i64 a0.F.a3.N, ls a0.F.a3.Text])) :: []) (by kernel_rfl) ?_
    refine SimI.run 2 [(19, .one (lb false)), (18, .one (li .i64 4))] [] (by kernel_rfl) ?_
    refine SimI.done (by kernel_rfl) ?_
    refine SimE.thenN ?_
    refine Sim.condF (by kernel_rfl) ?_
    refine Sim.exit ?_
    refine SimE.thenX ?_
    refine SimE.loopX ?_
    refine SimE.blockX ?_
    refine SimE.thenN ?_
    refine Sim.seq ?_
    refine Sim.region0 ?_
    refine SimI.run 2 [(2, .one (lb b14)), (30, .one (lb b14))] [] (by kernel_rfl) ?_
    refine SimI.done (by kernel_rfl) ?_
    refine SimE.thenN ?_
    refine Sim.ret ?_
    exact SimE.fin (by kernel_rfl)

def F31_u12 (n : Nat) (a0 : Thing) (b11 : Bool) : Option Bool :=
    if b11 then
      (F27 n a0.F.a3).bind fun (r13 : Bool) =>
      F31_u15 n r13
    else
      F31_u15 n false
theorem F31_u12_ok (n : Nat) (a0 : Thing) (b11 : Bool) : SimL Try.prog D (n + 8) (n + 5) pc31_c13 [(1, .one (.ptr 1 0)), (3, .one (lb b11)), (4, .one (li .i64 3))] ((1, some (.cells [li .i64 a0.ID, li .i64 a0.At.X, li .i64 a0.At.Y, li .i64 a0.F.a0.N, ls a0.F.a0.Text, li .i64 a0.F.a1.N, ls a0.F.a1.Text, li .i64 a0.F.a2.N, ls a0.F.a2.Text, li .i64 a0.F.a3.N, ls a0.F.a3.Text])) :: []) (F31_u12 n a0 b11) (QB 0 (QT Try.prog D (n + 8) pc31_c19 (QF pc31_r 0 F31_e))) := by
    unfold F31_u12
    refine SimL.succ ?_
    refine Sim.seq ?_
    refine Sim.seq ?_
    refine Sim.region [(1, .one (.ptr 1 0)), (3, .one (lb b11)), (4, .one (li .i64 3))] ((1, some (.cells [li .i64 a0.ID, li .i64 a0.At.X, li .i64 a0.At.Y, li .i64 a0.F.a0.N, ls a0.F.a0.Text, li .i64 a0.F.a1.N, ls a0.F.a1.Text, li .i64 a0.F.a2.N, ls a0.F.a2.Text, li .i64 a0.F.a3.N, ls a0.F.a3.Text])) :: []) (by kernel_rfl) ?_
    refine SimI.run 2 [(19, .one (lb true)), (18, .one (li .i64 3))] [] (by kernel_rfl) ?_
    refine SimI.done (by kernel_rfl) ?_
    refine SimE.thenN ?_
    refine Sim.condT (by kernel_rfl) ?_
    refine Sim.skip ?_
    refine SimE.thenN ?_
    refine Sim.seq ?_
    refine Sim.block ?_
    refine Sim.region0 ?_
    refine SimI.run 2 [(23, .one (lb b11)), (22, .one (lb b11))] [] (by kernel_rfl) ?_
    refine SimI.split 23 b11 (by kernel_rfl) ?_ ?_
    · refine SimI.run 4 [(27, .agg [li .i64 a0.F.a3.N, ls a0.F.a3.Text]), (26, .one (.ptr 1 9)), (25, .one (.ptr 1 3)), (24, .one (li .i64 3))] [] (by kernel_rfl) ?_
      refine SimI.bind (og := F27 n a0.F.a3) { dst := some 28, op := POp.call true [[]] 27 [Operand.tmp 27], guard := some (23, true), hints := [] } (fun r13 => [(28, .one (lb r13))]) (fun r13 => []) (by kernel_rfl) (fun r13 hr => pOp_eff (by kernel_rfl) (by kernel_rfl) (eff_call (ARGS := [.agg [li .i64 a0.F.a3.N, ls a0.F.a3.Text]]) (by kernel_rfl) (args_clean (by kernel_rfl) args_nil) (F27_ok n a0.F.a3 r13 hr) (by kernel_rfl))) (fun r13 => ?_)
      refine SimI.run 2 [(3, .one (lb r13)), (29, .one (lb r13))] [] (by kernel_rfl) ?_
      refine SimI.done (by kernel_rfl) ?_
      refine SimE.blockN ?_
      refine SimE.thenN ?_
      refine Sim.region0 ?_
      refine SimI.run 3 [(4, .one (li .i64 4)), (21, .one (li .i64 4)), (20, .one (li .i64 3))] [] (by kernel_rfl) ?_
      refine SimI.done (by kernel_rfl) ?_
      refine SimE.loopN ?_
      refine SimL.pre (ts := [1, 3, 4]) (os := [1]) [(1, .one (.ptr 1 0)), (3, .one (lb r13)), (4, .one (li .i64 4))] ((1, some (.cells [li .i64 a0.ID, li .i64 a0.At.X, li .i64 a0.At.Y, li .i64 a0.F.a0.N, ls a0.F.a0.Text, li .i64 a0.F.a1.N, ls a0.F.a1.Text, li .i64 a0.F.a2.N, ls a0.F.a2.Text, li .i64 a0.F.a3.N, ls a0.F.a3.Text])) :: []) (by kernel_rfl) (by kernel_rfl) (by kernel_rfl) ?_
      exact F31_u15_ok n a0 r13
    · refine SimI.run 7 [(3, .one (lb false)), (29, .one (lb false)), (28, .tup []), (27, .tup []), (26, .tup []), (25, .tup []), (24, .tup [])] [] (by kernel_rfl) ?_
      refine SimI.done (by kernel_rfl) ?_
      refine SimE.blockN ?_
      refine SimE.thenN ?_
      refine Sim.region0 ?_
      refine SimI.run 3 [(4, .one (li .i64 4)), (21, .one (li .i64 4)), (20, .one (li .i64 3))] [] (by kernel_rfl) ?_
      refine SimI.done (by kernel_rfl) ?_
      refine SimE.loopN ?_
      refine SimL.pre (ts := [1, 3, 4]) (os := [1]) [(1, .one (.ptr 1 0)), (3, .one (lb false)), (4, .one (li .i64 4))] ((1, some (.cells [li .i64 a0.ID, li .i64 a0.At.X, li .i64 a0.At.Y, li .i64 a0.F.a0.N, ls a0.F.a0.Text, li .i64 a0.F.a1.N, ls a0.F.a1.Text, li .i64 a0.F.a2.N, ls a0.F.a2.Text, li .i64 a0.F.a3.N, ls a0.F.a3.Text])) :: []) (by kernel_rfl) (by kernel_rfl) (by kernel_rfl) ?_
      exact F31_u15_ok n a0 false

def F31_u9 (n : Nat) (a0 : Thing) (b8 : Bool) : Option Bool :=
    if b8 then
      (F27 n a0.F.a2).bind fun (r10 : Bool) =>
      F31_u12 n a0 r10
    else
      F31_u12 n a0 false
theorem F31_u9_ok (n : Nat) (a0 : Thing) (b8 : Bool) : SimL Try.prog D (n + 8) (n + 6) pc31_c13 [(1, .one (.ptr 1 0)), (3, .one (lb b8)), (4, .one (li .i64 2))] ((1, some (.cells [li .i64 a0.ID, li .i64 a0.At.X, li .i64 a0.At.Y, li .i64 a0.F.a0.N, ls a0.F.a0.Text, li .i64 a0.F.a1.N, ls a0.F.a1.Text, li .i64 a0.F.a2.N, ls a0.F.a2.Text, li .i64 a0.F.a3.N, ls a0.F.a3.Text])) :: []) (F31_u9 n a0 b8) (QB 0 (QT Try.prog D (n + 8) pc31_c19 (QF pc31_r 0 F31_e))) := by
    unfold F31_u9
    refine SimL.succ ?_
    refine Sim.seq ?_
    refine Sim.seq ?_
    refine Sim.region [(1, .one (.ptr 1 0)), (3, .one (lb b8)), (4, .one (li .i64 2))] ((1, some (.cells [li .i64 a0.ID, li .i64 a0.At.X, li .i64 a0.At.Y, li .i64 a0.F.a0.N, ls a0.F.a0.Text, li .i64 a0.F.a1.N, ls a0.F.a1.Text, li .i64 a0.F.a2.N, ls a0.F.a2.Text, li .i64 a0.F.a3.N, ls a0.F.a3.Text])) :: []) (by kernel_rfl) ?_
    refine SimI.run 2 [(19, .one (lb true)), (18, .one (li .i64 2))] [] (by kernel_rfl) ?_
    refine SimI.done (by kernel_rfl) ?_
    refine SimE.thenN ?_
    refine Sim.condT (by kernel_rfl) ?_
    refine Sim.skip ?_
    refine SimE.thenN ?_
    refine Sim.seq ?_
    refine Sim.block ?_
    refine Sim.region0 ?_
    refine SimI.run 2 [(23, .one (lb b8)), (22, .one (lb b8))] [] (by kernel_rfl) ?_
    refine SimI.split 23 b8 (by kernel_rfl) ?_ ?_
    · refine SimI.run 4 [(27, .agg [li .i64 a0.F.a2.N, ls a0.F.a2.Text]), (26, .one (.ptr 1 7)), (25, .one (.ptr 1 3)), (24, .one (li .i64 2))] [] (by kernel_rfl) ?_
      refine SimI.bind (og := F27 n a0.F.a2) { dst := some 28, op := POp.call true [[]] 27 [Operand.tmp 27], guard := some (23, true), hints := [] } (fun r10 => [(28, .one (lb r10))]) (fun r10 => []) (by kernel_rfl) (fun r10 hr => pOp_eff (by kernel_rfl) (by kernel_rfl) (eff_call (ARGS := [.agg [li .i64 a0.F.a2.N, ls a0.F.a2.Text]]) (by kernel_rfl) (args_clean (by kernel_rfl) args_nil) (F27_ok n a0.F.a2 r10 hr) (by kernel_rfl))) (fun r10 => ?_)
      refine SimI.run 2 [(3, .one (lb r10)), (29, .one (lb r10))] [] (by kernel_rfl) ?_
      refine SimI.done (by kernel_rfl) ?_
      refine SimE.blockN ?_
      refine SimE.thenN ?_
      refine Sim.region0 ?_
      refine SimI.run 3 [(4, .one (li .i64 3)), (21, .one (li .i64 3)), (20, .one (li .i64 2))] [] (by kernel_rfl) ?_
      refine SimI.done (by kernel_rfl) ?_
      refine SimE.loopN ?_
      refine SimL.pre (ts := [1, 3, 4]) (os := [1]) [(1, .one (.ptr 1 0)), (3, .one (lb r10)), (4, .one (li .i64 3))] ((1, some (.cells [li .i64 a0.ID, li .i64 a0.At.X, li .i64 a0.At.Y, li .i64 a0.F.a0.N, ls a0.F.a0.Text, li .i64 a0.F.a1.N, ls a0.F.a1.Text, li .i64 a0.F.a2.N, ls a0.F.a2.Text, li .i64 a0.F.a3.N, ls a0.F.a3.Text])) :: []) (by kernel_rfl) (by kernel_rfl) (by kernel_rfl) ?_
      exact F31_u12_ok n a0 r10
    · refine SimI.run 7 [(3, .one (lb false)), (29, .one (lb false)), (28, .tup []), (27, .tup []), (26, .tup []), (25, .tup []), (24, .tup [])] [] (by kernel_rfl) ?_
      refine SimI.done (by kernel_rfl) ?_
      refine SimE.blockN ?_
      refine SimE.thenN ?_
      refine Sim.region0 ?_
      refine SimI.run 3 [(4, .one (li .i64 3)), (21, .one (li .i64 3)), (20, .one (li .i64 2))] [] (by kernel_rfl) ?_
      refine SimI.done (by kernel_rfl) ?_
      refine SimE.loopN ?_
      refine SimL.pre (ts := [1, 3, 4]) (os := [1]) [(1, .one (.ptr 1 0)), (3, .one (lb false)), (4, .one (li .i64 3))] ((1, some (.cells [li .i64 a0.ID, li .i64 a0.At.X, li .i64 a0.At.Y, li .i64 a0.F.a0.N, ls a0.F.a0.Text, li .i64 a0.F.a1.N, ls a0.F.a1.Text, li .i64 a0.F.a2.N, ls a0.F.a2.Text, li .i64 a0.F.a3.N, ls a0.F.a3.Text])) :: []) (by kernel_rfl) (by kernel_rfl) (by kernel_rfl) ?_
      exact F31_u12_ok n a0 false

def F31_u6 (n : Nat) (a0 : Thing) (b5 : Bool) : Option Bool :=
    if b5 then
      (F27 n a0.F.a1).bind fun (r7 : Bool) =>
      F31_u9 n a0 r7
    else
      F31_u9 n a0 false
theorem F31_u6_ok (n : Nat) (a0 : Thing) (b5 : Bool) : SimL Try.prog D (n + 8) (n + 7) pc31_c13 [(1, .one (.ptr 1 0)), (3, .one (lb b5)), (4, .one (li .i64 1))] ((1, some (.cells [li .i64 a0.ID, li .i64 a0.At.X, li .i64 a0.At.Y, li .i64 a0.F.a0.N, ls a0.F.a0.Text, li .i64 a0.F.a1.N, ls a0.F.a1.Text, li .i64 a0.F.a2.N, ls a0.F.a2.Text, li .i64 a0.F.a3.N, ls a0.F.a3.Text])) :: []) (F31_u6 n a0 b5) (QB 0 (QT Try.prog D (n + 8) pc31_c19 (QF pc31_r 0 F31_e))) := by
    unfold F31_u6
    refine SimL.succ ?_
    refine Sim.seq ?_
    refine Sim.seq ?_
    refine Sim.region [(1, .one (.ptr 1 0)), (3, .one (lb b5)), (4, .one (li .i64 1))] ((1, some (.cells [li .i64 a0.ID, li .i64 a0.At.X, li .i64 a0.At.Y, li .i64 a0.F.a0.N, ls a0.F.a0.Text, li .i64 a0.F.a1.N, ls a0.F.a1.Text, li .i64 a0.F.a2.N, ls a0.F.a2.Text, li .i64 a0.F.a3.N, ls a0.F.a3.Text])) :: []) (by kernel_rfl) ?_
    refine SimI.run 2 [(19, .one (lb true)), (18, .one (li .i64 1))] [] (by kernel_rfl) ?_
    refine SimI.done (by kernel_rfl) ?_
    refine SimE.thenN ?_
    refine Sim.condT (by kernel_rfl) ?_
    refine Sim.skip ?_
    refine SimE.thenN ?_
    refine Sim.seq ?_
    refine Sim.block ?_
    refine Sim.region0 ?_
    refine SimI.run 2 [(23, .one (lb b5)), (22, .one (lb b5))] [] (by kernel_rfl) ?_
    refine SimI.split 23 b5 (by kernel_rfl) ?_ ?_
    · refine SimI.run 4 [(27, .agg [li .i64 a0.F.a1.N, ls a0.F.a1.Text]), (26, .one (.ptr 1 5)), (25, .one (.ptr 1 3)), (24, .one (li .i64 1))] [] (by kernel_rfl) ?_
      refine SimI.bind (og := F27 n a0.F.a1) { dst := some 28, op := POp.call true [[]] 27 [Operand.tmp 27], guard := some (23, true), hints := [] } (fun r7 => [(28, .one (lb r7))]) (fun r7 => []) (by kernel_rfl) (fun r7 hr => pOp_eff (by kernel_rfl) (by kernel_rfl) (eff_call (ARGS := [.agg [li .i64 a0.F.a1.N, ls a0.F.a1.Text]]) (by kernel_rfl) (args_clean (by kernel_rfl) args_nil) (F27_ok n a0.F.a1 r7 hr) (by kernel_rfl))) (fun r7 => ?_)
      refine SimI.run 2 [(3, .one (lb r7)), (29, .one (lb r7))] [] (by kernel_rfl) ?_
      refine SimI.done (by kernel_rfl) ?_
      refine SimE.blockN ?_
      refine SimE.thenN ?_
      refine Sim.region0 ?_
      refine SimI.run 3 [(4, .one (li .i64 2)), (21, .one (li .i64 2)), (20, .one (li .i64 1))] [] (by kernel_rfl) ?_
      refine SimI.done (by kernel_rfl) ?_
      refine SimE.loopN ?_
      refine SimL.pre (ts := [1, 3, 4]) (os := [1]) [(1, .one (.ptr 1 0)), (3, .one (lb r7)), (4, .one (li .i64 2))] ((1, some (.cells [li .i64 a0.ID, li .i64 a0.At.X, li .i64 a0.At.Y, li .i64 a0.F.a0.N, ls a0.F.a0.Text, li .i64 a0.F.a1.N, ls a0.F.a1.Text, li .i64 a0.F.a2.N, ls a0.F.a2.Text, li .i64 a0.F.a3.N, ls a0.F.a3.Text])) :: []) (by kernel_rfl) (by kernel_rfl) (by kernel_rfl) ?_
      exact F31_u9_ok n a0 r7
    · refine SimI.run 7 [(3, .one (lb false)), (29, .one (lb false)), (28, .tup []), (27, .tup []), (26, .tup []), (25, .tup []), (24, .tup [])] [] (by kernel_rfl) ?_
      refine SimI.done (by kernel_rfl) ?_
      refine SimE.blockN ?_
      refine SimE.thenN ?_
      refine Sim.region0 ?_
      refine SimI.run 3 [(4, .one (li .i64 2)), (21, .one (li .i64 2)), (20, .one (li .i64 1))] [] (by kernel_rfl) ?_
      refine SimI.done (by kernel_rfl) ?_
      refine SimE.loopN ?_
      refine SimL.pre (ts := [1, 3, 4]) (os := [1]) [(1, .one (.ptr 1 0)), (3, .one (lb false)), (4, .one (li .i64 2))] ((1, some (.cells [li .i64 a0.ID, li .i64 a0.At.X, li .i64 a0.At.Y, li .i64 a0.F.a0.N, ls a0.F.a0.Text, li .i64 a0.F.a1.N, ls a0.F.a1.Text, li .i64 a0.F.a2.N, ls a0.F.a2.Text, li .i64 a0.F.a3.N, ls a0.F.a3.Text])) :: []) (by kernel_rfl) (by kernel_rfl) (by kernel_rfl) ?_
      exact F31_u9_ok n a0 false

def F31_j3 (n : Nat) (a0 : Thing) (b2 : Bool) : Option Bool :=
    if b2 then
      (F27 n a0.F.a0).bind fun (r4 : Bool) =>
      F31_u6 n a0 r4
    else
      F31_u6 n a0 false
theorem F31_j3_ok (n : Nat) (a0 : Thing) (b2 : Bool) : Sim Try.prog D (n + 8) pc31_c20 [(1, .one (.ptr 1 0)), (3, .one (lb b2))] ((1, some (.cells [li .i64 a0.ID, li .i64 a0.At.X, li .i64 a0.At.Y, li .i64 a0.F.a0.N, ls a0.F.a0.Text, li .i64 a0.F.a1.N, ls a0.F.a1.Text, li .i64 a0.F.a2.N, ls a0.F.a2.Text, li .i64 a0.F.a3.N, ls a0.F.a3.Text])) :: []) (F31_j3 n a0 b2) (QF pc31_r 0 F31_e) := by
    unfold F31_j3
    refine Sim.seq ?_
    refine Sim.seq ?_
    refine Sim.region [(1, .one (.ptr 1 0)), (3, .one (lb b2))] ((1, some (.cells [li .i64 a0.ID, li .i64 a0.At.X, li .i64 a0.At.Y, li .i64 a0.F.a0.N, ls a0.F.a0.Text, li .i64 a0.F.a1.N, ls a0.F.a1.Text, li .i64 a0.F.a2.N, ls a0.F.a2.Text, li .i64 a0.F.a3.N, ls a0.F.a3.Text])) :: []) (by kernel_rfl) ?_
    refine SimI.run 1 [(4, .one (li .i64 0))] [] (by kernel_rfl) ?_
    refine SimI.done (by kernel_rfl) ?_
    refine SimE.thenN ?_
    refine Sim.block ?_
    refine Sim.loop ?_
    refine SimL.succ ?_
    refine Sim.seq ?_
    refine Sim.seq ?_
    refine Sim.region [(1, .one (.ptr 1 0)), (3, .one (lb b2)), (4, .one (li .i64 0))] ((1, some (.cells [li .i64 a0.ID, li .i64 a0.At.X, li .i64 a0.At.Y, li .i64 a0.F.a0.N, ls a0.F.a0.Text, li .i64 a0.F.a1.N, ls a0.F.a1.Text, li .i64 a0.F.a2.N, ls a0.F.a2.Text, li .i64 a0.F.a3.N, ls a0.F.a3.Text])) :: []) (by kernel_rfl) ?_
    refine SimI.run 2 [(19, .one (lb true)), (18, .one (li .i64 0))] [] (by kernel_rfl) ?_
    refine SimI.done (by kernel_rfl) ?_
    refine SimE.thenN ?_
    refine Sim.condT (by kernel_rfl) ?_
    refine Sim.skip ?_
    refine SimE.thenN ?_
    refine Sim.seq ?_
    refine Sim.block ?_
    refine Sim.region0 ?_
    refine SimI.run 2 [(23, .one (lb b2)), (22, .one (lb b2))] [] (by kernel_rfl) ?_
    refine SimI.split 23 b2 (by kernel_rfl) ?_ ?_
    · refine SimI.run 4 [(27, .agg [li .i64 a0.F.a0.N, ls a0.F.a0.Text]), (26, .one (.ptr 1 3)), (25, .one (.ptr 1 3)), (24, .one (li .i64 0))] [] (by kernel_rfl) ?_
      refine SimI.bind (og := F27 n a0.F.a0) { dst := some 28, op := POp.call true [[]] 27 [Operand.tmp 27], guard := some (23, true), hints := [] } (fun r4 => [(28, .one (lb r4))]) (fun r4 => []) (by kernel_rfl) (fun r4 hr => pOp_eff (by kernel_rfl) (by kernel_rfl) (eff_call (ARGS := [.agg [li .i64 a0.F.a0.N, ls a0.F.a0.Text]]) (by kernel_rfl) (args_clean (by kernel_rfl) args_nil) (F27_ok n a0.F.a0 r4 hr) (by kernel_rfl))) (fun r4 => ?_)
      refine SimI.run 2 [(3, .one (lb r4)), (29, .one (lb r4))] [] (by kernel_rfl) ?_
      refine SimI.done (by kernel_rfl) ?_
      refine SimE.blockN ?_
      refine SimE.thenN ?_
      refine Sim.region0 ?_
      refine SimI.run 3 [(4, .one (li .i64 1)), (21, .one (li .i64 1)), (20, .one (li .i64 0))] [] (by kernel_rfl) ?_
      refine SimI.done (by kernel_rfl) ?_
      refine SimE.loopN ?_
      refine SimL.pre (ts := [1, 3, 4]) (os := [1]) [(1, .one (.ptr 1 0)), (3, .one (lb r4)), (4, .one (li .i64 1))] ((1, some (.cells [li .i64 a0.ID, li .i64 a0.At.X, li .i64 a0.At.Y, li .i64 a0.F.a0.N, ls a0.F.a0.Text, li .i64 a0.F.a1.N, ls a0.F.a1.Text, li .i64 a0.F.a2.N, ls a0.F.a2.Text, li .i64 a0.F.a3.N, ls a0.F.a3.Text])) :: []) (by kernel_rfl) (by kernel_rfl) (by kernel_rfl) ?_
      exact F31_u6_ok n a0 r4
    · refine SimI.run 7 [(3, .one (lb false)), (29, .one (lb false)), (28, .tup []), (27, .tup []), (26, .tup []), (25, .tup []), (24, .tup [])] [] (by kernel_rfl) ?_
      refine SimI.done (by kernel_rfl) ?_
      refine SimE.blockN ?_
      refine SimE.thenN ?_
      refine Sim.region0 ?_
      refine SimI.run 3 [(4, .one (li .i64 1)), (21, .one (li .i64 1)), (20, .one (li .i64 0))] [] (by kernel_rfl) ?_
      refine SimI.done (by kernel_rfl) ?_
      refine SimE.loopN ?_
      refine SimL.pre (ts := [1, 3, 4]) (os := [1]) [(1, .one (.ptr 1 0)), (3, .one (lb false)), (4, .one (li .i64 1))] ((1, some (.cells [li .i64 a0.ID, li .i64 a0.At.X, li .i64 a0.At.Y, li .i64 a0.F.a0.N, ls a0.F.a0.Text, li .i64 a0.F.a1.N, ls a0.F.a1.Text, li .i64 a0.F.a2.N, ls a0.F.a2.Text, li .i64 a0.F.a3.N, ls a0.F.a3.Text])) :: []) (by kernel_rfl) (by kernel_rfl) (by kernel_rfl) ?_
      exact F31_u6_ok n a0 false

def F31 (n : Nat) (a0 : Thing) : Option Bool :=
  if decide ((0 : Int) ≤ a0.ID) then
    if decide (a0.ID ≤ 1000000) then
      (F46 n a0.At).bind fun (r1 : Bool) =>
      F31_j3 n a0 r1
    else
      F31_j3 n a0 false
  else
    F31_j3 n a0 false
theorem F31_ok (n : Nat) (a0 : Thing) : ∀ r, F31 n a0 = some r → D 31 [.agg [li .i64 a0.ID, li .i64 a0.At.X, li .i64 a0.At.Y, li .i64 a0.F.a0.N, ls a0.F.a0.Text, li .i64 a0.F.a1.N, ls a0.F.a1.Text, li .i64 a0.F.a2.N, ls a0.F.a2.Text, li .i64 a0.F.a3.N, ls a0.F.a3.Text]] [] = some (F31_e r) := by
  refine fn_to (D := D) (n := n + 8) (nt := 31) (rs := pc31_r) (c := pc31_c22) (L := [(0, .agg [li .i64 a0.ID, li .i64 a0.At.X, li .i64 a0.At.Y, li .i64 a0.F.a0.N, ls a0.F.a0.Text, li .i64 a0.F.a1.N, ls a0.F.a1.Text, li .i64 a0.F.a2.N, ls a0.F.a2.Text, li .i64 a0.F.a3.N, ls a0.F.a3.Text])]) (M := []) (k := 0) rfl rfl rfl rfl rfl rfl ?_
  unfold F31
  refine Sim.seq ?_
  refine Sim.region0 ?_
  refine SimI.run 2 [(2, .one (lb false)), (1, .one (.ptr 1 0))] [(1, some (.cells [li .i64 a0.ID, li .i64 a0.At.X, li .i64 a0.At.Y, li .i64 a0.F.a0.N, ls a0.F.a0.Text, li .i64 a0.F.a1.N, ls a0.F.a1.Text, li .i64 a0.F.a2.N, ls a0.F.a2.Text, li .i64 a0.F.a3.N, ls a0.F.a3.Text]))] (by kernel_rfl) ?_
  refine SimI.done (by kernel_rfl) ?_
  refine SimE.thenN ?_
  refine Sim.seq ?_
  refine Sim.region0 ?_
  refine SimI.run 4 [(8, .one (lb (decide ((0 : Int) ≤ a0.ID)))), (7, .one (lb (decide ((0 : Int) ≤ a0.ID)))), (6, .one (li .i64 a0.ID)), (5, .one (.ptr 1 0))] [] (by kernel_rfl) ?_
  refine SimI.split 8 (decide ((0 : Int) ≤ a0.ID)) (by kernel_rfl) ?_ ?_
  · refine SimI.run 5 [(13, .one (lb (decide (a0.ID ≤ 1000000)))), (12, .one (lb (decide (a0.ID ≤ 1000000)))), (11, .one (lb (decide (a0.ID ≤ 1000000)))), (10, .one (li .i64 a0.ID)), (9, .one (.ptr 1 0))] [] (by kernel_rfl) ?_
    refine SimI.split 13 (decide (a0.ID ≤ 1000000)) (by kernel_rfl) ?_ ?_
    · refine SimI.run 2 [(15, .agg [li .i64 a0.At.X, li .i64 a0.At.Y]), (14, .one (.ptr 1 1))] [] (by kernel_rfl) ?_
      refine SimI.bind (og := F46 n a0.At) { dst := some 16, op := POp.call true [[]] 46 [Operand.tmp 15], guard := some (13, true), hints := [] } (fun r1 => [(16, .one (lb r1))]) (fun r1 => []) (by kernel_rfl) (fun r1 hr => pOp_eff (by kernel_rfl) (by kernel_rfl) (eff_call (ARGS := [.agg [li .i64 a0.At.X, li .i64 a0.At.Y]]) (by kernel_rfl) (args_clean (by kernel_rfl) args_nil) (F46_ok n a0.At r1 hr) (by kernel_rfl))) (fun r1 => ?_)
      refine SimI.run 2 [(3, .one (lb r1)), (17, .one (lb r1))] [] (by kernel_rfl) ?_
      refine SimI.done (by kernel_rfl) ?_
      refine SimE.thenN ?_
      refine Sim.pre (ts := [1, 3]) (os := [1]) [(1, .one (.ptr 1 0)), (3, .one (lb r1))] ((1, some (.cells [li .i64 a0.ID, li .i64 a0.At.X, li .i64 a0.At.Y, li .i64 a0.F.a0.N, ls a0.F.a0.Text, li .i64 a0.F.a1.N, ls a0.F.a1.Text, li .i64 a0.F.a2.N, ls a0.F.a2.Text, li .i64 a0.F.a3.N, ls a0.F.a3.Text])) :: []) (by kernel_rfl) (by kernel_rfl) (by kernel_rfl) ?_
      exact F31_j3_ok n a0 r1
    · refine SimI.run 5 [(3, .one (lb false)), (17, .one (lb false)), (16, .tup []), (15, .tup []), (14, .tup [])] [] (by kernel_rfl) ?_
      refine SimI.done (by kernel_rfl) ?_
      refine SimE.thenN ?_
      refine Sim.pre (ts := [1, 3]) (os := [1]) [(1, .one (.ptr 1 0)), (3, .one (lb false))] ((1, some (.cells [li .i64 a0.ID, li .i64 a0.At.X, li .i64 a0.At.Y, li .i64 a0.F.a0.N, ls a0.F.a0.Text, li .i64 a0.F.a1.N, ls a0.F.a1.Text, li .i64 a0.F.a2.N, ls a0.F.a2.Text, li .i64 a0.F.a3.N, ls a0.F.a3.Text])) :: []) (by kernel_rfl) (by kernel_rfl) (by kernel_rfl) ?_
      exact F31_j3_ok n a0 false
  · refine SimI.run 10 [(3, .one (lb false)), (17, .one (lb false)), (16, .tup []), (15, .tup []), (14, .tup []), (13, .one (lb false)), (12, .one (lb false)), (11, .tup []), (10, .tup []), (9, .tup [])] [] (by kernel_rfl) ?_
    refine SimI.done (by kernel_rfl) ?_
    refine SimE.thenN ?_
    refine Sim.pre (ts := [1, 3]) (os := [1]) [(1, .one (.ptr 1 0)), (3, .one (lb false))] ((1, some (.cells [li .i64 a0.ID, li .i64 a0.At.X, li .i64 a0.At.Y, li .i64 a0.F.a0.N, ls a0.F.a0.Text, li .i64 a0.F.a1.N, ls a0.F.a1.Text, li .i64 a0.F.a2.N, ls a0.F.a2.Text, li .i64 a0.F.a3.N, ls a0.F.a3.Text])) :: []) (by kernel_rfl) (by kernel_rfl) (by kernel_rfl) ?_
    exact F31_j3_ok n a0 false


-- 5: vedette/vedettelaw6.FieldsBack
def F5_e : Bool → PV × List (List Lf) := fun r => (.one (lb r), [])
def F5 (n : Nat) (a0 : Thing) (a1 : Thing) (a2 : ByteArray) : Option Bool :=
  ((some true)).bind fun (r1 : Bool) =>
  if !(r1) then
    some false
  else
    (F15 n a0).bind fun (r2 : Bool) =>
    if !(r2) then
      some true
    else
      (F15 n a1).bind fun (r3 : Bool) =>
      if !(r3) then
        some true
      else
        if decide ((50 : Int) < (a2.size : Int)) then
          some true
        else
          (F31 n a0).bind fun (r4 : Bool) =>
          if !(r4) then
            some true
          else
            (F31 n a1).bind fun (r5 : Bool) =>
            if !(r5) then
              some true
            else
              (F18 n a0 (Thing.mk a0.ID a1.At a1.F)).bind fun (r6 : (Delta × Bool)) =>
              if !(r6.2) then
                some (Thing.eqb a0 (Thing.mk a0.ID a1.At a1.F))
              else
                (F20 n r6.1).bind fun (r7 : (ByteArray × Int)) =>
                if r7.1.size + a2.size ≤ 9223372036854775807 then
                  (F29 n (r7.1 ++ a2)).bind fun (r8 : (Delta × Int × Int)) =>
                  (F23 n a0 r8.1).bind fun (r9 : Thing) =>
                  (F18 n a0 r9).bind fun (r10 : (Delta × Bool)) =>
                  (F18 n (Thing.mk a0.ID a1.At a1.F) r9).bind fun (r11 : (Delta × Bool)) =>
                  if r7.2 == 0 then
                    if r8.2.2 == 0 then
                      if r8.2.1 == (r7.1.size : Int) then
                        if Thing.eqb r9 (Thing.mk a0.ID a1.At a1.F) then
                          if r10.2 then
                            if Delta.eqb r10.1 r6.1 then
                              if !(r11.2) then
                                some (r6.1.ID == a0.ID)
                              else
                                some false
                            else
                              some false
                          else
                            some false
                        else
                          some false
                      else
                        some false
                    else
                      some false
                  else
                    some false
                else none
theorem F5_ok (n : Nat) (a0 : Thing) (a1 : Thing) (a2 : ByteArray) : ∀ r, F5 n a0 a1 a2 = some r → D 5 [.agg [li .i64 a0.ID, li .i64 a0.At.X, li .i64 a0.At.Y, li .i64 a0.F.a0.N, ls a0.F.a0.Text, li .i64 a0.F.a1.N, ls a0.F.a1.Text, li .i64 a0.F.a2.N, ls a0.F.a2.Text, li .i64 a0.F.a3.N, ls a0.F.a3.Text], .agg [li .i64 a1.ID, li .i64 a1.At.X, li .i64 a1.At.Y, li .i64 a1.F.a0.N, ls a1.F.a0.Text, li .i64 a1.F.a1.N, ls a1.F.a1.Text, li .i64 a1.F.a2.N, ls a1.F.a2.Text, li .i64 a1.F.a3.N, ls a1.F.a3.Text], .one (ls a2)] [] = some (F5_e r) := by
  refine fn_to (D := D) (n := n + 8) (nt := 124) (rs := pc5_r) (c := pc5_c45) (L := [(0, .agg [li .i64 a0.ID, li .i64 a0.At.X, li .i64 a0.At.Y, li .i64 a0.F.a0.N, ls a0.F.a0.Text, li .i64 a0.F.a1.N, ls a0.F.a1.Text, li .i64 a0.F.a2.N, ls a0.F.a2.Text, li .i64 a0.F.a3.N, ls a0.F.a3.Text]), (1, .agg [li .i64 a1.ID, li .i64 a1.At.X, li .i64 a1.At.Y, li .i64 a1.F.a0.N, ls a1.F.a0.Text, li .i64 a1.F.a1.N, ls a1.F.a1.Text, li .i64 a1.F.a2.N, ls a1.F.a2.Text, li .i64 a1.F.a3.N, ls a1.F.a3.Text]), (2, .one (ls a2))]) (M := []) (k := 0) rfl rfl rfl rfl rfl rfl ?_
  unfold F5
  refine Sim.seq ?_
  refine Sim.region0 ?_
  refine SimI.run 3 [(6, .one (lb false)), (4, .one (.ptr 4 0)), (3, .one (.ptr 3 0))] [(4, some (.cells [li .i64 a1.ID, li .i64 a1.At.X, li .i64 a1.At.Y, li .i64 a1.F.a0.N, ls a1.F.a0.Text, li .i64 a1.F.a1.N, ls a1.F.a1.Text, li .i64 a1.F.a2.N, ls a1.F.a2.Text, li .i64 a1.F.a3.N, ls a1.F.a3.Text])), (3, some (.cells [li .i64 a0.ID, li .i64 a0.At.X, li .i64 a0.At.Y, li .i64 a0.F.a0.N, ls a0.F.a0.Text, li .i64 a0.F.a1.N, ls a0.F.a1.Text, li .i64 a0.F.a2.N, ls a0.F.a2.Text, li .i64 a0.F.a3.N, ls a0.F.a3.Text]))] (by kernel_rfl) ?_
  refine SimI.done (by kernel_rfl) ?_
  refine SimE.thenN ?_
  refine Sim.seq ?_
  refine Sim.seq ?_
  refine Sim.region0 ?_
  refine SimI.bind (og := (some true)) { dst := some 20, op := POp.call true [] 14 [], guard := none, hints := [] } (fun r1 => [(20, .one (lb r1))]) (fun r1 => []) (by kernel_rfl) (fun r1 hr => pOp_eff (by kernel_rfl) (by kernel_rfl) (eff_call (ARGS := []) (by kernel_rfl) (args_nil) (F14_ok n r1 hr) (by kernel_rfl))) (fun r1 => ?_)
  refine SimI.run 1 [(21, .one (lb (!(r1))))] [] (by kernel_rfl) ?_
  refine SimI.done (by kernel_rfl) ?_
  refine SimE.thenN ?_
  refine Sim.cond (!(r1)) (by kernel_rfl) ?_ ?_
  · refine Sim.seq ?_
    refine Sim.region0 ?_
    refine SimI.run 1 [(6, .one (lb false))] [] (by kernel_rfl) ?_
    refine SimI.done (by kernel_rfl) ?_
    refine SimE.thenN ?_
    refine Sim.ret ?_
    refine SimE.thenR ?_
    exact SimE.fin (by kernel_rfl)
  · refine Sim.skip ?_
    refine SimE.thenN ?_
    refine Sim.seq ?_
    refine Sim.seq ?_
    refine Sim.region0 ?_
    refine SimI.run 1 [(22, .agg [li .i64 a0.ID, li .i64 a0.At.X, li .i64 a0.At.Y, li .i64 a0.F.a0.N, ls a0.F.a0.Text, li .i64 a0.F.a1.N, ls a0.F.a1.Text, li .i64 a0.F.a2.N, ls a0.F.a2.Text, li .i64 a0.F.a3.N, ls a0.F.a3.Text])] [] (by kernel_rfl) ?_
    refine SimI.bind (og := F15 n a0) { dst := some 23, op := POp.call true [[]] 15 [Operand.tmp 22], guard := none, hints := [] } (fun r2 => [(23, .one (lb r2))]) (fun r2 => []) (by kernel_rfl) (fun r2 hr => pOp_eff (by kernel_rfl) (by kernel_rfl) (eff_call (ARGS := [.agg [li .i64 a0.ID, li .i64 a0.At.X, li .i64 a0.At.Y, li .i64 a0.F.a0.N, ls a0.F.a0.Text, li .i64 a0.F.a1.N, ls a0.F.a1.Text, li .i64 a0.F.a2.N, ls a0.F.a2.Text, li .i64 a0.F.a3.N, ls a0.F.a3.Text]]) (by kernel_rfl) (args_clean (by kernel_rfl) args_nil) (F15_ok n a0 r2 hr) (by kernel_rfl))) (fun r2 => ?_)
    refine SimI.run 2 [(25, .one (lb (!(r2)))), (24, .one (lb (!(r2))))] [] (by kernel_rfl) ?_
    refine SimI.split 25 (!(r2)) (by kernel_rfl) ?_ ?_
    · refine SimI.run 19 [(44, .one (lb true)), (43, .tup []), (42, .tup []), (41, .tup []), (40, .one (lb true)), (39, .one (lb true)), (38, .tup []), (37, .tup []), (36, .tup []), (35, .one (lb true)), (34, .one (lb true)), (33, .tup []), (32, .tup []), (31, .tup []), (30, .one (lb true)), (29, .one (lb true)), (28, .tup []), (27, .tup []), (26, .tup [])] [] (by kernel_rfl) ?_
      refine SimI.done (by kernel_rfl) ?_
      refine SimE.thenN ?_
      refine Sim.condT (by kernel_rfl) ?_
      refine Sim.seq ?_
      refine Sim.region0 ?_
      refine SimI.run 1 [(6, .one (lb true))] [] (by kernel_rfl) ?_
      refine SimI.done (by kernel_rfl) ?_
      refine SimE.thenN ?_
      refine Sim.ret ?_
      refine SimE.thenR ?_
      exact SimE.fin (by kernel_rfl)
    · refine SimI.run 1 [(26, .agg [li .i64 a1.ID, li .i64 a1.At.X, li .i64 a1.At.Y, li .i64 a1.F.a0.N, ls a1.F.a0.Text, li .i64 a1.F.a1.N, ls a1.F.a1.Text, li .i64 a1.F.a2.N, ls a1.F.a2.Text, li .i64 a1.F.a3.N, ls a1.F.a3.Text])] [] (by kernel_rfl) ?_
      refine SimI.bind (og := F15 n a1) { dst := some 27, op := POp.call true [[]] 15 [Operand.tmp 26], guard := some (25, false), hints := [] } (fun r3 => [(27, .one (lb r3))]) (fun r3 => []) (by kernel_rfl) (fun r3 hr => pOp_eff (by kernel_rfl) (by kernel_rfl) (eff_call (ARGS := [.agg [li .i64 a1.ID, li .i64 a1.At.X, li .i64 a1.At.Y, li .i64 a1.F.a0.N, ls a1.F.a0.Text, li .i64 a1.F.a1.N, ls a1.F.a1.Text, li .i64 a1.F.a2.N, ls a1.F.a2.Text, li .i64 a1.F.a3.N, ls a1.F.a3.Text]]) (by kernel_rfl) (args_clean (by kernel_rfl) args_nil) (F15_ok n a1 r3 hr) (by kernel_rfl))) (fun r3 => ?_)
      refine SimI.run 3 [(30, .one (lb (!(r3)))), (29, .one (lb (!(r3)))), (28, .one (lb (!(r3))))] [] (by kernel_rfl) ?_
      refine SimI.split 30 (!(r3)) (by kernel_rfl) ?_ ?_
      · refine SimI.run 14 [(44, .one (lb true)), (43, .tup []), (42, .tup []), (41, .tup []), (40, .one (lb true)), (39, .one (lb true)), (38, .tup []), (37, .tup []), (36, .tup []), (35, .one (lb true)), (34, .one (lb true)), (33, .tup []), (32, .tup []), (31, .tup [])] [] (by kernel_rfl) ?_
        refine SimI.done (by kernel_rfl) ?_
        refine SimE.thenN ?_
        refine Sim.condT (by kernel_rfl) ?_
        refine Sim.seq ?_
        refine Sim.region0 ?_
        refine SimI.run 1 [(6, .one (lb true))] [] (by kernel_rfl) ?_
        refine SimI.done (by kernel_rfl) ?_
        refine SimE.thenN ?_
        refine Sim.ret ?_
        refine SimE.thenR ?_
        exact SimE.fin (by kernel_rfl)
      · refine SimI.run 5 [(35, .one (lb (decide ((50 : Int) < (a2.size : Int))))), (34, .one (lb (decide ((50 : Int) < (a2.size : Int))))), (33, .one (lb (decide ((50 : Int) < (a2.size : Int))))), (32, .one (li .i64 (a2.size : Int))), (31, .one (ls a2))] [] (by kernel_rfl) ?_
        refine SimI.split 35 (decide ((50 : Int) < (a2.size : Int))) (by kernel_rfl) ?_ ?_
        · refine SimI.run 9 [(44, .one (lb true)), (43, .tup []), (42, .tup []), (41, .tup []), (40, .one (lb true)), (39, .one (lb true)), (38, .tup []), (37, .tup []), (36, .tup [])] [] (by kernel_rfl) ?_
          refine SimI.done (by kernel_rfl) ?_
          refine SimE.thenN ?_
          refine Sim.condT (by kernel_rfl) ?_
          refine Sim.seq ?_
          refine Sim.region0 ?_
          refine SimI.run 1 [(6, .one (lb true))] [] (by kernel_rfl) ?_
          refine SimI.done (by kernel_rfl) ?_
          refine SimE.thenN ?_
          refine Sim.ret ?_
          refine SimE.thenR ?_
          exact SimE.fin (by kernel_rfl)
        · refine SimI.run 1 [(36, .agg [li .i64 a0.ID, li .i64 a0.At.X, li .i64 a0.At.Y, li .i64 a0.F.a0.N, ls a0.F.a0.Text, li .i64 a0.F.a1.N, ls a0.F.a1.Text, li .i64 a0.F.a2.N, ls a0.F.a2.Text, li .i64 a0.F.a3.N, ls a0.F.a3.Text])] [] (by kernel_rfl) ?_
          refine SimI.bind (og := F31 n a0) { dst := some 37, op := POp.call true [[]] 31 [Operand.tmp 36], guard := some (35, false), hints := [] } (fun r4 => [(37, .one (lb r4))]) (fun r4 => []) (by kernel_rfl) (fun r4 hr => pOp_eff (by kernel_rfl) (by kernel_rfl) (eff_call (ARGS := [.agg [li .i64 a0.ID, li .i64 a0.At.X, li .i64 a0.At.Y, li .i64 a0.F.a0.N, ls a0.F.a0.Text, li .i64 a0.F.a1.N, ls a0.F.a1.Text, li .i64 a0.F.a2.N, ls a0.F.a2.Text, li .i64 a0.F.a3.N, ls a0.F.a3.Text]]) (by kernel_rfl) (args_clean (by kernel_rfl) args_nil) (F31_ok n a0 r4 hr) (by kernel_rfl))) (fun r4 => ?_)
          refine SimI.run 3 [(40, .one (lb (!(r4)))), (39, .one (lb (!(r4)))), (38, .one (lb (!(r4))))] [] (by kernel_rfl) ?_
          refine SimI.split 40 (!(r4)) (by kernel_rfl) ?_ ?_
          · refine SimI.run 4 [(44, .one (lb true)), (43, .tup []), (42, .tup []), (41, .tup [])] [] (by kernel_rfl) ?_
            refine SimI.done (by kernel_rfl) ?_
            refine SimE.thenN ?_
            refine Sim.condT (by kernel_rfl) ?_
            refine Sim.seq ?_
            refine Sim.region0 ?_
            refine SimI.run 1 [(6, .one (lb true))] [] (by kernel_rfl) ?_
            refine SimI.done (by kernel_rfl) ?_
            refine SimE.thenN ?_
            refine Sim.ret ?_
            refine SimE.thenR ?_
            exact SimE.fin (by kernel_rfl)
          · refine SimI.run 1 [(41, .agg [li .i64 a1.ID, li .i64 a1.At.X, li .i64 a1.At.Y, li .i64 a1.F.a0.N, ls a1.F.a0.Text, li .i64 a1.F.a1.N, ls a1.F.a1.Text, li .i64 a1.F.a2.N, ls a1.F.a2.Text, li .i64 a1.F.a3.N, ls a1.F.a3.Text])] [] (by kernel_rfl) ?_
            refine SimI.bind (og := F31 n a1) { dst := some 42, op := POp.call true [[]] 31 [Operand.tmp 41], guard := some (40, false), hints := [] } (fun r5 => [(42, .one (lb r5))]) (fun r5 => []) (by kernel_rfl) (fun r5 hr => pOp_eff (by kernel_rfl) (by kernel_rfl) (eff_call (ARGS := [.agg [li .i64 a1.ID, li .i64 a1.At.X, li .i64 a1.At.Y, li .i64 a1.F.a0.N, ls a1.F.a0.Text, li .i64 a1.F.a1.N, ls a1.F.a1.Text, li .i64 a1.F.a2.N, ls a1.F.a2.Text, li .i64 a1.F.a3.N, ls a1.F.a3.Text]]) (by kernel_rfl) (args_clean (by kernel_rfl) args_nil) (F31_ok n a1 r5 hr) (by kernel_rfl))) (fun r5 => ?_)
            refine SimI.run 2 [(44, .one (lb (!(r5)))), (43, .one (lb (!(r5))))] [] (by kernel_rfl) ?_
            refine SimI.done (by kernel_rfl) ?_
            refine SimE.thenN ?_
            refine Sim.cond (!(r5)) (by kernel_rfl) ?_ ?_
            · refine Sim.seq ?_
              refine Sim.region0 ?_
              refine SimI.run 1 [(6, .one (lb true))] [] (by kernel_rfl) ?_
              refine SimI.done (by kernel_rfl) ?_
              refine SimE.thenN ?_
              refine Sim.ret ?_
              refine SimE.thenR ?_
              exact SimE.fin (by kernel_rfl)
            · refine Sim.skip ?_
              refine SimE.thenN ?_
              refine Sim.seq ?_
              refine Sim.region0 ?_
              refine SimI.run 3 [(7, .one (.ptr 7 0)), (45, .agg [li .i64 a1.ID, li .i64 a1.At.X, li .i64 a1.At.Y, li .i64 a1.F.a0.N, ls a1.F.a0.Text, li .i64 a1.F.a1.N, ls a1.F.a1.Text, li .i64 a1.F.a2.N, ls a1.F.a2.Text, li .i64 a1.F.a3.N, ls a1.F.a3.Text])] [(7, some (.cells [li .i64 a1.ID, li .i64 a1.At.X, li .i64 a1.At.Y, li .i64 a1.F.a0.N, ls a1.F.a0.Text, li .i64 a1.F.a1.N, ls a1.F.a1.Text, li .i64 a1.F.a2.N, ls a1.F.a2.Text, li .i64 a1.F.a3.N, ls a1.F.a3.Text])), (7, some (.cells [li .i64 0, li .i64 0, li .i64 0, li .i64 0, ls ByteArray.empty, li .i64 0, ls ByteArray.empty, li .i64 0, ls ByteArray.empty, li .i64 0, ls ByteArray.empty]))] (by kernel_rfl) ?_
              refine SimI.done (by kernel_rfl) ?_
              refine SimE.thenN ?_
              refine Sim.seq ?_
              refine Sim.region0 ?_
              refine SimI.run 4 [(48, .one (.ptr 7 0)), (47, .one (li .i64 a0.ID)), (46, .one (.ptr 3 0))] [(7, some (.cells [li .i64 a0.ID, li .i64 a1.At.X, li .i64 a1.At.Y, li .i64 a1.F.a0.N, ls a1.F.a0.Text, li .i64 a1.F.a1.N, ls a1.F.a1.Text, li .i64 a1.F.a2.N, ls a1.F.a2.Text, li .i64 a1.F.a3.N, ls a1.F.a3.Text]))] (by kernel_rfl) ?_
              refine SimI.done (by kernel_rfl) ?_
              refine SimE.thenN ?_
              refine Sim.seq ?_
              refine Sim.region0 ?_
              refine SimI.run 2 [(51, .agg [li .i64 a0.ID, li .i64 a1.At.X, li .i64 a1.At.Y, li .i64 a1.F.a0.N, ls a1.F.a0.Text, li .i64 a1.F.a1.N, ls a1.F.a1.Text, li .i64 a1.F.a2.N, ls a1.F.a2.Text, li .i64 a1.F.a3.N, ls a1.F.a3.Text]), (50, .agg [li .i64 a0.ID, li .i64 a0.At.X, li .i64 a0.At.Y, li .i64 a0.F.a0.N, ls a0.F.a0.Text, li .i64 a0.F.a1.N, ls a0.F.a1.Text, li .i64 a0.F.a2.N, ls a0.F.a2.Text, li .i64 a0.F.a3.N, ls a0.F.a3.Text])] [] (by kernel_rfl) ?_
              refine SimI.bind (og := F18 n a0 (Thing.mk a0.ID a1.At a1.F)) { dst := some 52, op := POp.call true [[], []] 18 [Operand.tmp 50, Operand.tmp 51], guard := none, hints := [] } (fun r6 => [(52, .tup [.agg [li .i64 r6.1.ID, li .u8 r6.1.Mask, li .i64 r6.1.At.X, li .i64 r6.1.At.Y, li .i64 r6.1.F.a0.N, ls r6.1.F.a0.Text, li .i64 r6.1.F.a1.N, ls r6.1.F.a1.Text, li .i64 r6.1.F.a2.N, ls r6.1.F.a2.Text, li .i64 r6.1.F.a3.N, ls r6.1.F.a3.Text], .one (lb r6.2)])]) (fun r6 => []) (by kernel_rfl) (fun r6 hr => pOp_eff (by kernel_rfl) (by kernel_rfl) (eff_call (ARGS := [.agg [li .i64 a0.ID, li .i64 a0.At.X, li .i64 a0.At.Y, li .i64 a0.F.a0.N, ls a0.F.a0.Text, li .i64 a0.F.a1.N, ls a0.F.a1.Text, li .i64 a0.F.a2.N, ls a0.F.a2.Text, li .i64 a0.F.a3.N, ls a0.F.a3.Text], .agg [li .i64 a0.ID, li .i64 a1.At.X, li .i64 a1.At.Y, li .i64 a1.F.a0.N, ls a1.F.a0.Text, li .i64 a1.F.a1.N, ls a1.F.a1.Text, li .i64 a1.F.a2.N, ls a1.F.a2.Text, li .i64 a1.F.a3.N, ls a1.F.a3.Text]]) (by kernel_rfl) (args_clean (by kernel_rfl) (args_clean (by kernel_rfl) args_nil)) (F18_ok n a0 (Thing.mk a0.ID a1.At a1.F) r6 hr) (by kernel_rfl))) (fun r6 => ?_)
              refine SimI.run 6 [(9, .one (lb r6.2)), (8, .one (.ptr 8 0)), (54, .one (lb r6.2)), (53, .agg [li .i64 r6.1.ID, li .u8 r6.1.Mask, li .i64 r6.1.At.X, li .i64 r6.1.At.Y, li .i64 r6.1.F.a0.N, ls r6.1.F.a0.Text, li .i64 r6.1.F.a1.N, ls r6.1.F.a1.Text, li .i64 r6.1.F.a2.N, ls r6.1.F.a2.Text, li .i64 r6.1.F.a3.N, ls r6.1.F.a3.Text]), (49, .tup [.agg [li .i64 r6.1.ID, li .u8 r6.1.Mask, li .i64 r6.1.At.X, li .i64 r6.1.At.Y, li .i64 r6.1.F.a0.N, ls r6.1.F.a0.Text, li .i64 r6.1.F.a1.N, ls r6.1.F.a1.Text, li .i64 r6.1.F.a2.N, ls r6.1.F.a2.Text, li .i64 r6.1.F.a3.N, ls r6.1.F.a3.Text], .one (lb r6.2)])] [(8, some (.cells [li .i64 r6.1.ID, li .u8 r6.1.Mask, li .i64 r6.1.At.X, li .i64 r6.1.At.Y, li .i64 r6.1.F.a0.N, ls r6.1.F.a0.Text, li .i64 r6.1.F.a1.N, ls r6.1.F.a1.Text, li .i64 r6.1.F.a2.N, ls r6.1.F.a2.Text, li .i64 r6.1.F.a3.N, ls r6.1.F.a3.Text])), (8, some (.cells [li .i64 0, li .u8 0, li .i64 0, li .i64 0, li .i64 0, ls ByteArray.empty, li .i64 0, ls ByteArray.empty, li .i64 0, ls ByteArray.empty, li .i64 0, ls ByteArray.empty]))] (by kernel_rfl) ?_
              refine SimI.done (by kernel_rfl) ?_
              refine SimE.thenN ?_
              refine Sim.seq ?_
              refine Sim.seq ?_
              refine Sim.region0 ?_
              refine SimI.run 2 [(56, .one (lb (!(r6.2)))), (55, .one (lb r6.2))] [] (by kernel_rfl) ?_
              refine SimI.done (by kernel_rfl) ?_
              refine SimE.thenN ?_
              refine Sim.cond (!(r6.2)) (by kernel_rfl) ?_ ?_
              · refine Sim.seq ?_
                refine Sim.region0 ?_
                refine SimI.run 2 [(58, .agg [li .i64 a0.ID, li .i64 a1.At.X, li .i64 a1.At.Y, li .i64 a1.F.a0.N, ls a1.F.a0.Text, li .i64 a1.F.a1.N, ls a1.F.a1.Text, li .i64 a1.F.a2.N, ls a1.F.a2.Text, li .i64 a1.F.a3.N, ls a1.F.a3.Text]), (57, .agg [li .i64 a0.ID, li .i64 a0.At.X, li .i64 a0.At.Y, li .i64 a0.F.a0.N, ls a0.F.a0.Text, li .i64 a0.F.a1.N, ls a0.F.a1.Text, li .i64 a0.F.a2.N, ls a0.F.a2.Text, li .i64 a0.F.a3.N, ls a0.F.a3.Text])] [] (by kernel_rfl) ?_
                refine SimI.step { dst := some 59, op := POp.prim (Prim.bin BinOp.eql 28 false false) [Operand.tmp 57, Operand.tmp 58], guard := none, hints := [] } [(59, .one (lb (Thing.eqb a0 (Thing.mk a0.ID a1.At a1.F))))] [] (by kernel_rfl) (pOp_eff (by kernel_rfl) (by kernel_rfl) (eff_prim (by kernel_rfl) (Thing_eql a0 (Thing.mk a0.ID a1.At a1.F) _ _))) ?_
                refine SimI.run 1 [(6, .one (lb (Thing.eqb a0 (Thing.mk a0.ID a1.At a1.F))))] [] (by kernel_rfl) ?_
                refine SimI.done (by kernel_rfl) ?_
                refine SimE.thenN ?_
                refine Sim.ret ?_
                refine SimE.thenR ?_
                exact SimE.fin (by kernel_rfl)
              · refine Sim.skip ?_
                refine SimE.thenN ?_
                refine Sim.seq ?_
                refine Sim.region0 ?_
                refine SimI.run 1 [(61, .agg [li .i64 r6.1.ID, li .u8 r6.1.Mask, li .i64 r6.1.At.X, li .i64 r6.1.At.Y, li .i64 r6.1.F.a0.N, ls r6.1.F.a0.Text, li .i64 r6.1.F.a1.N, ls r6.1.F.a1.Text, li .i64 r6.1.F.a2.N, ls r6.1.F.a2.Text, li .i64 r6.1.F.a3.N, ls r6.1.F.a3.Text])] [] (by kernel_rfl) ?_
                refine SimI.bind (og := F20 n r6.1) { dst := some 62, op := POp.call true [[]] 20 [Operand.tmp 61], guard := none, hints := [] } (fun r7 => [(62, .tup [.one (ls r7.1), .one (li .i64 r7.2)])]) (fun r7 => []) (by kernel_rfl) (fun r7 hr => pOp_eff (by kernel_rfl) (by kernel_rfl) (eff_call (ARGS := [.agg [li .i64 r6.1.ID, li .u8 r6.1.Mask, li .i64 r6.1.At.X, li .i64 r6.1.At.Y, li .i64 r6.1.F.a0.N, ls r6.1.F.a0.Text, li .i64 r6.1.F.a1.N, ls r6.1.F.a1.Text, li .i64 r6.1.F.a2.N, ls r6.1.F.a2.Text, li .i64 r6.1.F.a3.N, ls r6.1.F.a3.Text]]) (by kernel_rfl) (args_clean (by kernel_rfl) args_nil) (F20_ok n r6.1 r7 hr) (by kernel_rfl))) (fun r7 => ?_)
                refine SimI.run 5 [(11, .one (li .i64 r7.2)), (10, .one (ls r7.1)), (64, .one (li .i64 r7.2)), (63, .one (ls r7.1)), (60, .tup [.one (ls r7.1), .one (li .i64 r7.2)])] [] (by kernel_rfl) ?_
                refine SimI.done (by kernel_rfl) ?_
                refine SimE.thenN ?_
                refine Sim.seq ?_
                refine Sim.region0 ?_
                refine SimI.run 2 [(67, .one (ls a2)), (66, .one (ls r7.1))] [] (by kernel_rfl) ?_
                refine SimI.guard (c := r7.1.size + a2.size ≤ 9223372036854775807) { dst := some 68, op := POp.prim (Prim.bin BinOp.add 9 false false) [Operand.tmp 66, Operand.tmp 67], guard := none, hints := [] } [(68, .one (ls (r7.1 ++ a2)))] [] (by kernel_rfl) (fun hc => pOp_eff (by kernel_rfl) (by kernel_rfl) (eff_prim (by kernel_rfl) (pr_addS _ _ _ r7.1 a2 hc))) ?_
                refine SimI.bind (og := F29 n (r7.1 ++ a2)) { dst := some 69, op := POp.call true [[]] 29 [Operand.tmp 68], guard := none, hints := [] } (fun r8 => [(69, .tup [.agg [li .i64 r8.1.ID, li .u8 r8.1.Mask, li .i64 r8.1.At.X, li .i64 r8.1.At.Y, li .i64 r8.1.F.a0.N, ls r8.1.F.a0.Text, li .i64 r8.1.F.a1.N, ls r8.1.F.a1.Text, li .i64 r8.1.F.a2.N, ls r8.1.F.a2.Text, li .i64 r8.1.F.a3.N, ls r8.1.F.a3.Text], .one (li .i64 r8.2.1), .one (li .i64 r8.2.2)])]) (fun r8 => []) (by kernel_rfl) (fun r8 hr => pOp_eff (by kernel_rfl) (by kernel_rfl) (eff_call (ARGS := [.one (ls (r7.1 ++ a2))]) (by kernel_rfl) (args_clean (by kernel_rfl) args_nil) (F29_ok n (r7.1 ++ a2) r8 hr) (by kernel_rfl))) (fun r8 => ?_)
                refine SimI.run 8 [(14, .one (li .i64 r8.2.2)), (13, .one (li .i64 r8.2.1)), (12, .one (.ptr 12 0)), (72, .one (li .i64 r8.2.2)), (71, .one (li .i64 r8.2.1)), (70, .agg [li .i64 r8.1.ID, li .u8 r8.1.Mask, li .i64 r8.1.At.X, li .i64 r8.1.At.Y, li .i64 r8.1.F.a0.N, ls r8.1.F.a0.Text, li .i64 r8.1.F.a1.N, ls r8.1.F.a1.Text, li .i64 r8.1.F.a2.N, ls r8.1.F.a2.Text, li .i64 r8.1.F.a3.N, ls r8.1.F.a3.Text]), (65, .tup [.agg [li .i64 r8.1.ID, li .u8 r8.1.Mask, li .i64 r8.1.At.X, li .i64 r8.1.At.Y, li .i64 r8.1.F.a0.N, ls r8.1.F.a0.Text, li .i64 r8.1.F.a1.N, ls r8.1.F.a1.Text, li .i64 r8.1.F.a2.N, ls r8.1.F.a2.Text, li .i64 r8.1.F.a3.N, ls r8.1.F.a3.Text], .one (li .i64 r8.2.1), .one (li .i64 r8.2.2)])] [(12, some (.cells [li .i64 r8.1.ID, li .u8 r8.1.Mask, li .i64 r8.1.At.X, li .i64 r8.1.At.Y, li .i64 r8.1.F.a0.N, ls r8.1.F.a0.Text, li .i64 r8.1.F.a1.N, ls r8.1.F.a1.Text, li .i64 r8.1.F.a2.N, ls r8.1.F.a2.Text, li .i64 r8.1.F.a3.N, ls r8.1.F.a3.Text])), (12, some (.cells [li .i64 0, li .u8 0, li .i64 0, li .i64 0, li .i64 0, ls ByteArray.empty, li .i64 0, ls ByteArray.empty, li .i64 0, ls ByteArray.empty, li .i64 0, ls ByteArray.empty]))] (by kernel_rfl) ?_
                refine SimI.done (by kernel_rfl) ?_
                refine SimE.thenN ?_
                refine Sim.seq ?_
                refine Sim.region0 ?_
                refine SimI.run 2 [(74, .agg [li .i64 r8.1.ID, li .u8 r8.1.Mask, li .i64 r8.1.At.X, li .i64 r8.1.At.Y, li .i64 r8.1.F.a0.N, ls r8.1.F.a0.Text, li .i64 r8.1.F.a1.N, ls r8.1.F.a1.Text, li .i64 r8.1.F.a2.N, ls r8.1.F.a2.Text, li .i64 r8.1.F.a3.N, ls r8.1.F.a3.Text]), (73, .agg [li .i64 a0.ID, li .i64 a0.At.X, li .i64 a0.At.Y, li .i64 a0.F.a0.N, ls a0.F.a0.Text, li .i64 a0.F.a1.N, ls a0.F.a1.Text, li .i64 a0.F.a2.N, ls a0.F.a2.Text, li .i64 a0.F.a3.N, ls a0.F.a3.Text])] [] (by kernel_rfl) ?_
                refine SimI.bind (og := F23 n a0 r8.1) { dst := some 75, op := POp.call true [[], []] 23 [Operand.tmp 73, Operand.tmp 74], guard := none, hints := [] } (fun r9 => [(75, .agg [li .i64 r9.ID, li .i64 r9.At.X, li .i64 r9.At.Y, li .i64 r9.F.a0.N, ls r9.F.a0.Text, li .i64 r9.F.a1.N, ls r9.F.a1.Text, li .i64 r9.F.a2.N, ls r9.F.a2.Text, li .i64 r9.F.a3.N, ls r9.F.a3.Text])]) (fun r9 => []) (by kernel_rfl) (fun r9 hr => pOp_eff (by kernel_rfl) (by kernel_rfl) (eff_call (ARGS := [.agg [li .i64 a0.ID, li .i64 a0.At.X, li .i64 a0.At.Y, li .i64 a0.F.a0.N, ls a0.F.a0.Text, li .i64 a0.F.a1.N, ls a0.F.a1.Text, li .i64 a0.F.a2.N, ls a0.F.a2.Text, li .i64 a0.F.a3.N, ls a0.F.a3.Text], .agg [li .i64 r8.1.ID, li .u8 r8.1.Mask, li .i64 r8.1.At.X, li .i64 r8.1.At.Y, li .i64 r8.1.F.a0.N, ls r8.1.F.a0.Text, li .i64 r8.1.F.a1.N, ls r8.1.F.a1.Text, li .i64 r8.1.F.a2.N, ls r8.1.F.a2.Text, li .i64 r8.1.F.a3.N, ls r8.1.F.a3.Text]]) (by kernel_rfl) (args_clean (by kernel_rfl) (args_clean (by kernel_rfl) args_nil)) (F23_ok n a0 r8.1 r9 hr) (by kernel_rfl))) (fun r9 => ?_)
                refine SimI.run 2 [(15, .one (.ptr 15 0))] [(15, some (.cells [li .i64 r9.ID, li .i64 r9.At.X, li .i64 r9.At.Y, li .i64 r9.F.a0.N, ls r9.F.a0.Text, li .i64 r9.F.a1.N, ls r9.F.a1.Text, li .i64 r9.F.a2.N, ls r9.F.a2.Text, li .i64 r9.F.a3.N, ls r9.F.a3.Text])), (15, some (.cells [li .i64 0, li .i64 0, li .i64 0, li .i64 0, ls ByteArray.empty, li .i64 0, ls ByteArray.empty, li .i64 0, ls ByteArray.empty, li .i64 0, ls ByteArray.empty]))] (by kernel_rfl) ?_
                refine SimI.done (by kernel_rfl) ?_
                refine SimE.thenN ?_
                refine Sim.seq ?_
                refine Sim.region0 ?_
                refine SimI.run 2 [(78, .agg [li .i64 r9.ID, li .i64 r9.At.X, li .i64 r9.At.Y, li .i64 r9.F.a0.N, ls r9.F.a0.Text, li .i64 r9.F.a1.N, ls r9.F.a1.Text, li .i64 r9.F.a2.N, ls r9.F.a2.Text, li .i64 r9.F.a3.N, ls r9.F.a3.Text]), (77, .agg [li .i64 a0.ID, li .i64 a0.At.X, li .i64 a0.At.Y, li .i64 a0.F.a0.N, ls a0.F.a0.Text, li .i64 a0.F.a1.N, ls a0.F.a1.Text, li .i64 a0.F.a2.N, ls a0.F.a2.Text, li .i64 a0.F.a3.N, ls a0.F.a3.Text])] [] (by kernel_rfl) ?_
                refine SimI.bind (og := F18 n a0 r9) { dst := some 79, op := POp.call true [[], []] 18 [Operand.tmp 77, Operand.tmp 78], guard := none, hints := [] } (fun r10 => [(79, .tup [.agg [li .i64 r10.1.ID, li .u8 r10.1.Mask, li .i64 r10.1.At.X, li .i64 r10.1.At.Y, li .i64 r10.1.F.a0.N, ls r10.1.F.a0.Text, li .i64 r10.1.F.a1.N, ls r10.1.F.a1.Text, li .i64 r10.1.F.a2.N, ls r10.1.F.a2.Text, li .i64 r10.1.F.a3.N, ls r10.1.F.a3.Text], .one (lb r10.2)])]) (fun r10 => []) (by kernel_rfl) (fun r10 hr => pOp_eff (by kernel_rfl) (by kernel_rfl) (eff_call (ARGS := [.agg [li .i64 a0.ID, li .i64 a0.At.X, li .i64 a0.At.Y, li .i64 a0.F.a0.N, ls a0.F.a0.Text, li .i64 a0.F.a1.N, ls a0.F.a1.Text, li .i64 a0.F.a2.N, ls a0.F.a2.Text, li .i64 a0.F.a3.N, ls a0.F.a3.Text], .agg [li .i64 r9.ID, li .i64 r9.At.X, li .i64 r9.At.Y, li .i64 r9.F.a0.N, ls r9.F.a0.Text, li .i64 r9.F.a1.N, ls r9.F.a1.Text, li .i64 r9.F.a2.N, ls r9.F.a2.Text, li .i64 r9.F.a3.N, ls r9.F.a3.Text]]) (by kernel_rfl) (args_clean (by kernel_rfl) (args_clean (by kernel_rfl) args_nil)) (F18_ok n a0 r9 r10 hr) (by kernel_rfl))) (fun r10 => ?_)
                refine SimI.run 6 [(17, .one (lb r10.2)), (16, .one (.ptr 16 0)), (81, .one (lb r10.2)), (80, .agg [li .i64 r10.1.ID, li .u8 r10.1.Mask, li .i64 r10.1.At.X, li .i64 r10.1.At.Y, li .i64 r10.1.F.a0.N, ls r10.1.F.a0.Text, li .i64 r10.1.F.a1.N, ls r10.1.F.a1.Text, li .i64 r10.1.F.a2.N, ls r10.1.F.a2.Text, li .i64 r10.1.F.a3.N, ls r10.1.F.a3.Text]), (76, .tup [.agg [li .i64 r10.1.ID, li .u8 r10.1.Mask, li .i64 r10.1.At.X, li .i64 r10.1.At.Y, li .i64 r10.1.F.a0.N, ls r10.1.F.a0.Text, li .i64 r10.1.F.a1.N, ls r10.1.F.a1.Text, li .i64 r10.1.F.a2.N, ls r10.1.F.a2.Text, li .i64 r10.1.F.a3.N, ls r10.1.F.a3.Text], .one (lb r10.2)])] [(16, some (.cells [li .i64 r10.1.ID, li .u8 r10.1.Mask, li .i64 r10.1.At.X, li .i64 r10.1.At.Y, li .i64 r10.1.F.a0.N, ls r10.1.F.a0.Text, li .i64 r10.1.F.a1.N, ls r10.1.F.a1.Text, li .i64 r10.1.F.a2.N, ls r10.1.F.a2.Text, li .i64 r10.1.F.a3.N, ls r10.1.F.a3.Text])), (16, some (.cells [li .i64 0, li .u8 0, li .i64 0, li .i64 0, li .i64 0, ls ByteArray.empty, li .i64 0, ls ByteArray.empty, li .i64 0, ls ByteArray.empty, li .i64 0, ls ByteArray.empty]))] (by kernel_rfl) ?_
                refine SimI.done (by kernel_rfl) ?_
                refine SimE.thenN ?_
                refine Sim.seq ?_
                refine Sim.region0 ?_
                refine SimI.run 2 [(84, .agg [li .i64 r9.ID, li .i64 r9.At.X, li .i64 r9.At.Y, li .i64 r9.F.a0.N, ls r9.F.a0.Text, li .i64 r9.F.a1.N, ls r9.F.a1.Text, li .i64 r9.F.a2.N, ls r9.F.a2.Text, li .i64 r9.F.a3.N, ls r9.F.a3.Text]), (83, .agg [li .i64 a0.ID, li .i64 a1.At.X, li .i64 a1.At.Y, li .i64 a1.F.a0.N, ls a1.F.a0.Text, li .i64 a1.F.a1.N, ls a1.F.a1.Text, li .i64 a1.F.a2.N, ls a1.F.a2.Text, li .i64 a1.F.a3.N, ls a1.F.a3.Text])] [] (by kernel_rfl) ?_
                refine SimI.bind (og := F18 n (Thing.mk a0.ID a1.At a1.F) r9) { dst := some 85, op := POp.call true [[], []] 18 [Operand.tmp 83, Operand.tmp 84], guard := none, hints := [] } (fun r11 => [(85, .tup [.agg [li .i64 r11.1.ID, li .u8 r11.1.Mask, li .i64 r11.1.At.X, li .i64 r11.1.At.Y, li .i64 r11.1.F.a0.N, ls r11.1.F.a0.Text, li .i64 r11.1.F.a1.N, ls r11.1.F.a1.Text, li .i64 r11.1.F.a2.N, ls r11.1.F.a2.Text, li .i64 r11.1.F.a3.N, ls r11.1.F.a3.Text], .one (lb r11.2)])]) (fun r11 => []) (by kernel_rfl) (fun r11 hr => pOp_eff (by kernel_rfl) (by kernel_rfl) (eff_call (ARGS := [.agg [li .i64 a0.ID, li .i64 a1.At.X, li .i64 a1.At.Y, li .i64 a1.F.a0.N, ls a1.F.a0.Text, li .i64 a1.F.a1.N, ls a1.F.a1.Text, li .i64 a1.F.a2.N, ls a1.F.a2.Text, li .i64 a1.F.a3.N, ls a1.F.a3.Text], .agg [li .i64 r9.ID, li .i64 r9.At.X, li .i64 r9.At.Y, li .i64 r9.F.a0.N, ls r9.F.a0.Text, li .i64 r9.F.a1.N, ls r9.F.a1.Text, li .i64 r9.F.a2.N, ls r9.F.a2.Text, li .i64 r9.F.a3.N, ls r9.F.a3.Text]]) (by kernel_rfl) (args_clean (by kernel_rfl) (args_clean (by kernel_rfl) args_nil)) (F18_ok n (Thing.mk a0.ID a1.At a1.F) r9 r11 hr) (by kernel_rfl))) (fun r11 => ?_)
                refine SimI.run 6 [(19, .one (lb r11.2)), (18, .one (.ptr 18 0)), (87, .one (lb r11.2)), (86, .agg [li .i64 r11.1.ID, li .u8 r11.1.Mask, li .i64 r11.1.At.X, li .i64 r11.1.At.Y, li .i64 r11.1.F.a0.N, ls r11.1.F.a0.Text, li .i64 r11.1.F.a1.N, ls r11.1.F.a1.Text, li .i64 r11.1.F.a2.N, ls r11.1.F.a2.Text, li .i64 r11.1.F.a3.N, ls r11.1.F.a3.Text]), (82, .tup [.agg [li .i64 r11.1.ID, li .u8 r11.1.Mask, li .i64 r11.1.At.X, li .i64 r11.1.At.Y, li .i64 r11.1.F.a0.N, ls r11.1.F.a0.Text, li .i64 r11.1.F.a1.N, ls r11.1.F.a1.Text, li .i64 r11.1.F.a2.N, ls r11.1.F.a2.Text, li .i64 r11.1.F.a3.N, ls r11.1.F.a3.Text], .one (lb r11.2)])] [(18, some (.cells [li .i64 r11.1.ID, li .u8 r11.1.Mask, li .i64 r11.1.At.X, li .i64 r11.1.At.Y, li .i64 r11.1.F.a0.N, ls r11.1.F.a0.Text, li .i64 r11.1.F.a1.N, ls r11.1.F.a1.Text, li .i64 r11.1.F.a2.N, ls r11.1.F.a2.Text, li .i64 r11.1.F.a3.N, ls r11.1.F.a3.Text])), (18, some (.cells [li .i64 0, li .u8 0, li .i64 0, li .i64 0, li .i64 0, ls ByteArray.empty, li .i64 0, ls ByteArray.empty, li .i64 0, ls ByteArray.empty, li .i64 0, ls ByteArray.empty]))] (by kernel_rfl) ?_
                refine SimI.done (by kernel_rfl) ?_
                refine SimE.thenN ?_
                refine Sim.seq ?_
                refine Sim.region0 ?_
                refine SimI.run 3 [(90, .one (lb (r7.2 == 0))), (89, .one (lb (r7.2 == 0))), (88, .one (li .i64 r7.2))] [] (by kernel_rfl) ?_
                refine SimI.split 90 (r7.2 == 0) (by kernel_rfl) ?_ ?_
                · refine SimI.run 4 [(94, .one (lb (r8.2.2 == 0))), (93, .one (lb (r8.2.2 == 0))), (92, .one (lb (r8.2.2 == 0))), (91, .one (li .i64 r8.2.2))] [] (by kernel_rfl) ?_
                  refine SimI.split 94 (r8.2.2 == 0) (by kernel_rfl) ?_ ?_
                  · refine SimI.run 6 [(100, .one (lb (r8.2.1 == (r7.1.size : Int)))), (99, .one (lb (r8.2.1 == (r7.1.size : Int)))), (98, .one (lb (r8.2.1 == (r7.1.size : Int)))), (97, .one (li .i64 (r7.1.size : Int))), (96, .one (ls r7.1)), (95, .one (li .i64 r8.2.1))] [] (by kernel_rfl) ?_
                    refine SimI.split 100 (r8.2.1 == (r7.1.size : Int)) (by kernel_rfl) ?_ ?_
                    · refine SimI.run 2 [(102, .agg [li .i64 a0.ID, li .i64 a1.At.X, li .i64 a1.At.Y, li .i64 a1.F.a0.N, ls a1.F.a0.Text, li .i64 a1.F.a1.N, ls a1.F.a1.Text, li .i64 a1.F.a2.N, ls a1.F.a2.Text, li .i64 a1.F.a3.N, ls a1.F.a3.Text]), (101, .agg [li .i64 r9.ID, li .i64 r9.At.X, li .i64 r9.At.Y, li .i64 r9.F.a0.N, ls r9.F.a0.Text, li .i64 r9.F.a1.N, ls r9.F.a1.Text, li .i64 r9.F.a2.N, ls r9.F.a2.Text, li .i64 r9.F.a3.N, ls r9.F.a3.Text])] [] (by kernel_rfl) ?_
                      refine SimI.step { dst := some 103, op := POp.prim (Prim.bin BinOp.eql 28 false false) [Operand.tmp 101, Operand.tmp 102], guard := some (100, true), hints := [] } [(103, .one (lb (Thing.eqb r9 (Thing.mk a0.ID a1.At a1.F))))] [] (by kernel_rfl) (pOp_eff (by kernel_rfl) (by kernel_rfl) (eff_prim (by kernel_rfl) (Thing_eql r9 (Thing.mk a0.ID a1.At a1.F) _ _))) ?_
                      refine SimI.run 2 [(105, .one (lb (Thing.eqb r9 (Thing.mk a0.ID a1.At a1.F)))), (104, .one (lb (Thing.eqb r9 (Thing.mk a0.ID a1.At a1.F))))] [] (by kernel_rfl) ?_
                      refine SimI.split 105 (Thing.eqb r9 (Thing.mk a0.ID a1.At a1.F)) (by kernel_rfl) ?_ ?_
                      · refine SimI.run 3 [(108, .one (lb r10.2)), (107, .one (lb r10.2)), (106, .one (lb r10.2))] [] (by kernel_rfl) ?_
                        refine SimI.split 108 r10.2 (by kernel_rfl) ?_ ?_
                        · refine SimI.run 2 [(110, .agg [li .i64 r6.1.ID, li .u8 r6.1.Mask, li .i64 r6.1.At.X, li .i64 r6.1.At.Y, li .i64 r6.1.F.a0.N, ls r6.1.F.a0.Text, li .i64 r6.1.F.a1.N, ls r6.1.F.a1.Text, li .i64 r6.1.F.a2.N, ls r6.1.F.a2.Text, li .i64 r6.1.F.a3.N, ls r6.1.F.a3.Text]), (109, .agg [li .i64 r10.1.ID, li .u8 r10.1.Mask, li .i64 r10.1.At.X, li .i64 r10.1.At.Y, li .i64 r10.1.F.a0.N, ls r10.1.F.a0.Text, li .i64 r10.1.F.a1.N, ls r10.1.F.a1.Text, li .i64 r10.1.F.a2.N, ls r10.1.F.a2.Text, li .i64 r10.1.F.a3.N, ls r10.1.F.a3.Text])] [] (by kernel_rfl) ?_
                          refine SimI.step { dst := some 111, op := POp.prim (Prim.bin BinOp.eql 30 false false) [Operand.tmp 109, Operand.tmp 110], guard := some (108, true), hints := [] } [(111, .one (lb (Delta.eqb r10.1 r6.1)))] [] (by kernel_rfl) (pOp_eff (by kernel_rfl) (by kernel_rfl) (eff_prim (by kernel_rfl) (Delta_eql r10.1 r6.1 _ _))) ?_
                          refine SimI.run 2 [(113, .one (lb (Delta.eqb r10.1 r6.1))), (112, .one (lb (Delta.eqb r10.1 r6.1)))] [] (by kernel_rfl) ?_
                          refine SimI.split 113 (Delta.eqb r10.1 r6.1) (by kernel_rfl) ?_ ?_
                          · refine SimI.run 4 [(117, .one (lb (!(r11.2)))), (116, .one (lb (!(r11.2)))), (115, .one (lb (!(r11.2)))), (114, .one (lb r11.2))] [] (by kernel_rfl) ?_
                            refine SimI.split 117 (!(r11.2)) (by kernel_rfl) ?_ ?_
                            · refine SimI.run 7 [(6, .one (lb (r6.1.ID == a0.ID))), (123, .one (lb (r6.1.ID == a0.ID))), (122, .one (lb (r6.1.ID == a0.ID))), (121, .one (li .i64 a0.ID)), (120, .one (.ptr 3 0)), (119, .one (li .i64 r6.1.ID)), (118, .one (.ptr 8 0))] [] (by kernel_rfl) ?_
                              refine SimI.done (by kernel_rfl) ?_
                              refine SimE.thenN ?_
                              refine Sim.ret ?_
                              exact SimE.fin (by kernel_rfl)
                            · refine SimI.run 7 [(6, .one (lb false)), (123, .one (lb false)), (122, .tup []), (121, .tup []), (120, .tup []), (119, .tup []), (118, .tup [])] [] (by kernel_rfl) ?_
                              refine SimI.done (by kernel_rfl) ?_
                              refine SimE.thenN ?_
                              refine Sim.ret ?_
                              exact SimE.fin (by kernel_rfl)
                          · refine SimI.run 11 [(6, .one (lb false)), (123, .one (lb false)), (122, .tup []), (121, .tup []), (120, .tup []), (119, .tup []), (118, .tup []), (117, .one (lb false)), (116, .one (lb false)), (115, .tup []), (114, .tup [])] [] (by kernel_rfl) ?_
                            refine SimI.done (by kernel_rfl) ?_
                            refine SimE.thenN ?_
                            refine Sim.ret ?_
                            exact SimE.fin (by kernel_rfl)
                        · refine SimI.run 16 [(6, .one (lb false)), (123, .one (lb false)), (122, .tup []), (121, .tup []), (120, .tup []), (119, .tup []), (118, .tup []), (117, .one (lb false)), (116, .one (lb false)), (115, .tup []), (114, .tup []), (113, .one (lb false)), (112, .one (lb false)), (111, .tup []), (110, .tup []), (109, .tup [])] [] (by kernel_rfl) ?_
                          refine SimI.done (by kernel_rfl) ?_
                          refine SimE.thenN ?_
                          refine Sim.ret ?_
                          exact SimE.fin (by kernel_rfl)
                      · refine SimI.run 19 [(6, .one (lb false)), (123, .one (lb false)), (122, .tup []), (121, .tup []), (120, .tup []), (119, .tup []), (118, .tup []), (117, .one (lb false)), (116, .one (lb false)), (115, .tup []), (114, .tup []), (113, .one (lb false)), (112, .one (lb false)), (111, .tup []), (110, .tup []), (109, .tup []), (108, .one (lb false)), (107, .one (lb false)), (106, .tup [])] [] (by kernel_rfl) ?_
                        refine SimI.done (by kernel_rfl) ?_
                        refine SimE.thenN ?_
                        refine Sim.ret ?_
                        exact SimE.fin (by kernel_rfl)
                    · refine SimI.run 24 [(6, .one (lb false)), (123, .one (lb false)), (122, .tup []), (121, .tup []), (120, .tup []), (119, .tup []), (118, .tup []), (117, .one (lb false)), (116, .one (lb false)), (115, .tup []), (114, .tup []), (113, .one (lb false)), (112, .one (lb false)), (111, .tup []), (110, .tup []), (109, .tup []), (108, .one (lb false)), (107, .one (lb false)), (106, .tup []), (105, .one (lb false)), (104, .one (lb false)), (103, .tup []), (102, .tup []), (101, .tup [])] [] (by kernel_rfl) ?_
                      refine SimI.done (by kernel_rfl) ?_
                      refine SimE.thenN ?_
                      refine Sim.ret ?_
                      exact SimE.fin (by kernel_rfl)
                  · refine SimI.run 30 [(6, .one (lb false)), (123, .one (lb false)), (122, .tup []), (121, .tup []), (120, .tup []), (119, .tup []), (118, .tup []), (117, .one (lb false)), (116, .one (lb false)), (115, .tup []), (114, .tup []), (113, .one (lb false)), (112, .one (lb false)), (111, .tup []), (110, .tup []), (109, .tup []), (108, .one (lb false)), (107, .one (lb false)), (106, .tup []), (105, .one (lb false)), (104, .one (lb false)), (103, .tup []), (102, .tup []), (101, .tup []), (100, .one (lb false)), (99, .one (lb false)), (98, .tup []), (97, .tup []), (96, .tup []), (95, .tup [])] [] (by kernel_rfl) ?_
                    refine SimI.done (by kernel_rfl) ?_
                    refine SimE.thenN ?_
                    refine Sim.ret ?_
                    exact SimE.fin (by kernel_rfl)
                · refine SimI.run 34 [(6, .one (lb false)), (123, .one (lb false)), (122, .tup []), (121, .tup []), (120, .tup []), (119, .tup []), (118, .tup []), (117, .one (lb false)), (116, .one (lb false)), (115, .tup []), (114, .tup []), (113, .one (lb false)), (112, .one (lb false)), (111, .tup []), (110, .tup []), (109, .tup []), (108, .one (lb false)), (107, .one (lb false)), (106, .tup []), (105, .one (lb false)), (104, .one (lb false)), (103, .tup []), (102, .tup []), (101, .tup []), (100, .one (lb false)), (99, .one (lb false)), (98, .tup []), (97, .tup []), (96, .tup []), (95, .tup []), (94, .one (lb false)), (93, .one (lb false)), (92, .tup []), (91, .tup [])] [] (by kernel_rfl) ?_
                  refine SimI.done (by kernel_rfl) ?_
                  refine SimE.thenN ?_
                  refine Sim.ret ?_
                  exact SimE.fin (by kernel_rfl)


-- 19: vedette/vedetteref6.Diff
def F19_e : (Delta × Bool) → PV × List (List Lf) := fun r => (.tup [.agg [li .i64 r.1.ID, li .u8 r.1.Mask, li .i64 r.1.At.X, li .i64 r.1.At.Y, li .i64 r.1.F.a0.N, ls r.1.F.a0.Text, li .i64 r.1.F.a1.N, ls r.1.F.a1.Text, li .i64 r.1.F.a2.N, ls r.1.F.a2.Text, li .i64 r.1.F.a3.N, ls r.1.F.a3.Text], .one (lb r.2)], [])
def F19_u20 (n : Nat) (a1 : Thing) (i2 : Int) (i3 : Int) (i6 : Int) (s7 : ByteArray) (i10 : Int) (s11 : ByteArray) (i14 : Int) (s15 : ByteArray) (i17 : Int) (i18 : Int) (s19 : ByteArray) : Option (Delta × Bool) :=
    some ((Delta.mk a1.ID i17 (Point.mk i2 i3) (A4.mk (Field.mk i6 s7) (Field.mk i10 s11) (Field.mk i14 s15) (Field.mk i18 s19))), i17 != 0)
theorem F19_u20_ok (n : Nat) (a0 : Thing) (a1 : Thing) (i2 : Int) (i3 : Int) (i6 : Int) (s7 : ByteArray) (i10 : Int) (s11 : ByteArray) (i14 : Int) (s15 : ByteArray) (i17 : Int) (i18 : Int) (s19 : ByteArray) : SimL Try.prog D (n + 8) (n + 4) pc19_c24 [(2, .one (.ptr 2 0)), (3, .one (.ptr 3 0)), (4, .one (.ptr 4 0)), (6, .one (.ptr 6 0)), (7, .one (li .i64 4))] ((2, some (.cells [li .i64 a0.ID, li .i64 a0.At.X, li .i64 a0.At.Y, li .i64 a0.F.a0.N, ls a0.F.a0.Text, li .i64 a0.F.a1.N, ls a0.F.a1.Text, li .i64 a0.F.a2.N, ls a0.F.a2.Text, li .i64 a0.F.a3.N, ls a0.F.a3.Text])) :: ((3, some (.cells [li .i64 a1.ID, li .i64 a1.At.X, li .i64 a1.At.Y, li .i64 a1.F.a0.N, ls a1.F.a0.Text, li .i64 a1.F.a1.N, ls a1.F.a1.Text, li .i64 a1.F.a2.N, ls a1.F.a2.Text, li .i64 a1.F.a3.N, ls a1.F.a3.Text])) :: ((4, some (.cells [li .i64 0, li .u8 0, li .i64 0, li .i64 0, li .i64 0, ls ByteArray.empty, li .i64 0, ls ByteArray.empty, li .i64 0, ls ByteArray.empty, li .i64 0, ls ByteArray.empty])) :: ((6, some (.cells [li .i64 a1.ID, li .u8 i17, li .i64 i2, li .i64 i3, li .i64 i6, ls s7, li .i64 i10, ls s11, li .i64 i14, ls s15, li .i64 i18, ls s19])) :: [])))) (F19_u20 n a1 i2 i3 i6 s7 i10 s11 i14 s15 i17 i18 s19) (QB 0 (QT Try.prog D (n + 8) pc19_c30 (QF pc19_r 0 F19_e))) := by
    unfold F19_u20
    refine SimL.succ ?_
    refine Sim.seq ?_
    refine Sim.seq ?_
    refine Sim.region [(2, .one (.ptr 2 0)), (3, .one (.ptr 3 0)), (4, .one (.ptr 4 0)), (6, .one (.ptr 6 0)), (7, .one (li .i64 4))] ((2, some (.cells [li .i64 a0.ID, li .i64 a0.At.X, li .i64 a0.At.Y, li .i64 a0.F.a0.N, ls a0.F.a0.Text, li .i64 a0.F.a1.N, ls a0.F.a1.Text, li .i64 a0.F.a2.N, ls a0.F.a2.Text, li .i64 a0.F.a3.N, ls a0.F.a3.Text])) :: ((3, some (.cells [li .i64 a1.ID, li .i64 a1.At.X, li .i64 a1.At.Y, li .i64 a1.F.a0.N, ls a1.F.a0.Text, li .i64 a1.F.a1.N, ls a1.F.a1.Text, li .i64 a1.F.a2.N, ls a1.F.a2.Text, li .i64 a1.F.a3.N, ls a1.F.a3.Text])) :: ((4, some (.cells [li .i64 0, li .u8 0, li .i64 0, li .i64 0, li .i64 0, ls ByteArray.empty, li .i64 0, ls ByteArray.empty, li .i64 0, ls ByteArray.empty, li .i64 0, ls ByteArray.empty])) :: ((6, some (.cells [li .i64 a1.ID, li .u8 i17, li .i64 i2, li .i64 i3, li .i64 i6, ls s7, li .i64 i10, ls s11, li .i64 i14, ls s15, li .i64 i18, ls s19])) :: [])))) (by kernel_rfl) ?_
    refine SimI.run 2 [(21, .one (lb false)), (20, .one (li .i64 4))] [] (by kernel_rfl) ?_
    refine SimI.done (by kernel_rfl) ?_
    refine SimE.thenN ?_
    refine Sim.condF (by kernel_rfl) ?_
    refine Sim.exit ?_
    refine SimE.thenX ?_
    refine SimE.loopX ?_
    refine SimE.blockX ?_
    refine SimE.thenN ?_
    refine Sim.seq ?_
    refine Sim.region0 ?_
    refine SimI.run 6 [(5, .one (lb (i17 != 0))), (50, .one (lb (i17 != 0))), (49, .one (li .u8 i17)), (48, .one (.ptr 6 1)), (47, .agg [li .i64 a1.ID, li .u8 i17, li .i64 i2, li .i64 i3, li .i64 i6, ls s7, li .i64 i10, ls s11, li .i64 i14, ls s15, li .i64 i18, ls s19])] [(4, some (.cells [li .i64 a1.ID, li .u8 i17, li .i64 i2, li .i64 i3, li .i64 i6, ls s7, li .i64 i10, ls s11, li .i64 i14, ls s15, li .i64 i18, ls s19]))] (by kernel_rfl) ?_
    refine SimI.done (by kernel_rfl) ?_
    refine SimE.thenN ?_
    refine Sim.ret ?_
    exact SimE.fin (by kernel_rfl)

def F19_u16 (n : Nat) (a0 : Thing) (a1 : Thing) (i2 : Int) (i3 : Int) (i6 : Int) (s7 : ByteArray) (i10 : Int) (s11 : ByteArray) (i13 : Int) (i14 : Int) (s15 : ByteArray) : Option (Delta × Bool) :=
    if !(Field.eqb a0.F.a3 a1.F.a3) then
      F19_u20 n a1 i2 i3 i6 s7 i10 s11 i14 s15 (bitsI .or .u8 i13 (shlI .u8 2 3)) a1.F.a3.N a1.F.a3.Text
    else
      F19_u20 n a1 i2 i3 i6 s7 i10 s11 i14 s15 i13 0 ByteArray.empty
theorem F19_u16_ok (n : Nat) (a0 : Thing) (a1 : Thing) (i2 : Int) (i3 : Int) (i6 : Int) (s7 : ByteArray) (i10 : Int) (s11 : ByteArray) (i13 : Int) (i14 : Int) (s15 : ByteArray) : SimL Try.prog D (n + 8) (n + 5) pc19_c24 [(2, .one (.ptr 2 0)), (3, .one (.ptr 3 0)), (4, .one (.ptr 4 0)), (6, .one (.ptr 6 0)), (7, .one (li .i64 3))] ((2, some (.cells [li .i64 a0.ID, li .i64 a0.At.X, li .i64 a0.At.Y, li .i64 a0.F.a0.N, ls a0.F.a0.Text, li .i64 a0.F.a1.N, ls a0.F.a1.Text, li .i64 a0.F.a2.N, ls a0.F.a2.Text, li .i64 a0.F.a3.N, ls a0.F.a3.Text])) :: ((3, some (.cells [li .i64 a1.ID, li .i64 a1.At.X, li .i64 a1.At.Y, li .i64 a1.F.a0.N, ls a1.F.a0.Text, li .i64 a1.F.a1.N, ls a1.F.a1.Text, li .i64 a1.F.a2.N, ls a1.F.a2.Text, li .i64 a1.F.a3.N, ls a1.F.a3.Text])) :: ((4, some (.cells [li .i64 0, li .u8 0, li .i64 0, li .i64 0, li .i64 0, ls ByteArray.empty, li .i64 0, ls ByteArray.empty, li .i64 0, ls ByteArray.empty, li .i64 0, ls ByteArray.empty])) :: ((6, some (.cells [li .i64 a1.ID, li .u8 i13, li .i64 i2, li .i64 i3, li .i64 i6, ls s7, li .i64 i10, ls s11, li .i64 i14, ls s15, li .i64 0, ls ByteArray.empty])) :: [])))) (F19_u16 n a0 a1 i2 i3 i6 s7 i10 s11 i13 i14 s15) (QB 0 (QT Try.prog D (n + 8) pc19_c30 (QF pc19_r 0 F19_e))) := by
    unfold F19_u16
    refine SimL.succ ?_
    refine Sim.seq ?_
    refine Sim.seq ?_
    refine Sim.region [(2, .one (.ptr 2 0)), (3, .one (.ptr 3 0)), (4, .one (.ptr 4 0)), (6, .one (.ptr 6 0)), (7, .one (li .i64 3))] ((2, some (.cells [li .i64 a0.ID, li .i64 a0.At.X, li .i64 a0.At.Y, li .i64 a0.F.a0.N, ls a0.F.a0.Text, li .i64 a0.F.a1.N, ls a0.F.a1.Text, li .i64 a0.F.a2.N, ls a0.F.a2.Text, li .i64 a0.F.a3.N, ls a0.F.a3.Text])) :: ((3, some (.cells [li .i64 a1.ID, li .i64 a1.At.X, li .i64 a1.At.Y, li .i64 a1.F.a0.N, ls a1.F.a0.Text, li .i64 a1.F.a1.N, ls a1.F.a1.Text, li .i64 a1.F.a2.N, ls a1.F.a2.Text, li .i64 a1.F.a3.N, ls a1.F.a3.Text])) :: ((4, some (.cells [li .i64 0, li .u8 0, li .i64 0, li .i64 0, li .i64 0, ls ByteArray.empty, li .i64 0, ls ByteArray.empty, li .i64 0, ls ByteArray.empty, li .i64 0, ls ByteArray.empty])) :: ((6, some (.cells [li .i64 a1.ID, li .u8 i13, li .i64 i2, li .i64 i3, li .i64 i6, ls s7, li .i64 i10, ls s11, li .i64 i14, ls s15, li .i64 0, ls ByteArray.empty])) :: [])))) (by kernel_rfl) ?_
    refine SimI.run 2 [(21, .one (lb true)), (20, .one (li .i64 3))] [] (by kernel_rfl) ?_
    refine SimI.done (by kernel_rfl) ?_
    refine SimE.thenN ?_
    refine Sim.condT (by kernel_rfl) ?_
    refine Sim.skip ?_
    refine SimE.thenN ?_
    refine Sim.seq ?_
    refine Sim.block ?_
    refine Sim.seq ?_
    refine Sim.region0 ?_
    refine SimI.run 8 [(31, .agg [li .i64 a1.F.a3.N, ls a1.F.a3.Text]), (30, .one (.ptr 3 9)), (29, .one (.ptr 3 3)), (28, .one (li .i64 3)), (27, .agg [li .i64 a0.F.a3.N, ls a0.F.a3.Text]), (26, .one (.ptr 2 9)), (25, .one (.ptr 2 3)), (24, .one (li .i64 3))] [] (by kernel_rfl) ?_
    refine SimI.step { dst := some 32, op := POp.prim (Prim.bin BinOp.neq 25 false false) [Operand.tmp 27, Operand.tmp 31], guard := none, hints := [(27, Hint.imm), (31, Hint.imm)] } [(32, .one (lb (!(Field.eqb a0.F.a3 a1.F.a3))))] [] (by kernel_rfl) (pOp_eff (by kernel_rfl) (by kernel_rfl) (eff_prim (by kernel_rfl) (Field_eqn a0.F.a3 a1.F.a3 _ _))) ?_
    refine SimI.done (by kernel_rfl) ?_
    refine SimE.thenN ?_
    refine Sim.cond (!(Field.eqb a0.F.a3 a1.F.a3)) (by kernel_rfl) ?_ ?_
    · refine Sim.seq ?_
      refine Sim.region0 ?_
      refine SimI.run 8 [(39, .one (.ptr 6 1)), (38, .one (li .u8 (bitsI .or .u8 i13 (shlI .u8 2 3)))), (37, .one (li .u8 (shlI .u8 2 3))), (36, .one (li .u64 3)), (35, .one (li .i64 3)), (34, .one (li .u8 i13)), (33, .one (.ptr 6 1))] [(6, some (.cells [li .i64 a1.ID, li .u8 (bitsI .or .u8 i13 (shlI .u8 2 3)), li .i64 i2, li .i64 i3, li .i64 i6, ls s7, li .i64 i10, ls s11, li .i64 i14, ls s15, li .i64 0, ls ByteArray.empty]))] (by kernel_rfl) ?_
      refine SimI.done (by kernel_rfl) ?_
      refine SimE.thenN ?_
      refine Sim.region0 ?_
      refine SimI.run 8 [(46, .one (.ptr 6 10)), (45, .one (.ptr 6 4)), (44, .agg [li .i64 a1.F.a3.N, ls a1.F.a3.Text]), (43, .one (.ptr 3 9)), (42, .one (.ptr 3 3)), (41, .one (li .i64 3)), (40, .one (li .i64 3))] [(6, some (.cells [li .i64 a1.ID, li .u8 (bitsI .or .u8 i13 (shlI .u8 2 3)), li .i64 i2, li .i64 i3, li .i64 i6, ls s7, li .i64 i10, ls s11, li .i64 i14, ls s15, li .i64 a1.F.a3.N, ls a1.F.a3.Text]))] (by kernel_rfl) ?_
      refine SimI.done (by kernel_rfl) ?_
      refine SimE.blockN ?_
      refine SimE.thenN ?_
      refine Sim.region0 ?_
      refine SimI.run 3 [(7, .one (li .i64 4)), (23, .one (li .i64 4)), (22, .one (li .i64 3))] [] (by kernel_rfl) ?_
      refine SimI.done (by kernel_rfl) ?_
      refine SimE.loopN ?_
      refine SimL.pre (ts := [2, 3, 4, 6, 7]) (os := [2, 3, 4, 6]) [(2, .one (.ptr 2 0)), (3, .one (.ptr 3 0)), (4, .one (.ptr 4 0)), (6, .one (.ptr 6 0)), (7, .one (li .i64 4))] ((2, some (.cells [li .i64 a0.ID, li .i64 a0.At.X, li .i64 a0.At.Y, li .i64 a0.F.a0.N, ls a0.F.a0.Text, li .i64 a0.F.a1.N, ls a0.F.a1.Text, li .i64 a0.F.a2.N, ls a0.F.a2.Text, li .i64 a0.F.a3.N, ls a0.F.a3.Text])) :: ((3, some (.cells [li .i64 a1.ID, li .i64 a1.At.X, li .i64 a1.At.Y, li .i64 a1.F.a0.N, ls a1.F.a0.Text, li .i64 a1.F.a1.N, ls a1.F.a1.Text, li .i64 a1.F.a2.N, ls a1.F.a2.Text, li .i64 a1.F.a3.N, ls a1.F.a3.Text])) :: ((4, some (.cells [li .i64 0, li .u8 0, li .i64 0, li .i64 0, li .i64 0, ls ByteArray.empty, li .i64 0, ls ByteArray.empty, li .i64 0, ls ByteArray.empty, li .i64 0, ls ByteArray.empty])) :: ((6, some (.cells [li .i64 a1.ID, li .u8 (bitsI .or .u8 i13 (shlI .u8 2 3)), li .i64 i2, li .i64 i3, li .i64 i6, ls s7, li .i64 i10, ls s11, li .i64 i14, ls s15, li .i64 a1.F.a3.N, ls a1.F.a3.Text])) :: [])))) (by kernel_rfl) (by kernel_rfl) (by kernel_rfl) ?_
      exact F19_u20_ok n a0 a1 i2 i3 i6 s7 i10 s11 i14 s15 (bitsI .or .u8 i13 (shlI .u8 2 3)) a1.F.a3.N a1.F.a3.Text
    · refine Sim.skip ?_
      refine SimE.blockN ?_
      refine SimE.thenN ?_
      refine Sim.region0 ?_
      refine SimI.run 3 [(7, .one (li .i64 4)), (23, .one (li .i64 4)), (22, .one (li .i64 3))] [] (by kernel_rfl) ?_
      refine SimI.done (by kernel_rfl) ?_
      refine SimE.loopN ?_
      refine SimL.pre (ts := [2, 3, 4, 6, 7]) (os := [2, 3, 4, 6]) [(2, .one (.ptr 2 0)), (3, .one (.ptr 3 0)), (4, .one (.ptr 4 0)), (6, .one (.ptr 6 0)), (7, .one (li .i64 4))] ((2, some (.cells [li .i64 a0.ID, li .i64 a0.At.X, li .i64 a0.At.Y, li .i64 a0.F.a0.N, ls a0.F.a0.Text, li .i64 a0.F.a1.N, ls a0.F.a1.Text, li .i64 a0.F.a2.N, ls a0.F.a2.Text, li .i64 a0.F.a3.N, ls a0.F.a3.Text])) :: ((3, some (.cells [li .i64 a1.ID, li .i64 a1.At.X, li .i64 a1.At.Y, li .i64 a1.F.a0.N, ls a1.F.a0.Text, li .i64 a1.F.a1.N, ls a1.F.a1.Text, li .i64 a1.F.a2.N, ls a1.F.a2.Text, li .i64 a1.F.a3.N, ls a1.F.a3.Text])) :: ((4, some (.cells [li .i64 0, li .u8 0, li .i64 0, li .i64 0, li .i64 0, ls ByteArray.empty, li .i64 0, ls ByteArray.empty, li .i64 0, ls ByteArray.empty, li .i64 0, ls ByteArray.empty])) :: ((6, some (.cells [li .i64 a1.ID, li .u8 i13, li .i64 i2, li .i64 i3, li .i64 i6, ls s7, li .i64 i10, ls s11, li .i64 i14, ls s15, li .i64 0, ls ByteArray.empty])) :: [])))) (by kernel_rfl) (by kernel_rfl) (by kernel_rfl) ?_
      exact F19_u20_ok n a0 a1 i2 i3 i6 s7 i10 s11 i14 s15 i13 0 ByteArray.empty

def F19_u12 (n : Nat) (a0 : Thing) (a1 : Thing) (i2 : Int) (i3 : Int) (i6 : Int) (s7 : ByteArray) (i9 : Int) (i10 : Int) (s11 : ByteArray) : Option (Delta × Bool) :=
    if !(Field.eqb a0.F.a2 a1.F.a2) then
      F19_u16 n a0 a1 i2 i3 i6 s7 i10 s11 (bitsI .or .u8 i9 (shlI .u8 2 2)) a1.F.a2.N a1.F.a2.Text
    else
      F19_u16 n a0 a1 i2 i3 i6 s7 i10 s11 i9 0 ByteArray.empty
theorem F19_u12_ok (n : Nat) (a0 : Thing) (a1 : Thing) (i2 : Int) (i3 : Int) (i6 : Int) (s7 : ByteArray) (i9 : Int) (i10 : Int) (s11 : ByteArray) : SimL Try.prog D (n + 8) (n + 6) pc19_c24 [(2, .one (.ptr 2 0)), (3, .one (.ptr 3 0)), (4, .one (.ptr 4 0)), (6, .one (.ptr 6 0)), (7, .one (li .i64 2))] ((2, some (.cells [li .i64 a0.ID, li .i64 a0.At.X, li .i64 a0.At.Y, li .i64 a0.F.a0.N, ls a0.F.a0.Text, li .i64 a0.F.a1.N, ls a0.F.a1.Text, li .i64 a0.F.a2.N, ls a0.F.a2.Text, li .i64 a0.F.a3.N, ls a0.F.a3.Text])) :: ((3, some (.cells [li .i64 a1.ID, li .i64 a1.At.X, li .i64 a1.At.Y, li .i64 a1.F.a0.N, ls a1.F.a0.Text, li .i64 a1.F.a1.N, ls a1.F.a1.Text, li .i64 a1.F.a2.N, ls a1.F.a2.Text, li .i64 a1.F.a3.N, ls a1.F.a3.Text])) :: ((4, some (.cells [li .i64 0, li .u8 0, li .i64 0, li .i64 0, li .i64 0, ls ByteArray.empty, li .i64 0, ls ByteArray.empty, li .i64 0, ls ByteArray.empty, li .i64 0, ls ByteArray.empty])) :: ((6, some (.cells [li .i64 a1.ID, li .u8 i9, li .i64 i2, li .i64 i3, li .i64 i6, ls s7, li .i64 i10, ls s11, li .i64 0, ls ByteArray.empty, li .i64 0, ls ByteArray.empty])) :: [])))) (F19_u12 n a0 a1 i2 i3 i6 s7 i9 i10 s11) (QB 0 (QT Try.prog D (n + 8) pc19_c30 (QF pc19_r 0 F19_e))) := by
    unfold F19_u12
    refine SimL.succ ?_
    refine Sim.seq ?_
    refine Sim.seq ?_
    refine Sim.region [(2, .one (.ptr 2 0)), (3, .one (.ptr 3 0)), (4, .one (.ptr 4 0)), (6, .one (.ptr 6 0)), (7, .one (li .i64 2))] ((2, some (.cells [li .i64 a0.ID, li .i64 a0.At.X, li .i64 a0.At.Y, li .i64 a0.F.a0.N, ls a0.F.a0.Text, li .i64 a0.F.a1.N, ls a0.F.a1.Text, li .i64 a0.F.a2.N, ls a0.F.a2.Text, li .i64 a0.F.a3.N, ls a0.F.a3.Text])) :: ((3, some (.cells [li .i64 a1.ID, li .i64 a1.At.X, li .i64 a1.At.Y, li .i64 a1.F.a0.N, ls a1.F.a0.Text, li .i64 a1.F.a1.N, ls a1.F.a1.Text, li .i64 a1.F.a2.N, ls a1.F.a2.Text, li .i64 a1.F.a3.N, ls a1.F.a3.Text])) :: ((4, some (.cells [li .i64 0, li .u8 0, li .i64 0, li .i64 0, li .i64 0, ls ByteArray.empty, li .i64 0, ls ByteArray.empty, li .i64 0, ls ByteArray.empty, li .i64 0, ls ByteArray.empty])) :: ((6, some (.cells [li .i64 a1.ID, li .u8 i9, li .i64 i2, li .i64 i3, li .i64 i6, ls s7, li .i64 i10, ls s11, li .i64 0, ls ByteArray.empty, li .i64 0, ls ByteArray.empty])) :: [])))) (by kernel_rfl) ?_
    refine SimI.run 2 [(21, .one (lb true)), (20, .one (li .i64 2))] [] (by kernel_rfl) ?_
    refine SimI.done (by kernel_rfl) ?_
    refine SimE.thenN ?_
    refine Sim.condT (by kernel_rfl) ?_
    refine Sim.skip ?_
    refine SimE.thenN ?_
    refine Sim.seq ?_
    refine Sim.block ?_
    refine Sim.seq ?_
    refine Sim.region0 ?_
    refine SimI.run 8 [(31, .agg [li .i64 a1.F.a2.N, ls a1.F.a2.Text]), (30, .one (.ptr 3 7)), (29, .one (.ptr 3 3)), (28, .one (li .i64 2)), (27, .agg [li .i64 a0.F.a2.N, ls a0.F.a2.Text]), (26, .one (.ptr 2 7)), (25, .one (.ptr 2 3)), (24, .one (li .i64 2))] [] (by kernel_rfl) ?_
    refine SimI.step { dst := some 32, op := POp.prim (Prim.bin BinOp.neq 25 false false) [Operand.tmp 27, Operand.tmp 31], guard := none, hints := [(27, Hint.imm), (31, Hint.imm)] } [(32, .one (lb (!(Field.eqb a0.F.a2 a1.F.a2))))] [] (by kernel_rfl) (pOp_eff (by kernel_rfl) (by kernel_rfl) (eff_prim (by kernel_rfl) (Field_eqn a0.F.a2 a1.F.a2 _ _))) ?_
    refine SimI.done (by kernel_rfl) ?_
    refine SimE.thenN ?_
    refine Sim.cond (!(Field.eqb a0.F.a2 a1.F.a2)) (by kernel_rfl) ?_ ?_
    · refine Sim.seq ?_
      refine Sim.region0 ?_
      refine SimI.run 8 [(39, .one (.ptr 6 1)), (38, .one (li .u8 (bitsI .or .u8 i9 (shlI .u8 2 2)))), (37, .one (li .u8 (shlI .u8 2 2))), (36, .one (li .u64 2)), (35, .one (li .i64 2)), (34, .one (li .u8 i9)), (33, .one (.ptr 6 1))] [(6, some (.cells [li .i64 a1.ID, li .u8 (bitsI .or .u8 i9 (shlI .u8 2 2)), li .i64 i2, li .i64 i3, li .i64 i6, ls s7, li .i64 i10, ls s11, li .i64 0, ls ByteArray.empty, li .i64 0, ls ByteArray.empty]))] (by kernel_rfl) ?_
      refine SimI.done (by kernel_rfl) ?_
      refine SimE.thenN ?_
      refine Sim.region0 ?_
      refine SimI.run 8 [(46, .one (.ptr 6 8)), (45, .one (.ptr 6 4)), (44, .agg [li .i64 a1.F.a2.N, ls a1.F.a2.Text]), (43, .one (.ptr 3 7)), (42, .one (.ptr 3 3)), (41, .one (li .i64 2)), (40, .one (li .i64 2))] [(6, some (.cells [li .i64 a1.ID, li .u8 (bitsI .or .u8 i9 (shlI .u8 2 2)), li .i64 i2, li .i64 i3, li .i64 i6, ls s7, li .i64 i10, ls s11, li .i64 a1.F.a2.N, ls a1.F.a2.Text, li .i64 0, ls ByteArray.empty]))] (by kernel_rfl) ?_
      refine SimI.done (by kernel_rfl) ?_
      refine SimE.blockN ?_
      refine SimE.thenN ?_
      refine Sim.region0 ?_
      refine SimI.run 3 [(7, .one (li .i64 3)), (23, .one (li .i64 3)), (22, .one (li .i64 2))] [] (by kernel_rfl) ?_
      refine SimI.done (by kernel_rfl) ?_
      refine SimE.loopN ?_
      refine SimL.pre (ts := [2, 3, 4, 6, 7]) (os := [2, 3, 4, 6]) [(2, .one (.ptr 2 0)), (3, .one (.ptr 3 0)), (4, .one (.ptr 4 0)), (6, .one (.ptr 6 0)), (7, .one (li .i64 3))] ((2, some (.cells [li .i64 a0.ID, li .i64 a0.At.X, li .i64 a0.At.Y, li .i64 a0.F.a0.N, ls a0.F.a0.Text, li .i64 a0.F.a1.N, ls a0.F.a1.Text, li .i64 a0.F.a2.N, ls a0.F.a2.Text, li .i64 a0.F.a3.N, ls a0.F.a3.Text])) :: ((3, some (.cells [li .i64 a1.ID, li .i64 a1.At.X, li .i64 a1.At.Y, li .i64 a1.F.a0.N, ls a1.F.a0.Text, li .i64 a1.F.a1.N, ls a1.F.a1.Text, li .i64 a1.F.a2.N, ls a1.F.a2.Text, li .i64 a1.F.a3.N, ls a1.F.a3.Text])) :: ((4, some (.cells [li .i64 0, li .u8 0, li .i64 0, li .i64 0, li .i64 0, ls ByteArray.empty, li .i64 0, ls ByteArray.empty, li .i64 0, ls ByteArray.empty, li .i64 0, ls ByteArray.empty])) :: ((6, some (.cells [li .i64 a1.ID, li .u8 (bitsI .or .u8 i9 (shlI .u8 2 2)), li .i64 i2, li .i64 i3, li .i64 i6, ls s7, li .i64 i10, ls s11, li .i64 a1.F.a2.N, ls a1.F.a2.Text, li .i64 0, ls ByteArray.empty])) :: [])))) (by kernel_rfl) (by kernel_rfl) (by kernel_rfl) ?_
      exact F19_u16_ok n a0 a1 i2 i3 i6 s7 i10 s11 (bitsI .or .u8 i9 (shlI .u8 2 2)) a1.F.a2.N a1.F.a2.Text
    · refine Sim.skip ?_
      refine SimE.blockN ?_
      refine SimE.thenN ?_
      refine Sim.region0 ?_
      refine SimI.run 3 [(7, .one (li .i64 3)), (23, .one (li .i64 3)), (22, .one (li .i64 2))] [] (by kernel_rfl) ?_
      refine SimI.done (by kernel_rfl) ?_
      refine SimE.loopN ?_
      refine SimL.pre (ts := [2, 3, 4, 6, 7]) (os := [2, 3, 4, 6]) [(2, .one (.ptr 2 0)), (3, .one (.ptr 3 0)), (4, .one (.ptr 4 0)), (6, .one (.ptr 6 0)), (7, .one (li .i64 3))] ((2, some (.cells [li .i64 a0.ID, li .i64 a0.At.X, li .i64 a0.At.Y, li .i64 a0.F.a0.N, ls a0.F.a0.Text, li .i64 a0.F.a1.N, ls a0.F.a1.Text, li .i64 a0.F.a2.N, ls a0.F.a2.Text, li .i64 a0.F.a3.N, ls a0.F.a3.Text])) :: ((3, some (.cells [li .i64 a1.ID, li .i64 a1.At.X, li .i64 a1.At.Y, li .i64 a1.F.a0.N, ls a1.F.a0.Text, li .i64 a1.F.a1.N, ls a1.F.a1.Text, li .i64 a1.F.a2.N, ls a1.F.a2.Text, li .i64 a1.F.a3.N, ls a1.F.a3.Text])) :: ((4, some (.cells [li .i64 0, li .u8 0, li .i64 0, li .i64 0, li .i64 0, ls ByteArray.empty, li .i64 0, ls ByteArray.empty, li .i64 0, ls ByteArray.empty, li .i64 0, ls ByteArray.empty])) :: ((6, some (.cells [li .i64 a1.ID, li .u8 i9, li .i64 i2, li .i64 i3, li .i64 i6, ls s7, li .i64 i10, ls s11, li .i64 0, ls ByteArray.empty, li .i64 0, ls ByteArray.empty])) :: [])))) (by kernel_rfl) (by kernel_rfl) (by kernel_rfl) ?_
      exact F19_u16_ok n a0 a1 i2 i3 i6 s7 i10 s11 i9 0 ByteArray.empty

def F19_u8 (n : Nat) (a0 : Thing) (a1 : Thing) (i2 : Int) (i3 : Int) (i5 : Int) (i6 : Int) (s7 : ByteArray) : Option (Delta × Bool) :=
    if !(Field.eqb a0.F.a1 a1.F.a1) then
      F19_u12 n a0 a1 i2 i3 i6 s7 (bitsI .or .u8 i5 (shlI .u8 2 1)) a1.F.a1.N a1.F.a1.Text
    else
      F19_u12 n a0 a1 i2 i3 i6 s7 i5 0 ByteArray.empty
theorem F19_u8_ok (n : Nat) (a0 : Thing) (a1 : Thing) (i2 : Int) (i3 : Int) (i5 : Int) (i6 : Int) (s7 : ByteArray) : SimL Try.prog D (n + 8) (n + 7) pc19_c24 [(2, .one (.ptr 2 0)), (3, .one (.ptr 3 0)), (4, .one (.ptr 4 0)), (6, .one (.ptr 6 0)), (7, .one (li .i64 1))] ((2, some (.cells [li .i64 a0.ID, li .i64 a0.At.X, li .i64 a0.At.Y, li .i64 a0.F.a0.N, ls a0.F.a0.Text, li .i64 a0.F.a1.N, ls a0.F.a1.Text, li .i64 a0.F.a2.N, ls a0.F.a2.Text, li .i64 a0.F.a3.N, ls a0.F.a3.Text])) :: ((3, some (.cells [li .i64 a1.ID, li .i64 a1.At.X, li .i64 a1.At.Y, li .i64 a1.F.a0.N, ls a1.F.a0.Text, li .i64 a1.F.a1.N, ls a1.F.a1.Text, li .i64 a1.F.a2.N, ls a1.F.a2.Text, li .i64 a1.F.a3.N, ls a1.F.a3.Text])) :: ((4, some (.cells [li .i64 0, li .u8 0, li .i64 0, li .i64 0, li .i64 0, ls ByteArray.empty, li .i64 0, ls ByteArray.empty, li .i64 0, ls ByteArray.empty, li .i64 0, ls ByteArray.empty])) :: ((6, some (.cells [li .i64 a1.ID, li .u8 i5, li .i64 i2, li .i64 i3, li .i64 i6, ls s7, li .i64 0, ls ByteArray.empty, li .i64 0, ls ByteArray.empty, li .i64 0, ls ByteArray.empty])) :: [])))) (F19_u8 n a0 a1 i2 i3 i5 i6 s7) (QB 0 (QT Try.prog D (n + 8) pc19_c30 (QF pc19_r 0 F19_e))) := by
    unfold F19_u8
    refine SimL.succ ?_
    refine Sim.seq ?_
    refine Sim.seq ?_
    refine Sim.region [(2, .one (.ptr 2 0)), (3, .one (.ptr 3 0)), (4, .one (.ptr 4 0)), (6, .one (.ptr 6 0)), (7, .one (li .i64 1))] ((2, some (.cells [li .i64 a0.ID, li .i64 a0.At.X, li .i64 a0.At.Y, li .i64 a0.F.a0.N, ls a0.F.a0.Text, li .i64 a0.F.a1.N, ls a0.F.a1.Text, li .i64 a0.F.a2.N, ls a0.F.a2.Text, li .i64 a0.F.a3.N, ls a0.F.a3.Text])) :: ((3, some (.cells [li .i64 a1.ID, li .i64 a1.At.X, li .i64 a1.At.Y, li .i64 a1.F.a0.N, ls a1.F.a0.Text, li .i64 a1.F.a1.N, ls a1.F.a1.Text, li .i64 a1.F.a2.N, ls a1.F.a2.Text, li .i64 a1.F.a3.N, ls a1.F.a3.Text])) :: ((4, some (.cells [li .i64 0, li .u8 0, li .i64 0, li .i64 0, li .i64 0, ls ByteArray.empty, li .i64 0, ls ByteArray.empty, li .i64 0, ls ByteArray.empty, li .i64 0, ls ByteArray.empty])) :: ((6, some (.cells [li .i64 a1.ID, li .u8 i5, li .i64 i2, li .i64 i3, li .i64 i6, ls s7, li .i64 0, ls ByteArray.empty, li .i64 0, ls ByteArray.empty, li .i64 0, ls ByteArray.empty])) :: [])))) (by kernel_rfl) ?_
    refine SimI.run 2 [(21, .one (lb true)), (20, .one (li .i64 1))] [] (by kernel_rfl) ?_
    refine SimI.done (by kernel_rfl) ?_
    refine SimE.thenN ?_
    refine Sim.condT (by kernel_rfl) ?_
    refine Sim.skip ?_
    refine SimE.thenN ?_
    refine Sim.seq ?_
    refine Sim.block ?_
    refine Sim.seq ?_
    refine Sim.region0 ?_
    refine SimI.run 8 [(31, .agg [li .i64 a1.F.a1.N, ls a1.F.a1.Text]), (30, .one (.ptr 3 5)), (29, .one (.ptr 3 3)), (28, .one (li .i64 1)), (27, .agg [li .i64 a0.F.a1.N, ls a0.F.a1.Text]), (26, .one (.ptr 2 5)), (25, .one (.ptr 2 3)), (24, .one (li .i64 1))] [] (by kernel_rfl) ?_
    refine SimI.step { dst := some 32, op := POp.prim (Prim.bin BinOp.neq 25 false false) [Operand.tmp 27, Operand.tmp 31], guard := none, hints := [(27, Hint.imm), (31, Hint.imm)] } [(32, .one (lb (!(Field.eqb a0.F.a1 a1.F.a1))))] [] (by kernel_rfl) (pOp_eff (by kernel_rfl) (by kernel_rfl) (eff_prim (by kernel_rfl) (Field_eqn a0.F.a1 a1.F.a1 _ _))) ?_
    refine SimI.done (by kernel_rfl) ?_
    refine SimE.thenN ?_
    refine Sim.cond (!(Field.eqb a0.F.a1 a1.F.a1)) (by kernel_rfl) ?_ ?_
    · refine Sim.seq ?_
      refine Sim.region0 ?_
      refine SimI.run 8 [(39, .one (.ptr 6 1)), (38, .one (li .u8 (bitsI .or .u8 i5 (shlI .u8 2 1)))), (37, .one (li .u8 (shlI .u8 2 1))), (36, .one (li .u64 1)), (35, .one (li .i64 1)), (34, .one (li .u8 i5)), (33, .one (.ptr 6 1))] [(6, some (.cells [li .i64 a1.ID, li .u8 (bitsI .or .u8 i5 (shlI .u8 2 1)), li .i64 i2, li .i64 i3, li .i64 i6, ls s7, li .i64 0, ls ByteArray.empty, li .i64 0, ls ByteArray.empty, li .i64 0, ls ByteArray.empty]))] (by kernel_rfl) ?_
      refine SimI.done (by kernel_rfl) ?_
      refine SimE.thenN ?_
      refine Sim.region0 ?_
      refine SimI.run 8 [(46, .one (.ptr 6 6)), (45, .one (.ptr 6 4)), (44, .agg [li .i64 a1.F.a1.N, ls a1.F.a1.Text]), (43, .one (.ptr 3 5)), (42, .one (.ptr 3 3)), (41, .one (li .i64 1)), (40, .one (li .i64 1))] [(6, some (.cells [li .i64 a1.ID, li .u8 (bitsI .or .u8 i5 (shlI .u8 2 1)), li .i64 i2, li .i64 i3, li .i64 i6, ls s7, li .i64 a1.F.a1.N, ls a1.F.a1.Text, li .i64 0, ls ByteArray.empty, li .i64 0, ls ByteArray.empty]))] (by kernel_rfl) ?_
      refine SimI.done (by kernel_rfl) ?_
      refine SimE.blockN ?_
      refine SimE.thenN ?_
      refine Sim.region0 ?_
      refine SimI.run 3 [(7, .one (li .i64 2)), (23, .one (li .i64 2)), (22, .one (li .i64 1))] [] (by kernel_rfl) ?_
      refine SimI.done (by kernel_rfl) ?_
      refine SimE.loopN ?_
      refine SimL.pre (ts := [2, 3, 4, 6, 7]) (os := [2, 3, 4, 6]) [(2, .one (.ptr 2 0)), (3, .one (.ptr 3 0)), (4, .one (.ptr 4 0)), (6, .one (.ptr 6 0)), (7, .one (li .i64 2))] ((2, some (.cells [li .i64 a0.ID, li .i64 a0.At.X, li .i64 a0.At.Y, li .i64 a0.F.a0.N, ls a0.F.a0.Text, li .i64 a0.F.a1.N, ls a0.F.a1.Text, li .i64 a0.F.a2.N, ls a0.F.a2.Text, li .i64 a0.F.a3.N, ls a0.F.a3.Text])) :: ((3, some (.cells [li .i64 a1.ID, li .i64 a1.At.X, li .i64 a1.At.Y, li .i64 a1.F.a0.N, ls a1.F.a0.Text, li .i64 a1.F.a1.N, ls a1.F.a1.Text, li .i64 a1.F.a2.N, ls a1.F.a2.Text, li .i64 a1.F.a3.N, ls a1.F.a3.Text])) :: ((4, some (.cells [li .i64 0, li .u8 0, li .i64 0, li .i64 0, li .i64 0, ls ByteArray.empty, li .i64 0, ls ByteArray.empty, li .i64 0, ls ByteArray.empty, li .i64 0, ls ByteArray.empty])) :: ((6, some (.cells [li .i64 a1.ID, li .u8 (bitsI .or .u8 i5 (shlI .u8 2 1)), li .i64 i2, li .i64 i3, li .i64 i6, ls s7, li .i64 a1.F.a1.N, ls a1.F.a1.Text, li .i64 0, ls ByteArray.empty, li .i64 0, ls ByteArray.empty])) :: [])))) (by kernel_rfl) (by kernel_rfl) (by kernel_rfl) ?_
      exact F19_u12_ok n a0 a1 i2 i3 i6 s7 (bitsI .or .u8 i5 (shlI .u8 2 1)) a1.F.a1.N a1.F.a1.Text
    · refine Sim.skip ?_
      refine SimE.blockN ?_
      refine SimE.thenN ?_
      refine Sim.region0 ?_
      refine SimI.run 3 [(7, .one (li .i64 2)), (23, .one (li .i64 2)), (22, .one (li .i64 1))] [] (by kernel_rfl) ?_
      refine SimI.done (by kernel_rfl) ?_
      refine SimE.loopN ?_
      refine SimL.pre (ts := [2, 3, 4, 6, 7]) (os := [2, 3, 4, 6]) [(2, .one (.ptr 2 0)), (3, .one (.ptr 3 0)), (4, .one (.ptr 4 0)), (6, .one (.ptr 6 0)), (7, .one (li .i64 2))] ((2, some (.cells [li .i64 a0.ID, li .i64 a0.At.X, li .i64 a0.At.Y, li .i64 a0.F.a0.N, ls a0.F.a0.Text, li .i64 a0.F.a1.N, ls a0.F.a1.Text, li .i64 a0.F.a2.N, ls a0.F.a2.Text, li .i64 a0.F.a3.N, ls a0.F.a3.Text])) :: ((3, some (.cells [li .i64 a1.ID, li .i64 a1.At.X, li .i64 a1.At.Y, li .i64 a1.F.a0.N, ls a1.F.a0.Text, li .i64 a1.F.a1.N, ls a1.F.a1.Text, li .i64 a1.F.a2.N, ls a1.F.a2.Text, li .i64 a1.F.a3.N, ls a1.F.a3.Text])) :: ((4, some (.cells [li .i64 0, li .u8 0, li .i64 0, li .i64 0, li .i64 0, ls ByteArray.empty, li .i64 0, ls ByteArray.empty, li .i64 0, ls ByteArray.empty, li .i64 0, ls ByteArray.empty])) :: ((6, some (.cells [li .i64 a1.ID, li .u8 i5, li .i64 i2, li .i64 i3, li .i64 i6, ls s7, li .i64 0, ls ByteArray.empty, li .i64 0, ls ByteArray.empty, li .i64 0, ls ByteArray.empty])) :: [])))) (by kernel_rfl) (by kernel_rfl) (by kernel_rfl) ?_
      exact F19_u12_ok n a0 a1 i2 i3 i6 s7 i5 0 ByteArray.empty

def F19_j4 (n : Nat) (a0 : Thing) (a1 : Thing) (i1 : Int) (i2 : Int) (i3 : Int) : Option (Delta × Bool) :=
    if !(Field.eqb a0.F.a0 a1.F.a0) then
      F19_u8 n a0 a1 i2 i3 (bitsI .or .u8 i1 (shlI .u8 2 0)) a1.F.a0.N a1.F.a0.Text
    else
      F19_u8 n a0 a1 i2 i3 i1 0 ByteArray.empty
theorem F19_j4_ok (n : Nat) (a0 : Thing) (a1 : Thing) (i1 : Int) (i2 : Int) (i3 : Int) : Sim Try.prog D (n + 8) pc19_c31 [(2, .one (.ptr 2 0)), (3, .one (.ptr 3 0)), (4, .one (.ptr 4 0)), (6, .one (.ptr 6 0))] ((2, some (.cells [li .i64 a0.ID, li .i64 a0.At.X, li .i64 a0.At.Y, li .i64 a0.F.a0.N, ls a0.F.a0.Text, li .i64 a0.F.a1.N, ls a0.F.a1.Text, li .i64 a0.F.a2.N, ls a0.F.a2.Text, li .i64 a0.F.a3.N, ls a0.F.a3.Text])) :: ((3, some (.cells [li .i64 a1.ID, li .i64 a1.At.X, li .i64 a1.At.Y, li .i64 a1.F.a0.N, ls a1.F.a0.Text, li .i64 a1.F.a1.N, ls a1.F.a1.Text, li .i64 a1.F.a2.N, ls a1.F.a2.Text, li .i64 a1.F.a3.N, ls a1.F.a3.Text])) :: ((4, some (.cells [li .i64 0, li .u8 0, li .i64 0, li .i64 0, li .i64 0, ls ByteArray.empty, li .i64 0, ls ByteArray.empty, li .i64 0, ls ByteArray.empty, li .i64 0, ls ByteArray.empty])) :: ((6, some (.cells [li .i64 a1.ID, li .u8 i1, li .i64 i2, li .i64 i3, li .i64 0, ls ByteArray.empty, li .i64 0, ls ByteArray.empty, li .i64 0, ls ByteArray.empty, li .i64 0, ls ByteArray.empty])) :: [])))) (F19_j4 n a0 a1 i1 i2 i3) (QF pc19_r 0 F19_e) := by
    unfold F19_j4
    refine Sim.seq ?_
    refine Sim.seq ?_
    refine Sim.region [(2, .one (.ptr 2 0)), (3, .one (.ptr 3 0)), (4, .one (.ptr 4 0)), (6, .one (.ptr 6 0))] ((2, some (.cells [li .i64 a0.ID, li .i64 a0.At.X, li .i64 a0.At.Y, li .i64 a0.F.a0.N, ls a0.F.a0.Text, li .i64 a0.F.a1.N, ls a0.F.a1.Text, li .i64 a0.F.a2.N, ls a0.F.a2.Text, li .i64 a0.F.a3.N, ls a0.F.a3.Text])) :: ((3, some (.cells [li .i64 a1.ID, li .i64 a1.At.X, li .i64 a1.At.Y, li .i64 a1.F.a0.N, ls a1.F.a0.Text, li .i64 a1.F.a1.N, ls a1.F.a1.Text, li .i64 a1.F.a2.N, ls a1.F.a2.Text, li .i64 a1.F.a3.N, ls a1.F.a3.Text])) :: ((4, some (.cells [li .i64 0, li .u8 0, li .i64 0, li .i64 0, li .i64 0, ls ByteArray.empty, li .i64 0, ls ByteArray.empty, li .i64 0, ls ByteArray.empty, li .i64 0, ls ByteArray.empty])) :: ((6, some (.cells [li .i64 a1.ID, li .u8 i1, li .i64 i2, li .i64 i3, li .i64 0, ls ByteArray.empty, li .i64 0, ls ByteArray.empty, li .i64 0, ls ByteArray.empty, li .i64 0, ls ByteArray.empty])) :: [])))) (by kernel_rfl) ?_
    refine SimI.run 1 [(7, .one (li .i64 0))] [] (by kernel_rfl) ?_
    refine SimI.done (by kernel_rfl) ?_
    refine SimE.thenN ?_
    refine Sim.block ?_
    refine Sim.loop ?_
    refine SimL.succ ?_
    refine Sim.seq ?_
    refine Sim.seq ?_
    refine Sim.region [(2, .one (.ptr 2 0)), (3, .one (.ptr 3 0)), (4, .one (.ptr 4 0)), (6, .one (.ptr 6 0)), (7, .one (li .i64 0))] ((2, some (.cells [li .i64 a0.ID, li .i64 a0.At.X, li .i64 a0.At.Y, li .i64 a0.F.a0.N, ls a0.F.a0.Text, li .i64 a0.F.a1.N, ls a0.F.a1.Text, li .i64 a0.F.a2.N, ls a0.F.a2.Text, li .i64 a0.F.a3.N, ls a0.F.a3.Text])) :: ((3, some (.cells [li .i64 a1.ID, li .i64 a1.At.X, li .i64 a1.At.Y, li .i64 a1.F.a0.N, ls a1.F.a0.Text, li .i64 a1.F.a1.N, ls a1.F.a1.Text, li .i64 a1.F.a2.N, ls a1.F.a2.Text, li .i64 a1.F.a3.N, ls a1.F.a3.Text])) :: ((4, some (.cells [li .i64 0, li .u8 0, li .i64 0, li .i64 0, li .i64 0, ls ByteArray.empty, li .i64 0, ls ByteArray.empty, li .i64 0, ls ByteArray.empty, li .i64 0, ls ByteArray.empty])) :: ((6, some (.cells [li .i64 a1.ID, li .u8 i1, li .i64 i2, li .i64 i3, li .i64 0, ls ByteArray.empty, li .i64 0, ls ByteArray.empty, li .i64 0, ls ByteArray.empty, li .i64 0, ls ByteArray.empty])) :: [])))) (by kernel_rfl) ?_
    refine SimI.run 2 [(21, .one (lb true)), (20, .one (li .i64 0))] [] (by kernel_rfl) ?_
    refine SimI.done (by kernel_rfl) ?_
    refine SimE.thenN ?_
    refine Sim.condT (by kernel_rfl) ?_
    refine Sim.skip ?_
    refine SimE.thenN ?_
    refine Sim.seq ?_
    refine Sim.block ?_
    refine Sim.seq ?_
    refine Sim.region0 ?_
    refine SimI.run 8 [(31, .agg [li .i64 a1.F.a0.N, ls a1.F.a0.Text]), (30, .one (.ptr 3 3)), (29, .one (.ptr 3 3)), (28, .one (li .i64 0)), (27, .agg [li .i64 a0.F.a0.N, ls a0.F.a0.Text]), (26, .one (.ptr 2 3)), (25, .one (.ptr 2 3)), (24, .one (li .i64 0))] [] (by kernel_rfl) ?_
    refine SimI.step { dst := some 32, op := POp.prim (Prim.bin BinOp.neq 25 false false) [Operand.tmp 27, Operand.tmp 31], guard := none, hints := [(27, Hint.imm), (31, Hint.imm)] } [(32, .one (lb (!(Field.eqb a0.F.a0 a1.F.a0))))] [] (by kernel_rfl) (pOp_eff (by kernel_rfl) (by kernel_rfl) (eff_prim (by kernel_rfl) (Field_eqn a0.F.a0 a1.F.a0 _ _))) ?_
    refine SimI.done (by kernel_rfl) ?_
    refine SimE.thenN ?_
    refine Sim.cond (!(Field.eqb a0.F.a0 a1.F.a0)) (by kernel_rfl) ?_ ?_
    · refine Sim.seq ?_
      refine Sim.region0 ?_
      refine SimI.run 8 [(39, .one (.ptr 6 1)), (38, .one (li .u8 (bitsI .or .u8 i1 (shlI .u8 2 0)))), (37, .one (li .u8 (shlI .u8 2 0))), (36, .one (li .u64 0)), (35, .one (li .i64 0)), (34, .one (li .u8 i1)), (33, .one (.ptr 6 1))] [(6, some (.cells [li .i64 a1.ID, li .u8 (bitsI .or .u8 i1 (shlI .u8 2 0)), li .i64 i2, li .i64 i3, li .i64 0, ls ByteArray.empty, li .i64 0, ls ByteArray.empty, li .i64 0, ls ByteArray.empty, li .i64 0, ls ByteArray.empty]))] (by kernel_rfl) ?_
      refine SimI.done (by kernel_rfl) ?_
      refine SimE.thenN ?_
      refine Sim.region0 ?_
      refine SimI.run 8 [(46, .one (.ptr 6 4)), (45, .one (.ptr 6 4)), (44, .agg [li .i64 a1.F.a0.N, ls a1.F.a0.Text]), (43, .one (.ptr 3 3)), (42, .one (.ptr 3 3)), (41, .one (li .i64 0)), (40, .one (li .i64 0))] [(6, some (.cells [li .i64 a1.ID, li .u8 (bitsI .or .u8 i1 (shlI .u8 2 0)), li .i64 i2, li .i64 i3, li .i64 a1.F.a0.N, ls a1.F.a0.Text, li .i64 0, ls ByteArray.empty, li .i64 0, ls ByteArray.empty, li .i64 0, ls ByteArray.empty]))] (by kernel_rfl) ?_
      refine SimI.done (by kernel_rfl) ?_
      refine SimE.blockN ?_
      refine SimE.thenN ?_
      refine Sim.region0 ?_
      refine SimI.run 3 [(7, .one (li .i64 1)), (23, .one (li .i64 1)), (22, .one (li .i64 0))] [] (by kernel_rfl) ?_
      refine SimI.done (by kernel_rfl) ?_
      refine SimE.loopN ?_
      refine SimL.pre (ts := [2, 3, 4, 6, 7]) (os := [2, 3, 4, 6]) [(2, .one (.ptr 2 0)), (3, .one (.ptr 3 0)), (4, .one (.ptr 4 0)), (6, .one (.ptr 6 0)), (7, .one (li .i64 1))] ((2, some (.cells [li .i64 a0.ID, li .i64 a0.At.X, li .i64 a0.At.Y, li .i64 a0.F.a0.N, ls a0.F.a0.Text, li .i64 a0.F.a1.N, ls a0.F.a1.Text, li .i64 a0.F.a2.N, ls a0.F.a2.Text, li .i64 a0.F.a3.N, ls a0.F.a3.Text])) :: ((3, some (.cells [li .i64 a1.ID, li .i64 a1.At.X, li .i64 a1.At.Y, li .i64 a1.F.a0.N, ls a1.F.a0.Text, li .i64 a1.F.a1.N, ls a1.F.a1.Text, li .i64 a1.F.a2.N, ls a1.F.a2.Text, li .i64 a1.F.a3.N, ls a1.F.a3.Text])) :: ((4, some (.cells [li .i64 0, li .u8 0, li .i64 0, li .i64 0, li .i64 0, ls ByteArray.empty, li .i64 0, ls ByteArray.empty, li .i64 0, ls ByteArray.empty, li .i64 0, ls ByteArray.empty])) :: ((6, some (.cells [li .i64 a1.ID, li .u8 (bitsI .or .u8 i1 (shlI .u8 2 0)), li .i64 i2, li .i64 i3, li .i64 a1.F.a0.N, ls a1.F.a0.Text, li .i64 0, ls ByteArray.empty, li .i64 0, ls ByteArray.empty, li .i64 0, ls ByteArray.empty])) :: [])))) (by kernel_rfl) (by kernel_rfl) (by kernel_rfl) ?_
      exact F19_u8_ok n a0 a1 i2 i3 (bitsI .or .u8 i1 (shlI .u8 2 0)) a1.F.a0.N a1.F.a0.Text
    · refine Sim.skip ?_
      refine SimE.blockN ?_
      refine SimE.thenN ?_
      refine Sim.region0 ?_
      refine SimI.run 3 [(7, .one (li .i64 1)), (23, .one (li .i64 1)), (22, .one (li .i64 0))] [] (by kernel_rfl) ?_
      refine SimI.done (by kernel_rfl) ?_
      refine SimE.loopN ?_
      refine SimL.pre (ts := [2, 3, 4, 6, 7]) (os := [2, 3, 4, 6]) [(2, .one (.ptr 2 0)), (3, .one (.ptr 3 0)), (4, .one (.ptr 4 0)), (6, .one (.ptr 6 0)), (7, .one (li .i64 1))] ((2, some (.cells [li .i64 a0.ID, li .i64 a0.At.X, li .i64 a0.At.Y, li .i64 a0.F.a0.N, ls a0.F.a0.Text, li .i64 a0.F.a1.N, ls a0.F.a1.Text, li .i64 a0.F.a2.N, ls a0.F.a2.Text, li .i64 a0.F.a3.N, ls a0.F.a3.Text])) :: ((3, some (.cells [li .i64 a1.ID, li .i64 a1.At.X, li .i64 a1.At.Y, li .i64 a1.F.a0.N, ls a1.F.a0.Text, li .i64 a1.F.a1.N, ls a1.F.a1.Text, li .i64 a1.F.a2.N, ls a1.F.a2.Text, li .i64 a1.F.a3.N, ls a1.F.a3.Text])) :: ((4, some (.cells [li .i64 0, li .u8 0, li .i64 0, li .i64 0, li .i64 0, ls ByteArray.empty, li .i64 0, ls ByteArray.empty, li .i64 0, ls ByteArray.empty, li .i64 0, ls ByteArray.empty])) :: ((6, some (.cells [li .i64 a1.ID, li .u8 i1, li .i64 i2, li .i64 i3, li .i64 0, ls ByteArray.empty, li .i64 0, ls ByteArray.empty, li .i64 0, ls ByteArray.empty, li .i64 0, ls ByteArray.empty])) :: [])))) (by kernel_rfl) (by kernel_rfl) (by kernel_rfl) ?_
      exact F19_u8_ok n a0 a1 i2 i3 i1 0 ByteArray.empty

def F19 (n : Nat) (a0 : Thing) (a1 : Thing) : Option (Delta × Bool) :=
  if !(Point.eqb a0.At a1.At) then
    F19_j4 n a0 a1 1 a1.At.X a1.At.Y
  else
    F19_j4 n a0 a1 0 0 0
theorem F19_ok (n : Nat) (a0 : Thing) (a1 : Thing) : ∀ r, F19 n a0 a1 = some r → D 19 [.agg [li .i64 a0.ID, li .i64 a0.At.X, li .i64 a0.At.Y, li .i64 a0.F.a0.N, ls a0.F.a0.Text, li .i64 a0.F.a1.N, ls a0.F.a1.Text, li .i64 a0.F.a2.N, ls a0.F.a2.Text, li .i64 a0.F.a3.N, ls a0.F.a3.Text], .agg [li .i64 a1.ID, li .i64 a1.At.X, li .i64 a1.At.Y, li .i64 a1.F.a0.N, ls a1.F.a0.Text, li .i64 a1.F.a1.N, ls a1.F.a1.Text, li .i64 a1.F.a2.N, ls a1.F.a2.Text, li .i64 a1.F.a3.N, ls a1.F.a3.Text]] [] = some (F19_e r) := by
  refine fn_to (D := D) (n := n + 8) (nt := 51) (rs := pc19_r) (c := pc19_c34) (L := [(0, .agg [li .i64 a0.ID, li .i64 a0.At.X, li .i64 a0.At.Y, li .i64 a0.F.a0.N, ls a0.F.a0.Text, li .i64 a0.F.a1.N, ls a0.F.a1.Text, li .i64 a0.F.a2.N, ls a0.F.a2.Text, li .i64 a0.F.a3.N, ls a0.F.a3.Text]), (1, .agg [li .i64 a1.ID, li .i64 a1.At.X, li .i64 a1.At.Y, li .i64 a1.F.a0.N, ls a1.F.a0.Text, li .i64 a1.F.a1.N, ls a1.F.a1.Text, li .i64 a1.F.a2.N, ls a1.F.a2.Text, li .i64 a1.F.a3.N, ls a1.F.a3.Text])]) (M := []) (k := 0) rfl rfl rfl rfl rfl rfl ?_
  unfold F19
  refine Sim.seq ?_
  refine Sim.region0 ?_
  refine SimI.run 4 [(5, .one (lb false)), (4, .one (.ptr 4 0)), (3, .one (.ptr 3 0)), (2, .one (.ptr 2 0))] [(4, some (.cells [li .i64 0, li .u8 0, li .i64 0, li .i64 0, li .i64 0, ls ByteArray.empty, li .i64 0, ls ByteArray.empty, li .i64 0, ls ByteArray.empty, li .i64 0, ls ByteArray.empty])), (3, some (.cells [li .i64 a1.ID, li .i64 a1.At.X, li .i64 a1.At.Y, li .i64 a1.F.a0.N, ls a1.F.a0.Text, li .i64 a1.F.a1.N, ls a1.F.a1.Text, li .i64 a1.F.a2.N, ls a1.F.a2.Text, li .i64 a1.F.a3.N, ls a1.F.a3.Text])), (2, some (.cells [li .i64 a0.ID, li .i64 a0.At.X, li .i64 a0.At.Y, li .i64 a0.F.a0.N, ls a0.F.a0.Text, li .i64 a0.F.a1.N, ls a0.F.a1.Text, li .i64 a0.F.a2.N, ls a0.F.a2.Text, li .i64 a0.F.a3.N, ls a0.F.a3.Text]))] (by kernel_rfl) ?_
  refine SimI.done (by kernel_rfl) ?_
  refine SimE.thenN ?_
  refine Sim.seq ?_
  refine Sim.region0 ?_
  refine SimI.run 5 [(6, .one (.ptr 6 0)), (10, .agg [li .i64 a1.ID, li .u8 0, li .i64 0, li .i64 0, li .i64 0, ls ByteArray.empty, li .i64 0, ls ByteArray.empty, li .i64 0, ls ByteArray.empty, li .i64 0, ls ByteArray.empty]), (9, .one (li .i64 a1.ID)), (8, .one (.ptr 3 0))] [(6, some (.cells [li .i64 a1.ID, li .u8 0, li .i64 0, li .i64 0, li .i64 0, ls ByteArray.empty, li .i64 0, ls ByteArray.empty, li .i64 0, ls ByteArray.empty, li .i64 0, ls ByteArray.empty])), (6, some (.cells [li .i64 0, li .u8 0, li .i64 0, li .i64 0, li .i64 0, ls ByteArray.empty, li .i64 0, ls ByteArray.empty, li .i64 0, ls ByteArray.empty, li .i64 0, ls ByteArray.empty]))] (by kernel_rfl) ?_
  refine SimI.done (by kernel_rfl) ?_
  refine SimE.thenN ?_
  refine Sim.seq ?_
  refine Sim.seq ?_
  refine Sim.region0 ?_
  refine SimI.run 4 [(14, .agg [li .i64 a1.At.X, li .i64 a1.At.Y]), (13, .one (.ptr 3 1)), (12, .agg [li .i64 a0.At.X, li .i64 a0.At.Y]), (11, .one (.ptr 2 1))] [] (by kernel_rfl) ?_
  refine SimI.step { dst := some 15, op := POp.prim (Prim.bin BinOp.neq 23 false false) [Operand.tmp 12, Operand.tmp 14], guard := none, hints := [] } [(15, .one (lb (!(Point.eqb a0.At a1.At))))] [] (by kernel_rfl) (pOp_eff (by kernel_rfl) (by kernel_rfl) (eff_prim (by kernel_rfl) (Point_eqn a0.At a1.At _ _))) ?_
  refine SimI.done (by kernel_rfl) ?_
  refine SimE.thenN ?_
  refine Sim.cond (!(Point.eqb a0.At a1.At)) (by kernel_rfl) ?_ ?_
  · refine Sim.region0 ?_
    refine SimI.run 6 [(19, .one (.ptr 6 2)), (18, .one (.ptr 6 1)), (17, .agg [li .i64 a1.At.X, li .i64 a1.At.Y]), (16, .one (.ptr 3 1))] [(6, some (.cells [li .i64 a1.ID, li .u8 1, li .i64 a1.At.X, li .i64 a1.At.Y, li .i64 0, ls ByteArray.empty, li .i64 0, ls ByteArray.empty, li .i64 0, ls ByteArray.empty, li .i64 0, ls ByteArray.empty])), (6, some (.cells [li .i64 a1.ID, li .u8 1, li .i64 0, li .i64 0, li .i64 0, ls ByteArray.empty, li .i64 0, ls ByteArray.empty, li .i64 0, ls ByteArray.empty, li .i64 0, ls ByteArray.empty]))] (by kernel_rfl) ?_
    refine SimI.done (by kernel_rfl) ?_
    refine SimE.thenN ?_
    refine Sim.pre (ts := [2, 3, 4, 6]) (os := [2, 3, 4, 6]) [(2, .one (.ptr 2 0)), (3, .one (.ptr 3 0)), (4, .one (.ptr 4 0)), (6, .one (.ptr 6 0))] ((2, some (.cells [li .i64 a0.ID, li .i64 a0.At.X, li .i64 a0.At.Y, li .i64 a0.F.a0.N, ls a0.F.a0.Text, li .i64 a0.F.a1.N, ls a0.F.a1.Text, li .i64 a0.F.a2.N, ls a0.F.a2.Text, li .i64 a0.F.a3.N, ls a0.F.a3.Text])) :: ((3, some (.cells [li .i64 a1.ID, li .i64 a1.At.X, li .i64 a1.At.Y, li .i64 a1.F.a0.N, ls a1.F.a0.Text, li .i64 a1.F.a1.N, ls a1.F.a1.Text, li .i64 a1.F.a2.N, ls a1.F.a2.Text, li .i64 a1.F.a3.N, ls a1.F.a3.Text])) :: ((4, some (.cells [li .i64 0, li .u8 0, li .i64 0, li .i64 0, li .i64 0, ls ByteArray.empty, li .i64 0, ls ByteArray.empty, li .i64 0, ls ByteArray.empty, li .i64 0, ls ByteArray.empty])) :: ((6, some (.cells [li .i64 a1.ID, li .u8 1, li .i64 a1.At.X, li .i64 a1.At.Y, li .i64 0, ls ByteArray.empty, li .i64 0, ls ByteArray.empty, li .i64 0, ls ByteArray.empty, li .i64 0, ls ByteArray.empty])) :: [])))) (by kernel_rfl) (by kernel_rfl) (by kernel_rfl) ?_
    exact F19_j4_ok n a0 a1 1 a1.At.X a1.At.Y
  · refine Sim.skip ?_
    refine SimE.thenN ?_
    refine Sim.pre (ts := [2, 3, 4, 6]) (os := [2, 3, 4, 6]) [(2, .one (.ptr 2 0)), (3, .one (.ptr 3 0)), (4, .one (.ptr 4 0)), (6, .one (.ptr 6 0))] ((2, some (.cells [li .i64 a0.ID, li .i64 a0.At.X, li .i64 a0.At.Y, li .i64 a0.F.a0.N, ls a0.F.a0.Text, li .i64 a0.F.a1.N, ls a0.F.a1.Text, li .i64 a0.F.a2.N, ls a0.F.a2.Text, li .i64 a0.F.a3.N, ls a0.F.a3.Text])) :: ((3, some (.cells [li .i64 a1.ID, li .i64 a1.At.X, li .i64 a1.At.Y, li .i64 a1.F.a0.N, ls a1.F.a0.Text, li .i64 a1.F.a1.N, ls a1.F.a1.Text, li .i64 a1.F.a2.N, ls a1.F.a2.Text, li .i64 a1.F.a3.N, ls a1.F.a3.Text])) :: ((4, some (.cells [li .i64 0, li .u8 0, li .i64 0, li .i64 0, li .i64 0, ls ByteArray.empty, li .i64 0, ls ByteArray.empty, li .i64 0, ls ByteArray.empty, li .i64 0, ls ByteArray.empty])) :: ((6, some (.cells [li .i64 a1.ID, li .u8 0, li .i64 0, li .i64 0, li .i64 0, ls ByteArray.empty, li .i64 0, ls ByteArray.empty, li .i64 0, ls ByteArray.empty, li .i64 0, ls ByteArray.empty])) :: [])))) (by kernel_rfl) (by kernel_rfl) (by kernel_rfl) ?_
    exact F19_j4_ok n a0 a1 0 0 0


end Go.Proofs.Ythmbegagkgdopaa
