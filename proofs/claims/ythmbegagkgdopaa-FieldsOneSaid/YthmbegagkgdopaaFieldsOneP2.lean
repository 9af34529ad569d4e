/-
  Functions of the program as functions of Lean. No condition.
-/
import Derived.Test.YthmbegagkgdopaaFieldsOneP1
namespace Go.Proofs.Ythmbegagkgdopaa
open Go Go.Rx
set_option maxRecDepth 100000
set_option linter.unusedVariables false
set_option linter.unusedSimpArgs false
set_option linter.unnecessarySimpa false
-- 3: vedette/vedettelaw6.FieldsTell
def F3_e : Bool → PV × List (List Lf) := fun r => (.one (lb r), [])
def F3_j12 (n : Nat) (a0 : Thing) (a2 : Delta) (a3 : Field) (r6 : (Delta × Bool)) (r7 : (Delta × Bool)) (r8 : (ByteArray × Int)) (s11 : ByteArray) : Option Bool :=
    if r6.2 == r7.2 then
      if !(r6.2) then
        (F23 n a0 a2).bind fun (r13 : Thing) =>
        (F24 n a0 a2).bind fun (r14 : Thing) =>
        if Thing.eqb r13 r14 then
          (F25 n a2).bind fun (r15 : Bool) =>
          (F21 n a2).bind fun (r16 : Bool) =>
          if r15 == r16 then
            (F26 n a3).bind fun (r17 : Bool) =>
            (F27 n a3).bind fun (r18 : Bool) =>
            if r17 == r18 then
              if r8.1.toList == s11.toList then
                (F21 n a2).bind fun (r19 : Bool) =>
                if (r8.2 == 0) == r19 then
                  if r8.2 == 0 then
                    (F28 n a2 r6.1).bind fun (r20 : Bool) =>
                    some (r20 == (Delta.eqb a2 r6.1))
                  else
                    if r8.2 == 11 then
                      (F28 n a2 r6.1).bind fun (r21 : Bool) =>
                      some (r21 == (Delta.eqb a2 r6.1))
                    else
                      some false
                else
                  some false
              else
                some false
            else
              some false
          else
            some false
        else
          some false
      else
        if Delta.eqb r6.1 r7.1 then
          (F23 n a0 a2).bind fun (r22 : Thing) =>
          (F24 n a0 a2).bind fun (r23 : Thing) =>
          if Thing.eqb r22 r23 then
            (F25 n a2).bind fun (r24 : Bool) =>
            (F21 n a2).bind fun (r25 : Bool) =>
            if r24 == r25 then
              (F26 n a3).bind fun (r26 : Bool) =>
              (F27 n a3).bind fun (r27 : Bool) =>
              if r26 == r27 then
                if r8.1.toList == s11.toList then
                  (F21 n a2).bind fun (r28 : Bool) =>
                  if (r8.2 == 0) == r28 then
                    if r8.2 == 0 then
                      (F28 n a2 r6.1).bind fun (r29 : Bool) =>
                      some (r29 == (Delta.eqb a2 r6.1))
                    else
                      if r8.2 == 11 then
                        (F28 n a2 r6.1).bind fun (r30 : Bool) =>
                        some (r30 == (Delta.eqb a2 r6.1))
                      else
                        some false
                  else
                    some false
                else
                  some false
              else
                some false
            else
              some false
          else
            some false
        else
          some false
    else
      some false
theorem F3_j12_ok (n : Nat) (a0 : Thing) (a1 : Thing) (a2 : Delta) (a3 : Field) (r6 : (Delta × Bool)) (r7 : (Delta × Bool)) (r8 : (ByteArray × Int)) (s11 : ByteArray) : Sim Try.prog D (n + 8) pc3_c27 [(4, .one (.ptr 4 0)), (6, .one (.ptr 6 0)), (7, .one (.ptr 7 0)), (9, .one (.ptr 9 0)), (10, .one (lb r6.2)), (11, .one (.ptr 11 0)), (12, .one (lb r7.2)), (13, .one (ls r8.1)), (14, .one (li .i64 r8.2)), (15, .one (ls s11))] ((4, some (.cells [li .i64 a0.ID, li .i64 a0.At.X, li .i64 a0.At.Y, li .i64 a0.F.a0.N, ls a0.F.a0.Text, li .i64 a0.F.a1.N, ls a0.F.a1.Text, li .i64 a0.F.a2.N, ls a0.F.a2.Text, li .i64 a0.F.a3.N, ls a0.F.a3.Text])) :: ((6, some (.cells [li .i64 a2.ID, li .u8 a2.Mask, li .i64 a2.At.X, li .i64 a2.At.Y, li .i64 a2.F.a0.N, ls a2.F.a0.Text, li .i64 a2.F.a1.N, ls a2.F.a1.Text, li .i64 a2.F.a2.N, ls a2.F.a2.Text, li .i64 a2.F.a3.N, ls a2.F.a3.Text])) :: ((7, some (.cells [li .i64 a3.N, ls a3.Text])) :: ((9, some (.cells [li .i64 r6.1.ID, li .u8 r6.1.Mask, li .i64 r6.1.At.X, li .i64 r6.1.At.Y, li .i64 r6.1.F.a0.N, ls r6.1.F.a0.Text, li .i64 r6.1.F.a1.N, ls r6.1.F.a1.Text, li .i64 r6.1.F.a2.N, ls r6.1.F.a2.Text, li .i64 r6.1.F.a3.N, ls r6.1.F.a3.Text])) :: ((11, some (.cells [li .i64 r7.1.ID, li .u8 r7.1.Mask, li .i64 r7.1.At.X, li .i64 r7.1.At.Y, li .i64 r7.1.F.a0.N, ls r7.1.F.a0.Text, li .i64 r7.1.F.a1.N, ls r7.1.F.a1.Text, li .i64 r7.1.F.a2.N, ls r7.1.F.a2.Text, li .i64 r7.1.F.a3.N, ls r7.1.F.a3.Text])) :: []))))) (F3_j12 n a0 a2 a3 r6 r7 r8 s11) (QF pc3_r 0 F3_e) := by
    unfold F3_j12
    refine Sim.seq ?_
    refine Sim.region [(4, .one (.ptr 4 0)), (6, .one (.ptr 6 0)), (7, .one (.ptr 7 0)), (9, .one (.ptr 9 0)), (10, .one (lb r6.2)), (11, .one (.ptr 11 0)), (12, .one (lb r7.2)), (13, .one (ls r8.1)), (14, .one (li .i64 r8.2)), (15, .one (ls s11))] ((4, some (.cells [li .i64 a0.ID, li .i64 a0.At.X, li .i64 a0.At.Y, li .i64 a0.F.a0.N, ls a0.F.a0.Text, li .i64 a0.F.a1.N, ls a0.F.a1.Text, li .i64 a0.F.a2.N, ls a0.F.a2.Text, li .i64 a0.F.a3.N, ls a0.F.a3.Text])) :: ((6, some (.cells [li .i64 a2.ID, li .u8 a2.Mask, li .i64 a2.At.X, li .i64 a2.At.Y, li .i64 a2.F.a0.N, ls a2.F.a0.Text, li .i64 a2.F.a1.N, ls a2.F.a1.Text, li .i64 a2.F.a2.N, ls a2.F.a2.Text, li .i64 a2.F.a3.N, ls a2.F.a3.Text])) :: ((7, some (.cells [li .i64 a3.N, ls a3.Text])) :: ((9, some (.cells [li .i64 r6.1.ID, li .u8 r6.1.Mask, li .i64 r6.1.At.X, li .i64 r6.1.At.Y, li .i64 r6.1.F.a0.N, ls r6.1.F.a0.Text, li .i64 r6.1.F.a1.N, ls r6.1.F.a1.Text, li .i64 r6.1.F.a2.N, ls r6.1.F.a2.Text, li .i64 r6.1.F.a3.N, ls r6.1.F.a3.Text])) :: ((11, some (.cells [li .i64 r7.1.ID, li .u8 r7.1.Mask, li .i64 r7.1.At.X, li .i64 r7.1.At.Y, li .i64 r7.1.F.a0.N, ls r7.1.F.a0.Text, li .i64 r7.1.F.a1.N, ls r7.1.F.a1.Text, li .i64 r7.1.F.a2.N, ls r7.1.F.a2.Text, li .i64 r7.1.F.a3.N, ls r7.1.F.a3.Text])) :: []))))) (by kernel_rfl) ?_
    refine SimI.run 4 [(60, .one (lb (r6.2 == r7.2))), (59, .one (lb (r6.2 == r7.2))), (58, .one (lb r7.2)), (57, .one (lb r6.2))] [] (by kernel_rfl) ?_
    refine SimI.split 60 (r6.2 == r7.2) (by kernel_rfl) ?_ ?_
    · refine SimI.run 3 [(63, .one (lb (!(r6.2)))), (62, .one (lb (!(r6.2)))), (61, .one (lb r6.2))] [] (by kernel_rfl) ?_
      refine SimI.split 63 (!(r6.2)) (by kernel_rfl) ?_ ?_
      · refine SimI.run 8 [(71, .agg [li .i64 a2.ID, li .u8 a2.Mask, li .i64 a2.At.X, li .i64 a2.At.Y, li .i64 a2.F.a0.N, ls a2.F.a0.Text, li .i64 a2.F.a1.N, ls a2.F.a1.Text, li .i64 a2.F.a2.N, ls a2.F.a2.Text, li .i64 a2.F.a3.N, ls a2.F.a3.Text]), (70, .agg [li .i64 a0.ID, li .i64 a0.At.X, li .i64 a0.At.Y, li .i64 a0.F.a0.N, ls a0.F.a0.Text, li .i64 a0.F.a1.N, ls a0.F.a1.Text, li .i64 a0.F.a2.N, ls a0.F.a2.Text, li .i64 a0.F.a3.N, ls a0.F.a3.Text]), (69, .one (lb true)), (68, .one (lb true)), (67, .one (lb true)), (66, .tup []), (65, .tup []), (64, .tup [])] [] (by kernel_rfl) ?_
        refine SimI.bind (og := F23 n a0 a2) { dst := some 72, op := POp.call false [[], []] 23 [Operand.tmp 70, Operand.tmp 71], guard := some (69, true), hints := [(70, Hint.imm), (71, Hint.imm)] } (fun r13 => [(72, .agg [li .i64 r13.ID, li .i64 r13.At.X, li .i64 r13.At.Y, li .i64 r13.F.a0.N, ls r13.F.a0.Text, li .i64 r13.F.a1.N, ls r13.F.a1.Text, li .i64 r13.F.a2.N, ls r13.F.a2.Text, li .i64 r13.F.a3.N, ls r13.F.a3.Text])]) (fun r13 => []) (by kernel_rfl) (fun r13 hr => pOp_eff (by kernel_rfl) (by kernel_rfl) (eff_call (ARGS := [.agg [li .i64 a0.ID, li .i64 a0.At.X, li .i64 a0.At.Y, li .i64 a0.F.a0.N, ls a0.F.a0.Text, li .i64 a0.F.a1.N, ls a0.F.a1.Text, li .i64 a0.F.a2.N, ls a0.F.a2.Text, li .i64 a0.F.a3.N, ls a0.F.a3.Text], .agg [li .i64 a2.ID, li .u8 a2.Mask, li .i64 a2.At.X, li .i64 a2.At.Y, li .i64 a2.F.a0.N, ls a2.F.a0.Text, li .i64 a2.F.a1.N, ls a2.F.a1.Text, li .i64 a2.F.a2.N, ls a2.F.a2.Text, li .i64 a2.F.a3.N, ls a2.F.a3.Text]]) (by kernel_rfl) (args_clean (by kernel_rfl) (args_clean (by kernel_rfl) args_nil)) (F23_ok n a0 a2 r13 hr) (by kernel_rfl))) (fun r13 => ?_)
        refine SimI.run 2 [(74, .agg [li .i64 a2.ID, li .u8 a2.Mask, li .i64 a2.At.X, li .i64 a2.At.Y, li .i64 a2.F.a0.N, ls a2.F.a0.Text, li .i64 a2.F.a1.N, ls a2.F.a1.Text, li .i64 a2.F.a2.N, ls a2.F.a2.Text, li .i64 a2.F.a3.N, ls a2.F.a3.Text]), (73, .agg [li .i64 a0.ID, li .i64 a0.At.X, li .i64 a0.At.Y, li .i64 a0.F.a0.N, ls a0.F.a0.Text, li .i64 a0.F.a1.N, ls a0.F.a1.Text, li .i64 a0.F.a2.N, ls a0.F.a2.Text, li .i64 a0.F.a3.N, ls a0.F.a3.Text])] [] (by kernel_rfl) ?_
        refine SimI.bind (og := F24 n a0 a2) { dst := some 75, op := POp.call false [[], []] 24 [Operand.tmp 73, Operand.tmp 74], guard := some (69, true), hints := [(73, Hint.imm), (74, Hint.imm)] } (fun r14 => [(75, .agg [li .i64 r14.ID, li .i64 r14.At.X, li .i64 r14.At.Y, li .i64 r14.F.a0.N, ls r14.F.a0.Text, li .i64 r14.F.a1.N, ls r14.F.a1.Text, li .i64 r14.F.a2.N, ls r14.F.a2.Text, li .i64 r14.F.a3.N, ls r14.F.a3.Text])]) (fun r14 => []) (by kernel_rfl) (fun r14 hr => pOp_eff (by kernel_rfl) (by kernel_rfl) (eff_call (ARGS := [.agg [li .i64 a0.ID, li .i64 a0.At.X, li .i64 a0.At.Y, li .i64 a0.F.a0.N, ls a0.F.a0.Text, li .i64 a0.F.a1.N, ls a0.F.a1.Text, li .i64 a0.F.a2.N, ls a0.F.a2.Text, li .i64 a0.F.a3.N, ls a0.F.a3.Text], .agg [li .i64 a2.ID, li .u8 a2.Mask, li .i64 a2.At.X, li .i64 a2.At.Y, li .i64 a2.F.a0.N, ls a2.F.a0.Text, li .i64 a2.F.a1.N, ls a2.F.a1.Text, li .i64 a2.F.a2.N, ls a2.F.a2.Text, li .i64 a2.F.a3.N, ls a2.F.a3.Text]]) (by kernel_rfl) (args_clean (by kernel_rfl) (args_clean (by kernel_rfl) args_nil)) (F24_ok n a0 a2 r14 hr) (by kernel_rfl))) (fun r14 => ?_)
        refine SimI.step { dst := some 76, op := POp.prim (Prim.bin BinOp.eql 28 false false) [Operand.tmp 72, Operand.tmp 75], guard := some (69, true), hints := [(72, Hint.imm), (75, Hint.imm)] } [(76, .one (lb (Thing.eqb r13 r14)))] [] (by kernel_rfl) (pOp_eff (by kernel_rfl) (by kernel_rfl) (eff_prim (by kernel_rfl) (Thing_eql r13 r14 _ _))) ?_
        refine SimI.run 2 [(78, .one (lb (Thing.eqb r13 r14))), (77, .one (lb (Thing.eqb r13 r14)))] [] (by kernel_rfl) ?_
        refine SimI.split 78 (Thing.eqb r13 r14) (by kernel_rfl) ?_ ?_
        · refine SimI.run 1 [(79, .agg [li .i64 a2.ID, li .u8 a2.Mask, li .i64 a2.At.X, li .i64 a2.At.Y, li .i64 a2.F.a0.N, ls a2.F.a0.Text, li .i64 a2.F.a1.N, ls a2.F.a1.Text, li .i64 a2.F.a2.N, ls a2.F.a2.Text, li .i64 a2.F.a3.N, ls a2.F.a3.Text])] [] (by kernel_rfl) ?_
          refine SimI.bind (og := F25 n a2) { dst := some 80, op := POp.call false [[]] 25 [Operand.tmp 79], guard := some (78, true), hints := [(79, Hint.imm)] } (fun r15 => [(80, .one (lb r15))]) (fun r15 => []) (by kernel_rfl) (fun r15 hr => pOp_eff (by kernel_rfl) (by kernel_rfl) (eff_call (ARGS := [.agg [li .i64 a2.ID, li .u8 a2.Mask, li .i64 a2.At.X, li .i64 a2.At.Y, li .i64 a2.F.a0.N, ls a2.F.a0.Text, li .i64 a2.F.a1.N, ls a2.F.a1.Text, li .i64 a2.F.a2.N, ls a2.F.a2.Text, li .i64 a2.F.a3.N, ls a2.F.a3.Text]]) (by kernel_rfl) (args_clean (by kernel_rfl) args_nil) (F25_ok n a2 r15 hr) (by kernel_rfl))) (fun r15 => ?_)
          refine SimI.run 1 [(81, .agg [li .i64 a2.ID, li .u8 a2.Mask, li .i64 a2.At.X, li .i64 a2.At.Y, li .i64 a2.F.a0.N, ls a2.F.a0.Text, li .i64 a2.F.a1.N, ls a2.F.a1.Text, li .i64 a2.F.a2.N, ls a2.F.a2.Text, li .i64 a2.F.a3.N, ls a2.F.a3.Text])] [] (by kernel_rfl) ?_
          refine SimI.bind (og := F21 n a2) { dst := some 82, op := POp.call false [[]] 21 [Operand.tmp 81], guard := some (78, true), hints := [(81, Hint.imm)] } (fun r16 => [(82, .one (lb r16))]) (fun r16 => []) (by kernel_rfl) (fun r16 hr => pOp_eff (by kernel_rfl) (by kernel_rfl) (eff_call (ARGS := [.agg [li .i64 a2.ID, li .u8 a2.Mask, li .i64 a2.At.X, li .i64 a2.At.Y, li .i64 a2.F.a0.N, ls a2.F.a0.Text, li .i64 a2.F.a1.N, ls a2.F.a1.Text, li .i64 a2.F.a2.N, ls a2.F.a2.Text, li .i64 a2.F.a3.N, ls a2.F.a3.Text]]) (by kernel_rfl) (args_clean (by kernel_rfl) args_nil) (F21_ok n a2 r16 hr) (by kernel_rfl))) (fun r16 => ?_)
          refine SimI.run 3 [(85, .one (lb (r15 == r16))), (84, .one (lb (r15 == r16))), (83, .one (lb (r15 == r16)))] [] (by kernel_rfl) ?_
          refine SimI.split 85 (r15 == r16) (by kernel_rfl) ?_ ?_
          · refine SimI.run 1 [(86, .agg [li .i64 a3.N, ls a3.Text])] [] (by kernel_rfl) ?_
            refine SimI.bind (og := F26 n a3) { dst := some 87, op := POp.call false [[]] 26 [Operand.tmp 86], guard := some (85, true), hints := [(86, Hint.imm)] } (fun r17 => [(87, .one (lb r17))]) (fun r17 => []) (by kernel_rfl) (fun r17 hr => pOp_eff (by kernel_rfl) (by kernel_rfl) (eff_call (ARGS := [.agg [li .i64 a3.N, ls a3.Text]]) (by kernel_rfl) (args_clean (by kernel_rfl) args_nil) (F26_ok n a3 r17 hr) (by kernel_rfl))) (fun r17 => ?_)
            refine SimI.run 1 [(88, .agg [li .i64 a3.N, ls a3.Text])] [] (by kernel_rfl) ?_
            refine SimI.bind (og := F27 n a3) { dst := some 89, op := POp.call false [[]] 27 [Operand.tmp 88], guard := some (85, true), hints := [(88, Hint.imm)] } (fun r18 => [(89, .one (lb r18))]) (fun r18 => []) (by kernel_rfl) (fun r18 hr => pOp_eff (by kernel_rfl) (by kernel_rfl) (eff_call (ARGS := [.agg [li .i64 a3.N, ls a3.Text]]) (by kernel_rfl) (args_clean (by kernel_rfl) args_nil) (F27_ok n a3 r18 hr) (by kernel_rfl))) (fun r18 => ?_)
            refine SimI.run 3 [(92, .one (lb (r17 == r18))), (91, .one (lb (r17 == r18))), (90, .one (lb (r17 == r18)))] [] (by kernel_rfl) ?_
            refine SimI.split 92 (r17 == r18) (by kernel_rfl) ?_ ?_
            · refine SimI.run 5 [(97, .one (lb (r8.1.toList == s11.toList))), (96, .one (lb (r8.1.toList == s11.toList))), (95, .one (lb (r8.1.toList == s11.toList))), (94, .one (ls s11)), (93, .one (ls r8.1))] [] (by kernel_rfl) ?_
              refine SimI.split 97 (r8.1.toList == s11.toList) (by kernel_rfl) ?_ ?_
              · refine SimI.run 3 [(100, .agg [li .i64 a2.ID, li .u8 a2.Mask, li .i64 a2.At.X, li .i64 a2.At.Y, li .i64 a2.F.a0.N, ls a2.F.a0.Text, li .i64 a2.F.a1.N, ls a2.F.a1.Text, li .i64 a2.F.a2.N, ls a2.F.a2.Text, li .i64 a2.F.a3.N, ls a2.F.a3.Text]), (99, .one (lb (r8.2 == 0))), (98, .one (li .i64 r8.2))] [] (by kernel_rfl) ?_
                refine SimI.bind (og := F21 n a2) { dst := some 101, op := POp.call false [[]] 21 [Operand.tmp 100], guard := some (97, true), hints := [(100, Hint.imm)] } (fun r19 => [(101, .one (lb r19))]) (fun r19 => []) (by kernel_rfl) (fun r19 hr => pOp_eff (by kernel_rfl) (by kernel_rfl) (eff_call (ARGS := [.agg [li .i64 a2.ID, li .u8 a2.Mask, li .i64 a2.At.X, li .i64 a2.At.Y, li .i64 a2.F.a0.N, ls a2.F.a0.Text, li .i64 a2.F.a1.N, ls a2.F.a1.Text, li .i64 a2.F.a2.N, ls a2.F.a2.Text, li .i64 a2.F.a3.N, ls a2.F.a3.Text]]) (by kernel_rfl) (args_clean (by kernel_rfl) args_nil) (F21_ok n a2 r19 hr) (by kernel_rfl))) (fun r19 => ?_)
                refine SimI.run 3 [(104, .one (lb ((r8.2 == 0) == r19))), (103, .one (lb ((r8.2 == 0) == r19))), (102, .one (lb ((r8.2 == 0) == r19)))] [] (by kernel_rfl) ?_
                refine SimI.split 104 ((r8.2 == 0) == r19) (by kernel_rfl) ?_ ?_
                · refine SimI.run 3 [(107, .one (lb (r8.2 == 0))), (106, .one (lb (r8.2 == 0))), (105, .one (li .i64 r8.2))] [] (by kernel_rfl) ?_
                  refine SimI.split 107 (r8.2 == 0) (by kernel_rfl) ?_ ?_
                  · refine SimI.run 7 [(114, .agg [li .i64 r6.1.ID, li .u8 r6.1.Mask, li .i64 r6.1.At.X, li .i64 r6.1.At.Y, li .i64 r6.1.F.a0.N, ls r6.1.F.a0.Text, li .i64 r6.1.F.a1.N, ls r6.1.F.a1.Text, li .i64 r6.1.F.a2.N, ls r6.1.F.a2.Text, li .i64 r6.1.F.a3.N, ls r6.1.F.a3.Text]), (113, .agg [li .i64 a2.ID, li .u8 a2.Mask, li .i64 a2.At.X, li .i64 a2.At.Y, li .i64 a2.F.a0.N, ls a2.F.a0.Text, li .i64 a2.F.a1.N, ls a2.F.a1.Text, li .i64 a2.F.a2.N, ls a2.F.a2.Text, li .i64 a2.F.a3.N, ls a2.F.a3.Text]), (112, .one (lb true)), (111, .one (lb true)), (110, .one (lb true)), (109, .tup []), (108, .tup [])] [] (by kernel_rfl) ?_
                    refine SimI.bind (og := F28 n a2 r6.1) { dst := some 115, op := POp.call false [[], []] 28 [Operand.tmp 113, Operand.tmp 114], guard := some (112, true), hints := [(113, Hint.imm), (114, Hint.imm)] } (fun r20 => [(115, .one (lb r20))]) (fun r20 => []) (by kernel_rfl) (fun r20 hr => pOp_eff (by kernel_rfl) (by kernel_rfl) (eff_call (ARGS := [.agg [li .i64 a2.ID, li .u8 a2.Mask, li .i64 a2.At.X, li .i64 a2.At.Y, li .i64 a2.F.a0.N, ls a2.F.a0.Text, li .i64 a2.F.a1.N, ls a2.F.a1.Text, li .i64 a2.F.a2.N, ls a2.F.a2.Text, li .i64 a2.F.a3.N, ls a2.F.a3.Text], .agg [li .i64 r6.1.ID, li .u8 r6.1.Mask, li .i64 r6.1.At.X, li .i64 r6.1.At.Y, li .i64 r6.1.F.a0.N, ls r6.1.F.a0.Text, li .i64 r6.1.F.a1.N, ls r6.1.F.a1.Text, li .i64 r6.1.F.a2.N, ls r6.1.F.a2.Text, li .i64 r6.1.F.a3.N, ls r6.1.F.a3.Text]]) (by kernel_rfl) (args_clean (by kernel_rfl) (args_clean (by kernel_rfl) args_nil)) (F28_ok n a2 r6.1 r20 hr) (by kernel_rfl))) (fun r20 => ?_)
                    refine SimI.run 2 [(117, .agg [li .i64 r6.1.ID, li .u8 r6.1.Mask, li .i64 r6.1.At.X, li .i64 r6.1.At.Y, li .i64 r6.1.F.a0.N, ls r6.1.F.a0.Text, li .i64 r6.1.F.a1.N, ls r6.1.F.a1.Text, li .i64 r6.1.F.a2.N, ls r6.1.F.a2.Text, li .i64 r6.1.F.a3.N, ls r6.1.F.a3.Text]), (116, .agg [li .i64 a2.ID, li .u8 a2.Mask, li .i64 a2.At.X, li .i64 a2.At.Y, li .i64 a2.F.a0.N, ls a2.F.a0.Text, li .i64 a2.F.a1.N, ls a2.F.a1.Text, li .i64 a2.F.a2.N, ls a2.F.a2.Text, li .i64 a2.F.a3.N, ls a2.F.a3.Text])] [] (by kernel_rfl) ?_
                    refine SimI.step { dst := some 118, op := POp.prim (Prim.bin BinOp.eql 30 false false) [Operand.tmp 116, Operand.tmp 117], guard := some (112, true), hints := [(116, Hint.imm), (117, Hint.imm)] } [(118, .one (lb (Delta.eqb a2 r6.1)))] [] (by kernel_rfl) (pOp_eff (by kernel_rfl) (by kernel_rfl) (eff_prim (by kernel_rfl) (Delta_eql a2 r6.1 _ _))) ?_
                    refine SimI.run 3 [(8, .one (lb (r20 == (Delta.eqb a2 r6.1)))), (120, .one (lb (r20 == (Delta.eqb a2 r6.1)))), (119, .one (lb (r20 == (Delta.eqb a2 r6.1))))] [] (by kernel_rfl) ?_
                    refine SimI.done (by kernel_rfl) ?_
                    refine SimE.thenN ?_
                    refine Sim.ret ?_
                    exact SimE.fin (by kernel_rfl)
                  · refine SimI.run 5 [(112, .one (lb (r8.2 == 11))), (111, .one (lb (r8.2 == 11))), (110, .one (lb (r8.2 == 11))), (109, .one (lb (r8.2 == 11))), (108, .one (li .i64 r8.2))] [] (by kernel_rfl) ?_
                    refine SimI.split 112 (r8.2 == 11) (by kernel_rfl) ?_ ?_
                    · refine SimI.run 2 [(114, .agg [li .i64 r6.1.ID, li .u8 r6.1.Mask, li .i64 r6.1.At.X, li .i64 r6.1.At.Y, li .i64 r6.1.F.a0.N, ls r6.1.F.a0.Text, li .i64 r6.1.F.a1.N, ls r6.1.F.a1.Text, li .i64 r6.1.F.a2.N, ls r6.1.F.a2.Text, li .i64 r6.1.F.a3.N, ls r6.1.F.a3.Text]), (113, .agg [li .i64 a2.ID, li .u8 a2.Mask, li .i64 a2.At.X, li .i64 a2.At.Y, li .i64 a2.F.a0.N, ls a2.F.a0.Text, li .i64 a2.F.a1.N, ls a2.F.a1.Text, li .i64 a2.F.a2.N, ls a2.F.a2.Text, li .i64 a2.F.a3.N, ls a2.F.a3.Text])] [] (by kernel_rfl) ?_
                      refine SimI.bind (og := F28 n a2 r6.1) { dst := some 115, op := POp.call false [[], []] 28 [Operand.tmp 113, Operand.tmp 114], guard := some (112, true), hints := [(113, Hint.imm), (114, Hint.imm)] } (fun r21 => [(115, .one (lb r21))]) (fun r21 => []) (by kernel_rfl) (fun r21 hr => pOp_eff (by kernel_rfl) (by kernel_rfl) (eff_call (ARGS := [.agg [li .i64 a2.ID, li .u8 a2.Mask, li .i64 a2.At.X, li .i64 a2.At.Y, li .i64 a2.F.a0.N, ls a2.F.a0.Text, li .i64 a2.F.a1.N, ls a2.F.a1.Text, li .i64 a2.F.a2.N, ls a2.F.a2.Text, li .i64 a2.F.a3.N, ls a2.F.a3.Text], .agg [li .i64 r6.1.ID, li .u8 r6.1.Mask, li .i64 r6.1.At.X, li .i64 r6.1.At.Y, li .i64 r6.1.F.a0.N, ls r6.1.F.a0.Text, li .i64 r6.1.F.a1.N, ls r6.1.F.a1.Text, li .i64 r6.1.F.a2.N, ls r6.1.F.a2.Text, li .i64 r6.1.F.a3.N, ls r6.1.F.a3.Text]]) (by kernel_rfl) (args_clean (by kernel_rfl) (args_clean (by kernel_rfl) args_nil)) (F28_ok n a2 r6.1 r21 hr) (by kernel_rfl))) (fun r21 => ?_)
                      refine SimI.run 2 [(117, .agg [li .i64 r6.1.ID, li .u8 r6.1.Mask, li .i64 r6.1.At.X, li .i64 r6.1.At.Y, li .i64 r6.1.F.a0.N, ls r6.1.F.a0.Text, li .i64 r6.1.F.a1.N, ls r6.1.F.a1.Text, li .i64 r6.1.F.a2.N, ls r6.1.F.a2.Text, li .i64 r6.1.F.a3.N, ls r6.1.F.a3.Text]), (116, .agg [li .i64 a2.ID, li .u8 a2.Mask, li .i64 a2.At.X, li .i64 a2.At.Y, li .i64 a2.F.a0.N, ls a2.F.a0.Text, li .i64 a2.F.a1.N, ls a2.F.a1.Text, li .i64 a2.F.a2.N, ls a2.F.a2.Text, li .i64 a2.F.a3.N, ls a2.F.a3.Text])] [] (by kernel_rfl) ?_
                      refine SimI.step { dst := some 118, op := POp.prim (Prim.bin BinOp.eql 30 false false) [Operand.tmp 116, Operand.tmp 117], guard := some (112, true), hints := [(116, Hint.imm), (117, Hint.imm)] } [(118, .one (lb (Delta.eqb a2 r6.1)))] [] (by kernel_rfl) (pOp_eff (by kernel_rfl) (by kernel_rfl) (eff_prim (by kernel_rfl) (Delta_eql a2 r6.1 _ _))) ?_
                      refine SimI.run 3 [(8, .one (lb (r21 == (Delta.eqb a2 r6.1)))), (120, .one (lb (r21 == (Delta.eqb a2 r6.1)))), (119, .one (lb (r21 == (Delta.eqb a2 r6.1))))] [] (by kernel_rfl) ?_
                      refine SimI.done (by kernel_rfl) ?_
                      refine SimE.thenN ?_
                      refine Sim.ret ?_
                      exact SimE.fin (by kernel_rfl)
                    · refine SimI.run 9 [(8, .one (lb false)), (120, .one (lb false)), (119, .tup []), (118, .tup []), (117, .tup []), (116, .tup []), (115, .tup []), (114, .tup []), (113, .tup [])] [] (by kernel_rfl) ?_
                      refine SimI.done (by kernel_rfl) ?_
                      refine SimE.thenN ?_
                      refine Sim.ret ?_
                      exact SimE.fin (by kernel_rfl)
                · refine SimI.run 17 [(8, .one (lb false)), (120, .one (lb false)), (119, .tup []), (118, .tup []), (117, .tup []), (116, .tup []), (115, .tup []), (114, .tup []), (113, .tup []), (112, .one (lb false)), (111, .one (lb false)), (110, .tup []), (109, .tup []), (108, .tup []), (107, .tup []), (106, .tup []), (105, .tup [])] [] (by kernel_rfl) ?_
                  refine SimI.done (by kernel_rfl) ?_
                  refine SimE.thenN ?_
                  refine Sim.ret ?_
                  exact SimE.fin (by kernel_rfl)
              · refine SimI.run 24 [(8, .one (lb false)), (120, .one (lb false)), (119, .tup []), (118, .tup []), (117, .tup []), (116, .tup []), (115, .tup []), (114, .tup []), (113, .tup []), (112, .one (lb false)), (111, .one (lb false)), (110, .tup []), (109, .tup []), (108, .tup []), (107, .tup []), (106, .tup []), (105, .tup []), (104, .one (lb false)), (103, .one (lb false)), (102, .tup []), (101, .tup []), (100, .tup []), (99, .tup []), (98, .tup [])] [] (by kernel_rfl) ?_
                refine SimI.done (by kernel_rfl) ?_
                refine SimE.thenN ?_
                refine Sim.ret ?_
                exact SimE.fin (by kernel_rfl)
            · refine SimI.run 29 [(8, .one (lb false)), (120, .one (lb false)), (119, .tup []), (118, .tup []), (117, .tup []), (116, .tup []), (115, .tup []), (114, .tup []), (113, .tup []), (112, .one (lb false)), (111, .one (lb false)), (110, .tup []), (109, .tup []), (108, .tup []), (107, .tup []), (106, .tup []), (105, .tup []), (104, .one (lb false)), (103, .one (lb false)), (102, .tup []), (101, .tup []), (100, .tup []), (99, .tup []), (98, .tup []), (97, .one (lb false)), (96, .one (lb false)), (95, .tup []), (94, .tup []), (93, .tup [])] [] (by kernel_rfl) ?_
              refine SimI.done (by kernel_rfl) ?_
              refine SimE.thenN ?_
              refine Sim.ret ?_
              exact SimE.fin (by kernel_rfl)
          · refine SimI.run 36 [(8, .one (lb false)), (120, .one (lb false)), (119, .tup []), (118, .tup []), (117, .tup []), (116, .tup []), (115, .tup []), (114, .tup []), (113, .tup []), (112, .one (lb false)), (111, .one (lb false)), (110, .tup []), (109, .tup []), (108, .tup []), (107, .tup []), (106, .tup []), (105, .tup []), (104, .one (lb false)), (103, .one (lb false)), (102, .tup []), (101, .tup []), (100, .tup []), (99, .tup []), (98, .tup []), (97, .one (lb false)), (96, .one (lb false)), (95, .tup []), (94, .tup []), (93, .tup []), (92, .one (lb false)), (91, .one (lb false)), (90, .tup []), (89, .tup []), (88, .tup []), (87, .tup []), (86, .tup [])] [] (by kernel_rfl) ?_
            refine SimI.done (by kernel_rfl) ?_
            refine SimE.thenN ?_
            refine Sim.ret ?_
            exact SimE.fin (by kernel_rfl)
        · refine SimI.run 43 [(8, .one (lb false)), (120, .one (lb false)), (119, .tup []), (118, .tup []), (117, .tup []), (116, .tup []), (115, .tup []), (114, .tup []), (113, .tup []), (112, .one (lb false)), (111, .one (lb false)), (110, .tup []), (109, .tup []), (108, .tup []), (107, .tup []), (106, .tup []), (105, .tup []), (104, .one (lb false)), (103, .one (lb false)), (102, .tup []), (101, .tup []), (100, .tup []), (99, .tup []), (98, .tup []), (97, .one (lb false)), (96, .one (lb false)), (95, .tup []), (94, .tup []), (93, .tup []), (92, .one (lb false)), (91, .one (lb false)), (90, .tup []), (89, .tup []), (88, .tup []), (87, .tup []), (86, .tup []), (85, .one (lb false)), (84, .one (lb false)), (83, .tup []), (82, .tup []), (81, .tup []), (80, .tup []), (79, .tup [])] [] (by kernel_rfl) ?_
          refine SimI.done (by kernel_rfl) ?_
          refine SimE.thenN ?_
          refine Sim.ret ?_
          exact SimE.fin (by kernel_rfl)
      · refine SimI.run 2 [(65, .agg [li .i64 r7.1.ID, li .u8 r7.1.Mask, li .i64 r7.1.At.X, li .i64 r7.1.At.Y, li .i64 r7.1.F.a0.N, ls r7.1.F.a0.Text, li .i64 r7.1.F.a1.N, ls r7.1.F.a1.Text, li .i64 r7.1.F.a2.N, ls r7.1.F.a2.Text, li .i64 r7.1.F.a3.N, ls r7.1.F.a3.Text]), (64, .agg [li .i64 r6.1.ID, li .u8 r6.1.Mask, li .i64 r6.1.At.X, li .i64 r6.1.At.Y, li .i64 r6.1.F.a0.N, ls r6.1.F.a0.Text, li .i64 r6.1.F.a1.N, ls r6.1.F.a1.Text, li .i64 r6.1.F.a2.N, ls r6.1.F.a2.Text, li .i64 r6.1.F.a3.N, ls r6.1.F.a3.Text])] [] (by kernel_rfl) ?_
        refine SimI.step { dst := some 66, op := POp.prim (Prim.bin BinOp.eql 30 false false) [Operand.tmp 64, Operand.tmp 65], guard := some (63, false), hints := [(64, Hint.imm), (65, Hint.imm)] } [(66, .one (lb (Delta.eqb r6.1 r7.1)))] [] (by kernel_rfl) (pOp_eff (by kernel_rfl) (by kernel_rfl) (eff_prim (by kernel_rfl) (Delta_eql r6.1 r7.1 _ _))) ?_
        refine SimI.run 3 [(69, .one (lb (Delta.eqb r6.1 r7.1))), (68, .one (lb (Delta.eqb r6.1 r7.1))), (67, .one (lb (Delta.eqb r6.1 r7.1)))] [] (by kernel_rfl) ?_
        refine SimI.split 69 (Delta.eqb r6.1 r7.1) (by kernel_rfl) ?_ ?_
        · refine SimI.run 2 [(71, .agg [li .i64 a2.ID, li .u8 a2.Mask, li .i64 a2.At.X, li .i64 a2.At.Y, li .i64 a2.F.a0.N, ls a2.F.a0.Text, li .i64 a2.F.a1.N, ls a2.F.a1.Text, li .i64 a2.F.a2.N, ls a2.F.a2.Text, li .i64 a2.F.a3.N, ls a2.F.a3.Text]), (70, .agg [li .i64 a0.ID, li .i64 a0.At.X, li .i64 a0.At.Y, li .i64 a0.F.a0.N, ls a0.F.a0.Text, li .i64 a0.F.a1.N, ls a0.F.a1.Text, li .i64 a0.F.a2.N, ls a0.F.a2.Text, li .i64 a0.F.a3.N, ls a0.F.a3.Text])] [] (by kernel_rfl) ?_
          refine SimI.bind (og := F23 n a0 a2) { dst := some 72, op := POp.call false [[], []] 23 [Operand.tmp 70, Operand.tmp 71], guard := some (69, true), hints := [(70, Hint.imm), (71, Hint.imm)] } (fun r22 => [(72, .agg [li .i64 r22.ID, li .i64 r22.At.X, li .i64 r22.At.Y, li .i64 r22.F.a0.N, ls r22.F.a0.Text, li .i64 r22.F.a1.N, ls r22.F.a1.Text, li .i64 r22.F.a2.N, ls r22.F.a2.Text, li .i64 r22.F.a3.N, ls r22.F.a3.Text])]) (fun r22 => []) (by kernel_rfl) (fun r22 hr => pOp_eff (by kernel_rfl) (by kernel_rfl) (eff_call (ARGS := [.agg [li .i64 a0.ID, li .i64 a0.At.X, li .i64 a0.At.Y, li .i64 a0.F.a0.N, ls a0.F.a0.Text, li .i64 a0.F.a1.N, ls a0.F.a1.Text, li .i64 a0.F.a2.N, ls a0.F.a2.Text, li .i64 a0.F.a3.N, ls a0.F.a3.Text], .agg [li .i64 a2.ID, li .u8 a2.Mask, li .i64 a2.At.X, li .i64 a2.At.Y, li .i64 a2.F.a0.N, ls a2.F.a0.Text, li .i64 a2.F.a1.N, ls a2.F.a1.Text, li .i64 a2.F.a2.N, ls a2.F.a2.Text, li .i64 a2.F.a3.N, ls a2.F.a3.Text]]) (by kernel_rfl) (args_clean (by kernel_rfl) (args_clean (by kernel_rfl) args_nil)) (F23_ok n a0 a2 r22 hr) (by kernel_rfl))) (fun r22 => ?_)
          refine SimI.run 2 [(74, .agg [li .i64 a2.ID, li .u8 a2.Mask, li .i64 a2.At.X, li .i64 a2.At.Y, li .i64 a2.F.a0.N, ls a2.F.a0.Text, li .i64 a2.F.a1.N, ls a2.F.a1.Text, li .i64 a2.F.a2.N, ls a2.F.a2.Text, li .i64 a2.F.a3.N, ls a2.F.a3.Text]), (73, .agg [li .i64 a0.ID, li .i64 a0.At.X, li .i64 a0.At.Y, li .i64 a0.F.a0.N, ls a0.F.a0.Text, li .i64 a0.F.a1.N, ls a0.F.a1.Text, li .i64 a0.F.a2.N, ls a0.F.a2.Text, li .i64 a0.F.a3.N, ls a0.F.a3.Text])] [] (by kernel_rfl) ?_
          refine SimI.bind (og := F24 n a0 a2) { dst := some 75, op := POp.call false [[], []] 24 [Operand.tmp 73, Operand.tmp 74], guard := some (69, true), hints := [(73, Hint.imm), (74, Hint.imm)] } (fun r23 => [(75, .agg [li .i64 r23.ID, li .i64 r23.At.X, li .i64 r23.At.Y, li .i64 r23.F.a0.N, ls r23.F.a0.Text, li .i64 r23.F.a1.N, ls r23.F.a1.Text, li .i64 r23.F.a2.N, ls r23.F.a2.Text, li .i64 r23.F.a3.N, ls r23.F.a3.Text])]) (fun r23 => []) (by kernel_rfl) (fun r23 hr => pOp_eff (by kernel_rfl) (by kernel_rfl) (eff_call (ARGS := [.agg [li .i64 a0.ID, li .i64 a0.At.X, li .i64 a0.At.Y, li .i64 a0.F.a0.N, ls a0.F.a0.Text, li .i64 a0.F.a1.N, ls a0.F.a1.Text, li .i64 a0.F.a2.N, ls a0.F.a2.Text, li .i64 a0.F.a3.N, ls a0.F.a3.Text], .agg [li .i64 a2.ID, li .u8 a2.Mask, li .i64 a2.At.X, li .i64 a2.At.Y, li .i64 a2.F.a0.N, ls a2.F.a0.Text, li .i64 a2.F.a1.N, ls a2.F.a1.Text, li .i64 a2.F.a2.N, ls a2.F.a2.Text, li .i64 a2.F.a3.N, ls a2.F.a3.Text]]) (by kernel_rfl) (args_clean (by kernel_rfl) (args_clean (by kernel_rfl) args_nil)) (F24_ok n a0 a2 r23 hr) (by kernel_rfl))) (fun r23 => ?_)
          refine SimI.step { dst := some 76, op := POp.prim (Prim.bin BinOp.eql 28 false false) [Operand.tmp 72, Operand.tmp 75], guard := some (69, true), hints := [(72, Hint.imm), (75, Hint.imm)] } [(76, .one (lb (Thing.eqb r22 r23)))] [] (by kernel_rfl) (pOp_eff (by kernel_rfl) (by kernel_rfl) (eff_prim (by kernel_rfl) (Thing_eql r22 r23 _ _))) ?_
          refine SimI.run 2 [(78, .one (lb (Thing.eqb r22 r23))), (77, .one (lb (Thing.eqb r22 r23)))] [] (by kernel_rfl) ?_
          refine SimI.split 78 (Thing.eqb r22 r23) (by kernel_rfl) ?_ ?_
          · refine SimI.run 1 [(79, .agg [li .i64 a2.ID, li .u8 a2.Mask, li .i64 a2.At.X, li .i64 a2.At.Y, li .i64 a2.F.a0.N, ls a2.F.a0.Text, li .i64 a2.F.a1.N, ls a2.F.a1.Text, li .i64 a2.F.a2.N, ls a2.F.a2.Text, li .i64 a2.F.a3.N, ls a2.F.a3.Text])] [] (by kernel_rfl) ?_
            refine SimI.bind (og := F25 n a2) { dst := some 80, op := POp.call false [[]] 25 [Operand.tmp 79], guard := some (78, true), hints := [(79, Hint.imm)] } (fun r24 => [(80, .one (lb r24))]) (fun r24 => []) (by kernel_rfl) (fun r24 hr => pOp_eff (by kernel_rfl) (by kernel_rfl) (eff_call (ARGS := [.agg [li .i64 a2.ID, li .u8 a2.Mask, li .i64 a2.At.X, li .i64 a2.At.Y, li .i64 a2.F.a0.N, ls a2.F.a0.Text, li .i64 a2.F.a1.N, ls a2.F.a1.Text, li .i64 a2.F.a2.N, ls a2.F.a2.Text, li .i64 a2.F.a3.N, ls a2.F.a3.Text]]) (by kernel_rfl) (args_clean (by kernel_rfl) args_nil) (F25_ok n a2 r24 hr) (by kernel_rfl))) (fun r24 => ?_)
            refine SimI.run 1 [(81, .agg [li .i64 a2.ID, li .u8 a2.Mask, li .i64 a2.At.X, li .i64 a2.At.Y, li .i64 a2.F.a0.N, ls a2.F.a0.Text, li .i64 a2.F.a1.N, ls a2.F.a1.Text, li .i64 a2.F.a2.N, ls a2.F.a2.Text, li .i64 a2.F.a3.N, ls a2.F.a3.Text])] [] (by kernel_rfl) ?_
            refine SimI.bind (og := F21 n a2) { dst := some 82, op := POp.call false [[]] 21 [Operand.tmp 81], guard := some (78, true), hints := [(81, Hint.imm)] } (fun r25 => [(82, .one (lb r25))]) (fun r25 => []) (by kernel_rfl) (fun r25 hr => pOp_eff (by kernel_rfl) (by kernel_rfl) (eff_call (ARGS := [.agg [li .i64 a2.ID, li .u8 a2.Mask, li .i64 a2.At.X, li .i64 a2.At.Y, li .i64 a2.F.a0.N, ls a2.F.a0.Text, li .i64 a2.F.a1.N, ls a2.F.a1.Text, li .i64 a2.F.a2.N, ls a2.F.a2.Text, li .i64 a2.F.a3.N, ls a2.F.a3.Text]]) (by kernel_rfl) (args_clean (by kernel_rfl) args_nil) (F21_ok n a2 r25 hr) (by kernel_rfl))) (fun r25 => ?_)
            refine SimI.run 3 [(85, .one (lb (r24 == r25))), (84, .one (lb (r24 == r25))), (83, .one (lb (r24 == r25)))] [] (by kernel_rfl) ?_
            refine SimI.split 85 (r24 == r25) (by kernel_rfl) ?_ ?_
            · refine SimI.run 1 [(86, .agg [li .i64 a3.N, ls a3.Text])] [] (by kernel_rfl) ?_
              refine SimI.bind (og := F26 n a3) { dst := some 87, op := POp.call false [[]] 26 [Operand.tmp 86], guard := some (85, true), hints := [(86, Hint.imm)] } (fun r26 => [(87, .one (lb r26))]) (fun r26 => []) (by kernel_rfl) (fun r26 hr => pOp_eff (by kernel_rfl) (by kernel_rfl) (eff_call (ARGS := [.agg [li .i64 a3.N, ls a3.Text]]) (by kernel_rfl) (args_clean (by kernel_rfl) args_nil) (F26_ok n a3 r26 hr) (by kernel_rfl))) (fun r26 => ?_)
              refine SimI.run 1 [(88, .agg [li .i64 a3.N, ls a3.Text])] [] (by kernel_rfl) ?_
              refine SimI.bind (og := F27 n a3) { dst := some 89, op := POp.call false [[]] 27 [Operand.tmp 88], guard := some (85, true), hints := [(88, Hint.imm)] } (fun r27 => [(89, .one (lb r27))]) (fun r27 => []) (by kernel_rfl) (fun r27 hr => pOp_eff (by kernel_rfl) (by kernel_rfl) (eff_call (ARGS := [.agg [li .i64 a3.N, ls a3.Text]]) (by kernel_rfl) (args_clean (by kernel_rfl) args_nil) (F27_ok n a3 r27 hr) (by kernel_rfl))) (fun r27 => ?_)
              refine SimI.run 3 [(92, .one (lb (r26 == r27))), (91, .one (lb (r26 == r27))), (90, .one (lb (r26 == r27)))] [] (by kernel_rfl) ?_
              refine SimI.split 92 (r26 == r27) (by kernel_rfl) ?_ ?_
              · refine SimI.run 5 [(97, .one (lb (r8.1.toList == s11.toList))), (96, .one (lb (r8.1.toList == s11.toList))), (95, .one (lb (r8.1.toList == s11.toList))), (94, .one (ls s11)), (93, .one (ls r8.1))] [] (by kernel_rfl) ?_
                refine SimI.split 97 (r8.1.toList == s11.toList) (by kernel_rfl) ?_ ?_
                · refine SimI.run 3 [(100, .agg [li .i64 a2.ID, li .u8 a2.Mask, li .i64 a2.At.X, li .i64 a2.At.Y, li .i64 a2.F.a0.N, ls a2.F.a0.Text, li .i64 a2.F.a1.N, ls a2.F.a1.Text, li .i64 a2.F.a2.N, ls a2.F.a2.Text, li .i64 a2.F.a3.N, ls a2.F.a3.Text]), (99, .one (lb (r8.2 == 0))), (98, .one (li .i64 r8.2))] [] (by kernel_rfl) ?_
                  refine SimI.bind (og := F21 n a2) { dst := some 101, op := POp.call false [[]] 21 [Operand.tmp 100], guard := some (97, true), hints := [(100, Hint.imm)] } (fun r28 => [(101, .one (lb r28))]) (fun r28 => []) (by kernel_rfl) (fun r28 hr => pOp_eff (by kernel_rfl) (by kernel_rfl) (eff_call (ARGS := [.agg [li .i64 a2.ID, li .u8 a2.Mask, li .i64 a2.At.X, li .i64 a2.At.Y, li .i64 a2.F.a0.N, ls a2.F.a0.Text, li .i64 a2.F.a1.N, ls a2.F.a1.Text, li .i64 a2.F.a2.N, ls a2.F.a2.Text, li .i64 a2.F.a3.N, ls a2.F.a3.Text]]) (by kernel_rfl) (args_clean (by kernel_rfl) args_nil) (F21_ok n a2 r28 hr) (by kernel_rfl))) (fun r28 => ?_)
                  refine SimI.run 3 [(104, .one (lb ((r8.2 == 0) == r28))), (103, .one (lb ((r8.2 == 0) == r28))), (102, .one (lb ((r8.2 == 0) == r28)))] [] (by kernel_rfl) ?_
                  refine SimI.split 104 ((r8.2 == 0) == r28) (by kernel_rfl) ?_ ?_
                  · refine SimI.run 3 [(107, .one (lb (r8.2 == 0))), (106, .one (lb (r8.2 == 0))), (105, .one (li .i64 r8.2))] [] (by kernel_rfl) ?_
                    refine SimI.split 107 (r8.2 == 0) (by kernel_rfl) ?_ ?_
                    · refine SimI.run 7 [(114, .agg [li .i64 r6.1.ID, li .u8 r6.1.Mask, li .i64 r6.1.At.X, li .i64 r6.1.At.Y, li .i64 r6.1.F.a0.N, ls r6.1.F.a0.Text, li .i64 r6.1.F.a1.N, ls r6.1.F.a1.Text, li .i64 r6.1.F.a2.N, ls r6.1.F.a2.Text, li .i64 r6.1.F.a3.N, ls r6.1.F.a3.Text]), (113, .agg [li .i64 a2.ID, li .u8 a2.Mask, li .i64 a2.At.X, li .i64 a2.At.Y, li .i64 a2.F.a0.N, ls a2.F.a0.Text, li .i64 a2.F.a1.N, ls a2.F.a1.Text, li .i64 a2.F.a2.N, ls a2.F.a2.Text, li .i64 a2.F.a3.N, ls a2.F.a3.Text]), (112, .one (lb true)), (111, .one (lb true)), (110, .one (lb true)), (109, .tup []), (108, .tup [])] [] (by kernel_rfl) ?_
                      refine SimI.bind (og := F28 n a2 r6.1) { dst := some 115, op := POp.call false [[], []] 28 [Operand.tmp 113, Operand.tmp 114], guard := some (112, true), hints := [(113, Hint.imm), (114, Hint.imm)] } (fun r29 => [(115, .one (lb r29))]) (fun r29 => []) (by kernel_rfl) (fun r29 hr => pOp_eff (by kernel_rfl) (by kernel_rfl) (eff_call (ARGS := [.agg [li .i64 a2.ID, li .u8 a2.Mask, li .i64 a2.At.X, li .i64 a2.At.Y, li .i64 a2.F.a0.N, ls a2.F.a0.Text, li .i64 a2.F.a1.N, ls a2.F.a1.Text, li .i64 a2.F.a2.N, ls a2.F.a2.Text, li .i64 a2.F.a3.N, ls a2.F.a3.Text], .agg [li .i64 r6.1.ID, li .u8 r6.1.Mask, li .i64 r6.1.At.X, li .i64 r6.1.At.Y, li .i64 r6.1.F.a0.N, ls r6.1.F.a0.Text, li .i64 r6.1.F.a1.N, ls r6.1.F.a1.Text, li .i64 r6.1.F.a2.N, ls r6.1.F.a2.Text, li .i64 r6.1.F.a3.N, ls r6.1.F.a3.Text]]) (by kernel_rfl) (args_clean (by kernel_rfl) (args_clean (by kernel_rfl) args_nil)) (F28_ok n a2 r6.1 r29 hr) (by kernel_rfl))) (fun r29 => ?_)
                      refine SimI.run 2 [(117, .agg [li .i64 r6.1.ID, li .u8 r6.1.Mask, li .i64 r6.1.At.X, li .i64 r6.1.At.Y, li .i64 r6.1.F.a0.N, ls r6.1.F.a0.Text, li .i64 r6.1.F.a1.N, ls r6.1.F.a1.Text, li .i64 r6.1.F.a2.N, ls r6.1.F.a2.Text, li .i64 r6.1.F.a3.N, ls r6.1.F.a3.Text]), (116, .agg [li .i64 a2.ID, li .u8 a2.Mask, li .i64 a2.At.X, li .i64 a2.At.Y, li .i64 a2.F.a0.N, ls a2.F.a0.Text, li .i64 a2.F.a1.N, ls a2.F.a1.Text, li .i64 a2.F.a2.N, ls a2.F.a2.Text, li .i64 a2.F.a3.N, ls a2.F.a3.Text])] [] (by kernel_rfl) ?_
                      refine SimI.step { dst := some 118, op := POp.prim (Prim.bin BinOp.eql 30 false false) [Operand.tmp 116, Operand.tmp 117], guard := some (112, true), hints := [(116, Hint.imm), (117, Hint.imm)] } [(118, .one (lb (Delta.eqb a2 r6.1)))] [] (by kernel_rfl) (pOp_eff (by kernel_rfl) (by kernel_rfl) (eff_prim (by kernel_rfl) (Delta_eql a2 r6.1 _ _))) ?_
                      refine SimI.run 3 [(8, .one (lb (r29 == (Delta.eqb a2 r6.1)))), (120, .one (lb (r29 == (Delta.eqb a2 r6.1)))), (119, .one (lb (r29 == (Delta.eqb a2 r6.1))))] [] (by kernel_rfl) ?_
                      refine SimI.done (by kernel_rfl) ?_
                      refine SimE.thenN ?_
                      refine Sim.ret ?_
                      exact SimE.fin (by kernel_rfl)
                    · refine SimI.run 5 [(112, .one (lb (r8.2 == 11))), (111, .one (lb (r8.2 == 11))), (110, .one (lb (r8.2 == 11))), (109, .one (lb (r8.2 == 11))), (108, .one (li .i64 r8.2))] [] (by kernel_rfl) ?_
                      refine SimI.split 112 (r8.2 == 11) (by kernel_rfl) ?_ ?_
                      · refine SimI.run 2 [(114, .agg [li .i64 r6.1.ID, li .u8 r6.1.Mask, li .i64 r6.1.At.X, li .i64 r6.1.At.Y, li .i64 r6.1.F.a0.N, ls r6.1.F.a0.Text, li .i64 r6.1.F.a1.N, ls r6.1.F.a1.Text, li .i64 r6.1.F.a2.N, ls r6.1.F.a2.Text, li .i64 r6.1.F.a3.N, ls r6.1.F.a3.Text]), (113, .agg [li .i64 a2.ID, li .u8 a2.Mask, li .i64 a2.At.X, li .i64 a2.At.Y, li .i64 a2.F.a0.N, ls a2.F.a0.Text, li .i64 a2.F.a1.N, ls a2.F.a1.Text, li .i64 a2.F.a2.N, ls a2.F.a2.Text, li .i64 a2.F.a3.N, ls a2.F.a3.Text])] [] (by kernel_rfl) ?_
                        refine SimI.bind (og := F28 n a2 r6.1) { dst := some 115, op := POp.call false [[], []] 28 [Operand.tmp 113, Operand.tmp 114], guard := some (112, true), hints := [(113, Hint.imm), (114, Hint.imm)] } (fun r30 => [(115, .one (lb r30))]) (fun r30 => []) (by kernel_rfl) (fun r30 hr => pOp_eff (by kernel_rfl) (by kernel_rfl) (eff_call (ARGS := [.agg [li .i64 a2.ID, li .u8 a2.Mask, li .i64 a2.At.X, li .i64 a2.At.Y, li .i64 a2.F.a0.N, ls a2.F.a0.Text, li .i64 a2.F.a1.N, ls a2.F.a1.Text, li .i64 a2.F.a2.N, ls a2.F.a2.Text, li .i64 a2.F.a3.N, ls a2.F.a3.Text], .agg [li .i64 r6.1.ID, li .u8 r6.1.Mask, li .i64 r6.1.At.X, li .i64 r6.1.At.Y, li .i64 r6.1.F.a0.N, ls r6.1.F.a0.Text, li .i64 r6.1.F.a1.N, ls r6.1.F.a1.Text, li .i64 r6.1.F.a2.N, ls r6.1.F.a2.Text, li .i64 r6.1.F.a3.N, ls r6.1.F.a3.Text]]) (by kernel_rfl) (args_clean (by kernel_rfl) (args_clean (by kernel_rfl) args_nil)) (F28_ok n a2 r6.1 r30 hr) (by kernel_rfl))) (fun r30 => ?_)
                        refine SimI.run 2 [(117, .agg [li .i64 r6.1.ID, li .u8 r6.1.Mask, li .i64 r6.1.At.X, li .i64 r6.1.At.Y, li .i64 r6.1.F.a0.N, ls r6.1.F.a0.Text, li .i64 r6.1.F.a1.N, ls r6.1.F.a1.Text, li .i64 r6.1.F.a2.N, ls r6.1.F.a2.Text, li .i64 r6.1.F.a3.N, ls r6.1.F.a3.Text]), (116, .agg [li .i64 a2.ID, li .u8 a2.Mask, li .i64 a2.At.X, li .i64 a2.At.Y, li .i64 a2.F.a0.N, ls a2.F.a0.Text, li .i64 a2.F.a1.N, ls a2.F.a1.Text, li .i64 a2.F.a2.N, ls a2.F.a2.Text, li .i64 a2.F.a3.N, ls a2.F.a3.Text])] [] (by kernel_rfl) ?_
                        refine SimI.step { dst := some 118, op := POp.prim (Prim.bin BinOp.eql 30 false false) [Operand.tmp 116, Operand.tmp 117], guard := some (112, true), hints := [(116, Hint.imm), (117, Hint.imm)] } [(118, .one (lb (Delta.eqb a2 r6.1)))] [] (by kernel_rfl) (pOp_eff (by kernel_rfl) (by kernel_rfl) (eff_prim (by kernel_rfl) (Delta_eql a2 r6.1 _ _))) ?_
                        refine SimI.run 3 [(8, .one (lb (r30 == (Delta.eqb a2 r6.1)))), (120, .one (lb (r30 == (Delta.eqb a2 r6.1)))), (119, .one (lb (r30 == (Delta.eqb a2 r6.1))))] [] (by kernel_rfl) ?_
                        refine SimI.done (by kernel_rfl) ?_
                        refine SimE.thenN ?_
                        refine Sim.ret ?_
                        exact SimE.fin (by kernel_rfl)
                      · refine SimI.run 9 [(8, .one (lb false)), (120, .one (lb false)), (119, .tup []), (118, .tup []), (117, .tup []), (116, .tup []), (115, .tup []), (114, .tup []), (113, .tup [])] [] (by kernel_rfl) ?_
                        refine SimI.done (by kernel_rfl) ?_
                        refine SimE.thenN ?_
                        refine Sim.ret ?_
                        exact SimE.fin (by kernel_rfl)
                  · refine SimI.run 17 [(8, .one (lb false)), (120, .one (lb false)), (119, .tup []), (118, .tup []), (117, .tup []), (116, .tup []), (115, .tup []), (114, .tup []), (113, .tup []), (112, .one (lb false)), (111, .one (lb false)), (110, .tup []), (109, .tup []), (108, .tup []), (107, .tup []), (106, .tup []), (105, .tup [])] [] (by kernel_rfl) ?_
                    refine SimI.done (by kernel_rfl) ?_
                    refine SimE.thenN ?_
                    refine Sim.ret ?_
                    exact SimE.fin (by kernel_rfl)
                · refine SimI.run 24 [(8, .one (lb false)), (120, .one (lb false)), (119, .tup []), (118, .tup []), (117, .tup []), (116, .tup []), (115, .tup []), (114, .tup []), (113, .tup []), (112, .one (lb false)), (111, .one (lb false)), (110, .tup []), (109, .tup []), (108, .tup []), (107, .tup []), (106, .tup []), (105, .tup []), (104, .one (lb false)), (103, .one (lb false)), (102, .tup []), (101, .tup []), (100, .tup []), (99, .tup []), (98, .tup [])] [] (by kernel_rfl) ?_
                  refine SimI.done (by kernel_rfl) ?_
                  refine SimE.thenN ?_
                  refine Sim.ret ?_
                  exact SimE.fin (by kernel_rfl)
              · refine SimI.run 29 [(8, .one (lb false)), (120, .one (lb false)), (119, .tup []), (118, .tup []), (117, .tup []), (116, .tup []), (115, .tup []), (114, .tup []), (113, .tup []), (112, .one (lb false)), (111, .one (lb false)), (110, .tup []), (109, .tup []), (108, .tup []), (107, .tup []), (106, .tup []), (105, .tup []), (104, .one (lb false)), (103, .one (lb false)), (102, .tup []), (101, .tup []), (100, .tup []), (99, .tup []), (98, .tup []), (97, .one (lb false)), (96, .one (lb false)), (95, .tup []), (94, .tup []), (93, .tup [])] [] (by kernel_rfl) ?_
                refine SimI.done (by kernel_rfl) ?_
                refine SimE.thenN ?_
                refine Sim.ret ?_
                exact SimE.fin (by kernel_rfl)
            · refine SimI.run 36 [(8, .one (lb false)), (120, .one (lb false)), (119, .tup []), (118, .tup []), (117, .tup []), (116, .tup []), (115, .tup []), (114, .tup []), (113, .tup []), (112, .one (lb false)), (111, .one (lb false)), (110, .tup []), (109, .tup []), (108, .tup []), (107, .tup []), (106, .tup []), (105, .tup []), (104, .one (lb false)), (103, .one (lb false)), (102, .tup []), (101, .tup []), (100, .tup []), (99, .tup []), (98, .tup []), (97, .one (lb false)), (96, .one (lb false)), (95, .tup []), (94, .tup []), (93, .tup []), (92, .one (lb false)), (91, .one (lb false)), (90, .tup []), (89, .tup []), (88, .tup []), (87, .tup []), (86, .tup [])] [] (by kernel_rfl) ?_
              refine SimI.done (by kernel_rfl) ?_
              refine SimE.thenN ?_
              refine Sim.ret ?_
              exact SimE.fin (by kernel_rfl)
          · refine SimI.run 43 [(8, .one (lb false)), (120, .one (lb false)), (119, .tup []), (118, .tup []), (117, .tup []), (116, .tup []), (115, .tup []), (114, .tup []), (113, .tup []), (112, .one (lb false)), (111, .one (lb false)), (110, .tup []), (109, .tup []), (108, .tup []), (107, .tup []), (106, .tup []), (105, .tup []), (104, .one (lb false)), (103, .one (lb false)), (102, .tup []), (101, .tup []), (100, .tup []), (99, .tup []), (98, .tup []), (97, .one (lb false)), (96, .one (lb false)), (95, .tup []), (94, .tup []), (93, .tup []), (92, .one (lb false)), (91, .one (lb false)), (90, .tup []), (89, .tup []), (88, .tup []), (87, .tup []), (86, .tup []), (85, .one (lb false)), (84, .one (lb false)), (83, .tup []), (82, .tup []), (81, .tup []), (80, .tup []), (79, .tup [])] [] (by kernel_rfl) ?_
            refine SimI.done (by kernel_rfl) ?_
            refine SimE.thenN ?_
            refine Sim.ret ?_
            exact SimE.fin (by kernel_rfl)
        · refine SimI.run 52 [(8, .one (lb false)), (120, .one (lb false)), (119, .tup []), (118, .tup []), (117, .tup []), (116, .tup []), (115, .tup []), (114, .tup []), (113, .tup []), (112, .one (lb false)), (111, .one (lb false)), (110, .tup []), (109, .tup []), (108, .tup []), (107, .tup []), (106, .tup []), (105, .tup []), (104, .one (lb false)), (103, .one (lb false)), (102, .tup []), (101, .tup []), (100, .tup []), (99, .tup []), (98, .tup []), (97, .one (lb false)), (96, .one (lb false)), (95, .tup []), (94, .tup []), (93, .tup []), (92, .one (lb false)), (91, .one (lb false)), (90, .tup []), (89, .tup []), (88, .tup []), (87, .tup []), (86, .tup []), (85, .one (lb false)), (84, .one (lb false)), (83, .tup []), (82, .tup []), (81, .tup []), (80, .tup []), (79, .tup []), (78, .one (lb false)), (77, .one (lb false)), (76, .tup []), (75, .tup []), (74, .tup []), (73, .tup []), (72, .tup []), (71, .tup []), (70, .tup [])] [] (by kernel_rfl) ?_
          refine SimI.done (by kernel_rfl) ?_
          refine SimE.thenN ?_
          refine Sim.ret ?_
          exact SimE.fin (by kernel_rfl)
    · refine SimI.run 61 [(8, .one (lb false)), (120, .one (lb false)), (119, .tup []), (118, .tup []), (117, .tup []), (116, .tup []), (115, .tup []), (114, .tup []), (113, .tup []), (112, .one (lb false)), (111, .one (lb false)), (110, .tup []), (109, .tup []), (108, .tup []), (107, .tup []), (106, .tup []), (105, .tup []), (104, .one (lb false)), (103, .one (lb false)), (102, .tup []), (101, .tup []), (100, .tup []), (99, .tup []), (98, .tup []), (97, .one (lb false)), (96, .one (lb false)), (95, .tup []), (94, .tup []), (93, .tup []), (92, .one (lb false)), (91, .one (lb false)), (90, .tup []), (89, .tup []), (88, .tup []), (87, .tup []), (86, .tup []), (85, .one (lb false)), (84, .one (lb false)), (83, .tup []), (82, .tup []), (81, .tup []), (80, .tup []), (79, .tup []), (78, .one (lb false)), (77, .one (lb false)), (76, .tup []), (75, .tup []), (74, .tup []), (73, .tup []), (72, .tup []), (71, .tup []), (70, .tup []), (69, .one (lb false)), (68, .one (lb false)), (67, .tup []), (66, .tup []), (65, .tup []), (64, .tup []), (63, .tup []), (62, .tup []), (61, .tup [])] [] (by kernel_rfl) ?_
      refine SimI.done (by kernel_rfl) ?_
      refine SimE.thenN ?_
      refine Sim.ret ?_
      exact SimE.fin (by kernel_rfl)

def F3 (n : Nat) (a0 : Thing) (a1 : Thing) (a2 : Delta) (a3 : Field) : Option Bool :=
  ((some true)).bind fun (r1 : Bool) =>
  if !(r1) then
    some false
  else
    (F15 n a0).bind fun (r2 : Bool) =>
    if !(r2) then
      some true
    else
      (F15 n a1).bind fun (r3 : Bool) =>
      if !(r3) then
        some true
      else
        (F16 n a2).bind fun (r4 : Bool) =>
        if !(r4) then
          some true
        else
          (F17 n a3).bind fun (r5 : Bool) =>
          if !(r5) then
            some true
          else
            (F18 n a0 a1).bind fun (r6 : (Delta × Bool)) =>
            (F19 n a0 a1).bind fun (r7 : (Delta × Bool)) =>
            (F20 n a2).bind fun (r8 : (ByteArray × Int)) =>
            (F21 n a2).bind fun (r9 : Bool) =>
            if r9 then
              (F22 n a2).bind fun (r10 : ByteArray) =>
              F3_j12 n a0 a2 a3 r6 r7 r8 r10
            else
              F3_j12 n a0 a2 a3 r6 r7 r8 ByteArray.empty
theorem F3_ok (n : Nat) (a0 : Thing) (a1 : Thing) (a2 : Delta) (a3 : Field) : ∀ r, F3 n a0 a1 a2 a3 = some r → D 3 [.agg [li .i64 a0.ID, li .i64 a0.At.X, li .i64 a0.At.Y, li .i64 a0.F.a0.N, ls a0.F.a0.Text, li .i64 a0.F.a1.N, ls a0.F.a1.Text, li .i64 a0.F.a2.N, ls a0.F.a2.Text, li .i64 a0.F.a3.N, ls a0.F.a3.Text], .agg [li .i64 a1.ID, li .i64 a1.At.X, li .i64 a1.At.Y, li .i64 a1.F.a0.N, ls a1.F.a0.Text, li .i64 a1.F.a1.N, ls a1.F.a1.Text, li .i64 a1.F.a2.N, ls a1.F.a2.Text, li .i64 a1.F.a3.N, ls a1.F.a3.Text], .agg [li .i64 a2.ID, li .u8 a2.Mask, li .i64 a2.At.X, li .i64 a2.At.Y, li .i64 a2.F.a0.N, ls a2.F.a0.Text, li .i64 a2.F.a1.N, ls a2.F.a1.Text, li .i64 a2.F.a2.N, ls a2.F.a2.Text, li .i64 a2.F.a3.N, ls a2.F.a3.Text], .agg [li .i64 a3.N, ls a3.Text]] [] = some (F3_e r) := by
  refine fn_to (D := D) (n := n + 8) (nt := 121) (rs := pc3_r) (c := pc3_c35) (L := [(0, .agg [li .i64 a0.ID, li .i64 a0.At.X, li .i64 a0.At.Y, li .i64 a0.F.a0.N, ls a0.F.a0.Text, li .i64 a0.F.a1.N, ls a0.F.a1.Text, li .i64 a0.F.a2.N, ls a0.F.a2.Text, li .i64 a0.F.a3.N, ls a0.F.a3.Text]), (1, .agg [li .i64 a1.ID, li .i64 a1.At.X, li .i64 a1.At.Y, li .i64 a1.F.a0.N, ls a1.F.a0.Text, li .i64 a1.F.a1.N, ls a1.F.a1.Text, li .i64 a1.F.a2.N, ls a1.F.a2.Text, li .i64 a1.F.a3.N, ls a1.F.a3.Text]), (2, .agg [li .i64 a2.ID, li .u8 a2.Mask, li .i64 a2.At.X, li .i64 a2.At.Y, li .i64 a2.F.a0.N, ls a2.F.a0.Text, li .i64 a2.F.a1.N, ls a2.F.a1.Text, li .i64 a2.F.a2.N, ls a2.F.a2.Text, li .i64 a2.F.a3.N, ls a2.F.a3.Text]), (3, .agg [li .i64 a3.N, ls a3.Text])]) (M := []) (k := 0) rfl rfl rfl rfl rfl rfl ?_
  unfold F3
  refine Sim.seq ?_
  refine Sim.region0 ?_
  refine SimI.run 5 [(8, .one (lb false)), (7, .one (.ptr 7 0)), (6, .one (.ptr 6 0)), (5, .one (.ptr 5 0)), (4, .one (.ptr 4 0))] [(7, some (.cells [li .i64 a3.N, ls a3.Text])), (6, some (.cells [li .i64 a2.ID, li .u8 a2.Mask, li .i64 a2.At.X, li .i64 a2.At.Y, li .i64 a2.F.a0.N, ls a2.F.a0.Text, li .i64 a2.F.a1.N, ls a2.F.a1.Text, li .i64 a2.F.a2.N, ls a2.F.a2.Text, li .i64 a2.F.a3.N, ls a2.F.a3.Text])), (5, some (.cells [li .i64 a1.ID, li .i64 a1.At.X, li .i64 a1.At.Y, li .i64 a1.F.a0.N, ls a1.F.a0.Text, li .i64 a1.F.a1.N, ls a1.F.a1.Text, li .i64 a1.F.a2.N, ls a1.F.a2.Text, li .i64 a1.F.a3.N, ls a1.F.a3.Text])), (4, some (.cells [li .i64 a0.ID, li .i64 a0.At.X, li .i64 a0.At.Y, li .i64 a0.F.a0.N, ls a0.F.a0.Text, li .i64 a0.F.a1.N, ls a0.F.a1.Text, li .i64 a0.F.a2.N, ls a0.F.a2.Text, li .i64 a0.F.a3.N, ls a0.F.a3.Text]))] (by kernel_rfl) ?_
  refine SimI.done (by kernel_rfl) ?_
  refine SimE.thenN ?_
  refine Sim.seq ?_
  refine Sim.seq ?_
  refine Sim.region0 ?_
  refine SimI.bind (og := (some true)) { dst := some 16, op := POp.call true [] 14 [], guard := none, hints := [] } (fun r1 => [(16, .one (lb r1))]) (fun r1 => []) (by kernel_rfl) (fun r1 hr => pOp_eff (by kernel_rfl) (by kernel_rfl) (eff_call (ARGS := []) (by kernel_rfl) (args_nil) (F14_ok n r1 hr) (by kernel_rfl))) (fun r1 => ?_)
  refine SimI.run 1 [(17, .one (lb (!(r1))))] [] (by kernel_rfl) ?_
  refine SimI.done (by kernel_rfl) ?_
  refine SimE.thenN ?_
  refine Sim.cond (!(r1)) (by kernel_rfl) ?_ ?_
  · refine Sim.seq ?_
    refine Sim.region0 ?_
    refine SimI.run 1 [(8, .one (lb false))] [] (by kernel_rfl) ?_
    refine SimI.done (by kernel_rfl) ?_
    refine SimE.thenN ?_
    refine Sim.ret ?_
    refine SimE.thenR ?_
    exact SimE.fin (by kernel_rfl)
  · refine Sim.skip ?_
    refine SimE.thenN ?_
    refine Sim.seq ?_
    refine Sim.seq ?_
    refine Sim.region0 ?_
    refine SimI.run 1 [(18, .agg [li .i64 a0.ID, li .i64 a0.At.X, li .i64 a0.At.Y, li .i64 a0.F.a0.N, ls a0.F.a0.Text, li .i64 a0.F.a1.N, ls a0.F.a1.Text, li .i64 a0.F.a2.N, ls a0.F.a2.Text, li .i64 a0.F.a3.N, ls a0.F.a3.Text])] [] (by kernel_rfl) ?_
    refine SimI.bind (og := F15 n a0) { dst := some 19, op := POp.call true [[]] 15 [Operand.tmp 18], guard := none, hints := [] } (fun r2 => [(19, .one (lb r2))]) (fun r2 => []) (by kernel_rfl) (fun r2 hr => pOp_eff (by kernel_rfl) (by kernel_rfl) (eff_call (ARGS := [.agg [li .i64 a0.ID, li .i64 a0.At.X, li .i64 a0.At.Y, li .i64 a0.F.a0.N, ls a0.F.a0.Text, li .i64 a0.F.a1.N, ls a0.F.a1.Text, li .i64 a0.F.a2.N, ls a0.F.a2.Text, li .i64 a0.F.a3.N, ls a0.F.a3.Text]]) (by kernel_rfl) (args_clean (by kernel_rfl) args_nil) (F15_ok n a0 r2 hr) (by kernel_rfl))) (fun r2 => ?_)
    refine SimI.run 2 [(21, .one (lb (!(r2)))), (20, .one (lb (!(r2))))] [] (by kernel_rfl) ?_
    refine SimI.split 21 (!(r2)) (by kernel_rfl) ?_ ?_
    · refine SimI.run 14 [(35, .one (lb true)), (34, .tup []), (33, .tup []), (32, .tup []), (31, .one (lb true)), (30, .one (lb true)), (29, .tup []), (28, .tup []), (27, .tup []), (26, .one (lb true)), (25, .one (lb true)), (24, .tup []), (23, .tup []), (22, .tup [])] [] (by kernel_rfl) ?_
      refine SimI.done (by kernel_rfl) ?_
      refine SimE.thenN ?_
      refine Sim.condT (by kernel_rfl) ?_
      refine Sim.seq ?_
      refine Sim.region0 ?_
      refine SimI.run 1 [(8, .one (lb true))] [] (by kernel_rfl) ?_
      refine SimI.done (by kernel_rfl) ?_
      refine SimE.thenN ?_
      refine Sim.ret ?_
      refine SimE.thenR ?_
      exact SimE.fin (by kernel_rfl)
    · refine SimI.run 1 [(22, .agg [li .i64 a1.ID, li .i64 a1.At.X, li .i64 a1.At.Y, li .i64 a1.F.a0.N, ls a1.F.a0.Text, li .i64 a1.F.a1.N, ls a1.F.a1.Text, li .i64 a1.F.a2.N, ls a1.F.a2.Text, li .i64 a1.F.a3.N, ls a1.F.a3.Text])] [] (by kernel_rfl) ?_
      refine SimI.bind (og := F15 n a1) { dst := some 23, op := POp.call true [[]] 15 [Operand.tmp 22], guard := some (21, false), hints := [] } (fun r3 => [(23, .one (lb r3))]) (fun r3 => []) (by kernel_rfl) (fun r3 hr => pOp_eff (by kernel_rfl) (by kernel_rfl) (eff_call (ARGS := [.agg [li .i64 a1.ID, li .i64 a1.At.X, li .i64 a1.At.Y, li .i64 a1.F.a0.N, ls a1.F.a0.Text, li .i64 a1.F.a1.N, ls a1.F.a1.Text, li .i64 a1.F.a2.N, ls a1.F.a2.Text, li .i64 a1.F.a3.N, ls a1.F.a3.Text]]) (by kernel_rfl) (args_clean (by kernel_rfl) args_nil) (F15_ok n a1 r3 hr) (by kernel_rfl))) (fun r3 => ?_)
      refine SimI.run 3 [(26, .one (lb (!(r3)))), (25, .one (lb (!(r3)))), (24, .one (lb (!(r3))))] [] (by kernel_rfl) ?_
      refine SimI.split 26 (!(r3)) (by kernel_rfl) ?_ ?_
      · refine SimI.run 9 [(35, .one (lb true)), (34, .tup []), (33, .tup []), (32, .tup []), (31, .one (lb true)), (30, .one (lb true)), (29, .tup []), (28, .tup []), (27, .tup [])] [] (by kernel_rfl) ?_
        refine SimI.done (by kernel_rfl) ?_
        refine SimE.thenN ?_
        refine Sim.condT (by kernel_rfl) ?_
        refine Sim.seq ?_
        refine Sim.region0 ?_
        refine SimI.run 1 [(8, .one (lb true))] [] (by kernel_rfl) ?_
        refine SimI.done (by kernel_rfl) ?_
        refine SimE.thenN ?_
        refine Sim.ret ?_
        refine SimE.thenR ?_
        exact SimE.fin (by kernel_rfl)
      · refine SimI.run 1 [(27, .agg [li .i64 a2.ID, li .u8 a2.Mask, li .i64 a2.At.X, li .i64 a2.At.Y, li .i64 a2.F.a0.N, ls a2.F.a0.Text, li .i64 a2.F.a1.N, ls a2.F.a1.Text, li .i64 a2.F.a2.N, ls a2.F.a2.Text, li .i64 a2.F.a3.N, ls a2.F.a3.Text])] [] (by kernel_rfl) ?_
        refine SimI.bind (og := F16 n a2) { dst := some 28, op := POp.call true [[]] 16 [Operand.tmp 27], guard := some (26, false), hints := [] } (fun r4 => [(28, .one (lb r4))]) (fun r4 => []) (by kernel_rfl) (fun r4 hr => pOp_eff (by kernel_rfl) (by kernel_rfl) (eff_call (ARGS := [.agg [li .i64 a2.ID, li .u8 a2.Mask, li .i64 a2.At.X, li .i64 a2.At.Y, li .i64 a2.F.a0.N, ls a2.F.a0.Text, li .i64 a2.F.a1.N, ls a2.F.a1.Text, li .i64 a2.F.a2.N, ls a2.F.a2.Text, li .i64 a2.F.a3.N, ls a2.F.a3.Text]]) (by kernel_rfl) (args_clean (by kernel_rfl) args_nil) (F16_ok n a2 r4 hr) (by kernel_rfl))) (fun r4 => ?_)
        refine SimI.run 3 [(31, .one (lb (!(r4)))), (30, .one (lb (!(r4)))), (29, .one (lb (!(r4))))] [] (by kernel_rfl) ?_
        refine SimI.split 31 (!(r4)) (by kernel_rfl) ?_ ?_
        · refine SimI.run 4 [(35, .one (lb true)), (34, .tup []), (33, .tup []), (32, .tup [])] [] (by kernel_rfl) ?_
          refine SimI.done (by kernel_rfl) ?_
          refine SimE.thenN ?_
          refine Sim.condT (by kernel_rfl) ?_
          refine Sim.seq ?_
          refine Sim.region0 ?_
          refine SimI.run 1 [(8, .one (lb true))] [] (by kernel_rfl) ?_
          refine SimI.done (by kernel_rfl) ?_
          refine SimE.thenN ?_
          refine Sim.ret ?_
          refine SimE.thenR ?_
          exact SimE.fin (by kernel_rfl)
        · refine SimI.run 1 [(32, .agg [li .i64 a3.N, ls a3.Text])] [] (by kernel_rfl) ?_
          refine SimI.bind (og := F17 n a3) { dst := some 33, op := POp.call true [[]] 17 [Operand.tmp 32], guard := some (31, false), hints := [] } (fun r5 => [(33, .one (lb r5))]) (fun r5 => []) (by kernel_rfl) (fun r5 hr => pOp_eff (by kernel_rfl) (by kernel_rfl) (eff_call (ARGS := [.agg [li .i64 a3.N, ls a3.Text]]) (by kernel_rfl) (args_clean (by kernel_rfl) args_nil) (F17_ok n a3 r5 hr) (by kernel_rfl))) (fun r5 => ?_)
          refine SimI.run 2 [(35, .one (lb (!(r5)))), (34, .one (lb (!(r5))))] [] (by kernel_rfl) ?_
          refine SimI.done (by kernel_rfl) ?_
          refine SimE.thenN ?_
          refine Sim.cond (!(r5)) (by kernel_rfl) ?_ ?_
          · refine Sim.seq ?_
            refine Sim.region0 ?_
            refine SimI.run 1 [(8, .one (lb true))] [] (by kernel_rfl) ?_
            refine SimI.done (by kernel_rfl) ?_
            refine SimE.thenN ?_
            refine Sim.ret ?_
            refine SimE.thenR ?_
            exact SimE.fin (by kernel_rfl)
          · refine Sim.skip ?_
            refine SimE.thenN ?_
            refine Sim.seq ?_
            refine Sim.region0 ?_
            refine SimI.run 2 [(38, .agg [li .i64 a1.ID, li .i64 a1.At.X, li .i64 a1.At.Y, li .i64 a1.F.a0.N, ls a1.F.a0.Text, li .i64 a1.F.a1.N, ls a1.F.a1.Text, li .i64 a1.F.a2.N, ls a1.F.a2.Text, li .i64 a1.F.a3.N, ls a1.F.a3.Text]), (37, .agg [li .i64 a0.ID, li .i64 a0.At.X, li .i64 a0.At.Y, li .i64 a0.F.a0.N, ls a0.F.a0.Text, li .i64 a0.F.a1.N, ls a0.F.a1.Text, li .i64 a0.F.a2.N, ls a0.F.a2.Text, li .i64 a0.F.a3.N, ls a0.F.a3.Text])] [] (by kernel_rfl) ?_
            refine SimI.bind (og := F18 n a0 a1) { dst := some 39, op := POp.call true [[], []] 18 [Operand.tmp 37, Operand.tmp 38], guard := none, hints := [] } (fun r6 => [(39, .tup [.agg [li .i64 r6.1.ID, li .u8 r6.1.Mask, li .i64 r6.1.At.X, li .i64 r6.1.At.Y, li .i64 r6.1.F.a0.N, ls r6.1.F.a0.Text, li .i64 r6.1.F.a1.N, ls r6.1.F.a1.Text, li .i64 r6.1.F.a2.N, ls r6.1.F.a2.Text, li .i64 r6.1.F.a3.N, ls r6.1.F.a3.Text], .one (lb r6.2)])]) (fun r6 => []) (by kernel_rfl) (fun r6 hr => pOp_eff (by kernel_rfl) (by kernel_rfl) (eff_call (ARGS := [.agg [li .i64 a0.ID, li .i64 a0.At.X, li .i64 a0.At.Y, li .i64 a0.F.a0.N, ls a0.F.a0.Text, li .i64 a0.F.a1.N, ls a0.F.a1.Text, li .i64 a0.F.a2.N, ls a0.F.a2.Text, li .i64 a0.F.a3.N, ls a0.F.a3.Text], .agg [li .i64 a1.ID, li .i64 a1.At.X, li .i64 a1.At.Y, li .i64 a1.F.a0.N, ls a1.F.a0.Text, li .i64 a1.F.a1.N, ls a1.F.a1.Text, li .i64 a1.F.a2.N, ls a1.F.a2.Text, li .i64 a1.F.a3.N, ls a1.F.a3.Text]]) (by kernel_rfl) (args_clean (by kernel_rfl) (args_clean (by kernel_rfl) args_nil)) (F18_ok n a0 a1 r6 hr) (by kernel_rfl))) (fun r6 => ?_)
            refine SimI.run 6 [(10, .one (lb r6.2)), (9, .one (.ptr 9 0)), (41, .one (lb r6.2)), (40, .agg [li .i64 r6.1.ID, li .u8 r6.1.Mask, li .i64 r6.1.At.X, li .i64 r6.1.At.Y, li .i64 r6.1.F.a0.N, ls r6.1.F.a0.Text, li .i64 r6.1.F.a1.N, ls r6.1.F.a1.Text, li .i64 r6.1.F.a2.N, ls r6.1.F.a2.Text, li .i64 r6.1.F.a3.N, ls r6.1.F.a3.Text]), (36, .tup [.agg [li .i64 r6.1.ID, li .u8 r6.1.Mask, li .i64 r6.1.At.X, li .i64 r6.1.At.Y, li .i64 r6.1.F.a0.N, ls r6.1.F.a0.Text, li .i64 r6.1.F.a1.N, ls r6.1.F.a1.Text, li .i64 r6.1.F.a2.N, ls r6.1.F.a2.Text, li .i64 r6.1.F.a3.N, ls r6.1.F.a3.Text], .one (lb r6.2)])] [(9, some (.cells [li .i64 r6.1.ID, li .u8 r6.1.Mask, li .i64 r6.1.At.X, li .i64 r6.1.At.Y, li .i64 r6.1.F.a0.N, ls r6.1.F.a0.Text, li .i64 r6.1.F.a1.N, ls r6.1.F.a1.Text, li .i64 r6.1.F.a2.N, ls r6.1.F.a2.Text, li .i64 r6.1.F.a3.N, ls r6.1.F.a3.Text])), (9, some (.cells [li .i64 0, li .u8 0, li .i64 0, li .i64 0, li .i64 0, ls ByteArray.empty, li .i64 0, ls ByteArray.empty, li .i64 0, ls ByteArray.empty, li .i64 0, ls ByteArray.empty]))] (by kernel_rfl) ?_
            refine SimI.done (by kernel_rfl) ?_
            refine SimE.thenN ?_
            refine Sim.seq ?_
            refine Sim.region0 ?_
            refine SimI.run 2 [(44, .agg [li .i64 a1.ID, li .i64 a1.At.X, li .i64 a1.At.Y, li .i64 a1.F.a0.N, ls a1.F.a0.Text, li .i64 a1.F.a1.N, ls a1.F.a1.Text, li .i64 a1.F.a2.N, ls a1.F.a2.Text, li .i64 a1.F.a3.N, ls a1.F.a3.Text]), (43, .agg [li .i64 a0.ID, li .i64 a0.At.X, li .i64 a0.At.Y, li .i64 a0.F.a0.N, ls a0.F.a0.Text, li .i64 a0.F.a1.N, ls a0.F.a1.Text, li .i64 a0.F.a2.N, ls a0.F.a2.Text, li .i64 a0.F.a3.N, ls a0.F.a3.Text])] [] (by kernel_rfl) ?_
            refine SimI.bind (og := F19 n a0 a1) { dst := some 45, op := POp.call true [[], []] 19 [Operand.tmp 43, Operand.tmp 44], guard := none, hints := [] } (fun r7 => [(45, .tup [.agg [li .i64 r7.1.ID, li .u8 r7.1.Mask, li .i64 r7.1.At.X, li .i64 r7.1.At.Y, li .i64 r7.1.F.a0.N, ls r7.1.F.a0.Text, li .i64 r7.1.F.a1.N, ls r7.1.F.a1.Text, li .i64 r7.1.F.a2.N, ls r7.1.F.a2.Text, li .i64 r7.1.F.a3.N, ls r7.1.F.a3.Text], .one (lb r7.2)])]) (fun r7 => []) (by kernel_rfl) (fun r7 hr => pOp_eff (by kernel_rfl) (by kernel_rfl) (eff_call (ARGS := [.agg [li .i64 a0.ID, li .i64 a0.At.X, li .i64 a0.At.Y, li .i64 a0.F.a0.N, ls a0.F.a0.Text, li .i64 a0.F.a1.N, ls a0.F.a1.Text, li .i64 a0.F.a2.N, ls a0.F.a2.Text, li .i64 a0.F.a3.N, ls a0.F.a3.Text], .agg [li .i64 a1.ID, li .i64 a1.At.X, li .i64 a1.At.Y, li .i64 a1.F.a0.N, ls a1.F.a0.Text, li .i64 a1.F.a1.N, ls a1.F.a1.Text, li .i64 a1.F.a2.N, ls a1.F.a2.Text, li .i64 a1.F.a3.N, ls a1.F.a3.Text]]) (by kernel_rfl) (args_clean (by kernel_rfl) (args_clean (by kernel_rfl) args_nil)) (F19_ok n a0 a1 r7 hr) (by kernel_rfl))) (fun r7 => ?_)
            refine SimI.run 6 [(12, .one (lb r7.2)), (11, .one (.ptr 11 0)), (47, .one (lb r7.2)), (46, .agg [li .i64 r7.1.ID, li .u8 r7.1.Mask, li .i64 r7.1.At.X, li .i64 r7.1.At.Y, li .i64 r7.1.F.a0.N, ls r7.1.F.a0.Text, li .i64 r7.1.F.a1.N, ls r7.1.F.a1.Text, li .i64 r7.1.F.a2.N, ls r7.1.F.a2.Text, li .i64 r7.1.F.a3.N, ls r7.1.F.a3.Text]), (42, .tup [.agg [li .i64 r7.1.ID, li .u8 r7.1.Mask, li .i64 r7.1.At.X, li .i64 r7.1.At.Y, li .i64 r7.1.F.a0.N, ls r7.1.F.a0.Text, li .i64 r7.1.F.a1.N, ls r7.1.F.a1.Text, li .i64 r7.1.F.a2.N, ls r7.1.F.a2.Text, li .i64 r7.1.F.a3.N, ls r7.1.F.a3.Text], .one (lb r7.2)])] [(11, some (.cells [li .i64 r7.1.ID, li .u8 r7.1.Mask, li .i64 r7.1.At.X, li .i64 r7.1.At.Y, li .i64 r7.1.F.a0.N, ls r7.1.F.a0.Text, li .i64 r7.1.F.a1.N, ls r7.1.F.a1.Text, li .i64 r7.1.F.a2.N, ls r7.1.F.a2.Text, li .i64 r7.1.F.a3.N, ls r7.1.F.a3.Text])), (11, some (.cells [li .i64 0, li .u8 0, li .i64 0, li .i64 0, li .i64 0, ls ByteArray.empty, li .i64 0, ls ByteArray.empty, li .i64 0, ls ByteArray.empty, li .i64 0, ls ByteArray.empty]))] (by kernel_rfl) ?_
            refine SimI.done (by kernel_rfl) ?_
            refine SimE.thenN ?_
            refine Sim.seq ?_
            refine Sim.region0 ?_
            refine SimI.run 1 [(49, .agg [li .i64 a2.ID, li .u8 a2.Mask, li .i64 a2.At.X, li .i64 a2.At.Y, li .i64 a2.F.a0.N, ls a2.F.a0.Text, li .i64 a2.F.a1.N, ls a2.F.a1.Text, li .i64 a2.F.a2.N, ls a2.F.a2.Text, li .i64 a2.F.a3.N, ls a2.F.a3.Text])] [] (by kernel_rfl) ?_
            refine SimI.bind (og := F20 n a2) { dst := some 50, op := POp.call true [[]] 20 [Operand.tmp 49], guard := none, hints := [] } (fun r8 => [(50, .tup [.one (ls r8.1), .one (li .i64 r8.2)])]) (fun r8 => []) (by kernel_rfl) (fun r8 hr => pOp_eff (by kernel_rfl) (by kernel_rfl) (eff_call (ARGS := [.agg [li .i64 a2.ID, li .u8 a2.Mask, li .i64 a2.At.X, li .i64 a2.At.Y, li .i64 a2.F.a0.N, ls a2.F.a0.Text, li .i64 a2.F.a1.N, ls a2.F.a1.Text, li .i64 a2.F.a2.N, ls a2.F.a2.Text, li .i64 a2.F.a3.N, ls a2.F.a3.Text]]) (by kernel_rfl) (args_clean (by kernel_rfl) args_nil) (F20_ok n a2 r8 hr) (by kernel_rfl))) (fun r8 => ?_)
            refine SimI.run 5 [(14, .one (li .i64 r8.2)), (13, .one (ls r8.1)), (52, .one (li .i64 r8.2)), (51, .one (ls r8.1)), (48, .tup [.one (ls r8.1), .one (li .i64 r8.2)])] [] (by kernel_rfl) ?_
            refine SimI.done (by kernel_rfl) ?_
            refine SimE.thenN ?_
            refine Sim.seq ?_
            refine Sim.region0 ?_
            refine SimI.run 1 [(15, .one (ls ByteArray.empty))] [] (by kernel_rfl) ?_
            refine SimI.done (by kernel_rfl) ?_
            refine SimE.thenN ?_
            refine Sim.seq ?_
            refine Sim.seq ?_
            refine Sim.region0 ?_
            refine SimI.run 1 [(53, .agg [li .i64 a2.ID, li .u8 a2.Mask, li .i64 a2.At.X, li .i64 a2.At.Y, li .i64 a2.F.a0.N, ls a2.F.a0.Text, li .i64 a2.F.a1.N, ls a2.F.a1.Text, li .i64 a2.F.a2.N, ls a2.F.a2.Text, li .i64 a2.F.a3.N, ls a2.F.a3.Text])] [] (by kernel_rfl) ?_
            refine SimI.bind (og := F21 n a2) { dst := some 54, op := POp.call true [[]] 21 [Operand.tmp 53], guard := none, hints := [] } (fun r9 => [(54, .one (lb r9))]) (fun r9 => []) (by kernel_rfl) (fun r9 hr => pOp_eff (by kernel_rfl) (by kernel_rfl) (eff_call (ARGS := [.agg [li .i64 a2.ID, li .u8 a2.Mask, li .i64 a2.At.X, li .i64 a2.At.Y, li .i64 a2.F.a0.N, ls a2.F.a0.Text, li .i64 a2.F.a1.N, ls a2.F.a1.Text, li .i64 a2.F.a2.N, ls a2.F.a2.Text, li .i64 a2.F.a3.N, ls a2.F.a3.Text]]) (by kernel_rfl) (args_clean (by kernel_rfl) args_nil) (F21_ok n a2 r9 hr) (by kernel_rfl))) (fun r9 => ?_)
            refine SimI.done (by kernel_rfl) ?_
            refine SimE.thenN ?_
            refine Sim.cond r9 (by kernel_rfl) ?_ ?_
            · refine Sim.region0 ?_
              refine SimI.run 1 [(55, .agg [li .i64 a2.ID, li .u8 a2.Mask, li .i64 a2.At.X, li .i64 a2.At.Y, li .i64 a2.F.a0.N, ls a2.F.a0.Text, li .i64 a2.F.a1.N, ls a2.F.a1.Text, li .i64 a2.F.a2.N, ls a2.F.a2.Text, li .i64 a2.F.a3.N, ls a2.F.a3.Text])] [] (by kernel_rfl) ?_
              refine SimI.bind (og := F22 n a2) { dst := some 56, op := POp.call true [[]] 22 [Operand.tmp 55], guard := none, hints := [] } (fun r10 => [(56, .one (ls r10))]) (fun r10 => []) (by kernel_rfl) (fun r10 hr => pOp_eff (by kernel_rfl) (by kernel_rfl) (eff_call (ARGS := [.agg [li .i64 a2.ID, li .u8 a2.Mask, li .i64 a2.At.X, li .i64 a2.At.Y, li .i64 a2.F.a0.N, ls a2.F.a0.Text, li .i64 a2.F.a1.N, ls a2.F.a1.Text, li .i64 a2.F.a2.N, ls a2.F.a2.Text, li .i64 a2.F.a3.N, ls a2.F.a3.Text]]) (by kernel_rfl) (args_clean (by kernel_rfl) args_nil) (F22_ok n a2 r10 hr) (by kernel_rfl))) (fun r10 => ?_)
              refine SimI.run 1 [(15, .one (ls r10))] [] (by kernel_rfl) ?_
              refine SimI.done (by kernel_rfl) ?_
              refine SimE.thenN ?_
              refine Sim.pre (ts := [4, 6, 7, 9, 10, 11, 12, 13, 14, 15]) (os := [4, 5, 6, 7, 9, 11]) [(4, .one (.ptr 4 0)), (6, .one (.ptr 6 0)), (7, .one (.ptr 7 0)), (9, .one (.ptr 9 0)), (10, .one (lb r6.2)), (11, .one (.ptr 11 0)), (12, .one (lb r7.2)), (13, .one (ls r8.1)), (14, .one (li .i64 r8.2)), (15, .one (ls r10))] ((4, some (.cells [li .i64 a0.ID, li .i64 a0.At.X, li .i64 a0.At.Y, li .i64 a0.F.a0.N, ls a0.F.a0.Text, li .i64 a0.F.a1.N, ls a0.F.a1.Text, li .i64 a0.F.a2.N, ls a0.F.a2.Text, li .i64 a0.F.a3.N, ls a0.F.a3.Text])) :: ((6, some (.cells [li .i64 a2.ID, li .u8 a2.Mask, li .i64 a2.At.X, li .i64 a2.At.Y, li .i64 a2.F.a0.N, ls a2.F.a0.Text, li .i64 a2.F.a1.N, ls a2.F.a1.Text, li .i64 a2.F.a2.N, ls a2.F.a2.Text, li .i64 a2.F.a3.N, ls a2.F.a3.Text])) :: ((7, some (.cells [li .i64 a3.N, ls a3.Text])) :: ((9, some (.cells [li .i64 r6.1.ID, li .u8 r6.1.Mask, li .i64 r6.1.At.X, li .i64 r6.1.At.Y, li .i64 r6.1.F.a0.N, ls r6.1.F.a0.Text, li .i64 r6.1.F.a1.N, ls r6.1.F.a1.Text, li .i64 r6.1.F.a2.N, ls r6.1.F.a2.Text, li .i64 r6.1.F.a3.N, ls r6.1.F.a3.Text])) :: ((11, some (.cells [li .i64 r7.1.ID, li .u8 r7.1.Mask, li .i64 r7.1.At.X, li .i64 r7.1.At.Y, li .i64 r7.1.F.a0.N, ls r7.1.F.a0.Text, li .i64 r7.1.F.a1.N, ls r7.1.F.a1.Text, li .i64 r7.1.F.a2.N, ls r7.1.F.a2.Text, li .i64 r7.1.F.a3.N, ls r7.1.F.a3.Text])) :: []))))) (by kernel_rfl) (by kernel_rfl) (by kernel_rfl) ?_
              exact F3_j12_ok n a0 a1 a2 a3 r6 r7 r8 r10
            · refine Sim.skip ?_
              refine SimE.thenN ?_
              refine Sim.pre (ts := [4, 6, 7, 9, 10, 11, 12, 13, 14, 15]) (os := [4, 5, 6, 7, 9, 11]) [(4, .one (.ptr 4 0)), (6, .one (.ptr 6 0)), (7, .one (.ptr 7 0)), (9, .one (.ptr 9 0)), (10, .one (lb r6.2)), (11, .one (.ptr 11 0)), (12, .one (lb r7.2)), (13, .one (ls r8.1)), (14, .one (li .i64 r8.2)), (15, .one (ls ByteArray.empty))] ((4, some (.cells [li .i64 a0.ID, li .i64 a0.At.X, li .i64 a0.At.Y, li .i64 a0.F.a0.N, ls a0.F.a0.Text, li .i64 a0.F.a1.N, ls a0.F.a1.Text, li .i64 a0.F.a2.N, ls a0.F.a2.Text, li .i64 a0.F.a3.N, ls a0.F.a3.Text])) :: ((6, some (.cells [li .i64 a2.ID, li .u8 a2.Mask, li .i64 a2.At.X, li .i64 a2.At.Y, li .i64 a2.F.a0.N, ls a2.F.a0.Text, li .i64 a2.F.a1.N, ls a2.F.a1.Text, li .i64 a2.F.a2.N, ls a2.F.a2.Text, li .i64 a2.F.a3.N, ls a2.F.a3.Text])) :: ((7, some (.cells [li .i64 a3.N, ls a3.Text])) :: ((9, some (.cells [li .i64 r6.1.ID, li .u8 r6.1.Mask, li .i64 r6.1.At.X, li .i64 r6.1.At.Y, li .i64 r6.1.F.a0.N, ls r6.1.F.a0.Text, li .i64 r6.1.F.a1.N, ls r6.1.F.a1.Text, li .i64 r6.1.F.a2.N, ls r6.1.F.a2.Text, li .i64 r6.1.F.a3.N, ls r6.1.F.a3.Text])) :: ((11, some (.cells [li .i64 r7.1.ID, li .u8 r7.1.Mask, li .i64 r7.1.At.X, li .i64 r7.1.At.Y, li .i64 r7.1.F.a0.N, ls r7.1.F.a0.Text, li .i64 r7.1.F.a1.N, ls r7.1.F.a1.Text, li .i64 r7.1.F.a2.N, ls r7.1.F.a2.Text, li .i64 r7.1.F.a3.N, ls r7.1.F.a3.Text])) :: []))))) (by kernel_rfl) (by kernel_rfl) (by kernel_rfl) ?_
              exact F3_j12_ok n a0 a1 a2 a3 r6 r7 r8 ByteArray.empty


-- 6: vedette/vedettelaw6.FieldsChain
def F6_e : Bool → PV × List (List Lf) := fun r => (.one (lb r), [])
def F6_j46 (n : Nat) (a0 : Thing) (a2 : Thing) (r5 : (Delta × Bool)) (r6 : (Delta × Bool)) (r7 : (Delta × Bool)) (i22 : Int) (i23 : Int) (i24 : Int) (i25 : Int) (s26 : ByteArray) (i27 : Int) (s28 : ByteArray) (i29 : Int) (s30 : ByteArray) (i31 : Int) (s32 : ByteArray) (i35 : Int) (i36 : Int) (i37 : Int) (i38 : Int) (s39 : ByteArray) (i40 : Int) (s41 : ByteArray) (i42 : Int) (s43 : ByteArray) (i44 : Int) (s45 : ByteArray) : Option Bool :=
    if Thing.eqb (Thing.mk i22 (Point.mk i23 i24) (A4.mk (Field.mk i25 s26) (Field.mk i27 s28) (Field.mk i29 s30) (Field.mk i31 s32))) (Thing.mk a0.ID a2.At a2.F) then
      if Thing.eqb (Thing.mk i35 (Point.mk i36 i37) (A4.mk (Field.mk i38 s39) (Field.mk i40 s41) (Field.mk i42 s43) (Field.mk i44 s45))) (Thing.mk a0.ID a2.At a2.F) then
        if !(r5.2) then
          some true
        else
          if !(r6.2) then
            some true
          else
            if !(r7.2) then
              some true
            else
              some ((bitsI .or .u8 (bitsI .or .u8 r5.1.Mask r6.1.Mask) r7.1.Mask) == (bitsI .or .u8 r5.1.Mask r6.1.Mask))
      else
        some false
    else
      some false
theorem F6_j46_ok (n : Nat) (a0 : Thing) (a1 : Thing) (a2 : Thing) (r5 : (Delta × Bool)) (r6 : (Delta × Bool)) (r7 : (Delta × Bool)) (i22 : Int) (i23 : Int) (i24 : Int) (i25 : Int) (s26 : ByteArray) (i27 : Int) (s28 : ByteArray) (i29 : Int) (s30 : ByteArray) (i31 : Int) (s32 : ByteArray) (i35 : Int) (i36 : Int) (i37 : Int) (i38 : Int) (s39 : ByteArray) (i40 : Int) (s41 : ByteArray) (i42 : Int) (s43 : ByteArray) (i44 : Int) (s45 : ByteArray) : Sim Try.prog D (n + 8) pc6_c39 [(5, .one (.ptr 5 0)), (7, .one (.ptr 7 0)), (8, .one (lb r5.2)), (9, .one (.ptr 9 0)), (10, .one (lb r6.2)), (11, .one (.ptr 11 0)), (12, .one (lb r7.2)), (13, .one (.ptr 13 0)), (14, .one (.ptr 14 0))] ((5, some (.cells [li .i64 a0.ID, li .i64 a2.At.X, li .i64 a2.At.Y, li .i64 a2.F.a0.N, ls a2.F.a0.Text, li .i64 a2.F.a1.N, ls a2.F.a1.Text, li .i64 a2.F.a2.N, ls a2.F.a2.Text, li .i64 a2.F.a3.N, ls a2.F.a3.Text])) :: ((7, some (.cells [li .i64 r5.1.ID, li .u8 r5.1.Mask, li .i64 r5.1.At.X, li .i64 r5.1.At.Y, li .i64 r5.1.F.a0.N, ls r5.1.F.a0.Text, li .i64 r5.1.F.a1.N, ls r5.1.F.a1.Text, li .i64 r5.1.F.a2.N, ls r5.1.F.a2.Text, li .i64 r5.1.F.a3.N, ls r5.1.F.a3.Text])) :: ((9, some (.cells [li .i64 r6.1.ID, li .u8 r6.1.Mask, li .i64 r6.1.At.X, li .i64 r6.1.At.Y, li .i64 r6.1.F.a0.N, ls r6.1.F.a0.Text, li .i64 r6.1.F.a1.N, ls r6.1.F.a1.Text, li .i64 r6.1.F.a2.N, ls r6.1.F.a2.Text, li .i64 r6.1.F.a3.N, ls r6.1.F.a3.Text])) :: ((11, some (.cells [li .i64 r7.1.ID, li .u8 r7.1.Mask, li .i64 r7.1.At.X, li .i64 r7.1.At.Y, li .i64 r7.1.F.a0.N, ls r7.1.F.a0.Text, li .i64 r7.1.F.a1.N, ls r7.1.F.a1.Text, li .i64 r7.1.F.a2.N, ls r7.1.F.a2.Text, li .i64 r7.1.F.a3.N, ls r7.1.F.a3.Text])) :: ((13, some (.cells [li .i64 i22, li .i64 i23, li .i64 i24, li .i64 i25, ls s26, li .i64 i27, ls s28, li .i64 i29, ls s30, li .i64 i31, ls s32])) :: ((14, some (.cells [li .i64 i35, li .i64 i36, li .i64 i37, li .i64 i38, ls s39, li .i64 i40, ls s41, li .i64 i42, ls s43, li .i64 i44, ls s45])) :: [])))))) (F6_j46 n a0 a2 r5 r6 r7 i22 i23 i24 i25 s26 i27 s28 i29 s30 i31 s32 i35 i36 i37 i38 s39 i40 s41 i42 s43 i44 s45) (QF pc6_r 0 F6_e) := by
    unfold F6_j46
    refine Sim.seq ?_
    refine Sim.region [(5, .one (.ptr 5 0)), (7, .one (.ptr 7 0)), (8, .one (lb r5.2)), (9, .one (.ptr 9 0)), (10, .one (lb r6.2)), (11, .one (.ptr 11 0)), (12, .one (lb r7.2)), (13, .one (.ptr 13 0)), (14, .one (.ptr 14 0))] ((5, some (.cells [li .i64 a0.ID, li .i64 a2.At.X, li .i64 a2.At.Y, li .i64 a2.F.a0.N, ls a2.F.a0.Text, li .i64 a2.F.a1.N, ls a2.F.a1.Text, li .i64 a2.F.a2.N, ls a2.F.a2.Text, li .i64 a2.F.a3.N, ls a2.F.a3.Text])) :: ((7, some (.cells [li .i64 r5.1.ID, li .u8 r5.1.Mask, li .i64 r5.1.At.X, li .i64 r5.1.At.Y, li .i64 r5.1.F.a0.N, ls r5.1.F.a0.Text, li .i64 r5.1.F.a1.N, ls r5.1.F.a1.Text, li .i64 r5.1.F.a2.N, ls r5.1.F.a2.Text, li .i64 r5.1.F.a3.N, ls r5.1.F.a3.Text])) :: ((9, some (.cells [li .i64 r6.1.ID, li .u8 r6.1.Mask, li .i64 r6.1.At.X, li .i64 r6.1.At.Y, li .i64 r6.1.F.a0.N, ls r6.1.F.a0.Text, li .i64 r6.1.F.a1.N, ls r6.1.F.a1.Text, li .i64 r6.1.F.a2.N, ls r6.1.F.a2.Text, li .i64 r6.1.F.a3.N, ls r6.1.F.a3.Text])) :: ((11, some (.cells [li .i64 r7.1.ID, li .u8 r7.1.Mask, li .i64 r7.1.At.X, li .i64 r7.1.At.Y, li .i64 r7.1.F.a0.N, ls r7.1.F.a0.Text, li .i64 r7.1.F.a1.N, ls r7.1.F.a1.Text, li .i64 r7.1.F.a2.N, ls r7.1.F.a2.Text, li .i64 r7.1.F.a3.N, ls r7.1.F.a3.Text])) :: ((13, some (.cells [li .i64 i22, li .i64 i23, li .i64 i24, li .i64 i25, ls s26, li .i64 i27, ls s28, li .i64 i29, ls s30, li .i64 i31, ls s32])) :: ((14, some (.cells [li .i64 i35, li .i64 i36, li .i64 i37, li .i64 i38, ls s39, li .i64 i40, ls s41, li .i64 i42, ls s43, li .i64 i44, ls s45])) :: [])))))) (by kernel_rfl) ?_
    refine SimI.run 2 [(69, .agg [li .i64 a0.ID, li .i64 a2.At.X, li .i64 a2.At.Y, li .i64 a2.F.a0.N, ls a2.F.a0.Text, li .i64 a2.F.a1.N, ls a2.F.a1.Text, li .i64 a2.F.a2.N, ls a2.F.a2.Text, li .i64 a2.F.a3.N, ls a2.F.a3.Text]), (68, .agg [li .i64 i22, li .i64 i23, li .i64 i24, li .i64 i25, ls s26, li .i64 i27, ls s28, li .i64 i29, ls s30, li .i64 i31, ls s32])] [] (by kernel_rfl) ?_
    refine SimI.step { dst := some 70, op := POp.prim (Prim.bin BinOp.eql 28 false false) [Operand.tmp 68, Operand.tmp 69], guard := none, hints := [] } [(70, .one (lb (Thing.eqb (Thing.mk i22 (Point.mk i23 i24) (A4.mk (Field.mk i25 s26) (Field.mk i27 s28) (Field.mk i29 s30) (Field.mk i31 s32))) (Thing.mk a0.ID a2.At a2.F))))] [] (by kernel_rfl) (pOp_eff (by kernel_rfl) (by kernel_rfl) (eff_prim (by kernel_rfl) (Thing_eql (Thing.mk i22 (Point.mk i23 i24) (A4.mk (Field.mk i25 s26) (Field.mk i27 s28) (Field.mk i29 s30) (Field.mk i31 s32))) (Thing.mk a0.ID a2.At a2.F) _ _))) ?_
    refine SimI.run 1 [(71, .one (lb (Thing.eqb (Thing.mk i22 (Point.mk i23 i24) (A4.mk (Field.mk i25 s26) (Field.mk i27 s28) (Field.mk i29 s30) (Field.mk i31 s32))) (Thing.mk a0.ID a2.At a2.F))))] [] (by kernel_rfl) ?_
    refine SimI.split 71 (Thing.eqb (Thing.mk i22 (Point.mk i23 i24) (A4.mk (Field.mk i25 s26) (Field.mk i27 s28) (Field.mk i29 s30) (Field.mk i31 s32))) (Thing.mk a0.ID a2.At a2.F)) (by kernel_rfl) ?_ ?_
    · refine SimI.run 2 [(73, .agg [li .i64 a0.ID, li .i64 a2.At.X, li .i64 a2.At.Y, li .i64 a2.F.a0.N, ls a2.F.a0.Text, li .i64 a2.F.a1.N, ls a2.F.a1.Text, li .i64 a2.F.a2.N, ls a2.F.a2.Text, li .i64 a2.F.a3.N, ls a2.F.a3.Text]), (72, .agg [li .i64 i35, li .i64 i36, li .i64 i37, li .i64 i38, ls s39, li .i64 i40, ls s41, li .i64 i42, ls s43, li .i64 i44, ls s45])] [] (by kernel_rfl) ?_
      refine SimI.step { dst := some 74, op := POp.prim (Prim.bin BinOp.eql 28 false false) [Operand.tmp 72, Operand.tmp 73], guard := some (71, true), hints := [] } [(74, .one (lb (Thing.eqb (Thing.mk i35 (Point.mk i36 i37) (A4.mk (Field.mk i38 s39) (Field.mk i40 s41) (Field.mk i42 s43) (Field.mk i44 s45))) (Thing.mk a0.ID a2.At a2.F))))] [] (by kernel_rfl) (pOp_eff (by kernel_rfl) (by kernel_rfl) (eff_prim (by kernel_rfl) (Thing_eql (Thing.mk i35 (Point.mk i36 i37) (A4.mk (Field.mk i38 s39) (Field.mk i40 s41) (Field.mk i42 s43) (Field.mk i44 s45))) (Thing.mk a0.ID a2.At a2.F) _ _))) ?_
      refine SimI.run 2 [(76, .one (lb (Thing.eqb (Thing.mk i35 (Point.mk i36 i37) (A4.mk (Field.mk i38 s39) (Field.mk i40 s41) (Field.mk i42 s43) (Field.mk i44 s45))) (Thing.mk a0.ID a2.At a2.F)))), (75, .one (lb (Thing.eqb (Thing.mk i35 (Point.mk i36 i37) (A4.mk (Field.mk i38 s39) (Field.mk i40 s41) (Field.mk i42 s43) (Field.mk i44 s45))) (Thing.mk a0.ID a2.At a2.F))))] [] (by kernel_rfl) ?_
      refine SimI.split 76 (Thing.eqb (Thing.mk i35 (Point.mk i36 i37) (A4.mk (Field.mk i38 s39) (Field.mk i40 s41) (Field.mk i42 s43) (Field.mk i44 s45))) (Thing.mk a0.ID a2.At a2.F)) (by kernel_rfl) ?_ ?_
      · refine SimI.run 3 [(79, .one (lb (!(r5.2)))), (78, .one (lb (!(r5.2)))), (77, .one (lb r5.2))] [] (by kernel_rfl) ?_
        refine SimI.split 79 (!(r5.2)) (by kernel_rfl) ?_ ?_
        · refine SimI.run 25 [(6, .one (lb true)), (103, .one (lb true)), (102, .one (lb true)), (101, .tup []), (100, .tup []), (99, .tup []), (98, .tup []), (97, .tup []), (96, .tup []), (95, .tup []), (94, .tup []), (93, .tup []), (92, .tup []), (91, .tup []), (90, .tup []), (89, .tup []), (88, .tup []), (87, .one (lb true)), (86, .one (lb true)), (85, .tup []), (84, .tup []), (83, .one (lb true)), (82, .one (lb true)), (81, .tup []), (80, .tup [])] [] (by kernel_rfl) ?_
          refine SimI.done (by kernel_rfl) ?_
          refine SimE.thenN ?_
          refine Sim.ret ?_
          exact SimE.fin (by kernel_rfl)
        · refine SimI.run 4 [(83, .one (lb (!(r6.2)))), (82, .one (lb (!(r6.2)))), (81, .one (lb (!(r6.2)))), (80, .one (lb r6.2))] [] (by kernel_rfl) ?_
          refine SimI.split 83 (!(r6.2)) (by kernel_rfl) ?_ ?_
          · refine SimI.run 21 [(6, .one (lb true)), (103, .one (lb true)), (102, .one (lb true)), (101, .tup []), (100, .tup []), (99, .tup []), (98, .tup []), (97, .tup []), (96, .tup []), (95, .tup []), (94, .tup []), (93, .tup []), (92, .tup []), (91, .tup []), (90, .tup []), (89, .tup []), (88, .tup []), (87, .one (lb true)), (86, .one (lb true)), (85, .tup []), (84, .tup [])] [] (by kernel_rfl) ?_
            refine SimI.done (by kernel_rfl) ?_
            refine SimE.thenN ?_
            refine Sim.ret ?_
            exact SimE.fin (by kernel_rfl)
          · refine SimI.run 4 [(87, .one (lb (!(r7.2)))), (86, .one (lb (!(r7.2)))), (85, .one (lb (!(r7.2)))), (84, .one (lb r7.2))] [] (by kernel_rfl) ?_
            refine SimI.split 87 (!(r7.2)) (by kernel_rfl) ?_ ?_
            · refine SimI.run 17 [(6, .one (lb true)), (103, .one (lb true)), (102, .one (lb true)), (101, .tup []), (100, .tup []), (99, .tup []), (98, .tup []), (97, .tup []), (96, .tup []), (95, .tup []), (94, .tup []), (93, .tup []), (92, .tup []), (91, .tup []), (90, .tup []), (89, .tup []), (88, .tup [])] [] (by kernel_rfl) ?_
              refine SimI.done (by kernel_rfl) ?_
              refine SimE.thenN ?_
              refine Sim.ret ?_
              exact SimE.fin (by kernel_rfl)
            · refine SimI.run 17 [(6, .one (lb ((bitsI .or .u8 (bitsI .or .u8 r5.1.Mask r6.1.Mask) r7.1.Mask) == (bitsI .or .u8 r5.1.Mask r6.1.Mask)))), (103, .one (lb ((bitsI .or .u8 (bitsI .or .u8 r5.1.Mask r6.1.Mask) r7.1.Mask) == (bitsI .or .u8 r5.1.Mask r6.1.Mask)))), (102, .one (lb ((bitsI .or .u8 (bitsI .or .u8 r5.1.Mask r6.1.Mask) r7.1.Mask) == (bitsI .or .u8 r5.1.Mask r6.1.Mask)))), (101, .one (lb ((bitsI .or .u8 (bitsI .or .u8 r5.1.Mask r6.1.Mask) r7.1.Mask) == (bitsI .or .u8 r5.1.Mask r6.1.Mask)))), (100, .one (li .u8 (bitsI .or .u8 r5.1.Mask r6.1.Mask))), (99, .one (li .u8 r6.1.Mask)), (98, .one (.ptr 9 1)), (97, .one (li .u8 r5.1.Mask)), (96, .one (.ptr 7 1)), (95, .one (li .u8 (bitsI .or .u8 (bitsI .or .u8 r5.1.Mask r6.1.Mask) r7.1.Mask))), (94, .one (li .u8 r7.1.Mask)), (93, .one (.ptr 11 1)), (92, .one (li .u8 (bitsI .or .u8 r5.1.Mask r6.1.Mask))), (91, .one (li .u8 r6.1.Mask)), (90, .one (.ptr 9 1)), (89, .one (li .u8 r5.1.Mask)), (88, .one (.ptr 7 1))] [] (by kernel_rfl) ?_
              refine SimI.done (by kernel_rfl) ?_
              refine SimE.thenN ?_
              refine Sim.ret ?_
              exact SimE.fin (by kernel_rfl)
      · refine SimI.run 28 [(6, .one (lb false)), (103, .one (lb false)), (102, .tup []), (101, .tup []), (100, .tup []), (99, .tup []), (98, .tup []), (97, .tup []), (96, .tup []), (95, .tup []), (94, .tup []), (93, .tup []), (92, .tup []), (91, .tup []), (90, .tup []), (89, .tup []), (88, .tup []), (87, .tup []), (86, .tup []), (85, .tup []), (84, .tup []), (83, .tup []), (82, .tup []), (81, .tup []), (80, .tup []), (79, .tup []), (78, .tup []), (77, .tup [])] [] (by kernel_rfl) ?_
        refine SimI.done (by kernel_rfl) ?_
        refine SimE.thenN ?_
        refine Sim.ret ?_
        exact SimE.fin (by kernel_rfl)
    · refine SimI.run 33 [(6, .one (lb false)), (103, .one (lb false)), (102, .tup []), (101, .tup []), (100, .tup []), (99, .tup []), (98, .tup []), (97, .tup []), (96, .tup []), (95, .tup []), (94, .tup []), (93, .tup []), (92, .tup []), (91, .tup []), (90, .tup []), (89, .tup []), (88, .tup []), (87, .tup []), (86, .tup []), (85, .tup []), (84, .tup []), (83, .tup []), (82, .tup []), (81, .tup []), (80, .tup []), (79, .tup []), (78, .tup []), (77, .tup []), (76, .one (lb false)), (75, .one (lb false)), (74, .tup []), (73, .tup []), (72, .tup [])] [] (by kernel_rfl) ?_
      refine SimI.done (by kernel_rfl) ?_
      refine SimE.thenN ?_
      refine Sim.ret ?_
      exact SimE.fin (by kernel_rfl)

def F6_j33 (n : Nat) (a0 : Thing) (a1 : Thing) (a2 : Thing) (r5 : (Delta × Bool)) (r6 : (Delta × Bool)) (r7 : (Delta × Bool)) (i22 : Int) (i23 : Int) (i24 : Int) (i25 : Int) (s26 : ByteArray) (i27 : Int) (s28 : ByteArray) (i29 : Int) (s30 : ByteArray) (i31 : Int) (s32 : ByteArray) : Option Bool :=
    if r7.2 then
      (F23 n a0 r7.1).bind fun (r34 : Thing) =>
      F6_j46 n a0 a2 r5 r6 r7 i22 i23 i24 i25 s26 i27 s28 i29 s30 i31 s32 r34.ID r34.At.X r34.At.Y r34.F.a0.N r34.F.a0.Text r34.F.a1.N r34.F.a1.Text r34.F.a2.N r34.F.a2.Text r34.F.a3.N r34.F.a3.Text
    else
      F6_j46 n a0 a2 r5 r6 r7 i22 i23 i24 i25 s26 i27 s28 i29 s30 i31 s32 a0.ID a0.At.X a0.At.Y a0.F.a0.N a0.F.a0.Text a0.F.a1.N a0.F.a1.Text a0.F.a2.N a0.F.a2.Text a0.F.a3.N a0.F.a3.Text
theorem F6_j33_ok (n : Nat) (a0 : Thing) (a1 : Thing) (a2 : Thing) (r5 : (Delta × Bool)) (r6 : (Delta × Bool)) (r7 : (Delta × Bool)) (i22 : Int) (i23 : Int) (i24 : Int) (i25 : Int) (s26 : ByteArray) (i27 : Int) (s28 : ByteArray) (i29 : Int) (s30 : ByteArray) (i31 : Int) (s32 : ByteArray) : Sim Try.prog D (n + 8) pc6_c41 [(3, .one (.ptr 3 0)), (5, .one (.ptr 5 0)), (7, .one (.ptr 7 0)), (8, .one (lb r5.2)), (9, .one (.ptr 9 0)), (10, .one (lb r6.2)), (11, .one (.ptr 11 0)), (12, .one (lb r7.2)), (13, .one (.ptr 13 0))] ((3, some (.cells [li .i64 a0.ID, li .i64 a0.At.X, li .i64 a0.At.Y, li .i64 a0.F.a0.N, ls a0.F.a0.Text, li .i64 a0.F.a1.N, ls a0.F.a1.Text, li .i64 a0.F.a2.N, ls a0.F.a2.Text, li .i64 a0.F.a3.N, ls a0.F.a3.Text])) :: ((5, some (.cells [li .i64 a0.ID, li .i64 a2.At.X, li .i64 a2.At.Y, li .i64 a2.F.a0.N, ls a2.F.a0.Text, li .i64 a2.F.a1.N, ls a2.F.a1.Text, li .i64 a2.F.a2.N, ls a2.F.a2.Text, li .i64 a2.F.a3.N, ls a2.F.a3.Text])) :: ((7, some (.cells [li .i64 r5.1.ID, li .u8 r5.1.Mask, li .i64 r5.1.At.X, li .i64 r5.1.At.Y, li .i64 r5.1.F.a0.N, ls r5.1.F.a0.Text, li .i64 r5.1.F.a1.N, ls r5.1.F.a1.Text, li .i64 r5.1.F.a2.N, ls r5.1.F.a2.Text, li .i64 r5.1.F.a3.N, ls r5.1.F.a3.Text])) :: ((9, some (.cells [li .i64 r6.1.ID, li .u8 r6.1.Mask, li .i64 r6.1.At.X, li .i64 r6.1.At.Y, li .i64 r6.1.F.a0.N, ls r6.1.F.a0.Text, li .i64 r6.1.F.a1.N, ls r6.1.F.a1.Text, li .i64 r6.1.F.a2.N, ls r6.1.F.a2.Text, li .i64 r6.1.F.a3.N, ls r6.1.F.a3.Text])) :: ((11, some (.cells [li .i64 r7.1.ID, li .u8 r7.1.Mask, li .i64 r7.1.At.X, li .i64 r7.1.At.Y, li .i64 r7.1.F.a0.N, ls r7.1.F.a0.Text, li .i64 r7.1.F.a1.N, ls r7.1.F.a1.Text, li .i64 r7.1.F.a2.N, ls r7.1.F.a2.Text, li .i64 r7.1.F.a3.N, ls r7.1.F.a3.Text])) :: ((13, some (.cells [li .i64 i22, li .i64 i23, li .i64 i24, li .i64 i25, ls s26, li .i64 i27, ls s28, li .i64 i29, ls s30, li .i64 i31, ls s32])) :: [])))))) (F6_j33 n a0 a1 a2 r5 r6 r7 i22 i23 i24 i25 s26 i27 s28 i29 s30 i31 s32) (QF pc6_r 0 F6_e) := by
    unfold F6_j33
    refine Sim.seq ?_
    refine Sim.region [(3, .one (.ptr 3 0)), (5, .one (.ptr 5 0)), (7, .one (.ptr 7 0)), (8, .one (lb r5.2)), (9, .one (.ptr 9 0)), (10, .one (lb r6.2)), (11, .one (.ptr 11 0)), (12, .one (lb r7.2)), (13, .one (.ptr 13 0))] ((3, some (.cells [li .i64 a0.ID, li .i64 a0.At.X, li .i64 a0.At.Y, li .i64 a0.F.a0.N, ls a0.F.a0.Text, li .i64 a0.F.a1.N, ls a0.F.a1.Text, li .i64 a0.F.a2.N, ls a0.F.a2.Text, li .i64 a0.F.a3.N, ls a0.F.a3.Text])) :: ((5, some (.cells [li .i64 a0.ID, li .i64 a2.At.X, li .i64 a2.At.Y, li .i64 a2.F.a0.N, ls a2.F.a0.Text, li .i64 a2.F.a1.N, ls a2.F.a1.Text, li .i64 a2.F.a2.N, ls a2.F.a2.Text, li .i64 a2.F.a3.N, ls a2.F.a3.Text])) :: ((7, some (.cells [li .i64 r5.1.ID, li .u8 r5.1.Mask, li .i64 r5.1.At.X, li .i64 r5.1.At.Y, li .i64 r5.1.F.a0.N, ls r5.1.F.a0.Text, li .i64 r5.1.F.a1.N, ls r5.1.F.a1.Text, li .i64 r5.1.F.a2.N, ls r5.1.F.a2.Text, li .i64 r5.1.F.a3.N, ls r5.1.F.a3.Text])) :: ((9, some (.cells [li .i64 r6.1.ID, li .u8 r6.1.Mask, li .i64 r6.1.At.X, li .i64 r6.1.At.Y, li .i64 r6.1.F.a0.N, ls r6.1.F.a0.Text, li .i64 r6.1.F.a1.N, ls r6.1.F.a1.Text, li .i64 r6.1.F.a2.N, ls r6.1.F.a2.Text, li .i64 r6.1.F.a3.N, ls r6.1.F.a3.Text])) :: ((11, some (.cells [li .i64 r7.1.ID, li .u8 r7.1.Mask, li .i64 r7.1.At.X, li .i64 r7.1.At.Y, li .i64 r7.1.F.a0.N, ls r7.1.F.a0.Text, li .i64 r7.1.F.a1.N, ls r7.1.F.a1.Text, li .i64 r7.1.F.a2.N, ls r7.1.F.a2.Text, li .i64 r7.1.F.a3.N, ls r7.1.F.a3.Text])) :: ((13, some (.cells [li .i64 i22, li .i64 i23, li .i64 i24, li .i64 i25, ls s26, li .i64 i27, ls s28, li .i64 i29, ls s30, li .i64 i31, ls s32])) :: [])))))) (by kernel_rfl) ?_
    refine SimI.run 3 [(14, .one (.ptr 14 0)), (63, .agg [li .i64 a0.ID, li .i64 a0.At.X, li .i64 a0.At.Y, li .i64 a0.F.a0.N, ls a0.F.a0.Text, li .i64 a0.F.a1.N, ls a0.F.a1.Text, li .i64 a0.F.a2.N, ls a0.F.a2.Text, li .i64 a0.F.a3.N, ls a0.F.a3.Text])] [(14, some (.cells [li .i64 a0.ID, li .i64 a0.At.X, li .i64 a0.At.Y, li .i64 a0.F.a0.N, ls a0.F.a0.Text, li .i64 a0.F.a1.N, ls a0.F.a1.Text, li .i64 a0.F.a2.N, ls a0.F.a2.Text, li .i64 a0.F.a3.N, ls a0.F.a3.Text])), (14, some (.cells [li .i64 0, li .i64 0, li .i64 0, li .i64 0, ls ByteArray.empty, li .i64 0, ls ByteArray.empty, li .i64 0, ls ByteArray.empty, li .i64 0, ls ByteArray.empty]))] (by kernel_rfl) ?_
    refine SimI.done (by kernel_rfl) ?_
    refine SimE.thenN ?_
    refine Sim.seq ?_
    refine Sim.seq ?_
    refine Sim.region0 ?_
    refine SimI.run 1 [(64, .one (lb r7.2))] [] (by kernel_rfl) ?_
    refine SimI.done (by kernel_rfl) ?_
    refine SimE.thenN ?_
    refine Sim.cond r7.2 (by kernel_rfl) ?_ ?_
    · refine Sim.region0 ?_
      refine SimI.run 2 [(66, .agg [li .i64 r7.1.ID, li .u8 r7.1.Mask, li .i64 r7.1.At.X, li .i64 r7.1.At.Y, li .i64 r7.1.F.a0.N, ls r7.1.F.a0.Text, li .i64 r7.1.F.a1.N, ls r7.1.F.a1.Text, li .i64 r7.1.F.a2.N, ls r7.1.F.a2.Text, li .i64 r7.1.F.a3.N, ls r7.1.F.a3.Text]), (65, .agg [li .i64 a0.ID, li .i64 a0.At.X, li .i64 a0.At.Y, li .i64 a0.F.a0.N, ls a0.F.a0.Text, li .i64 a0.F.a1.N, ls a0.F.a1.Text, li .i64 a0.F.a2.N, ls a0.F.a2.Text, li .i64 a0.F.a3.N, ls a0.F.a3.Text])] [] (by kernel_rfl) ?_
      refine SimI.bind (og := F23 n a0 r7.1) { dst := some 67, op := POp.call true [[], []] 23 [Operand.tmp 65, Operand.tmp 66], guard := none, hints := [] } (fun r34 => [(67, .agg [li .i64 r34.ID, li .i64 r34.At.X, li .i64 r34.At.Y, li .i64 r34.F.a0.N, ls r34.F.a0.Text, li .i64 r34.F.a1.N, ls r34.F.a1.Text, li .i64 r34.F.a2.N, ls r34.F.a2.Text, li .i64 r34.F.a3.N, ls r34.F.a3.Text])]) (fun r34 => []) (by kernel_rfl) (fun r34 hr => pOp_eff (by kernel_rfl) (by kernel_rfl) (eff_call (ARGS := [.agg [li .i64 a0.ID, li .i64 a0.At.X, li .i64 a0.At.Y, li .i64 a0.F.a0.N, ls a0.F.a0.Text, li .i64 a0.F.a1.N, ls a0.F.a1.Text, li .i64 a0.F.a2.N, ls a0.F.a2.Text, li .i64 a0.F.a3.N, ls a0.F.a3.Text], .agg [li .i64 r7.1.ID, li .u8 r7.1.Mask, li .i64 r7.1.At.X, li .i64 r7.1.At.Y, li .i64 r7.1.F.a0.N, ls r7.1.F.a0.Text, li .i64 r7.1.F.a1.N, ls r7.1.F.a1.Text, li .i64 r7.1.F.a2.N, ls r7.1.F.a2.Text, li .i64 r7.1.F.a3.N, ls r7.1.F.a3.Text]]) (by kernel_rfl) (args_clean (by kernel_rfl) (args_clean (by kernel_rfl) args_nil)) (F23_ok n a0 r7.1 r34 hr) (by kernel_rfl))) (fun r34 => ?_)
      refine SimI.run 1 [] [(14, some (.cells [li .i64 r34.ID, li .i64 r34.At.X, li .i64 r34.At.Y, li .i64 r34.F.a0.N, ls r34.F.a0.Text, li .i64 r34.F.a1.N, ls r34.F.a1.Text, li .i64 r34.F.a2.N, ls r34.F.a2.Text, li .i64 r34.F.a3.N, ls r34.F.a3.Text]))] (by kernel_rfl) ?_
      refine SimI.done (by kernel_rfl) ?_
      refine SimE.thenN ?_
      refine Sim.pre (ts := [5, 7, 8, 9, 10, 11, 12, 13, 14]) (os := [3, 5, 7, 9, 11, 13, 14]) [(5, .one (.ptr 5 0)), (7, .one (.ptr 7 0)), (8, .one (lb r5.2)), (9, .one (.ptr 9 0)), (10, .one (lb r6.2)), (11, .one (.ptr 11 0)), (12, .one (lb r7.2)), (13, .one (.ptr 13 0)), (14, .one (.ptr 14 0))] ((5, some (.cells [li .i64 a0.ID, li .i64 a2.At.X, li .i64 a2.At.Y, li .i64 a2.F.a0.N, ls a2.F.a0.Text, li .i64 a2.F.a1.N, ls a2.F.a1.Text, li .i64 a2.F.a2.N, ls a2.F.a2.Text, li .i64 a2.F.a3.N, ls a2.F.a3.Text])) :: ((7, some (.cells [li .i64 r5.1.ID, li .u8 r5.1.Mask, li .i64 r5.1.At.X, li .i64 r5.1.At.Y, li .i64 r5.1.F.a0.N, ls r5.1.F.a0.Text, li .i64 r5.1.F.a1.N, ls r5.1.F.a1.Text, li .i64 r5.1.F.a2.N, ls r5.1.F.a2.Text, li .i64 r5.1.F.a3.N, ls r5.1.F.a3.Text])) :: ((9, some (.cells [li .i64 r6.1.ID, li .u8 r6.1.Mask, li .i64 r6.1.At.X, li .i64 r6.1.At.Y, li .i64 r6.1.F.a0.N, ls r6.1.F.a0.Text, li .i64 r6.1.F.a1.N, ls r6.1.F.a1.Text, li .i64 r6.1.F.a2.N, ls r6.1.F.a2.Text, li .i64 r6.1.F.a3.N, ls r6.1.F.a3.Text])) :: ((11, some (.cells [li .i64 r7.1.ID, li .u8 r7.1.Mask, li .i64 r7.1.At.X, li .i64 r7.1.At.Y, li .i64 r7.1.F.a0.N, ls r7.1.F.a0.Text, li .i64 r7.1.F.a1.N, ls r7.1.F.a1.Text, li .i64 r7.1.F.a2.N, ls r7.1.F.a2.Text, li .i64 r7.1.F.a3.N, ls r7.1.F.a3.Text])) :: ((13, some (.cells [li .i64 i22, li .i64 i23, li .i64 i24, li .i64 i25, ls s26, li .i64 i27, ls s28, li .i64 i29, ls s30, li .i64 i31, ls s32])) :: ((14, some (.cells [li .i64 r34.ID, li .i64 r34.At.X, li .i64 r34.At.Y, li .i64 r34.F.a0.N, ls r34.F.a0.Text, li .i64 r34.F.a1.N, ls r34.F.a1.Text, li .i64 r34.F.a2.N, ls r34.F.a2.Text, li .i64 r34.F.a3.N, ls r34.F.a3.Text])) :: [])))))) (by kernel_rfl) (by kernel_rfl) (by kernel_rfl) ?_
      exact F6_j46_ok n a0 a1 a2 r5 r6 r7 i22 i23 i24 i25 s26 i27 s28 i29 s30 i31 s32 r34.ID r34.At.X r34.At.Y r34.F.a0.N r34.F.a0.Text r34.F.a1.N r34.F.a1.Text r34.F.a2.N r34.F.a2.Text r34.F.a3.N r34.F.a3.Text
    · refine Sim.skip ?_
      refine SimE.thenN ?_
      refine Sim.pre (ts := [5, 7, 8, 9, 10, 11, 12, 13, 14]) (os := [3, 5, 7, 9, 11, 13, 14]) [(5, .one (.ptr 5 0)), (7, .one (.ptr 7 0)), (8, .one (lb r5.2)), (9, .one (.ptr 9 0)), (10, .one (lb r6.2)), (11, .one (.ptr 11 0)), (12, .one (lb r7.2)), (13, .one (.ptr 13 0)), (14, .one (.ptr 14 0))] ((5, some (.cells [li .i64 a0.ID, li .i64 a2.At.X, li .i64 a2.At.Y, li .i64 a2.F.a0.N, ls a2.F.a0.Text, li .i64 a2.F.a1.N, ls a2.F.a1.Text, li .i64 a2.F.a2.N, ls a2.F.a2.Text, li .i64 a2.F.a3.N, ls a2.F.a3.Text])) :: ((7, some (.cells [li .i64 r5.1.ID, li .u8 r5.1.Mask, li .i64 r5.1.At.X, li .i64 r5.1.At.Y, li .i64 r5.1.F.a0.N, ls r5.1.F.a0.Text, li .i64 r5.1.F.a1.N, ls r5.1.F.a1.Text, li .i64 r5.1.F.a2.N, ls r5.1.F.a2.Text, li .i64 r5.1.F.a3.N, ls r5.1.F.a3.Text])) :: ((9, some (.cells [li .i64 r6.1.ID, li .u8 r6.1.Mask, li .i64 r6.1.At.X, li .i64 r6.1.At.Y, li .i64 r6.1.F.a0.N, ls r6.1.F.a0.Text, li .i64 r6.1.F.a1.N, ls r6.1.F.a1.Text, li .i64 r6.1.F.a2.N, ls r6.1.F.a2.Text, li .i64 r6.1.F.a3.N, ls r6.1.F.a3.Text])) :: ((11, some (.cells [li .i64 r7.1.ID, li .u8 r7.1.Mask, li .i64 r7.1.At.X, li .i64 r7.1.At.Y, li .i64 r7.1.F.a0.N, ls r7.1.F.a0.Text, li .i64 r7.1.F.a1.N, ls r7.1.F.a1.Text, li .i64 r7.1.F.a2.N, ls r7.1.F.a2.Text, li .i64 r7.1.F.a3.N, ls r7.1.F.a3.Text])) :: ((13, some (.cells [li .i64 i22, li .i64 i23, li .i64 i24, li .i64 i25, ls s26, li .i64 i27, ls s28, li .i64 i29, ls s30, li .i64 i31, ls s32])) :: ((14, some (.cells [li .i64 a0.ID, li .i64 a0.At.X, li .i64 a0.At.Y, li .i64 a0.F.a0.N, ls a0.F.a0.Text, li .i64 a0.F.a1.N, ls a0.F.a1.Text, li .i64 a0.F.a2.N, ls a0.F.a2.Text, li .i64 a0.F.a3.N, ls a0.F.a3.Text])) :: [])))))) (by kernel_rfl) (by kernel_rfl) (by kernel_rfl) ?_
      exact F6_j46_ok n a0 a1 a2 r5 r6 r7 i22 i23 i24 i25 s26 i27 s28 i29 s30 i31 s32 a0.ID a0.At.X a0.At.Y a0.F.a0.N a0.F.a0.Text a0.F.a1.N a0.F.a1.Text a0.F.a2.N a0.F.a2.Text a0.F.a3.N a0.F.a3.Text

def F6_j20 (n : Nat) (a0 : Thing) (a1 : Thing) (a2 : Thing) (r5 : (Delta × Bool)) (r6 : (Delta × Bool)) (r7 : (Delta × Bool)) (i9 : Int) (i10 : Int) (i11 : Int) (i12 : Int) (s13 : ByteArray) (i14 : Int) (s15 : ByteArray) (i16 : Int) (s17 : ByteArray) (i18 : Int) (s19 : ByteArray) : Option Bool :=
    if r6.2 then
      (F23 n (Thing.mk i9 (Point.mk i10 i11) (A4.mk (Field.mk i12 s13) (Field.mk i14 s15) (Field.mk i16 s17) (Field.mk i18 s19))) r6.1).bind fun (r21 : Thing) =>
      F6_j33 n a0 a1 a2 r5 r6 r7 r21.ID r21.At.X r21.At.Y r21.F.a0.N r21.F.a0.Text r21.F.a1.N r21.F.a1.Text r21.F.a2.N r21.F.a2.Text r21.F.a3.N r21.F.a3.Text
    else
      F6_j33 n a0 a1 a2 r5 r6 r7 i9 i10 i11 i12 s13 i14 s15 i16 s17 i18 s19
theorem F6_j20_ok (n : Nat) (a0 : Thing) (a1 : Thing) (a2 : Thing) (r5 : (Delta × Bool)) (r6 : (Delta × Bool)) (r7 : (Delta × Bool)) (i9 : Int) (i10 : Int) (i11 : Int) (i12 : Int) (s13 : ByteArray) (i14 : Int) (s15 : ByteArray) (i16 : Int) (s17 : ByteArray) (i18 : Int) (s19 : ByteArray) : Sim Try.prog D (n + 8) pc6_c42 [(3, .one (.ptr 3 0)), (5, .one (.ptr 5 0)), (7, .one (.ptr 7 0)), (8, .one (lb r5.2)), (9, .one (.ptr 9 0)), (10, .one (lb r6.2)), (11, .one (.ptr 11 0)), (12, .one (lb r7.2)), (13, .one (.ptr 13 0))] ((3, some (.cells [li .i64 a0.ID, li .i64 a0.At.X, li .i64 a0.At.Y, li .i64 a0.F.a0.N, ls a0.F.a0.Text, li .i64 a0.F.a1.N, ls a0.F.a1.Text, li .i64 a0.F.a2.N, ls a0.F.a2.Text, li .i64 a0.F.a3.N, ls a0.F.a3.Text])) :: ((5, some (.cells [li .i64 a0.ID, li .i64 a2.At.X, li .i64 a2.At.Y, li .i64 a2.F.a0.N, ls a2.F.a0.Text, li .i64 a2.F.a1.N, ls a2.F.a1.Text, li .i64 a2.F.a2.N, ls a2.F.a2.Text, li .i64 a2.F.a3.N, ls a2.F.a3.Text])) :: ((7, some (.cells [li .i64 r5.1.ID, li .u8 r5.1.Mask, li .i64 r5.1.At.X, li .i64 r5.1.At.Y, li .i64 r5.1.F.a0.N, ls r5.1.F.a0.Text, li .i64 r5.1.F.a1.N, ls r5.1.F.a1.Text, li .i64 r5.1.F.a2.N, ls r5.1.F.a2.Text, li .i64 r5.1.F.a3.N, ls r5.1.F.a3.Text])) :: ((9, some (.cells [li .i64 r6.1.ID, li .u8 r6.1.Mask, li .i64 r6.1.At.X, li .i64 r6.1.At.Y, li .i64 r6.1.F.a0.N, ls r6.1.F.a0.Text, li .i64 r6.1.F.a1.N, ls r6.1.F.a1.Text, li .i64 r6.1.F.a2.N, ls r6.1.F.a2.Text, li .i64 r6.1.F.a3.N, ls r6.1.F.a3.Text])) :: ((11, some (.cells [li .i64 r7.1.ID, li .u8 r7.1.Mask, li .i64 r7.1.At.X, li .i64 r7.1.At.Y, li .i64 r7.1.F.a0.N, ls r7.1.F.a0.Text, li .i64 r7.1.F.a1.N, ls r7.1.F.a1.Text, li .i64 r7.1.F.a2.N, ls r7.1.F.a2.Text, li .i64 r7.1.F.a3.N, ls r7.1.F.a3.Text])) :: ((13, some (.cells [li .i64 i9, li .i64 i10, li .i64 i11, li .i64 i12, ls s13, li .i64 i14, ls s15, li .i64 i16, ls s17, li .i64 i18, ls s19])) :: [])))))) (F6_j20 n a0 a1 a2 r5 r6 r7 i9 i10 i11 i12 s13 i14 s15 i16 s17 i18 s19) (QF pc6_r 0 F6_e) := by
    unfold F6_j20
    refine Sim.seq ?_
    refine Sim.seq ?_
    refine Sim.region [(3, .one (.ptr 3 0)), (5, .one (.ptr 5 0)), (7, .one (.ptr 7 0)), (8, .one (lb r5.2)), (9, .one (.ptr 9 0)), (10, .one (lb r6.2)), (11, .one (.ptr 11 0)), (12, .one (lb r7.2)), (13, .one (.ptr 13 0))] ((3, some (.cells [li .i64 a0.ID, li .i64 a0.At.X, li .i64 a0.At.Y, li .i64 a0.F.a0.N, ls a0.F.a0.Text, li .i64 a0.F.a1.N, ls a0.F.a1.Text, li .i64 a0.F.a2.N, ls a0.F.a2.Text, li .i64 a0.F.a3.N, ls a0.F.a3.Text])) :: ((5, some (.cells [li .i64 a0.ID, li .i64 a2.At.X, li .i64 a2.At.Y, li .i64 a2.F.a0.N, ls a2.F.a0.Text, li .i64 a2.F.a1.N, ls a2.F.a1.Text, li .i64 a2.F.a2.N, ls a2.F.a2.Text, li .i64 a2.F.a3.N, ls a2.F.a3.Text])) :: ((7, some (.cells [li .i64 r5.1.ID, li .u8 r5.1.Mask, li .i64 r5.1.At.X, li .i64 r5.1.At.Y, li .i64 r5.1.F.a0.N, ls r5.1.F.a0.Text, li .i64 r5.1.F.a1.N, ls r5.1.F.a1.Text, li .i64 r5.1.F.a2.N, ls r5.1.F.a2.Text, li .i64 r5.1.F.a3.N, ls r5.1.F.a3.Text])) :: ((9, some (.cells [li .i64 r6.1.ID, li .u8 r6.1.Mask, li .i64 r6.1.At.X, li .i64 r6.1.At.Y, li .i64 r6.1.F.a0.N, ls r6.1.F.a0.Text, li .i64 r6.1.F.a1.N, ls r6.1.F.a1.Text, li .i64 r6.1.F.a2.N, ls r6.1.F.a2.Text, li .i64 r6.1.F.a3.N, ls r6.1.F.a3.Text])) :: ((11, some (.cells [li .i64 r7.1.ID, li .u8 r7.1.Mask, li .i64 r7.1.At.X, li .i64 r7.1.At.Y, li .i64 r7.1.F.a0.N, ls r7.1.F.a0.Text, li .i64 r7.1.F.a1.N, ls r7.1.F.a1.Text, li .i64 r7.1.F.a2.N, ls r7.1.F.a2.Text, li .i64 r7.1.F.a3.N, ls r7.1.F.a3.Text])) :: ((13, some (.cells [li .i64 i9, li .i64 i10, li .i64 i11, li .i64 i12, ls s13, li .i64 i14, ls s15, li .i64 i16, ls s17, li .i64 i18, ls s19])) :: [])))))) (by kernel_rfl) ?_
    refine SimI.run 1 [(59, .one (lb r6.2))] [] (by kernel_rfl) ?_
    refine SimI.done (by kernel_rfl) ?_
    refine SimE.thenN ?_
    refine Sim.cond r6.2 (by kernel_rfl) ?_ ?_
    · refine Sim.region0 ?_
      refine SimI.run 2 [(61, .agg [li .i64 r6.1.ID, li .u8 r6.1.Mask, li .i64 r6.1.At.X, li .i64 r6.1.At.Y, li .i64 r6.1.F.a0.N, ls r6.1.F.a0.Text, li .i64 r6.1.F.a1.N, ls r6.1.F.a1.Text, li .i64 r6.1.F.a2.N, ls r6.1.F.a2.Text, li .i64 r6.1.F.a3.N, ls r6.1.F.a3.Text]), (60, .agg [li .i64 i9, li .i64 i10, li .i64 i11, li .i64 i12, ls s13, li .i64 i14, ls s15, li .i64 i16, ls s17, li .i64 i18, ls s19])] [] (by kernel_rfl) ?_
      refine SimI.bind (og := F23 n (Thing.mk i9 (Point.mk i10 i11) (A4.mk (Field.mk i12 s13) (Field.mk i14 s15) (Field.mk i16 s17) (Field.mk i18 s19))) r6.1) { dst := some 62, op := POp.call true [[], []] 23 [Operand.tmp 60, Operand.tmp 61], guard := none, hints := [] } (fun r21 => [(62, .agg [li .i64 r21.ID, li .i64 r21.At.X, li .i64 r21.At.Y, li .i64 r21.F.a0.N, ls r21.F.a0.Text, li .i64 r21.F.a1.N, ls r21.F.a1.Text, li .i64 r21.F.a2.N, ls r21.F.a2.Text, li .i64 r21.F.a3.N, ls r21.F.a3.Text])]) (fun r21 => []) (by kernel_rfl) (fun r21 hr => pOp_eff (by kernel_rfl) (by kernel_rfl) (eff_call (ARGS := [.agg [li .i64 i9, li .i64 i10, li .i64 i11, li .i64 i12, ls s13, li .i64 i14, ls s15, li .i64 i16, ls s17, li .i64 i18, ls s19], .agg [li .i64 r6.1.ID, li .u8 r6.1.Mask, li .i64 r6.1.At.X, li .i64 r6.1.At.Y, li .i64 r6.1.F.a0.N, ls r6.1.F.a0.Text, li .i64 r6.1.F.a1.N, ls r6.1.F.a1.Text, li .i64 r6.1.F.a2.N, ls r6.1.F.a2.Text, li .i64 r6.1.F.a3.N, ls r6.1.F.a3.Text]]) (by kernel_rfl) (args_clean (by kernel_rfl) (args_clean (by kernel_rfl) args_nil)) (F23_ok n (Thing.mk i9 (Point.mk i10 i11) (A4.mk (Field.mk i12 s13) (Field.mk i14 s15) (Field.mk i16 s17) (Field.mk i18 s19))) r6.1 r21 hr) (by kernel_rfl))) (fun r21 => ?_)
      refine SimI.run 1 [] [(13, some (.cells [li .i64 r21.ID, li .i64 r21.At.X, li .i64 r21.At.Y, li .i64 r21.F.a0.N, ls r21.F.a0.Text, li .i64 r21.F.a1.N, ls r21.F.a1.Text, li .i64 r21.F.a2.N, ls r21.F.a2.Text, li .i64 r21.F.a3.N, ls r21.F.a3.Text]))] (by kernel_rfl) ?_
      refine SimI.done (by kernel_rfl) ?_
      refine SimE.thenN ?_
      refine Sim.pre (ts := [3, 5, 7, 8, 9, 10, 11, 12, 13]) (os := [3, 5, 7, 9, 11, 13]) [(3, .one (.ptr 3 0)), (5, .one (.ptr 5 0)), (7, .one (.ptr 7 0)), (8, .one (lb r5.2)), (9, .one (.ptr 9 0)), (10, .one (lb r6.2)), (11, .one (.ptr 11 0)), (12, .one (lb r7.2)), (13, .one (.ptr 13 0))] ((3, some (.cells [li .i64 a0.ID, li .i64 a0.At.X, li .i64 a0.At.Y, li .i64 a0.F.a0.N, ls a0.F.a0.Text, li .i64 a0.F.a1.N, ls a0.F.a1.Text, li .i64 a0.F.a2.N, ls a0.F.a2.Text, li .i64 a0.F.a3.N, ls a0.F.a3.Text])) :: ((5, some (.cells [li .i64 a0.ID, li .i64 a2.At.X, li .i64 a2.At.Y, li .i64 a2.F.a0.N, ls a2.F.a0.Text, li .i64 a2.F.a1.N, ls a2.F.a1.Text, li .i64 a2.F.a2.N, ls a2.F.a2.Text, li .i64 a2.F.a3.N, ls a2.F.a3.Text])) :: ((7, some (.cells [li .i64 r5.1.ID, li .u8 r5.1.Mask, li .i64 r5.1.At.X, li .i64 r5.1.At.Y, li .i64 r5.1.F.a0.N, ls r5.1.F.a0.Text, li .i64 r5.1.F.a1.N, ls r5.1.F.a1.Text, li .i64 r5.1.F.a2.N, ls r5.1.F.a2.Text, li .i64 r5.1.F.a3.N, ls r5.1.F.a3.Text])) :: ((9, some (.cells [li .i64 r6.1.ID, li .u8 r6.1.Mask, li .i64 r6.1.At.X, li .i64 r6.1.At.Y, li .i64 r6.1.F.a0.N, ls r6.1.F.a0.Text, li .i64 r6.1.F.a1.N, ls r6.1.F.a1.Text, li .i64 r6.1.F.a2.N, ls r6.1.F.a2.Text, li .i64 r6.1.F.a3.N, ls r6.1.F.a3.Text])) :: ((11, some (.cells [li .i64 r7.1.ID, li .u8 r7.1.Mask, li .i64 r7.1.At.X, li .i64 r7.1.At.Y, li .i64 r7.1.F.a0.N, ls r7.1.F.a0.Text, li .i64 r7.1.F.a1.N, ls r7.1.F.a1.Text, li .i64 r7.1.F.a2.N, ls r7.1.F.a2.Text, li .i64 r7.1.F.a3.N, ls r7.1.F.a3.Text])) :: ((13, some (.cells [li .i64 r21.ID, li .i64 r21.At.X, li .i64 r21.At.Y, li .i64 r21.F.a0.N, ls r21.F.a0.Text, li .i64 r21.F.a1.N, ls r21.F.a1.Text, li .i64 r21.F.a2.N, ls r21.F.a2.Text, li .i64 r21.F.a3.N, ls r21.F.a3.Text])) :: [])))))) (by kernel_rfl) (by kernel_rfl) (by kernel_rfl) ?_
      exact F6_j33_ok n a0 a1 a2 r5 r6 r7 r21.ID r21.At.X r21.At.Y r21.F.a0.N r21.F.a0.Text r21.F.a1.N r21.F.a1.Text r21.F.a2.N r21.F.a2.Text r21.F.a3.N r21.F.a3.Text
    · refine Sim.skip ?_
      refine SimE.thenN ?_
      refine Sim.pre (ts := [3, 5, 7, 8, 9, 10, 11, 12, 13]) (os := [3, 5, 7, 9, 11, 13]) [(3, .one (.ptr 3 0)), (5, .one (.ptr 5 0)), (7, .one (.ptr 7 0)), (8, .one (lb r5.2)), (9, .one (.ptr 9 0)), (10, .one (lb r6.2)), (11, .one (.ptr 11 0)), (12, .one (lb r7.2)), (13, .one (.ptr 13 0))] ((3, some (.cells [li .i64 a0.ID, li .i64 a0.At.X, li .i64 a0.At.Y, li .i64 a0.F.a0.N, ls a0.F.a0.Text, li .i64 a0.F.a1.N, ls a0.F.a1.Text, li .i64 a0.F.a2.N, ls a0.F.a2.Text, li .i64 a0.F.a3.N, ls a0.F.a3.Text])) :: ((5, some (.cells [li .i64 a0.ID, li .i64 a2.At.X, li .i64 a2.At.Y, li .i64 a2.F.a0.N, ls a2.F.a0.Text, li .i64 a2.F.a1.N, ls a2.F.a1.Text, li .i64 a2.F.a2.N, ls a2.F.a2.Text, li .i64 a2.F.a3.N, ls a2.F.a3.Text])) :: ((7, some (.cells [li .i64 r5.1.ID, li .u8 r5.1.Mask, li .i64 r5.1.At.X, li .i64 r5.1.At.Y, li .i64 r5.1.F.a0.N, ls r5.1.F.a0.Text, li .i64 r5.1.F.a1.N, ls r5.1.F.a1.Text, li .i64 r5.1.F.a2.N, ls r5.1.F.a2.Text, li .i64 r5.1.F.a3.N, ls r5.1.F.a3.Text])) :: ((9, some (.cells [li .i64 r6.1.ID, li .u8 r6.1.Mask, li .i64 r6.1.At.X, li .i64 r6.1.At.Y, li .i64 r6.1.F.a0.N, ls r6.1.F.a0.Text, li .i64 r6.1.F.a1.N, ls r6.1.F.a1.Text, li .i64 r6.1.F.a2.N, ls r6.1.F.a2.Text, li .i64 r6.1.F.a3.N, ls r6.1.F.a3.Text])) :: ((11, some (.cells [li .i64 r7.1.ID, li .u8 r7.1.Mask, li .i64 r7.1.At.X, li .i64 r7.1.At.Y, li .i64 r7.1.F.a0.N, ls r7.1.F.a0.Text, li .i64 r7.1.F.a1.N, ls r7.1.F.a1.Text, li .i64 r7.1.F.a2.N, ls r7.1.F.a2.Text, li .i64 r7.1.F.a3.N, ls r7.1.F.a3.Text])) :: ((13, some (.cells [li .i64 i9, li .i64 i10, li .i64 i11, li .i64 i12, ls s13, li .i64 i14, ls s15, li .i64 i16, ls s17, li .i64 i18, ls s19])) :: [])))))) (by kernel_rfl) (by kernel_rfl) (by kernel_rfl) ?_
      exact F6_j33_ok n a0 a1 a2 r5 r6 r7 i9 i10 i11 i12 s13 i14 s15 i16 s17 i18 s19

def F6 (n : Nat) (a0 : Thing) (a1 : Thing) (a2 : Thing) : Option Bool :=
  ((some true)).bind fun (r1 : Bool) =>
  if !(r1) then
    some false
  else
    (F15 n a0).bind fun (r2 : Bool) =>
    if !(r2) then
      some true
    else
      (F15 n a1).bind fun (r3 : Bool) =>
      if !(r3) then
        some true
      else
        (F15 n a2).bind fun (r4 : Bool) =>
        if !(r4) then
          some true
        else
          (F18 n a0 (Thing.mk a0.ID a1.At a1.F)).bind fun (r5 : (Delta × Bool)) =>
          (F18 n (Thing.mk a0.ID a1.At a1.F) (Thing.mk a0.ID a2.At a2.F)).bind fun (r6 : (Delta × Bool)) =>
          (F18 n a0 (Thing.mk a0.ID a2.At a2.F)).bind fun (r7 : (Delta × Bool)) =>
          if r5.2 then
            (F23 n a0 r5.1).bind fun (r8 : Thing) =>
            F6_j20 n a0 a1 a2 r5 r6 r7 r8.ID r8.At.X r8.At.Y r8.F.a0.N r8.F.a0.Text r8.F.a1.N r8.F.a1.Text r8.F.a2.N r8.F.a2.Text r8.F.a3.N r8.F.a3.Text
          else
            F6_j20 n a0 a1 a2 r5 r6 r7 a0.ID a0.At.X a0.At.Y a0.F.a0.N a0.F.a0.Text a0.F.a1.N a0.F.a1.Text a0.F.a2.N a0.F.a2.Text a0.F.a3.N a0.F.a3.Text
theorem F6_ok (n : Nat) (a0 : Thing) (a1 : Thing) (a2 : Thing) : ∀ r, F6 n a0 a1 a2 = some r → D 6 [.agg [li .i64 a0.ID, li .i64 a0.At.X, li .i64 a0.At.Y, li .i64 a0.F.a0.N, ls a0.F.a0.Text, li .i64 a0.F.a1.N, ls a0.F.a1.Text, li .i64 a0.F.a2.N, ls a0.F.a2.Text, li .i64 a0.F.a3.N, ls a0.F.a3.Text], .agg [li .i64 a1.ID, li .i64 a1.At.X, li .i64 a1.At.Y, li .i64 a1.F.a0.N, ls a1.F.a0.Text, li .i64 a1.F.a1.N, ls a1.F.a1.Text, li .i64 a1.F.a2.N, ls a1.F.a2.Text, li .i64 a1.F.a3.N, ls a1.F.a3.Text], .agg [li .i64 a2.ID, li .i64 a2.At.X, li .i64 a2.At.Y, li .i64 a2.F.a0.N, ls a2.F.a0.Text, li .i64 a2.F.a1.N, ls a2.F.a1.Text, li .i64 a2.F.a2.N, ls a2.F.a2.Text, li .i64 a2.F.a3.N, ls a2.F.a3.Text]] [] = some (F6_e r) := by
  refine fn_to (D := D) (n := n + 8) (nt := 104) (rs := pc6_r) (c := pc6_c51) (L := [(0, .agg [li .i64 a0.ID, li .i64 a0.At.X, li .i64 a0.At.Y, li .i64 a0.F.a0.N, ls a0.F.a0.Text, li .i64 a0.F.a1.N, ls a0.F.a1.Text, li .i64 a0.F.a2.N, ls a0.F.a2.Text, li .i64 a0.F.a3.N, ls a0.F.a3.Text]), (1, .agg [li .i64 a1.ID, li .i64 a1.At.X, li .i64 a1.At.Y, li .i64 a1.F.a0.N, ls a1.F.a0.Text, li .i64 a1.F.a1.N, ls a1.F.a1.Text, li .i64 a1.F.a2.N, ls a1.F.a2.Text, li .i64 a1.F.a3.N, ls a1.F.a3.Text]), (2, .agg [li .i64 a2.ID, li .i64 a2.At.X, li .i64 a2.At.Y, li .i64 a2.F.a0.N, ls a2.F.a0.Text, li .i64 a2.F.a1.N, ls a2.F.a1.Text, li .i64 a2.F.a2.N, ls a2.F.a2.Text, li .i64 a2.F.a3.N, ls a2.F.a3.Text])]) (M := []) (k := 0) rfl rfl rfl rfl rfl rfl ?_
  unfold F6
  refine Sim.seq ?_
  refine Sim.region0 ?_
  refine SimI.run 4 [(6, .one (lb false)), (5, .one (.ptr 5 0)), (4, .one (.ptr 4 0)), (3, .one (.ptr 3 0))] [(5, some (.cells [li .i64 a2.ID, li .i64 a2.At.X, li .i64 a2.At.Y, li .i64 a2.F.a0.N, ls a2.F.a0.Text, li .i64 a2.F.a1.N, ls a2.F.a1.Text, li .i64 a2.F.a2.N, ls a2.F.a2.Text, li .i64 a2.F.a3.N, ls a2.F.a3.Text])), (4, some (.cells [li .i64 a1.ID, li .i64 a1.At.X, li .i64 a1.At.Y, li .i64 a1.F.a0.N, ls a1.F.a0.Text, li .i64 a1.F.a1.N, ls a1.F.a1.Text, li .i64 a1.F.a2.N, ls a1.F.a2.Text, li .i64 a1.F.a3.N, ls a1.F.a3.Text])), (3, some (.cells [li .i64 a0.ID, li .i64 a0.At.X, li .i64 a0.At.Y, li .i64 a0.F.a0.N, ls a0.F.a0.Text, li .i64 a0.F.a1.N, ls a0.F.a1.Text, li .i64 a0.F.a2.N, ls a0.F.a2.Text, li .i64 a0.F.a3.N, ls a0.F.a3.Text]))] (by kernel_rfl) ?_
  refine SimI.done (by kernel_rfl) ?_
  refine SimE.thenN ?_
  refine Sim.seq ?_
  refine Sim.seq ?_
  refine Sim.region0 ?_
  refine SimI.bind (og := (some true)) { dst := some 15, op := POp.call true [] 14 [], guard := none, hints := [] } (fun r1 => [(15, .one (lb r1))]) (fun r1 => []) (by kernel_rfl) (fun r1 hr => pOp_eff (by kernel_rfl) (by kernel_rfl) (eff_call (ARGS := []) (by kernel_rfl) (args_nil) (F14_ok n r1 hr) (by kernel_rfl))) (fun r1 => ?_)
  refine SimI.run 1 [(16, .one (lb (!(r1))))] [] (by kernel_rfl) ?_
  refine SimI.done (by kernel_rfl) ?_
  refine SimE.thenN ?_
  refine Sim.cond (!(r1)) (by kernel_rfl) ?_ ?_
  · refine Sim.seq ?_
    refine Sim.region0 ?_
    refine SimI.run 1 [(6, .one (lb false))] [] (by kernel_rfl) ?_
    refine SimI.done (by kernel_rfl) ?_
    refine SimE.thenN ?_
    refine Sim.ret ?_
    refine SimE.thenR ?_
    exact SimE.fin (by kernel_rfl)
  · refine Sim.skip ?_
    refine SimE.thenN ?_
    refine Sim.seq ?_
    refine Sim.seq ?_
    refine Sim.region0 ?_
    refine SimI.run 1 [(17, .agg [li .i64 a0.ID, li .i64 a0.At.X, li .i64 a0.At.Y, li .i64 a0.F.a0.N, ls a0.F.a0.Text, li .i64 a0.F.a1.N, ls a0.F.a1.Text, li .i64 a0.F.a2.N, ls a0.F.a2.Text, li .i64 a0.F.a3.N, ls a0.F.a3.Text])] [] (by kernel_rfl) ?_
    refine SimI.bind (og := F15 n a0) { dst := some 18, op := POp.call true [[]] 15 [Operand.tmp 17], guard := none, hints := [] } (fun r2 => [(18, .one (lb r2))]) (fun r2 => []) (by kernel_rfl) (fun r2 hr => pOp_eff (by kernel_rfl) (by kernel_rfl) (eff_call (ARGS := [.agg [li .i64 a0.ID, li .i64 a0.At.X, li .i64 a0.At.Y, li .i64 a0.F.a0.N, ls a0.F.a0.Text, li .i64 a0.F.a1.N, ls a0.F.a1.Text, li .i64 a0.F.a2.N, ls a0.F.a2.Text, li .i64 a0.F.a3.N, ls a0.F.a3.Text]]) (by kernel_rfl) (args_clean (by kernel_rfl) args_nil) (F15_ok n a0 r2 hr) (by kernel_rfl))) (fun r2 => ?_)
    refine SimI.run 2 [(20, .one (lb (!(r2)))), (19, .one (lb (!(r2))))] [] (by kernel_rfl) ?_
    refine SimI.split 20 (!(r2)) (by kernel_rfl) ?_ ?_
    · refine SimI.run 9 [(29, .one (lb true)), (28, .tup []), (27, .tup []), (26, .tup []), (25, .one (lb true)), (24, .one (lb true)), (23, .tup []), (22, .tup []), (21, .tup [])] [] (by kernel_rfl) ?_
      refine SimI.done (by kernel_rfl) ?_
      refine SimE.thenN ?_
      refine Sim.condT (by kernel_rfl) ?_
      refine Sim.seq ?_
      refine Sim.region0 ?_
      refine SimI.run 1 [(6, .one (lb true))] [] (by kernel_rfl) ?_
      refine SimI.done (by kernel_rfl) ?_
      refine SimE.thenN ?_
      refine Sim.ret ?_
      refine SimE.thenR ?_
      exact SimE.fin (by kernel_rfl)
    · refine SimI.run 1 [(21, .agg [li .i64 a1.ID, li .i64 a1.At.X, li .i64 a1.At.Y, li .i64 a1.F.a0.N, ls a1.F.a0.Text, li .i64 a1.F.a1.N, ls a1.F.a1.Text, li .i64 a1.F.a2.N, ls a1.F.a2.Text, li .i64 a1.F.a3.N, ls a1.F.a3.Text])] [] (by kernel_rfl) ?_
      refine SimI.bind (og := F15 n a1) { dst := some 22, op := POp.call true [[]] 15 [Operand.tmp 21], guard := some (20, false), hints := [] } (fun r3 => [(22, .one (lb r3))]) (fun r3 => []) (by kernel_rfl) (fun r3 hr => pOp_eff (by kernel_rfl) (by kernel_rfl) (eff_call (ARGS := [.agg [li .i64 a1.ID, li .i64 a1.At.X, li .i64 a1.At.Y, li .i64 a1.F.a0.N, ls a1.F.a0.Text, li .i64 a1.F.a1.N, ls a1.F.a1.Text, li .i64 a1.F.a2.N, ls a1.F.a2.Text, li .i64 a1.F.a3.N, ls a1.F.a3.Text]]) (by kernel_rfl) (args_clean (by kernel_rfl) args_nil) (F15_ok n a1 r3 hr) (by kernel_rfl))) (fun r3 => ?_)
      refine SimI.run 3 [(25, .one (lb (!(r3)))), (24, .one (lb (!(r3)))), (23, .one (lb (!(r3))))] [] (by kernel_rfl) ?_
      refine SimI.split 25 (!(r3)) (by kernel_rfl) ?_ ?_
      · refine SimI.run 4 [(29, .one (lb true)), (28, .tup []), (27, .tup []), (26, .tup [])] [] (by kernel_rfl) ?_
        refine SimI.done (by kernel_rfl) ?_
        refine SimE.thenN ?_
        refine Sim.condT (by kernel_rfl) ?_
        refine Sim.seq ?_
        refine Sim.region0 ?_
        refine SimI.run 1 [(6, .one (lb true))] [] (by kernel_rfl) ?_
        refine SimI.done (by kernel_rfl) ?_
        refine SimE.thenN ?_
        refine Sim.ret ?_
        refine SimE.thenR ?_
        exact SimE.fin (by kernel_rfl)
      · refine SimI.run 1 [(26, .agg [li .i64 a2.ID, li .i64 a2.At.X, li .i64 a2.At.Y, li .i64 a2.F.a0.N, ls a2.F.a0.Text, li .i64 a2.F.a1.N, ls a2.F.a1.Text, li .i64 a2.F.a2.N, ls a2.F.a2.Text, li .i64 a2.F.a3.N, ls a2.F.a3.Text])] [] (by kernel_rfl) ?_
        refine SimI.bind (og := F15 n a2) { dst := some 27, op := POp.call true [[]] 15 [Operand.tmp 26], guard := some (25, false), hints := [] } (fun r4 => [(27, .one (lb r4))]) (fun r4 => []) (by kernel_rfl) (fun r4 hr => pOp_eff (by kernel_rfl) (by kernel_rfl) (eff_call (ARGS := [.agg [li .i64 a2.ID, li .i64 a2.At.X, li .i64 a2.At.Y, li .i64 a2.F.a0.N, ls a2.F.a0.Text, li .i64 a2.F.a1.N, ls a2.F.a1.Text, li .i64 a2.F.a2.N, ls a2.F.a2.Text, li .i64 a2.F.a3.N, ls a2.F.a3.Text]]) (by kernel_rfl) (args_clean (by kernel_rfl) args_nil) (F15_ok n a2 r4 hr) (by kernel_rfl))) (fun r4 => ?_)
        refine SimI.run 2 [(29, .one (lb (!(r4)))), (28, .one (lb (!(r4))))] [] (by kernel_rfl) ?_
        refine SimI.done (by kernel_rfl) ?_
        refine SimE.thenN ?_
        refine Sim.cond (!(r4)) (by kernel_rfl) ?_ ?_
        · refine Sim.seq ?_
          refine Sim.region0 ?_
          refine SimI.run 1 [(6, .one (lb true))] [] (by kernel_rfl) ?_
          refine SimI.done (by kernel_rfl) ?_
          refine SimE.thenN ?_
          refine Sim.ret ?_
          refine SimE.thenR ?_
          exact SimE.fin (by kernel_rfl)
        · refine Sim.skip ?_
          refine SimE.thenN ?_
          refine Sim.seq ?_
          refine Sim.region0 ?_
          refine SimI.run 8 [(35, .one (.ptr 5 0)), (34, .one (.ptr 4 0)), (33, .one (li .i64 a0.ID)), (32, .one (.ptr 3 0)), (31, .one (li .i64 a0.ID)), (30, .one (.ptr 3 0))] [(5, some (.cells [li .i64 a0.ID, li .i64 a2.At.X, li .i64 a2.At.Y, li .i64 a2.F.a0.N, ls a2.F.a0.Text, li .i64 a2.F.a1.N, ls a2.F.a1.Text, li .i64 a2.F.a2.N, ls a2.F.a2.Text, li .i64 a2.F.a3.N, ls a2.F.a3.Text])), (4, some (.cells [li .i64 a0.ID, li .i64 a1.At.X, li .i64 a1.At.Y, li .i64 a1.F.a0.N, ls a1.F.a0.Text, li .i64 a1.F.a1.N, ls a1.F.a1.Text, li .i64 a1.F.a2.N, ls a1.F.a2.Text, li .i64 a1.F.a3.N, ls a1.F.a3.Text]))] (by kernel_rfl) ?_
          refine SimI.done (by kernel_rfl) ?_
          refine SimE.thenN ?_
          refine Sim.seq ?_
          refine Sim.region0 ?_
          refine SimI.run 2 [(38, .agg [li .i64 a0.ID, li .i64 a1.At.X, li .i64 a1.At.Y, li .i64 a1.F.a0.N, ls a1.F.a0.Text, li .i64 a1.F.a1.N, ls a1.F.a1.Text, li .i64 a1.F.a2.N, ls a1.F.a2.Text, li .i64 a1.F.a3.N, ls a1.F.a3.Text]), (37, .agg [li .i64 a0.ID, li .i64 a0.At.X, li .i64 a0.At.Y, li .i64 a0.F.a0.N, ls a0.F.a0.Text, li .i64 a0.F.a1.N, ls a0.F.a1.Text, li .i64 a0.F.a2.N, ls a0.F.a2.Text, li .i64 a0.F.a3.N, ls a0.F.a3.Text])] [] (by kernel_rfl) ?_
          refine SimI.bind (og := F18 n a0 (Thing.mk a0.ID a1.At a1.F)) { dst := some 39, op := POp.call true [[], []] 18 [Operand.tmp 37, Operand.tmp 38], guard := none, hints := [] } (fun r5 => [(39, .tup [.agg [li .i64 r5.1.ID, li .u8 r5.1.Mask, li .i64 r5.1.At.X, li .i64 r5.1.At.Y, li .i64 r5.1.F.a0.N, ls r5.1.F.a0.Text, li .i64 r5.1.F.a1.N, ls r5.1.F.a1.Text, li .i64 r5.1.F.a2.N, ls r5.1.F.a2.Text, li .i64 r5.1.F.a3.N, ls r5.1.F.a3.Text], .one (lb r5.2)])]) (fun r5 => []) (by kernel_rfl) (fun r5 hr => pOp_eff (by kernel_rfl) (by kernel_rfl) (eff_call (ARGS := [.agg [li .i64 a0.ID, li .i64 a0.At.X, li .i64 a0.At.Y, li .i64 a0.F.a0.N, ls a0.F.a0.Text, li .i64 a0.F.a1.N, ls a0.F.a1.Text, li .i64 a0.F.a2.N, ls a0.F.a2.Text, li .i64 a0.F.a3.N, ls a0.F.a3.Text], .agg [li .i64 a0.ID, li .i64 a1.At.X, li .i64 a1.At.Y, li .i64 a1.F.a0.N, ls a1.F.a0.Text, li .i64 a1.F.a1.N, ls a1.F.a1.Text, li .i64 a1.F.a2.N, ls a1.F.a2.Text, li .i64 a1.F.a3.N, ls a1.F.a3.Text]]) (by kernel_rfl) (args_clean (by kernel_rfl) (args_clean (by kernel_rfl) args_nil)) (F18_ok n a0 (Thing.mk a0.ID a1.At a1.F) r5 hr) (by kernel_rfl))) (fun r5 => ?_)
          refine SimI.run 6 [(8, .one (lb r5.2)), (7, .one (.ptr 7 0)), (41, .one (lb r5.2)), (40, .agg [li .i64 r5.1.ID, li .u8 r5.1.Mask, li .i64 r5.1.At.X, li .i64 r5.1.At.Y, li .i64 r5.1.F.a0.N, ls r5.1.F.a0.Text, li .i64 r5.1.F.a1.N, ls r5.1.F.a1.Text, li .i64 r5.1.F.a2.N, ls r5.1.F.a2.Text, li .i64 r5.1.F.a3.N, ls r5.1.F.a3.Text]), (36, .tup [.agg [li .i64 r5.1.ID, li .u8 r5.1.Mask, li .i64 r5.1.At.X, li .i64 r5.1.At.Y, li .i64 r5.1.F.a0.N, ls r5.1.F.a0.Text, li .i64 r5.1.F.a1.N, ls r5.1.F.a1.Text, li .i64 r5.1.F.a2.N, ls r5.1.F.a2.Text, li .i64 r5.1.F.a3.N, ls r5.1.F.a3.Text], .one (lb r5.2)])] [(7, some (.cells [li .i64 r5.1.ID, li .u8 r5.1.Mask, li .i64 r5.1.At.X, li .i64 r5.1.At.Y, li .i64 r5.1.F.a0.N, ls r5.1.F.a0.Text, li .i64 r5.1.F.a1.N, ls r5.1.F.a1.Text, li .i64 r5.1.F.a2.N, ls r5.1.F.a2.Text, li .i64 r5.1.F.a3.N, ls r5.1.F.a3.Text])), (7, some (.cells [li .i64 0, li .u8 0, li .i64 0, li .i64 0, li .i64 0, ls ByteArray.empty, li .i64 0, ls ByteArray.empty, li .i64 0, ls ByteArray.empty, li .i64 0, ls ByteArray.empty]))] (by kernel_rfl) ?_
          refine SimI.done (by kernel_rfl) ?_
          refine SimE.thenN ?_
          refine Sim.seq ?_
          refine Sim.region0 ?_
          refine SimI.run 2 [(44, .agg [li .i64 a0.ID, li .i64 a2.At.X, li .i64 a2.At.Y, li .i64 a2.F.a0.N, ls a2.F.a0.Text, li .i64 a2.F.a1.N, ls a2.F.a1.Text, li .i64 a2.F.a2.N, ls a2.F.a2.Text, li .i64 a2.F.a3.N, ls a2.F.a3.Text]), (43, .agg [li .i64 a0.ID, li .i64 a1.At.X, li .i64 a1.At.Y, li .i64 a1.F.a0.N, ls a1.F.a0.Text, li .i64 a1.F.a1.N, ls a1.F.a1.Text, li .i64 a1.F.a2.N, ls a1.F.a2.Text, li .i64 a1.F.a3.N, ls a1.F.a3.Text])] [] (by kernel_rfl) ?_
          refine SimI.bind (og := F18 n (Thing.mk a0.ID a1.At a1.F) (Thing.mk a0.ID a2.At a2.F)) { dst := some 45, op := POp.call true [[], []] 18 [Operand.tmp 43, Operand.tmp 44], guard := none, hints := [] } (fun r6 => [(45, .tup [.agg [li .i64 r6.1.ID, li .u8 r6.1.Mask, li .i64 r6.1.At.X, li .i64 r6.1.At.Y, li .i64 r6.1.F.a0.N, ls r6.1.F.a0.Text, li .i64 r6.1.F.a1.N, ls r6.1.F.a1.Text, li .i64 r6.1.F.a2.N, ls r6.1.F.a2.Text, li .i64 r6.1.F.a3.N, ls r6.1.F.a3.Text], .one (lb r6.2)])]) (fun r6 => []) (by kernel_rfl) (fun r6 hr => pOp_eff (by kernel_rfl) (by kernel_rfl) (eff_call (ARGS := [.agg [li .i64 a0.ID, li .i64 a1.At.X, li .i64 a1.At.Y, li .i64 a1.F.a0.N, ls a1.F.a0.Text, li .i64 a1.F.a1.N, ls a1.F.a1.Text, li .i64 a1.F.a2.N, ls a1.F.a2.Text, li .i64 a1.F.a3.N, ls a1.F.a3.Text], .agg [li .i64 a0.ID, li .i64 a2.At.X, li .i64 a2.At.Y, li .i64 a2.F.a0.N, ls a2.F.a0.Text, li .i64 a2.F.a1.N, ls a2.F.a1.Text, li .i64 a2.F.a2.N, ls a2.F.a2.Text, li .i64 a2.F.a3.N, ls a2.F.a3.Text]]) (by kernel_rfl) (args_clean (by kernel_rfl) (args_clean (by kernel_rfl) args_nil)) (F18_ok n (Thing.mk a0.ID a1.At a1.F) (Thing.mk a0.ID a2.At a2.F) r6 hr) (by kernel_rfl))) (fun r6 => ?_)
          refine SimI.run 6 [(10, .one (lb r6.2)), (9, .one (.ptr 9 0)), (47, .one (lb r6.2)), (46, .agg [li .i64 r6.1.ID, li .u8 r6.1.Mask, li .i64 r6.1.At.X, li .i64 r6.1.At.Y, li .i64 r6.1.F.a0.N, ls r6.1.F.a0.Text, li .i64 r6.1.F.a1.N, ls r6.1.F.a1.Text, li .i64 r6.1.F.a2.N, ls r6.1.F.a2.Text, li .i64 r6.1.F.a3.N, ls r6.1.F.a3.Text]), (42, .tup [.agg [li .i64 r6.1.ID, li .u8 r6.1.Mask, li .i64 r6.1.At.X, li .i64 r6.1.At.Y, li .i64 r6.1.F.a0.N, ls r6.1.F.a0.Text, li .i64 r6.1.F.a1.N, ls r6.1.F.a1.Text, li .i64 r6.1.F.a2.N, ls r6.1.F.a2.Text, li .i64 r6.1.F.a3.N, ls r6.1.F.a3.Text], .one (lb r6.2)])] [(9, some (.cells [li .i64 r6.1.ID, li .u8 r6.1.Mask, li .i64 r6.1.At.X, li .i64 r6.1.At.Y, li .i64 r6.1.F.a0.N, ls r6.1.F.a0.Text, li .i64 r6.1.F.a1.N, ls r6.1.F.a1.Text, li .i64 r6.1.F.a2.N, ls r6.1.F.a2.Text, li .i64 r6.1.F.a3.N, ls r6.1.F.a3.Text])), (9, some (.cells [li .i64 0, li .u8 0, li .i64 0, li .i64 0, li .i64 0, ls ByteArray.empty, li .i64 0, ls ByteArray.empty, li .i64 0, ls ByteArray.empty, li .i64 0, ls ByteArray.empty]))] (by kernel_rfl) ?_
          refine SimI.done (by kernel_rfl) ?_
          refine SimE.thenN ?_
          refine Sim.seq ?_
          refine Sim.region0 ?_
          refine SimI.run 2 [(50, .agg [li .i64 a0.ID, li .i64 a2.At.X, li .i64 a2.At.Y, li .i64 a2.F.a0.N, ls a2.F.a0.Text, li .i64 a2.F.a1.N, ls a2.F.a1.Text, li .i64 a2.F.a2.N, ls a2.F.a2.Text, li .i64 a2.F.a3.N, ls a2.F.a3.Text]), (49, .agg [li .i64 a0.ID, li .i64 a0.At.X, li .i64 a0.At.Y, li .i64 a0.F.a0.N, ls a0.F.a0.Text, li .i64 a0.F.a1.N, ls a0.F.a1.Text, li .i64 a0.F.a2.N, ls a0.F.a2.Text, li .i64 a0.F.a3.N, ls a0.F.a3.Text])] [] (by kernel_rfl) ?_
          refine SimI.bind (og := F18 n a0 (Thing.mk a0.ID a2.At a2.F)) { dst := some 51, op := POp.call true [[], []] 18 [Operand.tmp 49, Operand.tmp 50], guard := none, hints := [] } (fun r7 => [(51, .tup [.agg [li .i64 r7.1.ID, li .u8 r7.1.Mask, li .i64 r7.1.At.X, li .i64 r7.1.At.Y, li .i64 r7.1.F.a0.N, ls r7.1.F.a0.Text, li .i64 r7.1.F.a1.N, ls r7.1.F.a1.Text, li .i64 r7.1.F.a2.N, ls r7.1.F.a2.Text, li .i64 r7.1.F.a3.N, ls r7.1.F.a3.Text], .one (lb r7.2)])]) (fun r7 => []) (by kernel_rfl) (fun r7 hr => pOp_eff (by kernel_rfl) (by kernel_rfl) (eff_call (ARGS := [.agg [li .i64 a0.ID, li .i64 a0.At.X, li .i64 a0.At.Y, li .i64 a0.F.a0.N, ls a0.F.a0.Text, li .i64 a0.F.a1.N, ls a0.F.a1.Text, li .i64 a0.F.a2.N, ls a0.F.a2.Text, li .i64 a0.F.a3.N, ls a0.F.a3.Text], .agg [li .i64 a0.ID, li .i64 a2.At.X, li .i64 a2.At.Y, li .i64 a2.F.a0.N, ls a2.F.a0.Text, li .i64 a2.F.a1.N, ls a2.F.a1.Text, li .i64 a2.F.a2.N, ls a2.F.a2.Text, li .i64 a2.F.a3.N, ls a2.F.a3.Text]]) (by kernel_rfl) (args_clean (by kernel_rfl) (args_clean (by kernel_rfl) args_nil)) (F18_ok n a0 (Thing.mk a0.ID a2.At a2.F) r7 hr) (by kernel_rfl))) (fun r7 => ?_)
          refine SimI.run 6 [(12, .one (lb r7.2)), (11, .one (.ptr 11 0)), (53, .one (lb r7.2)), (52, .agg [li .i64 r7.1.ID, li .u8 r7.1.Mask, li .i64 r7.1.At.X, li .i64 r7.1.At.Y, li .i64 r7.1.F.a0.N, ls r7.1.F.a0.Text, li .i64 r7.1.F.a1.N, ls r7.1.F.a1.Text, li .i64 r7.1.F.a2.N, ls r7.1.F.a2.Text, li .i64 r7.1.F.a3.N, ls r7.1.F.a3.Text]), (48, .tup [.agg [li .i64 r7.1.ID, li .u8 r7.1.Mask, li .i64 r7.1.At.X, li .i64 r7.1.At.Y, li .i64 r7.1.F.a0.N, ls r7.1.F.a0.Text, li .i64 r7.1.F.a1.N, ls r7.1.F.a1.Text, li .i64 r7.1.F.a2.N, ls r7.1.F.a2.Text, li .i64 r7.1.F.a3.N, ls r7.1.F.a3.Text], .one (lb r7.2)])] [(11, some (.cells [li .i64 r7.1.ID, li .u8 r7.1.Mask, li .i64 r7.1.At.X, li .i64 r7.1.At.Y, li .i64 r7.1.F.a0.N, ls r7.1.F.a0.Text, li .i64 r7.1.F.a1.N, ls r7.1.F.a1.Text, li .i64 r7.1.F.a2.N, ls r7.1.F.a2.Text, li .i64 r7.1.F.a3.N, ls r7.1.F.a3.Text])), (11, some (.cells [li .i64 0, li .u8 0, li .i64 0, li .i64 0, li .i64 0, ls ByteArray.empty, li .i64 0, ls ByteArray.empty, li .i64 0, ls ByteArray.empty, li .i64 0, ls ByteArray.empty]))] (by kernel_rfl) ?_
          refine SimI.done (by kernel_rfl) ?_
          refine SimE.thenN ?_
          refine Sim.seq ?_
          refine Sim.region0 ?_
          refine SimI.run 3 [(13, .one (.ptr 13 0)), (54, .agg [li .i64 a0.ID, li .i64 a0.At.X, li .i64 a0.At.Y, li .i64 a0.F.a0.N, ls a0.F.a0.Text, li .i64 a0.F.a1.N, ls a0.F.a1.Text, li .i64 a0.F.a2.N, ls a0.F.a2.Text, li .i64 a0.F.a3.N, ls a0.F.a3.Text])] [(13, some (.cells [li .i64 a0.ID, li .i64 a0.At.X, li .i64 a0.At.Y, li .i64 a0.F.a0.N, ls a0.F.a0.Text, li .i64 a0.F.a1.N, ls a0.F.a1.Text, li .i64 a0.F.a2.N, ls a0.F.a2.Text, li .i64 a0.F.a3.N, ls a0.F.a3.Text])), (13, some (.cells [li .i64 0, li .i64 0, li .i64 0, li .i64 0, ls ByteArray.empty, li .i64 0, ls ByteArray.empty, li .i64 0, ls ByteArray.empty, li .i64 0, ls ByteArray.empty]))] (by kernel_rfl) ?_
          refine SimI.done (by kernel_rfl) ?_
          refine SimE.thenN ?_
          refine Sim.seq ?_
          refine Sim.seq ?_
          refine Sim.region0 ?_
          refine SimI.run 1 [(55, .one (lb r5.2))] [] (by kernel_rfl) ?_
          refine SimI.done (by kernel_rfl) ?_
          refine SimE.thenN ?_
          refine Sim.cond r5.2 (by kernel_rfl) ?_ ?_
          · refine Sim.region0 ?_
            refine SimI.run 2 [(57, .agg [li .i64 r5.1.ID, li .u8 r5.1.Mask, li .i64 r5.1.At.X, li .i64 r5.1.At.Y, li .i64 r5.1.F.a0.N, ls r5.1.F.a0.Text, li .i64 r5.1.F.a1.N, ls r5.1.F.a1.Text, li .i64 r5.1.F.a2.N, ls r5.1.F.a2.Text, li .i64 r5.1.F.a3.N, ls r5.1.F.a3.Text]), (56, .agg [li .i64 a0.ID, li .i64 a0.At.X, li .i64 a0.At.Y, li .i64 a0.F.a0.N, ls a0.F.a0.Text, li .i64 a0.F.a1.N, ls a0.F.a1.Text, li .i64 a0.F.a2.N, ls a0.F.a2.Text, li .i64 a0.F.a3.N, ls a0.F.a3.Text])] [] (by kernel_rfl) ?_
            refine SimI.bind (og := F23 n a0 r5.1) { dst := some 58, op := POp.call true [[], []] 23 [Operand.tmp 56, Operand.tmp 57], guard := none, hints := [] } (fun r8 => [(58, .agg [li .i64 r8.ID, li .i64 r8.At.X, li .i64 r8.At.Y, li .i64 r8.F.a0.N, ls r8.F.a0.Text, li .i64 r8.F.a1.N, ls r8.F.a1.Text, li .i64 r8.F.a2.N, ls r8.F.a2.Text, li .i64 r8.F.a3.N, ls r8.F.a3.Text])]) (fun r8 => []) (by kernel_rfl) (fun r8 hr => pOp_eff (by kernel_rfl) (by kernel_rfl) (eff_call (ARGS := [.agg [li .i64 a0.ID, li .i64 a0.At.X, li .i64 a0.At.Y, li .i64 a0.F.a0.N, ls a0.F.a0.Text, li .i64 a0.F.a1.N, ls a0.F.a1.Text, li .i64 a0.F.a2.N, ls a0.F.a2.Text, li .i64 a0.F.a3.N, ls a0.F.a3.Text], .agg [li .i64 r5.1.ID, li .u8 r5.1.Mask, li .i64 r5.1.At.X, li .i64 r5.1.At.Y, li .i64 r5.1.F.a0.N, ls r5.1.F.a0.Text, li .i64 r5.1.F.a1.N, ls r5.1.F.a1.Text, li .i64 r5.1.F.a2.N, ls r5.1.F.a2.Text, li .i64 r5.1.F.a3.N, ls r5.1.F.a3.Text]]) (by kernel_rfl) (args_clean (by kernel_rfl) (args_clean (by kernel_rfl) args_nil)) (F23_ok n a0 r5.1 r8 hr) (by kernel_rfl))) (fun r8 => ?_)
            refine SimI.run 1 [] [(13, some (.cells [li .i64 r8.ID, li .i64 r8.At.X, li .i64 r8.At.Y, li .i64 r8.F.a0.N, ls r8.F.a0.Text, li .i64 r8.F.a1.N, ls r8.F.a1.Text, li .i64 r8.F.a2.N, ls r8.F.a2.Text, li .i64 r8.F.a3.N, ls r8.F.a3.Text]))] (by kernel_rfl) ?_
            refine SimI.done (by kernel_rfl) ?_
            refine SimE.thenN ?_
            refine Sim.pre (ts := [3, 5, 7, 8, 9, 10, 11, 12, 13]) (os := [3, 4, 5, 7, 9, 11, 13]) [(3, .one (.ptr 3 0)), (5, .one (.ptr 5 0)), (7, .one (.ptr 7 0)), (8, .one (lb r5.2)), (9, .one (.ptr 9 0)), (10, .one (lb r6.2)), (11, .one (.ptr 11 0)), (12, .one (lb r7.2)), (13, .one (.ptr 13 0))] ((3, some (.cells [li .i64 a0.ID, li .i64 a0.At.X, li .i64 a0.At.Y, li .i64 a0.F.a0.N, ls a0.F.a0.Text, li .i64 a0.F.a1.N, ls a0.F.a1.Text, li .i64 a0.F.a2.N, ls a0.F.a2.Text, li .i64 a0.F.a3.N, ls a0.F.a3.Text])) :: ((5, some (.cells [li .i64 a0.ID, li .i64 a2.At.X, li .i64 a2.At.Y, li .i64 a2.F.a0.N, ls a2.F.a0.Text, li .i64 a2.F.a1.N, ls a2.F.a1.Text, li .i64 a2.F.a2.N, ls a2.F.a2.Text, li .i64 a2.F.a3.N, ls a2.F.a3.Text])) :: ((7, some (.cells [li .i64 r5.1.ID, li .u8 r5.1.Mask, li .i64 r5.1.At.X, li .i64 r5.1.At.Y, li .i64 r5.1.F.a0.N, ls r5.1.F.a0.Text, li .i64 r5.1.F.a1.N, ls r5.1.F.a1.Text, li .i64 r5.1.F.a2.N, ls r5.1.F.a2.Text, li .i64 r5.1.F.a3.N, ls r5.1.F.a3.Text])) :: ((9, some (.cells [li .i64 r6.1.ID, li .u8 r6.1.Mask, li .i64 r6.1.At.X, li .i64 r6.1.At.Y, li .i64 r6.1.F.a0.N, ls r6.1.F.a0.Text, li .i64 r6.1.F.a1.N, ls r6.1.F.a1.Text, li .i64 r6.1.F.a2.N, ls r6.1.F.a2.Text, li .i64 r6.1.F.a3.N, ls r6.1.F.a3.Text])) :: ((11, some (.cells [li .i64 r7.1.ID, li .u8 r7.1.Mask, li .i64 r7.1.At.X, li .i64 r7.1.At.Y, li .i64 r7.1.F.a0.N, ls r7.1.F.a0.Text, li .i64 r7.1.F.a1.N, ls r7.1.F.a1.Text, li .i64 r7.1.F.a2.N, ls r7.1.F.a2.Text, li .i64 r7.1.F.a3.N, ls r7.1.F.a3.Text])) :: ((13, some (.cells [li .i64 r8.ID, li .i64 r8.At.X, li .i64 r8.At.Y, li .i64 r8.F.a0.N, ls r8.F.a0.Text, li .i64 r8.F.a1.N, ls r8.F.a1.Text, li .i64 r8.F.a2.N, ls r8.F.a2.Text, li .i64 r8.F.a3.N, ls r8.F.a3.Text])) :: [])))))) (by kernel_rfl) (by kernel_rfl) (by kernel_rfl) ?_
            exact F6_j20_ok n a0 a1 a2 r5 r6 r7 r8.ID r8.At.X r8.At.Y r8.F.a0.N r8.F.a0.Text r8.F.a1.N r8.F.a1.Text r8.F.a2.N r8.F.a2.Text r8.F.a3.N r8.F.a3.Text
          · refine Sim.skip ?_
            refine SimE.thenN ?_
            refine Sim.pre (ts := [3, 5, 7, 8, 9, 10, 11, 12, 13]) (os := [3, 4, 5, 7, 9, 11, 13]) [(3, .one (.ptr 3 0)), (5, .one (.ptr 5 0)), (7, .one (.ptr 7 0)), (8, .one (lb r5.2)), (9, .one (.ptr 9 0)), (10, .one (lb r6.2)), (11, .one (.ptr 11 0)), (12, .one (lb r7.2)), (13, .one (.ptr 13 0))] ((3, some (.cells [li .i64 a0.ID, li .i64 a0.At.X, li .i64 a0.At.Y, li .i64 a0.F.a0.N, ls a0.F.a0.Text, li .i64 a0.F.a1.N, ls a0.F.a1.Text, li .i64 a0.F.a2.N, ls a0.F.a2.Text, li .i64 a0.F.a3.N, ls a0.F.a3.Text])) :: ((5, some (.cells [li .i64 a0.ID, li .i64 a2.At.X, li .i64 a2.At.Y, li .i64 a2.F.a0.N, ls a2.F.a0.Text, li .i64 a2.F.a1.N, ls a2.F.a1.Text, li .i64 a2.F.a2.N, ls a2.F.a2.Text, li .i64 a2.F.a3.N, ls a2.F.a3.Text])) :: ((7, some (.cells [li .i64 r5.1.ID, li .u8 r5.1.Mask, li .i64 r5.1.At.X, li .i64 r5.1.At.Y, li .i64 r5.1.F.a0.N, ls r5.1.F.a0.Text, li .i64 r5.1.F.a1.N, ls r5.1.F.a1.Text, li .i64 r5.1.F.a2.N, ls r5.1.F.a2.Text, li .i64 r5.1.F.a3.N, ls r5.1.F.a3.Text])) :: ((9, some (.cells [li .i64 r6.1.ID, li .u8 r6.1.Mask, li .i64 r6.1.At.X, li .i64 r6.1.At.Y, li .i64 r6.1.F.a0.N, ls r6.1.F.a0.Text, li .i64 r6.1.F.a1.N, ls r6.1.F.a1.Text, li .i64 r6.1.F.a2.N, ls r6.1.F.a2.Text, li .i64 r6.1.F.a3.N, ls r6.1.F.a3.Text])) :: ((11, some (.cells [li .i64 r7.1.ID, li .u8 r7.1.Mask, li .i64 r7.1.At.X, li .i64 r7.1.At.Y, li .i64 r7.1.F.a0.N, ls r7.1.F.a0.Text, li .i64 r7.1.F.a1.N, ls r7.1.F.a1.Text, li .i64 r7.1.F.a2.N, ls r7.1.F.a2.Text, li .i64 r7.1.F.a3.N, ls r7.1.F.a3.Text])) :: ((13, some (.cells [li .i64 a0.ID, li .i64 a0.At.X, li .i64 a0.At.Y, li .i64 a0.F.a0.N, ls a0.F.a0.Text, li .i64 a0.F.a1.N, ls a0.F.a1.Text, li .i64 a0.F.a2.N, ls a0.F.a2.Text, li .i64 a0.F.a3.N, ls a0.F.a3.Text])) :: [])))))) (by kernel_rfl) (by kernel_rfl) (by kernel_rfl) ?_
            exact F6_j20_ok n a0 a1 a2 r5 r6 r7 a0.ID a0.At.X a0.At.Y a0.F.a0.N a0.F.a0.Text a0.F.a1.N a0.F.a1.Text a0.F.a2.N a0.F.a2.Text a0.F.a3.N a0.F.a3.Text


-- 7: vedette/vedettelaw6.FieldsOne
def F7_e : Bool → PV × List (List Lf) := fun r => (.one (lb r), [])
def F7_j15 (n : Nat) (a0 : Int) (a2 : ByteArray) (i7 : Int) (s8 : ByteArray) (i9 : Int) (s10 : ByteArray) (i11 : Int) (s12 : ByteArray) (i13 : Int) (s14 : ByteArray) : Option Bool :=
    (F18 n (Thing.mk 7 (Point.mk 1 2) (A4.mk (Field.mk 0 ByteArray.empty) (Field.mk 0 ByteArray.empty) (Field.mk 0 ByteArray.empty) (Field.mk 0 ByteArray.empty))) (Thing.mk 7 (Point.mk 1 2) (A4.mk (Field.mk i7 s8) (Field.mk i9 s10) (Field.mk i11 s12) (Field.mk i13 s14)))).bind fun (r16 : (Delta × Bool)) =>
    (F20 n r16.1).bind fun (r17 : (ByteArray × Int)) =>
    if Thing.eqb (Thing.mk 7 (Point.mk 1 2) (A4.mk (Field.mk i7 s8) (Field.mk i9 s10) (Field.mk i11 s12) (Field.mk i13 s14))) (Thing.mk 7 (Point.mk 1 2) (A4.mk (Field.mk 0 ByteArray.empty) (Field.mk 0 ByteArray.empty) (Field.mk 0 ByteArray.empty) (Field.mk 0 ByteArray.empty))) then
      some (!(r16.2))
    else
      if !(r16.2) then
        some false
      else
        if ¬ (IntKind.wrap .u64 (IntKind.wrap .i64 (Int.tmod a0 4)) < 0) then
          if r16.1.Mask != (shlI .u8 2 (IntKind.wrap .u64 (IntKind.wrap .i64 (Int.tmod a0 4)))) then
            some false
          else
            if r17.2 != 0 then
              some false
            else
              if decide ((r17.1.size : Int) < 3) then
                some false
              else
                if !(a2.toList == ByteArray.empty.toList) then
                  some ((r17.1.size : Int) == (IntKind.wrap .i64 (3 + (a2.size : Int))))
                else
                  some (decide ((r17.1.size : Int) ≤ 13))
        else none
theorem F7_j15_ok (n : Nat) (a0 : Int) (a1 : Int) (a2 : ByteArray) (i7 : Int) (s8 : ByteArray) (i9 : Int) (s10 : ByteArray) (i11 : Int) (s12 : ByteArray) (i13 : Int) (s14 : ByteArray) : Sim Try.prog D (n + 8) pc7_c55 [(2, .one (ls a2)), (7, .one (li .i64 (IntKind.wrap .i64 (Int.tmod a0 4)))), (8, .one (.ptr 8 0)), (9, .one (.ptr 9 0))] ((8, some (.cells [li .i64 7, li .i64 1, li .i64 2, li .i64 0, ls ByteArray.empty, li .i64 0, ls ByteArray.empty, li .i64 0, ls ByteArray.empty, li .i64 0, ls ByteArray.empty])) :: ((9, some (.cells [li .i64 7, li .i64 1, li .i64 2, li .i64 i7, ls s8, li .i64 i9, ls s10, li .i64 i11, ls s12, li .i64 i13, ls s14])) :: [])) (F7_j15 n a0 a2 i7 s8 i9 s10 i11 s12 i13 s14) (QF pc7_r 0 F7_e) := by
    unfold F7_j15
    refine Sim.seq ?_
    refine Sim.region [(2, .one (ls a2)), (7, .one (li .i64 (IntKind.wrap .i64 (Int.tmod a0 4)))), (8, .one (.ptr 8 0)), (9, .one (.ptr 9 0))] ((8, some (.cells [li .i64 7, li .i64 1, li .i64 2, li .i64 0, ls ByteArray.empty, li .i64 0, ls ByteArray.empty, li .i64 0, ls ByteArray.empty, li .i64 0, ls ByteArray.empty])) :: ((9, some (.cells [li .i64 7, li .i64 1, li .i64 2, li .i64 i7, ls s8, li .i64 i9, ls s10, li .i64 i11, ls s12, li .i64 i13, ls s14])) :: [])) (by kernel_rfl) ?_
    refine SimI.run 2 [(39, .agg [li .i64 7, li .i64 1, li .i64 2, li .i64 i7, ls s8, li .i64 i9, ls s10, li .i64 i11, ls s12, li .i64 i13, ls s14]), (38, .agg [li .i64 7, li .i64 1, li .i64 2, li .i64 0, ls ByteArray.empty, li .i64 0, ls ByteArray.empty, li .i64 0, ls ByteArray.empty, li .i64 0, ls ByteArray.empty])] [] (by kernel_rfl) ?_
    refine SimI.bind (og := F18 n (Thing.mk 7 (Point.mk 1 2) (A4.mk (Field.mk 0 ByteArray.empty) (Field.mk 0 ByteArray.empty) (Field.mk 0 ByteArray.empty) (Field.mk 0 ByteArray.empty))) (Thing.mk 7 (Point.mk 1 2) (A4.mk (Field.mk i7 s8) (Field.mk i9 s10) (Field.mk i11 s12) (Field.mk i13 s14)))) { dst := some 40, op := POp.call true [[], []] 18 [Operand.tmp 38, Operand.tmp 39], guard := none, hints := [] } (fun r16 => [(40, .tup [.agg [li .i64 r16.1.ID, li .u8 r16.1.Mask, li .i64 r16.1.At.X, li .i64 r16.1.At.Y, li .i64 r16.1.F.a0.N, ls r16.1.F.a0.Text, li .i64 r16.1.F.a1.N, ls r16.1.F.a1.Text, li .i64 r16.1.F.a2.N, ls r16.1.F.a2.Text, li .i64 r16.1.F.a3.N, ls r16.1.F.a3.Text], .one (lb r16.2)])]) (fun r16 => []) (by kernel_rfl) (fun r16 hr => pOp_eff (by kernel_rfl) (by kernel_rfl) (eff_call (ARGS := [.agg [li .i64 7, li .i64 1, li .i64 2, li .i64 0, ls ByteArray.empty, li .i64 0, ls ByteArray.empty, li .i64 0, ls ByteArray.empty, li .i64 0, ls ByteArray.empty], .agg [li .i64 7, li .i64 1, li .i64 2, li .i64 i7, ls s8, li .i64 i9, ls s10, li .i64 i11, ls s12, li .i64 i13, ls s14]]) (by kernel_rfl) (args_clean (by kernel_rfl) (args_clean (by kernel_rfl) args_nil)) (F18_ok n (Thing.mk 7 (Point.mk 1 2) (A4.mk (Field.mk 0 ByteArray.empty) (Field.mk 0 ByteArray.empty) (Field.mk 0 ByteArray.empty) (Field.mk 0 ByteArray.empty))) (Thing.mk 7 (Point.mk 1 2) (A4.mk (Field.mk i7 s8) (Field.mk i9 s10) (Field.mk i11 s12) (Field.mk i13 s14))) r16 hr) (by kernel_rfl))) (fun r16 => ?_)
    refine SimI.run 6 [(11, .one (lb r16.2)), (10, .one (.ptr 10 0)), (42, .one (lb r16.2)), (41, .agg [li .i64 r16.1.ID, li .u8 r16.1.Mask, li .i64 r16.1.At.X, li .i64 r16.1.At.Y, li .i64 r16.1.F.a0.N, ls r16.1.F.a0.Text, li .i64 r16.1.F.a1.N, ls r16.1.F.a1.Text, li .i64 r16.1.F.a2.N, ls r16.1.F.a2.Text, li .i64 r16.1.F.a3.N, ls r16.1.F.a3.Text]), (37, .tup [.agg [li .i64 r16.1.ID, li .u8 r16.1.Mask, li .i64 r16.1.At.X, li .i64 r16.1.At.Y, li .i64 r16.1.F.a0.N, ls r16.1.F.a0.Text, li .i64 r16.1.F.a1.N, ls r16.1.F.a1.Text, li .i64 r16.1.F.a2.N, ls r16.1.F.a2.Text, li .i64 r16.1.F.a3.N, ls r16.1.F.a3.Text], .one (lb r16.2)])] [(10, some (.cells [li .i64 r16.1.ID, li .u8 r16.1.Mask, li .i64 r16.1.At.X, li .i64 r16.1.At.Y, li .i64 r16.1.F.a0.N, ls r16.1.F.a0.Text, li .i64 r16.1.F.a1.N, ls r16.1.F.a1.Text, li .i64 r16.1.F.a2.N, ls r16.1.F.a2.Text, li .i64 r16.1.F.a3.N, ls r16.1.F.a3.Text])), (10, some (.cells [li .i64 0, li .u8 0, li .i64 0, li .i64 0, li .i64 0, ls ByteArray.empty, li .i64 0, ls ByteArray.empty, li .i64 0, ls ByteArray.empty, li .i64 0, ls ByteArray.empty]))] (by kernel_rfl) ?_
    refine SimI.done (by kernel_rfl) ?_
    refine SimE.thenN ?_
    refine Sim.seq ?_
    refine Sim.region0 ?_
    refine SimI.run 1 [(44, .agg [li .i64 r16.1.ID, li .u8 r16.1.Mask, li .i64 r16.1.At.X, li .i64 r16.1.At.Y, li .i64 r16.1.F.a0.N, ls r16.1.F.a0.Text, li .i64 r16.1.F.a1.N, ls r16.1.F.a1.Text, li .i64 r16.1.F.a2.N, ls r16.1.F.a2.Text, li .i64 r16.1.F.a3.N, ls r16.1.F.a3.Text])] [] (by kernel_rfl) ?_
    refine SimI.bind (og := F20 n r16.1) { dst := some 45, op := POp.call true [[]] 20 [Operand.tmp 44], guard := none, hints := [] } (fun r17 => [(45, .tup [.one (ls r17.1), .one (li .i64 r17.2)])]) (fun r17 => []) (by kernel_rfl) (fun r17 hr => pOp_eff (by kernel_rfl) (by kernel_rfl) (eff_call (ARGS := [.agg [li .i64 r16.1.ID, li .u8 r16.1.Mask, li .i64 r16.1.At.X, li .i64 r16.1.At.Y, li .i64 r16.1.F.a0.N, ls r16.1.F.a0.Text, li .i64 r16.1.F.a1.N, ls r16.1.F.a1.Text, li .i64 r16.1.F.a2.N, ls r16.1.F.a2.Text, li .i64 r16.1.F.a3.N, ls r16.1.F.a3.Text]]) (by kernel_rfl) (args_clean (by kernel_rfl) args_nil) (F20_ok n r16.1 r17 hr) (by kernel_rfl))) (fun r17 => ?_)
    refine SimI.run 5 [(13, .one (li .i64 r17.2)), (12, .one (ls r17.1)), (47, .one (li .i64 r17.2)), (46, .one (ls r17.1)), (43, .tup [.one (ls r17.1), .one (li .i64 r17.2)])] [] (by kernel_rfl) ?_
    refine SimI.done (by kernel_rfl) ?_
    refine SimE.thenN ?_
    refine Sim.seq ?_
    refine Sim.seq ?_
    refine Sim.region0 ?_
    refine SimI.run 2 [(49, .agg [li .i64 7, li .i64 1, li .i64 2, li .i64 0, ls ByteArray.empty, li .i64 0, ls ByteArray.empty, li .i64 0, ls ByteArray.empty, li .i64 0, ls ByteArray.empty]), (48, .agg [li .i64 7, li .i64 1, li .i64 2, li .i64 i7, ls s8, li .i64 i9, ls s10, li .i64 i11, ls s12, li .i64 i13, ls s14])] [] (by kernel_rfl) ?_
    refine SimI.step { dst := some 50, op := POp.prim (Prim.bin BinOp.eql 28 false false) [Operand.tmp 48, Operand.tmp 49], guard := none, hints := [] } [(50, .one (lb (Thing.eqb (Thing.mk 7 (Point.mk 1 2) (A4.mk (Field.mk i7 s8) (Field.mk i9 s10) (Field.mk i11 s12) (Field.mk i13 s14))) (Thing.mk 7 (Point.mk 1 2) (A4.mk (Field.mk 0 ByteArray.empty) (Field.mk 0 ByteArray.empty) (Field.mk 0 ByteArray.empty) (Field.mk 0 ByteArray.empty))))))] [] (by kernel_rfl) (pOp_eff (by kernel_rfl) (by kernel_rfl) (eff_prim (by kernel_rfl) (Thing_eql (Thing.mk 7 (Point.mk 1 2) (A4.mk (Field.mk i7 s8) (Field.mk i9 s10) (Field.mk i11 s12) (Field.mk i13 s14))) (Thing.mk 7 (Point.mk 1 2) (A4.mk (Field.mk 0 ByteArray.empty) (Field.mk 0 ByteArray.empty) (Field.mk 0 ByteArray.empty) (Field.mk 0 ByteArray.empty))) _ _))) ?_
    refine SimI.done (by kernel_rfl) ?_
    refine SimE.thenN ?_
    refine Sim.cond (Thing.eqb (Thing.mk 7 (Point.mk 1 2) (A4.mk (Field.mk i7 s8) (Field.mk i9 s10) (Field.mk i11 s12) (Field.mk i13 s14))) (Thing.mk 7 (Point.mk 1 2) (A4.mk (Field.mk 0 ByteArray.empty) (Field.mk 0 ByteArray.empty) (Field.mk 0 ByteArray.empty) (Field.mk 0 ByteArray.empty)))) (by kernel_rfl) ?_ ?_
    · refine Sim.seq ?_
      refine Sim.region0 ?_
      refine SimI.run 3 [(6, .one (lb (!(r16.2)))), (52, .one (lb (!(r16.2)))), (51, .one (lb r16.2))] [] (by kernel_rfl) ?_
      refine SimI.done (by kernel_rfl) ?_
      refine SimE.thenN ?_
      refine Sim.ret ?_
      refine SimE.thenR ?_
      exact SimE.fin (by kernel_rfl)
    · refine Sim.skip ?_
      refine SimE.thenN ?_
      refine Sim.seq ?_
      refine Sim.seq ?_
      refine Sim.region0 ?_
      refine SimI.run 3 [(55, .one (lb (!(r16.2)))), (54, .one (lb (!(r16.2)))), (53, .one (lb r16.2))] [] (by kernel_rfl) ?_
      refine SimI.split 55 (!(r16.2)) (by kernel_rfl) ?_ ?_
      · refine SimI.run 16 [(71, .one (lb true)), (70, .tup []), (69, .tup []), (68, .tup []), (67, .one (lb true)), (66, .one (lb true)), (65, .tup []), (64, .tup []), (63, .one (lb true)), (62, .one (lb true)), (61, .tup []), (60, .tup []), (59, .tup []), (58, .tup []), (57, .tup []), (56, .tup [])] [] (by kernel_rfl) ?_
        refine SimI.done (by kernel_rfl) ?_
        refine SimE.thenN ?_
        refine Sim.condT (by kernel_rfl) ?_
        refine Sim.seq ?_
        refine Sim.region0 ?_
        refine SimI.run 1 [(6, .one (lb false))] [] (by kernel_rfl) ?_
        refine SimI.done (by kernel_rfl) ?_
        refine SimE.thenN ?_
        refine Sim.ret ?_
        refine SimE.thenR ?_
        exact SimE.fin (by kernel_rfl)
      · refine SimI.run 4 [(59, .one (li .u64 (IntKind.wrap .u64 (IntKind.wrap .i64 (Int.tmod a0 4))))), (58, .one (li .i64 (IntKind.wrap .i64 (Int.tmod a0 4)))), (57, .one (li .u8 r16.1.Mask)), (56, .one (.ptr 10 1))] [] (by kernel_rfl) ?_
        refine SimI.guard (c := ¬ (IntKind.wrap .u64 (IntKind.wrap .i64 (Int.tmod a0 4)) < 0)) { dst := some 60, op := POp.prim (Prim.bin BinOp.shl 5 true false) [Operand.const (Value.int IntKind.u8 2), Operand.tmp 59], guard := some (55, false), hints := [] } [(60, .one (li .u8 (shlI .u8 2 (IntKind.wrap .u64 (IntKind.wrap .i64 (Int.tmod a0 4))))))] [] (by kernel_rfl) (fun hc => pOp_eff (by kernel_rfl) (by kernel_rfl) (eff_prim (by kernel_rfl) (pr_shl _ _ _ .u8 .u64 2 (IntKind.wrap .u64 (IntKind.wrap .i64 (Int.tmod a0 4))) hc))) ?_
        refine SimI.run 3 [(63, .one (lb (r16.1.Mask != (shlI .u8 2 (IntKind.wrap .u64 (IntKind.wrap .i64 (Int.tmod a0 4))))))), (62, .one (lb (r16.1.Mask != (shlI .u8 2 (IntKind.wrap .u64 (IntKind.wrap .i64 (Int.tmod a0 4))))))), (61, .one (lb (r16.1.Mask != (shlI .u8 2 (IntKind.wrap .u64 (IntKind.wrap .i64 (Int.tmod a0 4)))))))] [] (by kernel_rfl) ?_
        refine SimI.split 63 (r16.1.Mask != (shlI .u8 2 (IntKind.wrap .u64 (IntKind.wrap .i64 (Int.tmod a0 4))))) (by kernel_rfl) ?_ ?_
        · refine SimI.run 8 [(71, .one (lb true)), (70, .tup []), (69, .tup []), (68, .tup []), (67, .one (lb true)), (66, .one (lb true)), (65, .tup []), (64, .tup [])] [] (by kernel_rfl) ?_
          refine SimI.done (by kernel_rfl) ?_
          refine SimE.thenN ?_
          refine Sim.condT (by kernel_rfl) ?_
          refine Sim.seq ?_
          refine Sim.region0 ?_
          refine SimI.run 1 [(6, .one (lb false))] [] (by kernel_rfl) ?_
          refine SimI.done (by kernel_rfl) ?_
          refine SimE.thenN ?_
          refine Sim.ret ?_
          refine SimE.thenR ?_
          exact SimE.fin (by kernel_rfl)
        · refine SimI.run 4 [(67, .one (lb (r17.2 != 0))), (66, .one (lb (r17.2 != 0))), (65, .one (lb (r17.2 != 0))), (64, .one (li .i64 r17.2))] [] (by kernel_rfl) ?_
          refine SimI.split 67 (r17.2 != 0) (by kernel_rfl) ?_ ?_
          · refine SimI.run 4 [(71, .one (lb true)), (70, .tup []), (69, .tup []), (68, .tup [])] [] (by kernel_rfl) ?_
            refine SimI.done (by kernel_rfl) ?_
            refine SimE.thenN ?_
            refine Sim.condT (by kernel_rfl) ?_
            refine Sim.seq ?_
            refine Sim.region0 ?_
            refine SimI.run 1 [(6, .one (lb false))] [] (by kernel_rfl) ?_
            refine SimI.done (by kernel_rfl) ?_
            refine SimE.thenN ?_
            refine Sim.ret ?_
            refine SimE.thenR ?_
            exact SimE.fin (by kernel_rfl)
          · refine SimI.run 4 [(71, .one (lb (decide ((r17.1.size : Int) < 3)))), (70, .one (lb (decide ((r17.1.size : Int) < 3)))), (69, .one (li .i64 (r17.1.size : Int))), (68, .one (ls r17.1))] [] (by kernel_rfl) ?_
            refine SimI.done (by kernel_rfl) ?_
            refine SimE.thenN ?_
            refine Sim.cond (decide ((r17.1.size : Int) < 3)) (by kernel_rfl) ?_ ?_
            · refine Sim.seq ?_
              refine Sim.region0 ?_
              refine SimI.run 1 [(6, .one (lb false))] [] (by kernel_rfl) ?_
              refine SimI.done (by kernel_rfl) ?_
              refine SimE.thenN ?_
              refine Sim.ret ?_
              refine SimE.thenR ?_
              exact SimE.fin (by kernel_rfl)
            · refine Sim.skip ?_
              refine SimE.thenN ?_
              refine Sim.seq ?_
              refine Sim.seq ?_
              refine Sim.region0 ?_
              refine SimI.run 2 [(73, .one (lb (!(a2.toList == ByteArray.empty.toList)))), (72, .one (ls a2))] [] (by kernel_rfl) ?_
              refine SimI.done (by kernel_rfl) ?_
              refine SimE.thenN ?_
              refine Sim.cond (!(a2.toList == ByteArray.empty.toList)) (by kernel_rfl) ?_ ?_
              · refine Sim.seq ?_
                refine Sim.region0 ?_
                refine SimI.run 7 [(6, .one (lb ((r17.1.size : Int) == (IntKind.wrap .i64 (3 + (a2.size : Int)))))), (79, .one (lb ((r17.1.size : Int) == (IntKind.wrap .i64 (3 + (a2.size : Int)))))), (78, .one (li .i64 (IntKind.wrap .i64 (3 + (a2.size : Int))))), (77, .one (li .i64 (a2.size : Int))), (76, .one (ls a2)), (75, .one (li .i64 (r17.1.size : Int))), (74, .one (ls r17.1))] [] (by kernel_rfl) ?_
                refine SimI.done (by kernel_rfl) ?_
                refine SimE.thenN ?_
                refine Sim.ret ?_
                refine SimE.thenR ?_
                exact SimE.fin (by kernel_rfl)
              · refine Sim.skip ?_
                refine SimE.thenN ?_
                refine Sim.seq ?_
                refine Sim.region0 ?_
                refine SimI.run 4 [(6, .one (lb (decide ((r17.1.size : Int) ≤ 13)))), (82, .one (lb (decide ((r17.1.size : Int) ≤ 13)))), (81, .one (li .i64 (r17.1.size : Int))), (80, .one (ls r17.1))] [] (by kernel_rfl) ?_
                refine SimI.done (by kernel_rfl) ?_
                refine SimE.thenN ?_
                refine Sim.ret ?_
                exact SimE.fin (by kernel_rfl)

def F7_j6 (n : Nat) (a0 : Int) (a2 : ByteArray) (i2 : Int) (i3 : Int) (i4 : Int) (i5 : Int) : Option Bool :=
    if !(a2.toList == ByteArray.empty.toList) then
      if IntKind.wrap .i64 (Int.tmod a0 4) = 0 then
        F7_j15 n a0 a2 0 a2 i3 ByteArray.empty i4 ByteArray.empty i5 ByteArray.empty
      else
        if IntKind.wrap .i64 (Int.tmod a0 4) = 1 then
          F7_j15 n a0 a2 i2 ByteArray.empty 0 a2 i4 ByteArray.empty i5 ByteArray.empty
        else
          if IntKind.wrap .i64 (Int.tmod a0 4) = 2 then
            F7_j15 n a0 a2 i2 ByteArray.empty i3 ByteArray.empty 0 a2 i5 ByteArray.empty
          else
            if IntKind.wrap .i64 (Int.tmod a0 4) = 3 then
              F7_j15 n a0 a2 i2 ByteArray.empty i3 ByteArray.empty i4 ByteArray.empty 0 a2
            else
              none
    else
      F7_j15 n a0 a2 i2 ByteArray.empty i3 ByteArray.empty i4 ByteArray.empty i5 ByteArray.empty
theorem F7_j6_ok (n : Nat) (a0 : Int) (a1 : Int) (a2 : ByteArray) (i2 : Int) (i3 : Int) (i4 : Int) (i5 : Int) : Sim Try.prog D (n + 8) pc7_c56 [(2, .one (ls a2)), (7, .one (li .i64 (IntKind.wrap .i64 (Int.tmod a0 4)))), (8, .one (.ptr 8 0)), (9, .one (.ptr 9 0))] ((8, some (.cells [li .i64 7, li .i64 1, li .i64 2, li .i64 0, ls ByteArray.empty, li .i64 0, ls ByteArray.empty, li .i64 0, ls ByteArray.empty, li .i64 0, ls ByteArray.empty])) :: ((9, some (.cells [li .i64 7, li .i64 1, li .i64 2, li .i64 i2, ls ByteArray.empty, li .i64 i3, ls ByteArray.empty, li .i64 i4, ls ByteArray.empty, li .i64 i5, ls ByteArray.empty])) :: [])) (F7_j6 n a0 a2 i2 i3 i4 i5) (QF pc7_r 0 F7_e) := by
    unfold F7_j6
    refine Sim.seq ?_
    refine Sim.seq ?_
    refine Sim.region [(2, .one (ls a2)), (7, .one (li .i64 (IntKind.wrap .i64 (Int.tmod a0 4)))), (8, .one (.ptr 8 0)), (9, .one (.ptr 9 0))] ((8, some (.cells [li .i64 7, li .i64 1, li .i64 2, li .i64 0, ls ByteArray.empty, li .i64 0, ls ByteArray.empty, li .i64 0, ls ByteArray.empty, li .i64 0, ls ByteArray.empty])) :: ((9, some (.cells [li .i64 7, li .i64 1, li .i64 2, li .i64 i2, ls ByteArray.empty, li .i64 i3, ls ByteArray.empty, li .i64 i4, ls ByteArray.empty, li .i64 i5, ls ByteArray.empty])) :: [])) (by kernel_rfl) ?_
    refine SimI.run 2 [(31, .one (lb (!(a2.toList == ByteArray.empty.toList)))), (30, .one (ls a2))] [] (by kernel_rfl) ?_
    refine SimI.done (by kernel_rfl) ?_
    refine SimE.thenN ?_
    refine Sim.cond (!(a2.toList == ByteArray.empty.toList)) (by kernel_rfl) ?_ ?_
    · refine Sim.region0 ?_
      refine SimI.run 4 [(35, .one (.ptr 9 3)), (34, .agg [li .i64 0, ls a2]), (33, .one (ls a2)), (32, .one (li .i64 (IntKind.wrap .i64 (Int.tmod a0 4))))] [] (by kernel_rfl) ?_
      refine SimI.casei 32 .i64 (IntKind.wrap .i64 (Int.tmod a0 4)) 0 (by kernel_rfl) ?_ ?_
      · refine SimI.run 2 [(36, .one (.ptr 9 3))] [(9, some (.cells [li .i64 7, li .i64 1, li .i64 2, li .i64 0, ls a2, li .i64 i3, ls ByteArray.empty, li .i64 i4, ls ByteArray.empty, li .i64 i5, ls ByteArray.empty]))] (by kernel_rfl) ?_
        refine SimI.done (by kernel_rfl) ?_
        refine SimE.thenN ?_
        refine Sim.pre (ts := [2, 7, 8, 9]) (os := [8, 9]) [(2, .one (ls a2)), (7, .one (li .i64 (IntKind.wrap .i64 (Int.tmod a0 4)))), (8, .one (.ptr 8 0)), (9, .one (.ptr 9 0))] ((8, some (.cells [li .i64 7, li .i64 1, li .i64 2, li .i64 0, ls ByteArray.empty, li .i64 0, ls ByteArray.empty, li .i64 0, ls ByteArray.empty, li .i64 0, ls ByteArray.empty])) :: ((9, some (.cells [li .i64 7, li .i64 1, li .i64 2, li .i64 0, ls a2, li .i64 i3, ls ByteArray.empty, li .i64 i4, ls ByteArray.empty, li .i64 i5, ls ByteArray.empty])) :: [])) (by kernel_rfl) (by kernel_rfl) (by kernel_rfl) ?_
        exact F7_j15_ok n a0 a1 a2 0 a2 i3 ByteArray.empty i4 ByteArray.empty i5 ByteArray.empty
      · refine SimI.casei 32 .i64 (IntKind.wrap .i64 (Int.tmod a0 4)) 1 (by kernel_rfl) ?_ ?_
        · refine SimI.run 2 [(36, .one (.ptr 9 5))] [(9, some (.cells [li .i64 7, li .i64 1, li .i64 2, li .i64 i2, ls ByteArray.empty, li .i64 0, ls a2, li .i64 i4, ls ByteArray.empty, li .i64 i5, ls ByteArray.empty]))] (by kernel_rfl) ?_
          refine SimI.done (by kernel_rfl) ?_
          refine SimE.thenN ?_
          refine Sim.pre (ts := [2, 7, 8, 9]) (os := [8, 9]) [(2, .one (ls a2)), (7, .one (li .i64 (IntKind.wrap .i64 (Int.tmod a0 4)))), (8, .one (.ptr 8 0)), (9, .one (.ptr 9 0))] ((8, some (.cells [li .i64 7, li .i64 1, li .i64 2, li .i64 0, ls ByteArray.empty, li .i64 0, ls ByteArray.empty, li .i64 0, ls ByteArray.empty, li .i64 0, ls ByteArray.empty])) :: ((9, some (.cells [li .i64 7, li .i64 1, li .i64 2, li .i64 i2, ls ByteArray.empty, li .i64 0, ls a2, li .i64 i4, ls ByteArray.empty, li .i64 i5, ls ByteArray.empty])) :: [])) (by kernel_rfl) (by kernel_rfl) (by kernel_rfl) ?_
          exact F7_j15_ok n a0 a1 a2 i2 ByteArray.empty 0 a2 i4 ByteArray.empty i5 ByteArray.empty
        · refine SimI.casei 32 .i64 (IntKind.wrap .i64 (Int.tmod a0 4)) 2 (by kernel_rfl) ?_ ?_
          · refine SimI.run 2 [(36, .one (.ptr 9 7))] [(9, some (.cells [li .i64 7, li .i64 1, li .i64 2, li .i64 i2, ls ByteArray.empty, li .i64 i3, ls ByteArray.empty, li .i64 0, ls a2, li .i64 i5, ls ByteArray.empty]))] (by kernel_rfl) ?_
            refine SimI.done (by kernel_rfl) ?_
            refine SimE.thenN ?_
            refine Sim.pre (ts := [2, 7, 8, 9]) (os := [8, 9]) [(2, .one (ls a2)), (7, .one (li .i64 (IntKind.wrap .i64 (Int.tmod a0 4)))), (8, .one (.ptr 8 0)), (9, .one (.ptr 9 0))] ((8, some (.cells [li .i64 7, li .i64 1, li .i64 2, li .i64 0, ls ByteArray.empty, li .i64 0, ls ByteArray.empty, li .i64 0, ls ByteArray.empty, li .i64 0, ls ByteArray.empty])) :: ((9, some (.cells [li .i64 7, li .i64 1, li .i64 2, li .i64 i2, ls ByteArray.empty, li .i64 i3, ls ByteArray.empty, li .i64 0, ls a2, li .i64 i5, ls ByteArray.empty])) :: [])) (by kernel_rfl) (by kernel_rfl) (by kernel_rfl) ?_
            exact F7_j15_ok n a0 a1 a2 i2 ByteArray.empty i3 ByteArray.empty 0 a2 i5 ByteArray.empty
          · refine SimI.casei 32 .i64 (IntKind.wrap .i64 (Int.tmod a0 4)) 3 (by kernel_rfl) ?_ ?_
            · refine SimI.run 2 [(36, .one (.ptr 9 9))] [(9, some (.cells [li .i64 7, li .i64 1, li .i64 2, li .i64 i2, ls ByteArray.empty, li .i64 i3, ls ByteArray.empty, li .i64 i4, ls ByteArray.empty, li .i64 0, ls a2]))] (by kernel_rfl) ?_
              refine SimI.done (by kernel_rfl) ?_
              refine SimE.thenN ?_
              refine Sim.pre (ts := [2, 7, 8, 9]) (os := [8, 9]) [(2, .one (ls a2)), (7, .one (li .i64 (IntKind.wrap .i64 (Int.tmod a0 4)))), (8, .one (.ptr 8 0)), (9, .one (.ptr 9 0))] ((8, some (.cells [li .i64 7, li .i64 1, li .i64 2, li .i64 0, ls ByteArray.empty, li .i64 0, ls ByteArray.empty, li .i64 0, ls ByteArray.empty, li .i64 0, ls ByteArray.empty])) :: ((9, some (.cells [li .i64 7, li .i64 1, li .i64 2, li .i64 i2, ls ByteArray.empty, li .i64 i3, ls ByteArray.empty, li .i64 i4, ls ByteArray.empty, li .i64 0, ls a2])) :: [])) (by kernel_rfl) (by kernel_rfl) (by kernel_rfl) ?_
              exact F7_j15_ok n a0 a1 a2 i2 ByteArray.empty i3 ByteArray.empty i4 ByteArray.empty 0 a2
            · exact SimI.vac rfl
    · refine Sim.skip ?_
      refine SimE.thenN ?_
      refine Sim.pre (ts := [2, 7, 8, 9]) (os := [8, 9]) [(2, .one (ls a2)), (7, .one (li .i64 (IntKind.wrap .i64 (Int.tmod a0 4)))), (8, .one (.ptr 8 0)), (9, .one (.ptr 9 0))] ((8, some (.cells [li .i64 7, li .i64 1, li .i64 2, li .i64 0, ls ByteArray.empty, li .i64 0, ls ByteArray.empty, li .i64 0, ls ByteArray.empty, li .i64 0, ls ByteArray.empty])) :: ((9, some (.cells [li .i64 7, li .i64 1, li .i64 2, li .i64 i2, ls ByteArray.empty, li .i64 i3, ls ByteArray.empty, li .i64 i4, ls ByteArray.empty, li .i64 i5, ls ByteArray.empty])) :: [])) (by kernel_rfl) (by kernel_rfl) (by kernel_rfl) ?_
      exact F7_j15_ok n a0 a1 a2 i2 ByteArray.empty i3 ByteArray.empty i4 ByteArray.empty i5 ByteArray.empty

def F7 (n : Nat) (a0 : Int) (a1 : Int) (a2 : ByteArray) : Option Bool :=
  ((some true)).bind fun (r1 : Bool) =>
  if !(r1) then
    some false
  else
    if decide ((12 : Int) < (a2.size : Int)) then
      some true
    else
      if IntKind.wrap .i64 (Int.tmod a0 4) = 0 then
        F7_j6 n a0 a2 a1 0 0 0
      else
        if IntKind.wrap .i64 (Int.tmod a0 4) = 1 then
          F7_j6 n a0 a2 0 a1 0 0
        else
          if IntKind.wrap .i64 (Int.tmod a0 4) = 2 then
            F7_j6 n a0 a2 0 0 a1 0
          else
            if IntKind.wrap .i64 (Int.tmod a0 4) = 3 then
              F7_j6 n a0 a2 0 0 0 a1
            else
              none
theorem F7_ok (n : Nat) (a0 : Int) (a1 : Int) (a2 : ByteArray) : ∀ r, F7 n a0 a1 a2 = some r → D 7 [.one (li .u8 a0), .one (li .i64 a1), .one (ls a2)] [] = some (F7_e r) := by
  refine fn_to (D := D) (n := n + 8) (nt := 83) (rs := pc7_r) (c := pc7_c63) (L := [(0, .one (li .u8 a0)), (1, .one (li .i64 a1)), (2, .one (ls a2))]) (M := []) (k := 0) rfl rfl rfl rfl rfl rfl ?_
  unfold F7
  refine Sim.seq ?_
  refine Sim.region0 ?_
  refine SimI.run 1 [(6, .one (lb false))] [] (by kernel_rfl) ?_
  refine SimI.done (by kernel_rfl) ?_
  refine SimE.thenN ?_
  refine Sim.seq ?_
  refine Sim.seq ?_
  refine Sim.region0 ?_
  refine SimI.bind (og := (some true)) { dst := some 14, op := POp.call true [] 14 [], guard := none, hints := [] } (fun r1 => [(14, .one (lb r1))]) (fun r1 => []) (by kernel_rfl) (fun r1 hr => pOp_eff (by kernel_rfl) (by kernel_rfl) (eff_call (ARGS := []) (by kernel_rfl) (args_nil) (F14_ok n r1 hr) (by kernel_rfl))) (fun r1 => ?_)
  refine SimI.run 1 [(15, .one (lb (!(r1))))] [] (by kernel_rfl) ?_
  refine SimI.done (by kernel_rfl) ?_
  refine SimE.thenN ?_
  refine Sim.cond (!(r1)) (by kernel_rfl) ?_ ?_
  · refine Sim.seq ?_
    refine Sim.region0 ?_
    refine SimI.run 1 [(6, .one (lb false))] [] (by kernel_rfl) ?_
    refine SimI.done (by kernel_rfl) ?_
    refine SimE.thenN ?_
    refine Sim.ret ?_
    refine SimE.thenR ?_
    exact SimE.fin (by kernel_rfl)
  · refine Sim.skip ?_
    refine SimE.thenN ?_
    refine Sim.seq ?_
    refine Sim.seq ?_
    refine Sim.region0 ?_
    refine SimI.run 3 [(18, .one (lb (decide ((12 : Int) < (a2.size : Int))))), (17, .one (li .i64 (a2.size : Int))), (16, .one (ls a2))] [] (by kernel_rfl) ?_
    refine SimI.done (by kernel_rfl) ?_
    refine SimE.thenN ?_
    refine Sim.cond (decide ((12 : Int) < (a2.size : Int))) (by kernel_rfl) ?_ ?_
    · refine Sim.seq ?_
      refine Sim.region0 ?_
      refine SimI.run 1 [(6, .one (lb true))] [] (by kernel_rfl) ?_
      refine SimI.done (by kernel_rfl) ?_
      refine SimE.thenN ?_
      refine Sim.ret ?_
      refine SimE.thenR ?_
      exact SimE.fin (by kernel_rfl)
    · refine Sim.skip ?_
      refine SimE.thenN ?_
      refine Sim.seq ?_
      refine Sim.region0 ?_
      refine SimI.run 4 [(7, .one (li .i64 (IntKind.wrap .i64 (Int.tmod a0 4)))), (21, .one (li .i64 (IntKind.wrap .i64 (Int.tmod a0 4)))), (20, .one (li .u8 (Int.tmod a0 4))), (19, .one (li .u8 a0))] [] (by kernel_rfl) ?_
      refine SimI.done (by kernel_rfl) ?_
      refine SimE.thenN ?_
      refine Sim.seq ?_
      refine Sim.region0 ?_
      refine SimI.run 4 [(8, .one (.ptr 8 0)), (23, .agg [li .i64 7, li .i64 1, li .i64 2, li .i64 0, ls ByteArray.empty, li .i64 0, ls ByteArray.empty, li .i64 0, ls ByteArray.empty, li .i64 0, ls ByteArray.empty]), (22, .agg [li .i64 1, li .i64 2])] [(8, some (.cells [li .i64 7, li .i64 1, li .i64 2, li .i64 0, ls ByteArray.empty, li .i64 0, ls ByteArray.empty, li .i64 0, ls ByteArray.empty, li .i64 0, ls ByteArray.empty])), (8, some (.cells [li .i64 0, li .i64 0, li .i64 0, li .i64 0, ls ByteArray.empty, li .i64 0, ls ByteArray.empty, li .i64 0, ls ByteArray.empty, li .i64 0, ls ByteArray.empty]))] (by kernel_rfl) ?_
      refine SimI.done (by kernel_rfl) ?_
      refine SimE.thenN ?_
      refine Sim.seq ?_
      refine Sim.region0 ?_
      refine SimI.run 3 [(9, .one (.ptr 9 0)), (24, .agg [li .i64 7, li .i64 1, li .i64 2, li .i64 0, ls ByteArray.empty, li .i64 0, ls ByteArray.empty, li .i64 0, ls ByteArray.empty, li .i64 0, ls ByteArray.empty])] [(9, some (.cells [li .i64 7, li .i64 1, li .i64 2, li .i64 0, ls ByteArray.empty, li .i64 0, ls ByteArray.empty, li .i64 0, ls ByteArray.empty, li .i64 0, ls ByteArray.empty])), (9, some (.cells [li .i64 0, li .i64 0, li .i64 0, li .i64 0, ls ByteArray.empty, li .i64 0, ls ByteArray.empty, li .i64 0, ls ByteArray.empty, li .i64 0, ls ByteArray.empty]))] (by kernel_rfl) ?_
      refine SimI.done (by kernel_rfl) ?_
      refine SimE.thenN ?_
      refine Sim.seq ?_
      refine Sim.region0 ?_
      refine SimI.run 4 [(28, .one (.ptr 9 3)), (27, .agg [li .i64 a1, ls ByteArray.empty]), (26, .one (li .i64 a1)), (25, .one (li .i64 (IntKind.wrap .i64 (Int.tmod a0 4))))] [] (by kernel_rfl) ?_
      refine SimI.casei 25 .i64 (IntKind.wrap .i64 (Int.tmod a0 4)) 0 (by kernel_rfl) ?_ ?_
      · refine SimI.run 2 [(29, .one (.ptr 9 3))] [(9, some (.cells [li .i64 7, li .i64 1, li .i64 2, li .i64 a1, ls ByteArray.empty, li .i64 0, ls ByteArray.empty, li .i64 0, ls ByteArray.empty, li .i64 0, ls ByteArray.empty]))] (by kernel_rfl) ?_
        refine SimI.done (by kernel_rfl) ?_
        refine SimE.thenN ?_
        refine Sim.pre (ts := [2, 7, 8, 9]) (os := [8, 9]) [(2, .one (ls a2)), (7, .one (li .i64 (IntKind.wrap .i64 (Int.tmod a0 4)))), (8, .one (.ptr 8 0)), (9, .one (.ptr 9 0))] ((8, some (.cells [li .i64 7, li .i64 1, li .i64 2, li .i64 0, ls ByteArray.empty, li .i64 0, ls ByteArray.empty, li .i64 0, ls ByteArray.empty, li .i64 0, ls ByteArray.empty])) :: ((9, some (.cells [li .i64 7, li .i64 1, li .i64 2, li .i64 a1, ls ByteArray.empty, li .i64 0, ls ByteArray.empty, li .i64 0, ls ByteArray.empty, li .i64 0, ls ByteArray.empty])) :: [])) (by kernel_rfl) (by kernel_rfl) (by kernel_rfl) ?_
        exact F7_j6_ok n a0 a1 a2 a1 0 0 0
      · refine SimI.casei 25 .i64 (IntKind.wrap .i64 (Int.tmod a0 4)) 1 (by kernel_rfl) ?_ ?_
        · refine SimI.run 2 [(29, .one (.ptr 9 5))] [(9, some (.cells [li .i64 7, li .i64 1, li .i64 2, li .i64 0, ls ByteArray.empty, li .i64 a1, ls ByteArray.empty, li .i64 0, ls ByteArray.empty, li .i64 0, ls ByteArray.empty]))] (by kernel_rfl) ?_
          refine SimI.done (by kernel_rfl) ?_
          refine SimE.thenN ?_
          refine Sim.pre (ts := [2, 7, 8, 9]) (os := [8, 9]) [(2, .one (ls a2)), (7, .one (li .i64 (IntKind.wrap .i64 (Int.tmod a0 4)))), (8, .one (.ptr 8 0)), (9, .one (.ptr 9 0))] ((8, some (.cells [li .i64 7, li .i64 1, li .i64 2, li .i64 0, ls ByteArray.empty, li .i64 0, ls ByteArray.empty, li .i64 0, ls ByteArray.empty, li .i64 0, ls ByteArray.empty])) :: ((9, some (.cells [li .i64 7, li .i64 1, li .i64 2, li .i64 0, ls ByteArray.empty, li .i64 a1, ls ByteArray.empty, li .i64 0, ls ByteArray.empty, li .i64 0, ls ByteArray.empty])) :: [])) (by kernel_rfl) (by kernel_rfl) (by kernel_rfl) ?_
          exact F7_j6_ok n a0 a1 a2 0 a1 0 0
        · refine SimI.casei 25 .i64 (IntKind.wrap .i64 (Int.tmod a0 4)) 2 (by kernel_rfl) ?_ ?_
          · refine SimI.run 2 [(29, .one (.ptr 9 7))] [(9, some (.cells [li .i64 7, li .i64 1, li .i64 2, li .i64 0, ls ByteArray.empty, li .i64 0, ls ByteArray.empty, li .i64 a1, ls ByteArray.empty, li .i64 0, ls ByteArray.empty]))] (by kernel_rfl) ?_
            refine SimI.done (by kernel_rfl) ?_
            refine SimE.thenN ?_
            refine Sim.pre (ts := [2, 7, 8, 9]) (os := [8, 9]) [(2, .one (ls a2)), (7, .one (li .i64 (IntKind.wrap .i64 (Int.tmod a0 4)))), (8, .one (.ptr 8 0)), (9, .one (.ptr 9 0))] ((8, some (.cells [li .i64 7, li .i64 1, li .i64 2, li .i64 0, ls ByteArray.empty, li .i64 0, ls ByteArray.empty, li .i64 0, ls ByteArray.empty, li .i64 0, ls ByteArray.empty])) :: ((9, some (.cells [li .i64 7, li .i64 1, li .i64 2, li .i64 0, ls ByteArray.empty, li .i64 0, ls ByteArray.empty, li .i64 a1, ls ByteArray.empty, li .i64 0, ls ByteArray.empty])) :: [])) (by kernel_rfl) (by kernel_rfl) (by kernel_rfl) ?_
            exact F7_j6_ok n a0 a1 a2 0 0 a1 0
          · refine SimI.casei 25 .i64 (IntKind.wrap .i64 (Int.tmod a0 4)) 3 (by kernel_rfl) ?_ ?_
            · refine SimI.run 2 [(29, .one (.ptr 9 9))] [(9, some (.cells [li .i64 7, li .i64 1, li .i64 2, li .i64 0, ls ByteArray.empty, li .i64 0, ls ByteArray.empty, li .i64 0, ls ByteArray.empty, li .i64 a1, ls ByteArray.empty]))] (by kernel_rfl) ?_
              refine SimI.done (by kernel_rfl) ?_
              refine SimE.thenN ?_
              refine Sim.pre (ts := [2, 7, 8, 9]) (os := [8, 9]) [(2, .one (ls a2)), (7, .one (li .i64 (IntKind.wrap .i64 (Int.tmod a0 4)))), (8, .one (.ptr 8 0)), (9, .one (.ptr 9 0))] ((8, some (.cells [li .i64 7, li .i64 1, li .i64 2, li .i64 0, ls ByteArray.empty, li .i64 0, ls ByteArray.empty, li .i64 0, ls ByteArray.empty, li .i64 0, ls ByteArray.empty])) :: ((9, some (.cells [li .i64 7, li .i64 1, li .i64 2, li .i64 0, ls ByteArray.empty, li .i64 0, ls ByteArray.empty, li .i64 0, ls ByteArray.empty, li .i64 a1, ls ByteArray.empty])) :: [])) (by kernel_rfl) (by kernel_rfl) (by kernel_rfl) ?_
              exact F7_j6_ok n a0 a1 a2 0 0 0 a1
            · exact SimI.vac rfl


-- 8: vedette/vedettelaw6.FieldsSpoils
def F8_e : Bool → PV × List (List Lf) := fun r => (.one (lb r), [])
def F8_j16 (n : Nat) (a0 : Delta) (i4 : Int) (i5 : Int) (i6 : Int) (i7 : Int) (i8 : Int) (s9 : ByteArray) (i10 : Int) (s11 : ByteArray) (i12 : Int) (s13 : ByteArray) (i14 : Int) (s15 : ByteArray) : Option Bool :=
    (F20 n (Delta.mk i4 i5 (Point.mk i6 i7) (A4.mk (Field.mk i8 s9) (Field.mk i10 s11) (Field.mk i12 s13) (Field.mk i14 s15)))).bind fun (r17 : (ByteArray × Int)) =>
    (F25 n (Delta.mk i4 i5 (Point.mk i6 i7) (A4.mk (Field.mk i8 s9) (Field.mk i10 s11) (Field.mk i12 s13) (Field.mk i14 s15)))).bind fun (r18 : Bool) =>
    if !(r18) then
      if r17.2 == 11 then
        (F28 n a0 (Delta.mk i4 i5 (Point.mk i6 i7) (A4.mk (Field.mk i8 s9) (Field.mk i10 s11) (Field.mk i12 s13) (Field.mk i14 s15)))).bind fun (r19 : Bool) =>
        if !(r19) then
          (F21 n a0).bind fun (r20 : Bool) =>
          some r20
        else
          some false
      else
        some false
    else
      some false
theorem F8_j16_ok (n : Nat) (a0 : Delta) (a1 : Int) (i4 : Int) (i5 : Int) (i6 : Int) (i7 : Int) (i8 : Int) (s9 : ByteArray) (i10 : Int) (s11 : ByteArray) (i12 : Int) (s13 : ByteArray) (i14 : Int) (s15 : ByteArray) : Sim Try.prog D (n + 8) pc8_c45 [(2, .one (.ptr 2 0)), (5, .one (.ptr 5 0))] ((2, some (.cells [li .i64 a0.ID, li .u8 a0.Mask, li .i64 a0.At.X, li .i64 a0.At.Y, li .i64 a0.F.a0.N, ls a0.F.a0.Text, li .i64 a0.F.a1.N, ls a0.F.a1.Text, li .i64 a0.F.a2.N, ls a0.F.a2.Text, li .i64 a0.F.a3.N, ls a0.F.a3.Text])) :: ((5, some (.cells [li .i64 i4, li .u8 i5, li .i64 i6, li .i64 i7, li .i64 i8, ls s9, li .i64 i10, ls s11, li .i64 i12, ls s13, li .i64 i14, ls s15])) :: [])) (F8_j16 n a0 i4 i5 i6 i7 i8 s9 i10 s11 i12 s13 i14 s15) (QF pc8_r 0 F8_e) := by
    unfold F8_j16
    refine Sim.seq ?_
    refine Sim.region [(2, .one (.ptr 2 0)), (5, .one (.ptr 5 0))] ((2, some (.cells [li .i64 a0.ID, li .u8 a0.Mask, li .i64 a0.At.X, li .i64 a0.At.Y, li .i64 a0.F.a0.N, ls a0.F.a0.Text, li .i64 a0.F.a1.N, ls a0.F.a1.Text, li .i64 a0.F.a2.N, ls a0.F.a2.Text, li .i64 a0.F.a3.N, ls a0.F.a3.Text])) :: ((5, some (.cells [li .i64 i4, li .u8 i5, li .i64 i6, li .i64 i7, li .i64 i8, ls s9, li .i64 i10, ls s11, li .i64 i12, ls s13, li .i64 i14, ls s15])) :: [])) (by kernel_rfl) ?_
    refine SimI.run 1 [(48, .agg [li .i64 i4, li .u8 i5, li .i64 i6, li .i64 i7, li .i64 i8, ls s9, li .i64 i10, ls s11, li .i64 i12, ls s13, li .i64 i14, ls s15])] [] (by kernel_rfl) ?_
    refine SimI.bind (og := F20 n (Delta.mk i4 i5 (Point.mk i6 i7) (A4.mk (Field.mk i8 s9) (Field.mk i10 s11) (Field.mk i12 s13) (Field.mk i14 s15)))) { dst := some 49, op := POp.call true [[]] 20 [Operand.tmp 48], guard := none, hints := [] } (fun r17 => [(49, .tup [.one (ls r17.1), .one (li .i64 r17.2)])]) (fun r17 => []) (by kernel_rfl) (fun r17 hr => pOp_eff (by kernel_rfl) (by kernel_rfl) (eff_call (ARGS := [.agg [li .i64 i4, li .u8 i5, li .i64 i6, li .i64 i7, li .i64 i8, ls s9, li .i64 i10, ls s11, li .i64 i12, ls s13, li .i64 i14, ls s15]]) (by kernel_rfl) (args_clean (by kernel_rfl) args_nil) (F20_ok n (Delta.mk i4 i5 (Point.mk i6 i7) (A4.mk (Field.mk i8 s9) (Field.mk i10 s11) (Field.mk i12 s13) (Field.mk i14 s15))) r17 hr) (by kernel_rfl))) (fun r17 => ?_)
    refine SimI.run 5 [(7, .one (li .i64 r17.2)), (6, .one (ls r17.1)), (51, .one (li .i64 r17.2)), (50, .one (ls r17.1)), (47, .tup [.one (ls r17.1), .one (li .i64 r17.2)])] [] (by kernel_rfl) ?_
    refine SimI.done (by kernel_rfl) ?_
    refine SimE.thenN ?_
    refine Sim.seq ?_
    refine Sim.region0 ?_
    refine SimI.run 1 [(52, .agg [li .i64 i4, li .u8 i5, li .i64 i6, li .i64 i7, li .i64 i8, ls s9, li .i64 i10, ls s11, li .i64 i12, ls s13, li .i64 i14, ls s15])] [] (by kernel_rfl) ?_
    refine SimI.bind (og := F25 n (Delta.mk i4 i5 (Point.mk i6 i7) (A4.mk (Field.mk i8 s9) (Field.mk i10 s11) (Field.mk i12 s13) (Field.mk i14 s15)))) { dst := some 53, op := POp.call true [[]] 25 [Operand.tmp 52], guard := none, hints := [] } (fun r18 => [(53, .one (lb r18))]) (fun r18 => []) (by kernel_rfl) (fun r18 hr => pOp_eff (by kernel_rfl) (by kernel_rfl) (eff_call (ARGS := [.agg [li .i64 i4, li .u8 i5, li .i64 i6, li .i64 i7, li .i64 i8, ls s9, li .i64 i10, ls s11, li .i64 i12, ls s13, li .i64 i14, ls s15]]) (by kernel_rfl) (args_clean (by kernel_rfl) args_nil) (F25_ok n (Delta.mk i4 i5 (Point.mk i6 i7) (A4.mk (Field.mk i8 s9) (Field.mk i10 s11) (Field.mk i12 s13) (Field.mk i14 s15))) r18 hr) (by kernel_rfl))) (fun r18 => ?_)
    refine SimI.run 2 [(55, .one (lb (!(r18)))), (54, .one (lb (!(r18))))] [] (by kernel_rfl) ?_
    refine SimI.split 55 (!(r18)) (by kernel_rfl) ?_ ?_
    · refine SimI.run 4 [(59, .one (lb (r17.2 == 11))), (58, .one (lb (r17.2 == 11))), (57, .one (lb (r17.2 == 11))), (56, .one (li .i64 r17.2))] [] (by kernel_rfl) ?_
      refine SimI.split 59 (r17.2 == 11) (by kernel_rfl) ?_ ?_
      · refine SimI.run 2 [(61, .agg [li .i64 i4, li .u8 i5, li .i64 i6, li .i64 i7, li .i64 i8, ls s9, li .i64 i10, ls s11, li .i64 i12, ls s13, li .i64 i14, ls s15]), (60, .agg [li .i64 a0.ID, li .u8 a0.Mask, li .i64 a0.At.X, li .i64 a0.At.Y, li .i64 a0.F.a0.N, ls a0.F.a0.Text, li .i64 a0.F.a1.N, ls a0.F.a1.Text, li .i64 a0.F.a2.N, ls a0.F.a2.Text, li .i64 a0.F.a3.N, ls a0.F.a3.Text])] [] (by kernel_rfl) ?_
        refine SimI.bind (og := F28 n a0 (Delta.mk i4 i5 (Point.mk i6 i7) (A4.mk (Field.mk i8 s9) (Field.mk i10 s11) (Field.mk i12 s13) (Field.mk i14 s15)))) { dst := some 62, op := POp.call true [[], []] 28 [Operand.tmp 60, Operand.tmp 61], guard := some (59, true), hints := [] } (fun r19 => [(62, .one (lb r19))]) (fun r19 => []) (by kernel_rfl) (fun r19 hr => pOp_eff (by kernel_rfl) (by kernel_rfl) (eff_call (ARGS := [.agg [li .i64 a0.ID, li .u8 a0.Mask, li .i64 a0.At.X, li .i64 a0.At.Y, li .i64 a0.F.a0.N, ls a0.F.a0.Text, li .i64 a0.F.a1.N, ls a0.F.a1.Text, li .i64 a0.F.a2.N, ls a0.F.a2.Text, li .i64 a0.F.a3.N, ls a0.F.a3.Text], .agg [li .i64 i4, li .u8 i5, li .i64 i6, li .i64 i7, li .i64 i8, ls s9, li .i64 i10, ls s11, li .i64 i12, ls s13, li .i64 i14, ls s15]]) (by kernel_rfl) (args_clean (by kernel_rfl) (args_clean (by kernel_rfl) args_nil)) (F28_ok n a0 (Delta.mk i4 i5 (Point.mk i6 i7) (A4.mk (Field.mk i8 s9) (Field.mk i10 s11) (Field.mk i12 s13) (Field.mk i14 s15))) r19 hr) (by kernel_rfl))) (fun r19 => ?_)
        refine SimI.run 3 [(65, .one (lb (!(r19)))), (64, .one (lb (!(r19)))), (63, .one (lb (!(r19))))] [] (by kernel_rfl) ?_
        refine SimI.split 65 (!(r19)) (by kernel_rfl) ?_ ?_
        · refine SimI.run 1 [(66, .agg [li .i64 a0.ID, li .u8 a0.Mask, li .i64 a0.At.X, li .i64 a0.At.Y, li .i64 a0.F.a0.N, ls a0.F.a0.Text, li .i64 a0.F.a1.N, ls a0.F.a1.Text, li .i64 a0.F.a2.N, ls a0.F.a2.Text, li .i64 a0.F.a3.N, ls a0.F.a3.Text])] [] (by kernel_rfl) ?_
          refine SimI.bind (og := F21 n a0) { dst := some 67, op := POp.call true [[]] 21 [Operand.tmp 66], guard := some (65, true), hints := [] } (fun r20 => [(67, .one (lb r20))]) (fun r20 => []) (by kernel_rfl) (fun r20 hr => pOp_eff (by kernel_rfl) (by kernel_rfl) (eff_call (ARGS := [.agg [li .i64 a0.ID, li .u8 a0.Mask, li .i64 a0.At.X, li .i64 a0.At.Y, li .i64 a0.F.a0.N, ls a0.F.a0.Text, li .i64 a0.F.a1.N, ls a0.F.a1.Text, li .i64 a0.F.a2.N, ls a0.F.a2.Text, li .i64 a0.F.a3.N, ls a0.F.a3.Text]]) (by kernel_rfl) (args_clean (by kernel_rfl) args_nil) (F21_ok n a0 r20 hr) (by kernel_rfl))) (fun r20 => ?_)
          refine SimI.run 2 [(4, .one (lb r20)), (68, .one (lb r20))] [] (by kernel_rfl) ?_
          refine SimI.done (by kernel_rfl) ?_
          refine SimE.thenN ?_
          refine Sim.ret ?_
          exact SimE.fin (by kernel_rfl)
        · refine SimI.run 4 [(4, .one (lb false)), (68, .one (lb false)), (67, .tup []), (66, .tup [])] [] (by kernel_rfl) ?_
          refine SimI.done (by kernel_rfl) ?_
          refine SimE.thenN ?_
          refine Sim.ret ?_
          exact SimE.fin (by kernel_rfl)
      · refine SimI.run 10 [(4, .one (lb false)), (68, .one (lb false)), (67, .tup []), (66, .tup []), (65, .one (lb false)), (64, .one (lb false)), (63, .tup []), (62, .tup []), (61, .tup []), (60, .tup [])] [] (by kernel_rfl) ?_
        refine SimI.done (by kernel_rfl) ?_
        refine SimE.thenN ?_
        refine Sim.ret ?_
        exact SimE.fin (by kernel_rfl)
    · refine SimI.run 14 [(4, .one (lb false)), (68, .one (lb false)), (67, .tup []), (66, .tup []), (65, .one (lb false)), (64, .one (lb false)), (63, .tup []), (62, .tup []), (61, .tup []), (60, .tup []), (59, .one (lb false)), (58, .one (lb false)), (57, .tup []), (56, .tup [])] [] (by kernel_rfl) ?_
      refine SimI.done (by kernel_rfl) ?_
      refine SimE.thenN ?_
      refine Sim.ret ?_
      exact SimE.fin (by kernel_rfl)

def F8 (n : Nat) (a0 : Delta) (a1 : Int) : Option Bool :=
  ((some true)).bind fun (r1 : Bool) =>
  if !(r1) then
    some false
  else
    (F16 n a0).bind fun (r2 : Bool) =>
    if !(r2) then
      some true
    else
      (F25 n a0).bind fun (r3 : Bool) =>
      if !(r3) then
        some true
      else
        if (Int.tmod a1 6) == 0 then
          F8_j16 n a0 (-1) a0.Mask a0.At.X a0.At.Y a0.F.a0.N a0.F.a0.Text a0.F.a1.N a0.F.a1.Text a0.F.a2.N a0.F.a2.Text a0.F.a3.N a0.F.a3.Text
        else
          if (Int.tmod a1 6) == 1 then
            F8_j16 n a0 a0.ID (bitsI .or .u8 a0.Mask 32) a0.At.X a0.At.Y a0.F.a0.N a0.F.a0.Text a0.F.a1.N a0.F.a1.Text a0.F.a2.N a0.F.a2.Text a0.F.a3.N a0.F.a3.Text
          else
            if (Int.tmod a1 6) == 2 then
              F8_j16 n a0 a0.ID 0 a0.At.X a0.At.Y a0.F.a0.N a0.F.a0.Text a0.F.a1.N a0.F.a1.Text a0.F.a2.N a0.F.a2.Text a0.F.a3.N a0.F.a3.Text
            else
              if (Int.tmod a1 6) == 3 then
                F8_j16 n a0 a0.ID a0.Mask 64 0 a0.F.a0.N a0.F.a0.Text a0.F.a1.N a0.F.a1.Text a0.F.a2.N a0.F.a2.Text a0.F.a3.N a0.F.a3.Text
              else
                if (Int.tmod a1 6) == 4 then
                  if Int.tmod (IntKind.wrap .i64 (IntKind.wrap .u8 (Int.tdiv a1 6))) 4 = 0 then
                    F8_j16 n a0 a0.ID a0.Mask a0.At.X a0.At.Y 1 (ByteArray.mk #[97]) a0.F.a1.N a0.F.a1.Text a0.F.a2.N a0.F.a2.Text a0.F.a3.N a0.F.a3.Text
                  else
                    if Int.tmod (IntKind.wrap .i64 (IntKind.wrap .u8 (Int.tdiv a1 6))) 4 = 1 then
                      F8_j16 n a0 a0.ID a0.Mask a0.At.X a0.At.Y a0.F.a0.N a0.F.a0.Text 1 (ByteArray.mk #[97]) a0.F.a2.N a0.F.a2.Text a0.F.a3.N a0.F.a3.Text
                    else
                      if Int.tmod (IntKind.wrap .i64 (IntKind.wrap .u8 (Int.tdiv a1 6))) 4 = 2 then
                        F8_j16 n a0 a0.ID a0.Mask a0.At.X a0.At.Y a0.F.a0.N a0.F.a0.Text a0.F.a1.N a0.F.a1.Text 1 (ByteArray.mk #[97]) a0.F.a3.N a0.F.a3.Text
                      else
                        if Int.tmod (IntKind.wrap .i64 (IntKind.wrap .u8 (Int.tdiv a1 6))) 4 = 3 then
                          F8_j16 n a0 a0.ID a0.Mask a0.At.X a0.At.Y a0.F.a0.N a0.F.a0.Text a0.F.a1.N a0.F.a1.Text a0.F.a2.N a0.F.a2.Text 1 (ByteArray.mk #[97])
                        else
                          none
                else
                  F8_j16 n a0 1000001 a0.Mask a0.At.X a0.At.Y a0.F.a0.N a0.F.a0.Text a0.F.a1.N a0.F.a1.Text a0.F.a2.N a0.F.a2.Text a0.F.a3.N a0.F.a3.Text
theorem F8_ok (n : Nat) (a0 : Delta) (a1 : Int) : ∀ r, F8 n a0 a1 = some r → D 8 [.agg [li .i64 a0.ID, li .u8 a0.Mask, li .i64 a0.At.X, li .i64 a0.At.Y, li .i64 a0.F.a0.N, ls a0.F.a0.Text, li .i64 a0.F.a1.N, ls a0.F.a1.Text, li .i64 a0.F.a2.N, ls a0.F.a2.Text, li .i64 a0.F.a3.N, ls a0.F.a3.Text], .one (li .u8 a1)] [] = some (F8_e r) := by
  refine fn_to (D := D) (n := n + 8) (nt := 69) (rs := pc8_r) (c := pc8_c50) (L := [(0, .agg [li .i64 a0.ID, li .u8 a0.Mask, li .i64 a0.At.X, li .i64 a0.At.Y, li .i64 a0.F.a0.N, ls a0.F.a0.Text, li .i64 a0.F.a1.N, ls a0.F.a1.Text, li .i64 a0.F.a2.N, ls a0.F.a2.Text, li .i64 a0.F.a3.N, ls a0.F.a3.Text]), (1, .one (li .u8 a1))]) (M := []) (k := 0) rfl rfl rfl rfl rfl rfl ?_
  unfold F8
  refine Sim.seq ?_
  refine Sim.region0 ?_
  refine SimI.run 2 [(4, .one (lb false)), (2, .one (.ptr 2 0))] [(2, some (.cells [li .i64 a0.ID, li .u8 a0.Mask, li .i64 a0.At.X, li .i64 a0.At.Y, li .i64 a0.F.a0.N, ls a0.F.a0.Text, li .i64 a0.F.a1.N, ls a0.F.a1.Text, li .i64 a0.F.a2.N, ls a0.F.a2.Text, li .i64 a0.F.a3.N, ls a0.F.a3.Text]))] (by kernel_rfl) ?_
  refine SimI.done (by kernel_rfl) ?_
  refine SimE.thenN ?_
  refine Sim.seq ?_
  refine Sim.seq ?_
  refine Sim.region0 ?_
  refine SimI.bind (og := (some true)) { dst := some 8, op := POp.call true [] 14 [], guard := none, hints := [] } (fun r1 => [(8, .one (lb r1))]) (fun r1 => []) (by kernel_rfl) (fun r1 hr => pOp_eff (by kernel_rfl) (by kernel_rfl) (eff_call (ARGS := []) (by kernel_rfl) (args_nil) (F14_ok n r1 hr) (by kernel_rfl))) (fun r1 => ?_)
  refine SimI.run 1 [(9, .one (lb (!(r1))))] [] (by kernel_rfl) ?_
  refine SimI.done (by kernel_rfl) ?_
  refine SimE.thenN ?_
  refine Sim.cond (!(r1)) (by kernel_rfl) ?_ ?_
  · refine Sim.seq ?_
    refine Sim.region0 ?_
    refine SimI.run 1 [(4, .one (lb false))] [] (by kernel_rfl) ?_
    refine SimI.done (by kernel_rfl) ?_
    refine SimE.thenN ?_
    refine Sim.ret ?_
    refine SimE.thenR ?_
    exact SimE.fin (by kernel_rfl)
  · refine Sim.skip ?_
    refine SimE.thenN ?_
    refine Sim.seq ?_
    refine Sim.seq ?_
    refine Sim.region0 ?_
    refine SimI.run 1 [(10, .agg [li .i64 a0.ID, li .u8 a0.Mask, li .i64 a0.At.X, li .i64 a0.At.Y, li .i64 a0.F.a0.N, ls a0.F.a0.Text, li .i64 a0.F.a1.N, ls a0.F.a1.Text, li .i64 a0.F.a2.N, ls a0.F.a2.Text, li .i64 a0.F.a3.N, ls a0.F.a3.Text])] [] (by kernel_rfl) ?_
    refine SimI.bind (og := F16 n a0) { dst := some 11, op := POp.call true [[]] 16 [Operand.tmp 10], guard := none, hints := [] } (fun r2 => [(11, .one (lb r2))]) (fun r2 => []) (by kernel_rfl) (fun r2 hr => pOp_eff (by kernel_rfl) (by kernel_rfl) (eff_call (ARGS := [.agg [li .i64 a0.ID, li .u8 a0.Mask, li .i64 a0.At.X, li .i64 a0.At.Y, li .i64 a0.F.a0.N, ls a0.F.a0.Text, li .i64 a0.F.a1.N, ls a0.F.a1.Text, li .i64 a0.F.a2.N, ls a0.F.a2.Text, li .i64 a0.F.a3.N, ls a0.F.a3.Text]]) (by kernel_rfl) (args_clean (by kernel_rfl) args_nil) (F16_ok n a0 r2 hr) (by kernel_rfl))) (fun r2 => ?_)
    refine SimI.run 2 [(13, .one (lb (!(r2)))), (12, .one (lb (!(r2))))] [] (by kernel_rfl) ?_
    refine SimI.split 13 (!(r2)) (by kernel_rfl) ?_ ?_
    · refine SimI.run 4 [(17, .one (lb true)), (16, .tup []), (15, .tup []), (14, .tup [])] [] (by kernel_rfl) ?_
      refine SimI.done (by kernel_rfl) ?_
      refine SimE.thenN ?_
      refine Sim.condT (by kernel_rfl) ?_
      refine Sim.seq ?_
      refine Sim.region0 ?_
      refine SimI.run 1 [(4, .one (lb true))] [] (by kernel_rfl) ?_
      refine SimI.done (by kernel_rfl) ?_
      refine SimE.thenN ?_
      refine Sim.ret ?_
      refine SimE.thenR ?_
      exact SimE.fin (by kernel_rfl)
    · refine SimI.run 1 [(14, .agg [li .i64 a0.ID, li .u8 a0.Mask, li .i64 a0.At.X, li .i64 a0.At.Y, li .i64 a0.F.a0.N, ls a0.F.a0.Text, li .i64 a0.F.a1.N, ls a0.F.a1.Text, li .i64 a0.F.a2.N, ls a0.F.a2.Text, li .i64 a0.F.a3.N, ls a0.F.a3.Text])] [] (by kernel_rfl) ?_
      refine SimI.bind (og := F25 n a0) { dst := some 15, op := POp.call true [[]] 25 [Operand.tmp 14], guard := some (13, false), hints := [] } (fun r3 => [(15, .one (lb r3))]) (fun r3 => []) (by kernel_rfl) (fun r3 hr => pOp_eff (by kernel_rfl) (by kernel_rfl) (eff_call (ARGS := [.agg [li .i64 a0.ID, li .u8 a0.Mask, li .i64 a0.At.X, li .i64 a0.At.Y, li .i64 a0.F.a0.N, ls a0.F.a0.Text, li .i64 a0.F.a1.N, ls a0.F.a1.Text, li .i64 a0.F.a2.N, ls a0.F.a2.Text, li .i64 a0.F.a3.N, ls a0.F.a3.Text]]) (by kernel_rfl) (args_clean (by kernel_rfl) args_nil) (F25_ok n a0 r3 hr) (by kernel_rfl))) (fun r3 => ?_)
      refine SimI.run 2 [(17, .one (lb (!(r3)))), (16, .one (lb (!(r3))))] [] (by kernel_rfl) ?_
      refine SimI.done (by kernel_rfl) ?_
      refine SimE.thenN ?_
      refine Sim.cond (!(r3)) (by kernel_rfl) ?_ ?_
      · refine Sim.seq ?_
        refine Sim.region0 ?_
        refine SimI.run 1 [(4, .one (lb true))] [] (by kernel_rfl) ?_
        refine SimI.done (by kernel_rfl) ?_
        refine SimE.thenN ?_
        refine Sim.ret ?_
        refine SimE.thenR ?_
        exact SimE.fin (by kernel_rfl)
      · refine Sim.skip ?_
        refine SimE.thenN ?_
        refine Sim.seq ?_
        refine Sim.region0 ?_
        refine SimI.run 3 [(5, .one (.ptr 5 0)), (18, .agg [li .i64 a0.ID, li .u8 a0.Mask, li .i64 a0.At.X, li .i64 a0.At.Y, li .i64 a0.F.a0.N, ls a0.F.a0.Text, li .i64 a0.F.a1.N, ls a0.F.a1.Text, li .i64 a0.F.a2.N, ls a0.F.a2.Text, li .i64 a0.F.a3.N, ls a0.F.a3.Text])] [(5, some (.cells [li .i64 a0.ID, li .u8 a0.Mask, li .i64 a0.At.X, li .i64 a0.At.Y, li .i64 a0.F.a0.N, ls a0.F.a0.Text, li .i64 a0.F.a1.N, ls a0.F.a1.Text, li .i64 a0.F.a2.N, ls a0.F.a2.Text, li .i64 a0.F.a3.N, ls a0.F.a3.Text])), (5, some (.cells [li .i64 0, li .u8 0, li .i64 0, li .i64 0, li .i64 0, ls ByteArray.empty, li .i64 0, ls ByteArray.empty, li .i64 0, ls ByteArray.empty, li .i64 0, ls ByteArray.empty]))] (by kernel_rfl) ?_
        refine SimI.done (by kernel_rfl) ?_
        refine SimE.thenN ?_
        refine Sim.seq ?_
        refine Sim.seq ?_
        refine Sim.region0 ?_
        refine SimI.run 2 [(20, .one (li .u8 (Int.tmod a1 6))), (19, .one (li .u8 a1))] [] (by kernel_rfl) ?_
        refine SimI.done (by kernel_rfl) ?_
        refine SimE.thenN ?_
        refine Sim.block ?_
        refine Sim.seq ?_
        refine Sim.region0 ?_
        refine SimI.run 2 [(22, .one (lb ((Int.tmod a1 6) == 0))), (23, .one (lb ((Int.tmod a1 6) == 0)))] [] (by kernel_rfl) ?_
        refine SimI.done (by kernel_rfl) ?_
        refine SimE.thenN ?_
        refine Sim.cond ((Int.tmod a1 6) == 0) (by kernel_rfl) ?_ ?_
        · refine Sim.region0 ?_
          refine SimI.run 2 [(24, .one (.ptr 5 0))] [(5, some (.cells [li .i64 (-1), li .u8 a0.Mask, li .i64 a0.At.X, li .i64 a0.At.Y, li .i64 a0.F.a0.N, ls a0.F.a0.Text, li .i64 a0.F.a1.N, ls a0.F.a1.Text, li .i64 a0.F.a2.N, ls a0.F.a2.Text, li .i64 a0.F.a3.N, ls a0.F.a3.Text]))] (by kernel_rfl) ?_
          refine SimI.done (by kernel_rfl) ?_
          refine SimE.blockN ?_
          refine SimE.thenN ?_
          refine Sim.pre (ts := [2, 5]) (os := [2, 5]) [(2, .one (.ptr 2 0)), (5, .one (.ptr 5 0))] ((2, some (.cells [li .i64 a0.ID, li .u8 a0.Mask, li .i64 a0.At.X, li .i64 a0.At.Y, li .i64 a0.F.a0.N, ls a0.F.a0.Text, li .i64 a0.F.a1.N, ls a0.F.a1.Text, li .i64 a0.F.a2.N, ls a0.F.a2.Text, li .i64 a0.F.a3.N, ls a0.F.a3.Text])) :: ((5, some (.cells [li .i64 (-1), li .u8 a0.Mask, li .i64 a0.At.X, li .i64 a0.At.Y, li .i64 a0.F.a0.N, ls a0.F.a0.Text, li .i64 a0.F.a1.N, ls a0.F.a1.Text, li .i64 a0.F.a2.N, ls a0.F.a2.Text, li .i64 a0.F.a3.N, ls a0.F.a3.Text])) :: [])) (by kernel_rfl) (by kernel_rfl) (by kernel_rfl) ?_
          exact F8_j16_ok n a0 a1 (-1) a0.Mask a0.At.X a0.At.Y a0.F.a0.N a0.F.a0.Text a0.F.a1.N a0.F.a1.Text a0.F.a2.N a0.F.a2.Text a0.F.a3.N a0.F.a3.Text
        · refine Sim.seq ?_
          refine Sim.region0 ?_
          refine SimI.run 2 [(25, .one (lb ((Int.tmod a1 6) == 1))), (26, .one (lb ((Int.tmod a1 6) == 1)))] [] (by kernel_rfl) ?_
          refine SimI.done (by kernel_rfl) ?_
          refine SimE.thenN ?_
          refine Sim.cond ((Int.tmod a1 6) == 1) (by kernel_rfl) ?_ ?_
          · refine Sim.region0 ?_
            refine SimI.run 5 [(30, .one (.ptr 5 1)), (29, .one (li .u8 (bitsI .or .u8 a0.Mask 32))), (28, .one (li .u8 a0.Mask)), (27, .one (.ptr 5 1))] [(5, some (.cells [li .i64 a0.ID, li .u8 (bitsI .or .u8 a0.Mask 32), li .i64 a0.At.X, li .i64 a0.At.Y, li .i64 a0.F.a0.N, ls a0.F.a0.Text, li .i64 a0.F.a1.N, ls a0.F.a1.Text, li .i64 a0.F.a2.N, ls a0.F.a2.Text, li .i64 a0.F.a3.N, ls a0.F.a3.Text]))] (by kernel_rfl) ?_
            refine SimI.done (by kernel_rfl) ?_
            refine SimE.blockN ?_
            refine SimE.thenN ?_
            refine Sim.pre (ts := [2, 5]) (os := [2, 5]) [(2, .one (.ptr 2 0)), (5, .one (.ptr 5 0))] ((2, some (.cells [li .i64 a0.ID, li .u8 a0.Mask, li .i64 a0.At.X, li .i64 a0.At.Y, li .i64 a0.F.a0.N, ls a0.F.a0.Text, li .i64 a0.F.a1.N, ls a0.F.a1.Text, li .i64 a0.F.a2.N, ls a0.F.a2.Text, li .i64 a0.F.a3.N, ls a0.F.a3.Text])) :: ((5, some (.cells [li .i64 a0.ID, li .u8 (bitsI .or .u8 a0.Mask 32), li .i64 a0.At.X, li .i64 a0.At.Y, li .i64 a0.F.a0.N, ls a0.F.a0.Text, li .i64 a0.F.a1.N, ls a0.F.a1.Text, li .i64 a0.F.a2.N, ls a0.F.a2.Text, li .i64 a0.F.a3.N, ls a0.F.a3.Text])) :: [])) (by kernel_rfl) (by kernel_rfl) (by kernel_rfl) ?_
            exact F8_j16_ok n a0 a1 a0.ID (bitsI .or .u8 a0.Mask 32) a0.At.X a0.At.Y a0.F.a0.N a0.F.a0.Text a0.F.a1.N a0.F.a1.Text a0.F.a2.N a0.F.a2.Text a0.F.a3.N a0.F.a3.Text
          · refine Sim.seq ?_
            refine Sim.region0 ?_
            refine SimI.run 2 [(31, .one (lb ((Int.tmod a1 6) == 2))), (32, .one (lb ((Int.tmod a1 6) == 2)))] [] (by kernel_rfl) ?_
            refine SimI.done (by kernel_rfl) ?_
            refine SimE.thenN ?_
            refine Sim.cond ((Int.tmod a1 6) == 2) (by kernel_rfl) ?_ ?_
            · refine Sim.region0 ?_
              refine SimI.run 2 [(33, .one (.ptr 5 1))] [(5, some (.cells [li .i64 a0.ID, li .u8 0, li .i64 a0.At.X, li .i64 a0.At.Y, li .i64 a0.F.a0.N, ls a0.F.a0.Text, li .i64 a0.F.a1.N, ls a0.F.a1.Text, li .i64 a0.F.a2.N, ls a0.F.a2.Text, li .i64 a0.F.a3.N, ls a0.F.a3.Text]))] (by kernel_rfl) ?_
              refine SimI.done (by kernel_rfl) ?_
              refine SimE.blockN ?_
              refine SimE.thenN ?_
              refine Sim.pre (ts := [2, 5]) (os := [2, 5]) [(2, .one (.ptr 2 0)), (5, .one (.ptr 5 0))] ((2, some (.cells [li .i64 a0.ID, li .u8 a0.Mask, li .i64 a0.At.X, li .i64 a0.At.Y, li .i64 a0.F.a0.N, ls a0.F.a0.Text, li .i64 a0.F.a1.N, ls a0.F.a1.Text, li .i64 a0.F.a2.N, ls a0.F.a2.Text, li .i64 a0.F.a3.N, ls a0.F.a3.Text])) :: ((5, some (.cells [li .i64 a0.ID, li .u8 0, li .i64 a0.At.X, li .i64 a0.At.Y, li .i64 a0.F.a0.N, ls a0.F.a0.Text, li .i64 a0.F.a1.N, ls a0.F.a1.Text, li .i64 a0.F.a2.N, ls a0.F.a2.Text, li .i64 a0.F.a3.N, ls a0.F.a3.Text])) :: [])) (by kernel_rfl) (by kernel_rfl) (by kernel_rfl) ?_
              exact F8_j16_ok n a0 a1 a0.ID 0 a0.At.X a0.At.Y a0.F.a0.N a0.F.a0.Text a0.F.a1.N a0.F.a1.Text a0.F.a2.N a0.F.a2.Text a0.F.a3.N a0.F.a3.Text
            · refine Sim.seq ?_
              refine Sim.region0 ?_
              refine SimI.run 2 [(34, .one (lb ((Int.tmod a1 6) == 3))), (35, .one (lb ((Int.tmod a1 6) == 3)))] [] (by kernel_rfl) ?_
              refine SimI.done (by kernel_rfl) ?_
              refine SimE.thenN ?_
              refine Sim.cond ((Int.tmod a1 6) == 3) (by kernel_rfl) ?_ ?_
              · refine Sim.region0 ?_
                refine SimI.run 3 [(37, .one (.ptr 5 2)), (36, .agg [li .i64 64, li .i64 0])] [(5, some (.cells [li .i64 a0.ID, li .u8 a0.Mask, li .i64 64, li .i64 0, li .i64 a0.F.a0.N, ls a0.F.a0.Text, li .i64 a0.F.a1.N, ls a0.F.a1.Text, li .i64 a0.F.a2.N, ls a0.F.a2.Text, li .i64 a0.F.a3.N, ls a0.F.a3.Text]))] (by kernel_rfl) ?_
                refine SimI.done (by kernel_rfl) ?_
                refine SimE.blockN ?_
                refine SimE.thenN ?_
                refine Sim.pre (ts := [2, 5]) (os := [2, 5]) [(2, .one (.ptr 2 0)), (5, .one (.ptr 5 0))] ((2, some (.cells [li .i64 a0.ID, li .u8 a0.Mask, li .i64 a0.At.X, li .i64 a0.At.Y, li .i64 a0.F.a0.N, ls a0.F.a0.Text, li .i64 a0.F.a1.N, ls a0.F.a1.Text, li .i64 a0.F.a2.N, ls a0.F.a2.Text, li .i64 a0.F.a3.N, ls a0.F.a3.Text])) :: ((5, some (.cells [li .i64 a0.ID, li .u8 a0.Mask, li .i64 64, li .i64 0, li .i64 a0.F.a0.N, ls a0.F.a0.Text, li .i64 a0.F.a1.N, ls a0.F.a1.Text, li .i64 a0.F.a2.N, ls a0.F.a2.Text, li .i64 a0.F.a3.N, ls a0.F.a3.Text])) :: [])) (by kernel_rfl) (by kernel_rfl) (by kernel_rfl) ?_
                exact F8_j16_ok n a0 a1 a0.ID a0.Mask 64 0 a0.F.a0.N a0.F.a0.Text a0.F.a1.N a0.F.a1.Text a0.F.a2.N a0.F.a2.Text a0.F.a3.N a0.F.a3.Text
              · refine Sim.seq ?_
                refine Sim.region0 ?_
                refine SimI.run 2 [(38, .one (lb ((Int.tmod a1 6) == 4))), (39, .one (lb ((Int.tmod a1 6) == 4)))] [] (by kernel_rfl) ?_
                refine SimI.done (by kernel_rfl) ?_
                refine SimE.thenN ?_
                refine Sim.cond ((Int.tmod a1 6) == 4) (by kernel_rfl) ?_ ?_
                · refine Sim.region0 ?_
                  refine SimI.run 6 [(45, .one (.ptr 5 4)), (44, .agg [li .i64 1, ls (ByteArray.mk #[97])]), (43, .one (li .i64 (Int.tmod (IntKind.wrap .i64 (IntKind.wrap .u8 (Int.tdiv a1 6))) 4))), (42, .one (li .i64 (IntKind.wrap .i64 (IntKind.wrap .u8 (Int.tdiv a1 6))))), (41, .one (li .u8 (IntKind.wrap .u8 (Int.tdiv a1 6)))), (40, .one (li .u8 a1))] [] (by kernel_rfl) ?_
                  refine SimI.casei 43 .i64 (Int.tmod (IntKind.wrap .i64 (IntKind.wrap .u8 (Int.tdiv a1 6))) 4) 0 (by kernel_rfl) ?_ ?_
                  · refine SimI.run 2 [(46, .one (.ptr 5 4))] [(5, some (.cells [li .i64 a0.ID, li .u8 a0.Mask, li .i64 a0.At.X, li .i64 a0.At.Y, li .i64 1, ls (ByteArray.mk #[97]), li .i64 a0.F.a1.N, ls a0.F.a1.Text, li .i64 a0.F.a2.N, ls a0.F.a2.Text, li .i64 a0.F.a3.N, ls a0.F.a3.Text]))] (by kernel_rfl) ?_
                    refine SimI.done (by kernel_rfl) ?_
                    refine SimE.blockN ?_
                    refine SimE.thenN ?_
                    refine Sim.pre (ts := [2, 5]) (os := [2, 5]) [(2, .one (.ptr 2 0)), (5, .one (.ptr 5 0))] ((2, some (.cells [li .i64 a0.ID, li .u8 a0.Mask, li .i64 a0.At.X, li .i64 a0.At.Y, li .i64 a0.F.a0.N, ls a0.F.a0.Text, li .i64 a0.F.a1.N, ls a0.F.a1.Text, li .i64 a0.F.a2.N, ls a0.F.a2.Text, li .i64 a0.F.a3.N, ls a0.F.a3.Text])) :: ((5, some (.cells [li .i64 a0.ID, li .u8 a0.Mask, li .i64 a0.At.X, li .i64 a0.At.Y, li .i64 1, ls (ByteArray.mk #[97]), li .i64 a0.F.a1.N, ls a0.F.a1.Text, li .i64 a0.F.a2.N, ls a0.F.a2.Text, li .i64 a0.F.a3.N, ls a0.F.a3.Text])) :: [])) (by kernel_rfl) (by kernel_rfl) (by kernel_rfl) ?_
                    exact F8_j16_ok n a0 a1 a0.ID a0.Mask a0.At.X a0.At.Y 1 (ByteArray.mk #[97]) a0.F.a1.N a0.F.a1.Text a0.F.a2.N a0.F.a2.Text a0.F.a3.N a0.F.a3.Text
                  · refine SimI.casei 43 .i64 (Int.tmod (IntKind.wrap .i64 (IntKind.wrap .u8 (Int.tdiv a1 6))) 4) 1 (by kernel_rfl) ?_ ?_
                    · refine SimI.run 2 [(46, .one (.ptr 5 6))] [(5, some (.cells [li .i64 a0.ID, li .u8 a0.Mask, li .i64 a0.At.X, li .i64 a0.At.Y, li .i64 a0.F.a0.N, ls a0.F.a0.Text, li .i64 1, ls (ByteArray.mk #[97]), li .i64 a0.F.a2.N, ls a0.F.a2.Text, li .i64 a0.F.a3.N, ls a0.F.a3.Text]))] (by kernel_rfl) ?_
                      refine SimI.done (by kernel_rfl) ?_
                      refine SimE.blockN ?_
                      refine SimE.thenN ?_
                      refine Sim.pre (ts := [2, 5]) (os := [2, 5]) [(2, .one (.ptr 2 0)), (5, .one (.ptr 5 0))] ((2, some (.cells [li .i64 a0.ID, li .u8 a0.Mask, li .i64 a0.At.X, li .i64 a0.At.Y, li .i64 a0.F.a0.N, ls a0.F.a0.Text, li .i64 a0.F.a1.N, ls a0.F.a1.Text, li .i64 a0.F.a2.N, ls a0.F.a2.Text, li .i64 a0.F.a3.N, ls a0.F.a3.Text])) :: ((5, some (.cells [li .i64 a0.ID, li .u8 a0.Mask, li .i64 a0.At.X, li .i64 a0.At.Y, li .i64 a0.F.a0.N, ls a0.F.a0.Text, li .i64 1, ls (ByteArray.mk #[97]), li .i64 a0.F.a2.N, ls a0.F.a2.Text, li .i64 a0.F.a3.N, ls a0.F.a3.Text])) :: [])) (by kernel_rfl) (by kernel_rfl) (by kernel_rfl) ?_
                      exact F8_j16_ok n a0 a1 a0.ID a0.Mask a0.At.X a0.At.Y a0.F.a0.N a0.F.a0.Text 1 (ByteArray.mk #[97]) a0.F.a2.N a0.F.a2.Text a0.F.a3.N a0.F.a3.Text
                    · refine SimI.casei 43 .i64 (Int.tmod (IntKind.wrap .i64 (IntKind.wrap .u8 (Int.tdiv a1 6))) 4) 2 (by kernel_rfl) ?_ ?_
                      · refine SimI.run 2 [(46, .one (.ptr 5 8))] [(5, some (.cells [li .i64 a0.ID, li .u8 a0.Mask, li .i64 a0.At.X, li .i64 a0.At.Y, li .i64 a0.F.a0.N, ls a0.F.a0.Text, li .i64 a0.F.a1.N, ls a0.F.a1.Text, li .i64 1, ls (ByteArray.mk #[97]), li .i64 a0.F.a3.N, ls a0.F.a3.Text]))] (by kernel_rfl) ?_
                        refine SimI.done (by kernel_rfl) ?_
                        refine SimE.blockN ?_
                        refine SimE.thenN ?_
                        refine Sim.pre (ts := [2, 5]) (os := [2, 5]) [(2, .one (.ptr 2 0)), (5, .one (.ptr 5 0))] ((2, some (.cells [li .i64 a0.ID, li .u8 a0.Mask, li .i64 a0.At.X, li .i64 a0.At.Y, li .i64 a0.F.a0.N, ls a0.F.a0.Text, li .i64 a0.F.a1.N, ls a0.F.a1.Text, li .i64 a0.F.a2.N, ls a0.F.a2.Text, li .i64 a0.F.a3.N, ls a0.F.a3.Text])) :: ((5, some (.cells [li .i64 a0.ID, li .u8 a0.Mask, li .i64 a0.At.X, li .i64 a0.At.Y, li .i64 a0.F.a0.N, ls a0.F.a0.Text, li .i64 a0.F.a1.N, ls a0.F.a1.Text, li .i64 1, ls (ByteArray.mk #[97]), li .i64 a0.F.a3.N, ls a0.F.a3.Text])) :: [])) (by kernel_rfl) (by kernel_rfl) (by kernel_rfl) ?_
                        exact F8_j16_ok n a0 a1 a0.ID a0.Mask a0.At.X a0.At.Y a0.F.a0.N a0.F.a0.Text a0.F.a1.N a0.F.a1.Text 1 (ByteArray.mk #[97]) a0.F.a3.N a0.F.a3.Text
                      · refine SimI.casei 43 .i64 (Int.tmod (IntKind.wrap .i64 (IntKind.wrap .u8 (Int.tdiv a1 6))) 4) 3 (by kernel_rfl) ?_ ?_
                        · refine SimI.run 2 [(46, .one (.ptr 5 10))] [(5, some (.cells [li .i64 a0.ID, li .u8 a0.Mask, li .i64 a0.At.X, li .i64 a0.At.Y, li .i64 a0.F.a0.N, ls a0.F.a0.Text, li .i64 a0.F.a1.N, ls a0.F.a1.Text, li .i64 a0.F.a2.N, ls a0.F.a2.Text, li .i64 1, ls (ByteArray.mk #[97])]))] (by kernel_rfl) ?_
                          refine SimI.done (by kernel_rfl) ?_
                          refine SimE.blockN ?_
                          refine SimE.thenN ?_
                          refine Sim.pre (ts := [2, 5]) (os := [2, 5]) [(2, .one (.ptr 2 0)), (5, .one (.ptr 5 0))] ((2, some (.cells [li .i64 a0.ID, li .u8 a0.Mask, li .i64 a0.At.X, li .i64 a0.At.Y, li .i64 a0.F.a0.N, ls a0.F.a0.Text, li .i64 a0.F.a1.N, ls a0.F.a1.Text, li .i64 a0.F.a2.N, ls a0.F.a2.Text, li .i64 a0.F.a3.N, ls a0.F.a3.Text])) :: ((5, some (.cells [li .i64 a0.ID, li .u8 a0.Mask, li .i64 a0.At.X, li .i64 a0.At.Y, li .i64 a0.F.a0.N, ls a0.F.a0.Text, li .i64 a0.F.a1.N, ls a0.F.a1.Text, li .i64 a0.F.a2.N, ls a0.F.a2.Text, li .i64 1, ls (ByteArray.mk #[97])])) :: [])) (by kernel_rfl) (by kernel_rfl) (by kernel_rfl) ?_
                          exact F8_j16_ok n a0 a1 a0.ID a0.Mask a0.At.X a0.At.Y a0.F.a0.N a0.F.a0.Text a0.F.a1.N a0.F.a1.Text a0.F.a2.N a0.F.a2.Text 1 (ByteArray.mk #[97])
                        · exact SimI.vac rfl
                · refine Sim.region0 ?_
                  refine SimI.run 2 [(21, .one (.ptr 5 0))] [(5, some (.cells [li .i64 1000001, li .u8 a0.Mask, li .i64 a0.At.X, li .i64 a0.At.Y, li .i64 a0.F.a0.N, ls a0.F.a0.Text, li .i64 a0.F.a1.N, ls a0.F.a1.Text, li .i64 a0.F.a2.N, ls a0.F.a2.Text, li .i64 a0.F.a3.N, ls a0.F.a3.Text]))] (by kernel_rfl) ?_
                  refine SimI.done (by kernel_rfl) ?_
                  refine SimE.blockN ?_
                  refine SimE.thenN ?_
                  refine Sim.pre (ts := [2, 5]) (os := [2, 5]) [(2, .one (.ptr 2 0)), (5, .one (.ptr 5 0))] ((2, some (.cells [li .i64 a0.ID, li .u8 a0.Mask, li .i64 a0.At.X, li .i64 a0.At.Y, li .i64 a0.F.a0.N, ls a0.F.a0.Text, li .i64 a0.F.a1.N, ls a0.F.a1.Text, li .i64 a0.F.a2.N, ls a0.F.a2.Text, li .i64 a0.F.a3.N, ls a0.F.a3.Text])) :: ((5, some (.cells [li .i64 1000001, li .u8 a0.Mask, li .i64 a0.At.X, li .i64 a0.At.Y, li .i64 a0.F.a0.N, ls a0.F.a0.Text, li .i64 a0.F.a1.N, ls a0.F.a1.Text, li .i64 a0.F.a2.N, ls a0.F.a2.Text, li .i64 a0.F.a3.N, ls a0.F.a3.Text])) :: [])) (by kernel_rfl) (by kernel_rfl) (by kernel_rfl) ?_
                  exact F8_j16_ok n a0 a1 1000001 a0.Mask a0.At.X a0.At.Y a0.F.a0.N a0.F.a0.Text a0.F.a1.N a0.F.a1.Text a0.F.a2.N a0.F.a2.Text a0.F.a3.N a0.F.a3.Text


end Go.Proofs.Ythmbegagkgdopaa
