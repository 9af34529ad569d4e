/-
  Functions of the program as functions of Lean. No condition.
-/
import Derived.Test.YtobeamaaifgllaaThingTellsP0
namespace Go.Proofs.Ytobeamaaifgllaa
open Go Go.Rx
set_option maxRecDepth 100000
set_option linter.unusedVariables false
set_option linter.unusedSimpArgs false
set_option linter.unnecessarySimpa false
-- 3: vedette/vedettelaw7.ThingTells
def F3_e : Bool → PV × List Ob := fun r => (.one (lb r), [])
def F3_j9 (n : Nat) (a0 : Thing) (a1 : Thing) (a2 : (List Thing)) (a3 : Int) (a4 : Int) (s8 : ByteArray) : Option Bool :=
    (F21 n a0).bind fun (r10 : (ByteArray × Int)) =>
    (F22 n a2).bind fun (r11 : (ByteArray × Int)) =>
    (F23 n a2).bind fun (r12 : (ByteArray × Int)) =>
    if r10.1.toList == s8.toList then
      (F18 n a0).bind fun (r13 : Bool) =>
      if (r10.2 == 0) == r13 then
        if r10.2 == 0 then
          if r11.1.toList == r12.1.toList then
            if r11.2 == r12.2 then
              (F24 n a0).bind fun (r14 : Bool) =>
              (F18 n a0).bind fun (r15 : Bool) =>
              if r14 == r15 then
                (F25 n a0 a1).bind fun (r16 : Bool) =>
                if r16 == (Thing.eqb a0 a1) then
                  (F26 n a3).bind fun (r17 : Int) =>
                  (F27 n a3).bind fun (r18 : Int) =>
                  if r17 == r18 then
                    (F28 n a3 a4).bind fun (r19 : Int) =>
                    (F29 n a3 a4).bind fun (r20 : Int) =>
                    some (r19 == r20)
                  else
                    some false
                else
                  some false
              else
                some false
            else
              some false
          else
            some false
        else
          if r10.2 == 11 then
            if r11.1.toList == r12.1.toList then
              if r11.2 == r12.2 then
                (F24 n a0).bind fun (r21 : Bool) =>
                (F18 n a0).bind fun (r22 : Bool) =>
                if r21 == r22 then
                  (F25 n a0 a1).bind fun (r23 : Bool) =>
                  if r23 == (Thing.eqb a0 a1) then
                    (F26 n a3).bind fun (r24 : Int) =>
                    (F27 n a3).bind fun (r25 : Int) =>
                    if r24 == r25 then
                      (F28 n a3 a4).bind fun (r26 : Int) =>
                      (F29 n a3 a4).bind fun (r27 : Int) =>
                      some (r26 == r27)
                    else
                      some false
                  else
                    some false
                else
                  some false
              else
                some false
            else
              some false
          else
            some false
      else
        some false
    else
      some false
theorem F3_j9_ok (n : Nat) (a0 : Thing) (a1 : Thing) (a2 : (List Thing)) (a3 : Int) (a4 : Int) (s8 : ByteArray) : Sim Try.prog D (n + 8) pc3_c30 [(2, .one (vw Thing.cod a2)), (3, .one (li .i64 a3)), (4, .one (li .i64 a4)), (5, .one (.ptr 5 0)), (6, .one (.ptr 6 0)), (11, .one (ls s8))] [(5, some (.cells (Thing.cells a0))), (6, some (.cells (Thing.cells a1)))] (F3_j9 n a0 a1 a2 a3 a4 s8) (QF false pc3_r 0 F3_e) := by
    unfold F3_j9
    refine Sim.seq ?_
    refine Sim.region [(2, .one (vw Thing.cod a2)), (3, .one (li .i64 a3)), (4, .one (li .i64 a4)), (5, .one (.ptr 5 0)), (6, .one (.ptr 6 0)), (11, .one (ls s8))] [(5, some (.cells (Thing.cells a0))), (6, some (.cells (Thing.cells a1)))] (by kernel_rfl) ?_
    refine SimI.run 1 [(39, .agg (Thing.cells a0))] [] (by kernel_rfl) ?_
    refine SimI.bind (og := F21 n a0) { dst := some 40, op := POp.call true [[]] 21 [Operand.tmp 39], guard := none, hints := [] } (fun r10 => [(40, .tup [.one (ls r10.1), .one (li .i64 r10.2)])]) (fun r10 => []) (by kernel_rfl) (fun r10 hr => pOp_eff (by kernel_rfl) (by kernel_rfl) (eff_call (ARGS := [.agg (Thing.cells a0)]) (by kernel_rfl) (args_clean (by kernel_rfl) args_nil) (F21_ok n a0 r10 hr) (by kernel_rfl))) (fun r10 => ?_)
    refine SimI.run 5 [(13, .one (li .i64 r10.2)), (12, .one (ls r10.1)), (42, .one (li .i64 r10.2)), (41, .one (ls r10.1)), (38, .tup [.one (ls r10.1), .one (li .i64 r10.2)])] [] (by kernel_rfl) ?_
    refine SimI.done (by kernel_rfl) ?_
    refine SimE.thenN ?_
    refine Sim.seq ?_
    refine Sim.region0 ?_
    refine SimI.run 1 [(44, .one (vw Thing.cod a2))] [] (by kernel_rfl) ?_
    refine SimI.bind (og := F22 n a2) { dst := some 45, op := POp.call true [[(0, 11)]] 22 [Operand.tmp 44], guard := none, hints := [] } (fun r11 => [(45, .tup [.one (ls r11.1), .one (li .i64 r11.2)])]) (fun r11 => []) (by kernel_rfl) (fun r11 hr => pOp_eff (by kernel_rfl) (by kernel_rfl) (eff_call (ARGS := [.one (vw Thing.cod a2)]) (by kernel_rfl) (args_clean (by kernel_rfl) args_nil) (F22_ok n a2 r11 hr) (by kernel_rfl))) (fun r11 => ?_)
    refine SimI.run 5 [(15, .one (li .i64 r11.2)), (14, .one (ls r11.1)), (47, .one (li .i64 r11.2)), (46, .one (ls r11.1)), (43, .tup [.one (ls r11.1), .one (li .i64 r11.2)])] [] (by kernel_rfl) ?_
    refine SimI.done (by kernel_rfl) ?_
    refine SimE.thenN ?_
    refine Sim.seq ?_
    refine Sim.region0 ?_
    refine SimI.run 1 [(49, .one (vw Thing.cod a2))] [] (by kernel_rfl) ?_
    refine SimI.bind (og := F23 n a2) { dst := some 50, op := POp.call true [[(0, 11)]] 23 [Operand.tmp 49], guard := none, hints := [] } (fun r12 => [(50, .tup [.one (ls r12.1), .one (li .i64 r12.2)])]) (fun r12 => []) (by kernel_rfl) (fun r12 hr => pOp_eff (by kernel_rfl) (by kernel_rfl) (eff_call (ARGS := [.one (vw Thing.cod a2)]) (by kernel_rfl) (args_clean (by kernel_rfl) args_nil) (F23_ok n a2 r12 hr) (by kernel_rfl))) (fun r12 => ?_)
    refine SimI.run 5 [(17, .one (li .i64 r12.2)), (16, .one (ls r12.1)), (52, .one (li .i64 r12.2)), (51, .one (ls r12.1)), (48, .tup [.one (ls r12.1), .one (li .i64 r12.2)])] [] (by kernel_rfl) ?_
    refine SimI.done (by kernel_rfl) ?_
    refine SimE.thenN ?_
    refine Sim.seq ?_
    refine Sim.region0 ?_
    refine SimI.run 4 [(56, .one (lb (r10.1.toList == s8.toList))), (55, .one (lb (r10.1.toList == s8.toList))), (54, .one (ls s8)), (53, .one (ls r10.1))] [] (by kernel_rfl) ?_
    refine SimI.split 56 (r10.1.toList == s8.toList) (by kernel_rfl) ?_ ?_
    · refine SimI.run 3 [(59, .agg (Thing.cells a0)), (58, .one (lb (r10.2 == 0))), (57, .one (li .i64 r10.2))] [] (by kernel_rfl) ?_
      refine SimI.bind (og := F18 n a0) { dst := some 60, op := POp.call false [[]] 18 [Operand.tmp 59], guard := some (56, true), hints := [(59, Hint.imm)] } (fun r13 => [(60, .one (lb r13))]) (fun r13 => []) (by kernel_rfl) (fun r13 hr => pOp_eff (by kernel_rfl) (by kernel_rfl) (eff_call (ARGS := [.agg (Thing.cells a0)]) (by kernel_rfl) (args_clean (by kernel_rfl) args_nil) (F18_ok n a0 r13 hr) (by kernel_rfl))) (fun r13 => ?_)
      refine SimI.run 3 [(63, .one (lb ((r10.2 == 0) == r13))), (62, .one (lb ((r10.2 == 0) == r13))), (61, .one (lb ((r10.2 == 0) == r13)))] [] (by kernel_rfl) ?_
      refine SimI.split 63 ((r10.2 == 0) == r13) (by kernel_rfl) ?_ ?_
      · refine SimI.run 3 [(66, .one (lb (r10.2 == 0))), (65, .one (lb (r10.2 == 0))), (64, .one (li .i64 r10.2))] [] (by kernel_rfl) ?_
        refine SimI.split 66 (r10.2 == 0) (by kernel_rfl) ?_ ?_
        · refine SimI.run 10 [(76, .one (lb (r11.1.toList == r12.1.toList))), (75, .one (lb (r11.1.toList == r12.1.toList))), (74, .one (lb (r11.1.toList == r12.1.toList))), (73, .one (ls r12.1)), (72, .one (ls r11.1)), (71, .one (lb true)), (70, .one (lb true)), (69, .one (lb true)), (68, .tup []), (67, .tup [])] [] (by kernel_rfl) ?_
          refine SimI.split 76 (r11.1.toList == r12.1.toList) (by kernel_rfl) ?_ ?_
          · refine SimI.run 5 [(81, .one (lb (r11.2 == r12.2))), (80, .one (lb (r11.2 == r12.2))), (79, .one (lb (r11.2 == r12.2))), (78, .one (li .i64 r12.2)), (77, .one (li .i64 r11.2))] [] (by kernel_rfl) ?_
            refine SimI.split 81 (r11.2 == r12.2) (by kernel_rfl) ?_ ?_
            · refine SimI.run 1 [(82, .agg (Thing.cells a0))] [] (by kernel_rfl) ?_
              refine SimI.bind (og := F24 n a0) { dst := some 83, op := POp.call false [[]] 24 [Operand.tmp 82], guard := some (81, true), hints := [(82, Hint.imm)] } (fun r14 => [(83, .one (lb r14))]) (fun r14 => []) (by kernel_rfl) (fun r14 hr => pOp_eff (by kernel_rfl) (by kernel_rfl) (eff_call (ARGS := [.agg (Thing.cells a0)]) (by kernel_rfl) (args_clean (by kernel_rfl) args_nil) (F24_ok n a0 r14 hr) (by kernel_rfl))) (fun r14 => ?_)
              refine SimI.run 1 [(84, .agg (Thing.cells a0))] [] (by kernel_rfl) ?_
              refine SimI.bind (og := F18 n a0) { dst := some 85, op := POp.call false [[]] 18 [Operand.tmp 84], guard := some (81, true), hints := [(84, Hint.imm)] } (fun r15 => [(85, .one (lb r15))]) (fun r15 => []) (by kernel_rfl) (fun r15 hr => pOp_eff (by kernel_rfl) (by kernel_rfl) (eff_call (ARGS := [.agg (Thing.cells a0)]) (by kernel_rfl) (args_clean (by kernel_rfl) args_nil) (F18_ok n a0 r15 hr) (by kernel_rfl))) (fun r15 => ?_)
              refine SimI.run 3 [(88, .one (lb (r14 == r15))), (87, .one (lb (r14 == r15))), (86, .one (lb (r14 == r15)))] [] (by kernel_rfl) ?_
              refine SimI.split 88 (r14 == r15) (by kernel_rfl) ?_ ?_
              · refine SimI.run 2 [(90, .agg (Thing.cells a1)), (89, .agg (Thing.cells a0))] [] (by kernel_rfl) ?_
                refine SimI.bind (og := F25 n a0 a1) { dst := some 91, op := POp.call false [[], []] 25 [Operand.tmp 89, Operand.tmp 90], guard := some (88, true), hints := [(89, Hint.imm), (90, Hint.imm)] } (fun r16 => [(91, .one (lb r16))]) (fun r16 => []) (by kernel_rfl) (fun r16 hr => pOp_eff (by kernel_rfl) (by kernel_rfl) (eff_call (ARGS := [.agg (Thing.cells a0), .agg (Thing.cells a1)]) (by kernel_rfl) (args_clean (by kernel_rfl) (args_clean (by kernel_rfl) args_nil)) (F25_ok n a0 a1 r16 hr) (by kernel_rfl))) (fun r16 => ?_)
                refine SimI.run 2 [(93, .agg (Thing.cells a1)), (92, .agg (Thing.cells a0))] [] (by kernel_rfl) ?_
                refine SimI.step { dst := some 94, op := POp.prim (Prim.bin BinOp.eql 28 false false) [Operand.tmp 92, Operand.tmp 93], guard := some (88, true), hints := [(92, Hint.imm), (93, Hint.imm)] } [(94, .one (lb (Thing.eqb a0 a1)))] [] (by kernel_rfl) (pOp_eff (by kernel_rfl) (by kernel_rfl) (eff_prim (by kernel_rfl) (Thing_eql a0 a1 _ _))) ?_
                refine SimI.run 3 [(97, .one (lb (r16 == (Thing.eqb a0 a1)))), (96, .one (lb (r16 == (Thing.eqb a0 a1)))), (95, .one (lb (r16 == (Thing.eqb a0 a1))))] [] (by kernel_rfl) ?_
                refine SimI.split 97 (r16 == (Thing.eqb a0 a1)) (by kernel_rfl) ?_ ?_
                · refine SimI.run 1 [(98, .one (li .i64 a3))] [] (by kernel_rfl) ?_
                  refine SimI.bind (og := F26 n a3) { dst := some 99, op := POp.call false [[]] 26 [Operand.tmp 98], guard := some (97, true), hints := [(98, Hint.imm)] } (fun r17 => [(99, .one (li .i64 r17))]) (fun r17 => []) (by kernel_rfl) (fun r17 hr => pOp_eff (by kernel_rfl) (by kernel_rfl) (eff_call (ARGS := [.one (li .i64 a3)]) (by kernel_rfl) (args_clean (by kernel_rfl) args_nil) (F26_ok n a3 r17 hr) (by kernel_rfl))) (fun r17 => ?_)
                  refine SimI.run 1 [(100, .one (li .i64 a3))] [] (by kernel_rfl) ?_
                  refine SimI.bind (og := F27 n a3) { dst := some 101, op := POp.call false [[]] 27 [Operand.tmp 100], guard := some (97, true), hints := [(100, Hint.imm)] } (fun r18 => [(101, .one (li .i64 r18))]) (fun r18 => []) (by kernel_rfl) (fun r18 hr => pOp_eff (by kernel_rfl) (by kernel_rfl) (eff_call (ARGS := [.one (li .i64 a3)]) (by kernel_rfl) (args_clean (by kernel_rfl) args_nil) (F27_ok n a3 r18 hr) (by kernel_rfl))) (fun r18 => ?_)
                  refine SimI.run 3 [(104, .one (lb (r17 == r18))), (103, .one (lb (r17 == r18))), (102, .one (lb (r17 == r18)))] [] (by kernel_rfl) ?_
                  refine SimI.split 104 (r17 == r18) (by kernel_rfl) ?_ ?_
                  · refine SimI.run 2 [(106, .one (li .i64 a4)), (105, .one (li .i64 a3))] [] (by kernel_rfl) ?_
                    refine SimI.bind (og := F28 n a3 a4) { dst := some 107, op := POp.call false [[], []] 28 [Operand.tmp 105, Operand.tmp 106], guard := some (104, true), hints := [(105, Hint.imm), (106, Hint.imm)] } (fun r19 => [(107, .one (li .i64 r19))]) (fun r19 => []) (by kernel_rfl) (fun r19 hr => pOp_eff (by kernel_rfl) (by kernel_rfl) (eff_call (ARGS := [.one (li .i64 a3), .one (li .i64 a4)]) (by kernel_rfl) (args_clean (by kernel_rfl) (args_clean (by kernel_rfl) args_nil)) (F28_ok n a3 a4 r19 hr) (by kernel_rfl))) (fun r19 => ?_)
                    refine SimI.run 2 [(109, .one (li .i64 a4)), (108, .one (li .i64 a3))] [] (by kernel_rfl) ?_
                    refine SimI.bind (og := F29 n a3 a4) { dst := some 110, op := POp.call false [[], []] 29 [Operand.tmp 108, Operand.tmp 109], guard := some (104, true), hints := [(108, Hint.imm), (109, Hint.imm)] } (fun r20 => [(110, .one (li .i64 r20))]) (fun r20 => []) (by kernel_rfl) (fun r20 hr => pOp_eff (by kernel_rfl) (by kernel_rfl) (eff_call (ARGS := [.one (li .i64 a3), .one (li .i64 a4)]) (by kernel_rfl) (args_clean (by kernel_rfl) (args_clean (by kernel_rfl) args_nil)) (F29_ok n a3 a4 r20 hr) (by kernel_rfl))) (fun r20 => ?_)
                    refine SimI.run 3 [(10, .one (lb (r19 == r20))), (112, .one (lb (r19 == r20))), (111, .one (lb (r19 == r20)))] [] (by kernel_rfl) ?_
                    refine SimI.done (by kernel_rfl) ?_
                    refine SimE.thenN ?_
                    refine Sim.ret ?_
                    exact SimE.fin (by kernel_rfl)
                  · refine SimI.run 9 [(10, .one (lb false)), (112, .one (lb false)), (111, .tup []), (110, .tup []), (109, .tup []), (108, .tup []), (107, .tup []), (106, .tup []), (105, .tup [])] [] (by kernel_rfl) ?_
                    refine SimI.done (by kernel_rfl) ?_
                    refine SimE.thenN ?_
                    refine Sim.ret ?_
                    exact SimE.fin (by kernel_rfl)
                · refine SimI.run 16 [(10, .one (lb false)), (112, .one (lb false)), (111, .tup []), (110, .tup []), (109, .tup []), (108, .tup []), (107, .tup []), (106, .tup []), (105, .tup []), (104, .one (lb false)), (103, .one (lb false)), (102, .tup []), (101, .tup []), (100, .tup []), (99, .tup []), (98, .tup [])] [] (by kernel_rfl) ?_
                  refine SimI.done (by kernel_rfl) ?_
                  refine SimE.thenN ?_
                  refine Sim.ret ?_
                  exact SimE.fin (by kernel_rfl)
              · refine SimI.run 25 [(10, .one (lb false)), (112, .one (lb false)), (111, .tup []), (110, .tup []), (109, .tup []), (108, .tup []), (107, .tup []), (106, .tup []), (105, .tup []), (104, .one (lb false)), (103, .one (lb false)), (102, .tup []), (101, .tup []), (100, .tup []), (99, .tup []), (98, .tup []), (97, .one (lb false)), (96, .one (lb false)), (95, .tup []), (94, .tup []), (93, .tup []), (92, .tup []), (91, .tup []), (90, .tup []), (89, .tup [])] [] (by kernel_rfl) ?_
                refine SimI.done (by kernel_rfl) ?_
                refine SimE.thenN ?_
                refine Sim.ret ?_
                exact SimE.fin (by kernel_rfl)
            · refine SimI.run 32 [(10, .one (lb false)), (112, .one (lb false)), (111, .tup []), (110, .tup []), (109, .tup []), (108, .tup []), (107, .tup []), (106, .tup []), (105, .tup []), (104, .one (lb false)), (103, .one (lb false)), (102, .tup []), (101, .tup []), (100, .tup []), (99, .tup []), (98, .tup []), (97, .one (lb false)), (96, .one (lb false)), (95, .tup []), (94, .tup []), (93, .tup []), (92, .tup []), (91, .tup []), (90, .tup []), (89, .tup []), (88, .one (lb false)), (87, .one (lb false)), (86, .tup []), (85, .tup []), (84, .tup []), (83, .tup []), (82, .tup [])] [] (by kernel_rfl) ?_
              refine SimI.done (by kernel_rfl) ?_
              refine SimE.thenN ?_
              refine Sim.ret ?_
              exact SimE.fin (by kernel_rfl)
          · refine SimI.run 37 [(10, .one (lb false)), (112, .one (lb false)), (111, .tup []), (110, .tup []), (109, .tup []), (108, .tup []), (107, .tup []), (106, .tup []), (105, .tup []), (104, .one (lb false)), (103, .one (lb false)), (102, .tup []), (101, .tup []), (100, .tup []), (99, .tup []), (98, .tup []), (97, .one (lb false)), (96, .one (lb false)), (95, .tup []), (94, .tup []), (93, .tup []), (92, .tup []), (91, .tup []), (90, .tup []), (89, .tup []), (88, .one (lb false)), (87, .one (lb false)), (86, .tup []), (85, .tup []), (84, .tup []), (83, .tup []), (82, .tup []), (81, .one (lb false)), (80, .one (lb false)), (79, .tup []), (78, .tup []), (77, .tup [])] [] (by kernel_rfl) ?_
            refine SimI.done (by kernel_rfl) ?_
            refine SimE.thenN ?_
            refine Sim.ret ?_
            exact SimE.fin (by kernel_rfl)
        · refine SimI.run 5 [(71, .one (lb (r10.2 == 11))), (70, .one (lb (r10.2 == 11))), (69, .one (lb (r10.2 == 11))), (68, .one (lb (r10.2 == 11))), (67, .one (li .i64 r10.2))] [] (by kernel_rfl) ?_
          refine SimI.split 71 (r10.2 == 11) (by kernel_rfl) ?_ ?_
          · refine SimI.run 5 [(76, .one (lb (r11.1.toList == r12.1.toList))), (75, .one (lb (r11.1.toList == r12.1.toList))), (74, .one (lb (r11.1.toList == r12.1.toList))), (73, .one (ls r12.1)), (72, .one (ls r11.1))] [] (by kernel_rfl) ?_
            refine SimI.split 76 (r11.1.toList == r12.1.toList) (by kernel_rfl) ?_ ?_
            · refine SimI.run 5 [(81, .one (lb (r11.2 == r12.2))), (80, .one (lb (r11.2 == r12.2))), (79, .one (lb (r11.2 == r12.2))), (78, .one (li .i64 r12.2)), (77, .one (li .i64 r11.2))] [] (by kernel_rfl) ?_
              refine SimI.split 81 (r11.2 == r12.2) (by kernel_rfl) ?_ ?_
              · refine SimI.run 1 [(82, .agg (Thing.cells a0))] [] (by kernel_rfl) ?_
                refine SimI.bind (og := F24 n a0) { dst := some 83, op := POp.call false [[]] 24 [Operand.tmp 82], guard := some (81, true), hints := [(82, Hint.imm)] } (fun r21 => [(83, .one (lb r21))]) (fun r21 => []) (by kernel_rfl) (fun r21 hr => pOp_eff (by kernel_rfl) (by kernel_rfl) (eff_call (ARGS := [.agg (Thing.cells a0)]) (by kernel_rfl) (args_clean (by kernel_rfl) args_nil) (F24_ok n a0 r21 hr) (by kernel_rfl))) (fun r21 => ?_)
                refine SimI.run 1 [(84, .agg (Thing.cells a0))] [] (by kernel_rfl) ?_
                refine SimI.bind (og := F18 n a0) { dst := some 85, op := POp.call false [[]] 18 [Operand.tmp 84], guard := some (81, true), hints := [(84, Hint.imm)] } (fun r22 => [(85, .one (lb r22))]) (fun r22 => []) (by kernel_rfl) (fun r22 hr => pOp_eff (by kernel_rfl) (by kernel_rfl) (eff_call (ARGS := [.agg (Thing.cells a0)]) (by kernel_rfl) (args_clean (by kernel_rfl) args_nil) (F18_ok n a0 r22 hr) (by kernel_rfl))) (fun r22 => ?_)
                refine SimI.run 3 [(88, .one (lb (r21 == r22))), (87, .one (lb (r21 == r22))), (86, .one (lb (r21 == r22)))] [] (by kernel_rfl) ?_
                refine SimI.split 88 (r21 == r22) (by kernel_rfl) ?_ ?_
                · refine SimI.run 2 [(90, .agg (Thing.cells a1)), (89, .agg (Thing.cells a0))] [] (by kernel_rfl) ?_
                  refine SimI.bind (og := F25 n a0 a1) { dst := some 91, op := POp.call false [[], []] 25 [Operand.tmp 89, Operand.tmp 90], guard := some (88, true), hints := [(89, Hint.imm), (90, Hint.imm)] } (fun r23 => [(91, .one (lb r23))]) (fun r23 => []) (by kernel_rfl) (fun r23 hr => pOp_eff (by kernel_rfl) (by kernel_rfl) (eff_call (ARGS := [.agg (Thing.cells a0), .agg (Thing.cells a1)]) (by kernel_rfl) (args_clean (by kernel_rfl) (args_clean (by kernel_rfl) args_nil)) (F25_ok n a0 a1 r23 hr) (by kernel_rfl))) (fun r23 => ?_)
                  refine SimI.run 2 [(93, .agg (Thing.cells a1)), (92, .agg (Thing.cells a0))] [] (by kernel_rfl) ?_
                  refine SimI.step { dst := some 94, op := POp.prim (Prim.bin BinOp.eql 28 false false) [Operand.tmp 92, Operand.tmp 93], guard := some (88, true), hints := [(92, Hint.imm), (93, Hint.imm)] } [(94, .one (lb (Thing.eqb a0 a1)))] [] (by kernel_rfl) (pOp_eff (by kernel_rfl) (by kernel_rfl) (eff_prim (by kernel_rfl) (Thing_eql a0 a1 _ _))) ?_
                  refine SimI.run 3 [(97, .one (lb (r23 == (Thing.eqb a0 a1)))), (96, .one (lb (r23 == (Thing.eqb a0 a1)))), (95, .one (lb (r23 == (Thing.eqb a0 a1))))] [] (by kernel_rfl) ?_
                  refine SimI.split 97 (r23 == (Thing.eqb a0 a1)) (by kernel_rfl) ?_ ?_
                  · refine SimI.run 1 [(98, .one (li .i64 a3))] [] (by kernel_rfl) ?_
                    refine SimI.bind (og := F26 n a3) { dst := some 99, op := POp.call false [[]] 26 [Operand.tmp 98], guard := some (97, true), hints := [(98, Hint.imm)] } (fun r24 => [(99, .one (li .i64 r24))]) (fun r24 => []) (by kernel_rfl) (fun r24 hr => pOp_eff (by kernel_rfl) (by kernel_rfl) (eff_call (ARGS := [.one (li .i64 a3)]) (by kernel_rfl) (args_clean (by kernel_rfl) args_nil) (F26_ok n a3 r24 hr) (by kernel_rfl))) (fun r24 => ?_)
                    refine SimI.run 1 [(100, .one (li .i64 a3))] [] (by kernel_rfl) ?_
                    refine SimI.bind (og := F27 n a3) { dst := some 101, op := POp.call false [[]] 27 [Operand.tmp 100], guard := some (97, true), hints := [(100, Hint.imm)] } (fun r25 => [(101, .one (li .i64 r25))]) (fun r25 => []) (by kernel_rfl) (fun r25 hr => pOp_eff (by kernel_rfl) (by kernel_rfl) (eff_call (ARGS := [.one (li .i64 a3)]) (by kernel_rfl) (args_clean (by kernel_rfl) args_nil) (F27_ok n a3 r25 hr) (by kernel_rfl))) (fun r25 => ?_)
                    refine SimI.run 3 [(104, .one (lb (r24 == r25))), (103, .one (lb (r24 == r25))), (102, .one (lb (r24 == r25)))] [] (by kernel_rfl) ?_
                    refine SimI.split 104 (r24 == r25) (by kernel_rfl) ?_ ?_
                    · refine SimI.run 2 [(106, .one (li .i64 a4)), (105, .one (li .i64 a3))] [] (by kernel_rfl) ?_
                      refine SimI.bind (og := F28 n a3 a4) { dst := some 107, op := POp.call false [[], []] 28 [Operand.tmp 105, Operand.tmp 106], guard := some (104, true), hints := [(105, Hint.imm), (106, Hint.imm)] } (fun r26 => [(107, .one (li .i64 r26))]) (fun r26 => []) (by kernel_rfl) (fun r26 hr => pOp_eff (by kernel_rfl) (by kernel_rfl) (eff_call (ARGS := [.one (li .i64 a3), .one (li .i64 a4)]) (by kernel_rfl) (args_clean (by kernel_rfl) (args_clean (by kernel_rfl) args_nil)) (F28_ok n a3 a4 r26 hr) (by kernel_rfl))) (fun r26 => ?_)
                      refine SimI.run 2 [(109, .one (li .i64 a4)), (108, .one (li .i64 a3))] [] (by kernel_rfl) ?_
                      refine SimI.bind (og := F29 n a3 a4) { dst := some 110, op := POp.call false [[], []] 29 [Operand.tmp 108, Operand.tmp 109], guard := some (104, true), hints := [(108, Hint.imm), (109, Hint.imm)] } (fun r27 => [(110, .one (li .i64 r27))]) (fun r27 => []) (by kernel_rfl) (fun r27 hr => pOp_eff (by kernel_rfl) (by kernel_rfl) (eff_call (ARGS := [.one (li .i64 a3), .one (li .i64 a4)]) (by kernel_rfl) (args_clean (by kernel_rfl) (args_clean (by kernel_rfl) args_nil)) (F29_ok n a3 a4 r27 hr) (by kernel_rfl))) (fun r27 => ?_)
                      refine SimI.run 3 [(10, .one (lb (r26 == r27))), (112, .one (lb (r26 == r27))), (111, .one (lb (r26 == r27)))] [] (by kernel_rfl) ?_
                      refine SimI.done (by kernel_rfl) ?_
                      refine SimE.thenN ?_
                      refine Sim.ret ?_
                      exact SimE.fin (by kernel_rfl)
                    · refine SimI.run 9 [(10, .one (lb false)), (112, .one (lb false)), (111, .tup []), (110, .tup []), (109, .tup []), (108, .tup []), (107, .tup []), (106, .tup []), (105, .tup [])] [] (by kernel_rfl) ?_
                      refine SimI.done (by kernel_rfl) ?_
                      refine SimE.thenN ?_
                      refine Sim.ret ?_
                      exact SimE.fin (by kernel_rfl)
                  · refine SimI.run 16 [(10, .one (lb false)), (112, .one (lb false)), (111, .tup []), (110, .tup []), (109, .tup []), (108, .tup []), (107, .tup []), (106, .tup []), (105, .tup []), (104, .one (lb false)), (103, .one (lb false)), (102, .tup []), (101, .tup []), (100, .tup []), (99, .tup []), (98, .tup [])] [] (by kernel_rfl) ?_
                    refine SimI.done (by kernel_rfl) ?_
                    refine SimE.thenN ?_
                    refine Sim.ret ?_
                    exact SimE.fin (by kernel_rfl)
                · refine SimI.run 25 [(10, .one (lb false)), (112, .one (lb false)), (111, .tup []), (110, .tup []), (109, .tup []), (108, .tup []), (107, .tup []), (106, .tup []), (105, .tup []), (104, .one (lb false)), (103, .one (lb false)), (102, .tup []), (101, .tup []), (100, .tup []), (99, .tup []), (98, .tup []), (97, .one (lb false)), (96, .one (lb false)), (95, .tup []), (94, .tup []), (93, .tup []), (92, .tup []), (91, .tup []), (90, .tup []), (89, .tup [])] [] (by kernel_rfl) ?_
                  refine SimI.done (by kernel_rfl) ?_
                  refine SimE.thenN ?_
                  refine Sim.ret ?_
                  exact SimE.fin (by kernel_rfl)
              · refine SimI.run 32 [(10, .one (lb false)), (112, .one (lb false)), (111, .tup []), (110, .tup []), (109, .tup []), (108, .tup []), (107, .tup []), (106, .tup []), (105, .tup []), (104, .one (lb false)), (103, .one (lb false)), (102, .tup []), (101, .tup []), (100, .tup []), (99, .tup []), (98, .tup []), (97, .one (lb false)), (96, .one (lb false)), (95, .tup []), (94, .tup []), (93, .tup []), (92, .tup []), (91, .tup []), (90, .tup []), (89, .tup []), (88, .one (lb false)), (87, .one (lb false)), (86, .tup []), (85, .tup []), (84, .tup []), (83, .tup []), (82, .tup [])] [] (by kernel_rfl) ?_
                refine SimI.done (by kernel_rfl) ?_
                refine SimE.thenN ?_
                refine Sim.ret ?_
                exact SimE.fin (by kernel_rfl)
            · refine SimI.run 37 [(10, .one (lb false)), (112, .one (lb false)), (111, .tup []), (110, .tup []), (109, .tup []), (108, .tup []), (107, .tup []), (106, .tup []), (105, .tup []), (104, .one (lb false)), (103, .one (lb false)), (102, .tup []), (101, .tup []), (100, .tup []), (99, .tup []), (98, .tup []), (97, .one (lb false)), (96, .one (lb false)), (95, .tup []), (94, .tup []), (93, .tup []), (92, .tup []), (91, .tup []), (90, .tup []), (89, .tup []), (88, .one (lb false)), (87, .one (lb false)), (86, .tup []), (85, .tup []), (84, .tup []), (83, .tup []), (82, .tup []), (81, .one (lb false)), (80, .one (lb false)), (79, .tup []), (78, .tup []), (77, .tup [])] [] (by kernel_rfl) ?_
              refine SimI.done (by kernel_rfl) ?_
              refine SimE.thenN ?_
              refine Sim.ret ?_
              exact SimE.fin (by kernel_rfl)
          · refine SimI.run 42 [(10, .one (lb false)), (112, .one (lb false)), (111, .tup []), (110, .tup []), (109, .tup []), (108, .tup []), (107, .tup []), (106, .tup []), (105, .tup []), (104, .one (lb false)), (103, .one (lb false)), (102, .tup []), (101, .tup []), (100, .tup []), (99, .tup []), (98, .tup []), (97, .one (lb false)), (96, .one (lb false)), (95, .tup []), (94, .tup []), (93, .tup []), (92, .tup []), (91, .tup []), (90, .tup []), (89, .tup []), (88, .one (lb false)), (87, .one (lb false)), (86, .tup []), (85, .tup []), (84, .tup []), (83, .tup []), (82, .tup []), (81, .one (lb false)), (80, .one (lb false)), (79, .tup []), (78, .tup []), (77, .tup []), (76, .one (lb false)), (75, .one (lb false)), (74, .tup []), (73, .tup []), (72, .tup [])] [] (by kernel_rfl) ?_
            refine SimI.done (by kernel_rfl) ?_
            refine SimE.thenN ?_
            refine Sim.ret ?_
            exact SimE.fin (by kernel_rfl)
      · refine SimI.run 50 [(10, .one (lb false)), (112, .one (lb false)), (111, .tup []), (110, .tup []), (109, .tup []), (108, .tup []), (107, .tup []), (106, .tup []), (105, .tup []), (104, .one (lb false)), (103, .one (lb false)), (102, .tup []), (101, .tup []), (100, .tup []), (99, .tup []), (98, .tup []), (97, .one (lb false)), (96, .one (lb false)), (95, .tup []), (94, .tup []), (93, .tup []), (92, .tup []), (91, .tup []), (90, .tup []), (89, .tup []), (88, .one (lb false)), (87, .one (lb false)), (86, .tup []), (85, .tup []), (84, .tup []), (83, .tup []), (82, .tup []), (81, .one (lb false)), (80, .one (lb false)), (79, .tup []), (78, .tup []), (77, .tup []), (76, .one (lb false)), (75, .one (lb false)), (74, .tup []), (73, .tup []), (72, .tup []), (71, .one (lb false)), (70, .one (lb false)), (69, .tup []), (68, .tup []), (67, .tup []), (66, .tup []), (65, .tup []), (64, .tup [])] [] (by kernel_rfl) ?_
        refine SimI.done (by kernel_rfl) ?_
        refine SimE.thenN ?_
        refine Sim.ret ?_
        exact SimE.fin (by kernel_rfl)
    · refine SimI.run 57 [(10, .one (lb false)), (112, .one (lb false)), (111, .tup []), (110, .tup []), (109, .tup []), (108, .tup []), (107, .tup []), (106, .tup []), (105, .tup []), (104, .one (lb false)), (103, .one (lb false)), (102, .tup []), (101, .tup []), (100, .tup []), (99, .tup []), (98, .tup []), (97, .one (lb false)), (96, .one (lb false)), (95, .tup []), (94, .tup []), (93, .tup []), (92, .tup []), (91, .tup []), (90, .tup []), (89, .tup []), (88, .one (lb false)), (87, .one (lb false)), (86, .tup []), (85, .tup []), (84, .tup []), (83, .tup []), (82, .tup []), (81, .one (lb false)), (80, .one (lb false)), (79, .tup []), (78, .tup []), (77, .tup []), (76, .one (lb false)), (75, .one (lb false)), (74, .tup []), (73, .tup []), (72, .tup []), (71, .one (lb false)), (70, .one (lb false)), (69, .tup []), (68, .tup []), (67, .tup []), (66, .tup []), (65, .tup []), (64, .tup []), (63, .one (lb false)), (62, .one (lb false)), (61, .tup []), (60, .tup []), (59, .tup []), (58, .tup []), (57, .tup [])] [] (by kernel_rfl) ?_
      refine SimI.done (by kernel_rfl) ?_
      refine SimE.thenN ?_
      refine Sim.ret ?_
      exact SimE.fin (by kernel_rfl)

def F3 (n : Nat) (a0 : Thing) (a1 : Thing) (a2 : (List Thing)) (a3 : Int) (a4 : Int) : Option Bool :=
  ((some true)).bind fun (r1 : Bool) =>
  if !(r1) then
    some false
  else
    (F16 n a0).bind fun (r2 : Bool) =>
    if !(r2) then
      some true
    else
      (F16 n a1).bind fun (r3 : Bool) =>
      if !(r3) then
        some true
      else
        (F17 n a2).bind fun (r4 : Bool) =>
        if !(r4) then
          some true
        else
          (F18 n a0).bind fun (r5 : Bool) =>
          if r5 then
            (F20 n a0).bind fun (r6 : Delta) =>
            (F19 n r6).bind fun (r7 : ByteArray) =>
            F3_j9 n a0 a1 a2 a3 a4 r7
          else
            F3_j9 n a0 a1 a2 a3 a4 ByteArray.empty
theorem F3_ok (n : Nat) (a0 : Thing) (a1 : Thing) (a2 : (List Thing)) (a3 : Int) (a4 : Int) : ∀ r, F3 n a0 a1 a2 a3 a4 = some r → D 3 [.agg (Thing.cells a0), .agg (Thing.cells a1), .one (vw Thing.cod a2), .one (li .i64 a3), .one (li .i64 a4)] [] = some (F3_e r) := by
  refine fn_to (D := D) (n := n + 8) (nt := 113) (rs := pc3_r) (c := pc3_c35) (L := [(0, .agg (Thing.cells a0)), (1, .agg (Thing.cells a1)), (2, .one (vw Thing.cod a2)), (3, .one (li .i64 a3)), (4, .one (li .i64 a4))]) (M := []) (k := 0) rfl rfl rfl rfl rfl rfl rfl ?_
  unfold F3
  refine Sim.seq ?_
  refine Sim.region0 ?_
  refine SimI.run 3 [(10, .one (lb false)), (6, .one (.ptr 6 0)), (5, .one (.ptr 5 0))] [(6, some (.cells (Thing.cells a1))), (5, some (.cells (Thing.cells a0)))] (by kernel_rfl) ?_
  refine SimI.done (by kernel_rfl) ?_
  refine SimE.thenN ?_
  refine Sim.seq ?_
  refine Sim.seq ?_
  refine Sim.region0 ?_
  refine SimI.bind (og := (some true)) { dst := some 18, op := POp.call true [] 15 [], guard := none, hints := [] } (fun r1 => [(18, .one (lb r1))]) (fun r1 => []) (by kernel_rfl) (fun r1 hr => pOp_eff (by kernel_rfl) (by kernel_rfl) (eff_call (ARGS := []) (by kernel_rfl) (args_nil) (F15_ok n r1 hr) (by kernel_rfl))) (fun r1 => ?_)
  refine SimI.run 1 [(19, .one (lb (!(r1))))] [] (by kernel_rfl) ?_
  refine SimI.done (by kernel_rfl) ?_
  refine SimE.thenN ?_
  refine Sim.cond (!(r1)) (by kernel_rfl) ?_ ?_
  · refine Sim.seq ?_
    refine Sim.region0 ?_
    refine SimI.run 1 [(10, .one (lb false))] [] (by kernel_rfl) ?_
    refine SimI.done (by kernel_rfl) ?_
    refine SimE.thenN ?_
    refine Sim.ret ?_
    refine SimE.thenR ?_
    exact SimE.fin (by kernel_rfl)
  · refine Sim.skip ?_
    refine SimE.thenN ?_
    refine Sim.seq ?_
    refine Sim.seq ?_
    refine Sim.region0 ?_
    refine SimI.run 1 [(20, .agg (Thing.cells a0))] [] (by kernel_rfl) ?_
    refine SimI.bind (og := F16 n a0) { dst := some 21, op := POp.call true [[]] 16 [Operand.tmp 20], guard := none, hints := [] } (fun r2 => [(21, .one (lb r2))]) (fun r2 => []) (by kernel_rfl) (fun r2 hr => pOp_eff (by kernel_rfl) (by kernel_rfl) (eff_call (ARGS := [.agg (Thing.cells a0)]) (by kernel_rfl) (args_clean (by kernel_rfl) args_nil) (F16_ok n a0 r2 hr) (by kernel_rfl))) (fun r2 => ?_)
    refine SimI.run 2 [(23, .one (lb (!(r2)))), (22, .one (lb (!(r2))))] [] (by kernel_rfl) ?_
    refine SimI.split 23 (!(r2)) (by kernel_rfl) ?_ ?_
    · refine SimI.run 9 [(32, .one (lb true)), (31, .tup []), (30, .tup []), (29, .tup []), (28, .one (lb true)), (27, .one (lb true)), (26, .tup []), (25, .tup []), (24, .tup [])] [] (by kernel_rfl) ?_
      refine SimI.done (by kernel_rfl) ?_
      refine SimE.thenN ?_
      refine Sim.condT (by kernel_rfl) ?_
      refine Sim.seq ?_
      refine Sim.region0 ?_
      refine SimI.run 1 [(10, .one (lb true))] [] (by kernel_rfl) ?_
      refine SimI.done (by kernel_rfl) ?_
      refine SimE.thenN ?_
      refine Sim.ret ?_
      refine SimE.thenR ?_
      exact SimE.fin (by kernel_rfl)
    · refine SimI.run 1 [(24, .agg (Thing.cells a1))] [] (by kernel_rfl) ?_
      refine SimI.bind (og := F16 n a1) { dst := some 25, op := POp.call true [[]] 16 [Operand.tmp 24], guard := some (23, false), hints := [] } (fun r3 => [(25, .one (lb r3))]) (fun r3 => []) (by kernel_rfl) (fun r3 hr => pOp_eff (by kernel_rfl) (by kernel_rfl) (eff_call (ARGS := [.agg (Thing.cells a1)]) (by kernel_rfl) (args_clean (by kernel_rfl) args_nil) (F16_ok n a1 r3 hr) (by kernel_rfl))) (fun r3 => ?_)
      refine SimI.run 3 [(28, .one (lb (!(r3)))), (27, .one (lb (!(r3)))), (26, .one (lb (!(r3))))] [] (by kernel_rfl) ?_
      refine SimI.split 28 (!(r3)) (by kernel_rfl) ?_ ?_
      · refine SimI.run 4 [(32, .one (lb true)), (31, .tup []), (30, .tup []), (29, .tup [])] [] (by kernel_rfl) ?_
        refine SimI.done (by kernel_rfl) ?_
        refine SimE.thenN ?_
        refine Sim.condT (by kernel_rfl) ?_
        refine Sim.seq ?_
        refine Sim.region0 ?_
        refine SimI.run 1 [(10, .one (lb true))] [] (by kernel_rfl) ?_
        refine SimI.done (by kernel_rfl) ?_
        refine SimE.thenN ?_
        refine Sim.ret ?_
        refine SimE.thenR ?_
        exact SimE.fin (by kernel_rfl)
      · refine SimI.run 1 [(29, .one (vw Thing.cod a2))] [] (by kernel_rfl) ?_
        refine SimI.bind (og := F17 n a2) { dst := some 30, op := POp.call true [[(0, 11)]] 17 [Operand.tmp 29], guard := some (28, false), hints := [] } (fun r4 => [(30, .one (lb r4))]) (fun r4 => []) (by kernel_rfl) (fun r4 hr => pOp_eff (by kernel_rfl) (by kernel_rfl) (eff_call (ARGS := [.one (vw Thing.cod a2)]) (by kernel_rfl) (args_clean (by kernel_rfl) args_nil) (F17_ok n a2 r4 hr) (by kernel_rfl))) (fun r4 => ?_)
        refine SimI.run 2 [(32, .one (lb (!(r4)))), (31, .one (lb (!(r4))))] [] (by kernel_rfl) ?_
        refine SimI.done (by kernel_rfl) ?_
        refine SimE.thenN ?_
        refine Sim.cond (!(r4)) (by kernel_rfl) ?_ ?_
        · refine Sim.seq ?_
          refine Sim.region0 ?_
          refine SimI.run 1 [(10, .one (lb true))] [] (by kernel_rfl) ?_
          refine SimI.done (by kernel_rfl) ?_
          refine SimE.thenN ?_
          refine Sim.ret ?_
          refine SimE.thenR ?_
          exact SimE.fin (by kernel_rfl)
        · refine Sim.skip ?_
          refine SimE.thenN ?_
          refine Sim.seq ?_
          refine Sim.region0 ?_
          refine SimI.run 1 [(11, .one (ls ByteArray.empty))] [] (by kernel_rfl) ?_
          refine SimI.done (by kernel_rfl) ?_
          refine SimE.thenN ?_
          refine Sim.seq ?_
          refine Sim.seq ?_
          refine Sim.region0 ?_
          refine SimI.run 1 [(33, .agg (Thing.cells a0))] [] (by kernel_rfl) ?_
          refine SimI.bind (og := F18 n a0) { dst := some 34, op := POp.call true [[]] 18 [Operand.tmp 33], guard := none, hints := [] } (fun r5 => [(34, .one (lb r5))]) (fun r5 => []) (by kernel_rfl) (fun r5 hr => pOp_eff (by kernel_rfl) (by kernel_rfl) (eff_call (ARGS := [.agg (Thing.cells a0)]) (by kernel_rfl) (args_clean (by kernel_rfl) args_nil) (F18_ok n a0 r5 hr) (by kernel_rfl))) (fun r5 => ?_)
          refine SimI.done (by kernel_rfl) ?_
          refine SimE.thenN ?_
          refine Sim.cond r5 (by kernel_rfl) ?_ ?_
          · refine Sim.region0 ?_
            refine SimI.run 1 [(35, .agg (Thing.cells a0))] [] (by kernel_rfl) ?_
            refine SimI.bind (og := F20 n a0) { dst := some 36, op := POp.call true [[]] 20 [Operand.tmp 35], guard := none, hints := [] } (fun r6 => [(36, .agg (Delta.cells r6))]) (fun r6 => []) (by kernel_rfl) (fun r6 hr => pOp_eff (by kernel_rfl) (by kernel_rfl) (eff_call (ARGS := [.agg (Thing.cells a0)]) (by kernel_rfl) (args_clean (by kernel_rfl) args_nil) (F20_ok n a0 r6 hr) (by kernel_rfl))) (fun r6 => ?_)
            refine SimI.bind (og := F19 n r6) { dst := some 37, op := POp.call true [[]] 19 [Operand.tmp 36], guard := none, hints := [] } (fun r7 => [(37, .one (ls r7))]) (fun r7 => []) (by kernel_rfl) (fun r7 hr => pOp_eff (by kernel_rfl) (by kernel_rfl) (eff_call (ARGS := [.agg (Delta.cells r6)]) (by kernel_rfl) (args_clean (by kernel_rfl) args_nil) (F19_ok n r6 r7 hr) (by kernel_rfl))) (fun r7 => ?_)
            refine SimI.run 1 [(11, .one (ls r7))] [] (by kernel_rfl) ?_
            refine SimI.done (by kernel_rfl) ?_
            refine SimE.thenN ?_
            refine Sim.pre (ts := [2, 3, 4, 5, 6, 11]) (os := [5, 6]) (ow := []) [(2, .one (vw Thing.cod a2)), (3, .one (li .i64 a3)), (4, .one (li .i64 a4)), (5, .one (.ptr 5 0)), (6, .one (.ptr 6 0)), (11, .one (ls r7))] [(5, some (.cells (Thing.cells a0))), (6, some (.cells (Thing.cells a1)))] (by kernel_rfl) (by kernel_rfl) (by kernel_rfl) ?_
            exact F3_j9_ok n a0 a1 a2 a3 a4 r7
          · refine Sim.skip ?_
            refine SimE.thenN ?_
            refine Sim.pre (ts := [2, 3, 4, 5, 6, 11]) (os := [5, 6]) (ow := []) [(2, .one (vw Thing.cod a2)), (3, .one (li .i64 a3)), (4, .one (li .i64 a4)), (5, .one (.ptr 5 0)), (6, .one (.ptr 6 0)), (11, .one (ls ByteArray.empty))] [(5, some (.cells (Thing.cells a0))), (6, some (.cells (Thing.cells a1)))] (by kernel_rfl) (by kernel_rfl) (by kernel_rfl) ?_
            exact F3_j9_ok n a0 a1 a2 a3 a4 ByteArray.empty


-- 76: vedette/fields.Diff
def F76_e : (Delta × Bool) → PV × List Ob := fun r => (.tup [.agg (Delta.cells r.1), .one (lb r.2)], [])
def F76_u20 (n : Nat) (a1 : Thing) (i2 : Int) (i3 : Int) (i6 : Int) (s7 : ByteArray) (i10 : Int) (s11 : ByteArray) (i14 : Int) (s15 : ByteArray) (i17 : Int) (i18 : Int) (s19 : ByteArray) : Option (Delta × Bool) :=
    some ((Delta.mk a1.ID i17 (Point.mk i2 i3) (A4.mk (Field.mk i6 s7) (Field.mk i10 s11) (Field.mk i14 s15) (Field.mk i18 s19))), i17 != 0)
theorem F76_u20_ok (n : Nat) (a0 : Thing) (a1 : Thing) (i2 : Int) (i3 : Int) (i6 : Int) (s7 : ByteArray) (i10 : Int) (s11 : ByteArray) (i14 : Int) (s15 : ByteArray) (i17 : Int) (i18 : Int) (s19 : ByteArray) : SimL Try.prog D (n + 8) (n + 4) pc76_c26 [(2, .one (.ptr 2 0)), (4, .one (.ptr 4 0)), (6, .one (.ptr 6 0)), (22, .agg (A4_Field.cells a1.F)), (23, .one (li .i64 4))] [(2, some (.cells (Thing.cells a0))), (4, some (.cells [li .i64 0, li .u8 0, li .i64 0, li .i64 0, li .i64 0, ls ByteArray.empty, li .i64 0, ls ByteArray.empty, li .i64 0, ls ByteArray.empty, li .i64 0, ls ByteArray.empty])), (6, some (.cells [li .i64 a1.ID, li .u8 i17, li .i64 i2, li .i64 i3, li .i64 i6, ls s7, li .i64 i10, ls s11, li .i64 i14, ls s15, li .i64 i18, ls s19]))] (F76_u20 n a1 i2 i3 i6 s7 i10 s11 i14 s15 i17 i18 s19) (QB 0 (QT Try.prog D (n + 8) pc76_c32 (QF false pc76_r 0 F76_e))) := by
    unfold F76_u20
    refine SimL.succ ?_
    refine Sim.seq ?_
    refine Sim.region [(2, .one (.ptr 2 0)), (4, .one (.ptr 4 0)), (6, .one (.ptr 6 0)), (22, .agg (A4_Field.cells a1.F)), (23, .one (li .i64 4))] [(2, some (.cells (Thing.cells a0))), (4, some (.cells [li .i64 0, li .u8 0, li .i64 0, li .i64 0, li .i64 0, ls ByteArray.empty, li .i64 0, ls ByteArray.empty, li .i64 0, ls ByteArray.empty, li .i64 0, ls ByteArray.empty])), (6, some (.cells [li .i64 a1.ID, li .u8 i17, li .i64 i2, li .i64 i3, li .i64 i6, ls s7, li .i64 i10, ls s11, li .i64 i14, ls s15, li .i64 i18, ls s19]))] (by kernel_rfl) ?_
    refine SimI.run 1 [(24, .one (lb false))] [] (by kernel_rfl) ?_
    refine SimI.done (by kernel_rfl) ?_
    refine SimE.thenN ?_
    refine Sim.seq ?_
    refine Sim.condF (by kernel_rfl) ?_
    refine Sim.exit ?_
    refine SimE.thenX ?_
    refine SimE.loopX ?_
    refine SimE.blockX ?_
    refine SimE.thenN ?_
    refine Sim.seq ?_
    refine Sim.region0 ?_
    refine SimI.run 6 [(5, .one (lb (i17 != 0))), (47, .one (lb (i17 != 0))), (46, .one (li .u8 i17)), (45, .one (.ptr 6 1)), (44, .agg [li .i64 a1.ID, li .u8 i17, li .i64 i2, li .i64 i3, li .i64 i6, ls s7, li .i64 i10, ls s11, li .i64 i14, ls s15, li .i64 i18, ls s19])] [(4, some (.cells [li .i64 a1.ID, li .u8 i17, li .i64 i2, li .i64 i3, li .i64 i6, ls s7, li .i64 i10, ls s11, li .i64 i14, ls s15, li .i64 i18, ls s19]))] (by kernel_rfl) ?_
    refine SimI.done (by kernel_rfl) ?_
    refine SimE.thenN ?_
    refine Sim.ret ?_
    exact SimE.fin (by kernel_rfl)

def F76_u16 (n : Nat) (a0 : Thing) (a1 : Thing) (i2 : Int) (i3 : Int) (i6 : Int) (s7 : ByteArray) (i10 : Int) (s11 : ByteArray) (i13 : Int) (i14 : Int) (s15 : ByteArray) : Option (Delta × Bool) :=
    if !(Field.eqb a0.F.a3 a1.F.a3) then
      F76_u20 n a1 i2 i3 i6 s7 i10 s11 i14 s15 (bitsI .or .u8 i13 (shlI .u8 2 3)) a1.F.a3.N a1.F.a3.Text
    else
      F76_u20 n a1 i2 i3 i6 s7 i10 s11 i14 s15 i13 0 ByteArray.empty
theorem F76_u16_ok (n : Nat) (a0 : Thing) (a1 : Thing) (i2 : Int) (i3 : Int) (i6 : Int) (s7 : ByteArray) (i10 : Int) (s11 : ByteArray) (i13 : Int) (i14 : Int) (s15 : ByteArray) : SimL Try.prog D (n + 8) (n + 5) pc76_c26 [(2, .one (.ptr 2 0)), (4, .one (.ptr 4 0)), (6, .one (.ptr 6 0)), (22, .agg (A4_Field.cells a1.F)), (23, .one (li .i64 3))] [(2, some (.cells (Thing.cells a0))), (4, some (.cells [li .i64 0, li .u8 0, li .i64 0, li .i64 0, li .i64 0, ls ByteArray.empty, li .i64 0, ls ByteArray.empty, li .i64 0, ls ByteArray.empty, li .i64 0, ls ByteArray.empty])), (6, some (.cells [li .i64 a1.ID, li .u8 i13, li .i64 i2, li .i64 i3, li .i64 i6, ls s7, li .i64 i10, ls s11, li .i64 i14, ls s15, li .i64 0, ls ByteArray.empty]))] (F76_u16 n a0 a1 i2 i3 i6 s7 i10 s11 i13 i14 s15) (QB 0 (QT Try.prog D (n + 8) pc76_c32 (QF false pc76_r 0 F76_e))) := by
    unfold F76_u16
    refine SimL.succ ?_
    refine Sim.seq ?_
    refine Sim.region [(2, .one (.ptr 2 0)), (4, .one (.ptr 4 0)), (6, .one (.ptr 6 0)), (22, .agg (A4_Field.cells a1.F)), (23, .one (li .i64 3))] [(2, some (.cells (Thing.cells a0))), (4, some (.cells [li .i64 0, li .u8 0, li .i64 0, li .i64 0, li .i64 0, ls ByteArray.empty, li .i64 0, ls ByteArray.empty, li .i64 0, ls ByteArray.empty, li .i64 0, ls ByteArray.empty])), (6, some (.cells [li .i64 a1.ID, li .u8 i13, li .i64 i2, li .i64 i3, li .i64 i6, ls s7, li .i64 i10, ls s11, li .i64 i14, ls s15, li .i64 0, ls ByteArray.empty]))] (by kernel_rfl) ?_
    refine SimI.run 1 [(24, .one (lb true))] [] (by kernel_rfl) ?_
    refine SimI.done (by kernel_rfl) ?_
    refine SimE.thenN ?_
    refine Sim.seq ?_
    refine Sim.condT (by kernel_rfl) ?_
    refine Sim.skip ?_
    refine SimE.thenN ?_
    refine Sim.seq ?_
    refine Sim.block ?_
    refine Sim.seq ?_
    refine Sim.region0 ?_
    refine SimI.run 5 [(7, .one (li .i64 3)), (8, .one (.ptr 8 0)), (26, .agg [li .i64 a1.F.a3.N, ls a1.F.a3.Text]), (25, .one (li .i64 3))] [(8, some (.cells [li .i64 a1.F.a3.N, ls a1.F.a3.Text])), (8, some (.cells [li .i64 0, ls ByteArray.empty]))] (by kernel_rfl) ?_
    refine SimI.done (by kernel_rfl) ?_
    refine SimE.thenN ?_
    refine Sim.seq ?_
    refine Sim.region0 ?_
    refine SimI.run 5 [(31, .agg [li .i64 a1.F.a3.N, ls a1.F.a3.Text]), (30, .agg [li .i64 a0.F.a3.N, ls a0.F.a3.Text]), (29, .one (.ptr 2 9)), (28, .one (.ptr 2 3)), (27, .one (li .i64 3))] [] (by kernel_rfl) ?_
    refine SimI.step { dst := some 32, op := POp.prim (Prim.bin BinOp.neq 25 false false) [Operand.tmp 30, Operand.tmp 31], guard := none, hints := [(30, Hint.imm), (31, Hint.imm)] } [(32, .one (lb (!(Field.eqb a0.F.a3 a1.F.a3))))] [] (by kernel_rfl) (pOp_eff (by kernel_rfl) (by kernel_rfl) (eff_prim (by kernel_rfl) (Field_eqn a0.F.a3 a1.F.a3 _ _))) ?_
    refine SimI.done (by kernel_rfl) ?_
    refine SimE.thenN ?_
    refine Sim.cond (!(Field.eqb a0.F.a3 a1.F.a3)) (by kernel_rfl) ?_ ?_
    · refine Sim.seq ?_
      refine Sim.region0 ?_
      refine SimI.run 7 [(38, .one (.ptr 6 1)), (37, .one (li .u8 (bitsI .or .u8 i13 (shlI .u8 2 3)))), (36, .one (li .u8 (shlI .u8 2 3))), (35, .one (li .i64 3)), (34, .one (li .u8 i13)), (33, .one (.ptr 6 1))] [(6, some (.cells [li .i64 a1.ID, li .u8 (bitsI .or .u8 i13 (shlI .u8 2 3)), li .i64 i2, li .i64 i3, li .i64 i6, ls s7, li .i64 i10, ls s11, li .i64 i14, ls s15, li .i64 0, ls ByteArray.empty]))] (by kernel_rfl) ?_
      refine SimI.done (by kernel_rfl) ?_
      refine SimE.thenN ?_
      refine Sim.region0 ?_
      refine SimI.run 5 [(42, .one (.ptr 6 10)), (41, .one (.ptr 6 4)), (40, .agg [li .i64 a1.F.a3.N, ls a1.F.a3.Text]), (39, .one (li .i64 3))] [(6, some (.cells [li .i64 a1.ID, li .u8 (bitsI .or .u8 i13 (shlI .u8 2 3)), li .i64 i2, li .i64 i3, li .i64 i6, ls s7, li .i64 i10, ls s11, li .i64 i14, ls s15, li .i64 a1.F.a3.N, ls a1.F.a3.Text]))] (by kernel_rfl) ?_
      refine SimI.done (by kernel_rfl) ?_
      refine SimE.blockN ?_
      refine SimE.thenN ?_
      refine Sim.region0 ?_
      refine SimI.run 2 [(23, .one (li .i64 4)), (43, .one (li .i64 4))] [] (by kernel_rfl) ?_
      refine SimI.done (by kernel_rfl) ?_
      refine SimE.loopN ?_
      refine SimL.pre (ts := [2, 4, 6, 22, 23]) (os := [2, 3, 4, 6, 8]) (ow := []) [(2, .one (.ptr 2 0)), (4, .one (.ptr 4 0)), (6, .one (.ptr 6 0)), (22, .agg (A4_Field.cells a1.F)), (23, .one (li .i64 4))] [(2, some (.cells (Thing.cells a0))), (4, some (.cells [li .i64 0, li .u8 0, li .i64 0, li .i64 0, li .i64 0, ls ByteArray.empty, li .i64 0, ls ByteArray.empty, li .i64 0, ls ByteArray.empty, li .i64 0, ls ByteArray.empty])), (6, some (.cells [li .i64 a1.ID, li .u8 (bitsI .or .u8 i13 (shlI .u8 2 3)), li .i64 i2, li .i64 i3, li .i64 i6, ls s7, li .i64 i10, ls s11, li .i64 i14, ls s15, li .i64 a1.F.a3.N, ls a1.F.a3.Text]))] (by kernel_rfl) (by kernel_rfl) (by kernel_rfl) ?_
      exact F76_u20_ok n a0 a1 i2 i3 i6 s7 i10 s11 i14 s15 (bitsI .or .u8 i13 (shlI .u8 2 3)) a1.F.a3.N a1.F.a3.Text
    · refine Sim.skip ?_
      refine SimE.blockN ?_
      refine SimE.thenN ?_
      refine Sim.region0 ?_
      refine SimI.run 2 [(23, .one (li .i64 4)), (43, .one (li .i64 4))] [] (by kernel_rfl) ?_
      refine SimI.done (by kernel_rfl) ?_
      refine SimE.loopN ?_
      refine SimL.pre (ts := [2, 4, 6, 22, 23]) (os := [2, 3, 4, 6, 8]) (ow := []) [(2, .one (.ptr 2 0)), (4, .one (.ptr 4 0)), (6, .one (.ptr 6 0)), (22, .agg (A4_Field.cells a1.F)), (23, .one (li .i64 4))] [(2, some (.cells (Thing.cells a0))), (4, some (.cells [li .i64 0, li .u8 0, li .i64 0, li .i64 0, li .i64 0, ls ByteArray.empty, li .i64 0, ls ByteArray.empty, li .i64 0, ls ByteArray.empty, li .i64 0, ls ByteArray.empty])), (6, some (.cells [li .i64 a1.ID, li .u8 i13, li .i64 i2, li .i64 i3, li .i64 i6, ls s7, li .i64 i10, ls s11, li .i64 i14, ls s15, li .i64 0, ls ByteArray.empty]))] (by kernel_rfl) (by kernel_rfl) (by kernel_rfl) ?_
      exact F76_u20_ok n a0 a1 i2 i3 i6 s7 i10 s11 i14 s15 i13 0 ByteArray.empty

def F76_u12 (n : Nat) (a0 : Thing) (a1 : Thing) (i2 : Int) (i3 : Int) (i6 : Int) (s7 : ByteArray) (i9 : Int) (i10 : Int) (s11 : ByteArray) : Option (Delta × Bool) :=
    if !(Field.eqb a0.F.a2 a1.F.a2) then
      F76_u16 n a0 a1 i2 i3 i6 s7 i10 s11 (bitsI .or .u8 i9 (shlI .u8 2 2)) a1.F.a2.N a1.F.a2.Text
    else
      F76_u16 n a0 a1 i2 i3 i6 s7 i10 s11 i9 0 ByteArray.empty
theorem F76_u12_ok (n : Nat) (a0 : Thing) (a1 : Thing) (i2 : Int) (i3 : Int) (i6 : Int) (s7 : ByteArray) (i9 : Int) (i10 : Int) (s11 : ByteArray) : SimL Try.prog D (n + 8) (n + 6) pc76_c26 [(2, .one (.ptr 2 0)), (4, .one (.ptr 4 0)), (6, .one (.ptr 6 0)), (22, .agg (A4_Field.cells a1.F)), (23, .one (li .i64 2))] [(2, some (.cells (Thing.cells a0))), (4, some (.cells [li .i64 0, li .u8 0, li .i64 0, li .i64 0, li .i64 0, ls ByteArray.empty, li .i64 0, ls ByteArray.empty, li .i64 0, ls ByteArray.empty, li .i64 0, ls ByteArray.empty])), (6, some (.cells [li .i64 a1.ID, li .u8 i9, li .i64 i2, li .i64 i3, li .i64 i6, ls s7, li .i64 i10, ls s11, li .i64 0, ls ByteArray.empty, li .i64 0, ls ByteArray.empty]))] (F76_u12 n a0 a1 i2 i3 i6 s7 i9 i10 s11) (QB 0 (QT Try.prog D (n + 8) pc76_c32 (QF false pc76_r 0 F76_e))) := by
    unfold F76_u12
    refine SimL.succ ?_
    refine Sim.seq ?_
    refine Sim.region [(2, .one (.ptr 2 0)), (4, .one (.ptr 4 0)), (6, .one (.ptr 6 0)), (22, .agg (A4_Field.cells a1.F)), (23, .one (li .i64 2))] [(2, some (.cells (Thing.cells a0))), (4, some (.cells [li .i64 0, li .u8 0, li .i64 0, li .i64 0, li .i64 0, ls ByteArray.empty, li .i64 0, ls ByteArray.empty, li .i64 0, ls ByteArray.empty, li .i64 0, ls ByteArray.empty])), (6, some (.cells [li .i64 a1.ID, li .u8 i9, li .i64 i2, li .i64 i3, li .i64 i6, ls s7, li .i64 i10, ls s11, li .i64 0, ls ByteArray.empty, li .i64 0, ls ByteArray.empty]))] (by kernel_rfl) ?_
    refine SimI.run 1 [(24, .one (lb true))] [] (by kernel_rfl) ?_
    refine SimI.done (by kernel_rfl) ?_
    refine SimE.thenN ?_
    refine Sim.seq ?_
    refine Sim.condT (by kernel_rfl) ?_
    refine Sim.skip ?_
    refine SimE.thenN ?_
    refine Sim.seq ?_
    refine Sim.block ?_
    refine Sim.seq ?_
    refine Sim.region0 ?_
    refine SimI.run 5 [(7, .one (li .i64 2)), (8, .one (.ptr 8 0)), (26, .agg [li .i64 a1.F.a2.N, ls a1.F.a2.Text]), (25, .one (li .i64 2))] [(8, some (.cells [li .i64 a1.F.a2.N, ls a1.F.a2.Text])), (8, some (.cells [li .i64 0, ls ByteArray.empty]))] (by kernel_rfl) ?_
    refine SimI.done (by kernel_rfl) ?_
    refine SimE.thenN ?_
    refine Sim.seq ?_
    refine Sim.region0 ?_
    refine SimI.run 5 [(31, .agg [li .i64 a1.F.a2.N, ls a1.F.a2.Text]), (30, .agg [li .i64 a0.F.a2.N, ls a0.F.a2.Text]), (29, .one (.ptr 2 7)), (28, .one (.ptr 2 3)), (27, .one (li .i64 2))] [] (by kernel_rfl) ?_
    refine SimI.step { dst := some 32, op := POp.prim (Prim.bin BinOp.neq 25 false false) [Operand.tmp 30, Operand.tmp 31], guard := none, hints := [(30, Hint.imm), (31, Hint.imm)] } [(32, .one (lb (!(Field.eqb a0.F.a2 a1.F.a2))))] [] (by kernel_rfl) (pOp_eff (by kernel_rfl) (by kernel_rfl) (eff_prim (by kernel_rfl) (Field_eqn a0.F.a2 a1.F.a2 _ _))) ?_
    refine SimI.done (by kernel_rfl) ?_
    refine SimE.thenN ?_
    refine Sim.cond (!(Field.eqb a0.F.a2 a1.F.a2)) (by kernel_rfl) ?_ ?_
    · refine Sim.seq ?_
      refine Sim.region0 ?_
      refine SimI.run 7 [(38, .one (.ptr 6 1)), (37, .one (li .u8 (bitsI .or .u8 i9 (shlI .u8 2 2)))), (36, .one (li .u8 (shlI .u8 2 2))), (35, .one (li .i64 2)), (34, .one (li .u8 i9)), (33, .one (.ptr 6 1))] [(6, some (.cells [li .i64 a1.ID, li .u8 (bitsI .or .u8 i9 (shlI .u8 2 2)), li .i64 i2, li .i64 i3, li .i64 i6, ls s7, li .i64 i10, ls s11, li .i64 0, ls ByteArray.empty, li .i64 0, ls ByteArray.empty]))] (by kernel_rfl) ?_
      refine SimI.done (by kernel_rfl) ?_
      refine SimE.thenN ?_
      refine Sim.region0 ?_
      refine SimI.run 5 [(42, .one (.ptr 6 8)), (41, .one (.ptr 6 4)), (40, .agg [li .i64 a1.F.a2.N, ls a1.F.a2.Text]), (39, .one (li .i64 2))] [(6, some (.cells [li .i64 a1.ID, li .u8 (bitsI .or .u8 i9 (shlI .u8 2 2)), li .i64 i2, li .i64 i3, li .i64 i6, ls s7, li .i64 i10, ls s11, li .i64 a1.F.a2.N, ls a1.F.a2.Text, li .i64 0, ls ByteArray.empty]))] (by kernel_rfl) ?_
      refine SimI.done (by kernel_rfl) ?_
      refine SimE.blockN ?_
      refine SimE.thenN ?_
      refine Sim.region0 ?_
      refine SimI.run 2 [(23, .one (li .i64 3)), (43, .one (li .i64 3))] [] (by kernel_rfl) ?_
      refine SimI.done (by kernel_rfl) ?_
      refine SimE.loopN ?_
      refine SimL.pre (ts := [2, 4, 6, 22, 23]) (os := [2, 3, 4, 6, 8]) (ow := []) [(2, .one (.ptr 2 0)), (4, .one (.ptr 4 0)), (6, .one (.ptr 6 0)), (22, .agg (A4_Field.cells a1.F)), (23, .one (li .i64 3))] [(2, some (.cells (Thing.cells a0))), (4, some (.cells [li .i64 0, li .u8 0, li .i64 0, li .i64 0, li .i64 0, ls ByteArray.empty, li .i64 0, ls ByteArray.empty, li .i64 0, ls ByteArray.empty, li .i64 0, ls ByteArray.empty])), (6, some (.cells [li .i64 a1.ID, li .u8 (bitsI .or .u8 i9 (shlI .u8 2 2)), li .i64 i2, li .i64 i3, li .i64 i6, ls s7, li .i64 i10, ls s11, li .i64 a1.F.a2.N, ls a1.F.a2.Text, li .i64 0, ls ByteArray.empty]))] (by kernel_rfl) (by kernel_rfl) (by kernel_rfl) ?_
      exact F76_u16_ok n a0 a1 i2 i3 i6 s7 i10 s11 (bitsI .or .u8 i9 (shlI .u8 2 2)) a1.F.a2.N a1.F.a2.Text
    · refine Sim.skip ?_
      refine SimE.blockN ?_
      refine SimE.thenN ?_
      refine Sim.region0 ?_
      refine SimI.run 2 [(23, .one (li .i64 3)), (43, .one (li .i64 3))] [] (by kernel_rfl) ?_
      refine SimI.done (by kernel_rfl) ?_
      refine SimE.loopN ?_
      refine SimL.pre (ts := [2, 4, 6, 22, 23]) (os := [2, 3, 4, 6, 8]) (ow := []) [(2, .one (.ptr 2 0)), (4, .one (.ptr 4 0)), (6, .one (.ptr 6 0)), (22, .agg (A4_Field.cells a1.F)), (23, .one (li .i64 3))] [(2, some (.cells (Thing.cells a0))), (4, some (.cells [li .i64 0, li .u8 0, li .i64 0, li .i64 0, li .i64 0, ls ByteArray.empty, li .i64 0, ls ByteArray.empty, li .i64 0, ls ByteArray.empty, li .i64 0, ls ByteArray.empty])), (6, some (.cells [li .i64 a1.ID, li .u8 i9, li .i64 i2, li .i64 i3, li .i64 i6, ls s7, li .i64 i10, ls s11, li .i64 0, ls ByteArray.empty, li .i64 0, ls ByteArray.empty]))] (by kernel_rfl) (by kernel_rfl) (by kernel_rfl) ?_
      exact F76_u16_ok n a0 a1 i2 i3 i6 s7 i10 s11 i9 0 ByteArray.empty

def F76_u8 (n : Nat) (a0 : Thing) (a1 : Thing) (i2 : Int) (i3 : Int) (i5 : Int) (i6 : Int) (s7 : ByteArray) : Option (Delta × Bool) :=
    if !(Field.eqb a0.F.a1 a1.F.a1) then
      F76_u12 n a0 a1 i2 i3 i6 s7 (bitsI .or .u8 i5 (shlI .u8 2 1)) a1.F.a1.N a1.F.a1.Text
    else
      F76_u12 n a0 a1 i2 i3 i6 s7 i5 0 ByteArray.empty
theorem F76_u8_ok (n : Nat) (a0 : Thing) (a1 : Thing) (i2 : Int) (i3 : Int) (i5 : Int) (i6 : Int) (s7 : ByteArray) : SimL Try.prog D (n + 8) (n + 7) pc76_c26 [(2, .one (.ptr 2 0)), (4, .one (.ptr 4 0)), (6, .one (.ptr 6 0)), (22, .agg (A4_Field.cells a1.F)), (23, .one (li .i64 1))] [(2, some (.cells (Thing.cells a0))), (4, some (.cells [li .i64 0, li .u8 0, li .i64 0, li .i64 0, li .i64 0, ls ByteArray.empty, li .i64 0, ls ByteArray.empty, li .i64 0, ls ByteArray.empty, li .i64 0, ls ByteArray.empty])), (6, some (.cells [li .i64 a1.ID, li .u8 i5, li .i64 i2, li .i64 i3, li .i64 i6, ls s7, li .i64 0, ls ByteArray.empty, li .i64 0, ls ByteArray.empty, li .i64 0, ls ByteArray.empty]))] (F76_u8 n a0 a1 i2 i3 i5 i6 s7) (QB 0 (QT Try.prog D (n + 8) pc76_c32 (QF false pc76_r 0 F76_e))) := by
    unfold F76_u8
    refine SimL.succ ?_
    refine Sim.seq ?_
    refine Sim.region [(2, .one (.ptr 2 0)), (4, .one (.ptr 4 0)), (6, .one (.ptr 6 0)), (22, .agg (A4_Field.cells a1.F)), (23, .one (li .i64 1))] [(2, some (.cells (Thing.cells a0))), (4, some (.cells [li .i64 0, li .u8 0, li .i64 0, li .i64 0, li .i64 0, ls ByteArray.empty, li .i64 0, ls ByteArray.empty, li .i64 0, ls ByteArray.empty, li .i64 0, ls ByteArray.empty])), (6, some (.cells [li .i64 a1.ID, li .u8 i5, li .i64 i2, li .i64 i3, li .i64 i6, ls s7, li .i64 0, ls ByteArray.empty, li .i64 0, ls ByteArray.empty, li .i64 0, ls ByteArray.empty]))] (by kernel_rfl) ?_
    refine SimI.run 1 [(24, .one (lb true))] [] (by kernel_rfl) ?_
    refine SimI.done (by kernel_rfl) ?_
    refine SimE.thenN ?_
    refine Sim.seq ?_
    refine Sim.condT (by kernel_rfl) ?_
    refine Sim.skip ?_
    refine SimE.thenN ?_
    refine Sim.seq ?_
    refine Sim.block ?_
    refine Sim.seq ?_
    refine Sim.region0 ?_
    refine SimI.run 5 [(7, .one (li .i64 1)), (8, .one (.ptr 8 0)), (26, .agg [li .i64 a1.F.a1.N, ls a1.F.a1.Text]), (25, .one (li .i64 1))] [(8, some (.cells [li .i64 a1.F.a1.N, ls a1.F.a1.Text])), (8, some (.cells [li .i64 0, ls ByteArray.empty]))] (by kernel_rfl) ?_
    refine SimI.done (by kernel_rfl) ?_
    refine SimE.thenN ?_
    refine Sim.seq ?_
    refine Sim.region0 ?_
    refine SimI.run 5 [(31, .agg [li .i64 a1.F.a1.N, ls a1.F.a1.Text]), (30, .agg [li .i64 a0.F.a1.N, ls a0.F.a1.Text]), (29, .one (.ptr 2 5)), (28, .one (.ptr 2 3)), (27, .one (li .i64 1))] [] (by kernel_rfl) ?_
    refine SimI.step { dst := some 32, op := POp.prim (Prim.bin BinOp.neq 25 false false) [Operand.tmp 30, Operand.tmp 31], guard := none, hints := [(30, Hint.imm), (31, Hint.imm)] } [(32, .one (lb (!(Field.eqb a0.F.a1 a1.F.a1))))] [] (by kernel_rfl) (pOp_eff (by kernel_rfl) (by kernel_rfl) (eff_prim (by kernel_rfl) (Field_eqn a0.F.a1 a1.F.a1 _ _))) ?_
    refine SimI.done (by kernel_rfl) ?_
    refine SimE.thenN ?_
    refine Sim.cond (!(Field.eqb a0.F.a1 a1.F.a1)) (by kernel_rfl) ?_ ?_
    · refine Sim.seq ?_
      refine Sim.region0 ?_
      refine SimI.run 7 [(38, .one (.ptr 6 1)), (37, .one (li .u8 (bitsI .or .u8 i5 (shlI .u8 2 1)))), (36, .one (li .u8 (shlI .u8 2 1))), (35, .one (li .i64 1)), (34, .one (li .u8 i5)), (33, .one (.ptr 6 1))] [(6, some (.cells [li .i64 a1.ID, li .u8 (bitsI .or .u8 i5 (shlI .u8 2 1)), li .i64 i2, li .i64 i3, li .i64 i6, ls s7, li .i64 0, ls ByteArray.empty, li .i64 0, ls ByteArray.empty, li .i64 0, ls ByteArray.empty]))] (by kernel_rfl) ?_
      refine SimI.done (by kernel_rfl) ?_
      refine SimE.thenN ?_
      refine Sim.region0 ?_
      refine SimI.run 5 [(42, .one (.ptr 6 6)), (41, .one (.ptr 6 4)), (40, .agg [li .i64 a1.F.a1.N, ls a1.F.a1.Text]), (39, .one (li .i64 1))] [(6, some (.cells [li .i64 a1.ID, li .u8 (bitsI .or .u8 i5 (shlI .u8 2 1)), li .i64 i2, li .i64 i3, li .i64 i6, ls s7, li .i64 a1.F.a1.N, ls a1.F.a1.Text, li .i64 0, ls ByteArray.empty, li .i64 0, ls ByteArray.empty]))] (by kernel_rfl) ?_
      refine SimI.done (by kernel_rfl) ?_
      refine SimE.blockN ?_
      refine SimE.thenN ?_
      refine Sim.region0 ?_
      refine SimI.run 2 [(23, .one (li .i64 2)), (43, .one (li .i64 2))] [] (by kernel_rfl) ?_
      refine SimI.done (by kernel_rfl) ?_
      refine SimE.loopN ?_
      refine SimL.pre (ts := [2, 4, 6, 22, 23]) (os := [2, 3, 4, 6, 8]) (ow := []) [(2, .one (.ptr 2 0)), (4, .one (.ptr 4 0)), (6, .one (.ptr 6 0)), (22, .agg (A4_Field.cells a1.F)), (23, .one (li .i64 2))] [(2, some (.cells (Thing.cells a0))), (4, some (.cells [li .i64 0, li .u8 0, li .i64 0, li .i64 0, li .i64 0, ls ByteArray.empty, li .i64 0, ls ByteArray.empty, li .i64 0, ls ByteArray.empty, li .i64 0, ls ByteArray.empty])), (6, some (.cells [li .i64 a1.ID, li .u8 (bitsI .or .u8 i5 (shlI .u8 2 1)), li .i64 i2, li .i64 i3, li .i64 i6, ls s7, li .i64 a1.F.a1.N, ls a1.F.a1.Text, li .i64 0, ls ByteArray.empty, li .i64 0, ls ByteArray.empty]))] (by kernel_rfl) (by kernel_rfl) (by kernel_rfl) ?_
      exact F76_u12_ok n a0 a1 i2 i3 i6 s7 (bitsI .or .u8 i5 (shlI .u8 2 1)) a1.F.a1.N a1.F.a1.Text
    · refine Sim.skip ?_
      refine SimE.blockN ?_
      refine SimE.thenN ?_
      refine Sim.region0 ?_
      refine SimI.run 2 [(23, .one (li .i64 2)), (43, .one (li .i64 2))] [] (by kernel_rfl) ?_
      refine SimI.done (by kernel_rfl) ?_
      refine SimE.loopN ?_
      refine SimL.pre (ts := [2, 4, 6, 22, 23]) (os := [2, 3, 4, 6, 8]) (ow := []) [(2, .one (.ptr 2 0)), (4, .one (.ptr 4 0)), (6, .one (.ptr 6 0)), (22, .agg (A4_Field.cells a1.F)), (23, .one (li .i64 2))] [(2, some (.cells (Thing.cells a0))), (4, some (.cells [li .i64 0, li .u8 0, li .i64 0, li .i64 0, li .i64 0, ls ByteArray.empty, li .i64 0, ls ByteArray.empty, li .i64 0, ls ByteArray.empty, li .i64 0, ls ByteArray.empty])), (6, some (.cells [li .i64 a1.ID, li .u8 i5, li .i64 i2, li .i64 i3, li .i64 i6, ls s7, li .i64 0, ls ByteArray.empty, li .i64 0, ls ByteArray.empty, li .i64 0, ls ByteArray.empty]))] (by kernel_rfl) (by kernel_rfl) (by kernel_rfl) ?_
      exact F76_u12_ok n a0 a1 i2 i3 i6 s7 i5 0 ByteArray.empty

def F76_j4 (n : Nat) (a0 : Thing) (a1 : Thing) (i1 : Int) (i2 : Int) (i3 : Int) : Option (Delta × Bool) :=
    if !(Field.eqb a0.F.a0 a1.F.a0) then
      F76_u8 n a0 a1 i2 i3 (bitsI .or .u8 i1 (shlI .u8 2 0)) a1.F.a0.N a1.F.a0.Text
    else
      F76_u8 n a0 a1 i2 i3 i1 0 ByteArray.empty
theorem F76_j4_ok (n : Nat) (a0 : Thing) (a1 : Thing) (i1 : Int) (i2 : Int) (i3 : Int) : Sim Try.prog D (n + 8) pc76_c33 [(2, .one (.ptr 2 0)), (3, .one (.ptr 3 0)), (4, .one (.ptr 4 0)), (6, .one (.ptr 6 0))] [(2, some (.cells (Thing.cells a0))), (3, some (.cells (Thing.cells a1))), (4, some (.cells [li .i64 0, li .u8 0, li .i64 0, li .i64 0, li .i64 0, ls ByteArray.empty, li .i64 0, ls ByteArray.empty, li .i64 0, ls ByteArray.empty, li .i64 0, ls ByteArray.empty])), (6, some (.cells [li .i64 a1.ID, li .u8 i1, li .i64 i2, li .i64 i3, li .i64 0, ls ByteArray.empty, li .i64 0, ls ByteArray.empty, li .i64 0, ls ByteArray.empty, li .i64 0, ls ByteArray.empty]))] (F76_j4 n a0 a1 i1 i2 i3) (QF false pc76_r 0 F76_e) := by
    unfold F76_j4
    refine Sim.seq ?_
    refine Sim.seq ?_
    refine Sim.region [(2, .one (.ptr 2 0)), (3, .one (.ptr 3 0)), (4, .one (.ptr 4 0)), (6, .one (.ptr 6 0))] [(2, some (.cells (Thing.cells a0))), (3, some (.cells (Thing.cells a1))), (4, some (.cells [li .i64 0, li .u8 0, li .i64 0, li .i64 0, li .i64 0, ls ByteArray.empty, li .i64 0, ls ByteArray.empty, li .i64 0, ls ByteArray.empty, li .i64 0, ls ByteArray.empty])), (6, some (.cells [li .i64 a1.ID, li .u8 i1, li .i64 i2, li .i64 i3, li .i64 0, ls ByteArray.empty, li .i64 0, ls ByteArray.empty, li .i64 0, ls ByteArray.empty, li .i64 0, ls ByteArray.empty]))] (by kernel_rfl) ?_
    refine SimI.run 3 [(23, .one (li .i64 0)), (22, .agg (A4_Field.cells a1.F)), (21, .one (.ptr 3 3))] [] (by kernel_rfl) ?_
    refine SimI.done (by kernel_rfl) ?_
    refine SimE.thenN ?_
    refine Sim.block ?_
    refine Sim.loop ?_
    refine SimL.succ ?_
    refine Sim.seq ?_
    refine Sim.region [(2, .one (.ptr 2 0)), (4, .one (.ptr 4 0)), (6, .one (.ptr 6 0)), (22, .agg (A4_Field.cells a1.F)), (23, .one (li .i64 0))] [(2, some (.cells (Thing.cells a0))), (4, some (.cells [li .i64 0, li .u8 0, li .i64 0, li .i64 0, li .i64 0, ls ByteArray.empty, li .i64 0, ls ByteArray.empty, li .i64 0, ls ByteArray.empty, li .i64 0, ls ByteArray.empty])), (6, some (.cells [li .i64 a1.ID, li .u8 i1, li .i64 i2, li .i64 i3, li .i64 0, ls ByteArray.empty, li .i64 0, ls ByteArray.empty, li .i64 0, ls ByteArray.empty, li .i64 0, ls ByteArray.empty]))] (by kernel_rfl) ?_
    refine SimI.run 1 [(24, .one (lb true))] [] (by kernel_rfl) ?_
    refine SimI.done (by kernel_rfl) ?_
    refine SimE.thenN ?_
    refine Sim.seq ?_
    refine Sim.condT (by kernel_rfl) ?_
    refine Sim.skip ?_
    refine SimE.thenN ?_
    refine Sim.seq ?_
    refine Sim.block ?_
    refine Sim.seq ?_
    refine Sim.region0 ?_
    refine SimI.run 5 [(7, .one (li .i64 0)), (8, .one (.ptr 8 0)), (26, .agg [li .i64 a1.F.a0.N, ls a1.F.a0.Text]), (25, .one (li .i64 0))] [(8, some (.cells [li .i64 a1.F.a0.N, ls a1.F.a0.Text])), (8, some (.cells [li .i64 0, ls ByteArray.empty]))] (by kernel_rfl) ?_
    refine SimI.done (by kernel_rfl) ?_
    refine SimE.thenN ?_
    refine Sim.seq ?_
    refine Sim.region0 ?_
    refine SimI.run 5 [(31, .agg [li .i64 a1.F.a0.N, ls a1.F.a0.Text]), (30, .agg [li .i64 a0.F.a0.N, ls a0.F.a0.Text]), (29, .one (.ptr 2 3)), (28, .one (.ptr 2 3)), (27, .one (li .i64 0))] [] (by kernel_rfl) ?_
    refine SimI.step { dst := some 32, op := POp.prim (Prim.bin BinOp.neq 25 false false) [Operand.tmp 30, Operand.tmp 31], guard := none, hints := [(30, Hint.imm), (31, Hint.imm)] } [(32, .one (lb (!(Field.eqb a0.F.a0 a1.F.a0))))] [] (by kernel_rfl) (pOp_eff (by kernel_rfl) (by kernel_rfl) (eff_prim (by kernel_rfl) (Field_eqn a0.F.a0 a1.F.a0 _ _))) ?_
    refine SimI.done (by kernel_rfl) ?_
    refine SimE.thenN ?_
    refine Sim.cond (!(Field.eqb a0.F.a0 a1.F.a0)) (by kernel_rfl) ?_ ?_
    · refine Sim.seq ?_
      refine Sim.region0 ?_
      refine SimI.run 7 [(38, .one (.ptr 6 1)), (37, .one (li .u8 (bitsI .or .u8 i1 (shlI .u8 2 0)))), (36, .one (li .u8 (shlI .u8 2 0))), (35, .one (li .i64 0)), (34, .one (li .u8 i1)), (33, .one (.ptr 6 1))] [(6, some (.cells [li .i64 a1.ID, li .u8 (bitsI .or .u8 i1 (shlI .u8 2 0)), li .i64 i2, li .i64 i3, li .i64 0, ls ByteArray.empty, li .i64 0, ls ByteArray.empty, li .i64 0, ls ByteArray.empty, li .i64 0, ls ByteArray.empty]))] (by kernel_rfl) ?_
      refine SimI.done (by kernel_rfl) ?_
      refine SimE.thenN ?_
      refine Sim.region0 ?_
      refine SimI.run 5 [(42, .one (.ptr 6 4)), (41, .one (.ptr 6 4)), (40, .agg [li .i64 a1.F.a0.N, ls a1.F.a0.Text]), (39, .one (li .i64 0))] [(6, some (.cells [li .i64 a1.ID, li .u8 (bitsI .or .u8 i1 (shlI .u8 2 0)), li .i64 i2, li .i64 i3, li .i64 a1.F.a0.N, ls a1.F.a0.Text, li .i64 0, ls ByteArray.empty, li .i64 0, ls ByteArray.empty, li .i64 0, ls ByteArray.empty]))] (by kernel_rfl) ?_
      refine SimI.done (by kernel_rfl) ?_
      refine SimE.blockN ?_
      refine SimE.thenN ?_
      refine Sim.region0 ?_
      refine SimI.run 2 [(23, .one (li .i64 1)), (43, .one (li .i64 1))] [] (by kernel_rfl) ?_
      refine SimI.done (by kernel_rfl) ?_
      refine SimE.loopN ?_
      refine SimL.pre (ts := [2, 4, 6, 22, 23]) (os := [2, 3, 4, 6, 8]) (ow := []) [(2, .one (.ptr 2 0)), (4, .one (.ptr 4 0)), (6, .one (.ptr 6 0)), (22, .agg (A4_Field.cells a1.F)), (23, .one (li .i64 1))] [(2, some (.cells (Thing.cells a0))), (4, some (.cells [li .i64 0, li .u8 0, li .i64 0, li .i64 0, li .i64 0, ls ByteArray.empty, li .i64 0, ls ByteArray.empty, li .i64 0, ls ByteArray.empty, li .i64 0, ls ByteArray.empty])), (6, some (.cells [li .i64 a1.ID, li .u8 (bitsI .or .u8 i1 (shlI .u8 2 0)), li .i64 i2, li .i64 i3, li .i64 a1.F.a0.N, ls a1.F.a0.Text, li .i64 0, ls ByteArray.empty, li .i64 0, ls ByteArray.empty, li .i64 0, ls ByteArray.empty]))] (by kernel_rfl) (by kernel_rfl) (by kernel_rfl) ?_
      exact F76_u8_ok n a0 a1 i2 i3 (bitsI .or .u8 i1 (shlI .u8 2 0)) a1.F.a0.N a1.F.a0.Text
    · refine Sim.skip ?_
      refine SimE.blockN ?_
      refine SimE.thenN ?_
      refine Sim.region0 ?_
      refine SimI.run 2 [(23, .one (li .i64 1)), (43, .one (li .i64 1))] [] (by kernel_rfl) ?_
      refine SimI.done (by kernel_rfl) ?_
      refine SimE.loopN ?_
      refine SimL.pre (ts := [2, 4, 6, 22, 23]) (os := [2, 3, 4, 6, 8]) (ow := []) [(2, .one (.ptr 2 0)), (4, .one (.ptr 4 0)), (6, .one (.ptr 6 0)), (22, .agg (A4_Field.cells a1.F)), (23, .one (li .i64 1))] [(2, some (.cells (Thing.cells a0))), (4, some (.cells [li .i64 0, li .u8 0, li .i64 0, li .i64 0, li .i64 0, ls ByteArray.empty, li .i64 0, ls ByteArray.empty, li .i64 0, ls ByteArray.empty, li .i64 0, ls ByteArray.empty])), (6, some (.cells [li .i64 a1.ID, li .u8 i1, li .i64 i2, li .i64 i3, li .i64 0, ls ByteArray.empty, li .i64 0, ls ByteArray.empty, li .i64 0, ls ByteArray.empty, li .i64 0, ls ByteArray.empty]))] (by kernel_rfl) (by kernel_rfl) (by kernel_rfl) ?_
      exact F76_u8_ok n a0 a1 i2 i3 i1 0 ByteArray.empty

def F76 (n : Nat) (a0 : Thing) (a1 : Thing) : Option (Delta × Bool) :=
  if !(Point.eqb a0.At a1.At) then
    F76_j4 n a0 a1 1 a1.At.X a1.At.Y
  else
    F76_j4 n a0 a1 0 0 0
theorem F76_ok (n : Nat) (a0 : Thing) (a1 : Thing) : ∀ r, F76 n a0 a1 = some r → D 76 [.agg (Thing.cells a0), .agg (Thing.cells a1)] [] = some (F76_e r) := by
  refine fn_to (D := D) (n := n + 8) (nt := 48) (rs := pc76_r) (c := pc76_c36) (L := [(0, .agg (Thing.cells a0)), (1, .agg (Thing.cells a1))]) (M := []) (k := 0) rfl rfl rfl rfl rfl rfl rfl ?_
  unfold F76
  refine Sim.seq ?_
  refine Sim.region0 ?_
  refine SimI.run 4 [(5, .one (lb false)), (4, .one (.ptr 4 0)), (3, .one (.ptr 3 0)), (2, .one (.ptr 2 0))] [(4, some (.cells [li .i64 0, li .u8 0, li .i64 0, li .i64 0, li .i64 0, ls ByteArray.empty, li .i64 0, ls ByteArray.empty, li .i64 0, ls ByteArray.empty, li .i64 0, ls ByteArray.empty])), (3, some (.cells (Thing.cells a1))), (2, some (.cells (Thing.cells a0)))] (by kernel_rfl) ?_
  refine SimI.done (by kernel_rfl) ?_
  refine SimE.thenN ?_
  refine Sim.seq ?_
  refine Sim.region0 ?_
  refine SimI.run 5 [(6, .one (.ptr 6 0)), (11, .agg [li .i64 a1.ID, li .u8 0, li .i64 0, li .i64 0, li .i64 0, ls ByteArray.empty, li .i64 0, ls ByteArray.empty, li .i64 0, ls ByteArray.empty, li .i64 0, ls ByteArray.empty]), (10, .one (li .i64 a1.ID)), (9, .one (.ptr 3 0))] [(6, some (.cells [li .i64 a1.ID, li .u8 0, li .i64 0, li .i64 0, li .i64 0, ls ByteArray.empty, li .i64 0, ls ByteArray.empty, li .i64 0, ls ByteArray.empty, li .i64 0, ls ByteArray.empty])), (6, some (.cells [li .i64 0, li .u8 0, li .i64 0, li .i64 0, li .i64 0, ls ByteArray.empty, li .i64 0, ls ByteArray.empty, li .i64 0, ls ByteArray.empty, li .i64 0, ls ByteArray.empty]))] (by kernel_rfl) ?_
  refine SimI.done (by kernel_rfl) ?_
  refine SimE.thenN ?_
  refine Sim.seq ?_
  refine Sim.seq ?_
  refine Sim.region0 ?_
  refine SimI.run 4 [(15, .agg [li .i64 a1.At.X, li .i64 a1.At.Y]), (14, .one (.ptr 3 1)), (13, .agg [li .i64 a0.At.X, li .i64 a0.At.Y]), (12, .one (.ptr 2 1))] [] (by kernel_rfl) ?_
  refine SimI.step { dst := some 16, op := POp.prim (Prim.bin BinOp.neq 23 false false) [Operand.tmp 13, Operand.tmp 15], guard := none, hints := [] } [(16, .one (lb (!(Point.eqb a0.At a1.At))))] [] (by kernel_rfl) (pOp_eff (by kernel_rfl) (by kernel_rfl) (eff_prim (by kernel_rfl) (Point_eqn a0.At a1.At _ _))) ?_
  refine SimI.done (by kernel_rfl) ?_
  refine SimE.thenN ?_
  refine Sim.cond (!(Point.eqb a0.At a1.At)) (by kernel_rfl) ?_ ?_
  · refine Sim.region0 ?_
    refine SimI.run 6 [(20, .one (.ptr 6 2)), (19, .one (.ptr 6 1)), (18, .agg [li .i64 a1.At.X, li .i64 a1.At.Y]), (17, .one (.ptr 3 1))] [(6, some (.cells [li .i64 a1.ID, li .u8 1, li .i64 a1.At.X, li .i64 a1.At.Y, li .i64 0, ls ByteArray.empty, li .i64 0, ls ByteArray.empty, li .i64 0, ls ByteArray.empty, li .i64 0, ls ByteArray.empty])), (6, some (.cells [li .i64 a1.ID, li .u8 1, li .i64 0, li .i64 0, li .i64 0, ls ByteArray.empty, li .i64 0, ls ByteArray.empty, li .i64 0, ls ByteArray.empty, li .i64 0, ls ByteArray.empty]))] (by kernel_rfl) ?_
    refine SimI.done (by kernel_rfl) ?_
    refine SimE.thenN ?_
    refine Sim.pre (ts := [2, 3, 4, 6]) (os := [2, 3, 4, 6]) (ow := []) [(2, .one (.ptr 2 0)), (3, .one (.ptr 3 0)), (4, .one (.ptr 4 0)), (6, .one (.ptr 6 0))] [(2, some (.cells (Thing.cells a0))), (3, some (.cells (Thing.cells a1))), (4, some (.cells [li .i64 0, li .u8 0, li .i64 0, li .i64 0, li .i64 0, ls ByteArray.empty, li .i64 0, ls ByteArray.empty, li .i64 0, ls ByteArray.empty, li .i64 0, ls ByteArray.empty])), (6, some (.cells [li .i64 a1.ID, li .u8 1, li .i64 a1.At.X, li .i64 a1.At.Y, li .i64 0, ls ByteArray.empty, li .i64 0, ls ByteArray.empty, li .i64 0, ls ByteArray.empty, li .i64 0, ls ByteArray.empty]))] (by kernel_rfl) (by kernel_rfl) (by kernel_rfl) ?_
    exact F76_j4_ok n a0 a1 1 a1.At.X a1.At.Y
  · refine Sim.skip ?_
    refine SimE.thenN ?_
    refine Sim.pre (ts := [2, 3, 4, 6]) (os := [2, 3, 4, 6]) (ow := []) [(2, .one (.ptr 2 0)), (3, .one (.ptr 3 0)), (4, .one (.ptr 4 0)), (6, .one (.ptr 6 0))] [(2, some (.cells (Thing.cells a0))), (3, some (.cells (Thing.cells a1))), (4, some (.cells [li .i64 0, li .u8 0, li .i64 0, li .i64 0, li .i64 0, ls ByteArray.empty, li .i64 0, ls ByteArray.empty, li .i64 0, ls ByteArray.empty, li .i64 0, ls ByteArray.empty])), (6, some (.cells [li .i64 a1.ID, li .u8 0, li .i64 0, li .i64 0, li .i64 0, ls ByteArray.empty, li .i64 0, ls ByteArray.empty, li .i64 0, ls ByteArray.empty, li .i64 0, ls ByteArray.empty]))] (by kernel_rfl) (by kernel_rfl) (by kernel_rfl) ?_
    exact F76_j4_ok n a0 a1 0 0 0


-- 88: vedette/fields.Apply
def F88_e : Thing → PV × List Ob := fun r => (.agg (Thing.cells r), [])
def F88_u14 (n : Nat) (g13 : Thing) : Option Thing :=
    some g13
theorem F88_u14_ok (n : Nat) (a1 : Delta) (g13 : Thing) : SimL Try.prog D (n + 8) (n + 4) pc88_c23 [(2, .one (.ptr 2 0)), (3, .one (.ptr 3 0)), (4, .one (.ptr 4 0)), (15, .agg (A4_Field.cells a1.F)), (16, .one (li .i64 4))] [(2, some (.cells (Thing.cells g13))), (3, some (.cells (Delta.cells a1))), (4, some (.cells [li .i64 0, li .i64 0, li .i64 0, li .i64 0, ls ByteArray.empty, li .i64 0, ls ByteArray.empty, li .i64 0, ls ByteArray.empty, li .i64 0, ls ByteArray.empty]))] (F88_u14 n g13) (QB 0 (QT Try.prog D (n + 8) pc88_c29 (QF false pc88_r 0 F88_e))) := by
    unfold F88_u14
    refine SimL.succ ?_
    refine Sim.seq ?_
    refine Sim.region [(2, .one (.ptr 2 0)), (3, .one (.ptr 3 0)), (4, .one (.ptr 4 0)), (15, .agg (A4_Field.cells a1.F)), (16, .one (li .i64 4))] [(2, some (.cells (Thing.cells g13))), (3, some (.cells (Delta.cells a1))), (4, some (.cells [li .i64 0, li .i64 0, li .i64 0, li .i64 0, ls ByteArray.empty, li .i64 0, ls ByteArray.empty, li .i64 0, ls ByteArray.empty, li .i64 0, ls ByteArray.empty]))] (by kernel_rfl) ?_
    refine SimI.run 1 [(17, .one (lb false))] [] (by kernel_rfl) ?_
    refine SimI.done (by kernel_rfl) ?_
    refine SimE.thenN ?_
    refine Sim.seq ?_
    refine Sim.condF (by kernel_rfl) ?_
    refine Sim.exit ?_
    refine SimE.thenX ?_
    refine SimE.loopX ?_
    refine SimE.blockX ?_
    refine SimE.thenN ?_
    refine Sim.seq ?_
    refine Sim.region0 ?_
    refine SimI.run 2 [(29, .agg (Thing.cells g13))] [(4, some (.cells (Thing.cells g13)))] (by kernel_rfl) ?_
    refine SimI.done (by kernel_rfl) ?_
    refine SimE.thenN ?_
    refine Sim.ret ?_
    exact SimE.fin (by kernel_rfl)

def F88_u11 (n : Nat) (a0 : Thing) (a1 : Delta) (g10 : Thing) : Option Thing :=
    (F99 n a1.Mask 3).bind fun (r12 : Bool) =>
    if r12 then
      F88_u14 n (Thing.mk g10.ID g10.At (A4.mk g10.F.a0 g10.F.a1 g10.F.a2 a1.F.a3))
    else
      F88_u14 n g10
theorem F88_u11_ok (n : Nat) (a0 : Thing) (a1 : Delta) (g10 : Thing) : SimL Try.prog D (n + 8) (n + 5) pc88_c23 [(2, .one (.ptr 2 0)), (3, .one (.ptr 3 0)), (4, .one (.ptr 4 0)), (15, .agg (A4_Field.cells a1.F)), (16, .one (li .i64 3))] [(2, some (.cells (Thing.cells g10))), (3, some (.cells (Delta.cells a1))), (4, some (.cells [li .i64 0, li .i64 0, li .i64 0, li .i64 0, ls ByteArray.empty, li .i64 0, ls ByteArray.empty, li .i64 0, ls ByteArray.empty, li .i64 0, ls ByteArray.empty]))] (F88_u11 n a0 a1 g10) (QB 0 (QT Try.prog D (n + 8) pc88_c29 (QF false pc88_r 0 F88_e))) := by
    unfold F88_u11
    refine SimL.succ ?_
    refine Sim.seq ?_
    refine Sim.region [(2, .one (.ptr 2 0)), (3, .one (.ptr 3 0)), (4, .one (.ptr 4 0)), (15, .agg (A4_Field.cells a1.F)), (16, .one (li .i64 3))] [(2, some (.cells (Thing.cells g10))), (3, some (.cells (Delta.cells a1))), (4, some (.cells [li .i64 0, li .i64 0, li .i64 0, li .i64 0, ls ByteArray.empty, li .i64 0, ls ByteArray.empty, li .i64 0, ls ByteArray.empty, li .i64 0, ls ByteArray.empty]))] (by kernel_rfl) ?_
    refine SimI.run 1 [(17, .one (lb true))] [] (by kernel_rfl) ?_
    refine SimI.done (by kernel_rfl) ?_
    refine SimE.thenN ?_
    refine Sim.seq ?_
    refine Sim.condT (by kernel_rfl) ?_
    refine Sim.skip ?_
    refine SimE.thenN ?_
    refine Sim.seq ?_
    refine Sim.block ?_
    refine Sim.seq ?_
    refine Sim.region0 ?_
    refine SimI.run 5 [(5, .one (li .i64 3)), (6, .one (.ptr 6 0)), (19, .agg [li .i64 a1.F.a3.N, ls a1.F.a3.Text]), (18, .one (li .i64 3))] [(6, some (.cells [li .i64 a1.F.a3.N, ls a1.F.a3.Text])), (6, some (.cells [li .i64 0, ls ByteArray.empty]))] (by kernel_rfl) ?_
    refine SimI.done (by kernel_rfl) ?_
    refine SimE.thenN ?_
    refine Sim.seq ?_
    refine Sim.region0 ?_
    refine SimI.run 3 [(22, .one (li .i64 3)), (21, .one (li .u8 a1.Mask)), (20, .one (.ptr 3 1))] [] (by kernel_rfl) ?_
    refine SimI.bind (og := F99 n a1.Mask 3) { dst := some 23, op := POp.call true [[], []] 99 [Operand.tmp 21, Operand.tmp 22], guard := none, hints := [] } (fun r12 => [(23, .one (lb r12))]) (fun r12 => []) (by kernel_rfl) (fun r12 hr => pOp_eff (by kernel_rfl) (by kernel_rfl) (eff_call (ARGS := [.one (li .u8 a1.Mask), .one (li .i64 3)]) (by kernel_rfl) (args_clean (by kernel_rfl) (args_clean (by kernel_rfl) args_nil)) (F99_ok n a1.Mask 3 r12 hr) (by kernel_rfl))) (fun r12 => ?_)
    refine SimI.done (by kernel_rfl) ?_
    refine SimE.thenN ?_
    refine Sim.cond r12 (by kernel_rfl) ?_ ?_
    · refine Sim.region0 ?_
      refine SimI.run 5 [(27, .one (.ptr 2 9)), (26, .one (.ptr 2 3)), (25, .agg [li .i64 a1.F.a3.N, ls a1.F.a3.Text]), (24, .one (li .i64 3))] [(2, some (.cells [li .i64 g10.ID, li .i64 g10.At.X, li .i64 g10.At.Y, li .i64 g10.F.a0.N, ls g10.F.a0.Text, li .i64 g10.F.a1.N, ls g10.F.a1.Text, li .i64 g10.F.a2.N, ls g10.F.a2.Text, li .i64 a1.F.a3.N, ls a1.F.a3.Text]))] (by kernel_rfl) ?_
      refine SimI.done (by kernel_rfl) ?_
      refine SimE.blockN ?_
      refine SimE.thenN ?_
      refine Sim.region0 ?_
      refine SimI.run 2 [(16, .one (li .i64 4)), (28, .one (li .i64 4))] [] (by kernel_rfl) ?_
      refine SimI.done (by kernel_rfl) ?_
      refine SimE.loopN ?_
      refine SimL.pre (ts := [2, 3, 4, 15, 16]) (os := [2, 3, 4, 6]) (ow := []) [(2, .one (.ptr 2 0)), (3, .one (.ptr 3 0)), (4, .one (.ptr 4 0)), (15, .agg (A4_Field.cells a1.F)), (16, .one (li .i64 4))] [(2, some (.cells [li .i64 g10.ID, li .i64 g10.At.X, li .i64 g10.At.Y, li .i64 g10.F.a0.N, ls g10.F.a0.Text, li .i64 g10.F.a1.N, ls g10.F.a1.Text, li .i64 g10.F.a2.N, ls g10.F.a2.Text, li .i64 a1.F.a3.N, ls a1.F.a3.Text])), (3, some (.cells (Delta.cells a1))), (4, some (.cells [li .i64 0, li .i64 0, li .i64 0, li .i64 0, ls ByteArray.empty, li .i64 0, ls ByteArray.empty, li .i64 0, ls ByteArray.empty, li .i64 0, ls ByteArray.empty]))] (by kernel_rfl) (by kernel_rfl) (by kernel_rfl) ?_
      exact F88_u14_ok n a1 (Thing.mk g10.ID g10.At (A4.mk g10.F.a0 g10.F.a1 g10.F.a2 a1.F.a3))
    · refine Sim.skip ?_
      refine SimE.blockN ?_
      refine SimE.thenN ?_
      refine Sim.region0 ?_
      refine SimI.run 2 [(16, .one (li .i64 4)), (28, .one (li .i64 4))] [] (by kernel_rfl) ?_
      refine SimI.done (by kernel_rfl) ?_
      refine SimE.loopN ?_
      refine SimL.pre (ts := [2, 3, 4, 15, 16]) (os := [2, 3, 4, 6]) (ow := []) [(2, .one (.ptr 2 0)), (3, .one (.ptr 3 0)), (4, .one (.ptr 4 0)), (15, .agg (A4_Field.cells a1.F)), (16, .one (li .i64 4))] [(2, some (.cells (Thing.cells g10))), (3, some (.cells (Delta.cells a1))), (4, some (.cells [li .i64 0, li .i64 0, li .i64 0, li .i64 0, ls ByteArray.empty, li .i64 0, ls ByteArray.empty, li .i64 0, ls ByteArray.empty, li .i64 0, ls ByteArray.empty]))] (by kernel_rfl) (by kernel_rfl) (by kernel_rfl) ?_
      exact F88_u14_ok n a1 g10

def F88_u8 (n : Nat) (a0 : Thing) (a1 : Delta) (g7 : Thing) : Option Thing :=
    (F99 n a1.Mask 2).bind fun (r9 : Bool) =>
    if r9 then
      F88_u11 n a0 a1 (Thing.mk g7.ID g7.At (A4.mk g7.F.a0 g7.F.a1 a1.F.a2 g7.F.a3))
    else
      F88_u11 n a0 a1 g7
theorem F88_u8_ok (n : Nat) (a0 : Thing) (a1 : Delta) (g7 : Thing) : SimL Try.prog D (n + 8) (n + 6) pc88_c23 [(2, .one (.ptr 2 0)), (3, .one (.ptr 3 0)), (4, .one (.ptr 4 0)), (15, .agg (A4_Field.cells a1.F)), (16, .one (li .i64 2))] [(2, some (.cells (Thing.cells g7))), (3, some (.cells (Delta.cells a1))), (4, some (.cells [li .i64 0, li .i64 0, li .i64 0, li .i64 0, ls ByteArray.empty, li .i64 0, ls ByteArray.empty, li .i64 0, ls ByteArray.empty, li .i64 0, ls ByteArray.empty]))] (F88_u8 n a0 a1 g7) (QB 0 (QT Try.prog D (n + 8) pc88_c29 (QF false pc88_r 0 F88_e))) := by
    unfold F88_u8
    refine SimL.succ ?_
    refine Sim.seq ?_
    refine Sim.region [(2, .one (.ptr 2 0)), (3, .one (.ptr 3 0)), (4, .one (.ptr 4 0)), (15, .agg (A4_Field.cells a1.F)), (16, .one (li .i64 2))] [(2, some (.cells (Thing.cells g7))), (3, some (.cells (Delta.cells a1))), (4, some (.cells [li .i64 0, li .i64 0, li .i64 0, li .i64 0, ls ByteArray.empty, li .i64 0, ls ByteArray.empty, li .i64 0, ls ByteArray.empty, li .i64 0, ls ByteArray.empty]))] (by kernel_rfl) ?_
    refine SimI.run 1 [(17, .one (lb true))] [] (by kernel_rfl) ?_
    refine SimI.done (by kernel_rfl) ?_
    refine SimE.thenN ?_
    refine Sim.seq ?_
    refine Sim.condT (by kernel_rfl) ?_
    refine Sim.skip ?_
    refine SimE.thenN ?_
    refine Sim.seq ?_
    refine Sim.block ?_
    refine Sim.seq ?_
    refine Sim.region0 ?_
    refine SimI.run 5 [(5, .one (li .i64 2)), (6, .one (.ptr 6 0)), (19, .agg [li .i64 a1.F.a2.N, ls a1.F.a2.Text]), (18, .one (li .i64 2))] [(6, some (.cells [li .i64 a1.F.a2.N, ls a1.F.a2.Text])), (6, some (.cells [li .i64 0, ls ByteArray.empty]))] (by kernel_rfl) ?_
    refine SimI.done (by kernel_rfl) ?_
    refine SimE.thenN ?_
    refine Sim.seq ?_
    refine Sim.region0 ?_
    refine SimI.run 3 [(22, .one (li .i64 2)), (21, .one (li .u8 a1.Mask)), (20, .one (.ptr 3 1))] [] (by kernel_rfl) ?_
    refine SimI.bind (og := F99 n a1.Mask 2) { dst := some 23, op := POp.call true [[], []] 99 [Operand.tmp 21, Operand.tmp 22], guard := none, hints := [] } (fun r9 => [(23, .one (lb r9))]) (fun r9 => []) (by kernel_rfl) (fun r9 hr => pOp_eff (by kernel_rfl) (by kernel_rfl) (eff_call (ARGS := [.one (li .u8 a1.Mask), .one (li .i64 2)]) (by kernel_rfl) (args_clean (by kernel_rfl) (args_clean (by kernel_rfl) args_nil)) (F99_ok n a1.Mask 2 r9 hr) (by kernel_rfl))) (fun r9 => ?_)
    refine SimI.done (by kernel_rfl) ?_
    refine SimE.thenN ?_
    refine Sim.cond r9 (by kernel_rfl) ?_ ?_
    · refine Sim.region0 ?_
      refine SimI.run 5 [(27, .one (.ptr 2 7)), (26, .one (.ptr 2 3)), (25, .agg [li .i64 a1.F.a2.N, ls a1.F.a2.Text]), (24, .one (li .i64 2))] [(2, some (.cells [li .i64 g7.ID, li .i64 g7.At.X, li .i64 g7.At.Y, li .i64 g7.F.a0.N, ls g7.F.a0.Text, li .i64 g7.F.a1.N, ls g7.F.a1.Text, li .i64 a1.F.a2.N, ls a1.F.a2.Text, li .i64 g7.F.a3.N, ls g7.F.a3.Text]))] (by kernel_rfl) ?_
      refine SimI.done (by kernel_rfl) ?_
      refine SimE.blockN ?_
      refine SimE.thenN ?_
      refine Sim.region0 ?_
      refine SimI.run 2 [(16, .one (li .i64 3)), (28, .one (li .i64 3))] [] (by kernel_rfl) ?_
      refine SimI.done (by kernel_rfl) ?_
      refine SimE.loopN ?_
      refine SimL.pre (ts := [2, 3, 4, 15, 16]) (os := [2, 3, 4, 6]) (ow := []) [(2, .one (.ptr 2 0)), (3, .one (.ptr 3 0)), (4, .one (.ptr 4 0)), (15, .agg (A4_Field.cells a1.F)), (16, .one (li .i64 3))] [(2, some (.cells [li .i64 g7.ID, li .i64 g7.At.X, li .i64 g7.At.Y, li .i64 g7.F.a0.N, ls g7.F.a0.Text, li .i64 g7.F.a1.N, ls g7.F.a1.Text, li .i64 a1.F.a2.N, ls a1.F.a2.Text, li .i64 g7.F.a3.N, ls g7.F.a3.Text])), (3, some (.cells (Delta.cells a1))), (4, some (.cells [li .i64 0, li .i64 0, li .i64 0, li .i64 0, ls ByteArray.empty, li .i64 0, ls ByteArray.empty, li .i64 0, ls ByteArray.empty, li .i64 0, ls ByteArray.empty]))] (by kernel_rfl) (by kernel_rfl) (by kernel_rfl) ?_
      exact F88_u11_ok n a0 a1 (Thing.mk g7.ID g7.At (A4.mk g7.F.a0 g7.F.a1 a1.F.a2 g7.F.a3))
    · refine Sim.skip ?_
      refine SimE.blockN ?_
      refine SimE.thenN ?_
      refine Sim.region0 ?_
      refine SimI.run 2 [(16, .one (li .i64 3)), (28, .one (li .i64 3))] [] (by kernel_rfl) ?_
      refine SimI.done (by kernel_rfl) ?_
      refine SimE.loopN ?_
      refine SimL.pre (ts := [2, 3, 4, 15, 16]) (os := [2, 3, 4, 6]) (ow := []) [(2, .one (.ptr 2 0)), (3, .one (.ptr 3 0)), (4, .one (.ptr 4 0)), (15, .agg (A4_Field.cells a1.F)), (16, .one (li .i64 3))] [(2, some (.cells (Thing.cells g7))), (3, some (.cells (Delta.cells a1))), (4, some (.cells [li .i64 0, li .i64 0, li .i64 0, li .i64 0, ls ByteArray.empty, li .i64 0, ls ByteArray.empty, li .i64 0, ls ByteArray.empty, li .i64 0, ls ByteArray.empty]))] (by kernel_rfl) (by kernel_rfl) (by kernel_rfl) ?_
      exact F88_u11_ok n a0 a1 g7

def F88_u5 (n : Nat) (a0 : Thing) (a1 : Delta) (g4 : Thing) : Option Thing :=
    (F99 n a1.Mask 1).bind fun (r6 : Bool) =>
    if r6 then
      F88_u8 n a0 a1 (Thing.mk g4.ID g4.At (A4.mk g4.F.a0 a1.F.a1 g4.F.a2 g4.F.a3))
    else
      F88_u8 n a0 a1 g4
theorem F88_u5_ok (n : Nat) (a0 : Thing) (a1 : Delta) (g4 : Thing) : SimL Try.prog D (n + 8) (n + 7) pc88_c23 [(2, .one (.ptr 2 0)), (3, .one (.ptr 3 0)), (4, .one (.ptr 4 0)), (15, .agg (A4_Field.cells a1.F)), (16, .one (li .i64 1))] [(2, some (.cells (Thing.cells g4))), (3, some (.cells (Delta.cells a1))), (4, some (.cells [li .i64 0, li .i64 0, li .i64 0, li .i64 0, ls ByteArray.empty, li .i64 0, ls ByteArray.empty, li .i64 0, ls ByteArray.empty, li .i64 0, ls ByteArray.empty]))] (F88_u5 n a0 a1 g4) (QB 0 (QT Try.prog D (n + 8) pc88_c29 (QF false pc88_r 0 F88_e))) := by
    unfold F88_u5
    refine SimL.succ ?_
    refine Sim.seq ?_
    refine Sim.region [(2, .one (.ptr 2 0)), (3, .one (.ptr 3 0)), (4, .one (.ptr 4 0)), (15, .agg (A4_Field.cells a1.F)), (16, .one (li .i64 1))] [(2, some (.cells (Thing.cells g4))), (3, some (.cells (Delta.cells a1))), (4, some (.cells [li .i64 0, li .i64 0, li .i64 0, li .i64 0, ls ByteArray.empty, li .i64 0, ls ByteArray.empty, li .i64 0, ls ByteArray.empty, li .i64 0, ls ByteArray.empty]))] (by kernel_rfl) ?_
    refine SimI.run 1 [(17, .one (lb true))] [] (by kernel_rfl) ?_
    refine SimI.done (by kernel_rfl) ?_
    refine SimE.thenN ?_
    refine Sim.seq ?_
    refine Sim.condT (by kernel_rfl) ?_
    refine Sim.skip ?_
    refine SimE.thenN ?_
    refine Sim.seq ?_
    refine Sim.block ?_
    refine Sim.seq ?_
    refine Sim.region0 ?_
    refine SimI.run 5 [(5, .one (li .i64 1)), (6, .one (.ptr 6 0)), (19, .agg [li .i64 a1.F.a1.N, ls a1.F.a1.Text]), (18, .one (li .i64 1))] [(6, some (.cells [li .i64 a1.F.a1.N, ls a1.F.a1.Text])), (6, some (.cells [li .i64 0, ls ByteArray.empty]))] (by kernel_rfl) ?_
    refine SimI.done (by kernel_rfl) ?_
    refine SimE.thenN ?_
    refine Sim.seq ?_
    refine Sim.region0 ?_
    refine SimI.run 3 [(22, .one (li .i64 1)), (21, .one (li .u8 a1.Mask)), (20, .one (.ptr 3 1))] [] (by kernel_rfl) ?_
    refine SimI.bind (og := F99 n a1.Mask 1) { dst := some 23, op := POp.call true [[], []] 99 [Operand.tmp 21, Operand.tmp 22], guard := none, hints := [] } (fun r6 => [(23, .one (lb r6))]) (fun r6 => []) (by kernel_rfl) (fun r6 hr => pOp_eff (by kernel_rfl) (by kernel_rfl) (eff_call (ARGS := [.one (li .u8 a1.Mask), .one (li .i64 1)]) (by kernel_rfl) (args_clean (by kernel_rfl) (args_clean (by kernel_rfl) args_nil)) (F99_ok n a1.Mask 1 r6 hr) (by kernel_rfl))) (fun r6 => ?_)
    refine SimI.done (by kernel_rfl) ?_
    refine SimE.thenN ?_
    refine Sim.cond r6 (by kernel_rfl) ?_ ?_
    · refine Sim.region0 ?_
      refine SimI.run 5 [(27, .one (.ptr 2 5)), (26, .one (.ptr 2 3)), (25, .agg [li .i64 a1.F.a1.N, ls a1.F.a1.Text]), (24, .one (li .i64 1))] [(2, some (.cells [li .i64 g4.ID, li .i64 g4.At.X, li .i64 g4.At.Y, li .i64 g4.F.a0.N, ls g4.F.a0.Text, li .i64 a1.F.a1.N, ls a1.F.a1.Text, li .i64 g4.F.a2.N, ls g4.F.a2.Text, li .i64 g4.F.a3.N, ls g4.F.a3.Text]))] (by kernel_rfl) ?_
      refine SimI.done (by kernel_rfl) ?_
      refine SimE.blockN ?_
      refine SimE.thenN ?_
      refine Sim.region0 ?_
      refine SimI.run 2 [(16, .one (li .i64 2)), (28, .one (li .i64 2))] [] (by kernel_rfl) ?_
      refine SimI.done (by kernel_rfl) ?_
      refine SimE.loopN ?_
      refine SimL.pre (ts := [2, 3, 4, 15, 16]) (os := [2, 3, 4, 6]) (ow := []) [(2, .one (.ptr 2 0)), (3, .one (.ptr 3 0)), (4, .one (.ptr 4 0)), (15, .agg (A4_Field.cells a1.F)), (16, .one (li .i64 2))] [(2, some (.cells [li .i64 g4.ID, li .i64 g4.At.X, li .i64 g4.At.Y, li .i64 g4.F.a0.N, ls g4.F.a0.Text, li .i64 a1.F.a1.N, ls a1.F.a1.Text, li .i64 g4.F.a2.N, ls g4.F.a2.Text, li .i64 g4.F.a3.N, ls g4.F.a3.Text])), (3, some (.cells (Delta.cells a1))), (4, some (.cells [li .i64 0, li .i64 0, li .i64 0, li .i64 0, ls ByteArray.empty, li .i64 0, ls ByteArray.empty, li .i64 0, ls ByteArray.empty, li .i64 0, ls ByteArray.empty]))] (by kernel_rfl) (by kernel_rfl) (by kernel_rfl) ?_
      exact F88_u8_ok n a0 a1 (Thing.mk g4.ID g4.At (A4.mk g4.F.a0 a1.F.a1 g4.F.a2 g4.F.a3))
    · refine Sim.skip ?_
      refine SimE.blockN ?_
      refine SimE.thenN ?_
      refine Sim.region0 ?_
      refine SimI.run 2 [(16, .one (li .i64 2)), (28, .one (li .i64 2))] [] (by kernel_rfl) ?_
      refine SimI.done (by kernel_rfl) ?_
      refine SimE.loopN ?_
      refine SimL.pre (ts := [2, 3, 4, 15, 16]) (os := [2, 3, 4, 6]) (ow := []) [(2, .one (.ptr 2 0)), (3, .one (.ptr 3 0)), (4, .one (.ptr 4 0)), (15, .agg (A4_Field.cells a1.F)), (16, .one (li .i64 2))] [(2, some (.cells (Thing.cells g4))), (3, some (.cells (Delta.cells a1))), (4, some (.cells [li .i64 0, li .i64 0, li .i64 0, li .i64 0, ls ByteArray.empty, li .i64 0, ls ByteArray.empty, li .i64 0, ls ByteArray.empty, li .i64 0, ls ByteArray.empty]))] (by kernel_rfl) (by kernel_rfl) (by kernel_rfl) ?_
      exact F88_u8_ok n a0 a1 g4

def F88_j2 (n : Nat) (a0 : Thing) (a1 : Delta) (g1 : Thing) : Option Thing :=
    (F99 n a1.Mask 0).bind fun (r3 : Bool) =>
    if r3 then
      F88_u5 n a0 a1 (Thing.mk g1.ID g1.At (A4.mk a1.F.a0 g1.F.a1 g1.F.a2 g1.F.a3))
    else
      F88_u5 n a0 a1 g1
theorem F88_j2_ok (n : Nat) (a0 : Thing) (a1 : Delta) (g1 : Thing) : Sim Try.prog D (n + 8) pc88_c30 [(2, .one (.ptr 2 0)), (3, .one (.ptr 3 0)), (4, .one (.ptr 4 0))] [(2, some (.cells (Thing.cells g1))), (3, some (.cells (Delta.cells a1))), (4, some (.cells [li .i64 0, li .i64 0, li .i64 0, li .i64 0, ls ByteArray.empty, li .i64 0, ls ByteArray.empty, li .i64 0, ls ByteArray.empty, li .i64 0, ls ByteArray.empty]))] (F88_j2 n a0 a1 g1) (QF false pc88_r 0 F88_e) := by
    unfold F88_j2
    refine Sim.seq ?_
    refine Sim.seq ?_
    refine Sim.region [(2, .one (.ptr 2 0)), (3, .one (.ptr 3 0)), (4, .one (.ptr 4 0))] [(2, some (.cells (Thing.cells g1))), (3, some (.cells (Delta.cells a1))), (4, some (.cells [li .i64 0, li .i64 0, li .i64 0, li .i64 0, ls ByteArray.empty, li .i64 0, ls ByteArray.empty, li .i64 0, ls ByteArray.empty, li .i64 0, ls ByteArray.empty]))] (by kernel_rfl) ?_
    refine SimI.run 3 [(16, .one (li .i64 0)), (15, .agg (A4_Field.cells a1.F)), (14, .one (.ptr 3 4))] [] (by kernel_rfl) ?_
    refine SimI.done (by kernel_rfl) ?_
    refine SimE.thenN ?_
    refine Sim.block ?_
    refine Sim.loop ?_
    refine SimL.succ ?_
    refine Sim.seq ?_
    refine Sim.region [(2, .one (.ptr 2 0)), (3, .one (.ptr 3 0)), (4, .one (.ptr 4 0)), (15, .agg (A4_Field.cells a1.F)), (16, .one (li .i64 0))] [(2, some (.cells (Thing.cells g1))), (3, some (.cells (Delta.cells a1))), (4, some (.cells [li .i64 0, li .i64 0, li .i64 0, li .i64 0, ls ByteArray.empty, li .i64 0, ls ByteArray.empty, li .i64 0, ls ByteArray.empty, li .i64 0, ls ByteArray.empty]))] (by kernel_rfl) ?_
    refine SimI.run 1 [(17, .one (lb true))] [] (by kernel_rfl) ?_
    refine SimI.done (by kernel_rfl) ?_
    refine SimE.thenN ?_
    refine Sim.seq ?_
    refine Sim.condT (by kernel_rfl) ?_
    refine Sim.skip ?_
    refine SimE.thenN ?_
    refine Sim.seq ?_
    refine Sim.block ?_
    refine Sim.seq ?_
    refine Sim.region0 ?_
    refine SimI.run 5 [(5, .one (li .i64 0)), (6, .one (.ptr 6 0)), (19, .agg [li .i64 a1.F.a0.N, ls a1.F.a0.Text]), (18, .one (li .i64 0))] [(6, some (.cells [li .i64 a1.F.a0.N, ls a1.F.a0.Text])), (6, some (.cells [li .i64 0, ls ByteArray.empty]))] (by kernel_rfl) ?_
    refine SimI.done (by kernel_rfl) ?_
    refine SimE.thenN ?_
    refine Sim.seq ?_
    refine Sim.region0 ?_
    refine SimI.run 3 [(22, .one (li .i64 0)), (21, .one (li .u8 a1.Mask)), (20, .one (.ptr 3 1))] [] (by kernel_rfl) ?_
    refine SimI.bind (og := F99 n a1.Mask 0) { dst := some 23, op := POp.call true [[], []] 99 [Operand.tmp 21, Operand.tmp 22], guard := none, hints := [] } (fun r3 => [(23, .one (lb r3))]) (fun r3 => []) (by kernel_rfl) (fun r3 hr => pOp_eff (by kernel_rfl) (by kernel_rfl) (eff_call (ARGS := [.one (li .u8 a1.Mask), .one (li .i64 0)]) (by kernel_rfl) (args_clean (by kernel_rfl) (args_clean (by kernel_rfl) args_nil)) (F99_ok n a1.Mask 0 r3 hr) (by kernel_rfl))) (fun r3 => ?_)
    refine SimI.done (by kernel_rfl) ?_
    refine SimE.thenN ?_
    refine Sim.cond r3 (by kernel_rfl) ?_ ?_
    · refine Sim.region0 ?_
      refine SimI.run 5 [(27, .one (.ptr 2 3)), (26, .one (.ptr 2 3)), (25, .agg [li .i64 a1.F.a0.N, ls a1.F.a0.Text]), (24, .one (li .i64 0))] [(2, some (.cells [li .i64 g1.ID, li .i64 g1.At.X, li .i64 g1.At.Y, li .i64 a1.F.a0.N, ls a1.F.a0.Text, li .i64 g1.F.a1.N, ls g1.F.a1.Text, li .i64 g1.F.a2.N, ls g1.F.a2.Text, li .i64 g1.F.a3.N, ls g1.F.a3.Text]))] (by kernel_rfl) ?_
      refine SimI.done (by kernel_rfl) ?_
      refine SimE.blockN ?_
      refine SimE.thenN ?_
      refine Sim.region0 ?_
      refine SimI.run 2 [(16, .one (li .i64 1)), (28, .one (li .i64 1))] [] (by kernel_rfl) ?_
      refine SimI.done (by kernel_rfl) ?_
      refine SimE.loopN ?_
      refine SimL.pre (ts := [2, 3, 4, 15, 16]) (os := [2, 3, 4, 6]) (ow := []) [(2, .one (.ptr 2 0)), (3, .one (.ptr 3 0)), (4, .one (.ptr 4 0)), (15, .agg (A4_Field.cells a1.F)), (16, .one (li .i64 1))] [(2, some (.cells [li .i64 g1.ID, li .i64 g1.At.X, li .i64 g1.At.Y, li .i64 a1.F.a0.N, ls a1.F.a0.Text, li .i64 g1.F.a1.N, ls g1.F.a1.Text, li .i64 g1.F.a2.N, ls g1.F.a2.Text, li .i64 g1.F.a3.N, ls g1.F.a3.Text])), (3, some (.cells (Delta.cells a1))), (4, some (.cells [li .i64 0, li .i64 0, li .i64 0, li .i64 0, ls ByteArray.empty, li .i64 0, ls ByteArray.empty, li .i64 0, ls ByteArray.empty, li .i64 0, ls ByteArray.empty]))] (by kernel_rfl) (by kernel_rfl) (by kernel_rfl) ?_
      exact F88_u5_ok n a0 a1 (Thing.mk g1.ID g1.At (A4.mk a1.F.a0 g1.F.a1 g1.F.a2 g1.F.a3))
    · refine Sim.skip ?_
      refine SimE.blockN ?_
      refine SimE.thenN ?_
      refine Sim.region0 ?_
      refine SimI.run 2 [(16, .one (li .i64 1)), (28, .one (li .i64 1))] [] (by kernel_rfl) ?_
      refine SimI.done (by kernel_rfl) ?_
      refine SimE.loopN ?_
      refine SimL.pre (ts := [2, 3, 4, 15, 16]) (os := [2, 3, 4, 6]) (ow := []) [(2, .one (.ptr 2 0)), (3, .one (.ptr 3 0)), (4, .one (.ptr 4 0)), (15, .agg (A4_Field.cells a1.F)), (16, .one (li .i64 1))] [(2, some (.cells (Thing.cells g1))), (3, some (.cells (Delta.cells a1))), (4, some (.cells [li .i64 0, li .i64 0, li .i64 0, li .i64 0, ls ByteArray.empty, li .i64 0, ls ByteArray.empty, li .i64 0, ls ByteArray.empty, li .i64 0, ls ByteArray.empty]))] (by kernel_rfl) (by kernel_rfl) (by kernel_rfl) ?_
      exact F88_u5_ok n a0 a1 g1

def F88 (n : Nat) (a0 : Thing) (a1 : Delta) : Option Thing :=
  if (bitsI .and .u8 a1.Mask 1) != 0 then
    F88_j2 n a0 a1 (Thing.mk a0.ID a1.At a0.F)
  else
    F88_j2 n a0 a1 a0
theorem F88_ok (n : Nat) (a0 : Thing) (a1 : Delta) : ∀ r, F88 n a0 a1 = some r → D 88 [.agg (Thing.cells a0), .agg (Delta.cells a1)] [] = some (F88_e r) := by
  refine fn_to (D := D) (n := n + 8) (nt := 30) (rs := pc88_r) (c := pc88_c32) (L := [(0, .agg (Thing.cells a0)), (1, .agg (Delta.cells a1))]) (M := []) (k := 0) rfl rfl rfl rfl rfl rfl rfl ?_
  unfold F88
  refine Sim.seq ?_
  refine Sim.region0 ?_
  refine SimI.run 3 [(4, .one (.ptr 4 0)), (3, .one (.ptr 3 0)), (2, .one (.ptr 2 0))] [(4, some (.cells [li .i64 0, li .i64 0, li .i64 0, li .i64 0, ls ByteArray.empty, li .i64 0, ls ByteArray.empty, li .i64 0, ls ByteArray.empty, li .i64 0, ls ByteArray.empty])), (3, some (.cells (Delta.cells a1))), (2, some (.cells (Thing.cells a0)))] (by kernel_rfl) ?_
  refine SimI.done (by kernel_rfl) ?_
  refine SimE.thenN ?_
  refine Sim.seq ?_
  refine Sim.seq ?_
  refine Sim.region0 ?_
  refine SimI.run 4 [(10, .one (lb ((bitsI .and .u8 a1.Mask 1) != 0))), (9, .one (li .u8 (bitsI .and .u8 a1.Mask 1))), (8, .one (li .u8 a1.Mask)), (7, .one (.ptr 3 1))] [] (by kernel_rfl) ?_
  refine SimI.done (by kernel_rfl) ?_
  refine SimE.thenN ?_
  refine Sim.cond ((bitsI .and .u8 a1.Mask 1) != 0) (by kernel_rfl) ?_ ?_
  · refine Sim.region0 ?_
    refine SimI.run 4 [(13, .one (.ptr 2 1)), (12, .agg [li .i64 a1.At.X, li .i64 a1.At.Y]), (11, .one (.ptr 3 2))] [(2, some (.cells [li .i64 a0.ID, li .i64 a1.At.X, li .i64 a1.At.Y, li .i64 a0.F.a0.N, ls a0.F.a0.Text, li .i64 a0.F.a1.N, ls a0.F.a1.Text, li .i64 a0.F.a2.N, ls a0.F.a2.Text, li .i64 a0.F.a3.N, ls a0.F.a3.Text]))] (by kernel_rfl) ?_
    refine SimI.done (by kernel_rfl) ?_
    refine SimE.thenN ?_
    refine Sim.pre (ts := [2, 3, 4]) (os := [2, 3, 4]) (ow := []) [(2, .one (.ptr 2 0)), (3, .one (.ptr 3 0)), (4, .one (.ptr 4 0))] [(2, some (.cells [li .i64 a0.ID, li .i64 a1.At.X, li .i64 a1.At.Y, li .i64 a0.F.a0.N, ls a0.F.a0.Text, li .i64 a0.F.a1.N, ls a0.F.a1.Text, li .i64 a0.F.a2.N, ls a0.F.a2.Text, li .i64 a0.F.a3.N, ls a0.F.a3.Text])), (3, some (.cells (Delta.cells a1))), (4, some (.cells [li .i64 0, li .i64 0, li .i64 0, li .i64 0, ls ByteArray.empty, li .i64 0, ls ByteArray.empty, li .i64 0, ls ByteArray.empty, li .i64 0, ls ByteArray.empty]))] (by kernel_rfl) (by kernel_rfl) (by kernel_rfl) ?_
    exact F88_j2_ok n a0 a1 (Thing.mk a0.ID a1.At a0.F)
  · refine Sim.skip ?_
    refine SimE.thenN ?_
    refine Sim.pre (ts := [2, 3, 4]) (os := [2, 3, 4]) (ow := []) [(2, .one (.ptr 2 0)), (3, .one (.ptr 3 0)), (4, .one (.ptr 4 0))] [(2, some (.cells (Thing.cells a0))), (3, some (.cells (Delta.cells a1))), (4, some (.cells [li .i64 0, li .i64 0, li .i64 0, li .i64 0, ls ByteArray.empty, li .i64 0, ls ByteArray.empty, li .i64 0, ls ByteArray.empty, li .i64 0, ls ByteArray.empty]))] (by kernel_rfl) (by kernel_rfl) (by kernel_rfl) ?_
    exact F88_j2_ok n a0 a1 a0


-- 94: vedette/vedetteref6.IsDelta
def F94_e : Bool → PV × List Ob := fun r => (.one (lb r), [])
def F94_u10 (n : Nat) : Option Bool :=
    some true
theorem F94_u10_ok (n : Nat) (a0 : Delta) : SimL Try.prog D (n + 8) (n + 4) pc94_c32 [(1, .one (.ptr 1 0)), (3, .one (li .i64 4))] [(1, some (.cells (Delta.cells a0)))] (F94_u10 n) (QB 0 (QT Try.prog D (n + 8) pc94_c38 (QF false pc94_r 0 F94_e))) := by
    unfold F94_u10
    refine SimL.succ ?_
    refine Sim.seq ?_
    refine Sim.seq ?_
    refine Sim.region [(1, .one (.ptr 1 0)), (3, .one (li .i64 4))] [(1, some (.cells (Delta.cells a0)))] (by kernel_rfl) ?_
    refine SimI.run 2 [(45, .one (lb false)), (44, .one (li .i64 4))] [] (by kernel_rfl) ?_
    refine SimI.done (by kernel_rfl) ?_
    refine SimE.thenN ?_
    refine Sim.condF (by kernel_rfl) ?_
    refine Sim.exit ?_
    refine SimE.thenX ?_
    refine SimE.loopX ?_
    refine SimE.blockX ?_
    refine SimE.thenN ?_
    refine Sim.seq ?_
    refine Sim.region0 ?_
    refine SimI.run 1 [(2, .one (lb true))] [] (by kernel_rfl) ?_
    refine SimI.done (by kernel_rfl) ?_
    refine SimE.thenN ?_
    refine Sim.ret ?_
    exact SimE.fin (by kernel_rfl)

def F94_u8 (n : Nat) (a0 : Delta) : Option Bool :=
    (F59 n a0.F.a3).bind fun (r9 : Bool) =>
    if !(r9) then
      some false
    else
      if (bitsI .and .u8 (shrI .u8 a0.Mask 4) 1) == 0 then
        if !(Field.eqb a0.F.a3 (Field.mk 0 ByteArray.empty)) then
          some false
        else
          F94_u10 n
      else
        F94_u10 n
theorem F94_u8_ok (n : Nat) (a0 : Delta) : SimL Try.prog D (n + 8) (n + 5) pc94_c32 [(1, .one (.ptr 1 0)), (3, .one (li .i64 3))] [(1, some (.cells (Delta.cells a0)))] (F94_u8 n a0) (QB 0 (QT Try.prog D (n + 8) pc94_c38 (QF false pc94_r 0 F94_e))) := by
    unfold F94_u8
    refine SimL.succ ?_
    refine Sim.seq ?_
    refine Sim.seq ?_
    refine Sim.region [(1, .one (.ptr 1 0)), (3, .one (li .i64 3))] [(1, some (.cells (Delta.cells a0)))] (by kernel_rfl) ?_
    refine SimI.run 2 [(45, .one (lb true)), (44, .one (li .i64 3))] [] (by kernel_rfl) ?_
    refine SimI.done (by kernel_rfl) ?_
    refine SimE.thenN ?_
    refine Sim.condT (by kernel_rfl) ?_
    refine Sim.skip ?_
    refine SimE.thenN ?_
    refine Sim.seq ?_
    refine Sim.block ?_
    refine Sim.seq ?_
    refine Sim.region0 ?_
    refine SimI.run 4 [(51, .agg [li .i64 a0.F.a3.N, ls a0.F.a3.Text]), (50, .one (.ptr 1 10)), (49, .one (.ptr 1 4)), (48, .one (li .i64 3))] [] (by kernel_rfl) ?_
    refine SimI.bind (og := F59 n a0.F.a3) { dst := some 52, op := POp.call true [[]] 59 [Operand.tmp 51], guard := none, hints := [] } (fun r9 => [(52, .one (lb r9))]) (fun r9 => []) (by kernel_rfl) (fun r9 hr => pOp_eff (by kernel_rfl) (by kernel_rfl) (eff_call (ARGS := [.agg [li .i64 a0.F.a3.N, ls a0.F.a3.Text]]) (by kernel_rfl) (args_clean (by kernel_rfl) args_nil) (F59_ok n a0.F.a3 r9 hr) (by kernel_rfl))) (fun r9 => ?_)
    refine SimI.run 2 [(54, .one (lb (!(r9)))), (53, .one (lb (!(r9))))] [] (by kernel_rfl) ?_
    refine SimI.split 54 (!(r9)) (by kernel_rfl) ?_ ?_
    · refine SimI.run 17 [(71, .one (lb true)), (70, .tup []), (69, .tup []), (68, .tup []), (67, .tup []), (66, .tup []), (65, .tup []), (64, .tup []), (63, .tup []), (62, .tup []), (61, .tup []), (60, .tup []), (59, .tup []), (58, .tup []), (57, .tup []), (56, .tup []), (55, .tup [])] [] (by kernel_rfl) ?_
      refine SimI.done (by kernel_rfl) ?_
      refine SimE.thenN ?_
      refine Sim.condT (by kernel_rfl) ?_
      refine Sim.seq ?_
      refine Sim.region0 ?_
      refine SimI.run 1 [(2, .one (lb false))] [] (by kernel_rfl) ?_
      refine SimI.done (by kernel_rfl) ?_
      refine SimE.thenN ?_
      refine Sim.ret ?_
      refine SimE.blockR ?_
      refine SimE.thenR ?_
      refine SimE.loopR ?_
      refine SimE.blockR ?_
      refine SimE.thenR ?_
      exact SimE.fin (by kernel_rfl)
    · refine SimI.run 9 [(63, .one (lb ((bitsI .and .u8 (shrI .u8 a0.Mask 4) 1) == 0))), (62, .one (lb ((bitsI .and .u8 (shrI .u8 a0.Mask 4) 1) == 0))), (61, .one (li .u8 (bitsI .and .u8 (shrI .u8 a0.Mask 4) 1))), (60, .one (li .u8 (shrI .u8 a0.Mask 4))), (59, .one (li .u64 4)), (58, .one (li .i64 4)), (57, .one (li .i64 3)), (56, .one (li .u8 a0.Mask)), (55, .one (.ptr 1 1))] [] (by kernel_rfl) ?_
      refine SimI.split 63 ((bitsI .and .u8 (shrI .u8 a0.Mask 4) 1) == 0) (by kernel_rfl) ?_ ?_
      · refine SimI.run 5 [(68, .agg [li .i64 0, ls ByteArray.empty]), (67, .agg [li .i64 a0.F.a3.N, ls a0.F.a3.Text]), (66, .one (.ptr 1 10)), (65, .one (.ptr 1 4)), (64, .one (li .i64 3))] [] (by kernel_rfl) ?_
        refine SimI.step { dst := some 69, op := POp.prim (Prim.bin BinOp.neq 25 false false) [Operand.tmp 67, Operand.tmp 68], guard := some (63, true), hints := [] } [(69, .one (lb (!(Field.eqb a0.F.a3 (Field.mk 0 ByteArray.empty)))))] [] (by kernel_rfl) (pOp_eff (by kernel_rfl) (by kernel_rfl) (eff_prim (by kernel_rfl) (Field_eqn a0.F.a3 (Field.mk 0 ByteArray.empty) _ _))) ?_
        refine SimI.run 2 [(71, .one (lb (!(Field.eqb a0.F.a3 (Field.mk 0 ByteArray.empty))))), (70, .one (lb (!(Field.eqb a0.F.a3 (Field.mk 0 ByteArray.empty)))))] [] (by kernel_rfl) ?_
        refine SimI.done (by kernel_rfl) ?_
        refine SimE.thenN ?_
        refine Sim.cond (!(Field.eqb a0.F.a3 (Field.mk 0 ByteArray.empty))) (by kernel_rfl) ?_ ?_
        · refine Sim.seq ?_
          refine Sim.region0 ?_
          refine SimI.run 1 [(2, .one (lb false))] [] (by kernel_rfl) ?_
          refine SimI.done (by kernel_rfl) ?_
          refine SimE.thenN ?_
          refine Sim.ret ?_
          refine SimE.blockR ?_
          refine SimE.thenR ?_
          refine SimE.loopR ?_
          refine SimE.blockR ?_
          refine SimE.thenR ?_
          exact SimE.fin (by kernel_rfl)
        · refine Sim.skip ?_
          refine SimE.blockN ?_
          refine SimE.thenN ?_
          refine Sim.region0 ?_
          refine SimI.run 3 [(3, .one (li .i64 4)), (47, .one (li .i64 4)), (46, .one (li .i64 3))] [] (by kernel_rfl) ?_
          refine SimI.done (by kernel_rfl) ?_
          refine SimE.loopN ?_
          refine SimL.pre (ts := [1, 3]) (os := [1]) (ow := []) [(1, .one (.ptr 1 0)), (3, .one (li .i64 4))] [(1, some (.cells (Delta.cells a0)))] (by kernel_rfl) (by kernel_rfl) (by kernel_rfl) ?_
          exact F94_u10_ok n a0
      · refine SimI.run 8 [(71, .one (lb false)), (70, .one (lb false)), (69, .tup []), (68, .tup []), (67, .tup []), (66, .tup []), (65, .tup []), (64, .tup [])] [] (by kernel_rfl) ?_
        refine SimI.done (by kernel_rfl) ?_
        refine SimE.thenN ?_
        refine Sim.condF (by kernel_rfl) ?_
        refine Sim.skip ?_
        refine SimE.blockN ?_
        refine SimE.thenN ?_
        refine Sim.region0 ?_
        refine SimI.run 3 [(3, .one (li .i64 4)), (47, .one (li .i64 4)), (46, .one (li .i64 3))] [] (by kernel_rfl) ?_
        refine SimI.done (by kernel_rfl) ?_
        refine SimE.loopN ?_
        refine SimL.pre (ts := [1, 3]) (os := [1]) (ow := []) [(1, .one (.ptr 1 0)), (3, .one (li .i64 4))] [(1, some (.cells (Delta.cells a0)))] (by kernel_rfl) (by kernel_rfl) (by kernel_rfl) ?_
        exact F94_u10_ok n a0

def F94_u6 (n : Nat) (a0 : Delta) : Option Bool :=
    (F59 n a0.F.a2).bind fun (r7 : Bool) =>
    if !(r7) then
      some false
    else
      if (bitsI .and .u8 (shrI .u8 a0.Mask 3) 1) == 0 then
        if !(Field.eqb a0.F.a2 (Field.mk 0 ByteArray.empty)) then
          some false
        else
          F94_u8 n a0
      else
        F94_u8 n a0
theorem F94_u6_ok (n : Nat) (a0 : Delta) : SimL Try.prog D (n + 8) (n + 6) pc94_c32 [(1, .one (.ptr 1 0)), (3, .one (li .i64 2))] [(1, some (.cells (Delta.cells a0)))] (F94_u6 n a0) (QB 0 (QT Try.prog D (n + 8) pc94_c38 (QF false pc94_r 0 F94_e))) := by
    unfold F94_u6
    refine SimL.succ ?_
    refine Sim.seq ?_
    refine Sim.seq ?_
    refine Sim.region [(1, .one (.ptr 1 0)), (3, .one (li .i64 2))] [(1, some (.cells (Delta.cells a0)))] (by kernel_rfl) ?_
    refine SimI.run 2 [(45, .one (lb true)), (44, .one (li .i64 2))] [] (by kernel_rfl) ?_
    refine SimI.done (by kernel_rfl) ?_
    refine SimE.thenN ?_
    refine Sim.condT (by kernel_rfl) ?_
    refine Sim.skip ?_
    refine SimE.thenN ?_
    refine Sim.seq ?_
    refine Sim.block ?_
    refine Sim.seq ?_
    refine Sim.region0 ?_
    refine SimI.run 4 [(51, .agg [li .i64 a0.F.a2.N, ls a0.F.a2.Text]), (50, .one (.ptr 1 8)), (49, .one (.ptr 1 4)), (48, .one (li .i64 2))] [] (by kernel_rfl) ?_
    refine SimI.bind (og := F59 n a0.F.a2) { dst := some 52, op := POp.call true [[]] 59 [Operand.tmp 51], guard := none, hints := [] } (fun r7 => [(52, .one (lb r7))]) (fun r7 => []) (by kernel_rfl) (fun r7 hr => pOp_eff (by kernel_rfl) (by kernel_rfl) (eff_call (ARGS := [.agg [li .i64 a0.F.a2.N, ls a0.F.a2.Text]]) (by kernel_rfl) (args_clean (by kernel_rfl) args_nil) (F59_ok n a0.F.a2 r7 hr) (by kernel_rfl))) (fun r7 => ?_)
    refine SimI.run 2 [(54, .one (lb (!(r7)))), (53, .one (lb (!(r7))))] [] (by kernel_rfl) ?_
    refine SimI.split 54 (!(r7)) (by kernel_rfl) ?_ ?_
    · refine SimI.run 17 [(71, .one (lb true)), (70, .tup []), (69, .tup []), (68, .tup []), (67, .tup []), (66, .tup []), (65, .tup []), (64, .tup []), (63, .tup []), (62, .tup []), (61, .tup []), (60, .tup []), (59, .tup []), (58, .tup []), (57, .tup []), (56, .tup []), (55, .tup [])] [] (by kernel_rfl) ?_
      refine SimI.done (by kernel_rfl) ?_
      refine SimE.thenN ?_
      refine Sim.condT (by kernel_rfl) ?_
      refine Sim.seq ?_
      refine Sim.region0 ?_
      refine SimI.run 1 [(2, .one (lb false))] [] (by kernel_rfl) ?_
      refine SimI.done (by kernel_rfl) ?_
      refine SimE.thenN ?_
      refine Sim.ret ?_
      refine SimE.blockR ?_
      refine SimE.thenR ?_
      refine SimE.loopR ?_
      refine SimE.blockR ?_
      refine SimE.thenR ?_
      exact SimE.fin (by kernel_rfl)
    · refine SimI.run 9 [(63, .one (lb ((bitsI .and .u8 (shrI .u8 a0.Mask 3) 1) == 0))), (62, .one (lb ((bitsI .and .u8 (shrI .u8 a0.Mask 3) 1) == 0))), (61, .one (li .u8 (bitsI .and .u8 (shrI .u8 a0.Mask 3) 1))), (60, .one (li .u8 (shrI .u8 a0.Mask 3))), (59, .one (li .u64 3)), (58, .one (li .i64 3)), (57, .one (li .i64 2)), (56, .one (li .u8 a0.Mask)), (55, .one (.ptr 1 1))] [] (by kernel_rfl) ?_
      refine SimI.split 63 ((bitsI .and .u8 (shrI .u8 a0.Mask 3) 1) == 0) (by kernel_rfl) ?_ ?_
      · refine SimI.run 5 [(68, .agg [li .i64 0, ls ByteArray.empty]), (67, .agg [li .i64 a0.F.a2.N, ls a0.F.a2.Text]), (66, .one (.ptr 1 8)), (65, .one (.ptr 1 4)), (64, .one (li .i64 2))] [] (by kernel_rfl) ?_
        refine SimI.step { dst := some 69, op := POp.prim (Prim.bin BinOp.neq 25 false false) [Operand.tmp 67, Operand.tmp 68], guard := some (63, true), hints := [] } [(69, .one (lb (!(Field.eqb a0.F.a2 (Field.mk 0 ByteArray.empty)))))] [] (by kernel_rfl) (pOp_eff (by kernel_rfl) (by kernel_rfl) (eff_prim (by kernel_rfl) (Field_eqn a0.F.a2 (Field.mk 0 ByteArray.empty) _ _))) ?_
        refine SimI.run 2 [(71, .one (lb (!(Field.eqb a0.F.a2 (Field.mk 0 ByteArray.empty))))), (70, .one (lb (!(Field.eqb a0.F.a2 (Field.mk 0 ByteArray.empty)))))] [] (by kernel_rfl) ?_
        refine SimI.done (by kernel_rfl) ?_
        refine SimE.thenN ?_
        refine Sim.cond (!(Field.eqb a0.F.a2 (Field.mk 0 ByteArray.empty))) (by kernel_rfl) ?_ ?_
        · refine Sim.seq ?_
          refine Sim.region0 ?_
          refine SimI.run 1 [(2, .one (lb false))] [] (by kernel_rfl) ?_
          refine SimI.done (by kernel_rfl) ?_
          refine SimE.thenN ?_
          refine Sim.ret ?_
          refine SimE.blockR ?_
          refine SimE.thenR ?_
          refine SimE.loopR ?_
          refine SimE.blockR ?_
          refine SimE.thenR ?_
          exact SimE.fin (by kernel_rfl)
        · refine Sim.skip ?_
          refine SimE.blockN ?_
          refine SimE.thenN ?_
          refine Sim.region0 ?_
          refine SimI.run 3 [(3, .one (li .i64 3)), (47, .one (li .i64 3)), (46, .one (li .i64 2))] [] (by kernel_rfl) ?_
          refine SimI.done (by kernel_rfl) ?_
          refine SimE.loopN ?_
          refine SimL.pre (ts := [1, 3]) (os := [1]) (ow := []) [(1, .one (.ptr 1 0)), (3, .one (li .i64 3))] [(1, some (.cells (Delta.cells a0)))] (by kernel_rfl) (by kernel_rfl) (by kernel_rfl) ?_
          exact F94_u8_ok n a0
      · refine SimI.run 8 [(71, .one (lb false)), (70, .one (lb false)), (69, .tup []), (68, .tup []), (67, .tup []), (66, .tup []), (65, .tup []), (64, .tup [])] [] (by kernel_rfl) ?_
        refine SimI.done (by kernel_rfl) ?_
        refine SimE.thenN ?_
        refine Sim.condF (by kernel_rfl) ?_
        refine Sim.skip ?_
        refine SimE.blockN ?_
        refine SimE.thenN ?_
        refine Sim.region0 ?_
        refine SimI.run 3 [(3, .one (li .i64 3)), (47, .one (li .i64 3)), (46, .one (li .i64 2))] [] (by kernel_rfl) ?_
        refine SimI.done (by kernel_rfl) ?_
        refine SimE.loopN ?_
        refine SimL.pre (ts := [1, 3]) (os := [1]) (ow := []) [(1, .one (.ptr 1 0)), (3, .one (li .i64 3))] [(1, some (.cells (Delta.cells a0)))] (by kernel_rfl) (by kernel_rfl) (by kernel_rfl) ?_
        exact F94_u8_ok n a0

def F94_u4 (n : Nat) (a0 : Delta) : Option Bool :=
    (F59 n a0.F.a1).bind fun (r5 : Bool) =>
    if !(r5) then
      some false
    else
      if (bitsI .and .u8 (shrI .u8 a0.Mask 2) 1) == 0 then
        if !(Field.eqb a0.F.a1 (Field.mk 0 ByteArray.empty)) then
          some false
        else
          F94_u6 n a0
      else
        F94_u6 n a0
theorem F94_u4_ok (n : Nat) (a0 : Delta) : SimL Try.prog D (n + 8) (n + 7) pc94_c32 [(1, .one (.ptr 1 0)), (3, .one (li .i64 1))] [(1, some (.cells (Delta.cells a0)))] (F94_u4 n a0) (QB 0 (QT Try.prog D (n + 8) pc94_c38 (QF false pc94_r 0 F94_e))) := by
    unfold F94_u4
    refine SimL.succ ?_
    refine Sim.seq ?_
    refine Sim.seq ?_
    refine Sim.region [(1, .one (.ptr 1 0)), (3, .one (li .i64 1))] [(1, some (.cells (Delta.cells a0)))] (by kernel_rfl) ?_
    refine SimI.run 2 [(45, .one (lb true)), (44, .one (li .i64 1))] [] (by kernel_rfl) ?_
    refine SimI.done (by kernel_rfl) ?_
    refine SimE.thenN ?_
    refine Sim.condT (by kernel_rfl) ?_
    refine Sim.skip ?_
    refine SimE.thenN ?_
    refine Sim.seq ?_
    refine Sim.block ?_
    refine Sim.seq ?_
    refine Sim.region0 ?_
    refine SimI.run 4 [(51, .agg [li .i64 a0.F.a1.N, ls a0.F.a1.Text]), (50, .one (.ptr 1 6)), (49, .one (.ptr 1 4)), (48, .one (li .i64 1))] [] (by kernel_rfl) ?_
    refine SimI.bind (og := F59 n a0.F.a1) { dst := some 52, op := POp.call true [[]] 59 [Operand.tmp 51], guard := none, hints := [] } (fun r5 => [(52, .one (lb r5))]) (fun r5 => []) (by kernel_rfl) (fun r5 hr => pOp_eff (by kernel_rfl) (by kernel_rfl) (eff_call (ARGS := [.agg [li .i64 a0.F.a1.N, ls a0.F.a1.Text]]) (by kernel_rfl) (args_clean (by kernel_rfl) args_nil) (F59_ok n a0.F.a1 r5 hr) (by kernel_rfl))) (fun r5 => ?_)
    refine SimI.run 2 [(54, .one (lb (!(r5)))), (53, .one (lb (!(r5))))] [] (by kernel_rfl) ?_
    refine SimI.split 54 (!(r5)) (by kernel_rfl) ?_ ?_
    · refine SimI.run 17 [(71, .one (lb true)), (70, .tup []), (69, .tup []), (68, .tup []), (67, .tup []), (66, .tup []), (65, .tup []), (64, .tup []), (63, .tup []), (62, .tup []), (61, .tup []), (60, .tup []), (59, .tup []), (58, .tup []), (57, .tup []), (56, .tup []), (55, .tup [])] [] (by kernel_rfl) ?_
      refine SimI.done (by kernel_rfl) ?_
      refine SimE.thenN ?_
      refine Sim.condT (by kernel_rfl) ?_
      refine Sim.seq ?_
      refine Sim.region0 ?_
      refine SimI.run 1 [(2, .one (lb false))] [] (by kernel_rfl) ?_
      refine SimI.done (by kernel_rfl) ?_
      refine SimE.thenN ?_
      refine Sim.ret ?_
      refine SimE.blockR ?_
      refine SimE.thenR ?_
      refine SimE.loopR ?_
      refine SimE.blockR ?_
      refine SimE.thenR ?_
      exact SimE.fin (by kernel_rfl)
    · refine SimI.run 9 [(63, .one (lb ((bitsI .and .u8 (shrI .u8 a0.Mask 2) 1) == 0))), (62, .one (lb ((bitsI .and .u8 (shrI .u8 a0.Mask 2) 1) == 0))), (61, .one (li .u8 (bitsI .and .u8 (shrI .u8 a0.Mask 2) 1))), (60, .one (li .u8 (shrI .u8 a0.Mask 2))), (59, .one (li .u64 2)), (58, .one (li .i64 2)), (57, .one (li .i64 1)), (56, .one (li .u8 a0.Mask)), (55, .one (.ptr 1 1))] [] (by kernel_rfl) ?_
      refine SimI.split 63 ((bitsI .and .u8 (shrI .u8 a0.Mask 2) 1) == 0) (by kernel_rfl) ?_ ?_
      · refine SimI.run 5 [(68, .agg [li .i64 0, ls ByteArray.empty]), (67, .agg [li .i64 a0.F.a1.N, ls a0.F.a1.Text]), (66, .one (.ptr 1 6)), (65, .one (.ptr 1 4)), (64, .one (li .i64 1))] [] (by kernel_rfl) ?_
        refine SimI.step { dst := some 69, op := POp.prim (Prim.bin BinOp.neq 25 false false) [Operand.tmp 67, Operand.tmp 68], guard := some (63, true), hints := [] } [(69, .one (lb (!(Field.eqb a0.F.a1 (Field.mk 0 ByteArray.empty)))))] [] (by kernel_rfl) (pOp_eff (by kernel_rfl) (by kernel_rfl) (eff_prim (by kernel_rfl) (Field_eqn a0.F.a1 (Field.mk 0 ByteArray.empty) _ _))) ?_
        refine SimI.run 2 [(71, .one (lb (!(Field.eqb a0.F.a1 (Field.mk 0 ByteArray.empty))))), (70, .one (lb (!(Field.eqb a0.F.a1 (Field.mk 0 ByteArray.empty)))))] [] (by kernel_rfl) ?_
        refine SimI.done (by kernel_rfl) ?_
        refine SimE.thenN ?_
        refine Sim.cond (!(Field.eqb a0.F.a1 (Field.mk 0 ByteArray.empty))) (by kernel_rfl) ?_ ?_
        · refine Sim.seq ?_
          refine Sim.region0 ?_
          refine SimI.run 1 [(2, .one (lb false))] [] (by kernel_rfl) ?_
          refine SimI.done (by kernel_rfl) ?_
          refine SimE.thenN ?_
          refine Sim.ret ?_
          refine SimE.blockR ?_
          refine SimE.thenR ?_
          refine SimE.loopR ?_
          refine SimE.blockR ?_
          refine SimE.thenR ?_
          exact SimE.fin (by kernel_rfl)
        · refine Sim.skip ?_
          refine SimE.blockN ?_
          refine SimE.thenN ?_
          refine Sim.region0 ?_
          refine SimI.run 3 [(3, .one (li .i64 2)), (47, .one (li .i64 2)), (46, .one (li .i64 1))] [] (by kernel_rfl) ?_
          refine SimI.done (by kernel_rfl) ?_
          refine SimE.loopN ?_
          refine SimL.pre (ts := [1, 3]) (os := [1]) (ow := []) [(1, .one (.ptr 1 0)), (3, .one (li .i64 2))] [(1, some (.cells (Delta.cells a0)))] (by kernel_rfl) (by kernel_rfl) (by kernel_rfl) ?_
          exact F94_u6_ok n a0
      · refine SimI.run 8 [(71, .one (lb false)), (70, .one (lb false)), (69, .tup []), (68, .tup []), (67, .tup []), (66, .tup []), (65, .tup []), (64, .tup [])] [] (by kernel_rfl) ?_
        refine SimI.done (by kernel_rfl) ?_
        refine SimE.thenN ?_
        refine Sim.condF (by kernel_rfl) ?_
        refine Sim.skip ?_
        refine SimE.blockN ?_
        refine SimE.thenN ?_
        refine Sim.region0 ?_
        refine SimI.run 3 [(3, .one (li .i64 2)), (47, .one (li .i64 2)), (46, .one (li .i64 1))] [] (by kernel_rfl) ?_
        refine SimI.done (by kernel_rfl) ?_
        refine SimE.loopN ?_
        refine SimL.pre (ts := [1, 3]) (os := [1]) (ow := []) [(1, .one (.ptr 1 0)), (3, .one (li .i64 2))] [(1, some (.cells (Delta.cells a0)))] (by kernel_rfl) (by kernel_rfl) (by kernel_rfl) ?_
        exact F94_u6_ok n a0

def F94_j2 (n : Nat) (a0 : Delta) : Option Bool :=
    (F59 n a0.F.a0).bind fun (r3 : Bool) =>
    if !(r3) then
      some false
    else
      if (bitsI .and .u8 (shrI .u8 a0.Mask 1) 1) == 0 then
        if !(Field.eqb a0.F.a0 (Field.mk 0 ByteArray.empty)) then
          some false
        else
          F94_u4 n a0
      else
        F94_u4 n a0
theorem F94_j2_ok (n : Nat) (a0 : Delta) : Sim Try.prog D (n + 8) pc94_c39 [(1, .one (.ptr 1 0))] [(1, some (.cells (Delta.cells a0)))] (F94_j2 n a0) (QF false pc94_r 0 F94_e) := by
    unfold F94_j2
    refine Sim.seq ?_
    refine Sim.seq ?_
    refine Sim.region [(1, .one (.ptr 1 0))] [(1, some (.cells (Delta.cells a0)))] (by kernel_rfl) ?_
    refine SimI.run 1 [(3, .one (li .i64 0))] [] (by kernel_rfl) ?_
    refine SimI.done (by kernel_rfl) ?_
    refine SimE.thenN ?_
    refine Sim.block ?_
    refine Sim.loop ?_
    refine SimL.succ ?_
    refine Sim.seq ?_
    refine Sim.seq ?_
    refine Sim.region [(1, .one (.ptr 1 0)), (3, .one (li .i64 0))] [(1, some (.cells (Delta.cells a0)))] (by kernel_rfl) ?_
    refine SimI.run 2 [(45, .one (lb true)), (44, .one (li .i64 0))] [] (by kernel_rfl) ?_
    refine SimI.done (by kernel_rfl) ?_
    refine SimE.thenN ?_
    refine Sim.condT (by kernel_rfl) ?_
    refine Sim.skip ?_
    refine SimE.thenN ?_
    refine Sim.seq ?_
    refine Sim.block ?_
    refine Sim.seq ?_
    refine Sim.region0 ?_
    refine SimI.run 4 [(51, .agg [li .i64 a0.F.a0.N, ls a0.F.a0.Text]), (50, .one (.ptr 1 4)), (49, .one (.ptr 1 4)), (48, .one (li .i64 0))] [] (by kernel_rfl) ?_
    refine SimI.bind (og := F59 n a0.F.a0) { dst := some 52, op := POp.call true [[]] 59 [Operand.tmp 51], guard := none, hints := [] } (fun r3 => [(52, .one (lb r3))]) (fun r3 => []) (by kernel_rfl) (fun r3 hr => pOp_eff (by kernel_rfl) (by kernel_rfl) (eff_call (ARGS := [.agg [li .i64 a0.F.a0.N, ls a0.F.a0.Text]]) (by kernel_rfl) (args_clean (by kernel_rfl) args_nil) (F59_ok n a0.F.a0 r3 hr) (by kernel_rfl))) (fun r3 => ?_)
    refine SimI.run 2 [(54, .one (lb (!(r3)))), (53, .one (lb (!(r3))))] [] (by kernel_rfl) ?_
    refine SimI.split 54 (!(r3)) (by kernel_rfl) ?_ ?_
    · refine SimI.run 17 [(71, .one (lb true)), (70, .tup []), (69, .tup []), (68, .tup []), (67, .tup []), (66, .tup []), (65, .tup []), (64, .tup []), (63, .tup []), (62, .tup []), (61, .tup []), (60, .tup []), (59, .tup []), (58, .tup []), (57, .tup []), (56, .tup []), (55, .tup [])] [] (by kernel_rfl) ?_
      refine SimI.done (by kernel_rfl) ?_
      refine SimE.thenN ?_
      refine Sim.condT (by kernel_rfl) ?_
      refine Sim.seq ?_
      refine Sim.region0 ?_
      refine SimI.run 1 [(2, .one (lb false))] [] (by kernel_rfl) ?_
      refine SimI.done (by kernel_rfl) ?_
      refine SimE.thenN ?_
      refine Sim.ret ?_
      refine SimE.blockR ?_
      refine SimE.thenR ?_
      refine SimE.loopR ?_
      refine SimE.blockR ?_
      refine SimE.thenR ?_
      exact SimE.fin (by kernel_rfl)
    · refine SimI.run 9 [(63, .one (lb ((bitsI .and .u8 (shrI .u8 a0.Mask 1) 1) == 0))), (62, .one (lb ((bitsI .and .u8 (shrI .u8 a0.Mask 1) 1) == 0))), (61, .one (li .u8 (bitsI .and .u8 (shrI .u8 a0.Mask 1) 1))), (60, .one (li .u8 (shrI .u8 a0.Mask 1))), (59, .one (li .u64 1)), (58, .one (li .i64 1)), (57, .one (li .i64 0)), (56, .one (li .u8 a0.Mask)), (55, .one (.ptr 1 1))] [] (by kernel_rfl) ?_
      refine SimI.split 63 ((bitsI .and .u8 (shrI .u8 a0.Mask 1) 1) == 0) (by kernel_rfl) ?_ ?_
      · refine SimI.run 5 [(68, .agg [li .i64 0, ls ByteArray.empty]), (67, .agg [li .i64 a0.F.a0.N, ls a0.F.a0.Text]), (66, .one (.ptr 1 4)), (65, .one (.ptr 1 4)), (64, .one (li .i64 0))] [] (by kernel_rfl) ?_
        refine SimI.step { dst := some 69, op := POp.prim (Prim.bin BinOp.neq 25 false false) [Operand.tmp 67, Operand.tmp 68], guard := some (63, true), hints := [] } [(69, .one (lb (!(Field.eqb a0.F.a0 (Field.mk 0 ByteArray.empty)))))] [] (by kernel_rfl) (pOp_eff (by kernel_rfl) (by kernel_rfl) (eff_prim (by kernel_rfl) (Field_eqn a0.F.a0 (Field.mk 0 ByteArray.empty) _ _))) ?_
        refine SimI.run 2 [(71, .one (lb (!(Field.eqb a0.F.a0 (Field.mk 0 ByteArray.empty))))), (70, .one (lb (!(Field.eqb a0.F.a0 (Field.mk 0 ByteArray.empty)))))] [] (by kernel_rfl) ?_
        refine SimI.done (by kernel_rfl) ?_
        refine SimE.thenN ?_
        refine Sim.cond (!(Field.eqb a0.F.a0 (Field.mk 0 ByteArray.empty))) (by kernel_rfl) ?_ ?_
        · refine Sim.seq ?_
          refine Sim.region0 ?_
          refine SimI.run 1 [(2, .one (lb false))] [] (by kernel_rfl) ?_
          refine SimI.done (by kernel_rfl) ?_
          refine SimE.thenN ?_
          refine Sim.ret ?_
          refine SimE.blockR ?_
          refine SimE.thenR ?_
          refine SimE.loopR ?_
          refine SimE.blockR ?_
          refine SimE.thenR ?_
          exact SimE.fin (by kernel_rfl)
        · refine Sim.skip ?_
          refine SimE.blockN ?_
          refine SimE.thenN ?_
          refine Sim.region0 ?_
          refine SimI.run 3 [(3, .one (li .i64 1)), (47, .one (li .i64 1)), (46, .one (li .i64 0))] [] (by kernel_rfl) ?_
          refine SimI.done (by kernel_rfl) ?_
          refine SimE.loopN ?_
          refine SimL.pre (ts := [1, 3]) (os := [1]) (ow := []) [(1, .one (.ptr 1 0)), (3, .one (li .i64 1))] [(1, some (.cells (Delta.cells a0)))] (by kernel_rfl) (by kernel_rfl) (by kernel_rfl) ?_
          exact F94_u4_ok n a0
      · refine SimI.run 8 [(71, .one (lb false)), (70, .one (lb false)), (69, .tup []), (68, .tup []), (67, .tup []), (66, .tup []), (65, .tup []), (64, .tup [])] [] (by kernel_rfl) ?_
        refine SimI.done (by kernel_rfl) ?_
        refine SimE.thenN ?_
        refine Sim.condF (by kernel_rfl) ?_
        refine Sim.skip ?_
        refine SimE.blockN ?_
        refine SimE.thenN ?_
        refine Sim.region0 ?_
        refine SimI.run 3 [(3, .one (li .i64 1)), (47, .one (li .i64 1)), (46, .one (li .i64 0))] [] (by kernel_rfl) ?_
        refine SimI.done (by kernel_rfl) ?_
        refine SimE.loopN ?_
        refine SimL.pre (ts := [1, 3]) (os := [1]) (ow := []) [(1, .one (.ptr 1 0)), (3, .one (li .i64 1))] [(1, some (.cells (Delta.cells a0)))] (by kernel_rfl) (by kernel_rfl) (by kernel_rfl) ?_
        exact F94_u4_ok n a0

def F94 (n : Nat) (a0 : Delta) : Option Bool :=
  if decide (a0.ID < 0) then
    some false
  else
    if decide ((1000000 : Int) < a0.ID) then
      some false
    else
      if decide (a0.Mask < 1) then
        some false
      else
        if decide ((31 : Int) < a0.Mask) then
          some false
        else
          if (bitsI .and .u8 a0.Mask 1) != 0 then
            (F58 n a0.At).bind fun (r1 : Bool) =>
            if !(r1) then
              some false
            else
              if (bitsI .and .u8 a0.Mask 1) == 0 then
                if !(Point.eqb a0.At (Point.mk 0 0)) then
                  some false
                else
                  F94_j2 n a0
              else
                F94_j2 n a0
          else
            if (bitsI .and .u8 a0.Mask 1) == 0 then
              if !(Point.eqb a0.At (Point.mk 0 0)) then
                some false
              else
                F94_j2 n a0
            else
              F94_j2 n a0
theorem F94_ok (n : Nat) (a0 : Delta) : ∀ r, F94 n a0 = some r → D 94 [.agg (Delta.cells a0)] [] = some (F94_e r) := by
  refine fn_to (D := D) (n := n + 8) (nt := 72) (rs := pc94_r) (c := pc94_c42) (L := [(0, .agg (Delta.cells a0))]) (M := []) (k := 0) rfl rfl rfl rfl rfl rfl rfl ?_
  unfold F94
  refine Sim.seq ?_
  refine Sim.region0 ?_
  refine SimI.run 2 [(2, .one (lb false)), (1, .one (.ptr 1 0))] [(1, some (.cells (Delta.cells a0)))] (by kernel_rfl) ?_
  refine SimI.done (by kernel_rfl) ?_
  refine SimE.thenN ?_
  refine Sim.seq ?_
  refine Sim.seq ?_
  refine Sim.region0 ?_
  refine SimI.run 4 [(7, .one (lb (decide (a0.ID < 0)))), (6, .one (lb (decide (a0.ID < 0)))), (5, .one (li .i64 a0.ID)), (4, .one (.ptr 1 0))] [] (by kernel_rfl) ?_
  refine SimI.split 7 (decide (a0.ID < 0)) (by kernel_rfl) ?_ ?_
  · refine SimI.run 14 [(21, .one (lb true)), (20, .tup []), (19, .tup []), (18, .tup []), (17, .one (lb true)), (16, .one (lb true)), (15, .tup []), (14, .tup []), (13, .tup []), (12, .one (lb true)), (11, .one (lb true)), (10, .tup []), (9, .tup []), (8, .tup [])] [] (by kernel_rfl) ?_
    refine SimI.done (by kernel_rfl) ?_
    refine SimE.thenN ?_
    refine Sim.condT (by kernel_rfl) ?_
    refine Sim.seq ?_
    refine Sim.region0 ?_
    refine SimI.run 1 [(2, .one (lb false))] [] (by kernel_rfl) ?_
    refine SimI.done (by kernel_rfl) ?_
    refine SimE.thenN ?_
    refine Sim.ret ?_
    refine SimE.thenR ?_
    exact SimE.fin (by kernel_rfl)
  · refine SimI.run 5 [(12, .one (lb (decide ((1000000 : Int) < a0.ID)))), (11, .one (lb (decide ((1000000 : Int) < a0.ID)))), (10, .one (lb (decide ((1000000 : Int) < a0.ID)))), (9, .one (li .i64 a0.ID)), (8, .one (.ptr 1 0))] [] (by kernel_rfl) ?_
    refine SimI.split 12 (decide ((1000000 : Int) < a0.ID)) (by kernel_rfl) ?_ ?_
    · refine SimI.run 9 [(21, .one (lb true)), (20, .tup []), (19, .tup []), (18, .tup []), (17, .one (lb true)), (16, .one (lb true)), (15, .tup []), (14, .tup []), (13, .tup [])] [] (by kernel_rfl) ?_
      refine SimI.done (by kernel_rfl) ?_
      refine SimE.thenN ?_
      refine Sim.condT (by kernel_rfl) ?_
      refine Sim.seq ?_
      refine Sim.region0 ?_
      refine SimI.run 1 [(2, .one (lb false))] [] (by kernel_rfl) ?_
      refine SimI.done (by kernel_rfl) ?_
      refine SimE.thenN ?_
      refine Sim.ret ?_
      refine SimE.thenR ?_
      exact SimE.fin (by kernel_rfl)
    · refine SimI.run 5 [(17, .one (lb (decide (a0.Mask < 1)))), (16, .one (lb (decide (a0.Mask < 1)))), (15, .one (lb (decide (a0.Mask < 1)))), (14, .one (li .u8 a0.Mask)), (13, .one (.ptr 1 1))] [] (by kernel_rfl) ?_
      refine SimI.split 17 (decide (a0.Mask < 1)) (by kernel_rfl) ?_ ?_
      · refine SimI.run 4 [(21, .one (lb true)), (20, .tup []), (19, .tup []), (18, .tup [])] [] (by kernel_rfl) ?_
        refine SimI.done (by kernel_rfl) ?_
        refine SimE.thenN ?_
        refine Sim.condT (by kernel_rfl) ?_
        refine Sim.seq ?_
        refine Sim.region0 ?_
        refine SimI.run 1 [(2, .one (lb false))] [] (by kernel_rfl) ?_
        refine SimI.done (by kernel_rfl) ?_
        refine SimE.thenN ?_
        refine Sim.ret ?_
        refine SimE.thenR ?_
        exact SimE.fin (by kernel_rfl)
      · refine SimI.run 4 [(21, .one (lb (decide ((31 : Int) < a0.Mask)))), (20, .one (lb (decide ((31 : Int) < a0.Mask)))), (19, .one (li .u8 a0.Mask)), (18, .one (.ptr 1 1))] [] (by kernel_rfl) ?_
        refine SimI.done (by kernel_rfl) ?_
        refine SimE.thenN ?_
        refine Sim.cond (decide ((31 : Int) < a0.Mask)) (by kernel_rfl) ?_ ?_
        · refine Sim.seq ?_
          refine Sim.region0 ?_
          refine SimI.run 1 [(2, .one (lb false))] [] (by kernel_rfl) ?_
          refine SimI.done (by kernel_rfl) ?_
          refine SimE.thenN ?_
          refine Sim.ret ?_
          refine SimE.thenR ?_
          exact SimE.fin (by kernel_rfl)
        · refine Sim.skip ?_
          refine SimE.thenN ?_
          refine Sim.seq ?_
          refine Sim.seq ?_
          refine Sim.region0 ?_
          refine SimI.run 5 [(26, .one (lb ((bitsI .and .u8 a0.Mask 1) != 0))), (25, .one (lb ((bitsI .and .u8 a0.Mask 1) != 0))), (24, .one (li .u8 (bitsI .and .u8 a0.Mask 1))), (23, .one (li .u8 a0.Mask)), (22, .one (.ptr 1 1))] [] (by kernel_rfl) ?_
          refine SimI.split 26 ((bitsI .and .u8 a0.Mask 1) != 0) (by kernel_rfl) ?_ ?_
          · refine SimI.run 2 [(28, .agg [li .i64 a0.At.X, li .i64 a0.At.Y]), (27, .one (.ptr 1 2))] [] (by kernel_rfl) ?_
            refine SimI.bind (og := F58 n a0.At) { dst := some 29, op := POp.call true [[]] 58 [Operand.tmp 28], guard := some (26, true), hints := [] } (fun r1 => [(29, .one (lb r1))]) (fun r1 => []) (by kernel_rfl) (fun r1 hr => pOp_eff (by kernel_rfl) (by kernel_rfl) (eff_call (ARGS := [.agg [li .i64 a0.At.X, li .i64 a0.At.Y]]) (by kernel_rfl) (args_clean (by kernel_rfl) args_nil) (F58_ok n a0.At r1 hr) (by kernel_rfl))) (fun r1 => ?_)
            refine SimI.run 3 [(32, .one (lb (!(r1)))), (31, .one (lb (!(r1)))), (30, .one (lb (!(r1))))] [] (by kernel_rfl) ?_
            refine SimI.split 32 (!(r1)) (by kernel_rfl) ?_ ?_
            · refine SimI.run 11 [(43, .one (lb true)), (42, .tup []), (41, .tup []), (40, .tup []), (39, .tup []), (38, .tup []), (37, .tup []), (36, .tup []), (35, .tup []), (34, .tup []), (33, .tup [])] [] (by kernel_rfl) ?_
              refine SimI.done (by kernel_rfl) ?_
              refine SimE.thenN ?_
              refine Sim.condT (by kernel_rfl) ?_
              refine Sim.seq ?_
              refine Sim.region0 ?_
              refine SimI.run 1 [(2, .one (lb false))] [] (by kernel_rfl) ?_
              refine SimI.done (by kernel_rfl) ?_
              refine SimE.thenN ?_
              refine Sim.ret ?_
              refine SimE.thenR ?_
              exact SimE.fin (by kernel_rfl)
            · refine SimI.run 5 [(37, .one (lb ((bitsI .and .u8 a0.Mask 1) == 0))), (36, .one (lb ((bitsI .and .u8 a0.Mask 1) == 0))), (35, .one (li .u8 (bitsI .and .u8 a0.Mask 1))), (34, .one (li .u8 a0.Mask)), (33, .one (.ptr 1 1))] [] (by kernel_rfl) ?_
              refine SimI.split 37 ((bitsI .and .u8 a0.Mask 1) == 0) (by kernel_rfl) ?_ ?_
              · refine SimI.run 3 [(40, .agg [li .i64 0, li .i64 0]), (39, .agg [li .i64 a0.At.X, li .i64 a0.At.Y]), (38, .one (.ptr 1 2))] [] (by kernel_rfl) ?_
                refine SimI.step { dst := some 41, op := POp.prim (Prim.bin BinOp.neq 23 false false) [Operand.tmp 39, Operand.tmp 40], guard := some (37, true), hints := [] } [(41, .one (lb (!(Point.eqb a0.At (Point.mk 0 0)))))] [] (by kernel_rfl) (pOp_eff (by kernel_rfl) (by kernel_rfl) (eff_prim (by kernel_rfl) (Point_eqn a0.At (Point.mk 0 0) _ _))) ?_
                refine SimI.run 2 [(43, .one (lb (!(Point.eqb a0.At (Point.mk 0 0))))), (42, .one (lb (!(Point.eqb a0.At (Point.mk 0 0)))))] [] (by kernel_rfl) ?_
                refine SimI.done (by kernel_rfl) ?_
                refine SimE.thenN ?_
                refine Sim.cond (!(Point.eqb a0.At (Point.mk 0 0))) (by kernel_rfl) ?_ ?_
                · refine Sim.seq ?_
                  refine Sim.region0 ?_
                  refine SimI.run 1 [(2, .one (lb false))] [] (by kernel_rfl) ?_
                  refine SimI.done (by kernel_rfl) ?_
                  refine SimE.thenN ?_
                  refine Sim.ret ?_
                  refine SimE.thenR ?_
                  exact SimE.fin (by kernel_rfl)
                · refine Sim.skip ?_
                  refine SimE.thenN ?_
                  refine Sim.pre (ts := [1]) (os := [1]) (ow := []) [(1, .one (.ptr 1 0))] [(1, some (.cells (Delta.cells a0)))] (by kernel_rfl) (by kernel_rfl) (by kernel_rfl) ?_
                  exact F94_j2_ok n a0
              · refine SimI.run 6 [(43, .one (lb false)), (42, .one (lb false)), (41, .tup []), (40, .tup []), (39, .tup []), (38, .tup [])] [] (by kernel_rfl) ?_
                refine SimI.done (by kernel_rfl) ?_
                refine SimE.thenN ?_
                refine Sim.condF (by kernel_rfl) ?_
                refine Sim.skip ?_
                refine SimE.thenN ?_
                refine Sim.pre (ts := [1]) (os := [1]) (ow := []) [(1, .one (.ptr 1 0))] [(1, some (.cells (Delta.cells a0)))] (by kernel_rfl) (by kernel_rfl) (by kernel_rfl) ?_
                exact F94_j2_ok n a0
          · refine SimI.run 11 [(37, .one (lb ((bitsI .and .u8 a0.Mask 1) == 0))), (36, .one (lb ((bitsI .and .u8 a0.Mask 1) == 0))), (35, .one (li .u8 (bitsI .and .u8 a0.Mask 1))), (34, .one (li .u8 a0.Mask)), (33, .one (.ptr 1 1)), (32, .one (lb false)), (31, .one (lb false)), (30, .tup []), (29, .tup []), (28, .tup []), (27, .tup [])] [] (by kernel_rfl) ?_
            refine SimI.split 37 ((bitsI .and .u8 a0.Mask 1) == 0) (by kernel_rfl) ?_ ?_
            · refine SimI.run 3 [(40, .agg [li .i64 0, li .i64 0]), (39, .agg [li .i64 a0.At.X, li .i64 a0.At.Y]), (38, .one (.ptr 1 2))] [] (by kernel_rfl) ?_
              refine SimI.step { dst := some 41, op := POp.prim (Prim.bin BinOp.neq 23 false false) [Operand.tmp 39, Operand.tmp 40], guard := some (37, true), hints := [] } [(41, .one (lb (!(Point.eqb a0.At (Point.mk 0 0)))))] [] (by kernel_rfl) (pOp_eff (by kernel_rfl) (by kernel_rfl) (eff_prim (by kernel_rfl) (Point_eqn a0.At (Point.mk 0 0) _ _))) ?_
              refine SimI.run 2 [(43, .one (lb (!(Point.eqb a0.At (Point.mk 0 0))))), (42, .one (lb (!(Point.eqb a0.At (Point.mk 0 0)))))] [] (by kernel_rfl) ?_
              refine SimI.done (by kernel_rfl) ?_
              refine SimE.thenN ?_
              refine Sim.cond (!(Point.eqb a0.At (Point.mk 0 0))) (by kernel_rfl) ?_ ?_
              · refine Sim.seq ?_
                refine Sim.region0 ?_
                refine SimI.run 1 [(2, .one (lb false))] [] (by kernel_rfl) ?_
                refine SimI.done (by kernel_rfl) ?_
                refine SimE.thenN ?_
                refine Sim.ret ?_
                refine SimE.thenR ?_
                exact SimE.fin (by kernel_rfl)
              · refine Sim.skip ?_
                refine SimE.thenN ?_
                refine Sim.pre (ts := [1]) (os := [1]) (ow := []) [(1, .one (.ptr 1 0))] [(1, some (.cells (Delta.cells a0)))] (by kernel_rfl) (by kernel_rfl) (by kernel_rfl) ?_
                exact F94_j2_ok n a0
            · refine SimI.run 6 [(43, .one (lb false)), (42, .one (lb false)), (41, .tup []), (40, .tup []), (39, .tup []), (38, .tup [])] [] (by kernel_rfl) ?_
              refine SimI.done (by kernel_rfl) ?_
              refine SimE.thenN ?_
              refine Sim.condF (by kernel_rfl) ?_
              refine Sim.skip ?_
              refine SimE.thenN ?_
              refine Sim.pre (ts := [1]) (os := [1]) (ow := []) [(1, .one (.ptr 1 0))] [(1, some (.cells (Delta.cells a0)))] (by kernel_rfl) (by kernel_rfl) (by kernel_rfl) ?_
              exact F94_j2_ok n a0


end Go.Proofs.Ytobeamaaifgllaa
