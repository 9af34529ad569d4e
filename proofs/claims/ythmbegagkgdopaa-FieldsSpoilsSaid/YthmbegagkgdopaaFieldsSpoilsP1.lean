/-
  Functions of the program as functions of Lean. No condition.
-/
import Derived.Test.YthmbegagkgdopaaFieldsSpoilsP0
namespace Go.Proofs.Ythmbegagkgdopaa
open Go Go.Rx
set_option maxRecDepth 100000
set_option linter.unusedVariables false
set_option linter.unusedSimpArgs false
set_option linter.unnecessarySimpa false
-- 6: vedette/vedettelaw6.FieldsChain
def F6_e : Bool → PV × List (List Lf) := fun r => (.one (lb r), [])
def F6_j46 (n : Nat) (a0 : Thing) (a2 : Thing) (r5 : (Delta × Bool)) (r6 : (Delta × Bool)) (r7 : (Delta × Bool)) (i22 : Int) (i23 : Int) (i24 : Int) (i25 : Int) (s26 : ByteArray) (i27 : Int) (s28 : ByteArray) (i29 : Int) (s30 : ByteArray) (i31 : Int) (s32 : ByteArray) (i35 : Int) (i36 : Int) (i37 : Int) (i38 : Int) (s39 : ByteArray) (i40 : Int) (s41 : ByteArray) (i42 : Int) (s43 : ByteArray) (i44 : Int) (s45 : ByteArray) : Option Bool :=
    if Thing.eqb (Thing.mk i22 (Point.mk i23 i24) (A4.mk (Field.mk i25 s26) (Field.mk i27 s28) (Field.mk i29 s30) (Field.mk i31 s32))) (Thing.mk a0.ID a2.At a2.F) then
      if Thing.eqb (Thing.mk i35 (Point.mk i36 i37) (A4.mk (Field.mk i38 s39) (Field.mk i40 s41) (Field.mk i42 s43) (Field.mk i44 s45))) (Thing.mk a0.ID a2.At a2.F) then
        if !(r5.2) then
          some true
        else
          if !(r6.2) then
            some true
          else
            if !(r7.2) then
              some true
            else
              some ((bitsI .or .u8 (bitsI .or .u8 r5.1.Mask r6.1.Mask) r7.1.Mask) == (bitsI .or .u8 r5.1.Mask r6.1.Mask))
      else
        some false
    else
      some false
theorem F6_j46_ok (n : Nat) (a0 : Thing) (a1 : Thing) (a2 : Thing) (r5 : (Delta × Bool)) (r6 : (Delta × Bool)) (r7 : (Delta × Bool)) (i22 : Int) (i23 : Int) (i24 : Int) (i25 : Int) (s26 : ByteArray) (i27 : Int) (s28 : ByteArray) (i29 : Int) (s30 : ByteArray) (i31 : Int) (s32 : ByteArray) (i35 : Int) (i36 : Int) (i37 : Int) (i38 : Int) (s39 : ByteArray) (i40 : Int) (s41 : ByteArray) (i42 : Int) (s43 : ByteArray) (i44 : Int) (s45 : ByteArray) : Sim Try.prog D (n + 8) pc6_c39 [(5, .one (.ptr 5 0)), (7, .one (.ptr 7 0)), (8, .one (lb r5.2)), (9, .one (.ptr 9 0)), (10, .one (lb r6.2)), (11, .one (.ptr 11 0)), (12, .one (lb r7.2)), (13, .one (.ptr 13 0)), (14, .one (.ptr 14 0))] ((5, some (.cells [li .i64 a0.ID, li .i64 a2.At.X, li .i64 a2.At.Y, li .i64 a2.F.a0.N, ls a2.F.a0.Text, li .i64 a2.F.a1.N, ls a2.F.a1.Text, li .i64 a2.F.a2.N, ls a2.F.a2.Text, li .i64 a2.F.a3.N, ls a2.F.a3.Text])) :: ((7, some (.cells [li .i64 r5.1.ID, li .u8 r5.1.Mask, li .i64 r5.1.At.X, li .i64 r5.1.At.Y, li .i64 r5.1.F.a0.N, ls r5.1.F.a0.Text, li .i64 r5.1.F.a1.N, ls r5.1.F.a1.Text, li .i64 r5.1.F.a2.N, ls r5.1.F.a2.Text, li .i64 r5.1.F.a3.N, ls r5.1.F.a3.Text])) :: ((9, some (.cells [li .i64 r6.1.ID, li .u8 r6.1.Mask, li .i64 r6.1.At.X, li .i64 r6.1.At.Y, li .i64 r6.1.F.a0.N, ls r6.1.F.a0.Text, li .i64 r6.1.F.a1.N, ls r6.1.F.a1.Text, li .i64 r6.1.F.a2.N, ls r6.1.F.a2.Text, li .i64 r6.1.F.a3.N, ls r6.1.F.a3.Text])) :: ((11, some (.cells [li .i64 r7.1.ID, li .u8 r7.1.Mask, li .i64 r7.1.At.X, li .i64 r7.1.At.Y, li .i64 r7.1.F.a0.N, ls r7.1.F.a0.Text, li .i64 r7.1.F.a1.N, ls r7.1.F.a1.Text, li .i64 r7.1.F.a2.N, ls r7.1.F.a2.Text, li .i64 r7.1.F.a3.N, ls r7.1.F.a3.Text])) :: ((13, some (.cells [li .i64 i22, li .i64 i23, li .i64 i24, li .i64 i25, ls s26, li .i64 i27, ls s28, li .i64 i29, ls s30, li .i64 i31, ls s32])) :: ((14, some (.cells [li .i64 i35, li .i64 i36, li .i64 i37, li .i64 i38, ls s39, li .i64 i40, ls s41, li .i64 i42, ls s43, li .i64 i44, ls s45])) :: [])))))) (F6_j46 n a0 a2 r5 r6 r7 i22 i23 i24 i25 s26 i27 s28 i29 s30 i31 s32 i35 i36 i37 i38 s39 i40 s41 i42 s43 i44 s45) (QF pc6_r 0 F6_e) := by
    unfold F6_j46
    refine Sim.seq ?_
    refine Sim.region [(5, .one (.ptr 5 0)), (7, .one (.ptr 7 0)), (8, .one (lb r5.2)), (9, .one (.ptr 9 0)), (10, .one (lb r6.2)), (11, .one (.ptr 11 0)), (12, .one (lb r7.2)), (13, .one (.ptr 13 0)), (14, .one (.ptr 14 0))] ((5, some (.cells [li .i64 a0.ID, li .i64 a2.At.X, li .i64 a2.At.Y, li .i64 a2.F.a0.N, ls a2.F.a0.Text, li .i64 a2.F.a1.N, ls a2.F.a1.Text, li .i64 a2.F.a2.N, ls a2.F.a2.Text, li .i64 a2.F.a3.N, ls a2.F.a3.Text])) :: ((7, some (.cells [li .i64 r5.1.ID, li .u8 r5.1.Mask, li .i64 r5.1.At.X, li .i64 r5.1.At.Y, li .i64 r5.1.F.a0.N, ls r5.1.F.a0.Text, li .i64 r5.1.F.a1.N, ls r5.1.F.a1.Text, li .i64 r5.1.F.a2.N, ls r5.1.F.a2.Text, li .i64 r5.1.F.a3.N, ls r5.1.F.a3.Text])) :: ((9, some (.cells [li .i64 r6.1.ID, li .u8 r6.1.Mask, li .i64 r6.1.At.X, li .i64 r6.1.At.Y, li .i64 r6.1.F.a0.N, ls r6.1.F.a0.Text, li .i64 r6.1.F.a1.N, ls r6.1.F.a1.Text, li .i64 r6.1.F.a2.N, ls r6.1.F.a2.Text, li .i64 r6.1.F.a3.N, ls r6.1.F.a3.Text])) :: ((11, some (.cells [li .i64 r7.1.ID, li .u8 r7.1.Mask, li .i64 r7.1.At.X, li .i64 r7.1.At.Y, li .i64 r7.1.F.a0.N, ls r7.1.F.a0.Text, li .i64 r7.1.F.a1.N, ls r7.1.F.a1.Text, li .i64 r7.1.F.a2.N, ls r7.1.F.a2.Text, li .i64 r7.1.F.a3.N, ls r7.1.F.a3.Text])) :: ((13, some (.cells [li .i64 i22, li .i64 i23, li .i64 i24, li .i64 i25, ls s26, li .i64 i27, ls s28, li .i64 i29, ls s30, li .i64 i31, ls s32])) :: ((14, some (.cells [li .i64 i35, li .i64 i36, li .i64 i37, li .i64 i38, ls s39, li .i64 i40, ls s41, li .i64 i42, ls s43, li .i64 i44, ls s45])) :: [])))))) (by kernel_rfl) ?_
    refine SimI.run 2 [(69, .agg [li .i64 a0.ID, li .i64 a2.At.X, li .i64 a2.At.Y, li .i64 a2.F.a0.N, ls a2.F.a0.Text, li .i64 a2.F.a1.N, ls a2.F.a1.Text, li .i64 a2.F.a2.N, ls a2.F.a2.Text, li .i64 a2.F.a3.N, ls a2.F.a3.Text]), (68, .agg [li .i64 i22, li .i64 i23, li .i64 i24, li .i64 i25, ls s26, li .i64 i27, ls s28, li .i64 i29, ls s30, li .i64 i31, ls s32])] [] (by kernel_rfl) ?_
    refine SimI.step { dst := some 70, op := POp.prim (Prim.bin BinOp.eql 28 false false) [Operand.tmp 68, Operand.tmp 69], guard := none, hints := [] } [(70, .one (lb (Thing.eqb (Thing.mk i22 (Point.mk i23 i24) (A4.mk (Field.mk i25 s26) (Field.mk i27 s28) (Field.mk i29 s30) (Field.mk i31 s32))) (Thing.mk a0.ID a2.At a2.F))))] [] (by kernel_rfl) (pOp_eff (by kernel_rfl) (by kernel_rfl) (eff_prim (by kernel_rfl) (Thing_eql (Thing.mk i22 (Point.mk i23 i24) (A4.mk (Field.mk i25 s26) (Field.mk i27 s28) (Field.mk i29 s30) (Field.mk i31 s32))) (Thing.mk a0.ID a2.At a2.F) _ _))) ?_
    refine SimI.run 1 [(71, .one (lb (Thing.eqb (Thing.mk i22 (Point.mk i23 i24) (A4.mk (Field.mk i25 s26) (Field.mk i27 s28) (Field.mk i29 s30) (Field.mk i31 s32))) (Thing.mk a0.ID a2.At a2.F))))] [] (by kernel_rfl) ?_
    refine SimI.split 71 (Thing.eqb (Thing.mk i22 (Point.mk i23 i24) (A4.mk (Field.mk i25 s26) (Field.mk i27 s28) (Field.mk i29 s30) (Field.mk i31 s32))) (Thing.mk a0.ID a2.At a2.F)) (by kernel_rfl) ?_ ?_
    · refine SimI.run 2 [(73, .agg [li .i64 a0.ID, li .i64 a2.At.X, li .i64 a2.At.Y, li .i64 a2.F.a0.N, ls a2.F.a0.Text, li .i64 a2.F.a1.N, ls a2.F.a1.Text, li .i64 a2.F.a2.N, ls a2.F.a2.Text, li .i64 a2.F.a3.N, ls a2.F.a3.Text]), (72, .agg [li .i64 i35, li .i64 i36, li .i64 i37, li .i64 i38, ls s39, li .i64 i40, ls s41, li .i64 i42, ls s43, li .i64 i44, ls s45])] [] (by kernel_rfl) ?_
      refine SimI.step { dst := some 74, op := POp.prim (Prim.bin BinOp.eql 28 false false) [Operand.tmp 72, Operand.tmp 73], guard := some (71, true), hints := [] } [(74, .one (lb (Thing.eqb (Thing.mk i35 (Point.mk i36 i37) (A4.mk (Field.mk i38 s39) (Field.mk i40 s41) (Field.mk i42 s43) (Field.mk i44 s45))) (Thing.mk a0.ID a2.At a2.F))))] [] (by kernel_rfl) (pOp_eff (by kernel_rfl) (by kernel_rfl) (eff_prim (by kernel_rfl) (Thing_eql (Thing.mk i35 (Point.mk i36 i37) (A4.mk (Field.mk i38 s39) (Field.mk i40 s41) (Field.mk i42 s43) (Field.mk i44 s45))) (Thing.mk a0.ID a2.At a2.F) _ _))) ?_
      refine SimI.run 2 [(76, .one (lb (Thing.eqb (Thing.mk i35 (Point.mk i36 i37) (A4.mk (Field.mk i38 s39) (Field.mk i40 s41) (Field.mk i42 s43) (Field.mk i44 s45))) (Thing.mk a0.ID a2.At a2.F)))), (75, .one (lb (Thing.eqb (Thing.mk i35 (Point.mk i36 i37) (A4.mk (Field.mk i38 s39) (Field.mk i40 s41) (Field.mk i42 s43) (Field.mk i44 s45))) (Thing.mk a0.ID a2.At a2.F))))] [] (by kernel_rfl) ?_
      refine SimI.split 76 (Thing.eqb (Thing.mk i35 (Point.mk i36 i37) (A4.mk (Field.mk i38 s39) (Field.mk i40 s41) (Field.mk i42 s43) (Field.mk i44 s45))) (Thing.mk a0.ID a2.At a2.F)) (by kernel_rfl) ?_ ?_
      · refine SimI.run 3 [(79, .one (lb (!(r5.2)))), (78, .one (lb (!(r5.2)))), (77, .one (lb r5.2))] [] (by kernel_rfl) ?_
        refine SimI.split 79 (!(r5.2)) (by kernel_rfl) ?_ ?_
        · refine SimI.run 25 [(6, .one (lb true)), (103, .one (lb true)), (102, .one (lb true)), (101, .tup []), (100, .tup []), (99, .tup []), (98, .tup []), (97, .tup []), (96, .tup []), (95, .tup []), (94, .tup []), (93, .tup []), (92, .tup []), (91, .tup []), (90, .tup []), (89, .tup []), (88, .tup []), (87, .one (lb true)), (86, .one (lb true)), (85, .tup []), (84, .tup []), (83, .one (lb true)), (82, .one (lb true)), (81, .tup []), (80, .tup [])] [] (by kernel_rfl) ?_
          refine SimI.done (by kernel_rfl) ?_
          refine SimE.thenN ?_
          refine Sim.ret ?_
          exact SimE.fin (by kernel_rfl)
        · refine SimI.run 4 [(83, .one (lb (!(r6.2)))), (82, .one (lb (!(r6.2)))), (81, .one (lb (!(r6.2)))), (80, .one (lb r6.2))] [] (by kernel_rfl) ?_
          refine SimI.split 83 (!(r6.2)) (by kernel_rfl) ?_ ?_
          · refine SimI.run 21 [(6, .one (lb true)), (103, .one (lb true)), (102, .one (lb true)), (101, .tup []), (100, .tup []), (99, .tup []), (98, .tup []), (97, .tup []), (96, .tup []), (95, .tup []), (94, .tup []), (93, .tup []), (92, .tup []), (91, .tup []), (90, .tup []), (89, .tup []), (88, .tup []), (87, .one (lb true)), (86, .one (lb true)), (85, .tup []), (84, .tup [])] [] (by kernel_rfl) ?_
            refine SimI.done (by kernel_rfl) ?_
            refine SimE.thenN ?_
            refine Sim.ret ?_
            exact SimE.fin (by kernel_rfl)
          · refine SimI.run 4 [(87, .one (lb (!(r7.2)))), (86, .one (lb (!(r7.2)))), (85, .one (lb (!(r7.2)))), (84, .one (lb r7.2))] [] (by kernel_rfl) ?_
            refine SimI.split 87 (!(r7.2)) (by kernel_rfl) ?_ ?_
            · refine SimI.run 17 [(6, .one (lb true)), (103, .one (lb true)), (102, .one (lb true)), (101, .tup []), (100, .tup []), (99, .tup []), (98, .tup []), (97, .tup []), (96, .tup []), (95, .tup []), (94, .tup []), (93, .tup []), (92, .tup []), (91, .tup []), (90, .tup []), (89, .tup []), (88, .tup [])] [] (by kernel_rfl) ?_
              refine SimI.done (by kernel_rfl) ?_
              refine SimE.thenN ?_
              refine Sim.ret ?_
              exact SimE.fin (by kernel_rfl)
            · refine SimI.run 17 [(6, .one (lb ((bitsI .or .u8 (bitsI .or .u8 r5.1.Mask r6.1.Mask) r7.1.Mask) == (bitsI .or .u8 r5.1.Mask r6.1.Mask)))), (103, .one (lb ((bitsI .or .u8 (bitsI .or .u8 r5.1.Mask r6.1.Mask) r7.1.Mask) == (bitsI .or .u8 r5.1.Mask r6.1.Mask)))), (102, .one (lb ((bitsI .or .u8 (bitsI .or .u8 r5.1.Mask r6.1.Mask) r7.1.Mask) == (bitsI .or .u8 r5.1.Mask r6.1.Mask)))), (101, .one (lb ((bitsI .or .u8 (bitsI .or .u8 r5.1.Mask r6.1.Mask) r7.1.Mask) == (bitsI .or .u8 r5.1.Mask r6.1.Mask)))), (100, .one (li .u8 (bitsI .or .u8 r5.1.Mask r6.1.Mask))), (99, .one (li .u8 r6.1.Mask)), (98, .one (.ptr 9 1)), (97, .one (li .u8 r5.1.Mask)), (96, .one (.ptr 7 1)), (95, .one (li .u8 (bitsI .or .u8 (bitsI .or .u8 r5.1.Mask r6.1.Mask) r7.1.Mask))), (94, .one (li .u8 r7.1.Mask)), (93, .one (.ptr 11 1)), (92, .one (li .u8 (bitsI .or .u8 r5.1.Mask r6.1.Mask))), (91, .one (li .u8 r6.1.Mask)), (90, .one (.ptr 9 1)), (89, .one (li .u8 r5.1.Mask)), (88, .one (.ptr 7 1))] [] (by kernel_rfl) ?_
              refine SimI.done (by kernel_rfl) ?_
              refine SimE.thenN ?_
              refine Sim.ret ?_
              exact SimE.fin (by kernel_rfl)
      · refine SimI.run 28 [(6, .one (lb false)), (103, .one (lb false)), (102, .tup []), (101, .tup []), (100, .tup []), (99, .tup []), (98, .tup []), (97, .tup []), (96, .tup []), (95, .tup []), (94, .tup []), (93, .tup []), (92, .tup []), (91, .tup []), (90, .tup []), (89, .tup []), (88, .tup []), (87, .tup []), (86, .tup []), (85, .tup []), (84, .tup []), (83, .tup []), (82, .tup []), (81, .tup []), (80, .tup []), (79, .tup []), (78, .tup []), (77, .tup [])] [] (by kernel_rfl) ?_
        refine SimI.done (by kernel_rfl) ?_
        refine SimE.thenN ?_
        refine Sim.ret ?_
        exact SimE.fin (by kernel_rfl)
    · refine SimI.run 33 [(6, .one (lb false)), (103, .one (lb false)), (102, .tup []), (101, .tup []), (100, .tup []), (99, .tup []), (98, .tup []), (97, .tup []), (96, .tup []), (95, .tup []), (94, .tup []), (93, .tup []), (92, .tup []), (91, .tup []), (90, .tup []), (89, .tup []), (88, .tup []), (87, .tup []), (86, .tup []), (85, .tup []), (84, .tup []), (83, .tup []), (82, .tup []), (81, .tup []), (80, .tup []), (79, .tup []), (78, .tup []), (77, .tup []), (76, .one (lb false)), (75, .one (lb false)), (74, .tup []), (73, .tup []), (72, .tup [])] [] (by kernel_rfl) ?_
      refine SimI.done (by kernel_rfl) ?_
      refine SimE.thenN ?_
      refine Sim.ret ?_
      exact SimE.fin (by kernel_rfl)

def F6_j33 (n : Nat) (a0 : Thing) (a1 : Thing) (a2 : Thing) (r5 : (Delta × Bool)) (r6 : (Delta × Bool)) (r7 : (Delta × Bool)) (i22 : Int) (i23 : Int) (i24 : Int) (i25 : Int) (s26 : ByteArray) (i27 : Int) (s28 : ByteArray) (i29 : Int) (s30 : ByteArray) (i31 : Int) (s32 : ByteArray) : Option Bool :=
    if r7.2 then
      (F23 n a0 r7.1).bind fun (r34 : Thing) =>
      F6_j46 n a0 a2 r5 r6 r7 i22 i23 i24 i25 s26 i27 s28 i29 s30 i31 s32 r34.ID r34.At.X r34.At.Y r34.F.a0.N r34.F.a0.Text r34.F.a1.N r34.F.a1.Text r34.F.a2.N r34.F.a2.Text r34.F.a3.N r34.F.a3.Text
    else
      F6_j46 n a0 a2 r5 r6 r7 i22 i23 i24 i25 s26 i27 s28 i29 s30 i31 s32 a0.ID a0.At.X a0.At.Y a0.F.a0.N a0.F.a0.Text a0.F.a1.N a0.F.a1.Text a0.F.a2.N a0.F.a2.Text a0.F.a3.N a0.F.a3.Text
theorem F6_j33_ok (n : Nat) (a0 : Thing) (a1 : Thing) (a2 : Thing) (r5 : (Delta × Bool)) (r6 : (Delta × Bool)) (r7 : (Delta × Bool)) (i22 : Int) (i23 : Int) (i24 : Int) (i25 : Int) (s26 : ByteArray) (i27 : Int) (s28 : ByteArray) (i29 : Int) (s30 : ByteArray) (i31 : Int) (s32 : ByteArray) : Sim Try.prog D (n + 8) pc6_c41 [(3, .one (.ptr 3 0)), (5, .one (.ptr 5 0)), (7, .one (.ptr 7 0)), (8, .one (lb r5.2)), (9, .one (.ptr 9 0)), (10, .one (lb r6.2)), (11, .one (.ptr 11 0)), (12, .one (lb r7.2)), (13, .one (.ptr 13 0))] ((3, some (.cells [li .i64 a0.ID, li .i64 a0.At.X, li .i64 a0.At.Y, li .i64 a0.F.a0.N, ls a0.F.a0.Text, li .i64 a0.F.a1.N, ls a0.F.a1.Text, li .i64 a0.F.a2.N, ls a0.F.a2.Text, li .i64 a0.F.a3.N, ls a0.F.a3.Text])) :: ((5, some (.cells [li .i64 a0.ID, li .i64 a2.At.X, li .i64 a2.At.Y, li .i64 a2.F.a0.N, ls a2.F.a0.Text, li .i64 a2.F.a1.N, ls a2.F.a1.Text, li .i64 a2.F.a2.N, ls a2.F.a2.Text, li .i64 a2.F.a3.N, ls a2.F.a3.Text])) :: ((7, some (.cells [li .i64 r5.1.ID, li .u8 r5.1.Mask, li .i64 r5.1.At.X, li .i64 r5.1.At.Y, li .i64 r5.1.F.a0.N, ls r5.1.F.a0.Text, li .i64 r5.1.F.a1.N, ls r5.1.F.a1.Text, li .i64 r5.1.F.a2.N, ls r5.1.F.a2.Text, li .i64 r5.1.F.a3.N, ls r5.1.F.a3.Text])) :: ((9, some (.cells [li .i64 r6.1.ID, li .u8 r6.1.Mask, li .i64 r6.1.At.X, li .i64 r6.1.At.Y, li .i64 r6.1.F.a0.N, ls r6.1.F.a0.Text, li .i64 r6.1.F.a1.N, ls r6.1.F.a1.Text, li .i64 r6.1.F.a2.N, ls r6.1.F.a2.Text, li .i64 r6.1.F.a3.N, ls r6.1.F.a3.Text])) :: ((11, some (.cells [li .i64 r7.1.ID, li .u8 r7.1.Mask, li .i64 r7.1.At.X, li .i64 r7.1.At.Y, li .i64 r7.1.F.a0.N, ls r7.1.F.a0.Text, li .i64 r7.1.F.a1.N, ls r7.1.F.a1.Text, li .i64 r7.1.F.a2.N, ls r7.1.F.a2.Text, li .i64 r7.1.F.a3.N, ls r7.1.F.a3.Text])) :: ((13, some (.cells [li .i64 i22, li .i64 i23, li .i64 i24, li .i64 i25, ls s26, li .i64 i27, ls s28, li .i64 i29, ls s30, li .i64 i31, ls s32])) :: [])))))) (F6_j33 n a0 a1 a2 r5 r6 r7 i22 i23 i24 i25 s26 i27 s28 i29 s30 i31 s32) (QF pc6_r 0 F6_e) := by
    unfold F6_j33
    refine Sim.seq ?_
    refine Sim.region [(3, .one (.ptr 3 0)), (5, .one (.ptr 5 0)), (7, .one (.ptr 7 0)), (8, .one (lb r5.2)), (9, .one (.ptr 9 0)), (10, .one (lb r6.2)), (11, .one (.ptr 11 0)), (12, .one (lb r7.2)), (13, .one (.ptr 13 0))] ((3, some (.cells [li .i64 a0.ID, li .i64 a0.At.X, li .i64 a0.At.Y, li .i64 a0.F.a0.N, ls a0.F.a0.Text, li .i64 a0.F.a1.N, ls a0.F.a1.Text, li .i64 a0.F.a2.N, ls a0.F.a2.Text, li .i64 a0.F.a3.N, ls a0.F.a3.Text])) :: ((5, some (.cells [li .i64 a0.ID, li .i64 a2.At.X, li .i64 a2.At.Y, li .i64 a2.F.a0.N, ls a2.F.a0.Text, li .i64 a2.F.a1.N, ls a2.F.a1.Text, li .i64 a2.F.a2.N, ls a2.F.a2.Text, li .i64 a2.F.a3.N, ls a2.F.a3.Text])) :: ((7, some (.cells [li .i64 r5.1.ID, li .u8 r5.1.Mask, li .i64 r5.1.At.X, li .i64 r5.1.At.Y, li .i64 r5.1.F.a0.N, ls r5.1.F.a0.Text, li .i64 r5.1.F.a1.N, ls r5.1.F.a1.Text, li .i64 r5.1.F.a2.N, ls r5.1.F.a2.Text, li .i64 r5.1.F.a3.N, ls r5.1.F.a3.Text])) :: ((9, some (.cells [li .i64 r6.1.ID, li .u8 r6.1.Mask, li .i64 r6.1.At.X, li .i64 r6.1.At.Y, li .i64 r6.1.F.a0.N, ls r6.1.F.a0.Text, li .i64 r6.1.F.a1.N, ls r6.1.F.a1.Text, li .i64 r6.1.F.a2.N, ls r6.1.F.a2.Text, li .i64 r6.1.F.a3.N, ls r6.1.F.a3.Text])) :: ((11, some (.cells [li .i64 r7.1.ID, li .u8 r7.1.Mask, li .i64 r7.1.At.X, li .i64 r7.1.At.Y, li .i64 r7.1.F.a0.N, ls r7.1.F.a0.Text, li .i64 r7.1.F.a1.N, ls r7.1.F.a1.Text, li .i64 r7.1.F.a2.N, ls r7.1.F.a2.Text, li .i64 r7.1.F.a3.N, ls r7.1.F.a3.Text])) :: ((13, some (.cells [li .i64 i22, li .i64 i23, li .i64 i24, li .i64 i25, ls s26, li .i64 i27, ls s28, li .i64 i29, ls s30, li .i64 i31, ls s32])) :: [])))))) (by kernel_rfl) ?_
    refine SimI.run 3 [(14, .one (.ptr 14 0)), (63, .agg [li .i64 a0.ID, li .i64 a0.At.X, li .i64 a0.At.Y, li .i64 a0.F.a0.N, ls a0.F.a0.Text, li .i64 a0.F.a1.N, ls a0.F.a1.Text, li .i64 a0.F.a2.N, ls a0.F.a2.Text, li .i64 a0.F.a3.N, ls a0.F.a3.Text])] [(14, some (.cells [li .i64 a0.ID, li .i64 a0.At.X, li .i64 a0.At.Y, li .i64 a0.F.a0.N, ls a0.F.a0.Text, li .i64 a0.F.a1.N, ls a0.F.a1.Text, li .i64 a0.F.a2.N, ls a0.F.a2.Text, li .i64 a0.F.a3.N, ls a0.F.a3.Text])), (14, some (.cells [li .i64 0, li .i64 0, li .i64 0, li .i64 0, ls ByteArray.empty, li .i64 0, ls ByteArray.empty, li .i64 0, ls ByteArray.empty, li .i64 0, ls ByteArray.empty]))] (by kernel_rfl) ?_
    refine SimI.done (by kernel_rfl) ?_
    refine SimE.thenN ?_
    refine Sim.seq ?_
    refine Sim.seq ?_
    refine Sim.region0 ?_
    refine SimI.run 1 [(64, .one (lb r7.2))] [] (by kernel_rfl) ?_
    refine SimI.done (by kernel_rfl) ?_
    refine SimE.thenN ?_
    refine Sim.cond r7.2 (by kernel_rfl) ?_ ?_
    · refine Sim.region0 ?_
      refine SimI.run 2 [(66, .agg [li .i64 r7.1.ID, li .u8 r7.1.Mask, li .i64 r7.1.At.X, li .i64 r7.1.At.Y, li .i64 r7.1.F.a0.N, ls r7.1.F.a0.Text, li .i64 r7.1.F.a1.N, ls r7.1.F.a1.Text, li .i64 r7.1.F.a2.N, ls r7.1.F.a2.Text, li .i64 r7.1.F.a3.N, ls r7.1.F.a3.Text]), (65, .agg [li .i64 a0.ID, li .i64 a0.At.X, li .i64 a0.At.Y, li .i64 a0.F.a0.N, ls a0.F.a0.Text, li .i64 a0.F.a1.N, ls a0.F.a1.Text, li .i64 a0.F.a2.N, ls a0.F.a2.Text, li .i64 a0.F.a3.N, ls a0.F.a3.Text])] [] (by kernel_rfl) ?_
      refine SimI.bind (og := F23 n a0 r7.1) { dst := some 67, op := POp.call true [[], []] 23 [Operand.tmp 65, Operand.tmp 66], guard := none, hints := [] } (fun r34 => [(67, .agg [li .i64 r34.ID, li .i64 r34.At.X, li .i64 r34.At.Y, li .i64 r34.F.a0.N, ls r34.F.a0.Text, li .i64 r34.F.a1.N, ls r34.F.a1.Text, li .i64 r34.F.a2.N, ls r34.F.a2.Text, li .i64 r34.F.a3.N, ls r34.F.a3.Text])]) (fun r34 => []) (by kernel_rfl) (fun r34 hr => pOp_eff (by kernel_rfl) (by kernel_rfl) (eff_call (ARGS := [.agg [li .i64 a0.ID, li .i64 a0.At.X, li .i64 a0.At.Y, li .i64 a0.F.a0.N, ls a0.F.a0.Text, li .i64 a0.F.a1.N, ls a0.F.a1.Text, li .i64 a0.F.a2.N, ls a0.F.a2.Text, li .i64 a0.F.a3.N, ls a0.F.a3.Text], .agg [li .i64 r7.1.ID, li .u8 r7.1.Mask, li .i64 r7.1.At.X, li .i64 r7.1.At.Y, li .i64 r7.1.F.a0.N, ls r7.1.F.a0.Text, li .i64 r7.1.F.a1.N, ls r7.1.F.a1.Text, li .i64 r7.1.F.a2.N, ls r7.1.F.a2.Text, li .i64 r7.1.F.a3.N, ls r7.1.F.a3.Text]]) (by kernel_rfl) (args_clean (by kernel_rfl) (args_clean (by kernel_rfl) args_nil)) (F23_ok n a0 r7.1 r34 hr) (by kernel_rfl))) (fun r34 => ?_)
      refine SimI.run 1 [] [(14, some (.cells [li .i64 r34.ID, li .i64 r34.At.X, li .i64 r34.At.Y, li .i64 r34.F.a0.N, ls r34.F.a0.Text, li .i64 r34.F.a1.N, ls r34.F.a1.Text, li .i64 r34.F.a2.N, ls r34.F.a2.Text, li .i64 r34.F.a3.N, ls r34.F.a3.Text]))] (by kernel_rfl) ?_
      refine SimI.done (by kernel_rfl) ?_
      refine SimE.thenN ?_
      refine Sim.pre (ts := [5, 7, 8, 9, 10, 11, 12, 13, 14]) (os := [3, 5, 7, 9, 11, 13, 14]) [(5, .one (.ptr 5 0)), (7, .one (.ptr 7 0)), (8, .one (lb r5.2)), (9, .one (.ptr 9 0)), (10, .one (lb r6.2)), (11, .one (.ptr 11 0)), (12, .one (lb r7.2)), (13, .one (.ptr 13 0)), (14, .one (.ptr 14 0))] ((5, some (.cells [li .i64 a0.ID, li .i64 a2.At.X, li .i64 a2.At.Y, li .i64 a2.F.a0.N, ls a2.F.a0.Text, li .i64 a2.F.a1.N, ls a2.F.a1.Text, li .i64 a2.F.a2.N, ls a2.F.a2.Text, li .i64 a2.F.a3.N, ls a2.F.a3.Text])) :: ((7, some (.cells [li .i64 r5.1.ID, li .u8 r5.1.Mask, li .i64 r5.1.At.X, li .i64 r5.1.At.Y, li .i64 r5.1.F.a0.N, ls r5.1.F.a0.Text, li .i64 r5.1.F.a1.N, ls r5.1.F.a1.Text, li .i64 r5.1.F.a2.N, ls r5.1.F.a2.Text, li .i64 r5.1.F.a3.N, ls r5.1.F.a3.Text])) :: ((9, some (.cells [li .i64 r6.1.ID, li .u8 r6.1.Mask, li .i64 r6.1.At.X, li .i64 r6.1.At.Y, li .i64 r6.1.F.a0.N, ls r6.1.F.a0.Text, li .i64 r6.1.F.a1.N, ls r6.1.F.a1.Text, li .i64 r6.1.F.a2.N, ls r6.1.F.a2.Text, li .i64 r6.1.F.a3.N, ls r6.1.F.a3.Text])) :: ((11, some (.cells [li .i64 r7.1.ID, li .u8 r7.1.Mask, li .i64 r7.1.At.X, li .i64 r7.1.At.Y, li .i64 r7.1.F.a0.N, ls r7.1.F.a0.Text, li .i64 r7.1.F.a1.N, ls r7.1.F.a1.Text, li .i64 r7.1.F.a2.N, ls r7.1.F.a2.Text, li .i64 r7.1.F.a3.N, ls r7.1.F.a3.Text])) :: ((13, some (.cells [li .i64 i22, li .i64 i23, li .i64 i24, li .i64 i25, ls s26, li .i64 i27, ls s28, li .i64 i29, ls s30, li .i64 i31, ls s32])) :: ((14, some (.cells [li .i64 r34.ID, li .i64 r34.At.X, li .i64 r34.At.Y, li .i64 r34.F.a0.N, ls r34.F.a0.Text, li .i64 r34.F.a1.N, ls r34.F.a1.Text, li .i64 r34.F.a2.N, ls r34.F.a2.Text, li .i64 r34.F.a3.N, ls r34.F.a3.Text])) :: [])))))) (by kernel_rfl) (by kernel_rfl) (by kernel_rfl) ?_
      exact F6_j46_ok n a0 a1 a2 r5 r6 r7 i22 i23 i24 i25 s26 i27 s28 i29 s30 i31 s32 r34.ID r34.At.X r34.At.Y r34.F.a0.N r34.F.a0.Text r34.F.a1.N r34.F.a1.Text r34.F.a2.N r34.F.a2.Text r34.F.a3.N r34.F.a3.Text
    · refine Sim.skip ?_
      refine SimE.thenN ?_
      refine Sim.pre (ts := [5, 7, 8, 9, 10, 11, 12, 13, 14]) (os := [3, 5, 7, 9, 11, 13, 14]) [(5, .one (.ptr 5 0)), (7, .one (.ptr 7 0)), (8, .one (lb r5.2)), (9, .one (.ptr 9 0)), (10, .one (lb r6.2)), (11, .one (.ptr 11 0)), (12, .one (lb r7.2)), (13, .one (.ptr 13 0)), (14, .one (.ptr 14 0))] ((5, some (.cells [li .i64 a0.ID, li .i64 a2.At.X, li .i64 a2.At.Y, li .i64 a2.F.a0.N, ls a2.F.a0.Text, li .i64 a2.F.a1.N, ls a2.F.a1.Text, li .i64 a2.F.a2.N, ls a2.F.a2.Text, li .i64 a2.F.a3.N, ls a2.F.a3.Text])) :: ((7, some (.cells [li .i64 r5.1.ID, li .u8 r5.1.Mask, li .i64 r5.1.At.X, li .i64 r5.1.At.Y, li .i64 r5.1.F.a0.N, ls r5.1.F.a0.Text, li .i64 r5.1.F.a1.N, ls r5.1.F.a1.Text, li .i64 r5.1.F.a2.N, ls r5.1.F.a2.Text, li .i64 r5.1.F.a3.N, ls r5.1.F.a3.Text])) :: ((9, some (.cells [li .i64 r6.1.ID, li .u8 r6.1.Mask, li .i64 r6.1.At.X, li .i64 r6.1.At.Y, li .i64 r6.1.F.a0.N, ls r6.1.F.a0.Text, li .i64 r6.1.F.a1.N, ls r6.1.F.a1.Text, li .i64 r6.1.F.a2.N, ls r6.1.F.a2.Text, li .i64 r6.1.F.a3.N, ls r6.1.F.a3.Text])) :: ((11, some (.cells [li .i64 r7.1.ID, li .u8 r7.1.Mask, li .i64 r7.1.At.X, li .i64 r7.1.At.Y, li .i64 r7.1.F.a0.N, ls r7.1.F.a0.Text, li .i64 r7.1.F.a1.N, ls r7.1.F.a1.Text, li .i64 r7.1.F.a2.N, ls r7.1.F.a2.Text, li .i64 r7.1.F.a3.N, ls r7.1.F.a3.Text])) :: ((13, some (.cells [li .i64 i22, li .i64 i23, li .i64 i24, li .i64 i25, ls s26, li .i64 i27, ls s28, li .i64 i29, ls s30, li .i64 i31, ls s32])) :: ((14, some (.cells [li .i64 a0.ID, li .i64 a0.At.X, li .i64 a0.At.Y, li .i64 a0.F.a0.N, ls a0.F.a0.Text, li .i64 a0.F.a1.N, ls a0.F.a1.Text, li .i64 a0.F.a2.N, ls a0.F.a2.Text, li .i64 a0.F.a3.N, ls a0.F.a3.Text])) :: [])))))) (by kernel_rfl) (by kernel_rfl) (by kernel_rfl) ?_
      exact F6_j46_ok n a0 a1 a2 r5 r6 r7 i22 i23 i24 i25 s26 i27 s28 i29 s30 i31 s32 a0.ID a0.At.X a0.At.Y a0.F.a0.N a0.F.a0.Text a0.F.a1.N a0.F.a1.Text a0.F.a2.N a0.F.a2.Text a0.F.a3.N a0.F.a3.Text

def F6_j20 (n : Nat) (a0 : Thing) (a1 : Thing) (a2 : Thing) (r5 : (Delta × Bool)) (r6 : (Delta × Bool)) (r7 : (Delta × Bool)) (i9 : Int) (i10 : Int) (i11 : Int) (i12 : Int) (s13 : ByteArray) (i14 : Int) (s15 : ByteArray) (i16 : Int) (s17 : ByteArray) (i18 : Int) (s19 : ByteArray) : Option Bool :=
    if r6.2 then
      (F23 n (Thing.mk i9 (Point.mk i10 i11) (A4.mk (Field.mk i12 s13) (Field.mk i14 s15) (Field.mk i16 s17) (Field.mk i18 s19))) r6.1).bind fun (r21 : Thing) =>
      F6_j33 n a0 a1 a2 r5 r6 r7 r21.ID r21.At.X r21.At.Y r21.F.a0.N r21.F.a0.Text r21.F.a1.N r21.F.a1.Text r21.F.a2.N r21.F.a2.Text r21.F.a3.N r21.F.a3.Text
    else
      F6_j33 n a0 a1 a2 r5 r6 r7 i9 i10 i11 i12 s13 i14 s15 i16 s17 i18 s19
theorem F6_j20_ok (n : Nat) (a0 : Thing) (a1 : Thing) (a2 : Thing) (r5 : (Delta × Bool)) (r6 : (Delta × Bool)) (r7 : (Delta × Bool)) (i9 : Int) (i10 : Int) (i11 : Int) (i12 : Int) (s13 : ByteArray) (i14 : Int) (s15 : ByteArray) (i16 : Int) (s17 : ByteArray) (i18 : Int) (s19 : ByteArray) : Sim Try.prog D (n + 8) pc6_c42 [(3, .one (.ptr 3 0)), (5, .one (.ptr 5 0)), (7, .one (.ptr 7 0)), (8, .one (lb r5.2)), (9, .one (.ptr 9 0)), (10, .one (lb r6.2)), (11, .one (.ptr 11 0)), (12, .one (lb r7.2)), (13, .one (.ptr 13 0))] ((3, some (.cells [li .i64 a0.ID, li .i64 a0.At.X, li .i64 a0.At.Y, li .i64 a0.F.a0.N, ls a0.F.a0.Text, li .i64 a0.F.a1.N, ls a0.F.a1.Text, li .i64 a0.F.a2.N, ls a0.F.a2.Text, li .i64 a0.F.a3.N, ls a0.F.a3.Text])) :: ((5, some (.cells [li .i64 a0.ID, li .i64 a2.At.X, li .i64 a2.At.Y, li .i64 a2.F.a0.N, ls a2.F.a0.Text, li .i64 a2.F.a1.N, ls a2.F.a1.Text, li .i64 a2.F.a2.N, ls a2.F.a2.Text, li .i64 a2.F.a3.N, ls a2.F.a3.Text])) :: ((7, some (.cells [li .i64 r5.1.ID, li .u8 r5.1.Mask, li .i64 r5.1.At.X, li .i64 r5.1.At.Y, li .i64 r5.1.F.a0.N, ls r5.1.F.a0.Text, li .i64 r5.1.F.a1.N, ls r5.1.F.a1.Text, li .i64 r5.1.F.a2.N, ls r5.1.F.a2.Text, li .i64 r5.1.F.a3.N, ls r5.1.F.a3.Text])) :: ((9, some (.cells [li .i64 r6.1.ID, li .u8 r6.1.Mask, li .i64 r6.1.At.X, li .i64 r6.1.At.Y, li .i64 r6.1.F.a0.N, ls r6.1.F.a0.Text, li .i64 r6.1.F.a1.N, ls r6.1.F.a1.Text, li .i64 r6.1.F.a2.N, ls r6.1.F.a2.Text, li .i64 r6.1.F.a3.N, ls r6.1.F.a3.Text])) :: ((11, some (.cells [li .i64 r7.1.ID, li .u8 r7.1.Mask, li .i64 r7.1.At.X, li .i64 r7.1.At.Y, li .i64 r7.1.F.a0.N, ls r7.1.F.a0.Text, li .i64 r7.1.F.a1.N, ls r7.1.F.a1.Text, li .i64 r7.1.F.a2.N, ls r7.1.F.a2.Text, li .i64 r7.1.F.a3.N, ls r7.1.F.a3.Text])) :: ((13, some (.cells [li .i64 i9, li .i64 i10, li .i64 i11, li .i64 i12, ls s13, li .i64 i14, ls s15, li .i64 i16, ls s17, li .i64 i18, ls s19])) :: [])))))) (F6_j20 n a0 a1 a2 r5 r6 r7 i9 i10 i11 i12 s13 i14 s15 i16 s17 i18 s19) (QF pc6_r 0 F6_e) := by
    unfold F6_j20
    refine Sim.seq ?_
    refine Sim.seq ?_
    refine Sim.region [(3, .one (.ptr 3 0)), (5, .one (.ptr 5 0)), (7, .one (.ptr 7 0)), (8, .one (lb r5.2)), (9, .one (.ptr 9 0)), (10, .one (lb r6.2)), (11, .one (.ptr 11 0)), (12, .one (lb r7.2)), (13, .one (.ptr 13 0))] ((3, some (.cells [li .i64 a0.ID, li .i64 a0.At.X, li .i64 a0.At.Y, li .i64 a0.F.a0.N, ls a0.F.a0.Text, li .i64 a0.F.a1.N, ls a0.F.a1.Text, li .i64 a0.F.a2.N, ls a0.F.a2.Text, li .i64 a0.F.a3.N, ls a0.F.a3.Text])) :: ((5, some (.cells [li .i64 a0.ID, li .i64 a2.At.X, li .i64 a2.At.Y, li .i64 a2.F.a0.N, ls a2.F.a0.Text, li .i64 a2.F.a1.N, ls a2.F.a1.Text, li .i64 a2.F.a2.N, ls a2.F.a2.Text, li .i64 a2.F.a3.N, ls a2.F.a3.Text])) :: ((7, some (.cells [li .i64 r5.1.ID, li .u8 r5.1.Mask, li .i64 r5.1.At.X, li .i64 r5.1.At.Y, li .i64 r5.1.F.a0.N, ls r5.1.F.a0.Text, li .i64 r5.1.F.a1.N, ls r5.1.F.a1.Text, li .i64 r5.1.F.a2.N, ls r5.1.F.a2.Text, li .i64 r5.1.F.a3.N, ls r5.1.F.a3.Text])) :: ((9, some (.cells [li .i64 r6.1.ID, li .u8 r6.1.Mask, li .i64 r6.1.At.X, li .i64 r6.1.At.Y, li .i64 r6.1.F.a0.N, ls r6.1.F.a0.Text, li .i64 r6.1.F.a1.N, ls r6.1.F.a1.Text, li .i64 r6.1.F.a2.N, ls r6.1.F.a2.Text, li .i64 r6.1.F.a3.N, ls r6.1.F.a3.Text])) :: ((11, some (.cells [li .i64 r7.1.ID, li .u8 r7.1.Mask, li .i64 r7.1.At.X, li .i64 r7.1.At.Y, li .i64 r7.1.F.a0.N, ls r7.1.F.a0.Text, li .i64 r7.1.F.a1.N, ls r7.1.F.a1.Text, li .i64 r7.1.F.a2.N, ls r7.1.F.a2.Text, li .i64 r7.1.F.a3.N, ls r7.1.F.a3.Text])) :: ((13, some (.cells [li .i64 i9, li .i64 i10, li .i64 i11, li .i64 i12, ls s13, li .i64 i14, ls s15, li .i64 i16, ls s17, li .i64 i18, ls s19])) :: [])))))) (by kernel_rfl) ?_
    refine SimI.run 1 [(59, .one (lb r6.2))] [] (by kernel_rfl) ?_
    refine SimI.done (by kernel_rfl) ?_
    refine SimE.thenN ?_
    refine Sim.cond r6.2 (by kernel_rfl) ?_ ?_
    · refine Sim.region0 ?_
      refine SimI.run 2 [(61, .agg [li .i64 r6.1.ID, li .u8 r6.1.Mask, li .i64 r6.1.At.X, li .i64 r6.1.At.Y, li .i64 r6.1.F.a0.N, ls r6.1.F.a0.Text, li .i64 r6.1.F.a1.N, ls r6.1.F.a1.Text, li .i64 r6.1.F.a2.N, ls r6.1.F.a2.Text, li .i64 r6.1.F.a3.N, ls r6.1.F.a3.Text]), (60, .agg [li .i64 i9, li .i64 i10, li .i64 i11, li .i64 i12, ls s13, li .i64 i14, ls s15, li .i64 i16, ls s17, li .i64 i18, ls s19])] [] (by kernel_rfl) ?_
      refine SimI.bind (og := F23 n (Thing.mk i9 (Point.mk i10 i11) (A4.mk (Field.mk i12 s13) (Field.mk i14 s15) (Field.mk i16 s17) (Field.mk i18 s19))) r6.1) { dst := some 62, op := POp.call true [[], []] 23 [Operand.tmp 60, Operand.tmp 61], guard := none, hints := [] } (fun r21 => [(62, .agg [li .i64 r21.ID, li .i64 r21.At.X, li .i64 r21.At.Y, li .i64 r21.F.a0.N, ls r21.F.a0.Text, li .i64 r21.F.a1.N, ls r21.F.a1.Text, li .i64 r21.F.a2.N, ls r21.F.a2.Text, li .i64 r21.F.a3.N, ls r21.F.a3.Text])]) (fun r21 => []) (by kernel_rfl) (fun r21 hr => pOp_eff (by kernel_rfl) (by kernel_rfl) (eff_call (ARGS := [.agg [li .i64 i9, li .i64 i10, li .i64 i11, li .i64 i12, ls s13, li .i64 i14, ls s15, li .i64 i16, ls s17, li .i64 i18, ls s19], .agg [li .i64 r6.1.ID, li .u8 r6.1.Mask, li .i64 r6.1.At.X, li .i64 r6.1.At.Y, li .i64 r6.1.F.a0.N, ls r6.1.F.a0.Text, li .i64 r6.1.F.a1.N, ls r6.1.F.a1.Text, li .i64 r6.1.F.a2.N, ls r6.1.F.a2.Text, li .i64 r6.1.F.a3.N, ls r6.1.F.a3.Text]]) (by kernel_rfl) (args_clean (by kernel_rfl) (args_clean (by kernel_rfl) args_nil)) (F23_ok n (Thing.mk i9 (Point.mk i10 i11) (A4.mk (Field.mk i12 s13) (Field.mk i14 s15) (Field.mk i16 s17) (Field.mk i18 s19))) r6.1 r21 hr) (by kernel_rfl))) (fun r21 => ?_)
      refine SimI.run 1 [] [(13, some (.cells [li .i64 r21.ID, li .i64 r21.At.X, li .i64 r21.At.Y, li .i64 r21.F.a0.N, ls r21.F.a0.Text, li .i64 r21.F.a1.N, ls r21.F.a1.Text, li .i64 r21.F.a2.N, ls r21.F.a2.Text, li .i64 r21.F.a3.N, ls r21.F.a3.Text]))] (by kernel_rfl) ?_
      refine SimI.done (by kernel_rfl) ?_
      refine SimE.thenN ?_
      refine Sim.pre (ts := [3, 5, 7, 8, 9, 10, 11, 12, 13]) (os := [3, 5, 7, 9, 11, 13]) [(3, .one (.ptr 3 0)), (5, .one (.ptr 5 0)), (7, .one (.ptr 7 0)), (8, .one (lb r5.2)), (9, .one (.ptr 9 0)), (10, .one (lb r6.2)), (11, .one (.ptr 11 0)), (12, .one (lb r7.2)), (13, .one (.ptr 13 0))] ((3, some (.cells [li .i64 a0.ID, li .i64 a0.At.X, li .i64 a0.At.Y, li .i64 a0.F.a0.N, ls a0.F.a0.Text, li .i64 a0.F.a1.N, ls a0.F.a1.Text, li .i64 a0.F.a2.N, ls a0.F.a2.Text, li .i64 a0.F.a3.N, ls a0.F.a3.Text])) :: ((5, some (.cells [li .i64 a0.ID, li .i64 a2.At.X, li .i64 a2.At.Y, li .i64 a2.F.a0.N, ls a2.F.a0.Text, li .i64 a2.F.a1.N, ls a2.F.a1.Text, li .i64 a2.F.a2.N, ls a2.F.a2.Text, li .i64 a2.F.a3.N, ls a2.F.a3.Text])) :: ((7, some (.cells [li .i64 r5.1.ID, li .u8 r5.1.Mask, li .i64 r5.1.At.X, li .i64 r5.1.At.Y, li .i64 r5.1.F.a0.N, ls r5.1.F.a0.Text, li .i64 r5.1.F.a1.N, ls r5.1.F.a1.Text, li .i64 r5.1.F.a2.N, ls r5.1.F.a2.Text, li .i64 r5.1.F.a3.N, ls r5.1.F.a3.Text])) :: ((9, some (.cells [li .i64 r6.1.ID, li .u8 r6.1.Mask, li .i64 r6.1.At.X, li .i64 r6.1.At.Y, li .i64 r6.1.F.a0.N, ls r6.1.F.a0.Text, li .i64 r6.1.F.a1.N, ls r6.1.F.a1.Text, li .i64 r6.1.F.a2.N, ls r6.1.F.a2.Text, li .i64 r6.1.F.a3.N, ls r6.1.F.a3.Text])) :: ((11, some (.cells [li .i64 r7.1.ID, li .u8 r7.1.Mask, li .i64 r7.1.At.X, li .i64 r7.1.At.Y, li .i64 r7.1.F.a0.N, ls r7.1.F.a0.Text, li .i64 r7.1.F.a1.N, ls r7.1.F.a1.Text, li .i64 r7.1.F.a2.N, ls r7.1.F.a2.Text, li .i64 r7.1.F.a3.N, ls r7.1.F.a3.Text])) :: ((13, some (.cells [li .i64 r21.ID, li .i64 r21.At.X, li .i64 r21.At.Y, li .i64 r21.F.a0.N, ls r21.F.a0.Text, li .i64 r21.F.a1.N, ls r21.F.a1.Text, li .i64 r21.F.a2.N, ls r21.F.a2.Text, li .i64 r21.F.a3.N, ls r21.F.a3.Text])) :: [])))))) (by kernel_rfl) (by kernel_rfl) (by kernel_rfl) ?_
      exact F6_j33_ok n a0 a1 a2 r5 r6 r7 r21.ID r21.At.X r21.At.Y r21.F.a0.N r21.F.a0.Text r21.F.a1.N r21.F.a1.Text r21.F.a2.N r21.F.a2.Text r21.F.a3.N r21.F.a3.Text
    · refine Sim.skip ?_
      refine SimE.thenN ?_
      refine Sim.pre (ts := [3, 5, 7, 8, 9, 10, 11, 12, 13]) (os := [3, 5, 7, 9, 11, 13]) [(3, .one (.ptr 3 0)), (5, .one (.ptr 5 0)), (7, .one (.ptr 7 0)), (8, .one (lb r5.2)), (9, .one (.ptr 9 0)), (10, .one (lb r6.2)), (11, .one (.ptr 11 0)), (12, .one (lb r7.2)), (13, .one (.ptr 13 0))] ((3, some (.cells [li .i64 a0.ID, li .i64 a0.At.X, li .i64 a0.At.Y, li .i64 a0.F.a0.N, ls a0.F.a0.Text, li .i64 a0.F.a1.N, ls a0.F.a1.Text, li .i64 a0.F.a2.N, ls a0.F.a2.Text, li .i64 a0.F.a3.N, ls a0.F.a3.Text])) :: ((5, some (.cells [li .i64 a0.ID, li .i64 a2.At.X, li .i64 a2.At.Y, li .i64 a2.F.a0.N, ls a2.F.a0.Text, li .i64 a2.F.a1.N, ls a2.F.a1.Text, li .i64 a2.F.a2.N, ls a2.F.a2.Text, li .i64 a2.F.a3.N, ls a2.F.a3.Text])) :: ((7, some (.cells [li .i64 r5.1.ID, li .u8 r5.1.Mask, li .i64 r5.1.At.X, li .i64 r5.1.At.Y, li .i64 r5.1.F.a0.N, ls r5.1.F.a0.Text, li .i64 r5.1.F.a1.N, ls r5.1.F.a1.Text, li .i64 r5.1.F.a2.N, ls r5.1.F.a2.Text, li .i64 r5.1.F.a3.N, ls r5.1.F.a3.Text])) :: ((9, some (.cells [li .i64 r6.1.ID, li .u8 r6.1.Mask, li .i64 r6.1.At.X, li .i64 r6.1.At.Y, li .i64 r6.1.F.a0.N, ls r6.1.F.a0.Text, li .i64 r6.1.F.a1.N, ls r6.1.F.a1.Text, li .i64 r6.1.F.a2.N, ls r6.1.F.a2.Text, li .i64 r6.1.F.a3.N, ls r6.1.F.a3.Text])) :: ((11, some (.cells [li .i64 r7.1.ID, li .u8 r7.1.Mask, li .i64 r7.1.At.X, li .i64 r7.1.At.Y, li .i64 r7.1.F.a0.N, ls r7.1.F.a0.Text, li .i64 r7.1.F.a1.N, ls r7.1.F.a1.Text, li .i64 r7.1.F.a2.N, ls r7.1.F.a2.Text, li .i64 r7.1.F.a3.N, ls r7.1.F.a3.Text])) :: ((13, some (.cells [li .i64 i9, li .i64 i10, li .i64 i11, li .i64 i12, ls s13, li .i64 i14, ls s15, li .i64 i16, ls s17, li .i64 i18, ls s19])) :: [])))))) (by kernel_rfl) (by kernel_rfl) (by kernel_rfl) ?_
      exact F6_j33_ok n a0 a1 a2 r5 r6 r7 i9 i10 i11 i12 s13 i14 s15 i16 s17 i18 s19

def F6 (n : Nat) (a0 : Thing) (a1 : Thing) (a2 : Thing) : Option Bool :=
  ((some true)).bind fun (r1 : Bool) =>
  if !(r1) then
    some false
  else
    (F15 n a0).bind fun (r2 : Bool) =>
    if !(r2) then
      some true
    else
      (F15 n a1).bind fun (r3 : Bool) =>
      if !(r3) then
        some true
      else
        (F15 n a2).bind fun (r4 : Bool) =>
        if !(r4) then
          some true
        else
          (F18 n a0 (Thing.mk a0.ID a1.At a1.F)).bind fun (r5 : (Delta × Bool)) =>
          (F18 n (Thing.mk a0.ID a1.At a1.F) (Thing.mk a0.ID a2.At a2.F)).bind fun (r6 : (Delta × Bool)) =>
          (F18 n a0 (Thing.mk a0.ID a2.At a2.F)).bind fun (r7 : (Delta × Bool)) =>
          if r5.2 then
            (F23 n a0 r5.1).bind fun (r8 : Thing) =>
            F6_j20 n a0 a1 a2 r5 r6 r7 r8.ID r8.At.X r8.At.Y r8.F.a0.N r8.F.a0.Text r8.F.a1.N r8.F.a1.Text r8.F.a2.N r8.F.a2.Text r8.F.a3.N r8.F.a3.Text
          else
            F6_j20 n a0 a1 a2 r5 r6 r7 a0.ID a0.At.X a0.At.Y a0.F.a0.N a0.F.a0.Text a0.F.a1.N a0.F.a1.Text a0.F.a2.N a0.F.a2.Text a0.F.a3.N a0.F.a3.Text
theorem F6_ok (n : Nat) (a0 : Thing) (a1 : Thing) (a2 : Thing) : ∀ r, F6 n a0 a1 a2 = some r → D 6 [.agg [li .i64 a0.ID, li .i64 a0.At.X, li .i64 a0.At.Y, li .i64 a0.F.a0.N, ls a0.F.a0.Text, li .i64 a0.F.a1.N, ls a0.F.a1.Text, li .i64 a0.F.a2.N, ls a0.F.a2.Text, li .i64 a0.F.a3.N, ls a0.F.a3.Text], .agg [li .i64 a1.ID, li .i64 a1.At.X, li .i64 a1.At.Y, li .i64 a1.F.a0.N, ls a1.F.a0.Text, li .i64 a1.F.a1.N, ls a1.F.a1.Text, li .i64 a1.F.a2.N, ls a1.F.a2.Text, li .i64 a1.F.a3.N, ls a1.F.a3.Text], .agg [li .i64 a2.ID, li .i64 a2.At.X, li .i64 a2.At.Y, li .i64 a2.F.a0.N, ls a2.F.a0.Text, li .i64 a2.F.a1.N, ls a2.F.a1.Text, li .i64 a2.F.a2.N, ls a2.F.a2.Text, li .i64 a2.F.a3.N, ls a2.F.a3.Text]] [] = some (F6_e r) := by
  refine fn_to (D := D) (n := n + 8) (nt := 104) (rs := pc6_r) (c := pc6_c51) (L := [(0, .agg [li .i64 a0.ID, li .i64 a0.At.X, li .i64 a0.At.Y, li .i64 a0.F.a0.N, ls a0.F.a0.Text, li .i64 a0.F.a1.N, ls a0.F.a1.Text, li .i64 a0.F.a2.N, ls a0.F.a2.Text, li .i64 a0.F.a3.N, ls a0.F.a3.Text]), (1, .agg [li .i64 a1.ID, li .i64 a1.At.X, li .i64 a1.At.Y, li .i64 a1.F.a0.N, ls a1.F.a0.Text, li .i64 a1.F.a1.N, ls a1.F.a1.Text, li .i64 a1.F.a2.N, ls a1.F.a2.Text, li .i64 a1.F.a3.N, ls a1.F.a3.Text]), (2, .agg [li .i64 a2.ID, li .i64 a2.At.X, li .i64 a2.At.Y, li .i64 a2.F.a0.N, ls a2.F.a0.Text, li .i64 a2.F.a1.N, ls a2.F.a1.Text, li .i64 a2.F.a2.N, ls a2.F.a2.Text, li .i64 a2.F.a3.N, ls a2.F.a3.Text])]) (M := []) (k := 0) rfl rfl rfl rfl rfl rfl ?_
  unfold F6
  refine Sim.seq ?_
  refine Sim.region0 ?_
  refine SimI.run 4 [(6, .one (lb false)), (5, .one (.ptr 5 0)), (4, .one (.ptr 4 0)), (3, .one (.ptr 3 0))] [(5, some (.cells [li .i64 a2.ID, li .i64 a2.At.X, li .i64 a2.At.Y, li .i64 a2.F.a0.N, ls a2.F.a0.Text, li .i64 a2.F.a1.N, ls a2.F.a1.Text, li .i64 a2.F.a2.N, ls a2.F.a2.Text, li .i64 a2.F.a3.N, ls a2.F.a3.Text])), (4, some (.cells [li .i64 a1.ID, li .i64 a1.At.X, li .i64 a1.At.Y, li .i64 a1.F.a0.N, ls a1.F.a0.Text, li .i64 a1.F.a1.N, ls a1.F.a1.Text, li .i64 a1.F.a2.N, ls a1.F.a2.Text, li .i64 a1.F.a3.N, ls a1.F.a3.Text])), (3, some (.cells [li .i64 a0.ID, li .i64 a0.At.X, li .i64 a0.At.Y, li .i64 a0.F.a0.N, ls a0.F.a0.Text, li .i64 a0.F.a1.N, ls a0.F.a1.Text, li .i64 a0.F.a2.N, ls a0.F.a2.Text, li .i64 a0.F.a3.N, ls a0.F.a3.Text]))] (by kernel_rfl) ?_
  refine SimI.done (by kernel_rfl) ?_
  refine SimE.thenN ?_
  refine Sim.seq ?_
  refine Sim.seq ?_
  refine Sim.region0 ?_
  refine SimI.bind (og := (some true)) { dst := some 15, op := POp.call true [] 14 [], guard := none, hints := [] } (fun r1 => [(15, .one (lb r1))]) (fun r1 => []) (by kernel_rfl) (fun r1 hr => pOp_eff (by kernel_rfl) (by kernel_rfl) (eff_call (ARGS := []) (by kernel_rfl) (args_nil) (F14_ok n r1 hr) (by kernel_rfl))) (fun r1 => ?_)
  refine SimI.run 1 [(16, .one (lb (!(r1))))] [] (by kernel_rfl) ?_
  refine SimI.done (by kernel_rfl) ?_
  refine SimE.thenN ?_
  refine Sim.cond (!(r1)) (by kernel_rfl) ?_ ?_
  · refine Sim.seq ?_
    refine Sim.region0 ?_
    refine SimI.run 1 [(6, .one (lb false))] [] (by kernel_rfl) ?_
    refine SimI.done (by kernel_rfl) ?_
    refine SimE.thenN ?_
    refine Sim.ret ?_
    refine SimE.thenR ?_
    exact SimE.fin (by kernel_rfl)
  · refine Sim.skip ?_
    refine SimE.thenN ?_
    refine Sim.seq ?_
    refine Sim.seq ?_
    refine Sim.region0 ?_
    refine SimI.run 1 [(17, .agg [li .i64 a0.ID, li .i64 a0.At.X, li .i64 a0.At.Y, li .i64 a0.F.a0.N, ls a0.F.a0.Text, li .i64 a0.F.a1.N, ls a0.F.a1.Text, li .i64 a0.F.a2.N, ls a0.F.a2.Text, li .i64 a0.F.a3.N, ls a0.F.a3.Text])] [] (by kernel_rfl) ?_
    refine SimI.bind (og := F15 n a0) { dst := some 18, op := POp.call true [[]] 15 [Operand.tmp 17], guard := none, hints := [] } (fun r2 => [(18, .one (lb r2))]) (fun r2 => []) (by kernel_rfl) (fun r2 hr => pOp_eff (by kernel_rfl) (by kernel_rfl) (eff_call (ARGS := [.agg [li .i64 a0.ID, li .i64 a0.At.X, li .i64 a0.At.Y, li .i64 a0.F.a0.N, ls a0.F.a0.Text, li .i64 a0.F.a1.N, ls a0.F.a1.Text, li .i64 a0.F.a2.N, ls a0.F.a2.Text, li .i64 a0.F.a3.N, ls a0.F.a3.Text]]) (by kernel_rfl) (args_clean (by kernel_rfl) args_nil) (F15_ok n a0 r2 hr) (by kernel_rfl))) (fun r2 => ?_)
    refine SimI.run 2 [(20, .one (lb (!(r2)))), (19, .one (lb (!(r2))))] [] (by kernel_rfl) ?_
    refine SimI.split 20 (!(r2)) (by kernel_rfl) ?_ ?_
    · refine SimI.run 9 [(29, .one (lb true)), (28, .tup []), (27, .tup []), (26, .tup []), (25, .one (lb true)), (24, .one (lb true)), (23, .tup []), (22, .tup []), (21, .tup [])] [] (by kernel_rfl) ?_
      refine SimI.done (by kernel_rfl) ?_
      refine SimE.thenN ?_
      refine Sim.condT (by kernel_rfl) ?_
      refine Sim.seq ?_
      refine Sim.region0 ?_
      refine SimI.run 1 [(6, .one (lb true))] [] (by kernel_rfl) ?_
      refine SimI.done (by kernel_rfl) ?_
      refine SimE.thenN ?_
      refine Sim.ret ?_
      refine SimE.thenR ?_
      exact SimE.fin (by kernel_rfl)
    · refine SimI.run 1 [(21, .agg [li .i64 a1.ID, li .i64 a1.At.X, li .i64 a1.At.Y, li .i64 a1.F.a0.N, ls a1.F.a0.Text, li .i64 a1.F.a1.N, ls a1.F.a1.Text, li .i64 a1.F.a2.N, ls a1.F.a2.Text, li .i64 a1.F.a3.N, ls a1.F.a3.Text])] [] (by kernel_rfl) ?_
      refine SimI.bind (og := F15 n a1) { dst := some 22, op := POp.call true [[]] 15 [Operand.tmp 21], guard := some (20, false), hints := [] } (fun r3 => [(22, .one (lb r3))]) (fun r3 => []) (by kernel_rfl) (fun r3 hr => pOp_eff (by kernel_rfl) (by kernel_rfl) (eff_call (ARGS := [.agg [li .i64 a1.ID, li .i64 a1.At.X, li .i64 a1.At.Y, li .i64 a1.F.a0.N, ls a1.F.a0.Text, li .i64 a1.F.a1.N, ls a1.F.a1.Text, li .i64 a1.F.a2.N, ls a1.F.a2.Text, li .i64 a1.F.a3.N, ls a1.F.a3.Text]]) (by kernel_rfl) (args_clean (by kernel_rfl) args_nil) (F15_ok n a1 r3 hr) (by kernel_rfl))) (fun r3 => ?_)
      refine SimI.run 3 [(25, .one (lb (!(r3)))), (24, .one (lb (!(r3)))), (23, .one (lb (!(r3))))] [] (by kernel_rfl) ?_
      refine SimI.split 25 (!(r3)) (by kernel_rfl) ?_ ?_
      · refine SimI.run 4 [(29, .one (lb true)), (28, .tup []), (27, .tup []), (26, .tup [])] [] (by kernel_rfl) ?_
        refine SimI.done (by kernel_rfl) ?_
        refine SimE.thenN ?_
        refine Sim.condT (by kernel_rfl) ?_
        refine Sim.seq ?_
        refine Sim.region0 ?_
        refine SimI.run 1 [(6, .one (lb true))] [] (by kernel_rfl) ?_
        refine SimI.done (by kernel_rfl) ?_
        refine SimE.thenN ?_
        refine Sim.ret ?_
        refine SimE.thenR ?_
        exact SimE.fin (by kernel_rfl)
      · refine SimI.run 1 [(26, .agg [li .i64 a2.ID, li .i64 a2.At.X, li .i64 a2.At.Y, li .i64 a2.F.a0.N, ls a2.F.a0.Text, li .i64 a2.F.a1.N, ls a2.F.a1.Text, li .i64 a2.F.a2.N, ls a2.F.a2.Text, li .i64 a2.F.a3.N, ls a2.F.a3.Text])] [] (by kernel_rfl) ?_
        refine SimI.bind (og := F15 n a2) { dst := some 27, op := POp.call true [[]] 15 [Operand.tmp 26], guard := some (25, false), hints := [] } (fun r4 => [(27, .one (lb r4))]) (fun r4 => []) (by kernel_rfl) (fun r4 hr => pOp_eff (by kernel_rfl) (by kernel_rfl) (eff_call (ARGS := [.agg [li .i64 a2.ID, li .i64 a2.At.X, li .i64 a2.At.Y, li .i64 a2.F.a0.N, ls a2.F.a0.Text, li .i64 a2.F.a1.N, ls a2.F.a1.Text, li .i64 a2.F.a2.N, ls a2.F.a2.Text, li .i64 a2.F.a3.N, ls a2.F.a3.Text]]) (by kernel_rfl) (args_clean (by kernel_rfl) args_nil) (F15_ok n a2 r4 hr) (by kernel_rfl))) (fun r4 => ?_)
        refine SimI.run 2 [(29, .one (lb (!(r4)))), (28, .one (lb (!(r4))))] [] (by kernel_rfl) ?_
        refine SimI.done (by kernel_rfl) ?_
        refine SimE.thenN ?_
        refine Sim.cond (!(r4)) (by kernel_rfl) ?_ ?_
        · refine Sim.seq ?_
          refine Sim.region0 ?_
          refine SimI.run 1 [(6, .one (lb true))] [] (by kernel_rfl) ?_
          refine SimI.done (by kernel_rfl) ?_
          refine SimE.thenN ?_
          refine Sim.ret ?_
          refine SimE.thenR ?_
          exact SimE.fin (by kernel_rfl)
        · refine Sim.skip ?_
          refine SimE.thenN ?_
          refine Sim.seq ?_
          refine Sim.region0 ?_
          refine SimI.run 8 [(35, .one (.ptr 5 0)), (34, .one (.ptr 4 0)), (33, .one (li .i64 a0.ID)), (32, .one (.ptr 3 0)), (31, .one (li .i64 a0.ID)), (30, .one (.ptr 3 0))] [(5, some (.cells [li .i64 a0.ID, li .i64 a2.At.X, li .i64 a2.At.Y, li .i64 a2.F.a0.N, ls a2.F.a0.Text, li .i64 a2.F.a1.N, ls a2.F.a1.Text, li .i64 a2.F.a2.N, ls a2.F.a2.Text, li .i64 a2.F.a3.N, ls a2.F.a3.Text])), (4, some (.cells [li .i64 a0.ID, li .i64 a1.At.X, li .i64 a1.At.Y, li .i64 a1.F.a0.N, ls a1.F.a0.Text, li .i64 a1.F.a1.N, ls a1.F.a1.Text, li .i64 a1.F.a2.N, ls a1.F.a2.Text, li .i64 a1.F.a3.N, ls a1.F.a3.Text]))] (by kernel_rfl) ?_
          refine SimI.done (by kernel_rfl) ?_
          refine SimE.thenN ?_
          refine Sim.seq ?_
          refine Sim.region0 ?_
          refine SimI.run 2 [(38, .agg [li .i64 a0.ID, li .i64 a1.At.X, li .i64 a1.At.Y, li .i64 a1.F.a0.N, ls a1.F.a0.Text, li .i64 a1.F.a1.N, ls a1.F.a1.Text, li .i64 a1.F.a2.N, ls a1.F.a2.Text, li .i64 a1.F.a3.N, ls a1.F.a3.Text]), (37, .agg [li .i64 a0.ID, li .i64 a0.At.X, li .i64 a0.At.Y, li .i64 a0.F.a0.N, ls a0.F.a0.Text, li .i64 a0.F.a1.N, ls a0.F.a1.Text, li .i64 a0.F.a2.N, ls a0.F.a2.Text, li .i64 a0.F.a3.N, ls a0.F.a3.Text])] [] (by kernel_rfl) ?_
          refine SimI.bind (og := F18 n a0 (Thing.mk a0.ID a1.At a1.F)) { dst := some 39, op := POp.call true [[], []] 18 [Operand.tmp 37, Operand.tmp 38], guard := none, hints := [] } (fun r5 => [(39, .tup [.agg [li .i64 r5.1.ID, li .u8 r5.1.Mask, li .i64 r5.1.At.X, li .i64 r5.1.At.Y, li .i64 r5.1.F.a0.N, ls r5.1.F.a0.Text, li .i64 r5.1.F.a1.N, ls r5.1.F.a1.Text, li .i64 r5.1.F.a2.N, ls r5.1.F.a2.Text, li .i64 r5.1.F.a3.N, ls r5.1.F.a3.Text], .one (lb r5.2)])]) (fun r5 => []) (by kernel_rfl) (fun r5 hr => pOp_eff (by kernel_rfl) (by kernel_rfl) (eff_call (ARGS := [.agg [li .i64 a0.ID, li .i64 a0.At.X, li .i64 a0.At.Y, li .i64 a0.F.a0.N, ls a0.F.a0.Text, li .i64 a0.F.a1.N, ls a0.F.a1.Text, li .i64 a0.F.a2.N, ls a0.F.a2.Text, li .i64 a0.F.a3.N, ls a0.F.a3.Text], .agg [li .i64 a0.ID, li .i64 a1.At.X, li .i64 a1.At.Y, li .i64 a1.F.a0.N, ls a1.F.a0.Text, li .i64 a1.F.a1.N, ls a1.F.a1.Text, li .i64 a1.F.a2.N, ls a1.F.a2.Text, li .i64 a1.F.a3.N, ls a1.F.a3.Text]]) (by kernel_rfl) (args_clean (by kernel_rfl) (args_clean (by kernel_rfl) args_nil)) (F18_ok n a0 (Thing.mk a0.ID a1.At a1.F) r5 hr) (by kernel_rfl))) (fun r5 => ?_)
          refine SimI.run 6 [(8, .one (lb r5.2)), (7, .one (.ptr 7 0)), (41, .one (lb r5.2)), (40, .agg [li .i64 r5.1.ID, li .u8 r5.1.Mask, li .i64 r5.1.At.X, li .i64 r5.1.At.Y, li .i64 r5.1.F.a0.N, ls r5.1.F.a0.Text, li .i64 r5.1.F.a1.N, ls r5.1.F.a1.Text, li .i64 r5.1.F.a2.N, ls r5.1.F.a2.Text, li .i64 r5.1.F.a3.N, ls r5.1.F.a3.Text]), (36, .tup [.agg [li .i64 r5.1.ID, li .u8 r5.1.Mask, li .i64 r5.1.At.X, li .i64 r5.1.At.Y, li .i64 r5.1.F.a0.N, ls r5.1.F.a0.Text, li .i64 r5.1.F.a1.N, ls r5.1.F.a1.Text, li .i64 r5.1.F.a2.N, ls r5.1.F.a2.Text, li .i64 r5.1.F.a3.N, ls r5.1.F.a3.Text], .one (lb r5.2)])] [(7, some (.cells [li .i64 r5.1.ID, li .u8 r5.1.Mask, li .i64 r5.1.At.X, li .i64 r5.1.At.Y, li .i64 r5.1.F.a0.N, ls r5.1.F.a0.Text, li .i64 r5.1.F.a1.N, ls r5.1.F.a1.Text, li .i64 r5.1.F.a2.N, ls r5.1.F.a2.Text, li .i64 r5.1.F.a3.N, ls r5.1.F.a3.Text])), (7, some (.cells [li .i64 0, li .u8 0, li .i64 0, li .i64 0, li .i64 0, ls ByteArray.empty, li .i64 0, ls ByteArray.empty, li .i64 0, ls ByteArray.empty, li .i64 0, ls ByteArray.empty]))] (by kernel_rfl) ?_
          refine SimI.done (by kernel_rfl) ?_
          refine SimE.thenN ?_
          refine Sim.seq ?_
          refine Sim.region0 ?_
          refine SimI.run 2 [(44, .agg [li .i64 a0.ID, li .i64 a2.At.X, li .i64 a2.At.Y, li .i64 a2.F.a0.N, ls a2.F.a0.Text, li .i64 a2.F.a1.N, ls a2.F.a1.Text, li .i64 a2.F.a2.N, ls a2.F.a2.Text, li .i64 a2.F.a3.N, ls a2.F.a3.Text]), (43, .agg [li .i64 a0.ID, li .i64 a1.At.X, li .i64 a1.At.Y, li .i64 a1.F.a0.N, ls a1.F.a0.Text, li .i64 a1.F.a1.N, ls a1.F.a1.Text, li .i64 a1.F.a2.N, ls a1.F.a2.Text, li .i64 a1.F.a3.N, ls a1.F.a3.Text])] [] (by kernel_rfl) ?_
          refine SimI.bind (og := F18 n (Thing.mk a0.ID a1.At a1.F) (Thing.mk a0.ID a2.At a2.F)) { dst := some 45, op := POp.call true [[], []] 18 [Operand.tmp 43, Operand.tmp 44], guard := none, hints := [] } (fun r6 => [(45, .tup [.agg [li .i64 r6.1.ID, li .u8 r6.1.Mask, li .i64 r6.1.At.X, li .i64 r6.1.At.Y, li .i64 r6.1.F.a0.N, ls r6.1.F.a0.Text, li .i64 r6.1.F.a1.N, ls r6.1.F.a1.Text, li .i64 r6.1.F.a2.N, ls r6.1.F.a2.Text, li .i64 r6.1.F.a3.N, ls r6.1.F.a3.Text], .one (lb r6.2)])]) (fun r6 => []) (by kernel_rfl) (fun r6 hr => pOp_eff (by kernel_rfl) (by kernel_rfl) (eff_call (ARGS := [.agg [li .i64 a0.ID, li .i64 a1.At.X, li .i64 a1.At.Y, li .i64 a1.F.a0.N, ls a1.F.a0.Text, li .i64 a1.F.a1.N, ls a1.F.a1.Text, li .i64 a1.F.a2.N, ls a1.F.a2.Text, li .i64 a1.F.a3.N, ls a1.F.a3.Text], .agg [li .i64 a0.ID, li .i64 a2.At.X, li .i64 a2.At.Y, li .i64 a2.F.a0.N, ls a2.F.a0.Text, li .i64 a2.F.a1.N, ls a2.F.a1.Text, li .i64 a2.F.a2.N, ls a2.F.a2.Text, li .i64 a2.F.a3.N, ls a2.F.a3.Text]]) (by kernel_rfl) (args_clean (by kernel_rfl) (args_clean (by kernel_rfl) args_nil)) (F18_ok n (Thing.mk a0.ID a1.At a1.F) (Thing.mk a0.ID a2.At a2.F) r6 hr) (by kernel_rfl))) (fun r6 => ?_)
          refine SimI.run 6 [(10, .one (lb r6.2)), (9, .one (.ptr 9 0)), (47, .one (lb r6.2)), (46, .agg [li .i64 r6.1.ID, li .u8 r6.1.Mask, li .i64 r6.1.At.X, li .i64 r6.1.At.Y, li .i64 r6.1.F.a0.N, ls r6.1.F.a0.Text, li .i64 r6.1.F.a1.N, ls r6.1.F.a1.Text, li .i64 r6.1.F.a2.N, ls r6.1.F.a2.Text, li .i64 r6.1.F.a3.N, ls r6.1.F.a3.Text]), (42, .tup [.agg [li .i64 r6.1.ID, li .u8 r6.1.Mask, li .i64 r6.1.At.X, li .i64 r6.1.At.Y, li .i64 r6.1.F.a0.N, ls r6.1.F.a0.Text, li .i64 r6.1.F.a1.N, ls r6.1.F.a1.Text, li .i64 r6.1.F.a2.N, ls r6.1.F.a2.Text, li .i64 r6.1.F.a3.N, ls r6.1.F.a3.Text], .one (lb r6.2)])] [(9, some (.cells [li .i64 r6.1.ID, li .u8 r6.1.Mask, li .i64 r6.1.At.X, li .i64 r6.1.At.Y, li .i64 r6.1.F.a0.N, ls r6.1.F.a0.Text, li .i64 r6.1.F.a1.N, ls r6.1.F.a1.Text, li .i64 r6.1.F.a2.N, ls r6.1.F.a2.Text, li .i64 r6.1.F.a3.N, ls r6.1.F.a3.Text])), (9, some (.cells [li .i64 0, li .u8 0, li .i64 0, li .i64 0, li .i64 0, ls ByteArray.empty, li .i64 0, ls ByteArray.empty, li .i64 0, ls ByteArray.empty, li .i64 0, ls ByteArray.empty]))] (by kernel_rfl) ?_
          refine SimI.done (by kernel_rfl) ?_
          refine SimE.thenN ?_
          refine Sim.seq ?_
          refine Sim.region0 ?_
          refine SimI.run 2 [(50, .agg [li .i64 a0.ID, li .i64 a2.At.X, li .i64 a2.At.Y, li .i64 a2.F.a0.N, ls a2.F.a0.Text, li .i64 a2.F.a1.N, ls a2.F.a1.Text, li .i64 a2.F.a2.N, ls a2.F.a2.Text, li .i64 a2.F.a3.N, ls a2.F.a3.Text]), (49, .agg [li .i64 a0.ID, li .i64 a0.At.X, li .i64 a0.At.Y, li .i64 a0.F.a0.N, ls a0.F.a0.Text, li .i64 a0.F.a1.N, ls a0.F.a1.Text, li .i64 a0.F.a2.N, ls a0.F.a2.Text, li .i64 a0.F.a3.N, ls a0.F.a3.Text])] [] (by kernel_rfl) ?_
          refine SimI.bind (og := F18 n a0 (Thing.mk a0.ID a2.At a2.F)) { dst := some 51, op := POp.call true [[], []] 18 [Operand.tmp 49, Operand.tmp 50], guard := none, hints := [] } (fun r7 => [(51, .tup [.agg [li .i64 r7.1.ID, li .u8 r7.1.Mask, li .i64 r7.1.At.X, li .i64 r7.1.At.Y, li .i64 r7.1.F.a0.N, ls r7.1.F.a0.Text, li .i64 r7.1.F.a1.N, ls r7.1.F.a1.Text, li .i64 r7.1.F.a2.N, ls r7.1.F.a2.Text, li .i64 r7.1.F.a3.N, ls r7.1.F.a3.Text], .one (lb r7.2)])]) (fun r7 => []) (by kernel_rfl) (fun r7 hr => pOp_eff (by kernel_rfl) (by kernel_rfl) (eff_call (ARGS := [.agg [li .i64 a0.ID, li .i64 a0.At.X, li .i64 a0.At.Y, li .i64 a0.F.a0.N, ls a0.F.a0.Text, li .i64 a0.F.a1.N, ls a0.F.a1.Text, li .i64 a0.F.a2.N, ls a0.F.a2.Text, li .i64 a0.F.a3.N, ls a0.F.a3.Text], .agg [li .i64 a0.ID, li .i64 a2.At.X, li .i64 a2.At.Y, li .i64 a2.F.a0.N, ls a2.F.a0.Text, li .i64 a2.F.a1.N, ls a2.F.a1.Text, li .i64 a2.F.a2.N, ls a2.F.a2.Text, li .i64 a2.F.a3.N, ls a2.F.a3.Text]]) (by kernel_rfl) (args_clean (by kernel_rfl) (args_clean (by kernel_rfl) args_nil)) (F18_ok n a0 (Thing.mk a0.ID a2.At a2.F) r7 hr) (by kernel_rfl))) (fun r7 => ?_)
          refine SimI.run 6 [(12, .one (lb r7.2)), (11, .one (.ptr 11 0)), (53, .one (lb r7.2)), (52, .agg [li .i64 r7.1.ID, li .u8 r7.1.Mask, li .i64 r7.1.At.X, li .i64 r7.1.At.Y, li .i64 r7.1.F.a0.N, ls r7.1.F.a0.Text, li .i64 r7.1.F.a1.N, ls r7.1.F.a1.Text, li .i64 r7.1.F.a2.N, ls r7.1.F.a2.Text, li .i64 r7.1.F.a3.N, ls r7.1.F.a3.Text]), (48, .tup [.agg [li .i64 r7.1.ID, li .u8 r7.1.Mask, li .i64 r7.1.At.X, li .i64 r7.1.At.Y, li .i64 r7.1.F.a0.N, ls r7.1.F.a0.Text, li .i64 r7.1.F.a1.N, ls r7.1.F.a1.Text, li .i64 r7.1.F.a2.N, ls r7.1.F.a2.Text, li .i64 r7.1.F.a3.N, ls r7.1.F.a3.Text], .one (lb r7.2)])] [(11, some (.cells [li .i64 r7.1.ID, li .u8 r7.1.Mask, li .i64 r7.1.At.X, li .i64 r7.1.At.Y, li .i64 r7.1.F.a0.N, ls r7.1.F.a0.Text, li .i64 r7.1.F.a1.N, ls r7.1.F.a1.Text, li .i64 r7.1.F.a2.N, ls r7.1.F.a2.Text, li .i64 r7.1.F.a3.N, ls r7.1.F.a3.Text])), (11, some (.cells [li .i64 0, li .u8 0, li .i64 0, li .i64 0, li .i64 0, ls ByteArray.empty, li .i64 0, ls ByteArray.empty, li .i64 0, ls ByteArray.empty, li .i64 0, ls ByteArray.empty]))] (by kernel_rfl) ?_
          refine SimI.done (by kernel_rfl) ?_
          refine SimE.thenN ?_
          refine Sim.seq ?_
          refine Sim.region0 ?_
          refine SimI.run 3 [(13, .one (.ptr 13 0)), (54, .agg [li .i64 a0.ID, li .i64 a0.At.X, li .i64 a0.At.Y, li .i64 a0.F.a0.N, ls a0.F.a0.Text, li .i64 a0.F.a1.N, ls a0.F.a1.Text, li .i64 a0.F.a2.N, ls a0.F.a2.Text, li .i64 a0.F.a3.N, ls a0.F.a3.Text])] [(13, some (.cells [li .i64 a0.ID, li .i64 a0.At.X, li .i64 a0.At.Y, li .i64 a0.F.a0.N, ls a0.F.a0.Text, li .i64 a0.F.a1.N, ls a0.F.a1.Text, li .i64 a0.F.a2.N, ls a0.F.a2.Text, li .i64 a0.F.a3.N, ls a0.F.a3.Text])), (13, some (.cells [li .i64 0, li .i64 0, li .i64 0, li .i64 0, ls ByteArray.empty, li .i64 0, ls ByteArray.empty, li .i64 0, ls ByteArray.empty, li .i64 0, ls ByteArray.empty]))] (by kernel_rfl) ?_
          refine SimI.done (by kernel_rfl) ?_
          refine SimE.thenN ?_
          refine Sim.seq ?_
          refine Sim.seq ?_
          refine Sim.region0 ?_
          refine SimI.run 1 [(55, .one (lb r5.2))] [] (by kernel_rfl) ?_
          refine SimI.done (by kernel_rfl) ?_
          refine SimE.thenN ?_
          refine Sim.cond r5.2 (by kernel_rfl) ?_ ?_
          · refine Sim.region0 ?_
            refine SimI.run 2 [(57, .agg [li .i64 r5.1.ID, li .u8 r5.1.Mask, li .i64 r5.1.At.X, li .i64 r5.1.At.Y, li .i64 r5.1.F.a0.N, ls r5.1.F.a0.Text, li .i64 r5.1.F.a1.N, ls r5.1.F.a1.Text, li .i64 r5.1.F.a2.N, ls r5.1.F.a2.Text, li .i64 r5.1.F.a3.N, ls r5.1.F.a3.Text]), (56, .agg [li .i64 a0.ID, li .i64 a0.At.X, li .i64 a0.At.Y, li .i64 a0.F.a0.N, ls a0.F.a0.Text, li .i64 a0.F.a1.N, ls a0.F.a1.Text, li .i64 a0.F.a2.N, ls a0.F.a2.Text, li .i64 a0.F.a3.N, ls a0.F.a3.Text])] [] (by kernel_rfl) ?_
            refine SimI.bind (og := F23 n a0 r5.1) { dst := some 58, op := POp.call true [[], []] 23 [Operand.tmp 56, Operand.tmp 57], guard := none, hints := [] } (fun r8 => [(58, .agg [li .i64 r8.ID, li .i64 r8.At.X, li .i64 r8.At.Y, li .i64 r8.F.a0.N, ls r8.F.a0.Text, li .i64 r8.F.a1.N, ls r8.F.a1.Text, li .i64 r8.F.a2.N, ls r8.F.a2.Text, li .i64 r8.F.a3.N, ls r8.F.a3.Text])]) (fun r8 => []) (by kernel_rfl) (fun r8 hr => pOp_eff (by kernel_rfl) (by kernel_rfl) (eff_call (ARGS := [.agg [li .i64 a0.ID, li .i64 a0.At.X, li .i64 a0.At.Y, li .i64 a0.F.a0.N, ls a0.F.a0.Text, li .i64 a0.F.a1.N, ls a0.F.a1.Text, li .i64 a0.F.a2.N, ls a0.F.a2.Text, li .i64 a0.F.a3.N, ls a0.F.a3.Text], .agg [li .i64 r5.1.ID, li .u8 r5.1.Mask, li .i64 r5.1.At.X, li .i64 r5.1.At.Y, li .i64 r5.1.F.a0.N, ls r5.1.F.a0.Text, li .i64 r5.1.F.a1.N, ls r5.1.F.a1.Text, li .i64 r5.1.F.a2.N, ls r5.1.F.a2.Text, li .i64 r5.1.F.a3.N, ls r5.1.F.a3.Text]]) (by kernel_rfl) (args_clean (by kernel_rfl) (args_clean (by kernel_rfl) args_nil)) (F23_ok n a0 r5.1 r8 hr) (by kernel_rfl))) (fun r8 => ?_)
            refine SimI.run 1 [] [(13, some (.cells [li .i64 r8.ID, li .i64 r8.At.X, li .i64 r8.At.Y, li .i64 r8.F.a0.N, ls r8.F.a0.Text, li .i64 r8.F.a1.N, ls r8.F.a1.Text, li .i64 r8.F.a2.N, ls r8.F.a2.Text, li .i64 r8.F.a3.N, ls r8.F.a3.Text]))] (by kernel_rfl) ?_
            refine SimI.done (by kernel_rfl) ?_
            refine SimE.thenN ?_
            refine Sim.pre (ts := [3, 5, 7, 8, 9, 10, 11, 12, 13]) (os := [3, 4, 5, 7, 9, 11, 13]) [(3, .one (.ptr 3 0)), (5, .one (.ptr 5 0)), (7, .one (.ptr 7 0)), (8, .one (lb r5.2)), (9, .one (.ptr 9 0)), (10, .one (lb r6.2)), (11, .one (.ptr 11 0)), (12, .one (lb r7.2)), (13, .one (.ptr 13 0))] ((3, some (.cells [li .i64 a0.ID, li .i64 a0.At.X, li .i64 a0.At.Y, li .i64 a0.F.a0.N, ls a0.F.a0.Text, li .i64 a0.F.a1.N, ls a0.F.a1.Text, li .i64 a0.F.a2.N, ls a0.F.a2.Text, li .i64 a0.F.a3.N, ls a0.F.a3.Text])) :: ((5, some (.cells [li .i64 a0.ID, li .i64 a2.At.X, li .i64 a2.At.Y, li .i64 a2.F.a0.N, ls a2.F.a0.Text, li .i64 a2.F.a1.N, ls a2.F.a1.Text, li .i64 a2.F.a2.N, ls a2.F.a2.Text, li .i64 a2.F.a3.N, ls a2.F.a3.Text])) :: ((7, some (.cells [li .i64 r5.1.ID, li .u8 r5.1.Mask, li .i64 r5.1.At.X, li .i64 r5.1.At.Y, li .i64 r5.1.F.a0.N, ls r5.1.F.a0.Text, li .i64 r5.1.F.a1.N, ls r5.1.F.a1.Text, li .i64 r5.1.F.a2.N, ls r5.1.F.a2.Text, li .i64 r5.1.F.a3.N, ls r5.1.F.a3.Text])) :: ((9, some (.cells [li .i64 r6.1.ID, li .u8 r6.1.Mask, li .i64 r6.1.At.X, li .i64 r6.1.At.Y, li .i64 r6.1.F.a0.N, ls r6.1.F.a0.Text, li .i64 r6.1.F.a1.N, ls r6.1.F.a1.Text, li .i64 r6.1.F.a2.N, ls r6.1.F.a2.Text, li .i64 r6.1.F.a3.N, ls r6.1.F.a3.Text])) :: ((11, some (.cells [li .i64 r7.1.ID, li .u8 r7.1.Mask, li .i64 r7.1.At.X, li .i64 r7.1.At.Y, li .i64 r7.1.F.a0.N, ls r7.1.F.a0.Text, li .i64 r7.1.F.a1.N, ls r7.1.F.a1.Text, li .i64 r7.1.F.a2.N, ls r7.1.F.a2.Text, li .i64 r7.1.F.a3.N, ls r7.1.F.a3.Text])) :: ((13, some (.cells [li .i64 r8.ID, li .i64 r8.At.X, li .i64 r8.At.Y, li .i64 r8.F.a0.N, ls r8.F.a0.Text, li .i64 r8.F.a1.N, ls r8.F.a1.Text, li .i64 r8.F.a2.N, ls r8.F.a2.Text, li .i64 r8.F.a3.N, ls r8.F.a3.Text])) :: [])))))) (by kernel_rfl) (by kernel_rfl) (by kernel_rfl) ?_
            exact F6_j20_ok n a0 a1 a2 r5 r6 r7 r8.ID r8.At.X r8.At.Y r8.F.a0.N r8.F.a0.Text r8.F.a1.N r8.F.a1.Text r8.F.a2.N r8.F.a2.Text r8.F.a3.N r8.F.a3.Text
          · refine Sim.skip ?_
            refine SimE.thenN ?_
            refine Sim.pre (ts := [3, 5, 7, 8, 9, 10, 11, 12, 13]) (os := [3, 4, 5, 7, 9, 11, 13]) [(3, .one (.ptr 3 0)), (5, .one (.ptr 5 0)), (7, .one (.ptr 7 0)), (8, .one (lb r5.2)), (9, .one (.ptr 9 0)), (10, .one (lb r6.2)), (11, .one (.ptr 11 0)), (12, .one (lb r7.2)), (13, .one (.ptr 13 0))] ((3, some (.cells [li .i64 a0.ID, li .i64 a0.At.X, li .i64 a0.At.Y, li .i64 a0.F.a0.N, ls a0.F.a0.Text, li .i64 a0.F.a1.N, ls a0.F.a1.Text, li .i64 a0.F.a2.N, ls a0.F.a2.Text, li .i64 a0.F.a3.N, ls a0.F.a3.Text])) :: ((5, some (.cells [li .i64 a0.ID, li .i64 a2.At.X, li .i64 a2.At.Y, li .i64 a2.F.a0.N, ls a2.F.a0.Text, li .i64 a2.F.a1.N, ls a2.F.a1.Text, li .i64 a2.F.a2.N, ls a2.F.a2.Text, li .i64 a2.F.a3.N, ls a2.F.a3.Text])) :: ((7, some (.cells [li .i64 r5.1.ID, li .u8 r5.1.Mask, li .i64 r5.1.At.X, li .i64 r5.1.At.Y, li .i64 r5.1.F.a0.N, ls r5.1.F.a0.Text, li .i64 r5.1.F.a1.N, ls r5.1.F.a1.Text, li .i64 r5.1.F.a2.N, ls r5.1.F.a2.Text, li .i64 r5.1.F.a3.N, ls r5.1.F.a3.Text])) :: ((9, some (.cells [li .i64 r6.1.ID, li .u8 r6.1.Mask, li .i64 r6.1.At.X, li .i64 r6.1.At.Y, li .i64 r6.1.F.a0.N, ls r6.1.F.a0.Text, li .i64 r6.1.F.a1.N, ls r6.1.F.a1.Text, li .i64 r6.1.F.a2.N, ls r6.1.F.a2.Text, li .i64 r6.1.F.a3.N, ls r6.1.F.a3.Text])) :: ((11, some (.cells [li .i64 r7.1.ID, li .u8 r7.1.Mask, li .i64 r7.1.At.X, li .i64 r7.1.At.Y, li .i64 r7.1.F.a0.N, ls r7.1.F.a0.Text, li .i64 r7.1.F.a1.N, ls r7.1.F.a1.Text, li .i64 r7.1.F.a2.N, ls r7.1.F.a2.Text, li .i64 r7.1.F.a3.N, ls r7.1.F.a3.Text])) :: ((13, some (.cells [li .i64 a0.ID, li .i64 a0.At.X, li .i64 a0.At.Y, li .i64 a0.F.a0.N, ls a0.F.a0.Text, li .i64 a0.F.a1.N, ls a0.F.a1.Text, li .i64 a0.F.a2.N, ls a0.F.a2.Text, li .i64 a0.F.a3.N, ls a0.F.a3.Text])) :: [])))))) (by kernel_rfl) (by kernel_rfl) (by kernel_rfl) ?_
            exact F6_j20_ok n a0 a1 a2 r5 r6 r7 a0.ID a0.At.X a0.At.Y a0.F.a0.N a0.F.a0.Text a0.F.a1.N a0.F.a1.Text a0.F.a2.N a0.F.a2.Text a0.F.a3.N a0.F.a3.Text


-- 16: vedette/vedettelaw6.fewDelta
def F16_e : Bool → PV × List (List Lf) := fun r => (.one (lb r), [])
def F16 (n : Nat) (a0 : Delta) : Option Bool :=
  (F17 n a0.F.a0).bind fun (r1 : Bool) =>
  if !(r1) then
    some false
  else
    (F17 n a0.F.a1).bind fun (r2 : Bool) =>
    if !(r2) then
      some false
    else
      (F17 n a0.F.a2).bind fun (r3 : Bool) =>
      if !(r3) then
        some false
      else
        (F17 n a0.F.a3).bind fun (r4 : Bool) =>
        if !(r4) then
          some false
        else
          some true
theorem F16_ok (n : Nat) (a0 : Delta) : ∀ r, F16 n a0 = some r → D 16 [.agg [li .i64 a0.ID, li .u8 a0.Mask, li .i64 a0.At.X, li .i64 a0.At.Y, li .i64 a0.F.a0.N, ls a0.F.a0.Text, li .i64 a0.F.a1.N, ls a0.F.a1.Text, li .i64 a0.F.a2.N, ls a0.F.a2.Text, li .i64 a0.F.a3.N, ls a0.F.a3.Text]] [] = some (F16_e r) := by
  refine fn_to (D := D) (n := n + 8) (nt := 14) (rs := pc16_r) (c := pc16_c26) (L := [(0, .agg [li .i64 a0.ID, li .u8 a0.Mask, li .i64 a0.At.X, li .i64 a0.At.Y, li .i64 a0.F.a0.N, ls a0.F.a0.Text, li .i64 a0.F.a1.N, ls a0.F.a1.Text, li .i64 a0.F.a2.N, ls a0.F.a2.Text, li .i64 a0.F.a3.N, ls a0.F.a3.Text])]) (M := []) (k := 0) rfl rfl rfl rfl rfl rfl ?_
  unfold F16
  refine Sim.seq ?_
  refine Sim.region0 ?_
  refine SimI.run 2 [(2, .one (lb false)), (1, .one (.ptr 1 0))] [(1, some (.cells [li .i64 a0.ID, li .u8 a0.Mask, li .i64 a0.At.X, li .i64 a0.At.Y, li .i64 a0.F.a0.N, ls a0.F.a0.Text, li .i64 a0.F.a1.N, ls a0.F.a1.Text, li .i64 a0.F.a2.N, ls a0.F.a2.Text, li .i64 a0.F.a3.N, ls a0.F.a3.Text]))] (by kernel_rfl) ?_
  refine SimI.done (by kernel_rfl) ?_
  refine SimE.thenN ?_
  refine Sim.seq ?_
  refine Sim.seq ?_
  refine Sim.region0 ?_
  refine SimI.run 1 [(3, .one (li .i64 0))] [] (by kernel_rfl) ?_
  refine SimI.done (by kernel_rfl) ?_
  refine SimE.thenN ?_
  refine Sim.block ?_
  refine Sim.loop ?_
  refine SimL.succ ?_
  refine Sim.seq ?_
  refine Sim.seq ?_
  refine Sim.region [(1, .one (.ptr 1 0)), (3, .one (li .i64 0))] ((1, some (.cells [li .i64 a0.ID, li .u8 a0.Mask, li .i64 a0.At.X, li .i64 a0.At.Y, li .i64 a0.F.a0.N, ls a0.F.a0.Text, li .i64 a0.F.a1.N, ls a0.F.a1.Text, li .i64 a0.F.a2.N, ls a0.F.a2.Text, li .i64 a0.F.a3.N, ls a0.F.a3.Text])) :: []) (by kernel_rfl) ?_
  refine SimI.run 2 [(5, .one (lb true)), (4, .one (li .i64 0))] [] (by kernel_rfl) ?_
  refine SimI.done (by kernel_rfl) ?_
  refine SimE.thenN ?_
  refine Sim.condT (by kernel_rfl) ?_
  refine Sim.skip ?_
  refine SimE.thenN ?_
  refine Sim.seq ?_
  refine Sim.block ?_
  refine Sim.seq ?_
  refine Sim.region0 ?_
  refine SimI.run 4 [(11, .agg [li .i64 a0.F.a0.N, ls a0.F.a0.Text]), (10, .one (.ptr 1 4)), (9, .one (.ptr 1 4)), (8, .one (li .i64 0))] [] (by kernel_rfl) ?_
  refine SimI.bind (og := F17 n a0.F.a0) { dst := some 12, op := POp.call true [[]] 17 [Operand.tmp 11], guard := none, hints := [] } (fun r1 => [(12, .one (lb r1))]) (fun r1 => []) (by kernel_rfl) (fun r1 hr => pOp_eff (by kernel_rfl) (by kernel_rfl) (eff_call (ARGS := [.agg [li .i64 a0.F.a0.N, ls a0.F.a0.Text]]) (by kernel_rfl) (args_clean (by kernel_rfl) args_nil) (F17_ok n a0.F.a0 r1 hr) (by kernel_rfl))) (fun r1 => ?_)
  refine SimI.run 1 [(13, .one (lb (!(r1))))] [] (by kernel_rfl) ?_
  refine SimI.done (by kernel_rfl) ?_
  refine SimE.thenN ?_
  refine Sim.cond (!(r1)) (by kernel_rfl) ?_ ?_
  · refine Sim.seq ?_
    refine Sim.region0 ?_
    refine SimI.run 1 [(2, .one (lb false))] [] (by kernel_rfl) ?_
    refine SimI.done (by kernel_rfl) ?_
    refine SimE.thenN ?_
    refine Sim.ret ?_
    refine SimE.blockR ?_
    refine SimE.thenR ?_
    refine SimE.loopR ?_
    refine SimE.blockR ?_
    refine SimE.thenR ?_
    exact SimE.fin (by kernel_rfl)
  · refine Sim.skip ?_
    refine SimE.blockN ?_
    refine SimE.thenN ?_
    refine Sim.region0 ?_
    refine SimI.run 3 [(3, .one (li .i64 1)), (7, .one (li .i64 1)), (6, .one (li .i64 0))] [] (by kernel_rfl) ?_
    refine SimI.done (by kernel_rfl) ?_
    refine SimE.loopN ?_
    refine SimL.succ ?_
    refine Sim.seq ?_
    refine Sim.seq ?_
    refine Sim.region [(1, .one (.ptr 1 0)), (3, .one (li .i64 1))] ((1, some (.cells [li .i64 a0.ID, li .u8 a0.Mask, li .i64 a0.At.X, li .i64 a0.At.Y, li .i64 a0.F.a0.N, ls a0.F.a0.Text, li .i64 a0.F.a1.N, ls a0.F.a1.Text, li .i64 a0.F.a2.N, ls a0.F.a2.Text, li .i64 a0.F.a3.N, ls a0.F.a3.Text])) :: []) (by kernel_rfl) ?_
    refine SimI.run 2 [(5, .one (lb true)), (4, .one (li .i64 1))] [] (by kernel_rfl) ?_
    refine SimI.done (by kernel_rfl) ?_
    refine SimE.thenN ?_
    refine Sim.condT (by kernel_rfl) ?_
    refine Sim.skip ?_
    refine SimE.thenN ?_
    refine Sim.seq ?_
    refine Sim.block ?_
    refine Sim.seq ?_
    refine Sim.region0 ?_
    refine SimI.run 4 [(11, .agg [li .i64 a0.F.a1.N, ls a0.F.a1.Text]), (10, .one (.ptr 1 6)), (9, .one (.ptr 1 4)), (8, .one (li .i64 1))] [] (by kernel_rfl) ?_
    refine SimI.bind (og := F17 n a0.F.a1) { dst := some 12, op := POp.call true [[]] 17 [Operand.tmp 11], guard := none, hints := [] } (fun r2 => [(12, .one (lb r2))]) (fun r2 => []) (by kernel_rfl) (fun r2 hr => pOp_eff (by kernel_rfl) (by kernel_rfl) (eff_call (ARGS := [.agg [li .i64 a0.F.a1.N, ls a0.F.a1.Text]]) (by kernel_rfl) (args_clean (by kernel_rfl) args_nil) (F17_ok n a0.F.a1 r2 hr) (by kernel_rfl))) (fun r2 => ?_)
    refine SimI.run 1 [(13, .one (lb (!(r2))))] [] (by kernel_rfl) ?_
    refine SimI.done (by kernel_rfl) ?_
    refine SimE.thenN ?_
    refine Sim.cond (!(r2)) (by kernel_rfl) ?_ ?_
    · refine Sim.seq ?_
      refine Sim.region0 ?_
      refine SimI.run 1 [(2, .one (lb false))] [] (by kernel_rfl) ?_
      refine SimI.done (by kernel_rfl) ?_
      refine SimE.thenN ?_
      refine Sim.ret ?_
      refine SimE.blockR ?_
      refine SimE.thenR ?_
      refine SimE.loopR ?_
      refine SimE.blockR ?_
      refine SimE.thenR ?_
      exact SimE.fin (by kernel_rfl)
    · refine Sim.skip ?_
      refine SimE.blockN ?_
      refine SimE.thenN ?_
      refine Sim.region0 ?_
      refine SimI.run 3 [(3, .one (li .i64 2)), (7, .one (li .i64 2)), (6, .one (li .i64 1))] [] (by kernel_rfl) ?_
      refine SimI.done (by kernel_rfl) ?_
      refine SimE.loopN ?_
      refine SimL.succ ?_
      refine Sim.seq ?_
      refine Sim.seq ?_
      refine Sim.region [(1, .one (.ptr 1 0)), (3, .one (li .i64 2))] ((1, some (.cells [li .i64 a0.ID, li .u8 a0.Mask, li .i64 a0.At.X, li .i64 a0.At.Y, li .i64 a0.F.a0.N, ls a0.F.a0.Text, li .i64 a0.F.a1.N, ls a0.F.a1.Text, li .i64 a0.F.a2.N, ls a0.F.a2.Text, li .i64 a0.F.a3.N, ls a0.F.a3.Text])) :: []) (by kernel_rfl) ?_
      refine SimI.run 2 [(5, .one (lb true)), (4, .one (li .i64 2))] [] (by kernel_rfl) ?_
      refine SimI.done (by kernel_rfl) ?_
      refine SimE.thenN ?_
      refine Sim.condT (by kernel_rfl) ?_
      refine Sim.skip ?_
      refine SimE.thenN ?_
      refine Sim.seq ?_
      refine Sim.block ?_
      refine Sim.seq ?_
      refine Sim.region0 ?_
      refine SimI.run 4 [(11, .agg [li .i64 a0.F.a2.N, ls a0.F.a2.Text]), (10, .one (.ptr 1 8)), (9, .one (.ptr 1 4)), (8, .one (li .i64 2))] [] (by kernel_rfl) ?_
      refine SimI.bind (og := F17 n a0.F.a2) { dst := some 12, op := POp.call true [[]] 17 [Operand.tmp 11], guard := none, hints := [] } (fun r3 => [(12, .one (lb r3))]) (fun r3 => []) (by kernel_rfl) (fun r3 hr => pOp_eff (by kernel_rfl) (by kernel_rfl) (eff_call (ARGS := [.agg [li .i64 a0.F.a2.N, ls a0.F.a2.Text]]) (by kernel_rfl) (args_clean (by kernel_rfl) args_nil) (F17_ok n a0.F.a2 r3 hr) (by kernel_rfl))) (fun r3 => ?_)
      refine SimI.run 1 [(13, .one (lb (!(r3))))] [] (by kernel_rfl) ?_
      refine SimI.done (by kernel_rfl) ?_
      refine SimE.thenN ?_
      refine Sim.cond (!(r3)) (by kernel_rfl) ?_ ?_
      · refine Sim.seq ?_
        refine Sim.region0 ?_
        refine SimI.run 1 [(2, .one (lb false))] [] (by kernel_rfl) ?_
        refine SimI.done (by kernel_rfl) ?_
        refine SimE.thenN ?_
        refine Sim.ret ?_
        refine SimE.blockR ?_
        refine SimE.thenR ?_
        refine SimE.loopR ?_
        refine SimE.blockR ?_
        refine SimE.thenR ?_
        exact SimE.fin (by kernel_rfl)
      · refine Sim.skip ?_
        refine SimE.blockN ?_
        refine SimE.thenN ?_
        refine Sim.region0 ?_
        refine SimI.run 3 [(3, .one (li .i64 3)), (7, .one (li .i64 3)), (6, .one (li .i64 2))] [] (by kernel_rfl) ?_
        refine SimI.done (by kernel_rfl) ?_
        refine SimE.loopN ?_
        refine SimL.succ ?_
        refine Sim.seq ?_
        refine Sim.seq ?_
        refine Sim.region [(1, .one (.ptr 1 0)), (3, .one (li .i64 3))] ((1, some (.cells [li .i64 a0.ID, li .u8 a0.Mask, li .i64 a0.At.X, li .i64 a0.At.Y, li .i64 a0.F.a0.N, ls a0.F.a0.Text, li .i64 a0.F.a1.N, ls a0.F.a1.Text, li .i64 a0.F.a2.N, ls a0.F.a2.Text, li .i64 a0.F.a3.N, ls a0.F.a3.Text])) :: []) (by kernel_rfl) ?_
        refine SimI.run 2 [(5, .one (lb true)), (4, .one (li .i64 3))] [] (by kernel_rfl) ?_
        refine SimI.done (by kernel_rfl) ?_
        refine SimE.thenN ?_
        refine Sim.condT (by kernel_rfl) ?_
        refine Sim.skip ?_
        refine SimE.thenN ?_
        refine Sim.seq ?_
        refine Sim.block ?_
        refine Sim.seq ?_
        refine Sim.region0 ?_
        refine SimI.run 4 [(11, .agg [li .i64 a0.F.a3.N, ls a0.F.a3.Text]), (10, .one (.ptr 1 10)), (9, .one (.ptr 1 4)), (8, .one (li .i64 3))] [] (by kernel_rfl) ?_
        refine SimI.bind (og := F17 n a0.F.a3) { dst := some 12, op := POp.call true [[]] 17 [Operand.tmp 11], guard := none, hints := [] } (fun r4 => [(12, .one (lb r4))]) (fun r4 => []) (by kernel_rfl) (fun r4 hr => pOp_eff (by kernel_rfl) (by kernel_rfl) (eff_call (ARGS := [.agg [li .i64 a0.F.a3.N, ls a0.F.a3.Text]]) (by kernel_rfl) (args_clean (by kernel_rfl) args_nil) (F17_ok n a0.F.a3 r4 hr) (by kernel_rfl))) (fun r4 => ?_)
        refine SimI.run 1 [(13, .one (lb (!(r4))))] [] (by kernel_rfl) ?_
        refine SimI.done (by kernel_rfl) ?_
        refine SimE.thenN ?_
        refine Sim.cond (!(r4)) (by kernel_rfl) ?_ ?_
        · refine Sim.seq ?_
          refine Sim.region0 ?_
          refine SimI.run 1 [(2, .one (lb false))] [] (by kernel_rfl) ?_
          refine SimI.done (by kernel_rfl) ?_
          refine SimE.thenN ?_
          refine Sim.ret ?_
          refine SimE.blockR ?_
          refine SimE.thenR ?_
          refine SimE.loopR ?_
          refine SimE.blockR ?_
          refine SimE.thenR ?_
          exact SimE.fin (by kernel_rfl)
        · refine Sim.skip ?_
          refine SimE.blockN ?_
          refine SimE.thenN ?_
          refine Sim.region0 ?_
          refine SimI.run 3 [(3, .one (li .i64 4)), (7, .one (li .i64 4)), (6, .one (li .i64 3))] [] (by kernel_rfl) ?_
          refine SimI.done (by kernel_rfl) ?_
          refine SimE.loopN ?_
          refine SimL.succ ?_
          refine Sim.seq ?_
          refine Sim.seq ?_
          refine Sim.region [(1, .one (.ptr 1 0)), (3, .one (li .i64 4))] ((1, some (.cells [li .i64 a0.ID, li .u8 a0.Mask, li .i64 a0.At.X, li .i64 a0.At.Y, li .i64 a0.F.a0.N, ls a0.F.a0.Text, li .i64 a0.F.a1.N, ls a0.F.a1.Text, li .i64 a0.F.a2.N, ls a0.F.a2.Text, li .i64 a0.F.a3.N, ls a0.F.a3.Text])) :: []) (by kernel_rfl) ?_
          refine SimI.run 2 [(5, .one (lb false)), (4, .one (li .i64 4))] [] (by kernel_rfl) ?_
          refine SimI.done (by kernel_rfl) ?_
          refine SimE.thenN ?_
          refine Sim.condF (by kernel_rfl) ?_
          refine Sim.exit ?_
          refine SimE.thenX ?_
          refine SimE.loopX ?_
          refine SimE.blockX ?_
          refine SimE.thenN ?_
          refine Sim.seq ?_
          refine Sim.region0 ?_
          refine SimI.run 1 [(2, .one (lb true))] [] (by kernel_rfl) ?_
          refine SimI.done (by kernel_rfl) ?_
          refine SimE.thenN ?_
          refine Sim.ret ?_
          exact SimE.fin (by kernel_rfl)


-- 27: vedette/vedetteref6.IsField
def F27_e : Bool → PV × List (List Lf) := fun r => (.one (lb r), [])
def F27 (n : Nat) (a0 : Field) : Option Bool :=
  if a0.N == 0 then
    some (decide ((a0.Text.size : Int) ≤ 12))
  else
    if a0.Text.toList == ByteArray.empty.toList then
      some (decide ((a0.Text.size : Int) ≤ 12))
    else
      some false
theorem F27_ok (n : Nat) (a0 : Field) : ∀ r, F27 n a0 = some r → D 27 [.agg [li .i64 a0.N, ls a0.Text]] [] = some (F27_e r) := by
  refine fn_to (D := D) (n := n + 8) (nt := 17) (rs := pc27_r) (c := pc27_c5) (L := [(0, .agg [li .i64 a0.N, ls a0.Text])]) (M := []) (k := 0) rfl rfl rfl rfl rfl rfl ?_
  unfold F27
  refine Sim.seq ?_
  refine Sim.region0 ?_
  refine SimI.run 2 [(2, .one (lb false)), (1, .one (.ptr 1 0))] [(1, some (.cells [li .i64 a0.N, ls a0.Text]))] (by kernel_rfl) ?_
  refine SimI.done (by kernel_rfl) ?_
  refine SimE.thenN ?_
  refine Sim.seq ?_
  refine Sim.region0 ?_
  refine SimI.run 4 [(6, .one (lb (a0.N == 0))), (5, .one (lb (a0.N == 0))), (4, .one (li .i64 a0.N)), (3, .one (.ptr 1 0))] [] (by kernel_rfl) ?_
  refine SimI.split 6 (a0.N == 0) (by kernel_rfl) ?_ ?_
  · refine SimI.run 11 [(2, .one (lb (decide ((a0.Text.size : Int) ≤ 12)))), (16, .one (lb (decide ((a0.Text.size : Int) ≤ 12)))), (15, .one (lb (decide ((a0.Text.size : Int) ≤ 12)))), (14, .one (li .i64 (a0.Text.size : Int))), (13, .one (ls a0.Text)), (12, .one (.ptr 1 1)), (11, .one (lb true)), (10, .one (lb true)), (9, .tup []), (8, .tup []), (7, .tup [])] [] (by kernel_rfl) ?_
    refine SimI.done (by kernel_rfl) ?_
    refine SimE.thenN ?_
    refine Sim.ret ?_
    exact SimE.fin (by kernel_rfl)
  · refine SimI.run 5 [(11, .one (lb (a0.Text.toList == ByteArray.empty.toList))), (10, .one (lb (a0.Text.toList == ByteArray.empty.toList))), (9, .one (lb (a0.Text.toList == ByteArray.empty.toList))), (8, .one (ls a0.Text)), (7, .one (.ptr 1 1))] [] (by kernel_rfl) ?_
    refine SimI.split 11 (a0.Text.toList == ByteArray.empty.toList) (by kernel_rfl) ?_ ?_
    · refine SimI.run 6 [(2, .one (lb (decide ((a0.Text.size : Int) ≤ 12)))), (16, .one (lb (decide ((a0.Text.size : Int) ≤ 12)))), (15, .one (lb (decide ((a0.Text.size : Int) ≤ 12)))), (14, .one (li .i64 (a0.Text.size : Int))), (13, .one (ls a0.Text)), (12, .one (.ptr 1 1))] [] (by kernel_rfl) ?_
      refine SimI.done (by kernel_rfl) ?_
      refine SimE.thenN ?_
      refine Sim.ret ?_
      exact SimE.fin (by kernel_rfl)
    · refine SimI.run 6 [(2, .one (lb false)), (16, .one (lb false)), (15, .tup []), (14, .tup []), (13, .tup []), (12, .tup [])] [] (by kernel_rfl) ?_
      refine SimI.done (by kernel_rfl) ?_
      refine SimE.thenN ?_
      refine Sim.ret ?_
      exact SimE.fin (by kernel_rfl)


-- 46: vedette/vedetteref3.On
def F46_e : Bool → PV × List (List Lf) := fun r => (.one (lb r), [])
def F46 (n : Nat) (a0 : Point) : Option Bool :=
  if decide ((0 : Int) ≤ a0.X) then
    if decide (a0.X < 64) then
      if decide ((0 : Int) ≤ a0.Y) then
        some (decide (a0.Y < 64))
      else
        some false
    else
      some false
  else
    some false
theorem F46_ok (n : Nat) (a0 : Point) : ∀ r, F46 n a0 = some r → D 46 [.agg [li .i64 a0.X, li .i64 a0.Y]] [] = some (F46_e r) := by
  refine fn_to (D := D) (n := n + 8) (nt := 21) (rs := pc46_r) (c := pc46_c5) (L := [(0, .agg [li .i64 a0.X, li .i64 a0.Y])]) (M := []) (k := 0) rfl rfl rfl rfl rfl rfl ?_
  unfold F46
  refine Sim.seq ?_
  refine Sim.region0 ?_
  refine SimI.run 2 [(2, .one (lb false)), (1, .one (.ptr 1 0))] [(1, some (.cells [li .i64 a0.X, li .i64 a0.Y]))] (by kernel_rfl) ?_
  refine SimI.done (by kernel_rfl) ?_
  refine SimE.thenN ?_
  refine Sim.seq ?_
  refine Sim.region0 ?_
  refine SimI.run 4 [(6, .one (lb (decide ((0 : Int) ≤ a0.X)))), (5, .one (lb (decide ((0 : Int) ≤ a0.X)))), (4, .one (li .i64 a0.X)), (3, .one (.ptr 1 0))] [] (by kernel_rfl) ?_
  refine SimI.split 6 (decide ((0 : Int) ≤ a0.X)) (by kernel_rfl) ?_ ?_
  · refine SimI.run 5 [(11, .one (lb (decide (a0.X < 64)))), (10, .one (lb (decide (a0.X < 64)))), (9, .one (lb (decide (a0.X < 64)))), (8, .one (li .i64 a0.X)), (7, .one (.ptr 1 0))] [] (by kernel_rfl) ?_
    refine SimI.split 11 (decide (a0.X < 64)) (by kernel_rfl) ?_ ?_
    · refine SimI.run 5 [(16, .one (lb (decide ((0 : Int) ≤ a0.Y)))), (15, .one (lb (decide ((0 : Int) ≤ a0.Y)))), (14, .one (lb (decide ((0 : Int) ≤ a0.Y)))), (13, .one (li .i64 a0.Y)), (12, .one (.ptr 1 1))] [] (by kernel_rfl) ?_
      refine SimI.split 16 (decide ((0 : Int) ≤ a0.Y)) (by kernel_rfl) ?_ ?_
      · refine SimI.run 5 [(2, .one (lb (decide (a0.Y < 64)))), (20, .one (lb (decide (a0.Y < 64)))), (19, .one (lb (decide (a0.Y < 64)))), (18, .one (li .i64 a0.Y)), (17, .one (.ptr 1 1))] [] (by kernel_rfl) ?_
        refine SimI.done (by kernel_rfl) ?_
        refine SimE.thenN ?_
        refine Sim.ret ?_
        exact SimE.fin (by kernel_rfl)
      · refine SimI.run 5 [(2, .one (lb false)), (20, .one (lb false)), (19, .tup []), (18, .tup []), (17, .tup [])] [] (by kernel_rfl) ?_
        refine SimI.done (by kernel_rfl) ?_
        refine SimE.thenN ?_
        refine Sim.ret ?_
        exact SimE.fin (by kernel_rfl)
    · refine SimI.run 10 [(2, .one (lb false)), (20, .one (lb false)), (19, .tup []), (18, .tup []), (17, .tup []), (16, .one (lb false)), (15, .one (lb false)), (14, .tup []), (13, .tup []), (12, .tup [])] [] (by kernel_rfl) ?_
      refine SimI.done (by kernel_rfl) ?_
      refine SimE.thenN ?_
      refine Sim.ret ?_
      exact SimE.fin (by kernel_rfl)
  · refine SimI.run 15 [(2, .one (lb false)), (20, .one (lb false)), (19, .tup []), (18, .tup []), (17, .tup []), (16, .one (lb false)), (15, .one (lb false)), (14, .tup []), (13, .tup []), (12, .tup []), (11, .one (lb false)), (10, .one (lb false)), (9, .tup []), (8, .tup []), (7, .tup [])] [] (by kernel_rfl) ?_
    refine SimI.done (by kernel_rfl) ?_
    refine SimE.thenN ?_
    refine Sim.ret ?_
    exact SimE.fin (by kernel_rfl)


-- 21: vedette/vedetteref6.IsDelta
def F21_e : Bool → PV × List (List Lf) := fun r => (.one (lb r), [])
def F21_u10 (n : Nat) : Option Bool :=
    some true
theorem F21_u10_ok (n : Nat) (a0 : Delta) : SimL Try.prog D (n + 8) (n + 4) pc21_c32 [(1, .one (.ptr 1 0)), (3, .one (li .i64 4))] ((1, some (.cells [li .i64 a0.ID, li .u8 a0.Mask, li .i64 a0.At.X, li .i64 a0.At.Y, li .i64 a0.F.a0.N, ls a0.F.a0.Text, li .i64 a0.F.a1.N, ls a0.F.a1.Text, li .i64 a0.F.a2.N, ls a0.F.a2.Text, li .i64 a0.F.a3.N, ls a0.F.a3.Text])) :: []) (F21_u10 n) (QB 0 (QT Try.prog D (n + 8) pc21_c38 (QF pc21_r 0 F21_e))) := by
    unfold F21_u10
    refine SimL.succ ?_
    refine Sim.seq ?_
    refine Sim.seq ?_
    refine Sim.region [(1, .one (.ptr 1 0)), (3, .one (li .i64 4))] ((1, some (.cells [li .i64 a0.ID, li .u8 a0.Mask, li .i64 a0.At.X, li .i64 a0.At.Y, li .i64 a0.F.a0.N, ls a0.F.a0.Text, li .i64 a0.F.a1.N, ls a0.F.a1.Text, li .i64 a0.F.a2.N, ls a0.F.a2.Text, li .i64 a0.F.a3.N, ls a0.F.a3.Text])) :: []) (by kernel_rfl) ?_
    refine SimI.run 2 [(45, .one (lb false)), (44, .one (li .i64 4))] [] (by kernel_rfl) ?_
    refine SimI.done (by kernel_rfl) ?_
    refine SimE.thenN ?_
    refine Sim.condF (by kernel_rfl) ?_
    refine Sim.exit ?_
    refine SimE.thenX ?_
    refine SimE.loopX ?_
    refine SimE.blockX ?_
    refine SimE.thenN ?_
    refine Sim.seq ?_
    refine Sim.region0 ?_
    refine SimI.run 1 [(2, .one (lb true))] [] (by kernel_rfl) ?_
    refine SimI.done (by kernel_rfl) ?_
    refine SimE.thenN ?_
    refine Sim.ret ?_
    exact SimE.fin (by kernel_rfl)

def F21_u8 (n : Nat) (a0 : Delta) : Option Bool :=
    (F27 n a0.F.a3).bind fun (r9 : Bool) =>
    if !(r9) then
      some false
    else
      if (bitsI .and .u8 (shrI .u8 a0.Mask 4) 1) == 0 then
        if !(Field.eqb a0.F.a3 (Field.mk 0 ByteArray.empty)) then
          some false
        else
          F21_u10 n
      else
        F21_u10 n
theorem F21_u8_ok (n : Nat) (a0 : Delta) : SimL Try.prog D (n + 8) (n + 5) pc21_c32 [(1, .one (.ptr 1 0)), (3, .one (li .i64 3))] ((1, some (.cells [li .i64 a0.ID, li .u8 a0.Mask, li .i64 a0.At.X, li .i64 a0.At.Y, li .i64 a0.F.a0.N, ls a0.F.a0.Text, li .i64 a0.F.a1.N, ls a0.F.a1.Text, li .i64 a0.F.a2.N, ls a0.F.a2.Text, li .i64 a0.F.a3.N, ls a0.F.a3.Text])) :: []) (F21_u8 n a0) (QB 0 (QT Try.prog D (n + 8) pc21_c38 (QF pc21_r 0 F21_e))) := by
    unfold F21_u8
    refine SimL.succ ?_
    refine Sim.seq ?_
    refine Sim.seq ?_
    refine Sim.region [(1, .one (.ptr 1 0)), (3, .one (li .i64 3))] ((1, some (.cells [li .i64 a0.ID, li .u8 a0.Mask, li .i64 a0.At.X, li .i64 a0.At.Y, li .i64 a0.F.a0.N, ls a0.F.a0.Text, li .i64 a0.F.a1.N, ls a0.F.a1.Text, li .i64 a0.F.a2.N, ls a0.F.a2.Text, li .i64 a0.F.a3.N, ls a0.F.a3.Text])) :: []) (by kernel_rfl) ?_
    refine SimI.run 2 [(45, .one (lb true)), (44, .one (li .i64 3))] [] (by kernel_rfl) ?_
    refine SimI.done (by kernel_rfl) ?_
    refine SimE.thenN ?_
    refine Sim.condT (by kernel_rfl) ?_
    refine Sim.skip ?_
    refine SimE.thenN ?_
    refine Sim.seq ?_
    refine Sim.block ?_
    refine Sim.seq ?_
    refine Sim.region0 ?_
    refine SimI.run 4 [(51, .agg [li .i64 a0.F.a3.N, ls a0.F.a3.Text]), (50, .one (.ptr 1 10)), (49, .one (.ptr 1 4)), (48, .one (li .i64 3))] [] (by kernel_rfl) ?_
    refine SimI.bind (og := F27 n a0.F.a3) { dst := some 52, op := POp.call true [[]] 27 [Operand.tmp 51], guard := none, hints := [] } (fun r9 => [(52, .one (lb r9))]) (fun r9 => []) (by kernel_rfl) (fun r9 hr => pOp_eff (by kernel_rfl) (by kernel_rfl) (eff_call (ARGS := [.agg [li .i64 a0.F.a3.N, ls a0.F.a3.Text]]) (by kernel_rfl) (args_clean (by kernel_rfl) args_nil) (F27_ok n a0.F.a3 r9 hr) (by kernel_rfl))) (fun r9 => ?_)
    refine SimI.run 2 [(54, .one (lb (!(r9)))), (53, .one (lb (!(r9))))] [] (by kernel_rfl) ?_
    refine SimI.split 54 (!(r9)) (by kernel_rfl) ?_ ?_
    · refine SimI.run 17 [(71, .one (lb true)), (70, .tup []), (69, .tup []), (68, .tup []), (67, .tup []), (66, .tup []), (65, .tup []), (64, .tup []), (63, .tup []), (62, .tup []), (61, .tup []), (60, .tup []), (59, .tup []), (58, .tup []), (57, .tup []), (56, .tup []), (55, .tup [])] [] (by kernel_rfl) ?_
      refine SimI.done (by kernel_rfl) ?_
      refine SimE.thenN ?_
      refine Sim.condT (by kernel_rfl) ?_
      refine Sim.seq ?_
      refine Sim.region0 ?_
      refine SimI.run 1 [(2, .one (lb false))] [] (by kernel_rfl) ?_
      refine SimI.done (by kernel_rfl) ?_
      refine SimE.thenN ?_
      refine Sim.ret ?_
      refine SimE.blockR ?_
      refine SimE.thenR ?_
      refine SimE.loopR ?_
      refine SimE.blockR ?_
      refine SimE.thenR ?_
      exact SimE.fin (by kernel_rfl)
    · refine SimI.run 9 [(63, .one (lb ((bitsI .and .u8 (shrI .u8 a0.Mask 4) 1) == 0))), (62, .one (lb ((bitsI .and .u8 (shrI .u8 a0.Mask 4) 1) == 0))), (61, .one (li .u8 (bitsI .and .u8 (shrI .u8 a0.Mask 4) 1))), (60, .one (li .u8 (shrI .u8 a0.Mask 4))), (59, .one (li .u64 4)), (58, .one (li .i64 4)), (57, .one (li .i64 3)), (56, .one (li .u8 a0.Mask)), (55, .one (.ptr 1 1))] [] (by kernel_rfl) ?_
      refine SimI.split 63 ((bitsI .and .u8 (shrI .u8 a0.Mask 4) 1) == 0) (by kernel_rfl) ?_ ?_
      · refine SimI.run 5 [(68, .agg [li .i64 0, ls ByteArray.empty]), (67, .agg [li .i64 a0.F.a3.N, ls a0.F.a3.Text]), (66, .one (.ptr 1 10)), (65, .one (.ptr 1 4)), (64, .one (li .i64 3))] [] (by kernel_rfl) ?_
        refine SimI.step { dst := some 69, op := POp.prim (Prim.bin BinOp.neq 25 false false) [Operand.tmp 67, Operand.tmp 68], guard := some (63, true), hints := [] } [(69, .one (lb (!(Field.eqb a0.F.a3 (Field.mk 0 ByteArray.empty)))))] [] (by kernel_rfl) (pOp_eff (by kernel_rfl) (by kernel_rfl) (eff_prim (by kernel_rfl) (Field_eqn a0.F.a3 (Field.mk 0 ByteArray.empty) _ _))) ?_
        refine SimI.run 2 [(71, .one (lb (!(Field.eqb a0.F.a3 (Field.mk 0 ByteArray.empty))))), (70, .one (lb (!(Field.eqb a0.F.a3 (Field.mk 0 ByteArray.empty)))))] [] (by kernel_rfl) ?_
        refine SimI.done (by kernel_rfl) ?_
        refine SimE.thenN ?_
        refine Sim.cond (!(Field.eqb a0.F.a3 (Field.mk 0 ByteArray.empty))) (by kernel_rfl) ?_ ?_
        · refine Sim.seq ?_
          refine Sim.region0 ?_
          refine SimI.run 1 [(2, .one (lb false))] [] (by kernel_rfl) ?_
          refine SimI.done (by kernel_rfl) ?_
          refine SimE.thenN ?_
          refine Sim.ret ?_
          refine SimE.blockR ?_
          refine SimE.thenR ?_
          refine SimE.loopR ?_
          refine SimE.blockR ?_
          refine SimE.thenR ?_
          exact SimE.fin (by kernel_rfl)
        · refine Sim.skip ?_
          refine SimE.blockN ?_
          refine SimE.thenN ?_
          refine Sim.region0 ?_
          refine SimI.run 3 [(3, .one (li .i64 4)), (47, .one (li .i64 4)), (46, .one (li .i64 3))] [] (by kernel_rfl) ?_
          refine SimI.done (by kernel_rfl) ?_
          refine SimE.loopN ?_
          refine SimL.pre (ts := [1, 3]) (os := [1]) [(1, .one (.ptr 1 0)), (3, .one (li .i64 4))] ((1, some (.cells [li .i64 a0.ID, li .u8 a0.Mask, li .i64 a0.At.X, li .i64 a0.At.Y, li .i64 a0.F.a0.N, ls a0.F.a0.Text, li .i64 a0.F.a1.N, ls a0.F.a1.Text, li .i64 a0.F.a2.N, ls a0.F.a2.Text, li .i64 a0.F.a3.N, ls a0.F.a3.Text])) :: []) (by kernel_rfl) (by kernel_rfl) (by kernel_rfl) ?_
          exact F21_u10_ok n a0
      · refine SimI.run 8 [(71, .one (lb false)), (70, .one (lb false)), (69, .tup []), (68, .tup []), (67, .tup []), (66, .tup []), (65, .tup []), (64, .tup [])] [] (by kernel_rfl) ?_
        refine SimI.done (by kernel_rfl) ?_
        refine SimE.thenN ?_
        refine Sim.condF (by kernel_rfl) ?_
        refine Sim.skip ?_
        refine SimE.blockN ?_
        refine SimE.thenN ?_
        refine Sim.region0 ?_
        refine SimI.run 3 [(3, .one (li .i64 4)), (47, .one (li .i64 4)), (46, .one (li .i64 3))] [] (by kernel_rfl) ?_
        refine SimI.done (by kernel_rfl) ?_
        refine SimE.loopN ?_
        refine SimL.pre (ts := [1, 3]) (os := [1]) [(1, .one (.ptr 1 0)), (3, .one (li .i64 4))] ((1, some (.cells [li .i64 a0.ID, li .u8 a0.Mask, li .i64 a0.At.X, li .i64 a0.At.Y, li .i64 a0.F.a0.N, ls a0.F.a0.Text, li .i64 a0.F.a1.N, ls a0.F.a1.Text, li .i64 a0.F.a2.N, ls a0.F.a2.Text, li .i64 a0.F.a3.N, ls a0.F.a3.Text])) :: []) (by kernel_rfl) (by kernel_rfl) (by kernel_rfl) ?_
        exact F21_u10_ok n a0

def F21_u6 (n : Nat) (a0 : Delta) : Option Bool :=
    (F27 n a0.F.a2).bind fun (r7 : Bool) =>
    if !(r7) then
      some false
    else
      if (bitsI .and .u8 (shrI .u8 a0.Mask 3) 1) == 0 then
        if !(Field.eqb a0.F.a2 (Field.mk 0 ByteArray.empty)) then
          some false
        else
          F21_u8 n a0
      else
        F21_u8 n a0
theorem F21_u6_ok (n : Nat) (a0 : Delta) : SimL Try.prog D (n + 8) (n + 6) pc21_c32 [(1, .one (.ptr 1 0)), (3, .one (li .i64 2))] ((1, some (.cells [li .i64 a0.ID, li .u8 a0.Mask, li .i64 a0.At.X, li .i64 a0.At.Y, li .i64 a0.F.a0.N, ls a0.F.a0.Text, li .i64 a0.F.a1.N, ls a0.F.a1.Text, li .i64 a0.F.a2.N, ls a0.F.a2.Text, li .i64 a0.F.a3.N, ls a0.F.a3.Text])) :: []) (F21_u6 n a0) (QB 0 (QT Try.prog D (n + 8) pc21_c38 (QF pc21_r 0 F21_e))) := by
    unfold F21_u6
    refine SimL.succ ?_
    refine Sim.seq ?_
    refine Sim.seq ?_
    refine Sim.region [(1, .one (.ptr 1 0)), (3, .one (li .i64 2))] ((1, some (.cells [li .i64 a0.ID, li .u8 a0.Mask, li .i64 a0.At.X, li .i64 a0.At.Y, li .i64 a0.F.a0.N, ls a0.F.a0.Text, li .i64 a0.F.a1.N, ls a0.F.a1.Text, li .i64 a0.F.a2.N, ls a0.F.a2.Text, li .i64 a0.F.a3.N, ls a0.F.a3.Text])) :: []) (by kernel_rfl) ?_
    refine SimI.run 2 [(45, .one (lb true)), (44, .one (li .i64 2))] [] (by kernel_rfl) ?_
    refine SimI.done (by kernel_rfl) ?_
    refine SimE.thenN ?_
    refine Sim.condT (by kernel_rfl) ?_
    refine Sim.skip ?_
    refine SimE.thenN ?_
    refine Sim.seq ?_
    refine Sim.block ?_
    refine Sim.seq ?_
    refine Sim.region0 ?_
    refine SimI.run 4 [(51, .agg [li .i64 a0.F.a2.N, ls a0.F.a2.Text]), (50, .one (.ptr 1 8)), (49, .one (.ptr 1 4)), (48, .one (li .i64 2))] [] (by kernel_rfl) ?_
    refine SimI.bind (og := F27 n a0.F.a2) { dst := some 52, op := POp.call true [[]] 27 [Operand.tmp 51], guard := none, hints := [] } (fun r7 => [(52, .one (lb r7))]) (fun r7 => []) (by kernel_rfl) (fun r7 hr => pOp_eff (by kernel_rfl) (by kernel_rfl) (eff_call (ARGS := [.agg [li .i64 a0.F.a2.N, ls a0.F.a2.Text]]) (by kernel_rfl) (args_clean (by kernel_rfl) args_nil) (F27_ok n a0.F.a2 r7 hr) (by kernel_rfl))) (fun r7 => ?_)
    refine SimI.run 2 [(54, .one (lb (!(r7)))), (53, .one (lb (!(r7))))] [] (by kernel_rfl) ?_
    refine SimI.split 54 (!(r7)) (by kernel_rfl) ?_ ?_
    · refine SimI.run 17 [(71, .one (lb true)), (70, .tup []), (69, .tup []), (68, .tup []), (67, .tup []), (66, .tup []), (65, .tup []), (64, .tup []), (63, .tup []), (62, .tup []), (61, .tup []), (60, .tup []), (59, .tup []), (58, .tup []), (57, .tup []), (56, .tup []), (55, .tup [])] [] (by kernel_rfl) ?_
      refine SimI.done (by kernel_rfl) ?_
      refine SimE.thenN ?_
      refine Sim.condT (by kernel_rfl) ?_
      refine Sim.seq ?_
      refine Sim.region0 ?_
      refine SimI.run 1 [(2, .one (lb false))] [] (by kernel_rfl) ?_
      refine SimI.done (by kernel_rfl) ?_
      refine SimE.thenN ?_
      refine Sim.ret ?_
      refine SimE.blockR ?_
      refine SimE.thenR ?_
      refine SimE.loopR ?_
      refine SimE.blockR ?_
      refine SimE.thenR ?_
      exact SimE.fin (by kernel_rfl)
    · refine SimI.run 9 [(63, .one (lb ((bitsI .and .u8 (shrI .u8 a0.Mask 3) 1) == 0))), (62, .one (lb ((bitsI .and .u8 (shrI .u8 a0.Mask 3) 1) == 0))), (61, .one (li .u8 (bitsI .and .u8 (shrI .u8 a0.Mask 3) 1))), (60, .one (li .u8 (shrI .u8 a0.Mask 3))), (59, .one (li .u64 3)), (58, .one (li .i64 3)), (57, .one (li .i64 2)), (56, .one (li .u8 a0.Mask)), (55, .one (.ptr 1 1))] [] (by kernel_rfl) ?_
      refine SimI.split 63 ((bitsI .and .u8 (shrI .u8 a0.Mask 3) 1) == 0) (by kernel_rfl) ?_ ?_
      · refine SimI.run 5 [(68, .agg [li .i64 0, ls ByteArray.empty]), (67, .agg [li .i64 a0.F.a2.N, ls a0.F.a2.Text]), (66, .one (.ptr 1 8)), (65, .one (.ptr 1 4)), (64, .one (li .i64 2))] [] (by kernel_rfl) ?_
        refine SimI.step { dst := some 69, op := POp.prim (Prim.bin BinOp.neq 25 false false) [Operand.tmp 67, Operand.tmp 68], guard := some (63, true), hints := [] } [(69, .one (lb (!(Field.eqb a0.F.a2 (Field.mk 0 ByteArray.empty)))))] [] (by kernel_rfl) (pOp_eff (by kernel_rfl) (by kernel_rfl) (eff_prim (by kernel_rfl) (Field_eqn a0.F.a2 (Field.mk 0 ByteArray.empty) _ _))) ?_
        refine SimI.run 2 [(71, .one (lb (!(Field.eqb a0.F.a2 (Field.mk 0 ByteArray.empty))))), (70, .one (lb (!(Field.eqb a0.F.a2 (Field.mk 0 ByteArray.empty)))))] [] (by kernel_rfl) ?_
        refine SimI.done (by kernel_rfl) ?_
        refine SimE.thenN ?_
        refine Sim.cond (!(Field.eqb a0.F.a2 (Field.mk 0 ByteArray.empty))) (by kernel_rfl) ?_ ?_
        · refine Sim.seq ?_
          refine Sim.region0 ?_
          refine SimI.run 1 [(2, .one (lb false))] [] (by kernel_rfl) ?_
          refine SimI.done (by kernel_rfl) ?_
          refine SimE.thenN ?_
          refine Sim.ret ?_
          refine SimE.blockR ?_
          refine SimE.thenR ?_
          refine SimE.loopR ?_
          refine SimE.blockR ?_
          refine SimE.thenR ?_
          exact SimE.fin (by kernel_rfl)
        · refine Sim.skip ?_
          refine SimE.blockN ?_
          refine SimE.thenN ?_
          refine Sim.region0 ?_
          refine SimI.run 3 [(3, .one (li .i64 3)), (47, .one (li .i64 3)), (46, .one (li .i64 2))] [] (by kernel_rfl) ?_
          refine SimI.done (by kernel_rfl) ?_
          refine SimE.loopN ?_
          refine SimL.pre (ts := [1, 3]) (os := [1]) [(1, .one (.ptr 1 0)), (3, .one (li .i64 3))] ((1, some (.cells [li .i64 a0.ID, li .u8 a0.Mask, li .i64 a0.At.X, li .i64 a0.At.Y, li .i64 a0.F.a0.N, ls a0.F.a0.Text, li .i64 a0.F.a1.N, ls a0.F.a1.Text, li .i64 a0.F.a2.N, ls a0.F.a2.Text, li .i64 a0.F.a3.N, ls a0.F.a3.Text])) :: []) (by kernel_rfl) (by kernel_rfl) (by kernel_rfl) ?_
          exact F21_u8_ok n a0
      · refine SimI.run 8 [(71, .one (lb false)), (70, .one (lb false)), (69, .tup []), (68, .tup []), (67, .tup []), (66, .tup []), (65, .tup []), (64, .tup [])] [] (by kernel_rfl) ?_
        refine SimI.done (by kernel_rfl) ?_
        refine SimE.thenN ?_
        refine Sim.condF (by kernel_rfl) ?_
        refine Sim.skip ?_
        refine SimE.blockN ?_
        refine SimE.thenN ?_
        refine Sim.region0 ?_
        refine SimI.run 3 [(3, .one (li .i64 3)), (47, .one (li .i64 3)), (46, .one (li .i64 2))] [] (by kernel_rfl) ?_
        refine SimI.done (by kernel_rfl) ?_
        refine SimE.loopN ?_
        refine SimL.pre (ts := [1, 3]) (os := [1]) [(1, .one (.ptr 1 0)), (3, .one (li .i64 3))] ((1, some (.cells [li .i64 a0.ID, li .u8 a0.Mask, li .i64 a0.At.X, li .i64 a0.At.Y, li .i64 a0.F.a0.N, ls a0.F.a0.Text, li .i64 a0.F.a1.N, ls a0.F.a1.Text, li .i64 a0.F.a2.N, ls a0.F.a2.Text, li .i64 a0.F.a3.N, ls a0.F.a3.Text])) :: []) (by kernel_rfl) (by kernel_rfl) (by kernel_rfl) ?_
        exact F21_u8_ok n a0

def F21_u4 (n : Nat) (a0 : Delta) : Option Bool :=
    (F27 n a0.F.a1).bind fun (r5 : Bool) =>
    if !(r5) then
      some false
    else
      if (bitsI .and .u8 (shrI .u8 a0.Mask 2) 1) == 0 then
        if !(Field.eqb a0.F.a1 (Field.mk 0 ByteArray.empty)) then
          some false
        else
          F21_u6 n a0
      else
        F21_u6 n a0
theorem F21_u4_ok (n : Nat) (a0 : Delta) : SimL Try.prog D (n + 8) (n + 7) pc21_c32 [(1, .one (.ptr 1 0)), (3, .one (li .i64 1))] ((1, some (.cells [li .i64 a0.ID, li .u8 a0.Mask, li .i64 a0.At.X, li .i64 a0.At.Y, li .i64 a0.F.a0.N, ls a0.F.a0.Text, li .i64 a0.F.a1.N, ls a0.F.a1.Text, li .i64 a0.F.a2.N, ls a0.F.a2.Text, li .i64 a0.F.a3.N, ls a0.F.a3.Text])) :: []) (F21_u4 n a0) (QB 0 (QT Try.prog D (n + 8) pc21_c38 (QF pc21_r 0 F21_e))) := by
    unfold F21_u4
    refine SimL.succ ?_
    refine Sim.seq ?_
    refine Sim.seq ?_
    refine Sim.region [(1, .one (.ptr 1 0)), (3, .one (li .i64 1))] ((1, some (.cells [li .i64 a0.ID, li .u8 a0.Mask, li .i64 a0.At.X, li .i64 a0.At.Y, li .i64 a0.F.a0.N, ls a0.F.a0.Text, li .i64 a0.F.a1.N, ls a0.F.a1.Text, li .i64 a0.F.a2.N, ls a0.F.a2.Text, li .i64 a0.F.a3.N, ls a0.F.a3.Text])) :: []) (by kernel_rfl) ?_
    refine SimI.run 2 [(45, .one (lb true)), (44, .one (li .i64 1))] [] (by kernel_rfl) ?_
    refine SimI.done (by kernel_rfl) ?_
    refine SimE.thenN ?_
    refine Sim.condT (by kernel_rfl) ?_
    refine Sim.skip ?_
    refine SimE.thenN ?_
    refine Sim.seq ?_
    refine Sim.block ?_
    refine Sim.seq ?_
    refine Sim.region0 ?_
    refine SimI.run 4 [(51, .agg [li .i64 a0.F.a1.N, ls a0.F.a1.Text]), (50, .one (.ptr 1 6)), (49, .one (.ptr 1 4)), (48, .one (li .i64 1))] [] (by kernel_rfl) ?_
    refine SimI.bind (og := F27 n a0.F.a1) { dst := some 52, op := POp.call true [[]] 27 [Operand.tmp 51], guard := none, hints := [] } (fun r5 => [(52, .one (lb r5))]) (fun r5 => []) (by kernel_rfl) (fun r5 hr => pOp_eff (by kernel_rfl) (by kernel_rfl) (eff_call (ARGS := [.agg [li .i64 a0.F.a1.N, ls a0.F.a1.Text]]) (by kernel_rfl) (args_clean (by kernel_rfl) args_nil) (F27_ok n a0.F.a1 r5 hr) (by kernel_rfl))) (fun r5 => ?_)
    refine SimI.run 2 [(54, .one (lb (!(r5)))), (53, .one (lb (!(r5))))] [] (by kernel_rfl) ?_
    refine SimI.split 54 (!(r5)) (by kernel_rfl) ?_ ?_
    · refine SimI.run 17 [(71, .one (lb true)), (70, .tup []), (69, .tup []), (68, .tup []), (67, .tup []), (66, .tup []), (65, .tup []), (64, .tup []), (63, .tup []), (62, .tup []), (61, .tup []), (60, .tup []), (59, .tup []), (58, .tup []), (57, .tup []), (56, .tup []), (55, .tup [])] [] (by kernel_rfl) ?_
      refine SimI.done (by kernel_rfl) ?_
      refine SimE.thenN ?_
      refine Sim.condT (by kernel_rfl) ?_
      refine Sim.seq ?_
      refine Sim.region0 ?_
      refine SimI.run 1 [(2, .one (lb false))] [] (by kernel_rfl) ?_
      refine SimI.done (by kernel_rfl) ?_
      refine SimE.thenN ?_
      refine Sim.ret ?_
      refine SimE.blockR ?_
      refine SimE.thenR ?_
      refine SimE.loopR ?_
      refine SimE.blockR ?_
      refine SimE.thenR ?_
      exact SimE.fin (by kernel_rfl)
    · refine SimI.run 9 [(63, .one (lb ((bitsI .and .u8 (shrI .u8 a0.Mask 2) 1) == 0))), (62, .one (lb ((bitsI .and .u8 (shrI .u8 a0.Mask 2) 1) == 0))), (61, .one (li .u8 (bitsI .and .u8 (shrI .u8 a0.Mask 2) 1))), (60, .one (li .u8 (shrI .u8 a0.Mask 2))), (59, .one (li .u64 2)), (58, .one (li .i64 2)), (57, .one (li .i64 1)), (56, .one (li .u8 a0.Mask)), (55, .one (.ptr 1 1))] [] (by kernel_rfl) ?_
      refine SimI.split 63 ((bitsI .and .u8 (shrI .u8 a0.Mask 2) 1) == 0) (by kernel_rfl) ?_ ?_
      · refine SimI.run 5 [(68, .agg [li .i64 0, ls ByteArray.empty]), (67, .agg [li .i64 a0.F.a1.N, ls a0.F.a1.Text]), (66, .one (.ptr 1 6)), (65, .one (.ptr 1 4)), (64, .one (li .i64 1))] [] (by kernel_rfl) ?_
        refine SimI.step { dst := some 69, op := POp.prim (Prim.bin BinOp.neq 25 false false) [Operand.tmp 67, Operand.tmp 68], guard := some (63, true), hints := [] } [(69, .one (lb (!(Field.eqb a0.F.a1 (Field.mk 0 ByteArray.empty)))))] [] (by kernel_rfl) (pOp_eff (by kernel_rfl) (by kernel_rfl) (eff_prim (by kernel_rfl) (Field_eqn a0.F.a1 (Field.mk 0 ByteArray.empty) _ _))) ?_
        refine SimI.run 2 [(71, .one (lb (!(Field.eqb a0.F.a1 (Field.mk 0 ByteArray.empty))))), (70, .one (lb (!(Field.eqb a0.F.a1 (Field.mk 0 ByteArray.empty)))))] [] (by kernel_rfl) ?_
        refine SimI.done (by kernel_rfl) ?_
        refine SimE.thenN ?_
        refine Sim.cond (!(Field.eqb a0.F.a1 (Field.mk 0 ByteArray.empty))) (by kernel_rfl) ?_ ?_
        · refine Sim.seq ?_
          refine Sim.region0 ?_
          refine SimI.run 1 [(2, .one (lb false))] [] (by kernel_rfl) ?_
          refine SimI.done (by kernel_rfl) ?_
          refine SimE.thenN ?_
          refine Sim.ret ?_
          refine SimE.blockR ?_
          refine SimE.thenR ?_
          refine SimE.loopR ?_
          refine SimE.blockR ?_
          refine SimE.thenR ?_
          exact SimE.fin (by kernel_rfl)
        · refine Sim.skip ?_
          refine SimE.blockN ?_
          refine SimE.thenN ?_
          refine Sim.region0 ?_
          refine SimI.run 3 [(3, .one (li .i64 2)), (47, .one (li .i64 2)), (46, .one (li .i64 1))] [] (by kernel_rfl) ?_
          refine SimI.done (by kernel_rfl) ?_
          refine SimE.loopN ?_
          refine SimL.pre (ts := [1, 3]) (os := [1]) [(1, .one (.ptr 1 0)), (3, .one (li .i64 2))] ((1, some (.cells [li .i64 a0.ID, li .u8 a0.Mask, li .i64 a0.At.X, li .i64 a0.At.Y, li .i64 a0.F.a0.N, ls a0.F.a0.Text, li .i64 a0.F.a1.N, ls a0.F.a1.Text, li .i64 a0.F.a2.N, ls a0.F.a2.Text, li .i64 a0.F.a3.N, ls a0.F.a3.Text])) :: []) (by kernel_rfl) (by kernel_rfl) (by kernel_rfl) ?_
          exact F21_u6_ok n a0
      · refine SimI.run 8 [(71, .one (lb false)), (70, .one (lb false)), (69, .tup []), (68, .tup []), (67, .tup []), (66, .tup []), (65, .tup []), (64, .tup [])] [] (by kernel_rfl) ?_
        refine SimI.done (by kernel_rfl) ?_
        refine SimE.thenN ?_
        refine Sim.condF (by kernel_rfl) ?_
        refine Sim.skip ?_
        refine SimE.blockN ?_
        refine SimE.thenN ?_
        refine Sim.region0 ?_
        refine SimI.run 3 [(3, .one (li .i64 2)), (47, .one (li .i64 2)), (46, .one (li .i64 1))] [] (by kernel_rfl) ?_
        refine SimI.done (by kernel_rfl) ?_
        refine SimE.loopN ?_
        refine SimL.pre (ts := [1, 3]) (os := [1]) [(1, .one (.ptr 1 0)), (3, .one (li .i64 2))] ((1, some (.cells [li .i64 a0.ID, li .u8 a0.Mask, li .i64 a0.At.X, li .i64 a0.At.Y, li .i64 a0.F.a0.N, ls a0.F.a0.Text, li .i64 a0.F.a1.N, ls a0.F.a1.Text, li .i64 a0.F.a2.N, ls a0.F.a2.Text, li .i64 a0.F.a3.N, ls a0.F.a3.Text])) :: []) (by kernel_rfl) (by kernel_rfl) (by kernel_rfl) ?_
        exact F21_u6_ok n a0

def F21_j2 (n : Nat) (a0 : Delta) : Option Bool :=
    (F27 n a0.F.a0).bind fun (r3 : Bool) =>
    if !(r3) then
      some false
    else
      if (bitsI .and .u8 (shrI .u8 a0.Mask 1) 1) == 0 then
        if !(Field.eqb a0.F.a0 (Field.mk 0 ByteArray.empty)) then
          some false
        else
          F21_u4 n a0
      else
        F21_u4 n a0
theorem F21_j2_ok (n : Nat) (a0 : Delta) : Sim Try.prog D (n + 8) pc21_c39 [(1, .one (.ptr 1 0))] ((1, some (.cells [li .i64 a0.ID, li .u8 a0.Mask, li .i64 a0.At.X, li .i64 a0.At.Y, li .i64 a0.F.a0.N, ls a0.F.a0.Text, li .i64 a0.F.a1.N, ls a0.F.a1.Text, li .i64 a0.F.a2.N, ls a0.F.a2.Text, li .i64 a0.F.a3.N, ls a0.F.a3.Text])) :: []) (F21_j2 n a0) (QF pc21_r 0 F21_e) := by
    unfold F21_j2
    refine Sim.seq ?_
    refine Sim.seq ?_
    refine Sim.region [(1, .one (.ptr 1 0))] ((1, some (.cells [li .i64 a0.ID, li .u8 a0.Mask, li .i64 a0.At.X, li .i64 a0.At.Y, li .i64 a0.F.a0.N, ls a0.F.a0.Text, li .i64 a0.F.a1.N, ls a0.F.a1.Text, li .i64 a0.F.a2.N, ls a0.F.a2.Text, li .i64 a0.F.a3.N, ls a0.F.a3.Text])) :: []) (by kernel_rfl) ?_
    refine SimI.run 1 [(3, .one (li .i64 0))] [] (by kernel_rfl) ?_
    refine SimI.done (by kernel_rfl) ?_
    refine SimE.thenN ?_
    refine Sim.block ?_
    refine Sim.loop ?_
    refine SimL.succ ?_
    refine Sim.seq ?_
    refine Sim.seq ?_
    refine Sim.region [(1, .one (.ptr 1 0)), (3, .one (li .i64 0))] ((1, some (.cells [li .i64 a0.ID, li .u8 a0.Mask, li .i64 a0.At.X, li .i64 a0.At.Y, li .i64 a0.F.a0.N, ls a0.F.a0.Text, li .i64 a0.F.a1.N, ls a0.F.a1.Text, li .i64 a0.F.a2.N, ls a0.F.a2.Text, li .i64 a0.F.a3.N, ls a0.F.a3.Text])) :: []) (by kernel_rfl) ?_
    refine SimI.run 2 [(45, .one (lb true)), (44, .one (li .i64 0))] [] (by kernel_rfl) ?_
    refine SimI.done (by kernel_rfl) ?_
    refine SimE.thenN ?_
    refine Sim.condT (by kernel_rfl) ?_
    refine Sim.skip ?_
    refine SimE.thenN ?_
    refine Sim.seq ?_
    refine Sim.block ?_
    refine Sim.seq ?_
    refine Sim.region0 ?_
    refine SimI.run 4 [(51, .agg [li .i64 a0.F.a0.N, ls a0.F.a0.Text]), (50, .one (.ptr 1 4)), (49, .one (.ptr 1 4)), (48, .one (li .i64 0))] [] (by kernel_rfl) ?_
    refine SimI.bind (og := F27 n a0.F.a0) { dst := some 52, op := POp.call true [[]] 27 [Operand.tmp 51], guard := none, hints := [] } (fun r3 => [(52, .one (lb r3))]) (fun r3 => []) (by kernel_rfl) (fun r3 hr => pOp_eff (by kernel_rfl) (by kernel_rfl) (eff_call (ARGS := [.agg [li .i64 a0.F.a0.N, ls a0.F.a0.Text]]) (by kernel_rfl) (args_clean (by kernel_rfl) args_nil) (F27_ok n a0.F.a0 r3 hr) (by kernel_rfl))) (fun r3 => ?_)
    refine SimI.run 2 [(54, .one (lb (!(r3)))), (53, .one (lb (!(r3))))] [] (by kernel_rfl) ?_
    refine SimI.split 54 (!(r3)) (by kernel_rfl) ?_ ?_
    · refine SimI.run 17 [(71, .one (lb true)), (70, .tup []), (69, .tup []), (68, .tup []), (67, .tup []), (66, .tup []), (65, .tup []), (64, .tup []), (63, .tup []), (62, .tup []), (61, .tup []), (60, .tup []), (59, .tup []), (58, .tup []), (57, .tup []), (56, .tup []), (55, .tup [])] [] (by kernel_rfl) ?_
      refine SimI.done (by kernel_rfl) ?_
      refine SimE.thenN ?_
      refine Sim.condT (by kernel_rfl) ?_
      refine Sim.seq ?_
      refine Sim.region0 ?_
      refine SimI.run 1 [(2, .one (lb false))] [] (by kernel_rfl) ?_
      refine SimI.done (by kernel_rfl) ?_
      refine SimE.thenN ?_
      refine Sim.ret ?_
      refine SimE.blockR ?_
      refine SimE.thenR ?_
      refine SimE.loopR ?_
      refine SimE.blockR ?_
      refine SimE.thenR ?_
      exact SimE.fin (by kernel_rfl)
    · refine SimI.run 9 [(63, .one (lb ((bitsI .and .u8 (shrI .u8 a0.Mask 1) 1) == 0))), (62, .one (lb ((bitsI .and .u8 (shrI .u8 a0.Mask 1) 1) == 0))), (61, .one (li .u8 (bitsI .and .u8 (shrI .u8 a0.Mask 1) 1))), (60, .one (li .u8 (shrI .u8 a0.Mask 1))), (59, .one (li .u64 1)), (58, .one (li .i64 1)), (57, .one (li .i64 0)), (56, .one (li .u8 a0.Mask)), (55, .one (.ptr 1 1))] [] (by kernel_rfl) ?_
      refine SimI.split 63 ((bitsI .and .u8 (shrI .u8 a0.Mask 1) 1) == 0) (by kernel_rfl) ?_ ?_
      · refine SimI.run 5 [(68, .agg [li .i64 0, ls ByteArray.empty]), (67, .agg [li .i64 a0.F.a0.N, ls a0.F.a0.Text]), (66, .one (.ptr 1 4)), (65, .one (.ptr 1 4)), (64, .one (li .i64 0))] [] (by kernel_rfl) ?_
        refine SimI.step { dst := some 69, op := POp.prim (Prim.bin BinOp.neq 25 false false) [Operand.tmp 67, Operand.tmp 68], guard := some (63, true), hints := [] } [(69, .one (lb (!(Field.eqb a0.F.a0 (Field.mk 0 ByteArray.empty)))))] [] (by kernel_rfl) (pOp_eff (by kernel_rfl) (by kernel_rfl) (eff_prim (by kernel_rfl) (Field_eqn a0.F.a0 (Field.mk 0 ByteArray.empty) _ _))) ?_
        refine SimI.run 2 [(71, .one (lb (!(Field.eqb a0.F.a0 (Field.mk 0 ByteArray.empty))))), (70, .one (lb (!(Field.eqb a0.F.a0 (Field.mk 0 ByteArray.empty)))))] [] (by kernel_rfl) ?_
        refine SimI.done (by kernel_rfl) ?_
        refine SimE.thenN ?_
        refine Sim.cond (!(Field.eqb a0.F.a0 (Field.mk 0 ByteArray.empty))) (by kernel_rfl) ?_ ?_
        · refine Sim.seq ?_
          refine Sim.region0 ?_
          refine SimI.run 1 [(2, .one (lb false))] [] (by kernel_rfl) ?_
          refine SimI.done (by kernel_rfl) ?_
          refine SimE.thenN ?_
          refine Sim.ret ?_
          refine SimE.blockR ?_
          refine SimE.thenR ?_
          refine SimE.loopR ?_
          refine SimE.blockR ?_
          refine SimE.thenR ?_
          exact SimE.fin (by kernel_rfl)
        · refine Sim.skip ?_
          refine SimE.blockN ?_
          refine SimE.thenN ?_
          refine Sim.region0 ?_
          refine SimI.run 3 [(3, .one (li .i64 1)), (47, .one (li .i64 1)), (46, .one (li .i64 0))] [] (by kernel_rfl) ?_
          refine SimI.done (by kernel_rfl) ?_
          refine SimE.loopN ?_
          refine SimL.pre (ts := [1, 3]) (os := [1]) [(1, .one (.ptr 1 0)), (3, .one (li .i64 1))] ((1, some (.cells [li .i64 a0.ID, li .u8 a0.Mask, li .i64 a0.At.X, li .i64 a0.At.Y, li .i64 a0.F.a0.N, ls a0.F.a0.Text, li .i64 a0.F.a1.N, ls a0.F.a1.Text, li .i64 a0.F.a2.N, ls a0.F.a2.Text, li .i64 a0.F.a3.N, ls a0.F.a3.Text])) :: []) (by kernel_rfl) (by kernel_rfl) (by kernel_rfl) ?_
          exact F21_u4_ok n a0
      · refine SimI.run 8 [(71, .one (lb false)), (70, .one (lb false)), (69, .tup []), (68, .tup []), (67, .tup []), (66, .tup []), (65, .tup []), (64, .tup [])] [] (by kernel_rfl) ?_
        refine SimI.done (by kernel_rfl) ?_
        refine SimE.thenN ?_
        refine Sim.condF (by kernel_rfl) ?_
        refine Sim.skip ?_
        refine SimE.blockN ?_
        refine SimE.thenN ?_
        refine Sim.region0 ?_
        refine SimI.run 3 [(3, .one (li .i64 1)), (47, .one (li .i64 1)), (46, .one (li .i64 0))] [] (by kernel_rfl) ?_
        refine SimI.done (by kernel_rfl) ?_
        refine SimE.loopN ?_
        refine SimL.pre (ts := [1, 3]) (os := [1]) [(1, .one (.ptr 1 0)), (3, .one (li .i64 1))] ((1, some (.cells [li .i64 a0.ID, li .u8 a0.Mask, li .i64 a0.At.X, li .i64 a0.At.Y, li .i64 a0.F.a0.N, ls a0.F.a0.Text, li .i64 a0.F.a1.N, ls a0.F.a1.Text, li .i64 a0.F.a2.N, ls a0.F.a2.Text, li .i64 a0.F.a3.N, ls a0.F.a3.Text])) :: []) (by kernel_rfl) (by kernel_rfl) (by kernel_rfl) ?_
        exact F21_u4_ok n a0

def F21 (n : Nat) (a0 : Delta) : Option Bool :=
  if decide (a0.ID < 0) then
    some false
  else
    if decide ((1000000 : Int) < a0.ID) then
      some false
    else
      if decide (a0.Mask < 1) then
        some false
      else
        if decide ((31 : Int) < a0.Mask) then
          some false
        else
          if (bitsI .and .u8 a0.Mask 1) != 0 then
            (F46 n a0.At).bind fun (r1 : Bool) =>
            if !(r1) then
              some false
            else
              if (bitsI .and .u8 a0.Mask 1) == 0 then
                if !(Point.eqb a0.At (Point.mk 0 0)) then
                  some false
                else
                  F21_j2 n a0
              else
                F21_j2 n a0
          else
            if (bitsI .and .u8 a0.Mask 1) == 0 then
              if !(Point.eqb a0.At (Point.mk 0 0)) then
                some false
              else
                F21_j2 n a0
            else
              F21_j2 n a0
theorem F21_ok (n : Nat) (a0 : Delta) : ∀ r, F21 n a0 = some r → D 21 [.agg [li .i64 a0.ID, li .u8 a0.Mask, li .i64 a0.At.X, li .i64 a0.At.Y, li .i64 a0.F.a0.N, ls a0.F.a0.Text, li .i64 a0.F.a1.N, ls a0.F.a1.Text, li .i64 a0.F.a2.N, ls a0.F.a2.Text, li .i64 a0.F.a3.N, ls a0.F.a3.Text]] [] = some (F21_e r) := by
  refine fn_to (D := D) (n := n + 8) (nt := 72) (rs := pc21_r) (c := pc21_c42) (L := [(0, .agg [li .i64 a0.ID, li .u8 a0.Mask, li .i64 a0.At.X, li .i64 a0.At.Y, li .i64 a0.F.a0.N, ls a0.F.a0.Text, li .i64 a0.F.a1.N, ls a0.F.a1.Text, li .i64 a0.F.a2.N, ls a0.F.a2.Text, li .i64 a0.F.a3.N, ls a0.F.a3.Text])]) (M := []) (k := 0) rfl rfl rfl rfl rfl rfl ?_
  unfold F21
  refine Sim.seq ?_
  refine Sim.region0 ?_
  refine SimI.run 2 [(2, .one (lb false)), (1, .one (.ptr 1 0))] [(1, some (.cells [li .i64 a0.ID, li .u8 a0.Mask, li .i64 a0.At.X, li .i64 a0.At.Y, li .i64 a0.F.a0.N, ls a0.F.a0.Text, li .i64 a0.F.a1.N, ls a0.F.a1.Text, li .i64 a0.F.a2.N, ls a0.F.a2.Text, li .i64 a0.F.a3.N, ls a0.F.a3.Text]))] (by kernel_rfl) ?_
  refine SimI.done (by kernel_rfl) ?_
  refine SimE.thenN ?_
  refine Sim.seq ?_
  refine Sim.seq ?_
  refine Sim.region0 ?_
  refine SimI.run 4 [(7, .one (lb (decide (a0.ID < 0)))), (6, .one (lb (decide (a0.ID < 0)))), (5, .one (li .i64 a0.ID)), (4, .one (.ptr 1 0))] [] (by kernel_rfl) ?_
  refine SimI.split 7 (decide (a0.ID < 0)) (by kernel_rfl) ?_ ?_
  · refine SimI.run 14 [(21, .one (lb true)), (20, .tup []), (19, .tup []), (18, .tup []), (17, .one (lb true)), (16, .one (lb true)), (15, .tup []), (14, .tup []), (13, .tup []), (12, .one (lb true)), (11, .one (lb true)), (10, .tup []), (9, .tup []), (8, .tup [])] [] (by kernel_rfl) ?_
    refine SimI.done (by kernel_rfl) ?_
    refine SimE.thenN ?_
    refine Sim.condT (by kernel_rfl) ?_
    refine Sim.seq ?_
    refine Sim.region0 ?_
    refine SimI.run 1 [(2, .one (lb false))] [] (by kernel_rfl) ?_
    refine SimI.done (by kernel_rfl) ?_
    refine SimE.thenN ?_
    refine Sim.ret ?_
    refine SimE.thenR ?_
    exact SimE.fin (by kernel_rfl)
  · refine SimI.run 5 [(12, .one (lb (decide ((1000000 : Int) < a0.ID)))), (11, .one (lb (decide ((1000000 : Int) < a0.ID)))), (10, .one (lb (decide ((1000000 : Int) < a0.ID)))), (9, .one (li .i64 a0.ID)), (8, .one (.ptr 1 0))] [] (by kernel_rfl) ?_
    refine SimI.split 12 (decide ((1000000 : Int) < a0.ID)) (by kernel_rfl) ?_ ?_
    · refine SimI.run 9 [(21, .one (lb true)), (20, .tup []), (19, .tup []), (18, .tup []), (17, .one (lb true)), (16, .one (lb true)), (15, .tup []), (14, .tup []), (13, .tup [])] [] (by kernel_rfl) ?_
      refine SimI.done (by kernel_rfl) ?_
      refine SimE.thenN ?_
      refine Sim.condT (by kernel_rfl) ?_
      refine Sim.seq ?_
      refine Sim.region0 ?_
      refine SimI.run 1 [(2, .one (lb false))] [] (by kernel_rfl) ?_
      refine SimI.done (by kernel_rfl) ?_
      refine SimE.thenN ?_
      refine Sim.ret ?_
      refine SimE.thenR ?_
      exact SimE.fin (by kernel_rfl)
    · refine SimI.run 5 [(17, .one (lb (decide (a0.Mask < 1)))), (16, .one (lb (decide (a0.Mask < 1)))), (15, .one (lb (decide (a0.Mask < 1)))), (14, .one (li .u8 a0.Mask)), (13, .one (.ptr 1 1))] [] (by kernel_rfl) ?_
      refine SimI.split 17 (decide (a0.Mask < 1)) (by kernel_rfl) ?_ ?_
      · refine SimI.run 4 [(21, .one (lb true)), (20, .tup []), (19, .tup []), (18, .tup [])] [] (by kernel_rfl) ?_
        refine SimI.done (by kernel_rfl) ?_
        refine SimE.thenN ?_
        refine Sim.condT (by kernel_rfl) ?_
        refine Sim.seq ?_
        refine Sim.region0 ?_
        refine SimI.run 1 [(2, .one (lb false))] [] (by kernel_rfl) ?_
        refine SimI.done (by kernel_rfl) ?_
        refine SimE.thenN ?_
        refine Sim.ret ?_
        refine SimE.thenR ?_
        exact SimE.fin (by kernel_rfl)
      · refine SimI.run 4 [(21, .one (lb (decide ((31 : Int) < a0.Mask)))), (20, .one (lb (decide ((31 : Int) < a0.Mask)))), (19, .one (li .u8 a0.Mask)), (18, .one (.ptr 1 1))] [] (by kernel_rfl) ?_
        refine SimI.done (by kernel_rfl) ?_
        refine SimE.thenN ?_
        refine Sim.cond (decide ((31 : Int) < a0.Mask)) (by kernel_rfl) ?_ ?_
        · refine Sim.seq ?_
          refine Sim.region0 ?_
          refine SimI.run 1 [(2, .one (lb false))] [] (by kernel_rfl) ?_
          refine SimI.done (by kernel_rfl) ?_
          refine SimE.thenN ?_
          refine Sim.ret ?_
          refine SimE.thenR ?_
          exact SimE.fin (by kernel_rfl)
        · refine Sim.skip ?_
          refine SimE.thenN ?_
          refine Sim.seq ?_
          refine Sim.seq ?_
          refine Sim.region0 ?_
          refine SimI.run 5 [(26, .one (lb ((bitsI .and .u8 a0.Mask 1) != 0))), (25, .one (lb ((bitsI .and .u8 a0.Mask 1) != 0))), (24, .one (li .u8 (bitsI .and .u8 a0.Mask 1))), (23, .one (li .u8 a0.Mask)), (22, .one (.ptr 1 1))] [] (by kernel_rfl) ?_
          refine SimI.split 26 ((bitsI .and .u8 a0.Mask 1) != 0) (by kernel_rfl) ?_ ?_
          · refine SimI.run 2 [(28, .agg [li .i64 a0.At.X, li .i64 a0.At.Y]), (27, .one (.ptr 1 2))] [] (by kernel_rfl) ?_
            refine SimI.bind (og := F46 n a0.At) { dst := some 29, op := POp.call true [[]] 46 [Operand.tmp 28], guard := some (26, true), hints := [] } (fun r1 => [(29, .one (lb r1))]) (fun r1 => []) (by kernel_rfl) (fun r1 hr => pOp_eff (by kernel_rfl) (by kernel_rfl) (eff_call (ARGS := [.agg [li .i64 a0.At.X, li .i64 a0.At.Y]]) (by kernel_rfl) (args_clean (by kernel_rfl) args_nil) (F46_ok n a0.At r1 hr) (by kernel_rfl))) (fun r1 => ?_)
            refine SimI.run 3 [(32, .one (lb (!(r1)))), (31, .one (lb (!(r1)))), (30, .one (lb (!(r1))))] [] (by kernel_rfl) ?_
            refine SimI.split 32 (!(r1)) (by kernel_rfl) ?_ ?_
            · refine SimI.run 11 [(43, .one (lb true)), (42, .tup []), (41, .tup []), (40, .tup []), (39, .tup []), (38, .tup []), (37, .tup []), (36, .tup []), (35, .tup []), (34, .tup []), (33, .tup [])] [] (by kernel_rfl) ?_
              refine SimI.done (by kernel_rfl) ?_
              refine SimE.thenN ?_
              refine Sim.condT (by kernel_rfl) ?_
              refine Sim.seq ?_
              refine Sim.region0 ?_
              refine SimI.run 1 [(2, .one (lb false))] [] (by kernel_rfl) ?_
              refine SimI.done (by kernel_rfl) ?_
              refine SimE.thenN ?_
              refine Sim.ret ?_
              refine SimE.thenR ?_
              exact SimE.fin (by kernel_rfl)
            · refine SimI.run 5 [(37, .one (lb ((bitsI .and .u8 a0.Mask 1) == 0))), (36, .one (lb ((bitsI .and .u8 a0.Mask 1) == 0))), (35, .one (li .u8 (bitsI .and .u8 a0.Mask 1))), (34, .one (li .u8 a0.Mask)), (33, .one (.ptr 1 1))] [] (by kernel_rfl) ?_
              refine SimI.split 37 ((bitsI .and .u8 a0.Mask 1) == 0) (by kernel_rfl) ?_ ?_
              · refine SimI.run 3 [(40, .agg [li .i64 0, li .i64 0]), (39, .agg [li .i64 a0.At.X, li .i64 a0.At.Y]), (38, .one (.ptr 1 2))] [] (by kernel_rfl) ?_
                refine SimI.step { dst := some 41, op := POp.prim (Prim.bin BinOp.neq 23 false false) [Operand.tmp 39, Operand.tmp 40], guard := some (37, true), hints := [] } [(41, .one (lb (!(Point.eqb a0.At (Point.mk 0 0)))))] [] (by kernel_rfl) (pOp_eff (by kernel_rfl) (by kernel_rfl) (eff_prim (by kernel_rfl) (Point_eqn a0.At (Point.mk 0 0) _ _))) ?_
                refine SimI.run 2 [(43, .one (lb (!(Point.eqb a0.At (Point.mk 0 0))))), (42, .one (lb (!(Point.eqb a0.At (Point.mk 0 0)))))] [] (by kernel_rfl) ?_
                refine SimI.done (by kernel_rfl) ?_
                refine SimE.thenN ?_
                refine Sim.cond (!(Point.eqb a0.At (Point.mk 0 0))) (by kernel_rfl) ?_ ?_
                · refine Sim.seq ?_
                  refine Sim.region0 ?_
                  refine SimI.run 1 [(2, .one (lb false))] [] (by kernel_rfl) ?_
                  refine SimI.done (by kernel_rfl) ?_
                  refine SimE.thenN ?_
                  refine Sim.ret ?_
                  refine SimE.thenR ?_
                  exact SimE.fin (by kernel_rfl)
                · refine Sim.skip ?_
                  refine SimE.thenN ?_
                  refine Sim.pre (ts := [1]) (os := [1]) [(1, .one (.ptr 1 0))] ((1, some (.cells [li .i64 a0.ID, li .u8 a0.Mask, li .i64 a0.At.X, li .i64 a0.At.Y, li .i64 a0.F.a0.N, ls a0.F.a0.Text, li .i64 a0.F.a1.N, ls a0.F.a1.Text, li .i64 a0.F.a2.N, ls a0.F.a2.Text, li .i64 a0.F.a3.N, ls a0.F.a3.Text])) :: []) (by kernel_rfl) (by kernel_rfl) (by kernel_rfl) ?_
                  exact F21_j2_ok n a0
              · refine SimI.run 6 [(43, .one (lb false)), (42, .one (lb false)), (41, .tup []), (40, .tup []), (39, .tup []), (38, .tup [])] [] (by kernel_rfl) ?_
                refine SimI.done (by kernel_rfl) ?_
                refine SimE.thenN ?_
                refine Sim.condF (by kernel_rfl) ?_
                refine Sim.skip ?_
                refine SimE.thenN ?_
                refine Sim.pre (ts := [1]) (os := [1]) [(1, .one (.ptr 1 0))] ((1, some (.cells [li .i64 a0.ID, li .u8 a0.Mask, li .i64 a0.At.X, li .i64 a0.At.Y, li .i64 a0.F.a0.N, ls a0.F.a0.Text, li .i64 a0.F.a1.N, ls a0.F.a1.Text, li .i64 a0.F.a2.N, ls a0.F.a2.Text, li .i64 a0.F.a3.N, ls a0.F.a3.Text])) :: []) (by kernel_rfl) (by kernel_rfl) (by kernel_rfl) ?_
                exact F21_j2_ok n a0
          · refine SimI.run 11 [(37, .one (lb ((bitsI .and .u8 a0.Mask 1) == 0))), (36, .one (lb ((bitsI .and .u8 a0.Mask 1) == 0))), (35, .one (li .u8 (bitsI .and .u8 a0.Mask 1))), (34, .one (li .u8 a0.Mask)), (33, .one (.ptr 1 1)), (32, .one (lb false)), (31, .one (lb false)), (30, .tup []), (29, .tup []), (28, .tup []), (27, .tup [])] [] (by kernel_rfl) ?_
            refine SimI.split 37 ((bitsI .and .u8 a0.Mask 1) == 0) (by kernel_rfl) ?_ ?_
            · refine SimI.run 3 [(40, .agg [li .i64 0, li .i64 0]), (39, .agg [li .i64 a0.At.X, li .i64 a0.At.Y]), (38, .one (.ptr 1 2))] [] (by kernel_rfl) ?_
              refine SimI.step { dst := some 41, op := POp.prim (Prim.bin BinOp.neq 23 false false) [Operand.tmp 39, Operand.tmp 40], guard := some (37, true), hints := [] } [(41, .one (lb (!(Point.eqb a0.At (Point.mk 0 0)))))] [] (by kernel_rfl) (pOp_eff (by kernel_rfl) (by kernel_rfl) (eff_prim (by kernel_rfl) (Point_eqn a0.At (Point.mk 0 0) _ _))) ?_
              refine SimI.run 2 [(43, .one (lb (!(Point.eqb a0.At (Point.mk 0 0))))), (42, .one (lb (!(Point.eqb a0.At (Point.mk 0 0)))))] [] (by kernel_rfl) ?_
              refine SimI.done (by kernel_rfl) ?_
              refine SimE.thenN ?_
              refine Sim.cond (!(Point.eqb a0.At (Point.mk 0 0))) (by kernel_rfl) ?_ ?_
              · refine Sim.seq ?_
                refine Sim.region0 ?_
                refine SimI.run 1 [(2, .one (lb false))] [] (by kernel_rfl) ?_
                refine SimI.done (by kernel_rfl) ?_
                refine SimE.thenN ?_
                refine Sim.ret ?_
                refine SimE.thenR ?_
                exact SimE.fin (by kernel_rfl)
              · refine Sim.skip ?_
                refine SimE.thenN ?_
                refine Sim.pre (ts := [1]) (os := [1]) [(1, .one (.ptr 1 0))] ((1, some (.cells [li .i64 a0.ID, li .u8 a0.Mask, li .i64 a0.At.X, li .i64 a0.At.Y, li .i64 a0.F.a0.N, ls a0.F.a0.Text, li .i64 a0.F.a1.N, ls a0.F.a1.Text, li .i64 a0.F.a2.N, ls a0.F.a2.Text, li .i64 a0.F.a3.N, ls a0.F.a3.Text])) :: []) (by kernel_rfl) (by kernel_rfl) (by kernel_rfl) ?_
                exact F21_j2_ok n a0
            · refine SimI.run 6 [(43, .one (lb false)), (42, .one (lb false)), (41, .tup []), (40, .tup []), (39, .tup []), (38, .tup [])] [] (by kernel_rfl) ?_
              refine SimI.done (by kernel_rfl) ?_
              refine SimE.thenN ?_
              refine Sim.condF (by kernel_rfl) ?_
              refine Sim.skip ?_
              refine SimE.thenN ?_
              refine Sim.pre (ts := [1]) (os := [1]) [(1, .one (.ptr 1 0))] ((1, some (.cells [li .i64 a0.ID, li .u8 a0.Mask, li .i64 a0.At.X, li .i64 a0.At.Y, li .i64 a0.F.a0.N, ls a0.F.a0.Text, li .i64 a0.F.a1.N, ls a0.F.a1.Text, li .i64 a0.F.a2.N, ls a0.F.a2.Text, li .i64 a0.F.a3.N, ls a0.F.a3.Text])) :: []) (by kernel_rfl) (by kernel_rfl) (by kernel_rfl) ?_
              exact F21_j2_ok n a0


-- 8: vedette/vedettelaw6.FieldsSpoils
def F8_e : Bool → PV × List (List Lf) := fun r => (.one (lb r), [])
def F8_j16 (n : Nat) (a0 : Delta) (i4 : Int) (i5 : Int) (i6 : Int) (i7 : Int) (i8 : Int) (s9 : ByteArray) (i10 : Int) (s11 : ByteArray) (i12 : Int) (s13 : ByteArray) (i14 : Int) (s15 : ByteArray) : Option Bool :=
    (F20 n (Delta.mk i4 i5 (Point.mk i6 i7) (A4.mk (Field.mk i8 s9) (Field.mk i10 s11) (Field.mk i12 s13) (Field.mk i14 s15)))).bind fun (r17 : (ByteArray × Int)) =>
    (F25 n (Delta.mk i4 i5 (Point.mk i6 i7) (A4.mk (Field.mk i8 s9) (Field.mk i10 s11) (Field.mk i12 s13) (Field.mk i14 s15)))).bind fun (r18 : Bool) =>
    if !(r18) then
      if r17.2 == 11 then
        (F28 n a0 (Delta.mk i4 i5 (Point.mk i6 i7) (A4.mk (Field.mk i8 s9) (Field.mk i10 s11) (Field.mk i12 s13) (Field.mk i14 s15)))).bind fun (r19 : Bool) =>
        if !(r19) then
          (F21 n a0).bind fun (r20 : Bool) =>
          some r20
        else
          some false
      else
        some false
    else
      some false
theorem F8_j16_ok (n : Nat) (a0 : Delta) (a1 : Int) (i4 : Int) (i5 : Int) (i6 : Int) (i7 : Int) (i8 : Int) (s9 : ByteArray) (i10 : Int) (s11 : ByteArray) (i12 : Int) (s13 : ByteArray) (i14 : Int) (s15 : ByteArray) : Sim Try.prog D (n + 8) pc8_c45 [(2, .one (.ptr 2 0)), (5, .one (.ptr 5 0))] ((2, some (.cells [li .i64 a0.ID, li .u8 a0.Mask, li .i64 a0.At.X, li .i64 a0.At.Y, li .i64 a0.F.a0.N, ls a0.F.a0.Text, li .i64 a0.F.a1.N, ls a0.F.a1.Text, li .i64 a0.F.a2.N, ls a0.F.a2.Text, li .i64 a0.F.a3.N, ls a0.F.a3.Text])) :: ((5, some (.cells [li .i64 i4, li .u8 i5, li .i64 i6, li .i64 i7, li .i64 i8, ls s9, li .i64 i10, ls s11, li .i64 i12, ls s13, li .i64 i14, ls s15])) :: [])) (F8_j16 n a0 i4 i5 i6 i7 i8 s9 i10 s11 i12 s13 i14 s15) (QF pc8_r 0 F8_e) := by
    unfold F8_j16
    refine Sim.seq ?_
    refine Sim.region [(2, .one (.ptr 2 0)), (5, .one (.ptr 5 0))] ((2, some (.cells [li .i64 a0.ID, li .u8 a0.Mask, li .i64 a0.At.X, li .i64 a0.At.Y, li .i64 a0.F.a0.N, ls a0.F.a0.Text, li .i64 a0.F.a1.N, ls a0.F.a1.Text, li .i64 a0.F.a2.N, ls a0.F.a2.Text, li .i64 a0.F.a3.N, ls a0.F.a3.Text])) :: ((5, some (.cells [li .i64 i4, li .u8 i5, li .i64 i6, li .i64 i7, li .i64 i8, ls s9, li .i64 i10, ls s11, li .i64 i12, ls s13, li .i64 i14, ls s15])) :: [])) (by kernel_rfl) ?_
    refine SimI.run 1 [(48, .agg [li .i64 i4, li .u8 i5, li .i64 i6, li .i64 i7, li .i64 i8, ls s9, li .i64 i10, ls s11, li .i64 i12, ls s13, li .i64 i14, ls s15])] [] (by kernel_rfl) ?_
    refine SimI.bind (og := F20 n (Delta.mk i4 i5 (Point.mk i6 i7) (A4.mk (Field.mk i8 s9) (Field.mk i10 s11) (Field.mk i12 s13) (Field.mk i14 s15)))) { dst := some 49, op := POp.call true [[]] 20 [Operand.tmp 48], guard := none, hints := [] } (fun r17 => [(49, .tup [.one (ls r17.1), .one (li .i64 r17.2)])]) (fun r17 => []) (by kernel_rfl) (fun r17 hr => pOp_eff (by kernel_rfl) (by kernel_rfl) (eff_call (ARGS := [.agg [li .i64 i4, li .u8 i5, li .i64 i6, li .i64 i7, li .i64 i8, ls s9, li .i64 i10, ls s11, li .i64 i12, ls s13, li .i64 i14, ls s15]]) (by kernel_rfl) (args_clean (by kernel_rfl) args_nil) (F20_ok n (Delta.mk i4 i5 (Point.mk i6 i7) (A4.mk (Field.mk i8 s9) (Field.mk i10 s11) (Field.mk i12 s13) (Field.mk i14 s15))) r17 hr) (by kernel_rfl))) (fun r17 => ?_)
    refine SimI.run 5 [(7, .one (li .i64 r17.2)), (6, .one (ls r17.1)), (51, .one (li .i64 r17.2)), (50, .one (ls r17.1)), (47, .tup [.one (ls r17.1), .one (li .i64 r17.2)])] [] (by kernel_rfl) ?_
    refine SimI.done (by kernel_rfl) ?_
    refine SimE.thenN ?_
    refine Sim.seq ?_
    refine Sim.region0 ?_
    refine SimI.run 1 [(52, .agg [li .i64 i4, li .u8 i5, li .i64 i6, li .i64 i7, li .i64 i8, ls s9, li .i64 i10, ls s11, li .i64 i12, ls s13, li .i64 i14, ls s15])] [] (by kernel_rfl) ?_
    refine SimI.bind (og := F25 n (Delta.mk i4 i5 (Point.mk i6 i7) (A4.mk (Field.mk i8 s9) (Field.mk i10 s11) (Field.mk i12 s13) (Field.mk i14 s15)))) { dst := some 53, op := POp.call true [[]] 25 [Operand.tmp 52], guard := none, hints := [] } (fun r18 => [(53, .one (lb r18))]) (fun r18 => []) (by kernel_rfl) (fun r18 hr => pOp_eff (by kernel_rfl) (by kernel_rfl) (eff_call (ARGS := [.agg [li .i64 i4, li .u8 i5, li .i64 i6, li .i64 i7, li .i64 i8, ls s9, li .i64 i10, ls s11, li .i64 i12, ls s13, li .i64 i14, ls s15]]) (by kernel_rfl) (args_clean (by kernel_rfl) args_nil) (F25_ok n (Delta.mk i4 i5 (Point.mk i6 i7) (A4.mk (Field.mk i8 s9) (Field.mk i10 s11) (Field.mk i12 s13) (Field.mk i14 s15))) r18 hr) (by kernel_rfl))) (fun r18 => ?_)
    refine SimI.run 2 [(55, .one (lb (!(r18)))), (54, .one (lb (!(r18))))] [] (by kernel_rfl) ?_
    refine SimI.split 55 (!(r18)) (by kernel_rfl) ?_ ?_
    · refine SimI.run 4 [(59, .one (lb (r17.2 == 11))), (58, .one (lb (r17.2 == 11))), (57, .one (lb (r17.2 == 11))), (56, .one (li .i64 r17.2))] [] (by kernel_rfl) ?_
      refine SimI.split 59 (r17.2 == 11) (by kernel_rfl) ?_ ?_
      · refine SimI.run 2 [(61, .agg [li .i64 i4, li .u8 i5, li .i64 i6, li .i64 i7, li .i64 i8, ls s9, li .i64 i10, ls s11, li .i64 i12, ls s13, li .i64 i14, ls s15]), (60, .agg [li .i64 a0.ID, li .u8 a0.Mask, li .i64 a0.At.X, li .i64 a0.At.Y, li .i64 a0.F.a0.N, ls a0.F.a0.Text, li .i64 a0.F.a1.N, ls a0.F.a1.Text, li .i64 a0.F.a2.N, ls a0.F.a2.Text, li .i64 a0.F.a3.N, ls a0.F.a3.Text])] [] (by kernel_rfl) ?_
        refine SimI.bind (og := F28 n a0 (Delta.mk i4 i5 (Point.mk i6 i7) (A4.mk (Field.mk i8 s9) (Field.mk i10 s11) (Field.mk i12 s13) (Field.mk i14 s15)))) { dst := some 62, op := POp.call true [[], []] 28 [Operand.tmp 60, Operand.tmp 61], guard := some (59, true), hints := [] } (fun r19 => [(62, .one (lb r19))]) (fun r19 => []) (by kernel_rfl) (fun r19 hr => pOp_eff (by kernel_rfl) (by kernel_rfl) (eff_call (ARGS := [.agg [li .i64 a0.ID, li .u8 a0.Mask, li .i64 a0.At.X, li .i64 a0.At.Y, li .i64 a0.F.a0.N, ls a0.F.a0.Text, li .i64 a0.F.a1.N, ls a0.F.a1.Text, li .i64 a0.F.a2.N, ls a0.F.a2.Text, li .i64 a0.F.a3.N, ls a0.F.a3.Text], .agg [li .i64 i4, li .u8 i5, li .i64 i6, li .i64 i7, li .i64 i8, ls s9, li .i64 i10, ls s11, li .i64 i12, ls s13, li .i64 i14, ls s15]]) (by kernel_rfl) (args_clean (by kernel_rfl) (args_clean (by kernel_rfl) args_nil)) (F28_ok n a0 (Delta.mk i4 i5 (Point.mk i6 i7) (A4.mk (Field.mk i8 s9) (Field.mk i10 s11) (Field.mk i12 s13) (Field.mk i14 s15))) r19 hr) (by kernel_rfl))) (fun r19 => ?_)
        refine SimI.run 3 [(65, .one (lb (!(r19)))), (64, .one (lb (!(r19)))), (63, .one (lb (!(r19))))] [] (by kernel_rfl) ?_
        refine SimI.split 65 (!(r19)) (by kernel_rfl) ?_ ?_
        · refine SimI.run 1 [(66, .agg [li .i64 a0.ID, li .u8 a0.Mask, li .i64 a0.At.X, li .i64 a0.At.Y, li .i64 a0.F.a0.N, ls a0.F.a0.Text, li .i64 a0.F.a1.N, ls a0.F.a1.Text, li .i64 a0.F.a2.N, ls a0.F.a2.Text, li .i64 a0.F.a3.N, ls a0.F.a3.Text])] [] (by kernel_rfl) ?_
          refine SimI.bind (og := F21 n a0) { dst := some 67, op := POp.call true [[]] 21 [Operand.tmp 66], guard := some (65, true), hints := [] } (fun r20 => [(67, .one (lb r20))]) (fun r20 => []) (by kernel_rfl) (fun r20 hr => pOp_eff (by kernel_rfl) (by kernel_rfl) (eff_call (ARGS := [.agg [li .i64 a0.ID, li .u8 a0.Mask, li .i64 a0.At.X, li .i64 a0.At.Y, li .i64 a0.F.a0.N, ls a0.F.a0.Text, li .i64 a0.F.a1.N, ls a0.F.a1.Text, li .i64 a0.F.a2.N, ls a0.F.a2.Text, li .i64 a0.F.a3.N, ls a0.F.a3.Text]]) (by kernel_rfl) (args_clean (by kernel_rfl) args_nil) (F21_ok n a0 r20 hr) (by kernel_rfl))) (fun r20 => ?_)
          refine SimI.run 2 [(4, .one (lb r20)), (68, .one (lb r20))] [] (by kernel_rfl) ?_
          refine SimI.done (by kernel_rfl) ?_
          refine SimE.thenN ?_
          refine Sim.ret ?_
          exact SimE.fin (by kernel_rfl)
        · refine SimI.run 4 [(4, .one (lb false)), (68, .one (lb false)), (67, .tup []), (66, .tup [])] [] (by kernel_rfl) ?_
          refine SimI.done (by kernel_rfl) ?_
          refine SimE.thenN ?_
          refine Sim.ret ?_
          exact SimE.fin (by kernel_rfl)
      · refine SimI.run 10 [(4, .one (lb false)), (68, .one (lb false)), (67, .tup []), (66, .tup []), (65, .one (lb false)), (64, .one (lb false)), (63, .tup []), (62, .tup []), (61, .tup []), (60, .tup [])] [] (by kernel_rfl) ?_
        refine SimI.done (by kernel_rfl) ?_
        refine SimE.thenN ?_
        refine Sim.ret ?_
        exact SimE.fin (by kernel_rfl)
    · refine SimI.run 14 [(4, .one (lb false)), (68, .one (lb false)), (67, .tup []), (66, .tup []), (65, .one (lb false)), (64, .one (lb false)), (63, .tup []), (62, .tup []), (61, .tup []), (60, .tup []), (59, .one (lb false)), (58, .one (lb false)), (57, .tup []), (56, .tup [])] [] (by kernel_rfl) ?_
      refine SimI.done (by kernel_rfl) ?_
      refine SimE.thenN ?_
      refine Sim.ret ?_
      exact SimE.fin (by kernel_rfl)

def F8 (n : Nat) (a0 : Delta) (a1 : Int) : Option Bool :=
  ((some true)).bind fun (r1 : Bool) =>
  if !(r1) then
    some false
  else
    (F16 n a0).bind fun (r2 : Bool) =>
    if !(r2) then
      some true
    else
      (F25 n a0).bind fun (r3 : Bool) =>
      if !(r3) then
        some true
      else
        if (Int.tmod a1 6) == 0 then
          F8_j16 n a0 (-1) a0.Mask a0.At.X a0.At.Y a0.F.a0.N a0.F.a0.Text a0.F.a1.N a0.F.a1.Text a0.F.a2.N a0.F.a2.Text a0.F.a3.N a0.F.a3.Text
        else
          if (Int.tmod a1 6) == 1 then
            F8_j16 n a0 a0.ID (bitsI .or .u8 a0.Mask 32) a0.At.X a0.At.Y a0.F.a0.N a0.F.a0.Text a0.F.a1.N a0.F.a1.Text a0.F.a2.N a0.F.a2.Text a0.F.a3.N a0.F.a3.Text
          else
            if (Int.tmod a1 6) == 2 then
              F8_j16 n a0 a0.ID 0 a0.At.X a0.At.Y a0.F.a0.N a0.F.a0.Text a0.F.a1.N a0.F.a1.Text a0.F.a2.N a0.F.a2.Text a0.F.a3.N a0.F.a3.Text
            else
              if (Int.tmod a1 6) == 3 then
                F8_j16 n a0 a0.ID a0.Mask 64 0 a0.F.a0.N a0.F.a0.Text a0.F.a1.N a0.F.a1.Text a0.F.a2.N a0.F.a2.Text a0.F.a3.N a0.F.a3.Text
              else
                if (Int.tmod a1 6) == 4 then
                  if Int.tmod (IntKind.wrap .i64 (IntKind.wrap .u8 (Int.tdiv a1 6))) 4 = 0 then
                    F8_j16 n a0 a0.ID a0.Mask a0.At.X a0.At.Y 1 (ByteArray.mk #[97]) a0.F.a1.N a0.F.a1.Text a0.F.a2.N a0.F.a2.Text a0.F.a3.N a0.F.a3.Text
                  else
                    if Int.tmod (IntKind.wrap .i64 (IntKind.wrap .u8 (Int.tdiv a1 6))) 4 = 1 then
                      F8_j16 n a0 a0.ID a0.Mask a0.At.X a0.At.Y a0.F.a0.N a0.F.a0.Text 1 (ByteArray.mk #[97]) a0.F.a2.N a0.F.a2.Text a0.F.a3.N a0.F.a3.Text
                    else
                      if Int.tmod (IntKind.wrap .i64 (IntKind.wrap .u8 (Int.tdiv a1 6))) 4 = 2 then
                        F8_j16 n a0 a0.ID a0.Mask a0.At.X a0.At.Y a0.F.a0.N a0.F.a0.Text a0.F.a1.N a0.F.a1.Text 1 (ByteArray.mk #[97]) a0.F.a3.N a0.F.a3.Text
                      else
                        if Int.tmod (IntKind.wrap .i64 (IntKind.wrap .u8 (Int.tdiv a1 6))) 4 = 3 then
                          F8_j16 n a0 a0.ID a0.Mask a0.At.X a0.At.Y a0.F.a0.N a0.F.a0.Text a0.F.a1.N a0.F.a1.Text a0.F.a2.N a0.F.a2.Text 1 (ByteArray.mk #[97])
                        else
                          none
                else
                  F8_j16 n a0 1000001 a0.Mask a0.At.X a0.At.Y a0.F.a0.N a0.F.a0.Text a0.F.a1.N a0.F.a1.Text a0.F.a2.N a0.F.a2.Text a0.F.a3.N a0.F.a3.Text
theorem F8_ok (n : Nat) (a0 : Delta) (a1 : Int) : ∀ r, F8 n a0 a1 = some r → D 8 [.agg [li .i64 a0.ID, li .u8 a0.Mask, li .i64 a0.At.X, li .i64 a0.At.Y, li .i64 a0.F.a0.N, ls a0.F.a0.Text, li .i64 a0.F.a1.N, ls a0.F.a1.Text, li .i64 a0.F.a2.N, ls a0.F.a2.Text, li .i64 a0.F.a3.N, ls a0.F.a3.Text], .one (li .u8 a1)] [] = some (F8_e r) := by
  refine fn_to (D := D) (n := n + 8) (nt := 69) (rs := pc8_r) (c := pc8_c50) (L := [(0, .agg [li .i64 a0.ID, li .u8 a0.Mask, li .i64 a0.At.X, li .i64 a0.At.Y, li .i64 a0.F.a0.N, ls a0.F.a0.Text, li .i64 a0.F.a1.N, ls a0.F.a1.Text, li .i64 a0.F.a2.N, ls a0.F.a2.Text, li .i64 a0.F.a3.N, ls a0.F.a3.Text]), (1, .one (li .u8 a1))]) (M := []) (k := 0) rfl rfl rfl rfl rfl rfl ?_
  unfold F8
  refine Sim.seq ?_
  refine Sim.region0 ?_
  refine SimI.run 2 [(4, .one (lb false)), (2, .one (.ptr 2 0))] [(2, some (.cells [li .i64 a0.ID, li .u8 a0.Mask, li .i64 a0.At.X, li .i64 a0.At.Y, li .i64 a0.F.a0.N, ls a0.F.a0.Text, li .i64 a0.F.a1.N, ls a0.F.a1.Text, li .i64 a0.F.a2.N, ls a0.F.a2.Text, li .i64 a0.F.a3.N, ls a0.F.a3.Text]))] (by kernel_rfl) ?_
  refine SimI.done (by kernel_rfl) ?_
  refine SimE.thenN ?_
  refine Sim.seq ?_
  refine Sim.seq ?_
  refine Sim.region0 ?_
  refine SimI.bind (og := (some true)) { dst := some 8, op := POp.call true [] 14 [], guard := none, hints := [] } (fun r1 => [(8, .one (lb r1))]) (fun r1 => []) (by kernel_rfl) (fun r1 hr => pOp_eff (by kernel_rfl) (by kernel_rfl) (eff_call (ARGS := []) (by kernel_rfl) (args_nil) (F14_ok n r1 hr) (by kernel_rfl))) (fun r1 => ?_)
  refine SimI.run 1 [(9, .one (lb (!(r1))))] [] (by kernel_rfl) ?_
  refine SimI.done (by kernel_rfl) ?_
  refine SimE.thenN ?_
  refine Sim.cond (!(r1)) (by kernel_rfl) ?_ ?_
  · refine Sim.seq ?_
    refine Sim.region0 ?_
    refine SimI.run 1 [(4, .one (lb false))] [] (by kernel_rfl) ?_
    refine SimI.done (by kernel_rfl) ?_
    refine SimE.thenN ?_
    refine Sim.ret ?_
    refine SimE.thenR ?_
    exact SimE.fin (by kernel_rfl)
  · refine Sim.skip ?_
    refine SimE.thenN ?_
    refine Sim.seq ?_
    refine Sim.seq ?_
    refine Sim.region0 ?_
    refine SimI.run 1 [(10, .agg [li .i64 a0.ID, li .u8 a0.Mask, li .i64 a0.At.X, li .i64 a0.At.Y, li .i64 a0.F.a0.N, ls a0.F.a0.Text, li .i64 a0.F.a1.N, ls a0.F.a1.Text, li .i64 a0.F.a2.N, ls a0.F.a2.Text, li .i64 a0.F.a3.N, ls a0.F.a3.Text])] [] (by kernel_rfl) ?_
    refine SimI.bind (og := F16 n a0) { dst := some 11, op := POp.call true [[]] 16 [Operand.tmp 10], guard := none, hints := [] } (fun r2 => [(11, .one (lb r2))]) (fun r2 => []) (by kernel_rfl) (fun r2 hr => pOp_eff (by kernel_rfl) (by kernel_rfl) (eff_call (ARGS := [.agg [li .i64 a0.ID, li .u8 a0.Mask, li .i64 a0.At.X, li .i64 a0.At.Y, li .i64 a0.F.a0.N, ls a0.F.a0.Text, li .i64 a0.F.a1.N, ls a0.F.a1.Text, li .i64 a0.F.a2.N, ls a0.F.a2.Text, li .i64 a0.F.a3.N, ls a0.F.a3.Text]]) (by kernel_rfl) (args_clean (by kernel_rfl) args_nil) (F16_ok n a0 r2 hr) (by kernel_rfl))) (fun r2 => ?_)
    refine SimI.run 2 [(13, .one (lb (!(r2)))), (12, .one (lb (!(r2))))] [] (by kernel_rfl) ?_
    refine SimI.split 13 (!(r2)) (by kernel_rfl) ?_ ?_
    · refine SimI.run 4 [(17, .one (lb true)), (16, .tup []), (15, .tup []), (14, .tup [])] [] (by kernel_rfl) ?_
      refine SimI.done (by kernel_rfl) ?_
      refine SimE.thenN ?_
      refine Sim.condT (by kernel_rfl) ?_
      refine Sim.seq ?_
      refine Sim.region0 ?_
      refine SimI.run 1 [(4, .one (lb true))] [] (by kernel_rfl) ?_
      refine SimI.done (by kernel_rfl) ?_
      refine SimE.thenN ?_
      refine Sim.ret ?_
      refine SimE.thenR ?_
      exact SimE.fin (by kernel_rfl)
    · refine SimI.run 1 [(14, .agg [li .i64 a0.ID, li .u8 a0.Mask, li .i64 a0.At.X, li .i64 a0.At.Y, li .i64 a0.F.a0.N, ls a0.F.a0.Text, li .i64 a0.F.a1.N, ls a0.F.a1.Text, li .i64 a0.F.a2.N, ls a0.F.a2.Text, li .i64 a0.F.a3.N, ls a0.F.a3.Text])] [] (by kernel_rfl) ?_
      refine SimI.bind (og := F25 n a0) { dst := some 15, op := POp.call true [[]] 25 [Operand.tmp 14], guard := some (13, false), hints := [] } (fun r3 => [(15, .one (lb r3))]) (fun r3 => []) (by kernel_rfl) (fun r3 hr => pOp_eff (by kernel_rfl) (by kernel_rfl) (eff_call (ARGS := [.agg [li .i64 a0.ID, li .u8 a0.Mask, li .i64 a0.At.X, li .i64 a0.At.Y, li .i64 a0.F.a0.N, ls a0.F.a0.Text, li .i64 a0.F.a1.N, ls a0.F.a1.Text, li .i64 a0.F.a2.N, ls a0.F.a2.Text, li .i64 a0.F.a3.N, ls a0.F.a3.Text]]) (by kernel_rfl) (args_clean (by kernel_rfl) args_nil) (F25_ok n a0 r3 hr) (by kernel_rfl))) (fun r3 => ?_)
      refine SimI.run 2 [(17, .one (lb (!(r3)))), (16, .one (lb (!(r3))))] [] (by kernel_rfl) ?_
      refine SimI.done (by kernel_rfl) ?_
      refine SimE.thenN ?_
      refine Sim.cond (!(r3)) (by kernel_rfl) ?_ ?_
      · refine Sim.seq ?_
        refine Sim.region0 ?_
        refine SimI.run 1 [(4, .one (lb true))] [] (by kernel_rfl) ?_
        refine SimI.done (by kernel_rfl) ?_
        refine SimE.thenN ?_
        refine Sim.ret ?_
        refine SimE.thenR ?_
        exact SimE.fin (by kernel_rfl)
      · refine Sim.skip ?_
        refine SimE.thenN ?_
        refine Sim.seq ?_
        refine Sim.region0 ?_
        refine SimI.run 3 [(5, .one (.ptr 5 0)), (18, .agg [li .i64 a0.ID, li .u8 a0.Mask, li .i64 a0.At.X, li .i64 a0.At.Y, li .i64 a0.F.a0.N, ls a0.F.a0.Text, li .i64 a0.F.a1.N, ls a0.F.a1.Text, li .i64 a0.F.a2.N, ls a0.F.a2.Text, li .i64 a0.F.a3.N, ls a0.F.a3.Text])] [(5, some (.cells [li .i64 a0.ID, li .u8 a0.Mask, li .i64 a0.At.X, li .i64 a0.At.Y, li .i64 a0.F.a0.N, ls a0.F.a0.Text, li .i64 a0.F.a1.N, ls a0.F.a1.Text, li .i64 a0.F.a2.N, ls a0.F.a2.Text, li .i64 a0.F.a3.N, ls a0.F.a3.Text])), (5, some (.cells [li .i64 0, li .u8 0, li .i64 0, li .i64 0, li .i64 0, ls ByteArray.empty, li .i64 0, ls ByteArray.empty, li .i64 0, ls ByteArray.empty, li .i64 0, ls ByteArray.empty]))] (by kernel_rfl) ?_
        refine SimI.done (by kernel_rfl) ?_
        refine SimE.thenN ?_
        refine Sim.seq ?_
        refine Sim.seq ?_
        refine Sim.region0 ?_
        refine SimI.run 2 [(20, .one (li .u8 (Int.tmod a1 6))), (19, .one (li .u8 a1))] [] (by kernel_rfl) ?_
        refine SimI.done (by kernel_rfl) ?_
        refine SimE.thenN ?_
        refine Sim.block ?_
        refine Sim.seq ?_
        refine Sim.region0 ?_
        refine SimI.run 2 [(22, .one (lb ((Int.tmod a1 6) == 0))), (23, .one (lb ((Int.tmod a1 6) == 0)))] [] (by kernel_rfl) ?_
        refine SimI.done (by kernel_rfl) ?_
        refine SimE.thenN ?_
        refine Sim.cond ((Int.tmod a1 6) == 0) (by kernel_rfl) ?_ ?_
        · refine Sim.region0 ?_
          refine SimI.run 2 [(24, .one (.ptr 5 0))] [(5, some (.cells [li .i64 (-1), li .u8 a0.Mask, li .i64 a0.At.X, li .i64 a0.At.Y, li .i64 a0.F.a0.N, ls a0.F.a0.Text, li .i64 a0.F.a1.N, ls a0.F.a1.Text, li .i64 a0.F.a2.N, ls a0.F.a2.Text, li .i64 a0.F.a3.N, ls a0.F.a3.Text]))] (by kernel_rfl) ?_
          refine SimI.done (by kernel_rfl) ?_
          refine SimE.blockN ?_
          refine SimE.thenN ?_
          refine Sim.pre (ts := [2, 5]) (os := [2, 5]) [(2, .one (.ptr 2 0)), (5, .one (.ptr 5 0))] ((2, some (.cells [li .i64 a0.ID, li .u8 a0.Mask, li .i64 a0.At.X, li .i64 a0.At.Y, li .i64 a0.F.a0.N, ls a0.F.a0.Text, li .i64 a0.F.a1.N, ls a0.F.a1.Text, li .i64 a0.F.a2.N, ls a0.F.a2.Text, li .i64 a0.F.a3.N, ls a0.F.a3.Text])) :: ((5, some (.cells [li .i64 (-1), li .u8 a0.Mask, li .i64 a0.At.X, li .i64 a0.At.Y, li .i64 a0.F.a0.N, ls a0.F.a0.Text, li .i64 a0.F.a1.N, ls a0.F.a1.Text, li .i64 a0.F.a2.N, ls a0.F.a2.Text, li .i64 a0.F.a3.N, ls a0.F.a3.Text])) :: [])) (by kernel_rfl) (by kernel_rfl) (by kernel_rfl) ?_
          exact F8_j16_ok n a0 a1 (-1) a0.Mask a0.At.X a0.At.Y a0.F.a0.N a0.F.a0.Text a0.F.a1.N a0.F.a1.Text a0.F.a2.N a0.F.a2.Text a0.F.a3.N a0.F.a3.Text
        · refine Sim.seq ?_
          refine Sim.region0 ?_
          refine SimI.run 2 [(25, .one (lb ((Int.tmod a1 6) == 1))), (26, .one (lb ((Int.tmod a1 6) == 1)))] [] (by kernel_rfl) ?_
          refine SimI.done (by kernel_rfl) ?_
          refine SimE.thenN ?_
          refine Sim.cond ((Int.tmod a1 6) == 1) (by kernel_rfl) ?_ ?_
          · refine Sim.region0 ?_
            refine SimI.run 5 [(30, .one (.ptr 5 1)), (29, .one (li .u8 (bitsI .or .u8 a0.Mask 32))), (28, .one (li .u8 a0.Mask)), (27, .one (.ptr 5 1))] [(5, some (.cells [li .i64 a0.ID, li .u8 (bitsI .or .u8 a0.Mask 32), li .i64 a0.At.X, li .i64 a0.At.Y, li .i64 a0.F.a0.N, ls a0.F.a0.Text, li .i64 a0.F.a1.N, ls a0.F.a1.Text, li .i64 a0.F.a2.N, ls a0.F.a2.Text, li .i64 a0.F.a3.N, ls a0.F.a3.Text]))] (by kernel_rfl) ?_
            refine SimI.done (by kernel_rfl) ?_
            refine SimE.blockN ?_
            refine SimE.thenN ?_
            refine Sim.pre (ts := [2, 5]) (os := [2, 5]) [(2, .one (.ptr 2 0)), (5, .one (.ptr 5 0))] ((2, some (.cells [li .i64 a0.ID, li .u8 a0.Mask, li .i64 a0.At.X, li .i64 a0.At.Y, li .i64 a0.F.a0.N, ls a0.F.a0.Text, li .i64 a0.F.a1.N, ls a0.F.a1.Text, li .i64 a0.F.a2.N, ls a0.F.a2.Text, li .i64 a0.F.a3.N, ls a0.F.a3.Text])) :: ((5, some (.cells [li .i64 a0.ID, li .u8 (bitsI .or .u8 a0.Mask 32), li .i64 a0.At.X, li .i64 a0.At.Y, li .i64 a0.F.a0.N, ls a0.F.a0.Text, li .i64 a0.F.a1.N, ls a0.F.a1.Text, li .i64 a0.F.a2.N, ls a0.F.a2.Text, li .i64 a0.F.a3.N, ls a0.F.a3.Text])) :: [])) (by kernel_rfl) (by kernel_rfl) (by kernel_rfl) ?_
            exact F8_j16_ok n a0 a1 a0.ID (bitsI .or .u8 a0.Mask 32) a0.At.X a0.At.Y a0.F.a0.N a0.F.a0.Text a0.F.a1.N a0.F.a1.Text a0.F.a2.N a0.F.a2.Text a0.F.a3.N a0.F.a3.Text
          · refine Sim.seq ?_
            refine Sim.region0 ?_
            refine SimI.run 2 [(31, .one (lb ((Int.tmod a1 6) == 2))), (32, .one (lb ((Int.tmod a1 6) == 2)))] [] (by kernel_rfl) ?_
            refine SimI.done (by kernel_rfl) ?_
            refine SimE.thenN ?_
            refine Sim.cond ((Int.tmod a1 6) == 2) (by kernel_rfl) ?_ ?_
            · refine Sim.region0 ?_
              refine SimI.run 2 [(33, .one (.ptr 5 1))] [(5, some (.cells [li .i64 a0.ID, li .u8 0, li .i64 a0.At.X, li .i64 a0.At.Y, li .i64 a0.F.a0.N, ls a0.F.a0.Text, li .i64 a0.F.a1.N, ls a0.F.a1.Text, li .i64 a0.F.a2.N, ls a0.F.a2.Text, li .i64 a0.F.a3.N, ls a0.F.a3.Text]))] (by kernel_rfl) ?_
              refine SimI.done (by kernel_rfl) ?_
              refine SimE.blockN ?_
              refine SimE.thenN ?_
              refine Sim.pre (ts := [2, 5]) (os := [2, 5]) [(2, .one (.ptr 2 0)), (5, .one (.ptr 5 0))] ((2, some (.cells [li .i64 a0.ID, li .u8 a0.Mask, li .i64 a0.At.X, li .i64 a0.At.Y, li .i64 a0.F.a0.N, ls a0.F.a0.Text, li .i64 a0.F.a1.N, ls a0.F.a1.Text, li .i64 a0.F.a2.N, ls a0.F.a2.Text, li .i64 a0.F.a3.N, ls a0.F.a3.Text])) :: ((5, some (.cells [li .i64 a0.ID, li .u8 0, li .i64 a0.At.X, li .i64 a0.At.Y, li .i64 a0.F.a0.N, ls a0.F.a0.Text, li .i64 a0.F.a1.N, ls a0.F.a1.Text, li .i64 a0.F.a2.N, ls a0.F.a2.Text, li .i64 a0.F.a3.N, ls a0.F.a3.Text])) :: [])) (by kernel_rfl) (by kernel_rfl) (by kernel_rfl) ?_
              exact F8_j16_ok n a0 a1 a0.ID 0 a0.At.X a0.At.Y a0.F.a0.N a0.F.a0.Text a0.F.a1.N a0.F.a1.Text a0.F.a2.N a0.F.a2.Text a0.F.a3.N a0.F.a3.Text
            · refine Sim.seq ?_
              refine Sim.region0 ?_
              refine SimI.run 2 [(34, .one (lb ((Int.tmod a1 6) == 3))), (35, .one (lb ((Int.tmod a1 6) == 3)))] [] (by kernel_rfl) ?_
              refine SimI.done (by kernel_rfl) ?_
              refine SimE.thenN ?_
              refine Sim.cond ((Int.tmod a1 6) == 3) (by kernel_rfl) ?_ ?_
              · refine Sim.region0 ?_
                refine SimI.run 3 [(37, .one (.ptr 5 2)), (36, .agg [li .i64 64, li .i64 0])] [(5, some (.cells [li .i64 a0.ID, li .u8 a0.Mask, li .i64 64, li .i64 0, li .i64 a0.F.a0.N, ls a0.F.a0.Text, li .i64 a0.F.a1.N, ls a0.F.a1.Text, li .i64 a0.F.a2.N, ls a0.F.a2.Text, li .i64 a0.F.a3.N, ls a0.F.a3.Text]))] (by kernel_rfl) ?_
                refine SimI.done (by kernel_rfl) ?_
                refine SimE.blockN ?_
                refine SimE.thenN ?_
                refine Sim.pre (ts := [2, 5]) (os := [2, 5]) [(2, .one (.ptr 2 0)), (5, .one (.ptr 5 0))] ((2, some (.cells [li .i64 a0.ID, li .u8 a0.Mask, li .i64 a0.At.X, li .i64 a0.At.Y, li .i64 a0.F.a0.N, ls a0.F.a0.Text, li .i64 a0.F.a1.N, ls a0.F.a1.Text, li .i64 a0.F.a2.N, ls a0.F.a2.Text, li .i64 a0.F.a3.N, ls a0.F.a3.Text])) :: ((5, some (.cells [li .i64 a0.ID, li .u8 a0.Mask, li .i64 64, li .i64 0, li .i64 a0.F.a0.N, ls a0.F.a0.Text, li .i64 a0.F.a1.N, ls a0.F.a1.Text, li .i64 a0.F.a2.N, ls a0.F.a2.Text, li .i64 a0.F.a3.N, ls a0.F.a3.Text])) :: [])) (by kernel_rfl) (by kernel_rfl) (by kernel_rfl) ?_
                exact F8_j16_ok n a0 a1 a0.ID a0.Mask 64 0 a0.F.a0.N a0.F.a0.Text a0.F.a1.N a0.F.a1.Text a0.F.a2.N a0.F.a2.Text a0.F.a3.N a0.F.a3.Text
              · refine Sim.seq ?_
                refine Sim.region0 ?_
                refine SimI.run 2 [(38, .one (lb ((Int.tmod a1 6) == 4))), (39, .one (lb ((Int.tmod a1 6) == 4)))] [] (by kernel_rfl) ?_
                refine SimI.done (by kernel_rfl) ?_
                refine SimE.thenN ?_
                refine Sim.cond ((Int.tmod a1 6) == 4) (by kernel_rfl) ?_ ?_
                · refine Sim.region0 ?_
                  refine SimI.run 6 [(45, .one (.ptr 5 4)), (44, .agg [li .i64 1, ls (ByteArray.mk #[97])]), (43, .one (li .i64 (Int.tmod (IntKind.wrap .i64 (IntKind.wrap .u8 (Int.tdiv a1 6))) 4))), (42, .one (li .i64 (IntKind.wrap .i64 (IntKind.wrap .u8 (Int.tdiv a1 6))))), (41, .one (li .u8 (IntKind.wrap .u8 (Int.tdiv a1 6)))), (40, .one (li .u8 a1))] [] (by kernel_rfl) ?_
                  refine SimI.casei 43 .i64 (Int.tmod (IntKind.wrap .i64 (IntKind.wrap .u8 (Int.tdiv a1 6))) 4) 0 (by kernel_rfl) ?_ ?_
                  · refine SimI.run 2 [(46, .one (.ptr 5 4))] [(5, some (.cells [li .i64 a0.ID, li .u8 a0.Mask, li .i64 a0.At.X, li .i64 a0.At.Y, li .i64 1, ls (ByteArray.mk #[97]), li .i64 a0.F.a1.N, ls a0.F.a1.Text, li .i64 a0.F.a2.N, ls a0.F.a2.Text, li .i64 a0.F.a3.N, ls a0.F.a3.Text]))] (by kernel_rfl) ?_
                    refine SimI.done (by kernel_rfl) ?_
                    refine SimE.blockN ?_
                    refine SimE.thenN ?_
                    refine Sim.pre (ts := [2, 5]) (os := [2, 5]) [(2, .one (.ptr 2 0)), (5, .one (.ptr 5 0))] ((2, some (.cells [li .i64 a0.ID, li .u8 a0.Mask, li .i64 a0.At.X, li .i64 a0.At.Y, li .i64 a0.F.a0.N, ls a0.F.a0.Text, li .i64 a0.F.a1.N, ls a0.F.a1.Text, li .i64 a0.F.a2.N, ls a0.F.a2.Text, li .i64 a0.F.a3.N, ls a0.F.a3.Text])) :: ((5, some (.cells [li .i64 a0.ID, li .u8 a0.Mask, li .i64 a0.At.X, li .i64 a0.At.Y, li .i64 1, ls (ByteArray.mk #[97]), li .i64 a0.F.a1.N, ls a0.F.a1.Text, li .i64 a0.F.a2.N, ls a0.F.a2.Text, li .i64 a0.F.a3.N, ls a0.F.a3.Text])) :: [])) (by kernel_rfl) (by kernel_rfl) (by kernel_rfl) ?_
                    exact F8_j16_ok n a0 a1 a0.ID a0.Mask a0.At.X a0.At.Y 1 (ByteArray.mk #[97]) a0.F.a1.N a0.F.a1.Text a0.F.a2.N a0.F.a2.Text a0.F.a3.N a0.F.a3.Text
                  · refine SimI.casei 43 .i64 (Int.tmod (IntKind.wrap .i64 (IntKind.wrap .u8 (Int.tdiv a1 6))) 4) 1 (by kernel_rfl) ?_ ?_
                    · refine SimI.run 2 [(46, .one (.ptr 5 6))] [(5, some (.cells [li .i64 a0.ID, li .u8 a0.Mask, li .i64 a0.At.X, li .i64 a0.At.Y, li .i64 a0.F.a0.N, ls a0.F.a0.Text, li .i64 1, ls (ByteArray.mk #[97]), li .i64 a0.F.a2.N, ls a0.F.a2.Text, li .i64 a0.F.a3.N, ls a0.F.a3.Text]))] (by kernel_rfl) ?_
                      refine SimI.done (by kernel_rfl) ?_
                      refine SimE.blockN ?_
                      refine SimE.thenN ?_
                      refine Sim.pre (ts := [2, 5]) (os := [2, 5]) [(2, .one (.ptr 2 0)), (5, .one (.ptr 5 0))] ((2, some (.cells [li .i64 a0.ID, li .u8 a0.Mask, li .i64 a0.At.X, li .i64 a0.At.Y, li .i64 a0.F.a0.N, ls a0.F.a0.Text, li .i64 a0.F.a1.N, ls a0.F.a1.Text, li .i64 a0.F.a2.N, ls a0.F.a2.Text, li .i64 a0.F.a3.N, ls a0.F.a3.Text])) :: ((5, some (.cells [li .i64 a0.ID, li .u8 a0.Mask, li .i64 a0.At.X, li .i64 a0.At.Y, li .i64 a0.F.a0.N, ls a0.F.a0.Text, li .i64 1, ls (ByteArray.mk #[97]), li .i64 a0.F.a2.N, ls a0.F.a2.Text, li .i64 a0.F.a3.N, ls a0.F.a3.Text])) :: [])) (by kernel_rfl) (by kernel_rfl) (by kernel_rfl) ?_
                      exact F8_j16_ok n a0 a1 a0.ID a0.Mask a0.At.X a0.At.Y a0.F.a0.N a0.F.a0.Text 1 (ByteArray.mk #[97]) a0.F.a2.N a0.F.a2.Text a0.F.a3.N a0.F.a3.Text
                    · refine SimI.casei 43 .i64 (Int.tmod (IntKind.wrap .i64 (IntKind.wrap .u8 (Int.tdiv a1 6))) 4) 2 (by kernel_rfl) ?_ ?_
                      · refine SimI.run 2 [(46, .one (.ptr 5 8))] [(5, some (.cells [li .i64 a0.ID, li .u8 a0.Mask, li .i64 a0.At.X, li .i64 a0.At.Y, li .i64 a0.F.a0.N, ls a0.F.a0.Text, li .i64 a0.F.a1.N, ls a0.F.a1.Text, li .i64 1, ls (ByteArray.mk #[97]), li .i64 a0.F.a3.N, ls a0.F.a3.Text]))] (by kernel_rfl) ?_
                        refine SimI.done (by kernel_rfl) ?_
                        refine SimE.blockN ?_
                        refine SimE.thenN ?_
                        refine Sim.pre (ts := [2, 5]) (os := [2, 5]) [(2, .one (.ptr 2 0)), (5, .one (.ptr 5 0))] ((2, some (.cells [li .i64 a0.ID, li .u8 a0.Mask, li .i64 a0.At.X, li .i64 a0.At.Y, li .i64 a0.F.a0.N, ls a0.F.a0.Text, li .i64 a0.F.a1.N, ls a0.F.a1.Text, li .i64 a0.F.a2.N, ls a0.F.a2.Text, li .i64 a0.F.a3.N, ls a0.F.a3.Text])) :: ((5, some (.cells [li .i64 a0.ID, li .u8 a0.Mask, li .i64 a0.At.X, li .i64 a0.At.Y, li .i64 a0.F.a0.N, ls a0.F.a0.Text, li .i64 a0.F.a1.N, ls a0.F.a1.Text, li .i64 1, ls (ByteArray.mk #[97]), li .i64 a0.F.a3.N, ls a0.F.a3.Text])) :: [])) (by kernel_rfl) (by kernel_rfl) (by kernel_rfl) ?_
                        exact F8_j16_ok n a0 a1 a0.ID a0.Mask a0.At.X a0.At.Y a0.F.a0.N a0.F.a0.Text a0.F.a1.N a0.F.a1.Text 1 (ByteArray.mk #[97]) a0.F.a3.N a0.F.a3.Text
                      · refine SimI.casei 43 .i64 (Int.tmod (IntKind.wrap .i64 (IntKind.wrap .u8 (Int.tdiv a1 6))) 4) 3 (by kernel_rfl) ?_ ?_
                        · refine SimI.run 2 [(46, .one (.ptr 5 10))] [(5, some (.cells [li .i64 a0.ID, li .u8 a0.Mask, li .i64 a0.At.X, li .i64 a0.At.Y, li .i64 a0.F.a0.N, ls a0.F.a0.Text, li .i64 a0.F.a1.N, ls a0.F.a1.Text, li .i64 a0.F.a2.N, ls a0.F.a2.Text, li .i64 1, ls (ByteArray.mk #[97])]))] (by kernel_rfl) ?_
                          refine SimI.done (by kernel_rfl) ?_
                          refine SimE.blockN ?_
                          refine SimE.thenN ?_
                          refine Sim.pre (ts := [2, 5]) (os := [2, 5]) [(2, .one (.ptr 2 0)), (5, .one (.ptr 5 0))] ((2, some (.cells [li .i64 a0.ID, li .u8 a0.Mask, li .i64 a0.At.X, li .i64 a0.At.Y, li .i64 a0.F.a0.N, ls a0.F.a0.Text, li .i64 a0.F.a1.N, ls a0.F.a1.Text, li .i64 a0.F.a2.N, ls a0.F.a2.Text, li .i64 a0.F.a3.N, ls a0.F.a3.Text])) :: ((5, some (.cells [li .i64 a0.ID, li .u8 a0.Mask, li .i64 a0.At.X, li .i64 a0.At.Y, li .i64 a0.F.a0.N, ls a0.F.a0.Text, li .i64 a0.F.a1.N, ls a0.F.a1.Text, li .i64 a0.F.a2.N, ls a0.F.a2.Text, li .i64 1, ls (ByteArray.mk #[97])])) :: [])) (by kernel_rfl) (by kernel_rfl) (by kernel_rfl) ?_
                          exact F8_j16_ok n a0 a1 a0.ID a0.Mask a0.At.X a0.At.Y a0.F.a0.N a0.F.a0.Text a0.F.a1.N a0.F.a1.Text a0.F.a2.N a0.F.a2.Text 1 (ByteArray.mk #[97])
                        · exact SimI.vac rfl
                · refine Sim.region0 ?_
                  refine SimI.run 2 [(21, .one (.ptr 5 0))] [(5, some (.cells [li .i64 1000001, li .u8 a0.Mask, li .i64 a0.At.X, li .i64 a0.At.Y, li .i64 a0.F.a0.N, ls a0.F.a0.Text, li .i64 a0.F.a1.N, ls a0.F.a1.Text, li .i64 a0.F.a2.N, ls a0.F.a2.Text, li .i64 a0.F.a3.N, ls a0.F.a3.Text]))] (by kernel_rfl) ?_
                  refine SimI.done (by kernel_rfl) ?_
                  refine SimE.blockN ?_
                  refine SimE.thenN ?_
                  refine Sim.pre (ts := [2, 5]) (os := [2, 5]) [(2, .one (.ptr 2 0)), (5, .one (.ptr 5 0))] ((2, some (.cells [li .i64 a0.ID, li .u8 a0.Mask, li .i64 a0.At.X, li .i64 a0.At.Y, li .i64 a0.F.a0.N, ls a0.F.a0.Text, li .i64 a0.F.a1.N, ls a0.F.a1.Text, li .i64 a0.F.a2.N, ls a0.F.a2.Text, li .i64 a0.F.a3.N, ls a0.F.a3.Text])) :: ((5, some (.cells [li .i64 1000001, li .u8 a0.Mask, li .i64 a0.At.X, li .i64 a0.At.Y, li .i64 a0.F.a0.N, ls a0.F.a0.Text, li .i64 a0.F.a1.N, ls a0.F.a1.Text, li .i64 a0.F.a2.N, ls a0.F.a2.Text, li .i64 a0.F.a3.N, ls a0.F.a3.Text])) :: [])) (by kernel_rfl) (by kernel_rfl) (by kernel_rfl) ?_
                  exact F8_j16_ok n a0 a1 1000001 a0.Mask a0.At.X a0.At.Y a0.F.a0.N a0.F.a0.Text a0.F.a1.N a0.F.a1.Text a0.F.a2.N a0.F.a2.Text a0.F.a3.N a0.F.a3.Text


-- 19: vedette/vedetteref6.Diff
def F19_e : (Delta × Bool) → PV × List (List Lf) := fun r => (.tup [.agg [li .i64 r.1.ID, li .u8 r.1.Mask, li .i64 r.1.At.X, li .i64 r.1.At.Y, li .i64 r.1.F.a0.N, ls r.1.F.a0.Text, li .i64 r.1.F.a1.N, ls r.1.F.a1.Text, li .i64 r.1.F.a2.N, ls r.1.F.a2.Text, li .i64 r.1.F.a3.N, ls r.1.F.a3.Text], .one (lb r.2)], [])
def F19_u20 (n : Nat) (a1 : Thing) (i2 : Int) (i3 : Int) (i6 : Int) (s7 : ByteArray) (i10 : Int) (s11 : ByteArray) (i14 : Int) (s15 : ByteArray) (i17 : Int) (i18 : Int) (s19 : ByteArray) : Option (Delta × Bool) :=
    some ((Delta.mk a1.ID i17 (Point.mk i2 i3) (A4.mk (Field.mk i6 s7) (Field.mk i10 s11) (Field.mk i14 s15) (Field.mk i18 s19))), i17 != 0)
theorem F19_u20_ok (n : Nat) (a0 : Thing) (a1 : Thing) (i2 : Int) (i3 : Int) (i6 : Int) (s7 : ByteArray) (i10 : Int) (s11 : ByteArray) (i14 : Int) (s15 : ByteArray) (i17 : Int) (i18 : Int) (s19 : ByteArray) : SimL Try.prog D (n + 8) (n + 4) pc19_c24 [(2, .one (.ptr 2 0)), (3, .one (.ptr 3 0)), (4, .one (.ptr 4 0)), (6, .one (.ptr 6 0)), (7, .one (li .i64 4))] ((2, some (.cells [li .i64 a0.ID, li .i64 a0.At.X, li .i64 a0.At.Y, li .i64 a0.F.a0.N, ls a0.F.a0.Text, li .i64 a0.F.a1.N, ls a0.F.a1.Text, li .i64 a0.F.a2.N, ls a0.F.a2.Text, li .i64 a0.F.a3.N, ls a0.F.a3.Text])) :: ((3, some (.cells [li .i64 a1.ID, li .i64 a1.At.X, li .i64 a1.At.Y, li .i64 a1.F.a0.N, ls a1.F.a0.Text, li .i64 a1.F.a1.N, ls a1.F.a1.Text, li .i64 a1.F.a2.N, ls a1.F.a2.Text, li .i64 a1.F.a3.N, ls a1.F.a3.Text])) :: ((4, some (.cells [li .i64 0, li .u8 0, li .i64 0, li .i64 0, li .i64 0, ls ByteArray.empty, li .i64 0, ls ByteArray.empty, li .i64 0, ls ByteArray.empty, li .i64 0, ls ByteArray.empty])) :: ((6, some (.cells [li .i64 a1.ID, li .u8 i17, li .i64 i2, li .i64 i3, li .i64 i6, ls s7, li .i64 i10, ls s11, li .i64 i14, ls s15, li .i64 i18, ls s19])) :: [])))) (F19_u20 n a1 i2 i3 i6 s7 i10 s11 i14 s15 i17 i18 s19) (QB 0 (QT Try.prog D (n + 8) pc19_c30 (QF pc19_r 0 F19_e))) := by
    unfold F19_u20
    refine SimL.succ ?_
    refine Sim.seq ?_
    refine Sim.seq ?_
    refine Sim.region [(2, .one (.ptr 2 0)), (3, .one (.ptr 3 0)), (4, .one (.ptr 4 0)), (6, .one (.ptr 6 0)), (7, .one (li .i64 4))] ((2, some (.cells [li .i64 a0.ID, li .i64 a0.At.X, li .i64 a0.At.Y, li .i64 a0.F.a0.N, ls a0.F.a0.Text, li .i64 a0.F.a1.N, ls a0.F.a1.Text, li .i64 a0.F.a2.N, ls a0.F.a2.Text, li .i64 a0.F.a3.N, ls a0.F.a3.Text])) :: ((3, some (.cells [li .i64 a1.ID, li .i64 a1.At.X, li .i64 a1.At.Y, li .i64 a1.F.a0.N, ls a1.F.a0.Text, li .i64 a1.F.a1.N, ls a1.F.a1.Text, li .i64 a1.F.a2.N, ls a1.F.a2.Text, li .i64 a1.F.a3.N, ls a1.F.a3.Text])) :: ((4, some (.cells [li .i64 0, li .u8 0, li .i64 0, li .i64 0, li .i64 0, ls ByteArray.empty, li .i64 0, ls ByteArray.empty, li .i64 0, ls ByteArray.empty, li .i64 0, ls ByteArray.empty])) :: ((6, some (.cells [li .i64 a1.ID, li .u8 i17, li .i64 i2, li .i64 i3, li .i64 i6, ls s7, li .i64 i10, ls s11, li .i64 i14, ls s15, li .i64 i18, ls s19])) :: [])))) (by kernel_rfl) ?_
    refine SimI.run 2 [(21, .one (lb false)), (20, .one (li .i64 4))] [] (by kernel_rfl) ?_
    refine SimI.done (by kernel_rfl) ?_
    refine SimE.thenN ?_
    refine Sim.condF (by kernel_rfl) ?_
    refine Sim.exit ?_
    refine SimE.thenX ?_
    refine SimE.loopX ?_
    refine SimE.blockX ?_
    refine SimE.thenN ?_
    refine Sim.seq ?_
    refine Sim.region0 ?_
    refine SimI.run 6 [(5, .one (lb (i17 != 0))), (50, .one (lb (i17 != 0))), (49, .one (li .u8 i17)), (48, .one (.ptr 6 1)), (47, .agg [li .i64 a1.ID, li .u8 i17, li .i64 i2, li .i64 i3, li .i64 i6, ls s7, li .i64 i10, ls s11, li .i64 i14, ls s15, li .i64 i18, ls s19])] [(4, some (.cells [li .i64 a1.ID, li .u8 i17, li .i64 i2, li .i64 i3, li .i64 i6, ls s7, li .i64 i10, ls s11, li .i64 i14, ls s15, li .i64 i18, ls s19]))] (by kernel_rfl) ?_
    refine SimI.done (by kernel_rfl) ?_
    refine SimE.thenN ?_
    refine Sim.ret ?_
    exact SimE.fin (by kernel_rfl)

def F19_u16 (n : Nat) (a0 : Thing) (a1 : Thing) (i2 : Int) (i3 : Int) (i6 : Int) (s7 : ByteArray) (i10 : Int) (s11 : ByteArray) (i13 : Int) (i14 : Int) (s15 : ByteArray) : Option (Delta × Bool) :=
    if !(Field.eqb a0.F.a3 a1.F.a3) then
      F19_u20 n a1 i2 i3 i6 s7 i10 s11 i14 s15 (bitsI .or .u8 i13 (shlI .u8 2 3)) a1.F.a3.N a1.F.a3.Text
    else
      F19_u20 n a1 i2 i3 i6 s7 i10 s11 i14 s15 i13 0 ByteArray.empty
theorem F19_u16_ok (n : Nat) (a0 : Thing) (a1 : Thing) (i2 : Int) (i3 : Int) (i6 : Int) (s7 : ByteArray) (i10 : Int) (s11 : ByteArray) (i13 : Int) (i14 : Int) (s15 : ByteArray) : SimL Try.prog D (n + 8) (n + 5) pc19_c24 [(2, .one (.ptr 2 0)), (3, .one (.ptr 3 0)), (4, .one (.ptr 4 0)), (6, .one (.ptr 6 0)), (7, .one (li .i64 3))] ((2, some (.cells [li .i64 a0.ID, li .i64 a0.At.X, li .i64 a0.At.Y, li .i64 a0.F.a0.N, ls a0.F.a0.Text, li .i64 a0.F.a1.N, ls a0.F.a1.Text, li .i64 a0.F.a2.N, ls a0.F.a2.Text, li .i64 a0.F.a3.N, ls a0.F.a3.Text])) :: ((3, some (.cells [li .i64 a1.ID, li .i64 a1.At.X, li .i64 a1.At.Y, li .i64 a1.F.a0.N, ls a1.F.a0.Text, li .i64 a1.F.a1.N, ls a1.F.a1.Text, li .i64 a1.F.a2.N, ls a1.F.a2.Text, li .i64 a1.F.a3.N, ls a1.F.a3.Text])) :: ((4, some (.cells [li .i64 0, li .u8 0, li .i64 0, li .i64 0, li .i64 0, ls ByteArray.empty, li .i64 0, ls ByteArray.empty, li .i64 0, ls ByteArray.empty, li .i64 0, ls ByteArray.empty])) :: ((6, some (.cells [li .i64 a1.ID, li .u8 i13, li .i64 i2, li .i64 i3, li .i64 i6, ls s7, li .i64 i10, ls s11, li .i64 i14, ls s15, li .i64 0, ls ByteArray.empty])) :: [])))) (F19_u16 n a0 a1 i2 i3 i6 s7 i10 s11 i13 i14 s15) (QB 0 (QT Try.prog D (n + 8) pc19_c30 (QF pc19_r 0 F19_e))) := by
    unfold F19_u16
    refine SimL.succ ?_
    refine Sim.seq ?_
    refine Sim.seq ?_
    refine Sim.region [(2, .one (.ptr 2 0)), (3, .one (.ptr 3 0)), (4, .one (.ptr 4 0)), (6, .one (.ptr 6 0)), (7, .one (li .i64 3))] ((2, some (.cells [li .i64 a0.ID, li .i64 a0.At.X, li .i64 a0.At.Y, li .i64 a0.F.a0.N, ls a0.F.a0.Text, li .i64 a0.F.a1.N, ls a0.F.a1.Text, li .i64 a0.F.a2.N, ls a0.F.a2.Text, li .i64 a0.F.a3.N, ls a0.F.a3.Text])) :: ((3, some (.cells [li .i64 a1.ID, li .i64 a1.At.X, li .i64 a1.At.Y, li .i64 a1.F.a0.N, ls a1.F.a0.Text, li .i64 a1.F.a1.N, ls a1.F.a1.Text, li .i64 a1.F.a2.N, ls a1.F.a2.Text, li .i64 a1.F.a3.N, ls a1.F.a3.Text])) :: ((4, some (.cells [li .i64 0, li .u8 0, li .i64 0, li .i64 0, li .i64 0, ls ByteArray.empty, li .i64 0, ls ByteArray.empty, li .i64 0, ls ByteArray.empty, li .i64 0, ls ByteArray.empty])) :: ((6, some (.cells [li .i64 a1.ID, li .u8 i13, li .i64 i2, li .i64 i3, li .i64 i6, ls s7, li .i64 i10, ls s11, li .i64 i14, ls s15, li .i64 0, ls ByteArray.empty])) :: [])))) (by kernel_rfl) ?_
    refine SimI.run 2 [(21, .one (lb true)), (20, .one (li .i64 3))] [] (by kernel_rfl) ?_
    refine SimI.done (by kernel_rfl) ?_
    refine SimE.thenN ?_
    refine Sim.condT (by kernel_rfl) ?_
    refine Sim.skip ?_
    refine SimE.thenN ?_
    refine Sim.seq ?_
    refine Sim.block ?_
    refine Sim.seq ?_
    refine Sim.region0 ?_
    refine SimI.run 8 [(31, .agg [li .i64 a1.F.a3.N, ls a1.F.a3.Text]), (30, .one (.ptr 3 9)), (29, .one (.ptr 3 3)), (28, .one (li .i64 3)), (27, .agg [li .i64 a0.F.a3.N, ls a0.F.a3.Text]), (26, .one (.ptr 2 9)), (25, .one (.ptr 2 3)), (24, .one (li .i64 3))] [] (by kernel_rfl) ?_
    refine SimI.step { dst := some 32, op := POp.prim (Prim.bin BinOp.neq 25 false false) [Operand.tmp 27, Operand.tmp 31], guard := none, hints := [(27, Hint.imm), (31, Hint.imm)] } [(32, .one (lb (!(Field.eqb a0.F.a3 a1.F.a3))))] [] (by kernel_rfl) (pOp_eff (by kernel_rfl) (by kernel_rfl) (eff_prim (by kernel_rfl) (Field_eqn a0.F.a3 a1.F.a3 _ _))) ?_
    refine SimI.done (by kernel_rfl) ?_
    refine SimE.thenN ?_
    refine Sim.cond (!(Field.eqb a0.F.a3 a1.F.a3)) (by kernel_rfl) ?_ ?_
    · refine Sim.seq ?_
      refine Sim.region0 ?_
      refine SimI.run 8 [(39, .one (.ptr 6 1)), (38, .one (li .u8 (bitsI .or .u8 i13 (shlI .u8 2 3)))), (37, .one (li .u8 (shlI .u8 2 3))), (36, .one (li .u64 3)), (35, .one (li .i64 3)), (34, .one (li .u8 i13)), (33, .one (.ptr 6 1))] [(6, some (.cells [li .i64 a1.ID, li .u8 (bitsI .or .u8 i13 (shlI .u8 2 3)), li .i64 i2, li .i64 i3, li .i64 i6, ls s7, li .i64 i10, ls s11, li .i64 i14, ls s15, li .i64 0, ls ByteArray.empty]))] (by kernel_rfl) ?_
      refine SimI.done (by kernel_rfl) ?_
      refine SimE.thenN ?_
      refine Sim.region0 ?_
      refine SimI.run 8 [(46, .one (.ptr 6 10)), (45, .one (.ptr 6 4)), (44, .agg [li .i64 a1.F.a3.N, ls a1.F.a3.Text]), (43, .one (.ptr 3 9)), (42, .one (.ptr 3 3)), (41, .one (li .i64 3)), (40, .one (li .i64 3))] [(6, some (.cells [li .i64 a1.ID, li .u8 (bitsI .or .u8 i13 (shlI .u8 2 3)), li .i64 i2, li .i64 i3, li .i64 i6, ls s7, li .i64 i10, ls s11, li .i64 i14, ls s15, li .i64 a1.F.a3.N, ls a1.F.a3.Text]))] (by kernel_rfl) ?_
      refine SimI.done (by kernel_rfl) ?_
      refine SimE.blockN ?_
      refine SimE.thenN ?_
      refine Sim.region0 ?_
      refine SimI.run 3 [(7, .one (li .i64 4)), (23, .one (li .i64 4)), (22, .one (li .i64 3))] [] (by kernel_rfl) ?_
      refine SimI.done (by kernel_rfl) ?_
      refine SimE.loopN ?_
      refine SimL.pre (ts := [2, 3, 4, 6, 7]) (os := [2, 3, 4, 6]) [(2, .one (.ptr 2 0)), (3, .one (.ptr 3 0)), (4, .one (.ptr 4 0)), (6, .one (.ptr 6 0)), (7, .one (li .i64 4))] ((2, some (.cells [li .i64 a0.ID, li .i64 a0.At.X, li .i64 a0.At.Y, li .i64 a0.F.a0.N, ls a0.F.a0.Text, li .i64 a0.F.a1.N, ls a0.F.a1.Text, li .i64 a0.F.a2.N, ls a0.F.a2.Text, li .i64 a0.F.a3.N, ls a0.F.a3.Text])) :: ((3, some (.cells [li .i64 a1.ID, li .i64 a1.At.X, li .i64 a1.At.Y, li .i64 a1.F.a0.N, ls a1.F.a0.Text, li .i64 a1.F.a1.N, ls a1.F.a1.Text, li .i64 a1.F.a2.N, ls a1.F.a2.Text, li .i64 a1.F.a3.N, ls a1.F.a3.Text])) :: ((4, some (.cells [li .i64 0, li .u8 0, li .i64 0, li .i64 0, li .i64 0, ls ByteArray.empty, li .i64 0, ls ByteArray.empty, li .i64 0, ls ByteArray.empty, li .i64 0, ls ByteArray.empty])) :: ((6, some (.cells [li .i64 a1.ID, li .u8 (bitsI .or .u8 i13 (shlI .u8 2 3)), li .i64 i2, li .i64 i3, li .i64 i6, ls s7, li .i64 i10, ls s11, li .i64 i14, ls s15, li .i64 a1.F.a3.N, ls a1.F.a3.Text])) :: [])))) (by kernel_rfl) (by kernel_rfl) (by kernel_rfl) ?_
      exact F19_u20_ok n a0 a1 i2 i3 i6 s7 i10 s11 i14 s15 (bitsI .or .u8 i13 (shlI .u8 2 3)) a1.F.a3.N a1.F.a3.Text
    · refine Sim.skip ?_
      refine SimE.blockN ?_
      refine SimE.thenN ?_
      refine Sim.region0 ?_
      refine SimI.run 3 [(7, .one (li .i64 4)), (23, .one (li .i64 4)), (22, .one (li .i64 3))] [] (by kernel_rfl) ?_
      refine SimI.done (by kernel_rfl) ?_
      refine SimE.loopN ?_
      refine SimL.pre (ts := [2, 3, 4, 6, 7]) (os := [2, 3, 4, 6]) [(2, .one (.ptr 2 0)), (3, .one (.ptr 3 0)), (4, .one (.ptr 4 0)), (6, .one (.ptr 6 0)), (7, .one (li .i64 4))] ((2, some (.cells [li .i64 a0.ID, li .i64 a0.At.X, li .i64 a0.At.Y, li .i64 a0.F.a0.N, ls a0.F.a0.Text, li .i64 a0.F.a1.N, ls a0.F.a1.Text, li .i64 a0.F.a2.N, ls a0.F.a2.Text, li .i64 a0.F.a3.N, ls a0.F.a3.Text])) :: ((3, some (.cells [li .i64 a1.ID, li .i64 a1.At.X, li .i64 a1.At.Y, li .i64 a1.F.a0.N, ls a1.F.a0.Text, li .i64 a1.F.a1.N, ls a1.F.a1.Text, li .i64 a1.F.a2.N, ls a1.F.a2.Text, li .i64 a1.F.a3.N, ls a1.F.a3.Text])) :: ((4, some (.cells [li .i64 0, li .u8 0, li .i64 0, li .i64 0, li .i64 0, ls ByteArray.empty, li .i64 0, ls ByteArray.empty, li .i64 0, ls ByteArray.empty, li .i64 0, ls ByteArray.empty])) :: ((6, some (.cells [li .i64 a1.ID, li .u8 i13, li .i64 i2, li .i64 i3, li .i64 i6, ls s7, li .i64 i10, ls s11, li .i64 i14, ls s15, li .i64 0, ls ByteArray.empty])) :: [])))) (by kernel_rfl) (by kernel_rfl) (by kernel_rfl) ?_
      exact F19_u20_ok n a0 a1 i2 i3 i6 s7 i10 s11 i14 s15 i13 0 ByteArray.empty

def F19_u12 (n : Nat) (a0 : Thing) (a1 : Thing) (i2 : Int) (i3 : Int) (i6 : Int) (s7 : ByteArray) (i9 : Int) (i10 : Int) (s11 : ByteArray) : Option (Delta × Bool) :=
    if !(Field.eqb a0.F.a2 a1.F.a2) then
      F19_u16 n a0 a1 i2 i3 i6 s7 i10 s11 (bitsI .or .u8 i9 (shlI .u8 2 2)) a1.F.a2.N a1.F.a2.Text
    else
      F19_u16 n a0 a1 i2 i3 i6 s7 i10 s11 i9 0 ByteArray.empty
theorem F19_u12_ok (n : Nat) (a0 : Thing) (a1 : Thing) (i2 : Int) (i3 : Int) (i6 : Int) (s7 : ByteArray) (i9 : Int) (i10 : Int) (s11 : ByteArray) : SimL Try.prog D (n + 8) (n + 6) pc19_c24 [(2, .one (.ptr 2 0)), (3, .one (.ptr 3 0)), (4, .one (.ptr 4 0)), (6, .one (.ptr 6 0)), (7, .one (li .i64 2))] ((2, some (.cells [li .i64 a0.ID, li .i64 a0.At.X, li .i64 a0.At.Y, li .i64 a0.F.a0.N, ls a0.F.a0.Text, li .i64 a0.F.a1.N, ls a0.F.a1.Text, li .i64 a0.F.a2.N, ls a0.F.a2.Text, li .i64 a0.F.a3.N, ls a0.F.a3.Text])) :: ((3, some (.cells [li .i64 a1.ID, li .i64 a1.At.X, li .i64 a1.At.Y, li .i64 a1.F.a0.N, ls a1.F.a0.Text, li .i64 a1.F.a1.N, ls a1.F.a1.Text, li .i64 a1.F.a2.N, ls a1.F.a2.Text, li .i64 a1.F.a3.N, ls a1.F.a3.Text])) :: ((4, some (.cells [li .i64 0, li .u8 0, li .i64 0, li .i64 0, li .i64 0, ls ByteArray.empty, li .i64 0, ls ByteArray.empty, li .i64 0, ls ByteArray.empty, li .i64 0, ls ByteArray.empty])) :: ((6, some (.cells [li .i64 a1.ID, li .u8 i9, li .i64 i2, li .i64 i3, li .i64 i6, ls s7, li .i64 i10, ls s11, li .i64 0, ls ByteArray.empty, li .i64 0, ls ByteArray.empty])) :: [])))) (F19_u12 n a0 a1 i2 i3 i6 s7 i9 i10 s11) (QB 0 (QT Try.prog D (n + 8) pc19_c30 (QF pc19_r 0 F19_e))) := by
    unfold F19_u12
    refine SimL.succ ?_
    refine Sim.seq ?_
    refine Sim.seq ?_
    refine Sim.region [(2, .one (.ptr 2 0)), (3, .one (.ptr 3 0)), (4, .one (.ptr 4 0)), (6, .one (.ptr 6 0)), (7, .one (li .i64 2))] ((2, some (.cells [li .i64 a0.ID, li .i64 a0.At.X, li .i64 a0.At.Y, li .i64 a0.F.a0.N, ls a0.F.a0.Text, li .i64 a0.F.a1.N, ls a0.F.a1.Text, li .i64 a0.F.a2.N, ls a0.F.a2.Text, li .i64 a0.F.a3.N, ls a0.F.a3.Text])) :: ((3, some (.cells [li .i64 a1.ID, li .i64 a1.At.X, li .i64 a1.At.Y, li .i64 a1.F.a0.N, ls a1.F.a0.Text, li .i64 a1.F.a1.N, ls a1.F.a1.Text, li .i64 a1.F.a2.N, ls a1.F.a2.Text, li .i64 a1.F.a3.N, ls a1.F.a3.Text])) :: ((4, some (.cells [li .i64 0, li .u8 0, li .i64 0, li .i64 0, li .i64 0, ls ByteArray.empty, li .i64 0, ls ByteArray.empty, li .i64 0, ls ByteArray.empty, li .i64 0, ls ByteArray.empty])) :: ((6, some (.cells [li .i64 a1.ID, li .u8 i9, li .i64 i2, li .i64 i3, li .i64 i6, ls s7, li .i64 i10, ls s11, li .i64 0, ls ByteArray.empty, li .i64 0, ls ByteArray.empty])) :: [])))) (by kernel_rfl) ?_
    refine SimI.run 2 [(21, .one (lb true)), (20, .one (li .i64 2))] [] (by kernel_rfl) ?_
    refine SimI.done (by kernel_rfl) ?_
    refine SimE.thenN ?_
    refine Sim.condT (by kernel_rfl) ?_
    refine Sim.skip ?_
    refine SimE.thenN ?_
    refine Sim.seq ?_
    refine Sim.block ?_
    refine Sim.seq ?_
    refine Sim.region0 ?_
    refine SimI.run 8 [(31, .agg [li .i64 a1.F.a2.N, ls a1.F.a2.Text]), (30, .one (.ptr 3 7)), (29, .one (.ptr 3 3)), (28, .one (li .i64 2)), (27, .agg [li .i64 a0.F.a2.N, ls a0.F.a2.Text]), (26, .one (.ptr 2 7)), (25, .one (.ptr 2 3)), (24, .one (li .i64 2))] [] (by kernel_rfl) ?_
    refine SimI.step { dst := some 32, op := POp.prim (Prim.bin BinOp.neq 25 false false) [Operand.tmp 27, Operand.tmp 31], guard := none, hints := [(27, Hint.imm), (31, Hint.imm)] } [(32, .one (lb (!(Field.eqb a0.F.a2 a1.F.a2))))] [] (by kernel_rfl) (pOp_eff (by kernel_rfl) (by kernel_rfl) (eff_prim (by kernel_rfl) (Field_eqn a0.F.a2 a1.F.a2 _ _))) ?_
    refine SimI.done (by kernel_rfl) ?_
    refine SimE.thenN ?_
    refine Sim.cond (!(Field.eqb a0.F.a2 a1.F.a2)) (by kernel_rfl) ?_ ?_
    · refine Sim.seq ?_
      refine Sim.region0 ?_
      refine SimI.run 8 [(39, .one (.ptr 6 1)), (38, .one (li .u8 (bitsI .or .u8 i9 (shlI .u8 2 2)))), (37, .one (li .u8 (shlI .u8 2 2))), (36, .one (li .u64 2)), (35, .one (li .i64 2)), (34, .one (li .u8 i9)), (33, .one (.ptr 6 1))] [(6, some (.cells [li .i64 a1.ID, li .u8 (bitsI .or .u8 i9 (shlI .u8 2 2)), li .i64 i2, li .i64 i3, li .i64 i6, ls s7, li .i64 i10, ls s11, li .i64 0, ls ByteArray.empty, li .i64 0, ls ByteArray.empty]))] (by kernel_rfl) ?_
      refine SimI.done (by kernel_rfl) ?_
      refine SimE.thenN ?_
      refine Sim.region0 ?_
      refine SimI.run 8 [(46, .one (.ptr 6 8)), (45, .one (.ptr 6 4)), (44, .agg [li .i64 a1.F.a2.N, ls a1.F.a2.Text]), (43, .one (.ptr 3 7)), (42, .one (.ptr 3 3)), (41, .one (li .i64 2)), (40, .one (li .i64 2))] [(6, some (.cells [li .i64 a1.ID, li .u8 (bitsI .or .u8 i9 (shlI .u8 2 2)), li .i64 i2, li .i64 i3, li .i64 i6, ls s7, li .i64 i10, ls s11, li .i64 a1.F.a2.N, ls a1.F.a2.Text, li .i64 0, ls ByteArray.empty]))] (by kernel_rfl) ?_
      refine SimI.done (by kernel_rfl) ?_
      refine SimE.blockN ?_
      refine SimE.thenN ?_
      refine Sim.region0 ?_
      refine SimI.run 3 [(7, .one (li .i64 3)), (23, .one (li .i64 3)), (22, .one (li .i64 2))] [] (by kernel_rfl) ?_
      refine SimI.done (by kernel_rfl) ?_
      refine SimE.loopN ?_
      refine SimL.pre (ts := [2, 3, 4, 6, 7]) (os := [2, 3, 4, 6]) [(2, .one (.ptr 2 0)), (3, .one (.ptr 3 0)), (4, .one (.ptr 4 0)), (6, .one (.ptr 6 0)), (7, .one (li .i64 3))] ((2, some (.cells [li .i64 a0.ID, li .i64 a0.At.X, li .i64 a0.At.Y, li .i64 a0.F.a0.N, ls a0.F.a0.Text, li .i64 a0.F.a1.N, ls a0.F.a1.Text, li .i64 a0.F.a2.N, ls a0.F.a2.Text, li .i64 a0.F.a3.N, ls a0.F.a3.Text])) :: ((3, some (.cells [li .i64 a1.ID, li .i64 a1.At.X, li .i64 a1.At.Y, li .i64 a1.F.a0.N, ls a1.F.a0.Text, li .i64 a1.F.a1.N, ls a1.F.a1.Text, li .i64 a1.F.a2.N, ls a1.F.a2.Text, li .i64 a1.F.a3.N, ls a1.F.a3.Text])) :: ((4, some (.cells [li .i64 0, li .u8 0, li .i64 0, li .i64 0, li .i64 0, ls ByteArray.empty, li .i64 0, ls ByteArray.empty, li .i64 0, ls ByteArray.empty, li .i64 0, ls ByteArray.empty])) :: ((6, some (.cells [li .i64 a1.ID, li .u8 (bitsI .or .u8 i9 (shlI .u8 2 2)), li .i64 i2, li .i64 i3, li .i64 i6, ls s7, li .i64 i10, ls s11, li .i64 a1.F.a2.N, ls a1.F.a2.Text, li .i64 0, ls ByteArray.empty])) :: [])))) (by kernel_rfl) (by kernel_rfl) (by kernel_rfl) ?_
      exact F19_u16_ok n a0 a1 i2 i3 i6 s7 i10 s11 (bitsI .or .u8 i9 (shlI .u8 2 2)) a1.F.a2.N a1.F.a2.Text
    · refine Sim.skip ?_
      refine SimE.blockN ?_
      refine SimE.thenN ?_
      refine Sim.region0 ?_
      refine SimI.run 3 [(7, .one (li .i64 3)), (23, .one (li .i64 3)), (22, .one (li .i64 2))] [] (by kernel_rfl) ?_
      refine SimI.done (by kernel_rfl) ?_
      refine SimE.loopN ?_
      refine SimL.pre (ts := [2, 3, 4, 6, 7]) (os := [2, 3, 4, 6]) [(2, .one (.ptr 2 0)), (3, .one (.ptr 3 0)), (4, .one (.ptr 4 0)), (6, .one (.ptr 6 0)), (7, .one (li .i64 3))] ((2, some (.cells [li .i64 a0.ID, li .i64 a0.At.X, li .i64 a0.At.Y, li .i64 a0.F.a0.N, ls a0.F.a0.Text, li .i64 a0.F.a1.N, ls a0.F.a1.Text, li .i64 a0.F.a2.N, ls a0.F.a2.Text, li .i64 a0.F.a3.N, ls a0.F.a3.Text])) :: ((3, some (.cells [li .i64 a1.ID, li .i64 a1.At.X, li .i64 a1.At.Y, li .i64 a1.F.a0.N, ls a1.F.a0.Text, li .i64 a1.F.a1.N, ls a1.F.a1.Text, li .i64 a1.F.a2.N, ls a1.F.a2.Text, li .i64 a1.F.a3.N, ls a1.F.a3.Text])) :: ((4, some (.cells [li .i64 0, li .u8 0, li .i64 0, li .i64 0, li .i64 0, ls ByteArray.empty, li .i64 0, ls ByteArray.empty, li .i64 0, ls ByteArray.empty, li .i64 0, ls ByteArray.empty])) :: ((6, some (.cells [li .i64 a1.ID, li .u8 i9, li .i64 i2, li .i64 i3, li .i64 i6, ls s7, li .i64 i10, ls s11, li .i64 0, ls ByteArray.empty, li .i64 0, ls ByteArray.empty])) :: [])))) (by kernel_rfl) (by kernel_rfl) (by kernel_rfl) ?_
      exact F19_u16_ok n a0 a1 i2 i3 i6 s7 i10 s11 i9 0 ByteArray.empty

def F19_u8 (n : Nat) (a0 : Thing) (a1 : Thing) (i2 : Int) (i3 : Int) (i5 : Int) (i6 : Int) (s7 : ByteArray) : Option (Delta × Bool) :=
    if !(Field.eqb a0.F.a1 a1.F.a1) then
      F19_u12 n a0 a1 i2 i3 i6 s7 (bitsI .or .u8 i5 (shlI .u8 2 1)) a1.F.a1.N a1.F.a1.Text
    else
      F19_u12 n a0 a1 i2 i3 i6 s7 i5 0 ByteArray.empty
theorem F19_u8_ok (n : Nat) (a0 : Thing) (a1 : Thing) (i2 : Int) (i3 : Int) (i5 : Int) (i6 : Int) (s7 : ByteArray) : SimL Try.prog D (n + 8) (n + 7) pc19_c24 [(2, .one (.ptr 2 0)), (3, .one (.ptr 3 0)), (4, .one (.ptr 4 0)), (6, .one (.ptr 6 0)), (7, .one (li .i64 1))] ((2, some (.cells [li .i64 a0.ID, li .i64 a0.At.X, li .i64 a0.At.Y, li .i64 a0.F.a0.N, ls a0.F.a0.Text, li .i64 a0.F.a1.N, ls a0.F.a1.Text, li .i64 a0.F.a2.N, ls a0.F.a2.Text, li .i64 a0.F.a3.N, ls a0.F.a3.Text])) :: ((3, some (.cells [li .i64 a1.ID, li .i64 a1.At.X, li .i64 a1.At.Y, li .i64 a1.F.a0.N, ls a1.F.a0.Text, li .i64 a1.F.a1.N, ls a1.F.a1.Text, li .i64 a1.F.a2.N, ls a1.F.a2.Text, li .i64 a1.F.a3.N, ls a1.F.a3.Text])) :: ((4, some (.cells [li .i64 0, li .u8 0, li .i64 0, li .i64 0, li .i64 0, ls ByteArray.empty, li .i64 0, ls ByteArray.empty, li .i64 0, ls ByteArray.empty, li .i64 0, ls ByteArray.empty])) :: ((6, some (.cells [li .i64 a1.ID, li .u8 i5, li .i64 i2, li .i64 i3, li .i64 i6, ls s7, li .i64 0, ls ByteArray.empty, li .i64 0, ls ByteArray.empty, li .i64 0, ls ByteArray.empty])) :: [])))) (F19_u8 n a0 a1 i2 i3 i5 i6 s7) (QB 0 (QT Try.prog D (n + 8) pc19_c30 (QF pc19_r 0 F19_e))) := by
    unfold F19_u8
    refine SimL.succ ?_
    refine Sim.seq ?_
    refine Sim.seq ?_
    refine Sim.region [(2, .one (.ptr 2 0)), (3, .one (.ptr 3 0)), (4, .one (.ptr 4 0)), (6, .one (.ptr 6 0)), (7, .one (li .i64 1))] ((2, some (.cells [li .i64 a0.ID, li .i64 a0.At.X, li .i64 a0.At.Y, li .i64 a0.F.a0.N, ls a0.F.a0.Text, li .i64 a0.F.a1.N, ls a0.F.a1.Text, li .i64 a0.F.a2.N, ls a0.F.a2.Text, li .i64 a0.F.a3.N, ls a0.F.a3.Text])) :: ((3, some (.cells [li .i64 a1.ID, li .i64 a1.At.X, li .i64 a1.At.Y, li .i64 a1.F.a0.N, ls a1.F.a0.Text, li .i64 a1.F.a1.N, ls a1.F.a1.Text, li .i64 a1.F.a2.N, ls a1.F.a2.Text, li .i64 a1.F.a3.N, ls a1.F.a3.Text])) :: ((4, some (.cells [li .i64 0, li .u8 0, li .i64 0, li .i64 0, li .i64 0, ls ByteArray.empty, li .i64 0, ls ByteArray.empty, li .i64 0, ls ByteArray.empty, li .i64 0, ls ByteArray.empty])) :: ((6, some (.cells [li .i64 a1.ID, li .u8 i5, li .i64 i2, li .i64 i3, li .i64 i6, ls s7, li .i64 0, ls ByteArray.empty, li .i64 0, ls ByteArray.empty, li .i64 0, ls ByteArray.empty])) :: [])))) (by kernel_rfl) ?_
    refine SimI.run 2 [(21, .one (lb true)), (20, .one (li .i64 1))] [] (by kernel_rfl) ?_
    refine SimI.done (by kernel_rfl) ?_
    refine SimE.thenN ?_
    refine Sim.condT (by kernel_rfl) ?_
    refine Sim.skip ?_
    refine SimE.thenN ?_
    refine Sim.seq ?_
    refine Sim.block ?_
    refine Sim.seq ?_
    refine Sim.region0 ?_
    refine SimI.run 8 [(31, .agg [li .i64 a1.F.a1.N, ls a1.F.a1.Text]), (30, .one (.ptr 3 5)), (29, .one (.ptr 3 3)), (28, .one (li .i64 1)), (27, .agg [li .i64 a0.F.a1.N, ls a0.F.a1.Text]), (26, .one (.ptr 2 5)), (25, .one (.ptr 2 3)), (24, .one (li .i64 1))] [] (by kernel_rfl) ?_
    refine SimI.step { dst := some 32, op := POp.prim (Prim.bin BinOp.neq 25 false false) [Operand.tmp 27, Operand.tmp 31], guard := none, hints := [(27, Hint.imm), (31, Hint.imm)] } [(32, .one (lb (!(Field.eqb a0.F.a1 a1.F.a1))))] [] (by kernel_rfl) (pOp_eff (by kernel_rfl) (by kernel_rfl) (eff_prim (by kernel_rfl) (Field_eqn a0.F.a1 a1.F.a1 _ _))) ?_
    refine SimI.done (by kernel_rfl) ?_
    refine SimE.thenN ?_
    refine Sim.cond (!(Field.eqb a0.F.a1 a1.F.a1)) (by kernel_rfl) ?_ ?_
    · refine Sim.seq ?_
      refine Sim.region0 ?_
      refine SimI.run 8 [(39, .one (.ptr 6 1)), (38, .one (li .u8 (bitsI .or .u8 i5 (shlI .u8 2 1)))), (37, .one (li .u8 (shlI .u8 2 1))), (36, .one (li .u64 1)), (35, .one (li .i64 1)), (34, .one (li .u8 i5)), (33, .one (.ptr 6 1))] [(6, some (.cells [li .i64 a1.ID, li .u8 (bitsI .or .u8 i5 (shlI .u8 2 1)), li .i64 i2, li .i64 i3, li .i64 i6, ls s7, li .i64 0, ls ByteArray.empty, li .i64 0, ls ByteArray.empty, li .i64 0, ls ByteArray.empty]))] (by kernel_rfl) ?_
      refine SimI.done (by kernel_rfl) ?_
      refine SimE.thenN ?_
      refine Sim.region0 ?_
      refine SimI.run 8 [(46, .one (.ptr 6 6)), (45, .one (.ptr 6 4)), (44, .agg [li .i64 a1.F.a1.N, ls a1.F.a1.Text]), (43, .one (.ptr 3 5)), (42, .one (.ptr 3 3)), (41, .one (li .i64 1)), (40, .one (li .i64 1))] [(6, some (.cells [li .i64 a1.ID, li .u8 (bitsI .or .u8 i5 (shlI .u8 2 1)), li .i64 i2, li .i64 i3, li .i64 i6, ls s7, li .i64 a1.F.a1.N, ls a1.F.a1.Text, li .i64 0, ls ByteArray.empty, li .i64 0, ls ByteArray.empty]))] (by kernel_rfl) ?_
      refine SimI.done (by kernel_rfl) ?_
      refine SimE.blockN ?_
      refine SimE.thenN ?_
      refine Sim.region0 ?_
      refine SimI.run 3 [(7, .one (li .i64 2)), (23, .one (li .i64 2)), (22, .one (li .i64 1))] [] (by kernel_rfl) ?_
      refine SimI.done (by kernel_rfl) ?_
      refine SimE.loopN ?_
      refine SimL.pre (ts := [2, 3, 4, 6, 7]) (os := [2, 3, 4, 6]) [(2, .one (.ptr 2 0)), (3, .one (.ptr 3 0)), (4, .one (.ptr 4 0)), (6, .one (.ptr 6 0)), (7, .one (li .i64 2))] ((2, some (.cells [li .i64 a0.ID, li .i64 a0.At.X, li .i64 a0.At.Y, li .i64 a0.F.a0.N, ls a0.F.a0.Text, li .i64 a0.F.a1.N, ls a0.F.a1.Text, li .i64 a0.F.a2.N, ls a0.F.a2.Text, li .i64 a0.F.a3.N, ls a0.F.a3.Text])) :: ((3, some (.cells [li .i64 a1.ID, li .i64 a1.At.X, li .i64 a1.At.Y, li .i64 a1.F.a0.N, ls a1.F.a0.Text, li .i64 a1.F.a1.N, ls a1.F.a1.Text, li .i64 a1.F.a2.N, ls a1.F.a2.Text, li .i64 a1.F.a3.N, ls a1.F.a3.Text])) :: ((4, some (.cells [li .i64 0, li .u8 0, li .i64 0, li .i64 0, li .i64 0, ls ByteArray.empty, li .i64 0, ls ByteArray.empty, li .i64 0, ls ByteArray.empty, li .i64 0, ls ByteArray.empty])) :: ((6, some (.cells [li .i64 a1.ID, li .u8 (bitsI .or .u8 i5 (shlI .u8 2 1)), li .i64 i2, li .i64 i3, li .i64 i6, ls s7, li .i64 a1.F.a1.N, ls a1.F.a1.Text, li .i64 0, ls ByteArray.empty, li .i64 0, ls ByteArray.empty])) :: [])))) (by kernel_rfl) (by kernel_rfl) (by kernel_rfl) ?_
      exact F19_u12_ok n a0 a1 i2 i3 i6 s7 (bitsI .or .u8 i5 (shlI .u8 2 1)) a1.F.a1.N a1.F.a1.Text
    · refine Sim.skip ?_
      refine SimE.blockN ?_
      refine SimE.thenN ?_
      refine Sim.region0 ?_
      refine SimI.run 3 [(7, .one (li .i64 2)), (23, .one (li .i64 2)), (22, .one (li .i64 1))] [] (by kernel_rfl) ?_
      refine SimI.done (by kernel_rfl) ?_
      refine SimE.loopN ?_
      refine SimL.pre (ts := [2, 3, 4, 6, 7]) (os := [2, 3, 4, 6]) [(2, .one (.ptr 2 0)), (3, .one (.ptr 3 0)), (4, .one (.ptr 4 0)), (6, .one (.ptr 6 0)), (7, .one (li .i64 2))] ((2, some (.cells [li .i64 a0.ID, li .i64 a0.At.X, li .i64 a0.At.Y, li .i64 a0.F.a0.N, ls a0.F.a0.Text, li .i64 a0.F.a1.N, ls a0.F.a1.Text, li .i64 a0.F.a2.N, ls a0.F.a2.Text, li .i64 a0.F.a3.N, ls a0.F.a3.Text])) :: ((3, some (.cells [li .i64 a1.ID, li .i64 a1.At.X, li .i64 a1.At.Y, li .i64 a1.F.a0.N, ls a1.F.a0.Text, li .i64 a1.F.a1.N, ls a1.F.a1.Text, li .i64 a1.F.a2.N, ls a1.F.a2.Text, li .i64 a1.F.a3.N, ls a1.F.a3.Text])) :: ((4, some (.cells [li .i64 0, li .u8 0, li .i64 0, li .i64 0, li .i64 0, ls ByteArray.empty, li .i64 0, ls ByteArray.empty, li .i64 0, ls ByteArray.empty, li .i64 0, ls ByteArray.empty])) :: ((6, some (.cells [li .i64 a1.ID, li .u8 i5, li .i64 i2, li .i64 i3, li .i64 i6, ls s7, li .i64 0, ls ByteArray.empty, li .i64 0, ls ByteArray.empty, li .i64 0, ls ByteArray.empty])) :: [])))) (by kernel_rfl) (by kernel_rfl) (by kernel_rfl) ?_
      exact F19_u12_ok n a0 a1 i2 i3 i6 s7 i5 0 ByteArray.empty

def F19_j4 (n : Nat) (a0 : Thing) (a1 : Thing) (i1 : Int) (i2 : Int) (i3 : Int) : Option (Delta × Bool) :=
    if !(Field.eqb a0.F.a0 a1.F.a0) then
      F19_u8 n a0 a1 i2 i3 (bitsI .or .u8 i1 (shlI .u8 2 0)) a1.F.a0.N a1.F.a0.Text
    else
      F19_u8 n a0 a1 i2 i3 i1 0 ByteArray.empty
theorem F19_j4_ok (n : Nat) (a0 : Thing) (a1 : Thing) (i1 : Int) (i2 : Int) (i3 : Int) : Sim Try.prog D (n + 8) pc19_c31 [(2, .one (.ptr 2 0)), (3, .one (.ptr 3 0)), (4, .one (.ptr 4 0)), (6, .one (.ptr 6 0))] ((2, some (.cells [li .i64 a0.ID, li .i64 a0.At.X, li .i64 a0.At.Y, li .i64 a0.F.a0.N, ls a0.F.a0.Text, li .i64 a0.F.a1.N, ls a0.F.a1.Text, li .i64 a0.F.a2.N, ls a0.F.a2.Text, li .i64 a0.F.a3.N, ls a0.F.a3.Text])) :: ((3, some (.cells [li .i64 a1.ID, li .i64 a1.At.X, li .i64 a1.At.Y, li .i64 a1.F.a0.N, ls a1.F.a0.Text, li .i64 a1.F.a1.N, ls a1.F.a1.Text, li .i64 a1.F.a2.N, ls a1.F.a2.Text, li .i64 a1.F.a3.N, ls a1.F.a3.Text])) :: ((4, some (.cells [li .i64 0, li .u8 0, li .i64 0, li .i64 0, li .i64 0, ls ByteArray.empty, li .i64 0, ls ByteArray.empty, li .i64 0, ls ByteArray.empty, li .i64 0, ls ByteArray.empty])) :: ((6, some (.cells [li .i64 a1.ID, li .u8 i1, li .i64 i2, li .i64 i3, li .i64 0, ls ByteArray.empty, li .i64 0, ls ByteArray.empty, li .i64 0, ls ByteArray.empty, li .i64 0, ls ByteArray.empty])) :: [])))) (F19_j4 n a0 a1 i1 i2 i3) (QF pc19_r 0 F19_e) := by
    unfold F19_j4
    refine Sim.seq ?_
    refine Sim.seq ?_
    refine Sim.region [(2, .one (.ptr 2 0)), (3, .one (.ptr 3 0)), (4, .one (.ptr 4 0)), (6, .one (.ptr 6 0))] ((2, some (.cells [li .i64 a0.ID, li .i64 a0.At.X, li .i64 a0.At.Y, li .i64 a0.F.a0.N, ls a0.F.a0.Text, li .i64 a0.F.a1.N, ls a0.F.a1.Text, li .i64 a0.F.a2.N, ls a0.F.a2.Text, li .i64 a0.F.a3.N, ls a0.F.a3.Text])) :: ((3, some (.cells [li .i64 a1.ID, li .i64 a1.At.X, li .i64 a1.At.Y, li .i64 a1.F.a0.N, ls a1.F.a0.Text, li .i64 a1.F.a1.N, ls a1.F.a1.Text, li .i64 a1.F.a2.N, ls a1.F.a2.Text, li .i64 a1.F.a3.N, ls a1.F.a3.Text])) :: ((4, some (.cells [li .i64 0, li .u8 0, li .i64 0, li .i64 0, li .i64 0, ls ByteArray.empty, li .i64 0, ls ByteArray.empty, li .i64 0, ls ByteArray.empty, li .i64 0, ls ByteArray.empty])) :: ((6, some (.cells [li .i64 a1.ID, li .u8 i1, li .i64 i2, li .i64 i3, li .i64 0, ls ByteArray.empty, li .i64 0, ls ByteArray.empty, li .i64 0, ls ByteArray.empty, li .i64 0, ls ByteArray.empty])) :: [])))) (by kernel_rfl) ?_
    refine SimI.run 1 [(7, .one (li .i64 0))] [] (by kernel_rfl) ?_
    refine SimI.done (by kernel_rfl) ?_
    refine SimE.thenN ?_
    refine Sim.block ?_
    refine Sim.loop ?_
    refine SimL.succ ?_
    refine Sim.seq ?_
    refine Sim.seq ?_
    refine Sim.region [(2, .one (.ptr 2 0)), (3, .one (.ptr 3 0)), (4, .one (.ptr 4 0)), (6, .one (.ptr 6 0)), (7, .one (li .i64 0))] ((2, some (.cells [li .i64 a0.ID, li .i64 a0.At.X, li .i64 a0.At.Y, li .i64 a0.F.a0.N, ls a0.F.a0.Text, li .i64 a0.F.a1.N, ls a0.F.a1.Text, li .i64 a0.F.a2.N, ls a0.F.a2.Text, li .i64 a0.F.a3.N, ls a0.F.a3.Text])) :: ((3, some (.cells [li .i64 a1.ID, li .i64 a1.At.X, li .i64 a1.At.Y, li .i64 a1.F.a0.N, ls a1.F.a0.Text, li .i64 a1.F.a1.N, ls a1.F.a1.Text, li .i64 a1.F.a2.N, ls a1.F.a2.Text, li .i64 a1.F.a3.N, ls a1.F.a3.Text])) :: ((4, some (.cells [li .i64 0, li .u8 0, li .i64 0, li .i64 0, li .i64 0, ls ByteArray.empty, li .i64 0, ls ByteArray.empty, li .i64 0, ls ByteArray.empty, li .i64 0, ls ByteArray.empty])) :: ((6, some (.cells [li .i64 a1.ID, li .u8 i1, li .i64 i2, li .i64 i3, li .i64 0, ls ByteArray.empty, li .i64 0, ls ByteArray.empty, li .i64 0, ls ByteArray.empty, li .i64 0, ls ByteArray.empty])) :: [])))) (by kernel_rfl) ?_
    refine SimI.run 2 [(21, .one (lb true)), (20, .one (li .i64 0))] [] (by kernel_rfl) ?_
    refine SimI.done (by kernel_rfl) ?_
    refine SimE.thenN ?_
    refine Sim.condT (by kernel_rfl) ?_
    refine Sim.skip ?_
    refine SimE.thenN ?_
    refine Sim.seq ?_
    refine Sim.block ?_
    refine Sim.seq ?_
    refine Sim.region0 ?_
    refine SimI.run 8 [(31, .agg [li .i64 a1.F.a0.N, ls a1.F.a0.Text]), (30, .one (.ptr 3 3)), (29, .one (.ptr 3 3)), (28, .one (li .i64 0)), (27, .agg [li .i64 a0.F.a0.N, ls a0.F.a0.Text]), (26, .one (.ptr 2 3)), (25, .one (.ptr 2 3)), (24, .one (li .i64 0))] [] (by kernel_rfl) ?_
    refine SimI.step { dst := some 32, op := POp.prim (Prim.bin BinOp.neq 25 false false) [Operand.tmp 27, Operand.tmp 31], guard := none, hints := [(27, Hint.imm), (31, Hint.imm)] } [(32, .one (lb (!(Field.eqb a0.F.a0 a1.F.a0))))] [] (by kernel_rfl) (pOp_eff (by kernel_rfl) (by kernel_rfl) (eff_prim (by kernel_rfl) (Field_eqn a0.F.a0 a1.F.a0 _ _))) ?_
    refine SimI.done (by kernel_rfl) ?_
    refine SimE.thenN ?_
    refine Sim.cond (!(Field.eqb a0.F.a0 a1.F.a0)) (by kernel_rfl) ?_ ?_
    · refine Sim.seq ?_
      refine Sim.region0 ?_
      refine SimI.run 8 [(39, .one (.ptr 6 1)), (38, .one (li .u8 (bitsI .or .u8 i1 (shlI .u8 2 0)))), (37, .one (li .u8 (shlI .u8 2 0))), (36, .one (li .u64 0)), (35, .one (li .i64 0)), (34, .one (li .u8 i1)), (33, .one (.ptr 6 1))] [(6, some (.cells [li .i64 a1.ID, li .u8 (bitsI .or .u8 i1 (shlI .u8 2 0)), li .i64 i2, li .i64 i3, li .i64 0, ls ByteArray.empty, li .i64 0, ls ByteArray.empty, li .i64 0, ls ByteArray.empty, li .i64 0, ls ByteArray.empty]))] (by kernel_rfl) ?_
      refine SimI.done (by kernel_rfl) ?_
      refine SimE.thenN ?_
      refine Sim.region0 ?_
      refine SimI.run 8 [(46, .one (.ptr 6 4)), (45, .one (.ptr 6 4)), (44, .agg [li .i64 a1.F.a0.N, ls a1.F.a0.Text]), (43, .one (.ptr 3 3)), (42, .one (.ptr 3 3)), (41, .one (li .i64 0)), (40, .one (li .i64 0))] [(6, some (.cells [li .i64 a1.ID, li .u8 (bitsI .or .u8 i1 (shlI .u8 2 0)), li .i64 i2, li .i64 i3, li .i64 a1.F.a0.N, ls a1.F.a0.Text, li .i64 0, ls ByteArray.empty, li .i64 0, ls ByteArray.empty, li .i64 0, ls ByteArray.empty]))] (by kernel_rfl) ?_
      refine SimI.done (by kernel_rfl) ?_
      refine SimE.blockN ?_
      refine SimE.thenN ?_
      refine Sim.region0 ?_
      refine SimI.run 3 [(7, .one (li .i64 1)), (23, .one (li .i64 1)), (22, .one (li .i64 0))] [] (by kernel_rfl) ?_
      refine SimI.done (by kernel_rfl) ?_
      refine SimE.loopN ?_
      refine SimL.pre (ts := [2, 3, 4, 6, 7]) (os := [2, 3, 4, 6]) [(2, .one (.ptr 2 0)), (3, .one (.ptr 3 0)), (4, .one (.ptr 4 0)), (6, .one (.ptr 6 0)), (7, .one (li .i64 1))] ((2, some (.cells [li .i64 a0.ID, li .i64 a0.At.X, li .i64 a0.At.Y, li .i64 a0.F.a0.N, ls a0.F.a0.Text, li .i64 a0.F.a1.N, ls a0.F.a1.Text, li .i64 a0.F.a2.N, ls a0.F.a2.Text, li .i64 a0.F.a3.N, ls a0.F.a3.Text])) :: ((3, some (.cells [li .i64 a1.ID, li .i64 a1.At.X, li .i64 a1.At.Y, li .i64 a1.F.a0.N, ls a1.F.a0.Text, li .i64 a1.F.a1.N, ls a1.F.a1.Text, li .i64 a1.F.a2.N, ls a1.F.a2.Text, li .i64 a1.F.a3.N, ls a1.F.a3.Text])) :: ((4, some (.cells [li .i64 0, li .u8 0, li .i64 0, li .i64 0, li .i64 0, ls ByteArray.empty, li .i64 0, ls ByteArray.empty, li .i64 0, ls ByteArray.empty, li .i64 0, ls ByteArray.empty])) :: ((6, some (.cells [li .i64 a1.ID, li .u8 (bitsI .or .u8 i1 (shlI .u8 2 0)), li .i64 i2, li .i64 i3, li .i64 a1.F.a0.N, ls a1.F.a0.Text, li .i64 0, ls ByteArray.empty, li .i64 0, ls ByteArray.empty, li .i64 0, ls ByteArray.empty])) :: [])))) (by kernel_rfl) (by kernel_rfl) (by kernel_rfl) ?_
      exact F19_u8_ok n a0 a1 i2 i3 (bitsI .or .u8 i1 (shlI .u8 2 0)) a1.F.a0.N a1.F.a0.Text
    · refine Sim.skip ?_
      refine SimE.blockN ?_
      refine SimE.thenN ?_
      refine Sim.region0 ?_
      refine SimI.run 3 [(7, .one (li .i64 1)), (23, .one (li .i64 1)), (22, .one (li .i64 0))] [] (by kernel_rfl) ?_
      refine SimI.done (by kernel_rfl) ?_
      refine SimE.loopN ?_
      refine SimL.pre (ts := [2, 3, 4, 6, 7]) (os := [2, 3, 4, 6]) [(2, .one (.ptr 2 0)), (3, .one (.ptr 3 0)), (4, .one (.ptr 4 0)), (6, .one (.ptr 6 0)), (7, .one (li .i64 1))] ((2, some (.cells [li .i64 a0.ID, li .i64 a0.At.X, li .i64 a0.At.Y, li .i64 a0.F.a0.N, ls a0.F.a0.Text, li .i64 a0.F.a1.N, ls a0.F.a1.Text, li .i64 a0.F.a2.N, ls a0.F.a2.Text, li .i64 a0.F.a3.N, ls a0.F.a3.Text])) :: ((3, some (.cells [li .i64 a1.ID, li .i64 a1.At.X, li .i64 a1.At.Y, li .i64 a1.F.a0.N, ls a1.F.a0.Text, li .i64 a1.F.a1.N, ls a1.F.a1.Text, li .i64 a1.F.a2.N, ls a1.F.a2.Text, li .i64 a1.F.a3.N, ls a1.F.a3.Text])) :: ((4, some (.cells [li .i64 0, li .u8 0, li .i64 0, li .i64 0, li .i64 0, ls ByteArray.empty, li .i64 0, ls ByteArray.empty, li .i64 0, ls ByteArray.empty, li .i64 0, ls ByteArray.empty])) :: ((6, some (.cells [li .i64 a1.ID, li .u8 i1, li .i64 i2, li .i64 i3, li .i64 0, ls ByteArray.empty, li .i64 0, ls ByteArray.empty, li .i64 0, ls ByteArray.empty, li .i64 0, ls ByteArray.empty])) :: [])))) (by kernel_rfl) (by kernel_rfl) (by kernel_rfl) ?_
      exact F19_u8_ok n a0 a1 i2 i3 i1 0 ByteArray.empty

def F19 (n : Nat) (a0 : Thing) (a1 : Thing) : Option (Delta × Bool) :=
  if !(Point.eqb a0.At a1.At) then
    F19_j4 n a0 a1 1 a1.At.X a1.At.Y
  else
    F19_j4 n a0 a1 0 0 0
theorem F19_ok (n : Nat) (a0 : Thing) (a1 : Thing) : ∀ r, F19 n a0 a1 = some r → D 19 [.agg [li .i64 a0.ID, li .i64 a0.At.X, li .i64 a0.At.Y, li .i64 a0.F.a0.N, ls a0.F.a0.Text, li .i64 a0.F.a1.N, ls a0.F.a1.Text, li .i64 a0.F.a2.N, ls a0.F.a2.Text, li .i64 a0.F.a3.N, ls a0.F.a3.Text], .agg [li .i64 a1.ID, li .i64 a1.At.X, li .i64 a1.At.Y, li .i64 a1.F.a0.N, ls a1.F.a0.Text, li .i64 a1.F.a1.N, ls a1.F.a1.Text, li .i64 a1.F.a2.N, ls a1.F.a2.Text, li .i64 a1.F.a3.N, ls a1.F.a3.Text]] [] = some (F19_e r) := by
  refine fn_to (D := D) (n := n + 8) (nt := 51) (rs := pc19_r) (c := pc19_c34) (L := [(0, .agg [li .i64 a0.ID, li .i64 a0.At.X, li .i64 a0.At.Y, li .i64 a0.F.a0.N, ls a0.F.a0.Text, li .i64 a0.F.a1.N, ls a0.F.a1.Text, li .i64 a0.F.a2.N, ls a0.F.a2.Text, li .i64 a0.F.a3.N, ls a0.F.a3.Text]), (1, .agg [li .i64 a1.ID, li .i64 a1.At.X, li .i64 a1.At.Y, li .i64 a1.F.a0.N, ls a1.F.a0.Text, li .i64 a1.F.a1.N, ls a1.F.a1.Text, li .i64 a1.F.a2.N, ls a1.F.a2.Text, li .i64 a1.F.a3.N, ls a1.F.a3.Text])]) (M := []) (k := 0) rfl rfl rfl rfl rfl rfl ?_
  unfold F19
  refine Sim.seq ?_
  refine Sim.region0 ?_
  refine SimI.run 4 [(5, .one (lb false)), (4, .one (.ptr 4 0)), (3, .one (.ptr 3 0)), (2, .one (.ptr 2 0))] [(4, some (.cells [li .i64 0, li .u8 0, li .i64 0, li .i64 0, li .i64 0, ls ByteArray.empty, li .i64 0, ls ByteArray.empty, li .i64 0, ls ByteArray.empty, li .i64 0, ls ByteArray.empty])), (3, some (.cells [li .i64 a1.ID, li .i64 a1.At.X, li .i64 a1.At.Y, li .i64 a1.F.a0.N, ls a1.F.a0.Text, li .i64 a1.F.a1.N, ls a1.F.a1.Text, li .i64 a1.F.a2.N, ls a1.F.a2.Text, li .i64 a1.F.a3.N, ls a1.F.a3.Text])), (2, some (.cells [li .i64 a0.ID, li .i64 a0.At.X, li .i64 a0.At.Y, li .i64 a0.F.a0.N, ls a0.F.a0.Text, li .i64 a0.F.a1.N, ls a0.F.a1.Text, li .i64 a0.F.a2.N, ls a0.F.a2.Text, li .i64 a0.F.a3.N, ls a0.F.a3.Text]))] (by kernel_rfl) ?_
  refine SimI.done (by kernel_rfl) ?_
  refine SimE.thenN ?_
  refine Sim.seq ?_
  refine Sim.region0 ?_
  refine SimI.run 5 [(6, .one (.ptr 6 0)), (10, .agg [li .i64 a1.ID, li .u8 0, li .i64 0, li .i64 0, li .i64 0, ls ByteArray.empty, li .i64 0, ls ByteArray.empty, li .i64 0, ls ByteArray.empty, li .i64 0, ls ByteArray.empty]), (9, .one (li .i64 a1.ID)), (8, .one (.ptr 3 0))] [(6, some (.cells [li .i64 a1.ID, li .u8 0, li .i64 0, li .i64 0, li .i64 0, ls ByteArray.empty, li .i64 0, ls ByteArray.empty, li .i64 0, ls ByteArray.empty, li .i64 0, ls ByteArray.empty])), (6, some (.cells [li .i64 0, li .u8 0, li .i64 0, li .i64 0, li .i64 0, ls ByteArray.empty, li .i64 0, ls ByteArray.empty, li .i64 0, ls ByteArray.empty, li .i64 0, ls ByteArray.empty]))] (by kernel_rfl) ?_
  refine SimI.done (by kernel_rfl) ?_
  refine SimE.thenN ?_
  refine Sim.seq ?_
  refine Sim.seq ?_
  refine Sim.region0 ?_
  refine SimI.run 4 [(14, .agg [li .i64 a1.At.X, li .i64 a1.At.Y]), (13, .one (.ptr 3 1)), (12, .agg [li .i64 a0.At.X, li .i64 a0.At.Y]), (11, .one (.ptr 2 1))] [] (by kernel_rfl) ?_
  refine SimI.step { dst := some 15, op := POp.prim (Prim.bin BinOp.neq 23 false false) [Operand.tmp 12, Operand.tmp 14], guard := none, hints := [] } [(15, .one (lb (!(Point.eqb a0.At a1.At))))] [] (by kernel_rfl) (pOp_eff (by kernel_rfl) (by kernel_rfl) (eff_prim (by kernel_rfl) (Point_eqn a0.At a1.At _ _))) ?_
  refine SimI.done (by kernel_rfl) ?_
  refine SimE.thenN ?_
  refine Sim.cond (!(Point.eqb a0.At a1.At)) (by kernel_rfl) ?_ ?_
  · refine Sim.region0 ?_
    refine SimI.run 6 [(19, .one (.ptr 6 2)), (18, .one (.ptr 6 1)), (17, .agg [li .i64 a1.At.X, li .i64 a1.At.Y]), (16, .one (.ptr 3 1))] [(6, some (.cells [li .i64 a1.ID, li .u8 1, li .i64 a1.At.X, li .i64 a1.At.Y, li .i64 0, ls ByteArray.empty, li .i64 0, ls ByteArray.empty, li .i64 0, ls ByteArray.empty, li .i64 0, ls ByteArray.empty])), (6, some (.cells [li .i64 a1.ID, li .u8 1, li .i64 0, li .i64 0, li .i64 0, ls ByteArray.empty, li .i64 0, ls ByteArray.empty, li .i64 0, ls ByteArray.empty, li .i64 0, ls ByteArray.empty]))] (by kernel_rfl) ?_
    refine SimI.done (by kernel_rfl) ?_
    refine SimE.thenN ?_
    refine Sim.pre (ts := [2, 3, 4, 6]) (os := [2, 3, 4, 6]) [(2, .one (.ptr 2 0)), (3, .one (.ptr 3 0)), (4, .one (.ptr 4 0)), (6, .one (.ptr 6 0))] ((2, some (.cells [li .i64 a0.ID, li .i64 a0.At.X, li .i64 a0.At.Y, li .i64 a0.F.a0.N, ls a0.F.a0.Text, li .i64 a0.F.a1.N, ls a0.F.a1.Text, li .i64 a0.F.a2.N, ls a0.F.a2.Text, li .i64 a0.F.a3.N, ls a0.F.a3.Text])) :: ((3, some (.cells [li .i64 a1.ID, li .i64 a1.At.X, li .i64 a1.At.Y, li .i64 a1.F.a0.N, ls a1.F.a0.Text, li .i64 a1.F.a1.N, ls a1.F.a1.Text, li .i64 a1.F.a2.N, ls a1.F.a2.Text, li .i64 a1.F.a3.N, ls a1.F.a3.Text])) :: ((4, some (.cells [li .i64 0, li .u8 0, li .i64 0, li .i64 0, li .i64 0, ls ByteArray.empty, li .i64 0, ls ByteArray.empty, li .i64 0, ls ByteArray.empty, li .i64 0, ls ByteArray.empty])) :: ((6, some (.cells [li .i64 a1.ID, li .u8 1, li .i64 a1.At.X, li .i64 a1.At.Y, li .i64 0, ls ByteArray.empty, li .i64 0, ls ByteArray.empty, li .i64 0, ls ByteArray.empty, li .i64 0, ls ByteArray.empty])) :: [])))) (by kernel_rfl) (by kernel_rfl) (by kernel_rfl) ?_
    exact F19_j4_ok n a0 a1 1 a1.At.X a1.At.Y
  · refine Sim.skip ?_
    refine SimE.thenN ?_
    refine Sim.pre (ts := [2, 3, 4, 6]) (os := [2, 3, 4, 6]) [(2, .one (.ptr 2 0)), (3, .one (.ptr 3 0)), (4, .one (.ptr 4 0)), (6, .one (.ptr 6 0))] ((2, some (.cells [li .i64 a0.ID, li .i64 a0.At.X, li .i64 a0.At.Y, li .i64 a0.F.a0.N, ls a0.F.a0.Text, li .i64 a0.F.a1.N, ls a0.F.a1.Text, li .i64 a0.F.a2.N, ls a0.F.a2.Text, li .i64 a0.F.a3.N, ls a0.F.a3.Text])) :: ((3, some (.cells [li .i64 a1.ID, li .i64 a1.At.X, li .i64 a1.At.Y, li .i64 a1.F.a0.N, ls a1.F.a0.Text, li .i64 a1.F.a1.N, ls a1.F.a1.Text, li .i64 a1.F.a2.N, ls a1.F.a2.Text, li .i64 a1.F.a3.N, ls a1.F.a3.Text])) :: ((4, some (.cells [li .i64 0, li .u8 0, li .i64 0, li .i64 0, li .i64 0, ls ByteArray.empty, li .i64 0, ls ByteArray.empty, li .i64 0, ls ByteArray.empty, li .i64 0, ls ByteArray.empty])) :: ((6, some (.cells [li .i64 a1.ID, li .u8 0, li .i64 0, li .i64 0, li .i64 0, ls ByteArray.empty, li .i64 0, ls ByteArray.empty, li .i64 0, ls ByteArray.empty, li .i64 0, ls ByteArray.empty])) :: [])))) (by kernel_rfl) (by kernel_rfl) (by kernel_rfl) ?_
    exact F19_j4_ok n a0 a1 0 0 0


end Go.Proofs.Ythmbegagkgdopaa
