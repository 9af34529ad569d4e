/-
  Functions of the program as functions of Lean. No condition.
-/
import Derived.Test.YthmbegagkgdopaaFieldsBackE
namespace Go.Proofs.Ythmbegagkgdopaa
open Go Go.Rx
set_option maxRecDepth 100000
set_option linter.unusedVariables false
set_option linter.unusedSimpArgs false
set_option linter.unnecessarySimpa false
-- 18: vedette/fields.Diff
def F18_e : (Delta × Bool) → PV × List (List Lf) := fun r => (.tup [.agg [li .i64 r.1.ID, li .u8 r.1.Mask, li .i64 r.1.At.X, li .i64 r.1.At.Y, li .i64 r.1.F.a0.N, ls r.1.F.a0.Text, li .i64 r.1.F.a1.N, ls r.1.F.a1.Text, li .i64 r.1.F.a2.N, ls r.1.F.a2.Text, li .i64 r.1.F.a3.N, ls r.1.F.a3.Text], .one (lb r.2)], [])
def F18_u20 (n : Nat) (a1 : Thing) (i2 : Int) (i3 : Int) (i6 : Int) (s7 : ByteArray) (i10 : Int) (s11 : ByteArray) (i14 : Int) (s15 : ByteArray) (i17 : Int) (i18 : Int) (s19 : ByteArray) : Option (Delta × Bool) :=
    some ((Delta.mk a1.ID i17 (Point.mk i2 i3) (A4.mk (Field.mk i6 s7) (Field.mk i10 s11) (Field.mk i14 s15) (Field.mk i18 s19))), i17 != 0)
theorem F18_u20_ok (n : Nat) (a0 : Thing) (a1 : Thing) (i2 : Int) (i3 : Int) (i6 : Int) (s7 : ByteArray) (i10 : Int) (s11 : ByteArray) (i14 : Int) (s15 : ByteArray) (i17 : Int) (i18 : Int) (s19 : ByteArray) : SimL Try.prog D (n + 8) (n + 4) pc18_c26 [(2, .one (.ptr 2 0)), (4, .one (.ptr 4 0)), (6, .one (.ptr 6 0)), (22, .agg [li .i64 a1.F.a0.N, ls a1.F.a0.Text, li .i64 a1.F.a1.N, ls a1.F.a1.Text, li .i64 a1.F.a2.N, ls a1.F.a2.Text, li .i64 a1.F.a3.N, ls a1.F.a3.Text]), (23, .one (li .i64 4))] ((2, some (.cells [li .i64 a0.ID, li .i64 a0.At.X, li .i64 a0.At.Y, li .i64 a0.F.a0.N, ls a0.F.a0.Text, li .i64 a0.F.a1.N, ls a0.F.a1.Text, li .i64 a0.F.a2.N, ls a0.F.a2.Text, li .i64 a0.F.a3.N, ls a0.F.a3.Text])) :: ((4, some (.cells [li .i64 0, li .u8 0, li .i64 0, li .i64 0, li .i64 0, ls ByteArray.empty, li .i64 0, ls ByteArray.empty, li .i64 0, ls ByteArray.empty, li .i64 0, ls ByteArray.empty])) :: ((6, some (.cells [li .i64 a1.ID, li .u8 i17, li .i64 i2, li .i64 i3, li .i64 i6, ls s7, li .i64 i10, ls s11, li .i64 i14, ls s15, li .i64 i18, ls s19])) :: []))) (F18_u20 n a1 i2 i3 i6 s7 i10 s11 i14 s15 i17 i18 s19) (QB 0 (QT Try.prog D (n + 8) pc18_c32 (QF pc18_r 0 F18_e))) := by
    unfold F18_u20
    refine SimL.succ ?_
    refine Sim.seq ?_
    refine Sim.region [(2, .one (.ptr 2 0)), (4, .one (.ptr 4 0)), (6, .one (.ptr 6 0)), (22, .agg [li .i64 a1.F.a0.N, ls a1.F.a0.Text, li .i64 a1.F.a1.N, ls a1.F.a1.Text, li .i64 a1.F.a2.N, ls a1.F.a2.Text, li .i64 a1.F.a3.N, ls a1.F.a3.Text]), (23, .one (li .i64 4))] ((2, some (.cells [li .i64 a0.ID, li .i64 a0.At.X, li .i64 a0.At.Y, li .i64 a0.F.a0.N, ls a0.F.a0.Text, li .i64 a0.F.a1.N, ls a0.F.a1.Text, li .i64 a0.F.a2.N, ls a0.F.a2.Text, li .i64 a0.F.a3.N, ls a0.F.a3.Text])) :: ((4, some (.cells [li .i64 0, li .u8 0, li .i64 0, li .i64 0, li .i64 0, ls ByteArray.empty, li .i64 0, ls ByteArray.empty, li .i64 0, ls ByteArray.empty, li .i64 0, ls ByteArray.empty])) :: ((6, some (.cells [li .i64 a1.ID, li .u8 i17, li .i64 i2, li .i64 i3, li .i64 i6, ls s7, li .i64 i10, ls s11, li .i64 i14, ls s15, li .i64 i18, ls s19])) :: []))) (by kernel_rfl) ?_
    refine SimI.run 1 [(24, .one (lb false))] [] (by kernel_rfl) ?_
    refine SimI.done (by kernel_rfl) ?_
    refine SimE.thenN ?_
    refine Sim.seq ?_
    refine Sim.condF (by kernel_rfl) ?_
    refine Sim.exit ?_
    refine SimE.thenX ?_
    refine SimE.loopX ?_
    refine SimE.blockX ?_
    refine SimE.thenN ?_
    refine Sim.seq ?_
    refine Sim.region0 ?_
    refine SimI.run 6 [(5, .one (lb (i17 != 0))), (47, .one (lb (i17 != 0))), (46, .one (li .u8 i17)), (45, .one (.ptr 6 1)), (44, .agg [li .i64 a1.ID, li .u8 i17, li .i64 i2, li .i64 i3, li .i64 i6, ls s7, li .i64 i10, ls s11, li .i64 i14, ls s15, li .i64 i18, ls s19])] [(4, some (.cells [li .i64 a1.ID, li .u8 i17, li .i64 i2, li .i64 i3, li .i64 i6, ls s7, li .i64 i10, ls s11, li .i64 i14, ls s15, li .i64 i18, ls s19]))] (by kernel_rfl) ?_
    refine SimI.done (by kernel_rfl) ?_
    refine SimE.thenN ?_
    refine Sim.ret ?_
    exact SimE.fin (by kernel_rfl)

def F18_u16 (n : Nat) (a0 : Thing) (a1 : Thing) (i2 : Int) (i3 : Int) (i6 : Int) (s7 : ByteArray) (i10 : Int) (s11 : ByteArray) (i13 : Int) (i14 : Int) (s15 : ByteArray) : Option (Delta × Bool) :=
    if !(Field.eqb a0.F.a3 a1.F.a3) then
      F18_u20 n a1 i2 i3 i6 s7 i10 s11 i14 s15 (bitsI .or .u8 i13 (shlI .u8 2 3)) a1.F.a3.N a1.F.a3.Text
    else
      F18_u20 n a1 i2 i3 i6 s7 i10 s11 i14 s15 i13 0 ByteArray.empty
theorem F18_u16_ok (n : Nat) (a0 : Thing) (a1 : Thing) (i2 : Int) (i3 : Int) (i6 : Int) (s7 : ByteArray) (i10 : Int) (s11 : ByteArray) (i13 : Int) (i14 : Int) (s15 : ByteArray) : SimL Try.prog D (n + 8) (n + 5) pc18_c26 [(2, .one (.ptr 2 0)), (4, .one (.ptr 4 0)), (6, .one (.ptr 6 0)), (22, .agg [li .i64 a1.F.a0.N, ls a1.F.a0.Text, li .i64 a1.F.a1.N, ls a1.F.a1.Text, li .i64 a1.F.a2.N, ls a1.F.a2.Text, li .i64 a1.F.a3.N, ls a1.F.a3.Text]), (23, .one (li .i64 3))] ((2, some (.cells [li .i64 a0.ID, li .i64 a0.At.X, li .i64 a0.At.Y, li .i64 a0.F.a0.N, ls a0.F.a0.Text, li .i64 a0.F.a1.N, ls a0.F.a1.Text, li .i64 a0.F.a2.N, ls a0.F.a2.Text, li .i64 a0.F.a3.N, ls a0.F.a3.Text])) :: ((4, some (.cells [li .i64 0, li .u8 0, li .i64 0, li .i64 0, li .i64 0, ls ByteArray.empty, li .i64 0, ls ByteArray.empty, li .i64 0, ls ByteArray.empty, li .i64 0, ls ByteArray.empty])) :: ((6, some (.cells [li .i64 a1.ID, li .u8 i13, li .i64 i2, li .i64 i3, li .i64 i6, ls s7, li .i64 i10, ls s11, li .i64 i14, ls s15, li .i64 0, ls ByteArray.empty])) :: []))) (F18_u16 n a0 a1 i2 i3 i6 s7 i10 s11 i13 i14 s15) (QB 0 (QT Try.prog D (n + 8) pc18_c32 (QF pc18_r 0 F18_e))) := by
    unfold F18_u16
    refine SimL.succ ?_
    refine Sim.seq ?_
    refine Sim.region [(2, .one (.ptr 2 0)), (4, .one (.ptr 4 0)), (6, .one (.ptr 6 0)), (22, .agg [li .i64 a1.F.a0.N, ls a1.F.a0.Text, li .i64 a1.F.a1.N, ls a1.F.a1.Text, li .i64 a1.F.a2.N, ls a1.F.a2.Text, li .i64 a1.F.a3.N, ls a1.F.a3.Text]), (23, .one (li .i64 3))] ((2, some (.cells [li .i64 a0.ID, li .i64 a0.At.X, li .i64 a0.At.Y, li .i64 a0.F.a0.N, ls a0.F.a0.Text, li .i64 a0.F.a1.N, ls a0.F.a1.Text, li .i64 a0.F.a2.N, ls a0.F.a2.Text, li .i64 a0.F.a3.N, ls a0.F.a3.Text])) :: ((4, some (.cells [li .i64 0, li .u8 0, li .i64 0, li .i64 0, li .i64 0, ls ByteArray.empty, li .i64 0, ls ByteArray.empty, li .i64 0, ls ByteArray.empty, li .i64 0, ls ByteArray.empty])) :: ((6, some (.cells [li .i64 a1.ID, li .u8 i13, li .i64 i2, li .i64 i3, li .i64 i6, ls s7, li .i64 i10, ls s11, li .i64 i14, ls s15, li .i64 0, ls ByteArray.empty])) :: []))) (by kernel_rfl) ?_
    refine SimI.run 1 [(24, .one (lb true))] [] (by kernel_rfl) ?_
    refine SimI.done (by kernel_rfl) ?_
    refine SimE.thenN ?_
    refine Sim.seq ?_
    refine Sim.condT (by kernel_rfl) ?_
    refine Sim.skip ?_
    refine SimE.thenN ?_
    refine Sim.seq ?_
    refine Sim.block ?_
    refine Sim.seq ?_
    refine Sim.region0 ?_
    refine SimI.run 5 [(7, .one (li .i64 3)), (8, .one (.ptr 8 0)), (26, .agg [li .i64 a1.F.a3.N, ls a1.F.a3.Text]), (25, .one (li .i64 3))] [(8, some (.cells [li .i64 a1.F.a3.N, ls a1.F.a3.Text])), (8, some (.cells [li .i64 0, ls ByteArray.empty]))] (by kernel_rfl) ?_
    refine SimI.done (by kernel_rfl) ?_
    refine SimE.thenN ?_
    refine Sim.seq ?_
    refine Sim.region0 ?_
    refine SimI.run 5 [(31, .agg [li .i64 a1.F.a3.N, ls a1.F.a3.Text]), (30, .agg [li .i64 a0.F.a3.N, ls a0.F.a3.Text]), (29, .one (.ptr 2 9)), (28, .one (.ptr 2 3)), (27, .one (li .i64 3))] [] (by kernel_rfl) ?_
    refine SimI.step { dst := some 32, op := POp.prim (Prim.bin BinOp.neq 25 false false) [Operand.tmp 30, Operand.tmp 31], guard := none, hints := [(30, Hint.imm), (31, Hint.imm)] } [(32, .one (lb (!(Field.eqb a0.F.a3 a1.F.a3))))] [] (by kernel_rfl) (pOp_eff (by kernel_rfl) (by kernel_rfl) (eff_prim (by kernel_rfl) (Field_eqn a0.F.a3 a1.F.a3 _ _))) ?_
    refine SimI.done (by kernel_rfl) ?_
    refine SimE.thenN ?_
    refine Sim.cond (!(Field.eqb a0.F.a3 a1.F.a3)) (by kernel_rfl) ?_ ?_
    · refine Sim.seq ?_
      refine Sim.region0 ?_
      refine SimI.run 7 [(38, .one (.ptr 6 1)), (37, .one (li .u8 (bitsI .or .u8 i13 (shlI .u8 2 3)))), (36, .one (li .u8 (shlI .u8 2 3))), (35, .one (li .i64 3)), (34, .one (li .u8 i13)), (33, .one (.ptr 6 1))] [(6, some (.cells [li .i64 a1.ID, li .u8 (bitsI .or .u8 i13 (shlI .u8 2 3)), li .i64 i2, li .i64 i3, li .i64 i6, ls s7, li .i64 i10, ls s11, li .i64 i14, ls s15, li .i64 0, ls ByteArray.empty]))] (by kernel_rfl) ?_
      refine SimI.done (by kernel_rfl) ?_
      refine SimE.thenN ?_
      refine Sim.region0 ?_
      refine SimI.run 5 [(42, .one (.ptr 6 10)), (41, .one (.ptr 6 4)), (40, .agg [li .i64 a1.F.a3.N, ls a1.F.a3.Text]), (39, .one (li .i64 3))] [(6, some (.cells [li .i64 a1.ID, li .u8 (bitsI .or .u8 i13 (shlI .u8 2 3)), li .i64 i2, li .i64 i3, li .i64 i6, ls s7, li .i64 i10, ls s11, li .i64 i14, ls s15, li .i64 a1.F.a3.N, ls a1.F.a3.Text]))] (by kernel_rfl) ?_
      refine SimI.done (by kernel_rfl) ?_
      refine SimE.blockN ?_
      refine SimE.thenN ?_
      refine Sim.region0 ?_
      refine SimI.run 2 [(23, .one (li .i64 4)), (43, .one (li .i64 4))] [] (by kernel_rfl) ?_
      refine SimI.done (by kernel_rfl) ?_
      refine SimE.loopN ?_
      refine SimL.pre (ts := [2, 4, 6, 22, 23]) (os := [2, 3, 4, 6, 8]) [(2, .one (.ptr 2 0)), (4, .one (.ptr 4 0)), (6, .one (.ptr 6 0)), (22, .agg [li .i64 a1.F.a0.N, ls a1.F.a0.Text, li .i64 a1.F.a1.N, ls a1.F.a1.Text, li .i64 a1.F.a2.N, ls a1.F.a2.Text, li .i64 a1.F.a3.N, ls a1.F.a3.Text]), (23, .one (li .i64 4))] ((2, some (.cells [li .i64 a0.ID, li .i64 a0.At.X, li .i64 a0.At.Y, li .i64 a0.F.a0.N, ls a0.F.a0.Text, li .i64 a0.F.a1.N, ls a0.F.a1.Text, li .i64 a0.F.a2.N, ls a0.F.a2.Text, li .i64 a0.F.a3.N, ls a0.F.a3.Text])) :: ((4, some (.cells [li .i64 0, li .u8 0, li .i64 0, li .i64 0, li .i64 0, ls ByteArray.empty, li .i64 0, ls ByteArray.empty, li .i64 0, ls ByteArray.empty, li .i64 0, ls ByteArray.empty])) :: ((6, some (.cells [li .i64 a1.ID, li .u8 (bitsI .or .u8 i13 (shlI .u8 2 3)), li .i64 i2, li .i64 i3, li .i64 i6, ls s7, li .i64 i10, ls s11, li .i64 i14, ls s15, li .i64 a1.F.a3.N, ls a1.F.a3.Text])) :: []))) (by kernel_rfl) (by kernel_rfl) (by kernel_rfl) ?_
      exact F18_u20_ok n a0 a1 i2 i3 i6 s7 i10 s11 i14 s15 (bitsI .or .u8 i13 (shlI .u8 2 3)) a1.F.a3.N a1.F.a3.Text
    · refine Sim.skip ?_
      refine SimE.blockN ?_
      refine SimE.thenN ?_
      refine Sim.region0 ?_
      refine SimI.run 2 [(23, .one (li .i64 4)), (43, .one (li .i64 4))] [] (by kernel_rfl) ?_
      refine SimI.done (by kernel_rfl) ?_
      refine SimE.loopN ?_
      refine SimL.pre (ts := [2, 4, 6, 22, 23]) (os := [2, 3, 4, 6, 8]) [(2, .one (.ptr 2 0)), (4, .one (.ptr 4 0)), (6, .one (.ptr 6 0)), (22, .agg [li .i64 a1.F.a0.N, ls a1.F.a0.Text, li .i64 a1.F.a1.N, ls a1.F.a1.Text, li .i64 a1.F.a2.N, ls a1.F.a2.Text, li .i64 a1.F.a3.N, ls a1.F.a3.Text]), (23, .one (li .i64 4))] ((2, some (.cells [li .i64 a0.ID, li .i64 a0.At.X, li .i64 a0.At.Y, li .i64 a0.F.a0.N, ls a0.F.a0.Text, li .i64 a0.F.a1.N, ls a0.F.a1.Text, li .i64 a0.F.a2.N, ls a0.F.a2.Text, li .i64 a0.F.a3.N, ls a0.F.a3.Text])) :: ((4, some (.cells [li .i64 0, li .u8 0, li .i64 0, li .i64 0, li .i64 0, ls ByteArray.empty, li .i64 0, ls ByteArray.empty, li .i64 0, ls ByteArray.empty, li .i64 0, ls ByteArray.empty])) :: ((6, some (.cells [li .i64 a1.ID, li .u8 i13, li .i64 i2, li .i64 i3, li .i64 i6, ls s7, li .i64 i10, ls s11, li .i64 i14, ls s15, li .i64 0, ls ByteArray.empty])) :: []))) (by kernel_rfl) (by kernel_rfl) (by kernel_rfl) ?_
      exact F18_u20_ok n a0 a1 i2 i3 i6 s7 i10 s11 i14 s15 i13 0 ByteArray.empty

def F18_u12 (n : Nat) (a0 : Thing) (a1 : Thing) (i2 : Int) (i3 : Int) (i6 : Int) (s7 : ByteArray) (i9 : Int) (i10 : Int) (s11 : ByteArray) : Option (Delta × Bool) :=
    if !(Field.eqb a0.F.a2 a1.F.a2) then
      F18_u16 n a0 a1 i2 i3 i6 s7 i10 s11 (bitsI .or .u8 i9 (shlI .u8 2 2)) a1.F.a2.N a1.F.a2.Text
    else
      F18_u16 n a0 a1 i2 i3 i6 s7 i10 s11 i9 0 ByteArray.empty
theorem F18_u12_ok (n : Nat) (a0 : Thing) (a1 : Thing) (i2 : Int) (i3 : Int) (i6 : Int) (s7 : ByteArray) (i9 : Int) (i10 : Int) (s11 : ByteArray) : SimL Try.prog D (n + 8) (n + 6) pc18_c26 [(2, .one (.ptr 2 0)), (4, .one (.ptr 4 0)), (6, .one (.ptr 6 0)), (22, .agg [li .i64 a1.F.a0.N, ls a1.F.a0.Text, li .i64 a1.F.a1.N, ls a1.F.a1.Text, li .i64 a1.F.a2.N, ls a1.F.a2.Text, li .i64 a1.F.a3.N, ls a1.F.a3.Text]), (23, .one (li .i64 2))] ((2, some (.cells [li .i64 a0.ID, li .i64 a0.At.X, li .i64 a0.At.Y, li .i64 a0.F.a0.N, ls a0.F.a0.Text, li .i64 a0.F.a1.N, ls a0.F.a1.Text, li .i64 a0.F.a2.N, ls a0.F.a2.Text, li .i64 a0.F.a3.N, ls a0.F.a3.Text])) :: ((4, some (.cells [li .i64 0, li .u8 0, li .i64 0, li .i64 0, li .i64 0, ls ByteArray.empty, li .i64 0, ls ByteArray.empty, li .i64 0, ls ByteArray.empty, li .i64 0, ls ByteArray.empty])) :: ((6, some (.cells [li .i64 a1.ID, li .u8 i9, li .i64 i2, li .i64 i3, li .i64 i6, ls s7, li .i64 i10, ls s11, li .i64 0, ls ByteArray.empty, li .i64 0, ls ByteArray.empty])) :: []))) (F18_u12 n a0 a1 i2 i3 i6 s7 i9 i10 s11) (QB 0 (QT Try.prog D (n + 8) pc18_c32 (QF pc18_r 0 F18_e))) := by
    unfold F18_u12
    refine SimL.succ ?_
    refine Sim.seq ?_
    refine Sim.region [(2, .one (.ptr 2 0)), (4, .one (.ptr 4 0)), (6, .one (.ptr 6 0)), (22, .agg [li .i64 a1.F.a0.N, ls a1.F.a0.Text, li .i64 a1.F.a1.N, ls a1.F.a1.Text, li .i64 a1.F.a2.N, ls a1.F.a2.Text, li .i64 a1.F.a3.N, ls a1.F.a3.Text]), (23, .one (li .i64 2))] ((2, some (.cells [li .i64 a0.ID, li .i64 a0.At.X, li .i64 a0.At.Y, li .i64 a0.F.a0.N, ls a0.F.a0.Text, li .i64 a0.F.a1.N, ls a0.F.a1.Text, li .i64 a0.F.a2.N, ls a0.F.a2.Text, li .i64 a0.F.a3.N, ls a0.F.a3.Text])) :: ((4, some (.cells [li .i64 0, li .u8 0, li .i64 0, li .i64 0, li .i64 0, ls ByteArray.empty, li .i64 0, ls ByteArray.empty, li .i64 0, ls ByteArray.empty, li .i64 0, ls ByteArray.empty])) :: ((6, some (.cells [li .i64 a1.ID, li .u8 i9, li .i64 i2, li .i64 i3, li .i64 i6, ls s7, li .i64 i10, ls s11, li .i64 0, ls ByteArray.empty, li .i64 0, ls ByteArray.empty])) :: []))) (by kernel_rfl) ?_
    refine SimI.run 1 [(24, .one (lb true))] [] (by kernel_rfl) ?_
    refine SimI.done (by kernel_rfl) ?_
    refine SimE.thenN ?_
    refine Sim.seq ?_
    refine Sim.condT (by kernel_rfl) ?_
    refine Sim.skip ?_
    refine SimE.thenN ?_
    refine Sim.seq ?_
    refine Sim.block ?_
    refine Sim.seq ?_
    refine Sim.region0 ?_
    refine SimI.run 5 [(7, .one (li .i64 2)), (8, .one (.ptr 8 0)), (26, .agg [li .i64 a1.F.a2.N, ls a1.F.a2.Text]), (25, .one (li .i64 2))] [(8, some (.cells [li .i64 a1.F.a2.N, ls a1.F.a2.Text])), (8, some (.cells [li .i64 0, ls ByteArray.empty]))] (by kernel_rfl) ?_
    refine SimI.done (by kernel_rfl) ?_
    refine SimE.thenN ?_
    refine Sim.seq ?_
    refine Sim.region0 ?_
    refine SimI.run 5 [(31, .agg [li .i64 a1.F.a2.N, ls a1.F.a2.Text]), (30, .agg [li .i64 a0.F.a2.N, ls a0.F.a2.Text]), (29, .one (.ptr 2 7)), (28, .one (.ptr 2 3)), (27, .one (li .i64 2))] [] (by kernel_rfl) ?_
    refine SimI.step { dst := some 32, op := POp.prim (Prim.bin BinOp.neq 25 false false) [Operand.tmp 30, Operand.tmp 31], guard := none, hints := [(30, Hint.imm), (31, Hint.imm)] } [(32, .one (lb (!(Field.eqb a0.F.a2 a1.F.a2))))] [] (by kernel_rfl) (pOp_eff (by kernel_rfl) (by kernel_rfl) (eff_prim (by kernel_rfl) (Field_eqn a0.F.a2 a1.F.a2 _ _))) ?_
    refine SimI.done (by kernel_rfl) ?_
    refine SimE.thenN ?_
    refine Sim.cond (!(Field.eqb a0.F.a2 a1.F.a2)) (by kernel_rfl) ?_ ?_
    · refine Sim.seq ?_
      refine Sim.region0 ?_
      refine SimI.run 7 [(38, .one (.ptr 6 1)), (37, .one (li .u8 (bitsI .or .u8 i9 (shlI .u8 2 2)))), (36, .one (li .u8 (shlI .u8 2 2))), (35, .one (li .i64 2)), (34, .one (li .u8 i9)), (33, .one (.ptr 6 1))] [(6, some (.cells [li .i64 a1.ID, li .u8 (bitsI .or .u8 i9 (shlI .u8 2 2)), li .i64 i2, li .i64 i3, li .i64 i6, ls s7, li .i64 i10, ls s11, li .i64 0, ls ByteArray.empty, li .i64 0, ls ByteArray.empty]))] (by kernel_rfl) ?_
      refine SimI.done (by kernel_rfl) ?_
      refine SimE.thenN ?_
      refine Sim.region0 ?_
      refine SimI.run 5 [(42, .one (.ptr 6 8)), (41, .one (.ptr 6 4)), (40, .agg [li .i64 a1.F.a2.N, ls a1.F.a2.Text]), (39, .one (li .i64 2))] [(6, some (.cells [li .i64 a1.ID, li .u8 (bitsI .or .u8 i9 (shlI .u8 2 2)), li .i64 i2, li .i64 i3, li .i64 i6, ls s7, li .i64 i10, ls s11, li .i64 a1.F.a2.N, ls a1.F.a2.Text, li .i64 0, ls ByteArray.empty]))] (by kernel_rfl) ?_
      refine SimI.done (by kernel_rfl) ?_
      refine SimE.blockN ?_
      refine SimE.thenN ?_
      refine Sim.region0 ?_
      refine SimI.run 2 [(23, .one (li .i64 3)), (43, .one (li .i64 3))] [] (by kernel_rfl) ?_
      refine SimI.done (by kernel_rfl) ?_
      refine SimE.loopN ?_
      refine SimL.pre (ts := [2, 4, 6, 22, 23]) (os := [2, 3, 4, 6, 8]) [(2, .one (.ptr 2 0)), (4, .one (.ptr 4 0)), (6, .one (.ptr 6 0)), (22, .agg [li .i64 a1.F.a0.N, ls a1.F.a0.Text, li .i64 a1.F.a1.N, ls a1.F.a1.Text, li .i64 a1.F.a2.N, ls a1.F.a2.Text, li .i64 a1.F.a3.N, ls a1.F.a3.Text]), (23, .one (li .i64 3))] ((2, some (.cells [li .i64 a0.ID, li .i64 a0.At.X, li .i64 a0.At.Y, li .i64 a0.F.a0.N, ls a0.F.a0.Text, li .i64 a0.F.a1.N, ls a0.F.a1.Text, li .i64 a0.F.a2.N, ls a0.F.a2.Text, li .i64 a0.F.a3.N, ls a0.F.a3.Text])) :: ((4, some (.cells [li .i64 0, li .u8 0, li .i64 0, li .i64 0, li .i64 0, ls ByteArray.empty, li .i64 0, ls ByteArray.empty, li .i64 0, ls ByteArray.empty, li .i64 0, ls ByteArray.empty])) :: ((6, some (.cells [li .i64 a1.ID, li .u8 (bitsI .or .u8 i9 (shlI .u8 2 2)), li .i64 i2, li .i64 i3, li .i64 i6, ls s7, li .i64 i10, ls s11, li .i64 a1.F.a2.N, ls a1.F.a2.Text, li .i64 0, ls ByteArray.empty])) :: []))) (by kernel_rfl) (by kernel_rfl) (by kernel_rfl) ?_
      exact F18_u16_ok n a0 a1 i2 i3 i6 s7 i10 s11 (bitsI .or .u8 i9 (shlI .u8 2 2)) a1.F.a2.N a1.F.a2.Text
    · refine Sim.skip ?_
      refine SimE.blockN ?_
      refine SimE.thenN ?_
      refine Sim.region0 ?_
      refine SimI.run 2 [(23, .one (li .i64 3)), (43, .one (li .i64 3))] [] (by kernel_rfl) ?_
      refine SimI.done (by kernel_rfl) ?_
      refine SimE.loopN ?_
      refine SimL.pre (ts := [2, 4, 6, 22, 23]) (os := [2, 3, 4, 6, 8]) [(2, .one (.ptr 2 0)), (4, .one (.ptr 4 0)), (6, .one (.ptr 6 0)), (22, .agg [li .i64 a1.F.a0.N, ls a1.F.a0.Text, li .i64 a1.F.a1.N, ls a1.F.a1.Text, li .i64 a1.F.a2.N, ls a1.F.a2.Text, li .i64 a1.F.a3.N, ls a1.F.a3.Text]), (23, .one (li .i64 3))] ((2, some (.cells [li .i64 a0.ID, li .i64 a0.At.X, li .i64 a0.At.Y, li .i64 a0.F.a0.N, ls a0.F.a0.Text, li .i64 a0.F.a1.N, ls a0.F.a1.Text, li .i64 a0.F.a2.N, ls a0.F.a2.Text, li .i64 a0.F.a3.N, ls a0.F.a3.Text])) :: ((4, some (.cells [li .i64 0, li .u8 0, li .i64 0, li .i64 0, li .i64 0, ls ByteArray.empty, li .i64 0, ls ByteArray.empty, li .i64 0, ls ByteArray.empty, li .i64 0, ls ByteArray.empty])) :: ((6, some (.cells [li .i64 a1.ID, li .u8 i9, li .i64 i2, li .i64 i3, li .i64 i6, ls s7, li .i64 i10, ls s11, li .i64 0, ls ByteArray.empty, li .i64 0, ls ByteArray.empty])) :: []))) (by kernel_rfl) (by kernel_rfl) (by kernel_rfl) ?_
      exact F18_u16_ok n a0 a1 i2 i3 i6 s7 i10 s11 i9 0 ByteArray.empty

def F18_u8 (n : Nat) (a0 : Thing) (a1 : Thing) (i2 : Int) (i3 : Int) (i5 : Int) (i6 : Int) (s7 : ByteArray) : Option (Delta × Bool) :=
    if !(Field.eqb a0.F.a1 a1.F.a1) then
      F18_u12 n a0 a1 i2 i3 i6 s7 (bitsI .or .u8 i5 (shlI .u8 2 1)) a1.F.a1.N a1.F.a1.Text
    else
      F18_u12 n a0 a1 i2 i3 i6 s7 i5 0 ByteArray.empty
theorem F18_u8_ok (n : Nat) (a0 : Thing) (a1 : Thing) (i2 : Int) (i3 : Int) (i5 : Int) (i6 : Int) (s7 : ByteArray) : SimL Try.prog D (n + 8) (n + 7) pc18_c26 [(2, .one (.ptr 2 0)), (4, .one (.ptr 4 0)), (6, .one (.ptr 6 0)), (22, .agg [li .i64 a1.F.a0.N, ls a1.F.a0.Text, li .i64 a1.F.a1.N, ls a1.F.a1.Text, li .i64 a1.F.a2.N, ls a1.F.a2.Text, li .i64 a1.F.a3.N, ls a1.F.a3.Text]), (23, .one (li .i64 1))] ((2, some (.cells [li .i64 a0.ID, li .i64 a0.At.X, li .i64 a0.At.Y, li .i64 a0.F.a0.N, ls a0.F.a0.Text, li .i64 a0.F.a1.N, ls a0.F.a1.Text, li .i64 a0.F.a2.N, ls a0.F.a2.Text, li .i64 a0.F.a3.N, ls a0.F.a3.Text])) :: ((4, some (.cells [li .i64 0, li .u8 0, li .i64 0, li .i64 0, li .i64 0, ls ByteArray.empty, li .i64 0, ls ByteArray.empty, li .i64 0, ls ByteArray.empty, li .i64 0, ls ByteArray.empty])) :: ((6, some (.cells [li .i64 a1.ID, li .u8 i5, li .i64 i2, li .i64 i3, li .i64 i6, ls s7, li .i64 0, ls ByteArray.empty, li .i64 0, ls ByteArray.empty, li .i64 0, ls ByteArray.empty])) :: []))) (F18_u8 n a0 a1 i2 i3 i5 i6 s7) (QB 0 (QT Try.prog D (n + 8) pc18_c32 (QF pc18_r 0 F18_e))) := by
    unfold F18_u8
    refine SimL.succ ?_
    refine Sim.seq ?_
    refine Sim.region [(2, .one (.ptr 2 0)), (4, .one (.ptr 4 0)), (6, .one (.ptr 6 0)), (22, .agg [li .i64 a1.F.a0.N, ls a1.F.a0.Text, li .i64 a1.F.a1.N, ls a1.F.a1.Text, li .i64 a1.F.a2.N, ls a1.F.a2.Text, li .i64 a1.F.a3.N, ls a1.F.a3.Text]), (23, .one (li .i64 1))] ((2, some (.cells [li .i64 a0.ID, li .i64 a0.At.X, li .i64 a0.At.Y, li .i64 a0.F.a0.N, ls a0.F.a0.Text, li .i64 a0.F.a1.N, ls a0.F.a1.Text, li .i64 a0.F.a2.N, ls a0.F.a2.Text, li .i64 a0.F.a3.N, ls a0.F.a3.Text])) :: ((4, some (.cells [li .i64 0, li .u8 0, li .i64 0, li .i64 0, li .i64 0, ls ByteArray.empty, li .i64 0, ls ByteArray.empty, li .i64 0, ls ByteArray.empty, li .i64 0, ls ByteArray.empty])) :: ((6, some (.cells [li .i64 a1.ID, li .u8 i5, li .i64 i2, li .i64 i3, li .i64 i6, ls s7, li .i64 0, ls ByteArray.empty, li .i64 0, ls ByteArray.empty, li .i64 0, ls ByteArray.empty])) :: []))) (by kernel_rfl) ?_
    refine SimI.run 1 [(24, .one (lb true))] [] (by kernel_rfl) ?_
    refine SimI.done (by kernel_rfl) ?_
    refine SimE.thenN ?_
    refine Sim.seq ?_
    refine Sim.condT (by kernel_rfl) ?_
    refine Sim.skip ?_
    refine SimE.thenN ?_
    refine Sim.seq ?_
    refine Sim.block ?_
    refine Sim.seq ?_
    refine Sim.region0 ?_
    refine SimI.run 5 [(7, .one (li .i64 1)), (8, .one (.ptr 8 0)), (26, .agg [li .i64 a1.F.a1.N, ls a1.F.a1.Text]), (25, .one (li .i64 1))] [(8, some (.cells [li .i64 a1.F.a1.N, ls a1.F.a1.Text])), (8, some (.cells [li .i64 0, ls ByteArray.empty]))] (by kernel_rfl) ?_
    refine SimI.done (by kernel_rfl) ?_
    refine SimE.thenN ?_
    refine Sim.seq ?_
    refine Sim.region0 ?_
    refine SimI.run 5 [(31, .agg [li .i64 a1.F.a1.N, ls a1.F.a1.Text]), (30, .agg [li .i64 a0.F.a1.N, ls a0.F.a1.Text]), (29, .one (.ptr 2 5)), (28, .one (.ptr 2 3)), (27, .one (li .i64 1))] [] (by kernel_rfl) ?_
    refine SimI.step { dst := some 32, op := POp.prim (Prim.bin BinOp.neq 25 false false) [Operand.tmp 30, Operand.tmp 31], guard := none, hints := [(30, Hint.imm), (31, Hint.imm)] } [(32, .one (lb (!(Field.eqb a0.F.a1 a1.F.a1))))] [] (by kernel_rfl) (pOp_eff (by kernel_rfl) (by kernel_rfl) (eff_prim (by kernel_rfl) (Field_eqn a0.F.a1 a1.F.a1 _ _))) ?_
    refine SimI.done (by kernel_rfl) ?_
    refine SimE.thenN ?_
    refine Sim.cond (!(Field.eqb a0.F.a1 a1.F.a1)) (by kernel_rfl) ?_ ?_
    · refine Sim.seq ?_
      refine Sim.region0 ?_
      refine SimI.run 7 [(38, .one (.ptr 6 1)), (37, .one (li .u8 (bitsI .or .u8 i5 (shlI .u8 2 1)))), (36, .one (li .u8 (shlI .u8 2 1))), (35, .one (li .i64 1)), (34, .one (li .u8 i5)), (33, .one (.ptr 6 1))] [(6, some (.cells [li .i64 a1.ID, li .u8 (bitsI .or .u8 i5 (shlI .u8 2 1)), li .i64 i2, li .i64 i3, li .i64 i6, ls s7, li .i64 0, ls ByteArray.empty, li .i64 0, ls ByteArray.empty, li .i64 0, ls ByteArray.empty]))] (by kernel_rfl) ?_
      refine SimI.done (by kernel_rfl) ?_
      refine SimE.thenN ?_
      refine Sim.region0 ?_
      refine SimI.run 5 [(42, .one (.ptr 6 6)), (41, .one (.ptr 6 4)), (40, .agg [li .i64 a1.F.a1.N, ls a1.F.a1.Text]), (39, .one (li .i64 1))] [(6, some (.cells [li .i64 a1.ID, li .u8 (bitsI .or .u8 i5 (shlI .u8 2 1)), li .i64 i2, li .i64 i3, li .i64 i6, ls s7, li .i64 a1.F.a1.N, ls a1.F.a1.Text, li .i64 0, ls ByteArray.empty, li .i64 0, ls ByteArray.empty]))] (by kernel_rfl) ?_
      refine SimI.done (by kernel_rfl) ?_
      refine SimE.blockN ?_
      refine SimE.thenN ?_
      refine Sim.region0 ?_
      refine SimI.run 2 [(23, .one (li .i64 2)), (43, .one (li .i64 2))] [] (by kernel_rfl) ?_
      refine SimI.done (by kernel_rfl) ?_
      refine SimE.loopN ?_
      refine SimL.pre (ts := [2, 4, 6, 22, 23]) (os := [2, 3, 4, 6, 8]) [(2, .one (.ptr 2 0)), (4, .one (.ptr 4 0)), (6, .one (.ptr 6 0)), (22, .agg [li .i64 a1.F.a0.N, ls a1.F.a0.Text, li .i64 a1.F.a1.N, ls a1.F.a1.Text, li .i64 a1.F.a2.N, ls a1.F.a2.Text, li .i64 a1.F.a3.N, ls a1.F.a3.Text]), (23, .one (li .i64 2))] ((2, some (.cells [li .i64 a0.ID, li .i64 a0.At.X, li .i64 a0.At.Y, li .i64 a0.F.a0.N, ls a0.F.a0.Text, li .i64 a0.F.a1.N, ls a0.F.a1.Text, li .i64 a0.F.a2.N, ls a0.F.a2.Text, li .i64 a0.F.a3.N, ls a0.F.a3.Text])) :: ((4, some (.cells [li .i64 0, li .u8 0, li .i64 0, li .i64 0, li .i64 0, ls ByteArray.empty, li .i64 0, ls ByteArray.empty, li .i64 0, ls ByteArray.empty, li .i64 0, ls ByteArray.empty])) :: ((6, some (.cells [li .i64 a1.ID, li .u8 (bitsI .or .u8 i5 (shlI .u8 2 1)), li .i64 i2, li .i64 i3, li .i64 i6, ls s7, li .i64 a1.F.a1.N, ls a1.F.a1.Text, li .i64 0, ls ByteArray.empty, li .i64 0, ls ByteArray.empty])) :: []))) (by kernel_rfl) (by kernel_rfl) (by kernel_rfl) ?_
      exact F18_u12_ok n a0 a1 i2 i3 i6 s7 (bitsI .or .u8 i5 (shlI .u8 2 1)) a1.F.a1.N a1.F.a1.Text
    · refine Sim.skip ?_
      refine SimE.blockN ?_
      refine SimE.thenN ?_
      refine Sim.region0 ?_
      refine SimI.run 2 [(23, .one (li .i64 2)), (43, .one (li .i64 2))] [] (by kernel_rfl) ?_
      refine SimI.done (by kernel_rfl) ?_
      refine SimE.loopN ?_
      refine SimL.pre (ts := [2, 4, 6, 22, 23]) (os := [2, 3, 4, 6, 8]) [(2, .one (.ptr 2 0)), (4, .one (.ptr 4 0)), (6, .one (.ptr 6 0)), (22, .agg [li .i64 a1.F.a0.N, ls a1.F.a0.Text, li .i64 a1.F.a1.N, ls a1.F.a1.Text, li .i64 a1.F.a2.N, ls a1.F.a2.Text, li .i64 a1.F.a3.N, ls a1.F.a3.Text]), (23, .one (li .i64 2))] ((2, some (.cells [li .i64 a0.ID, li .i64 a0.At.X, li .i64 a0.At.Y, li .i64 a0.F.a0.N, ls a0.F.a0.Text, li .i64 a0.F.a1.N, ls a0.F.a1.Text, li .i64 a0.F.a2.N, ls a0.F.a2.Text, li .i64 a0.F.a3.N, ls a0.F.a3.Text])) :: ((4, some (.cells [li .i64 0, li .u8 0, li .i64 0, li .i64 0, li .i64 0, ls ByteArray.empty, li .i64 0, ls ByteArray.empty, li .i64 0, ls ByteArray.empty, li .i64 0, ls ByteArray.empty])) :: ((6, some (.cells [li .i64 a1.ID, li .u8 i5, li .i64 i2, li .i64 i3, li .i64 i6, ls s7, li .i64 0, ls ByteArray.empty, li .i64 0, ls ByteArray.empty, li .i64 0, ls ByteArray.empty])) :: []))) (by kernel_rfl) (by kernel_rfl) (by kernel_rfl) ?_
      exact F18_u12_ok n a0 a1 i2 i3 i6 s7 i5 0 ByteArray.empty

def F18_j4 (n : Nat) (a0 : Thing) (a1 : Thing) (i1 : Int) (i2 : Int) (i3 : Int) : Option (Delta × Bool) :=
    if !(Field.eqb a0.F.a0 a1.F.a0) then
      F18_u8 n a0 a1 i2 i3 (bitsI .or .u8 i1 (shlI .u8 2 0)) a1.F.a0.N a1.F.a0.Text
    else
      F18_u8 n a0 a1 i2 i3 i1 0 ByteArray.empty
theorem F18_j4_ok (n : Nat) (a0 : Thing) (a1 : Thing) (i1 : Int) (i2 : Int) (i3 : Int) : Sim Try.prog D (n + 8) pc18_c33 [(2, .one (.ptr 2 0)), (3, .one (.ptr 3 0)), (4, .one (.ptr 4 0)), (6, .one (.ptr 6 0))] ((2, some (.cells [li .i64 a0.ID, li .i64 a0.At.X, li .i64 a0.At.Y, li .i64 a0.F.a0.N, ls a0.F.a0.Text, li .i64 a0.F.a1.N, ls a0.F.a1.Text, li .i64 a0.F.a2.N, ls a0.F.a2.Text, li .i64 a0.F.a3.N, ls a0.F.a3.Text])) :: ((3, some (.cells [li .i64 a1.ID, li .i64 a1.At.X, li .i64 a1.At.Y, li .i64 a1.F.a0.N, ls a1.F.a0.Text, li .i64 a1.F.a1.N, ls a1.F.a1.Text, li .i64 a1.F.a2.N, ls a1.F.a2.Text, li .i64 a1.F.a3.N, ls a1.F.a3.Text])) :: ((4, some (.cells [li .i64 0, li .u8 0, li .i64 0, li .i64 0, li .i64 0, ls ByteArray.empty, li .i64 0, ls ByteArray.empty, li .i64 0, ls ByteArray.empty, li .i64 0, ls ByteArray.empty])) :: ((6, some (.cells [li .i64 a1.ID, li .u8 i1, li .i64 i2, li .i64 i3, li .i64 0, ls ByteArray.empty, li .i64 0, ls ByteArray.empty, li .i64 0, ls ByteArray.empty, li .i64 0, ls ByteArray.empty])) :: [])))) (F18_j4 n a0 a1 i1 i2 i3) (QF pc18_r 0 F18_e) := by
    unfold F18_j4
    refine Sim.seq ?_
    refine Sim.seq ?_
    refine Sim.region [(2, .one (.ptr 2 0)), (3, .one (.ptr 3 0)), (4, .one (.ptr 4 0)), (6, .one (.ptr 6 0))] ((2, some (.cells [li .i64 a0.ID, li .i64 a0.At.X, li .i64 a0.At.Y, li .i64 a0.F.a0.N, ls a0.F.a0.Text, li .i64 a0.F.a1.N, ls a0.F.a1.Text, li .i64 a0.F.a2.N, ls a0.F.a2.Text, li .i64 a0.F.a3.N, ls a0.F.a3.Text])) :: ((3, some (.cells [li .i64 a1.ID, li .i64 a1.At.X, li .i64 a1.At.Y, li .i64 a1.F.a0.N, ls a1.F.a0.Text, li .i64 a1.F.a1.N, ls a1.F.a1.Text, li .i64 a1.F.a2.N, ls a1.F.a2.Text, li .i64 a1.F.a3.N, ls a1.F.a3.Text])) :: ((4, some (.cells [li .i64 0, li .u8 0, li .i64 0, li .i64 0, li .i64 0, ls ByteArray.empty, li .i64 0, ls ByteArray.empty, li .i64 0, ls ByteArray.empty, li .i64 0, ls ByteArray.empty])) :: ((6, some (.cells [li .i64 a1.ID, li .u8 i1, li .i64 i2, li .i64 i3, li .i64 0, ls ByteArray.empty, li .i64 0, ls ByteArray.empty, li .i64 0, ls ByteArray.empty, li .i64 0, ls ByteArray.empty])) :: [])))) (by kernel_rfl) ?_
    refine SimI.run 3 [(23, .one (li .i64 0)), (22, .agg [li .i64 a1.F.a0.N, ls a1.F.a0.Text, li .i64 a1.F.a1.N, ls a1.F.a1.Text, li .i64 a1.F.a2.N, ls a1.F.a2.Text, li .i64 a1.F.a3.N, ls a1.F.a3.Text]), (21, .one (.ptr 3 3))] [] (by kernel_rfl) ?_
    refine SimI.done (by kernel_rfl) ?_
    refine SimE.thenN ?_
    refine Sim.block ?_
    refine Sim.loop ?_
    refine SimL.succ ?_
    refine Sim.seq ?_
    refine Sim.region [(2, .one (.ptr 2 0)), (4, .one (.ptr 4 0)), (6, .one (.ptr 6 0)), (22, .agg [li .i64 a1.F.a0.N, ls a1.F.a0.Text, li .i64 a1.F.a1.N, ls a1.F.a1.Text, li .i64 a1.F.a2.N, ls a1.F.a2.Text, li .i64 a1.F.a3.N, ls a1.F.a3.Text]), (23, .one (li .i64 0))] ((2, some (.cells [li .i64 a0.ID, li .i64 a0.At.X, li .i64 a0.At.Y, li .i64 a0.F.a0.N, ls a0.F.a0.Text, li .i64 a0.F.a1.N, ls a0.F.a1.Text, li .i64 a0.F.a2.N, ls a0.F.a2.Text, li .i64 a0.F.a3.N, ls a0.F.a3.Text])) :: ((4, some (.cells [li .i64 0, li .u8 0, li .i64 0, li .i64 0, li .i64 0, ls ByteArray.empty, li .i64 0, ls ByteArray.empty, li .i64 0, ls ByteArray.empty, li .i64 0, ls ByteArray.empty])) :: ((6, some (.cells [li .i64 a1.ID, li .u8 i1, li .i64 i2, li .i64 i3, li .i64 0, ls ByteArray.empty, li .i64 0, ls ByteArray.empty, li .i64 0, ls ByteArray.empty, li .i64 0, ls ByteArray.empty])) :: []))) (by kernel_rfl) ?_
    refine SimI.run 1 [(24, .one (lb true))] [] (by kernel_rfl) ?_
    refine SimI.done (by kernel_rfl) ?_
    refine SimE.thenN ?_
    refine Sim.seq ?_
    refine Sim.condT (by kernel_rfl) ?_
    refine Sim.skip ?_
    refine SimE.thenN ?_
    refine Sim.seq ?_
    refine Sim.block ?_
    refine Sim.seq ?_
    refine Sim.region0 ?_
    refine SimI.run 5 [(7, .one (li .i64 0)), (8, .one (.ptr 8 0)), (26, .agg [li .i64 a1.F.a0.N, ls a1.F.a0.Text]), (25, .one (li .i64 0))] [(8, some (.cells [li .i64 a1.F.a0.N, ls a1.F.a0.Text])), (8, some (.cells [li .i64 0, ls ByteArray.empty]))] (by kernel_rfl) ?_
    refine SimI.done (by kernel_rfl) ?_
    refine SimE.thenN ?_
    refine Sim.seq ?_
    refine Sim.region0 ?_
    refine SimI.run 5 [(31, .agg [li .i64 a1.F.a0.N, ls a1.F.a0.Text]), (30, .agg [li .i64 a0.F.a0.N, ls a0.F.a0.Text]), (29, .one (.ptr 2 3)), (28, .one (.ptr 2 3)), (27, .one (li .i64 0))] [] (by kernel_rfl) ?_
    refine SimI.step { dst := some 32, op := POp.prim (Prim.bin BinOp.neq 25 false false) [Operand.tmp 30, Operand.tmp 31], guard := none, hints := [(30, Hint.imm), (31, Hint.imm)] } [(32, .one (lb (!(Field.eqb a0.F.a0 a1.F.a0))))] [] (by kernel_rfl) (pOp_eff (by kernel_rfl) (by kernel_rfl) (eff_prim (by kernel_rfl) (Field_eqn a0.F.a0 a1.F.a0 _ _))) ?_
    refine SimI.done (by kernel_rfl) ?_
    refine SimE.thenN ?_
    refine Sim.cond (!(Field.eqb a0.F.a0 a1.F.a0)) (by kernel_rfl) ?_ ?_
    · refine Sim.seq ?_
      refine Sim.region0 ?_
      refine SimI.run 7 [(38, .one (.ptr 6 1)), (37, .one (li .u8 (bitsI .or .u8 i1 (shlI .u8 2 0)))), (36, .one (li .u8 (shlI .u8 2 0))), (35, .one (li .i64 0)), (34, .one (li .u8 i1)), (33, .one (.ptr 6 1))] [(6, some (.cells [li .i64 a1.ID, li .u8 (bitsI .or .u8 i1 (shlI .u8 2 0)), li .i64 i2, li .i64 i3, li .i64 0, ls ByteArray.empty, li .i64 0, ls ByteArray.empty, li .i64 0, ls ByteArray.empty, li .i64 0, ls ByteArray.empty]))] (by kernel_rfl) ?_
      refine SimI.done (by kernel_rfl) ?_
      refine SimE.thenN ?_
      refine Sim.region0 ?_
      refine SimI.run 5 [(42, .one (.ptr 6 4)), (41, .one (.ptr 6 4)), (40, .agg [li .i64 a1.F.a0.N, ls a1.F.a0.Text]), (39, .one (li .i64 0))] [(6, some (.cells [li .i64 a1.ID, li .u8 (bitsI .or .u8 i1 (shlI .u8 2 0)), li .i64 i2, li .i64 i3, li .i64 a1.F.a0.N, ls a1.F.a0.Text, li .i64 0, ls ByteArray.empty, li .i64 0, ls ByteArray.empty, li .i64 0, ls ByteArray.empty]))] (by kernel_rfl) ?_
      refine SimI.done (by kernel_rfl) ?_
      refine SimE.blockN ?_
      refine SimE.thenN ?_
      refine Sim.region0 ?_
      refine SimI.run 2 [(23, .one (li .i64 1)), (43, .one (li .i64 1))] [] (by kernel_rfl) ?_
      refine SimI.done (by kernel_rfl) ?_
      refine SimE.loopN ?_
      refine SimL.pre (ts := [2, 4, 6, 22, 23]) (os := [2, 3, 4, 6, 8]) [(2, .one (.ptr 2 0)), (4, .one (.ptr 4 0)), (6, .one (.ptr 6 0)), (22, .agg [li .i64 a1.F.a0.N, ls a1.F.a0.Text, li .i64 a1.F.a1.N, ls a1.F.a1.Text, li .i64 a1.F.a2.N, ls a1.F.a2.Text, li .i64 a1.F.a3.N, ls a1.F.a3.Text]), (23, .one (li .i64 1))] ((2, some (.cells [li .i64 a0.ID, li .i64 a0.At.X, li .i64 a0.At.Y, li .i64 a0.F.a0.N, ls a0.F.a0.Text, li .i64 a0.F.a1.N, ls a0.F.a1.Text, li .i64 a0.F.a2.N, ls a0.F.a2.Text, li .i64 a0.F.a3.N, ls a0.F.a3.Text])) :: ((4, some (.cells [li .i64 0, li .u8 0, li .i64 0, li .i64 0, li .i64 0, ls ByteArray.empty, li .i64 0, ls ByteArray.empty, li .i64 0, ls ByteArray.empty, li .i64 0, ls ByteArray.empty])) :: ((6, some (.cells [li .i64 a1.ID, li .u8 (bitsI .or .u8 i1 (shlI .u8 2 0)), li .i64 i2, li .i64 i3, li .i64 a1.F.a0.N, ls a1.F.a0.Text, li .i64 0, ls ByteArray.empty, li .i64 0, ls ByteArray.empty, li .i64 0, ls ByteArray.empty])) :: []))) (by kernel_rfl) (by kernel_rfl) (by kernel_rfl) ?_
      exact F18_u8_ok n a0 a1 i2 i3 (bitsI .or .u8 i1 (shlI .u8 2 0)) a1.F.a0.N a1.F.a0.Text
    · refine Sim.skip ?_
      refine SimE.blockN ?_
      refine SimE.thenN ?_
      refine Sim.region0 ?_
      refine SimI.run 2 [(23, .one (li .i64 1)), (43, .one (li .i64 1))] [] (by kernel_rfl) ?_
      refine SimI.done (by kernel_rfl) ?_
      refine SimE.loopN ?_
      refine SimL.pre (ts := [2, 4, 6, 22, 23]) (os := [2, 3, 4, 6, 8]) [(2, .one (.ptr 2 0)), (4, .one (.ptr 4 0)), (6, .one (.ptr 6 0)), (22, .agg [li .i64 a1.F.a0.N, ls a1.F.a0.Text, li .i64 a1.F.a1.N, ls a1.F.a1.Text, li .i64 a1.F.a2.N, ls a1.F.a2.Text, li .i64 a1.F.a3.N, ls a1.F.a3.Text]), (23, .one (li .i64 1))] ((2, some (.cells [li .i64 a0.ID, li .i64 a0.At.X, li .i64 a0.At.Y, li .i64 a0.F.a0.N, ls a0.F.a0.Text, li .i64 a0.F.a1.N, ls a0.F.a1.Text, li .i64 a0.F.a2.N, ls a0.F.a2.Text, li .i64 a0.F.a3.N, ls a0.F.a3.Text])) :: ((4, some (.cells [li .i64 0, li .u8 0, li .i64 0, li .i64 0, li .i64 0, ls ByteArray.empty, li .i64 0, ls ByteArray.empty, li .i64 0, ls ByteArray.empty, li .i64 0, ls ByteArray.empty])) :: ((6, some (.cells [li .i64 a1.ID, li .u8 i1, li .i64 i2, li .i64 i3, li .i64 0, ls ByteArray.empty, li .i64 0, ls ByteArray.empty, li .i64 0, ls ByteArray.empty, li .i64 0, ls ByteArray.empty])) :: []))) (by kernel_rfl) (by kernel_rfl) (by kernel_rfl) ?_
      exact F18_u8_ok n a0 a1 i2 i3 i1 0 ByteArray.empty

def F18 (n : Nat) (a0 : Thing) (a1 : Thing) : Option (Delta × Bool) :=
  if !(Point.eqb a0.At a1.At) then
    F18_j4 n a0 a1 1 a1.At.X a1.At.Y
  else
    F18_j4 n a0 a1 0 0 0
theorem F18_ok (n : Nat) (a0 : Thing) (a1 : Thing) : ∀ r, F18 n a0 a1 = some r → D 18 [.agg [li .i64 a0.ID, li .i64 a0.At.X, li .i64 a0.At.Y, li .i64 a0.F.a0.N, ls a0.F.a0.Text, li .i64 a0.F.a1.N, ls a0.F.a1.Text, li .i64 a0.F.a2.N, ls a0.F.a2.Text, li .i64 a0.F.a3.N, ls a0.F.a3.Text], .agg [li .i64 a1.ID, li .i64 a1.At.X, li .i64 a1.At.Y, li .i64 a1.F.a0.N, ls a1.F.a0.Text, li .i64 a1.F.a1.N, ls a1.F.a1.Text, li .i64 a1.F.a2.N, ls a1.F.a2.Text, li .i64 a1.F.a3.N, ls a1.F.a3.Text]] [] = some (F18_e r) := by
  refine fn_to (D := D) (n := n + 8) (nt := 48) (rs := pc18_r) (c := pc18_c36) (L := [(0, .agg [li .i64 a0.ID, li .i64 a0.At.X, li .i64 a0.At.Y, li .i64 a0.F.a0.N, ls a0.F.a0.Text, li .i64 a0.F.a1.N, ls a0.F.a1.Text, li .i64 a0.F.a2.N, ls a0.F.a2.Text, li .i64 a0.F.a3.N, ls a0.F.a3.Text]), (1, .agg [li .i64 a1.ID, li .i64 a1.At.X, li .i64 a1.At.Y, li .i64 a1.F.a0.N, ls a1.F.a0.Text, li .i64 a1.F.a1.N, ls a1.F.a1.Text, li .i64 a1.F.a2.N, ls a1.F.a2.Text, li .i64 a1.F.a3.N, ls a1.F.a3.Text])]) (M := []) (k := 0) rfl rfl rfl rfl rfl rfl ?_
  unfold F18
  refine Sim.seq ?_
  refine Sim.region0 ?_
  refine SimI.run 4 [(5, .one (lb false)), (4, .one (.ptr 4 0)), (3, .one (.ptr 3 0)), (2, .one (.ptr 2 0))] [(4, some (.cells [li .i64 0, li .u8 0, li .i64 0, li .i64 0, li .i64 0, ls ByteArray.empty, li .i64 0, ls ByteArray.empty, li .i64 0, ls ByteArray.empty, li .i64 0, ls ByteArray.empty])), (3, some (.cells [li .i64 a1.ID, li .i64 a1.At.X, li .i64 a1.At.Y, li .i64 a1.F.a0.N, ls a1.F.a0.Text, li .i64 a1.F.a1.N, ls a1.F.a1.Text, li .i64 a1.F.a2.N, ls a1.F.a2.Text, li .i64 a1.F.a3.N, ls a1.F.a3.Text])), (2, some (.cells [li .i64 a0.ID, li .i64 a0.At.X, li .i64 a0.At.Y, li .i64 a0.F.a0.N, ls a0.F.a0.Text, li .i64 a0.F.a1.N, ls a0.F.a1.Text, li .i64 a0.F.a2.N, ls a0.F.a2.Text, li .i64 a0.F.a3.N, ls a0.F.a3.Text]))] (by kernel_rfl) ?_
  refine SimI.done (by kernel_rfl) ?_
  refine SimE.thenN ?_
  refine Sim.seq ?_
  refine Sim.region0 ?_
  refine SimI.run 5 [(6, .one (.ptr 6 0)), (11, .agg [li .i64 a1.ID, li .u8 0, li .i64 0, li .i64 0, li .i64 0, ls ByteArray.empty, li .i64 0, ls ByteArray.empty, li .i64 0, ls ByteArray.empty, li .i64 0, ls ByteArray.empty]), (10, .one (li .i64 a1.ID)), (9, .one (.ptr 3 0))] [(6, some (.cells [li .i64 a1.ID, li .u8 0, li .i64 0, li .i64 0, li .i64 0, ls ByteArray.empty, li .i64 0, ls ByteArray.empty, li .i64 0, ls ByteArray.empty, li .i64 0, ls ByteArray.empty])), (6, some (.cells [li .i64 0, li .u8 0, li .i64 0, li .i64 0, li .i64 0, ls ByteArray.empty, li .i64 0, ls ByteArray.empty, li .i64 0, ls ByteArray.empty, li .i64 0, ls ByteArray.empty]))] (by kernel_rfl) ?_
  refine SimI.done (by kernel_rfl) ?_
  refine SimE.thenN ?_
  refine Sim.seq ?_
  refine Sim.seq ?_
  refine Sim.region0 ?_
  refine SimI.run 4 [(15, .agg [li .i64 a1.At.X, li .i64 a1.At.Y]), (14, .one (.ptr 3 1)), (13, .agg [li .i64 a0.At.X, li .i64 a0.At.Y]), (12, .one (.ptr 2 1))] [] (by kernel_rfl) ?_
  refine SimI.step { dst := some 16, op := POp.prim (Prim.bin BinOp.neq 23 false false) [Operand.tmp 13, Operand.tmp 15], guard := none, hints := [] } [(16, .one (lb (!(Point.eqb a0.At a1.At))))] [] (by kernel_rfl) (pOp_eff (by kernel_rfl) (by kernel_rfl) (eff_prim (by kernel_rfl) (Point_eqn a0.At a1.At _ _))) ?_
  refine SimI.done (by kernel_rfl) ?_
  refine SimE.thenN ?_
  refine Sim.cond (!(Point.eqb a0.At a1.At)) (by kernel_rfl) ?_ ?_
  · refine Sim.region0 ?_
    refine SimI.run 6 [(20, .one (.ptr 6 2)), (19, .one (.ptr 6 1)), (18, .agg [li .i64 a1.At.X, li .i64 a1.At.Y]), (17, .one (.ptr 3 1))] [(6, some (.cells [li .i64 a1.ID, li .u8 1, li .i64 a1.At.X, li .i64 a1.At.Y, li .i64 0, ls ByteArray.empty, li .i64 0, ls ByteArray.empty, li .i64 0, ls ByteArray.empty, li .i64 0, ls ByteArray.empty])), (6, some (.cells [li .i64 a1.ID, li .u8 1, li .i64 0, li .i64 0, li .i64 0, ls ByteArray.empty, li .i64 0, ls ByteArray.empty, li .i64 0, ls ByteArray.empty, li .i64 0, ls ByteArray.empty]))] (by kernel_rfl) ?_
    refine SimI.done (by kernel_rfl) ?_
    refine SimE.thenN ?_
    refine Sim.pre (ts := [2, 3, 4, 6]) (os := [2, 3, 4, 6]) [(2, .one (.ptr 2 0)), (3, .one (.ptr 3 0)), (4, .one (.ptr 4 0)), (6, .one (.ptr 6 0))] ((2, some (.cells [li .i64 a0.ID, li .i64 a0.At.X, li .i64 a0.At.Y, li .i64 a0.F.a0.N, ls a0.F.a0.Text, li .i64 a0.F.a1.N, ls a0.F.a1.Text, li .i64 a0.F.a2.N, ls a0.F.a2.Text, li .i64 a0.F.a3.N, ls a0.F.a3.Text])) :: ((3, some (.cells [li .i64 a1.ID, li .i64 a1.At.X, li .i64 a1.At.Y, li .i64 a1.F.a0.N, ls a1.F.a0.Text, li .i64 a1.F.a1.N, ls a1.F.a1.Text, li .i64 a1.F.a2.N, ls a1.F.a2.Text, li .i64 a1.F.a3.N, ls a1.F.a3.Text])) :: ((4, some (.cells [li .i64 0, li .u8 0, li .i64 0, li .i64 0, li .i64 0, ls ByteArray.empty, li .i64 0, ls ByteArray.empty, li .i64 0, ls ByteArray.empty, li .i64 0, ls ByteArray.empty])) :: ((6, some (.cells [li .i64 a1.ID, li .u8 1, li .i64 a1.At.X, li .i64 a1.At.Y, li .i64 0, ls ByteArray.empty, li .i64 0, ls ByteArray.empty, li .i64 0, ls ByteArray.empty, li .i64 0, ls ByteArray.empty])) :: [])))) (by kernel_rfl) (by kernel_rfl) (by kernel_rfl) ?_
    exact F18_j4_ok n a0 a1 1 a1.At.X a1.At.Y
  · refine Sim.skip ?_
    refine SimE.thenN ?_
    refine Sim.pre (ts := [2, 3, 4, 6]) (os := [2, 3, 4, 6]) [(2, .one (.ptr 2 0)), (3, .one (.ptr 3 0)), (4, .one (.ptr 4 0)), (6, .one (.ptr 6 0))] ((2, some (.cells [li .i64 a0.ID, li .i64 a0.At.X, li .i64 a0.At.Y, li .i64 a0.F.a0.N, ls a0.F.a0.Text, li .i64 a0.F.a1.N, ls a0.F.a1.Text, li .i64 a0.F.a2.N, ls a0.F.a2.Text, li .i64 a0.F.a3.N, ls a0.F.a3.Text])) :: ((3, some (.cells [li .i64 a1.ID, li .i64 a1.At.X, li .i64 a1.At.Y, li .i64 a1.F.a0.N, ls a1.F.a0.Text, li .i64 a1.F.a1.N, ls a1.F.a1.Text, li .i64 a1.F.a2.N, ls a1.F.a2.Text, li .i64 a1.F.a3.N, ls a1.F.a3.Text])) :: ((4, some (.cells [li .i64 0, li .u8 0, li .i64 0, li .i64 0, li .i64 0, ls ByteArray.empty, li .i64 0, ls ByteArray.empty, li .i64 0, ls ByteArray.empty, li .i64 0, ls ByteArray.empty])) :: ((6, some (.cells [li .i64 a1.ID, li .u8 0, li .i64 0, li .i64 0, li .i64 0, ls ByteArray.empty, li .i64 0, ls ByteArray.empty, li .i64 0, ls ByteArray.empty, li .i64 0, ls ByteArray.empty])) :: [])))) (by kernel_rfl) (by kernel_rfl) (by kernel_rfl) ?_
    exact F18_j4_ok n a0 a1 0 0 0


-- 26: vedette/fields.IsField
def F26_e : Bool → PV × List (List Lf) := fun r => (.one (lb r), [])
def F26 (n : Nat) (a0 : Field) : Option Bool :=
  if a0.N == 0 then
    some (decide ((a0.Text.size : Int) ≤ 12))
  else
    if a0.Text.toList == ByteArray.empty.toList then
      some (decide ((a0.Text.size : Int) ≤ 12))
    else
      some false
theorem F26_ok (n : Nat) (a0 : Field) : ∀ r, F26 n a0 = some r → D 26 [.agg [li .i64 a0.N, ls a0.Text]] [] = some (F26_e r) := by
  refine fn_to (D := D) (n := n + 8) (nt := 17) (rs := pc26_r) (c := pc26_c5) (L := [(0, .agg [li .i64 a0.N, ls a0.Text])]) (M := []) (k := 0) rfl rfl rfl rfl rfl rfl ?_
  unfold F26
  refine Sim.seq ?_
  refine Sim.region0 ?_
  refine SimI.run 2 [(2, .one (lb false)), (1, .one (.ptr 1 0))] [(1, some (.cells [li .i64 a0.N, ls a0.Text]))] (by kernel_rfl) ?_
  refine SimI.done (by kernel_rfl) ?_
  refine SimE.thenN ?_
  refine Sim.seq ?_
  refine Sim.region0 ?_
  refine SimI.run 4 [(6, .one (lb (a0.N == 0))), (5, .one (lb (a0.N == 0))), (4, .one (li .i64 a0.N)), (3, .one (.ptr 1 0))] [] (by kernel_rfl) ?_
  refine SimI.split 6 (a0.N == 0) (by kernel_rfl) ?_ ?_
  · refine SimI.run 11 [(2, .one (lb (decide ((a0.Text.size : Int) ≤ 12)))), (16, .one (lb (decide ((a0.Text.size : Int) ≤ 12)))), (15, .one (lb (decide ((a0.Text.size : Int) ≤ 12)))), (14, .one (li .i64 (a0.Text.size : Int))), (13, .one (ls a0.Text)), (12, .one (.ptr 1 1)), (11, .one (lb true)), (10, .one (lb true)), (9, .tup []), (8, .tup []), (7, .tup [])] [] (by kernel_rfl) ?_
    refine SimI.done (by kernel_rfl) ?_
    refine SimE.thenN ?_
    refine Sim.ret ?_
    exact SimE.fin (by kernel_rfl)
  · refine SimI.run 5 [(11, .one (lb (a0.Text.toList == ByteArray.empty.toList))), (10, .one (lb (a0.Text.toList == ByteArray.empty.toList))), (9, .one (lb (a0.Text.toList == ByteArray.empty.toList))), (8, .one (ls a0.Text)), (7, .one (.ptr 1 1))] [] (by kernel_rfl) ?_
    refine SimI.split 11 (a0.Text.toList == ByteArray.empty.toList) (by kernel_rfl) ?_ ?_
    · refine SimI.run 6 [(2, .one (lb (decide ((a0.Text.size : Int) ≤ 12)))), (16, .one (lb (decide ((a0.Text.size : Int) ≤ 12)))), (15, .one (lb (decide ((a0.Text.size : Int) ≤ 12)))), (14, .one (li .i64 (a0.Text.size : Int))), (13, .one (ls a0.Text)), (12, .one (.ptr 1 1))] [] (by kernel_rfl) ?_
      refine SimI.done (by kernel_rfl) ?_
      refine SimE.thenN ?_
      refine Sim.ret ?_
      exact SimE.fin (by kernel_rfl)
    · refine SimI.run 6 [(2, .one (lb false)), (16, .one (lb false)), (15, .tup []), (14, .tup []), (13, .tup []), (12, .tup [])] [] (by kernel_rfl) ?_
      refine SimI.done (by kernel_rfl) ?_
      refine SimE.thenN ?_
      refine Sim.ret ?_
      exact SimE.fin (by kernel_rfl)


-- 43: vedette/fields.has
def F43_e : Bool → PV × List (List Lf) := fun r => (.one (lb r), [])
def F43 (n : Nat) (a0 : Int) (a1 : Int) : Option Bool :=
  if ¬ (IntKind.wrap .i64 (a1 + 1) < 0) then
    some ((bitsI .and .u8 (shrI .u8 a0 (IntKind.wrap .i64 (a1 + 1))) 1) == 1)
  else none
theorem F43_ok (n : Nat) (a0 : Int) (a1 : Int) : ∀ r, F43 n a0 a1 = some r → D 43 [.one (li .u8 a0), .one (li .i64 a1)] [] = some (F43_e r) := by
  refine fn_to (D := D) (n := n + 8) (nt := 11) (rs := pc43_r) (c := pc43_c5) (L := [(0, .one (li .u8 a0)), (1, .one (li .i64 a1))]) (M := []) (k := 0) rfl rfl rfl rfl rfl rfl ?_
  unfold F43
  refine Sim.seq ?_
  refine Sim.region0 ?_
  refine SimI.run 1 [(4, .one (lb false))] [] (by kernel_rfl) ?_
  refine SimI.done (by kernel_rfl) ?_
  refine SimE.thenN ?_
  refine Sim.seq ?_
  refine Sim.region0 ?_
  refine SimI.run 3 [(7, .one (li .i64 (IntKind.wrap .i64 (a1 + 1)))), (6, .one (li .i64 a1)), (5, .one (li .u8 a0))] [] (by kernel_rfl) ?_
  refine SimI.guard (c := ¬ (IntKind.wrap .i64 (a1 + 1) < 0)) { dst := some 8, op := POp.prim (Prim.bin BinOp.shr 5 false false) [Operand.tmp 5, Operand.tmp 7], guard := none, hints := [] } [(8, .one (li .u8 (shrI .u8 a0 (IntKind.wrap .i64 (a1 + 1)))))] [] (by kernel_rfl) (fun hc => pOp_eff (by kernel_rfl) (by kernel_rfl) (eff_prim (by kernel_rfl) (pr_shr _ _ _ .u8 .i64 a0 (IntKind.wrap .i64 (a1 + 1)) hc))) ?_
  refine SimI.run 3 [(4, .one (lb ((bitsI .and .u8 (shrI .u8 a0 (IntKind.wrap .i64 (a1 + 1))) 1) == 1))), (10, .one (lb ((bitsI .and .u8 (shrI .u8 a0 (IntKind.wrap .i64 (a1 + 1))) 1) == 1))), (9, .one (li .u8 (bitsI .and .u8 (shrI .u8 a0 (IntKind.wrap .i64 (a1 + 1))) 1)))] [] (by kernel_rfl) ?_
  refine SimI.done (by kernel_rfl) ?_
  refine SimE.thenN ?_
  refine Sim.ret ?_
  exact SimE.fin (by kernel_rfl)


-- 50: vedette/geom.On
def F50_e : Bool → PV × List (List Lf) := fun r => (.one (lb r), [])
def F50 (n : Nat) (a0 : Point) : Option Bool :=
  if decide ((0 : Int) ≤ a0.X) then
    if decide (a0.X < 64) then
      if decide ((0 : Int) ≤ a0.Y) then
        some (decide (a0.Y < 64))
      else
        some false
    else
      some false
  else
    some false
theorem F50_ok (n : Nat) (a0 : Point) : ∀ r, F50 n a0 = some r → D 50 [.agg [li .i64 a0.X, li .i64 a0.Y]] [] = some (F50_e r) := by
  refine fn_to (D := D) (n := n + 8) (nt := 21) (rs := pc50_r) (c := pc50_c5) (L := [(0, .agg [li .i64 a0.X, li .i64 a0.Y])]) (M := []) (k := 0) rfl rfl rfl rfl rfl rfl ?_
  unfold F50
  refine Sim.seq ?_
  refine Sim.region0 ?_
  refine SimI.run 2 [(2, .one (lb false)), (1, .one (.ptr 1 0))] [(1, some (.cells [li .i64 a0.X, li .i64 a0.Y]))] (by kernel_rfl) ?_
  refine SimI.done (by kernel_rfl) ?_
  refine SimE.thenN ?_
  refine Sim.seq ?_
  refine Sim.region0 ?_
  refine SimI.run 4 [(6, .one (lb (decide ((0 : Int) ≤ a0.X)))), (5, .one (lb (decide ((0 : Int) ≤ a0.X)))), (4, .one (li .i64 a0.X)), (3, .one (.ptr 1 0))] [] (by kernel_rfl) ?_
  refine SimI.split 6 (decide ((0 : Int) ≤ a0.X)) (by kernel_rfl) ?_ ?_
  · refine SimI.run 5 [(11, .one (lb (decide (a0.X < 64)))), (10, .one (lb (decide (a0.X < 64)))), (9, .one (lb (decide (a0.X < 64)))), (8, .one (li .i64 a0.X)), (7, .one (.ptr 1 0))] [] (by kernel_rfl) ?_
    refine SimI.split 11 (decide (a0.X < 64)) (by kernel_rfl) ?_ ?_
    · refine SimI.run 5 [(16, .one (lb (decide ((0 : Int) ≤ a0.Y)))), (15, .one (lb (decide ((0 : Int) ≤ a0.Y)))), (14, .one (lb (decide ((0 : Int) ≤ a0.Y)))), (13, .one (li .i64 a0.Y)), (12, .one (.ptr 1 1))] [] (by kernel_rfl) ?_
      refine SimI.split 16 (decide ((0 : Int) ≤ a0.Y)) (by kernel_rfl) ?_ ?_
      · refine SimI.run 5 [(2, .one (lb (decide (a0.Y < 64)))), (20, .one (lb (decide (a0.Y < 64)))), (19, .one (lb (decide (a0.Y < 64)))), (18, .one (li .i64 a0.Y)), (17, .one (.ptr 1 1))] [] (by kernel_rfl) ?_
        refine SimI.done (by kernel_rfl) ?_
        refine SimE.thenN ?_
        refine Sim.ret ?_
        exact SimE.fin (by kernel_rfl)
      · refine SimI.run 5 [(2, .one (lb false)), (20, .one (lb false)), (19, .tup []), (18, .tup []), (17, .tup [])] [] (by kernel_rfl) ?_
        refine SimI.done (by kernel_rfl) ?_
        refine SimE.thenN ?_
        refine Sim.ret ?_
        exact SimE.fin (by kernel_rfl)
    · refine SimI.run 10 [(2, .one (lb false)), (20, .one (lb false)), (19, .tup []), (18, .tup []), (17, .tup []), (16, .one (lb false)), (15, .one (lb false)), (14, .tup []), (13, .tup []), (12, .tup [])] [] (by kernel_rfl) ?_
      refine SimI.done (by kernel_rfl) ?_
      refine SimE.thenN ?_
      refine Sim.ret ?_
      exact SimE.fin (by kernel_rfl)
  · refine SimI.run 15 [(2, .one (lb false)), (20, .one (lb false)), (19, .tup []), (18, .tup []), (17, .tup []), (16, .one (lb false)), (15, .one (lb false)), (14, .tup []), (13, .tup []), (12, .tup []), (11, .one (lb false)), (10, .one (lb false)), (9, .tup []), (8, .tup []), (7, .tup [])] [] (by kernel_rfl) ?_
    refine SimI.done (by kernel_rfl) ?_
    refine SimE.thenN ?_
    refine Sim.ret ?_
    exact SimE.fin (by kernel_rfl)


-- 25: vedette/fields.IsDelta
def F25_e : Bool → PV × List (List Lf) := fun r => (.one (lb r), [])
def F25_u15 (n : Nat) : Option Bool :=
    some true
theorem F25_u15_ok (n : Nat) (a0 : Delta) : SimL Try.prog D (n + 8) (n + 4) pc25_c34 [(1, .one (.ptr 1 0)), (40, .agg [li .i64 a0.F.a0.N, ls a0.F.a0.Text, li .i64 a0.F.a1.N, ls a0.F.a1.Text, li .i64 a0.F.a2.N, ls a0.F.a2.Text, li .i64 a0.F.a3.N, ls a0.F.a3.Text]), (41, .one (li .i64 4))] ((1, some (.cells [li .i64 a0.ID, li .u8 a0.Mask, li .i64 a0.At.X, li .i64 a0.At.Y, li .i64 a0.F.a0.N, ls a0.F.a0.Text, li .i64 a0.F.a1.N, ls a0.F.a1.Text, li .i64 a0.F.a2.N, ls a0.F.a2.Text, li .i64 a0.F.a3.N, ls a0.F.a3.Text])) :: []) (F25_u15 n) (QB 0 (QT Try.prog D (n + 8) pc25_c40 (QF pc25_r 0 F25_e))) := by
    unfold F25_u15
    refine SimL.succ ?_
    refine Sim.seq ?_
    refine Sim.region [(1, .one (.ptr 1 0)), (40, .agg [li .i64 a0.F.a0.N, ls a0.F.a0.Text, li .i64 a0.F.a1.N, ls a0.F.a1.Text, li .i64 a0.F.a2.N, ls a0.F.a2.Text, li .i64 a0.F.a3.N, ls a0.F.a3.Text]), (41, .one (li .i64 4))] ((1, some (.cells [li .i64 a0.ID, li .u8 a0.Mask, li .i64 a0.At.X, li .i64 a0.At.Y, li .i64 a0.F.a0.N, ls a0.F.a0.Text, li .i64 a0.F.a1.N, ls a0.F.a1.Text, li .i64 a0.F.a2.N, ls a0.F.a2.Text, li .i64 a0.F.a3.N, ls a0.F.a3.Text])) :: []) (by kernel_rfl) ?_
    refine SimI.run 1 [(42, .one (lb false))] [] (by kernel_rfl) ?_
    refine SimI.done (by kernel_rfl) ?_
    refine SimE.thenN ?_
    refine Sim.seq ?_
    refine Sim.condF (by kernel_rfl) ?_
    refine Sim.exit ?_
    refine SimE.thenX ?_
    refine SimE.loopX ?_
    refine SimE.blockX ?_
    refine SimE.thenN ?_
    refine Sim.seq ?_
    refine Sim.region0 ?_
    refine SimI.run 1 [(2, .one (lb true))] [] (by kernel_rfl) ?_
    refine SimI.done (by kernel_rfl) ?_
    refine SimE.thenN ?_
    refine Sim.ret ?_
    exact SimE.fin (by kernel_rfl)

def F25_u12 (n : Nat) (a0 : Delta) : Option Bool :=
    (F26 n a0.F.a3).bind fun (r13 : Bool) =>
    if !(r13) then
      some false
    else
      (F43 n a0.Mask 3).bind fun (r14 : Bool) =>
      if !(r14) then
        if !(Field.eqb a0.F.a3 (Field.mk 0 ByteArray.empty)) then
          some false
        else
          F25_u15 n
      else
        F25_u15 n
theorem F25_u12_ok (n : Nat) (a0 : Delta) : SimL Try.prog D (n + 8) (n + 5) pc25_c34 [(1, .one (.ptr 1 0)), (40, .agg [li .i64 a0.F.a0.N, ls a0.F.a0.Text, li .i64 a0.F.a1.N, ls a0.F.a1.Text, li .i64 a0.F.a2.N, ls a0.F.a2.Text, li .i64 a0.F.a3.N, ls a0.F.a3.Text]), (41, .one (li .i64 3))] ((1, some (.cells [li .i64 a0.ID, li .u8 a0.Mask, li .i64 a0.At.X, li .i64 a0.At.Y, li .i64 a0.F.a0.N, ls a0.F.a0.Text, li .i64 a0.F.a1.N, ls a0.F.a1.Text, li .i64 a0.F.a2.N, ls a0.F.a2.Text, li .i64 a0.F.a3.N, ls a0.F.a3.Text])) :: []) (F25_u12 n a0) (QB 0 (QT Try.prog D (n + 8) pc25_c40 (QF pc25_r 0 F25_e))) := by
    unfold F25_u12
    refine SimL.succ ?_
    refine Sim.seq ?_
    refine Sim.region [(1, .one (.ptr 1 0)), (40, .agg [li .i64 a0.F.a0.N, ls a0.F.a0.Text, li .i64 a0.F.a1.N, ls a0.F.a1.Text, li .i64 a0.F.a2.N, ls a0.F.a2.Text, li .i64 a0.F.a3.N, ls a0.F.a3.Text]), (41, .one (li .i64 3))] ((1, some (.cells [li .i64 a0.ID, li .u8 a0.Mask, li .i64 a0.At.X, li .i64 a0.At.Y, li .i64 a0.F.a0.N, ls a0.F.a0.Text, li .i64 a0.F.a1.N, ls a0.F.a1.Text, li .i64 a0.F.a2.N, ls a0.F.a2.Text, li .i64 a0.F.a3.N, ls a0.F.a3.Text])) :: []) (by kernel_rfl) ?_
    refine SimI.run 1 [(42, .one (lb true))] [] (by kernel_rfl) ?_
    refine SimI.done (by kernel_rfl) ?_
    refine SimE.thenN ?_
    refine Sim.seq ?_
    refine Sim.condT (by kernel_rfl) ?_
    refine Sim.skip ?_
    refine SimE.thenN ?_
    refine Sim.seq ?_
    refine Sim.block ?_
    refine Sim.seq ?_
    refine Sim.region0 ?_
    refine SimI.run 5 [(3, .one (li .i64 3)), (4, .one (.ptr 4 0)), (44, .agg [li .i64 a0.F.a3.N, ls a0.F.a3.Text]), (43, .one (li .i64 3))] [(4, some (.cells [li .i64 a0.F.a3.N, ls a0.F.a3.Text])), (4, some (.cells [li .i64 0, ls ByteArray.empty]))] (by kernel_rfl) ?_
    refine SimI.done (by kernel_rfl) ?_
    refine SimE.thenN ?_
    refine Sim.seq ?_
    refine Sim.region0 ?_
    refine SimI.run 1 [(45, .agg [li .i64 a0.F.a3.N, ls a0.F.a3.Text])] [] (by kernel_rfl) ?_
    refine SimI.bind (og := F26 n a0.F.a3) { dst := some 46, op := POp.call true [[]] 26 [Operand.tmp 45], guard := none, hints := [] } (fun r13 => [(46, .one (lb r13))]) (fun r13 => []) (by kernel_rfl) (fun r13 hr => pOp_eff (by kernel_rfl) (by kernel_rfl) (eff_call (ARGS := [.agg [li .i64 a0.F.a3.N, ls a0.F.a3.Text]]) (by kernel_rfl) (args_clean (by kernel_rfl) args_nil) (F26_ok n a0.F.a3 r13 hr) (by kernel_rfl))) (fun r13 => ?_)
    refine SimI.run 2 [(48, .one (lb (!(r13)))), (47, .one (lb (!(r13))))] [] (by kernel_rfl) ?_
    refine SimI.split 48 (!(r13)) (by kernel_rfl) ?_ ?_
    · refine SimI.run 11 [(59, .one (lb true)), (58, .tup []), (57, .tup []), (56, .tup []), (55, .tup []), (54, .tup []), (53, .tup []), (52, .tup []), (51, .tup []), (50, .tup []), (49, .tup [])] [] (by kernel_rfl) ?_
      refine SimI.done (by kernel_rfl) ?_
      refine SimE.thenN ?_
      refine Sim.condT (by kernel_rfl) ?_
      refine Sim.seq ?_
      refine Sim.region0 ?_
      refine SimI.run 1 [(2, .one (lb false))] [] (by kernel_rfl) ?_
      refine SimI.done (by kernel_rfl) ?_
      refine SimE.thenN ?_
      refine Sim.ret ?_
      refine SimE.blockR ?_
      refine SimE.thenR ?_
      refine SimE.loopR ?_
      refine SimE.blockR ?_
      refine SimE.thenR ?_
      exact SimE.fin (by kernel_rfl)
    · refine SimI.run 3 [(51, .one (li .i64 3)), (50, .one (li .u8 a0.Mask)), (49, .one (.ptr 1 1))] [] (by kernel_rfl) ?_
      refine SimI.bind (og := F43 n a0.Mask 3) { dst := some 52, op := POp.call true [[], []] 43 [Operand.tmp 50, Operand.tmp 51], guard := some (48, false), hints := [] } (fun r14 => [(52, .one (lb r14))]) (fun r14 => []) (by kernel_rfl) (fun r14 hr => pOp_eff (by kernel_rfl) (by kernel_rfl) (eff_call (ARGS := [.one (li .u8 a0.Mask), .one (li .i64 3)]) (by kernel_rfl) (args_clean (by kernel_rfl) (args_clean (by kernel_rfl) args_nil)) (F43_ok n a0.Mask 3 r14 hr) (by kernel_rfl))) (fun r14 => ?_)
      refine SimI.run 2 [(54, .one (lb (!(r14)))), (53, .one (lb (!(r14))))] [] (by kernel_rfl) ?_
      refine SimI.split 54 (!(r14)) (by kernel_rfl) ?_ ?_
      · refine SimI.run 2 [(56, .agg [li .i64 0, ls ByteArray.empty]), (55, .agg [li .i64 a0.F.a3.N, ls a0.F.a3.Text])] [] (by kernel_rfl) ?_
        refine SimI.step { dst := some 57, op := POp.prim (Prim.bin BinOp.neq 25 false false) [Operand.tmp 55, Operand.tmp 56], guard := some (54, true), hints := [] } [(57, .one (lb (!(Field.eqb a0.F.a3 (Field.mk 0 ByteArray.empty)))))] [] (by kernel_rfl) (pOp_eff (by kernel_rfl) (by kernel_rfl) (eff_prim (by kernel_rfl) (Field_eqn a0.F.a3 (Field.mk 0 ByteArray.empty) _ _))) ?_
        refine SimI.run 2 [(59, .one (lb (!(Field.eqb a0.F.a3 (Field.mk 0 ByteArray.empty))))), (58, .one (lb (!(Field.eqb a0.F.a3 (Field.mk 0 ByteArray.empty)))))] [] (by kernel_rfl) ?_
        refine SimI.done (by kernel_rfl) ?_
        refine SimE.thenN ?_
        refine Sim.cond (!(Field.eqb a0.F.a3 (Field.mk 0 ByteArray.empty))) (by kernel_rfl) ?_ ?_
        · refine Sim.seq ?_
          refine Sim.region0 ?_
          refine SimI.run 1 [(2, .one (lb false))] [] (by kernel_rfl) ?_
          refine SimI.done (by kernel_rfl) ?_
          refine SimE.thenN ?_
          refine Sim.ret ?_
          refine SimE.blockR ?_
          refine SimE.thenR ?_
          refine SimE.loopR ?_
          refine SimE.blockR ?_
          refine SimE.thenR ?_
          exact SimE.fin (by kernel_rfl)
        · refine Sim.skip ?_
          refine SimE.blockN ?_
          refine SimE.thenN ?_
          refine Sim.region0 ?_
          refine SimI.run 2 [(41, .one (li .i64 4)), (60, .one (li .i64 4))] [] (by kernel_rfl) ?_
          refine SimI.done (by kernel_rfl) ?_
          refine SimE.loopN ?_
          refine SimL.pre (ts := [1, 40, 41]) (os := [1, 4]) [(1, .one (.ptr 1 0)), (40, .agg [li .i64 a0.F.a0.N, ls a0.F.a0.Text, li .i64 a0.F.a1.N, ls a0.F.a1.Text, li .i64 a0.F.a2.N, ls a0.F.a2.Text, li .i64 a0.F.a3.N, ls a0.F.a3.Text]), (41, .one (li .i64 4))] ((1, some (.cells [li .i64 a0.ID, li .u8 a0.Mask, li .i64 a0.At.X, li .i64 a0.At.Y, li .i64 a0.F.a0.N, ls a0.F.a0.Text, li .i64 a0.F.a1.N, ls a0.F.a1.Text, li .i64 a0.F.a2.N, ls a0.F.a2.Text, li .i64 a0.F.a3.N, ls a0.F.a3.Text])) :: []) (by kernel_rfl) (by kernel_rfl) (by kernel_rfl) ?_
          exact F25_u15_ok n a0
      · refine SimI.run 5 [(59, .one (lb false)), (58, .one (lb false)), (57, .tup []), (56, .tup []), (55, .tup [])] [] (by kernel_rfl) ?_
        refine SimI.done (by kernel_rfl) ?_
        refine SimE.thenN ?_
        refine Sim.condF (by kernel_rfl) ?_
        refine Sim.skip ?_
        refine SimE.blockN ?_
        refine SimE.thenN ?_
        refine Sim.region0 ?_
        refine SimI.run 2 [(41, .one (li .i64 4)), (60, .one (li .i64 4))] [] (by kernel_rfl) ?_
        refine SimI.done (by kernel_rfl) ?_
        refine SimE.loopN ?_
        refine SimL.pre (ts := [1, 40, 41]) (os := [1, 4]) [(1, .one (.ptr 1 0)), (40, .agg [li .i64 a0.F.a0.N, ls a0.F.a0.Text, li .i64 a0.F.a1.N, ls a0.F.a1.Text, li .i64 a0.F.a2.N, ls a0.F.a2.Text, li .i64 a0.F.a3.N, ls a0.F.a3.Text]), (41, .one (li .i64 4))] ((1, some (.cells [li .i64 a0.ID, li .u8 a0.Mask, li .i64 a0.At.X, li .i64 a0.At.Y, li .i64 a0.F.a0.N, ls a0.F.a0.Text, li .i64 a0.F.a1.N, ls a0.F.a1.Text, li .i64 a0.F.a2.N, ls a0.F.a2.Text, li .i64 a0.F.a3.N, ls a0.F.a3.Text])) :: []) (by kernel_rfl) (by kernel_rfl) (by kernel_rfl) ?_
        exact F25_u15_ok n a0

def F25_u9 (n : Nat) (a0 : Delta) : Option Bool :=
    (F26 n a0.F.a2).bind fun (r10 : Bool) =>
    if !(r10) then
      some false
    else
      (F43 n a0.Mask 2).bind fun (r11 : Bool) =>
      if !(r11) then
        if !(Field.eqb a0.F.a2 (Field.mk 0 ByteArray.empty)) then
          some false
        else
          F25_u12 n a0
      else
        F25_u12 n a0
theorem F25_u9_ok (n : Nat) (a0 : Delta) : SimL Try.prog D (n + 8) (n + 6) pc25_c34 [(1, .one (.ptr 1 0)), (40, .agg [li .i64 a0.F.a0.N, ls a0.F.a0.Text, li .i64 a0.F.a1.N, ls a0.F.a1.Text, li .i64 a0.F.a2.N, ls a0.F.a2.Text, li .i64 a0.F.a3.N, ls a0.F.a3.Text]), (41, .one (li .i64 2))] ((1, some (.cells [li .i64 a0.ID, li .u8 a0.Mask, li .i64 a0.At.X, li .i64 a0.At.Y, li .i64 a0.F.a0.N, ls a0.F.a0.Text, li .i64 a0.F.a1.N, ls a0.F.a1.Text, li .i64 a0.F.a2.N, ls a0.F.a2.Text, li .i64 a0.F.a3.N, ls a0.F.a3.Text])) :: []) (F25_u9 n a0) (QB 0 (QT Try.prog D (n + 8) pc25_c40 (QF pc25_r 0 F25_e))) := by
    unfold F25_u9
    refine SimL.succ ?_
    refine Sim.seq ?_
    refine Sim.region [(1, .one (.ptr 1 0)), (40, .agg [li .i64 a0.F.a0.N, ls a0.F.a0.Text, li .i64 a0.F.a1.N, ls a0.F.a1.Text, li .i64 a0.F.a2.N, ls a0.F.a2.Text, li .i64 a0.F.a3.N, ls a0.F.a3.Text]), (41, .one (li .i64 2))] ((1, some (.cells [li .i64 a0.ID, li .u8 a0.Mask, li .i64 a0.At.X, li .i64 a0.At.Y, li .i64 a0.F.a0.N, ls a0.F.a0.Text, li .i64 a0.F.a1.N, ls a0.F.a1.Text, li .i64 a0.F.a2.N, ls a0.F.a2.Text, li .i64 a0.F.a3.N, ls a0.F.a3.Text])) :: []) (by kernel_rfl) ?_
    refine SimI.run 1 [(42, .one (lb true))] [] (by kernel_rfl) ?_
    refine SimI.done (by kernel_rfl) ?_
    refine SimE.thenN ?_
    refine Sim.seq ?_
    refine Sim.condT (by kernel_rfl) ?_
    refine Sim.skip ?_
    refine SimE.thenN ?_
    refine Sim.seq ?_
    refine Sim.block ?_
    refine Sim.seq ?_
    refine Sim.region0 ?_
    refine SimI.run 5 [(3, .one (li .i64 2)), (4, .one (.ptr 4 0)), (44, .agg [li .i64 a0.F.a2.N, ls a0.F.a2.Text]), (43, .one (li .i64 2))] [(4, some (.cells [li .i64 a0.F.a2.N, ls a0.F.a2.Text])), (4, some (.cells [li .i64 0, ls ByteArray.empty]))] (by kernel_rfl) ?_
    refine SimI.done (by kernel_rfl) ?_
    refine SimE.thenN ?_
    refine Sim.seq ?_
    refine Sim.region0 ?_
    refine SimI.run 1 [(45, .agg [li .i64 a0.F.a2.N, ls a0.F.a2.Text])] [] (by kernel_rfl) ?_
    refine SimI.bind (og := F26 n a0.F.a2) { dst := some 46, op := POp.call true [[]] 26 [Operand.tmp 45], guard := none, hints := [] } (fun r10 => [(46, .one (lb r10))]) (fun r10 => []) (by kernel_rfl) (fun r10 hr => pOp_eff (by kernel_rfl) (by kernel_rfl) (eff_call (ARGS := [.agg [li .i64 a0.F.a2.N, ls a0.F.a2.Text]]) (by kernel_rfl) (args_clean (by kernel_rfl) args_nil) (F26_ok n a0.F.a2 r10 hr) (by kernel_rfl))) (fun r10 => ?_)
    refine SimI.run 2 [(48, .one (lb (!(r10)))), (47, .one (lb (!(r10))))] [] (by kernel_rfl) ?_
    refine SimI.split 48 (!(r10)) (by kernel_rfl) ?_ ?_
    · refine SimI.run 11 [(59, .one (lb true)), (58, .tup []), (57, .tup []), (56, .tup []), (55, .tup []), (54, .tup []), (53, .tup []), (52, .tup []), (51, .tup []), (50, .tup []), (49, .tup [])] [] (by kernel_rfl) ?_
      refine SimI.done (by kernel_rfl) ?_
      refine SimE.thenN ?_
      refine Sim.condT (by kernel_rfl) ?_
      refine Sim.seq ?_
      refine Sim.region0 ?_
      refine SimI.run 1 [(2, .one (lb false))] [] (by kernel_rfl) ?_
      refine SimI.done (by kernel_rfl) ?_
      refine SimE.thenN ?_
      refine Sim.ret ?_
      refine SimE.blockR ?_
      refine SimE.thenR ?_
      refine SimE.loopR ?_
      refine SimE.blockR ?_
      refine SimE.thenR ?_
      exact SimE.fin (by kernel_rfl)
    · refine SimI.run 3 [(51, .one (li .i64 2)), (50, .one (li .u8 a0.Mask)), (49, .one (.ptr 1 1))] [] (by kernel_rfl) ?_
      refine SimI.bind (og := F43 n a0.Mask 2) { dst := some 52, op := POp.call true [[], []] 43 [Operand.tmp 50, Operand.tmp 51], guard := some (48, false), hints := [] } (fun r11 => [(52, .one (lb r11))]) (fun r11 => []) (by kernel_rfl) (fun r11 hr => pOp_eff (by kernel_rfl) (by kernel_rfl) (eff_call (ARGS := [.one (li .u8 a0.Mask), .one (li .i64 2)]) (by kernel_rfl) (args_clean (by kernel_rfl) (args_clean (by kernel_rfl) args_nil)) (F43_ok n a0.Mask 2 r11 hr) (by kernel_rfl))) (fun r11 => ?_)
      refine SimI.run 2 [(54, .one (lb (!(r11)))), (53, .one (lb (!(r11))))] [] (by kernel_rfl) ?_
      refine SimI.split 54 (!(r11)) (by kernel_rfl) ?_ ?_
      · refine SimI.run 2 [(56, .agg [li .i64 0, ls ByteArray.empty]), (55, .agg [li .i64 a0.F.a2.N, ls a0.F.a2.Text])] [] (by kernel_rfl) ?_
        refine SimI.step { dst := some 57, op := POp.prim (Prim.bin BinOp.neq 25 false false) [Operand.tmp 55, Operand.tmp 56], guard := some (54, true), hints := [] } [(57, .one (lb (!(Field.eqb a0.F.a2 (Field.mk 0 ByteArray.empty)))))] [] (by kernel_rfl) (pOp_eff (by kernel_rfl) (by kernel_rfl) (eff_prim (by kernel_rfl) (Field_eqn a0.F.a2 (Field.mk 0 ByteArray.empty) _ _))) ?_
        refine SimI.run 2 [(59, .one (lb (!(Field.eqb a0.F.a2 (Field.mk 0 ByteArray.empty))))), (58, .one (lb (!(Field.eqb a0.F.a2 (Field.mk 0 ByteArray.empty)))))] [] (by kernel_rfl) ?_
        refine SimI.done (by kernel_rfl) ?_
        refine SimE.thenN ?_
        refine Sim.cond (!(Field.eqb a0.F.a2 (Field.mk 0 ByteArray.empty))) (by kernel_rfl) ?_ ?_
        · refine Sim.seq ?_
          refine Sim.region0 ?_
          refine SimI.run 1 [(2, .one (lb false))] [] (by kernel_rfl) ?_
          refine SimI.done (by kernel_rfl) ?_
          refine SimE.thenN ?_
          refine Sim.ret ?_
          refine SimE.blockR ?_
          refine SimE.thenR ?_
          refine SimE.loopR ?_
          refine SimE.blockR ?_
          refine SimE.thenR ?_
          exact SimE.fin (by kernel_rfl)
        · refine Sim.skip ?_
          refine SimE.blockN ?_
          refine SimE.thenN ?_
          refine Sim.region0 ?_
          refine SimI.run 2 [(41, .one (li .i64 3)), (60, .one (li .i64 3))] [] (by kernel_rfl) ?_
          refine SimI.done (by kernel_rfl) ?_
          refine SimE.loopN ?_
          refine SimL.pre (ts := [1, 40, 41]) (os := [1, 4]) [(1, .one (.ptr 1 0)), (40, .agg [li .i64 a0.F.a0.N, ls a0.F.a0.Text, li .i64 a0.F.a1.N, ls a0.F.a1.Text, li .i64 a0.F.a2.N, ls a0.F.a2.Text, li .i64 a0.F.a3.N, ls a0.F.a3.Text]), (41, .one (li .i64 3))] ((1, some (.cells [li .i64 a0.ID, li .u8 a0.Mask, li .i64 a0.At.X, li .i64 a0.At.Y, li .i64 a0.F.a0.N, ls a0.F.a0.Text, li .i64 a0.F.a1.N, ls a0.F.a1.Text, li .i64 a0.F.a2.N, ls a0.F.a2.Text, li .i64 a0.F.a3.N, ls a0.F.a3.Text])) :: []) (by kernel_rfl) (by kernel_rfl) (by kernel_rfl) ?_
          exact F25_u12_ok n a0
      · refine SimI.run 5 [(59, .one (lb false)), (58, .one (lb false)), (57, .tup []), (56, .tup []), (55, .tup [])] [] (by kernel_rfl) ?_
        refine SimI.done (by kernel_rfl) ?_
        refine SimE.thenN ?_
        refine Sim.condF (by kernel_rfl) ?_
        refine Sim.skip ?_
        refine SimE.blockN ?_
        refine SimE.thenN ?_
        refine Sim.region0 ?_
        refine SimI.run 2 [(41, .one (li .i64 3)), (60, .one (li .i64 3))] [] (by kernel_rfl) ?_
        refine SimI.done (by kernel_rfl) ?_
        refine SimE.loopN ?_
        refine SimL.pre (ts := [1, 40, 41]) (os := [1, 4]) [(1, .one (.ptr 1 0)), (40, .agg [li .i64 a0.F.a0.N, ls a0.F.a0.Text, li .i64 a0.F.a1.N, ls a0.F.a1.Text, li .i64 a0.F.a2.N, ls a0.F.a2.Text, li .i64 a0.F.a3.N, ls a0.F.a3.Text]), (41, .one (li .i64 3))] ((1, some (.cells [li .i64 a0.ID, li .u8 a0.Mask, li .i64 a0.At.X, li .i64 a0.At.Y, li .i64 a0.F.a0.N, ls a0.F.a0.Text, li .i64 a0.F.a1.N, ls a0.F.a1.Text, li .i64 a0.F.a2.N, ls a0.F.a2.Text, li .i64 a0.F.a3.N, ls a0.F.a3.Text])) :: []) (by kernel_rfl) (by kernel_rfl) (by kernel_rfl) ?_
        exact F25_u12_ok n a0

def F25_u6 (n : Nat) (a0 : Delta) : Option Bool :=
    (F26 n a0.F.a1).bind fun (r7 : Bool) =>
    if !(r7) then
      some false
    else
      (F43 n a0.Mask 1).bind fun (r8 : Bool) =>
      if !(r8) then
        if !(Field.eqb a0.F.a1 (Field.mk 0 ByteArray.empty)) then
          some false
        else
          F25_u9 n a0
      else
        F25_u9 n a0
theorem F25_u6_ok (n : Nat) (a0 : Delta) : SimL Try.prog D (n + 8) (n + 7) pc25_c34 [(1, .one (.ptr 1 0)), (40, .agg [li .i64 a0.F.a0.N, ls a0.F.a0.Text, li .i64 a0.F.a1.N, ls a0.F.a1.Text, li .i64 a0.F.a2.N, ls a0.F.a2.Text, li .i64 a0.F.a3.N, ls a0.F.a3.Text]), (41, .one (li .i64 1))] ((1, some (.cells [li .i64 a0.ID, li .u8 a0.Mask, li .i64 a0.At.X, li .i64 a0.At.Y, li .i64 a0.F.a0.N, ls a0.F.a0.Text, li .i64 a0.F.a1.N, ls a0.F.a1.Text, li .i64 a0.F.a2.N, ls a0.F.a2.Text, li .i64 a0.F.a3.N, ls a0.F.a3.Text])) :: []) (F25_u6 n a0) (QB 0 (QT Try.prog D (n + 8) pc25_c40 (QF pc25_r 0 F25_e))) := by
    unfold F25_u6
    refine SimL.succ ?_
    refine Sim.seq ?_
    refine Sim.region [(1, .one (.ptr 1 0)), (40, .agg [li .i64 a0.F.a0.N, ls a0.F.a0.Text, li .i64 a0.F.a1.N, ls a0.F.a1.Text, li .i64 a0.F.a2.N, ls a0.F.a2.Text, li .i64 a0.F.a3.N, ls a0.F.a3.Text]), (41, .one (li .i64 1))] ((1, some (.cells [li .i64 a0.ID, li .u8 a0.Mask, li .i64 a0.At.X, li .i64 a0.At.Y, li .i64 a0.F.a0.N, ls a0.F.a0.Text, li .i64 a0.F.a1.N, ls a0.F.a1.Text, li .i64 a0.F.a2.N, ls a0.F.a2.Text, li .i64 a0.F.a3.N, ls a0.F.a3.Text])) :: []) (by kernel_rfl) ?_
    refine SimI.run 1 [(42, .one (lb true))] [] (by kernel_rfl) ?_
    refine SimI.done (by kernel_rfl) ?_
    refine SimE.thenN ?_
    refine Sim.seq ?_
    refine Sim.condT (by kernel_rfl) ?_
    refine Sim.skip ?_
    refine SimE.thenN ?_
    refine Sim.seq ?_
    refine Sim.block ?_
    refine Sim.seq ?_
    refine Sim.region0 ?_
    refine SimI.run 5 [(3, .one (li .i64 1)), (4, .one (.ptr 4 0)), (44, .agg [li .i64 a0.F.a1.N, ls a0.F.a1.Text]), (43, .one (li .i64 1))] [(4, some (.cells [li .i64 a0.F.a1.N, ls a0.F.a1.Text])), (4, some (.cells [li .i64 0, ls ByteArray.empty]))] (by kernel_rfl) ?_
    refine SimI.done (by kernel_rfl) ?_
    refine SimE.thenN ?_
    refine Sim.seq ?_
    refine Sim.region0 ?_
    refine SimI.run 1 [(45, .agg [li .i64 a0.F.a1.N, ls a0.F.a1.Text])] [] (by kernel_rfl) ?_
    refine SimI.bind (og := F26 n a0.F.a1) { dst := some 46, op := POp.call true [[]] 26 [Operand.tmp 45], guard := none, hints := [] } (fun r7 => [(46, .one (lb r7))]) (fun r7 => []) (by kernel_rfl) (fun r7 hr => pOp_eff (by kernel_rfl) (by kernel_rfl) (eff_call (ARGS := [.agg [li .i64 a0.F.a1.N, ls a0.F.a1.Text]]) (by kernel_rfl) (args_clean (by kernel_rfl) args_nil) (F26_ok n a0.F.a1 r7 hr) (by kernel_rfl))) (fun r7 => ?_)
    refine SimI.run 2 [(48, .one (lb (!(r7)))), (47, .one (lb (!(r7))))] [] (by kernel_rfl) ?_
    refine SimI.split 48 (!(r7)) (by kernel_rfl) ?_ ?_
    · refine SimI.run 11 [(59, .one (lb true)), (58, .tup []), (57, .tup []), (56, .tup []), (55, .tup []), (54, .tup []), (53, .tup []), (52, .tup []), (51, .tup []), (50, .tup []), (49, .tup [])] [] (by kernel_rfl) ?_
      refine SimI.done (by kernel_rfl) ?_
      refine SimE.thenN ?_
      refine Sim.condT (by kernel_rfl) ?_
      refine Sim.seq ?_
      refine Sim.region0 ?_
      refine SimI.run 1 [(2, .one (lb false))] [] (by kernel_rfl) ?_
      refine SimI.done (by kernel_rfl) ?_
      refine SimE.thenN ?_
      refine Sim.ret ?_
      refine SimE.blockR ?_
      refine SimE.thenR ?_
      refine SimE.loopR ?_
      refine SimE.blockR ?_
      refine SimE.thenR ?_
      exact SimE.fin (by kernel_rfl)
    · refine SimI.run 3 [(51, .one (li .i64 1)), (50, .one (li .u8 a0.Mask)), (49, .one (.ptr 1 1))] [] (by kernel_rfl) ?_
      refine SimI.bind (og := F43 n a0.Mask 1) { dst := some 52, op := POp.call true [[], []] 43 [Operand.tmp 50, Operand.tmp 51], guard := some (48, false), hints := [] } (fun r8 => [(52, .one (lb r8))]) (fun r8 => []) (by kernel_rfl) (fun r8 hr => pOp_eff (by kernel_rfl) (by kernel_rfl) (eff_call (ARGS := [.one (li .u8 a0.Mask), .one (li .i64 1)]) (by kernel_rfl) (args_clean (by kernel_rfl) (args_clean (by kernel_rfl) args_nil)) (F43_ok n a0.Mask 1 r8 hr) (by kernel_rfl))) (fun r8 => ?_)
      refine SimI.run 2 [(54, .one (lb (!(r8)))), (53, .one (lb (!(r8))))] [] (by kernel_rfl) ?_
      refine SimI.split 54 (!(r8)) (by kernel_rfl) ?_ ?_
      · refine SimI.run 2 [(56, .agg [li .i64 0, ls ByteArray.empty]), (55, .agg [li .i64 a0.F.a1.N, ls a0.F.a1.Text])] [] (by kernel_rfl) ?_
        refine SimI.step { dst := some 57, op := POp.prim (Prim.bin BinOp.neq 25 false false) [Operand.tmp 55, Operand.tmp 56], guard := some (54, true), hints := [] } [(57, .one (lb (!(Field.eqb a0.F.a1 (Field.mk 0 ByteArray.empty)))))] [] (by kernel_rfl) (pOp_eff (by kernel_rfl) (by kernel_rfl) (eff_prim (by kernel_rfl) (Field_eqn a0.F.a1 (Field.mk 0 ByteArray.empty) _ _))) ?_
        refine SimI.run 2 [(59, .one (lb (!(Field.eqb a0.F.a1 (Field.mk 0 ByteArray.empty))))), (58, .one (lb (!(Field.eqb a0.F.a1 (Field.mk 0 ByteArray.empty)))))] [] (by kernel_rfl) ?_
        refine SimI.done (by kernel_rfl) ?_
        refine SimE.thenN ?_
        refine Sim.cond (!(Field.eqb a0.F.a1 (Field.mk 0 ByteArray.empty))) (by kernel_rfl) ?_ ?_
        · refine Sim.seq ?_
          refine Sim.region0 ?_
          refine SimI.run 1 [(2, .one (lb false))] [] (by kernel_rfl) ?_
          refine SimI.done (by kernel_rfl) ?_
          refine SimE.thenN ?_
          refine Sim.ret ?_
          refine SimE.blockR ?_
          refine SimE.thenR ?_
          refine SimE.loopR ?_
          refine SimE.blockR ?_
          refine SimE.thenR ?_
          exact SimE.fin (by kernel_rfl)
        · refine Sim.skip ?_
          refine SimE.blockN ?_
          refine SimE.thenN ?_
          refine Sim.region0 ?_
          refine SimI.run 2 [(41, .one (li .i64 2)), (60, .one (li .i64 2))] [] (by kernel_rfl) ?_
          refine SimI.done (by kernel_rfl) ?_
          refine SimE.loopN ?_
          refine SimL.pre (ts := [1, 40, 41]) (os := [1, 4]) [(1, .one (.ptr 1 0)), (40, .agg [li .i64 a0.F.a0.N, ls a0.F.a0.Text, li .i64 a0.F.a1.N, ls a0.F.a1.Text, li .i64 a0.F.a2.N, ls a0.F.a2.Text, li .i64 a0.F.a3.N, ls a0.F.a3.Text]), (41, .one (li .i64 2))] ((1, some (.cells [li .i64 a0.ID, li .u8 a0.Mask, li .i64 a0.At.X, li .i64 a0.At.Y, li .i64 a0.F.a0.N, ls a0.F.a0.Text, li .i64 a0.F.a1.N, ls a0.F.a1.Text, li .i64 a0.F.a2.N, ls a0.F.a2.Text, li .i64 a0.F.a3.N, ls a0.F.a3.Text])) :: []) (by kernel_rfl) (by kernel_rfl) (by kernel_rfl) ?_
          exact F25_u9_ok n a0
      · refine SimI.run 5 [(59, .one (lb false)), (58, .one (lb false)), (57, .tup []), (56, .tup []), (55, .tup [])] [] (by kernel_rfl) ?_
        refine SimI.done (by kernel_rfl) ?_
        refine SimE.thenN ?_
        refine Sim.condF (by kernel_rfl) ?_
        refine Sim.skip ?_
        refine SimE.blockN ?_
        refine SimE.thenN ?_
        refine Sim.region0 ?_
        refine SimI.run 2 [(41, .one (li .i64 2)), (60, .one (li .i64 2))] [] (by kernel_rfl) ?_
        refine SimI.done (by kernel_rfl) ?_
        refine SimE.loopN ?_
        refine SimL.pre (ts := [1, 40, 41]) (os := [1, 4]) [(1, .one (.ptr 1 0)), (40, .agg [li .i64 a0.F.a0.N, ls a0.F.a0.Text, li .i64 a0.F.a1.N, ls a0.F.a1.Text, li .i64 a0.F.a2.N, ls a0.F.a2.Text, li .i64 a0.F.a3.N, ls a0.F.a3.Text]), (41, .one (li .i64 2))] ((1, some (.cells [li .i64 a0.ID, li .u8 a0.Mask, li .i64 a0.At.X, li .i64 a0.At.Y, li .i64 a0.F.a0.N, ls a0.F.a0.Text, li .i64 a0.F.a1.N, ls a0.F.a1.Text, li .i64 a0.F.a2.N, ls a0.F.a2.Text, li .i64 a0.F.a3.N, ls a0.F.a3.Text])) :: []) (by kernel_rfl) (by kernel_rfl) (by kernel_rfl) ?_
        exact F25_u9_ok n a0

def F25_j3 (n : Nat) (a0 : Delta) : Option Bool :=
    (F26 n a0.F.a0).bind fun (r4 : Bool) =>
    if !(r4) then
      some false
    else
      (F43 n a0.Mask 0).bind fun (r5 : Bool) =>
      if !(r5) then
        if !(Field.eqb a0.F.a0 (Field.mk 0 ByteArray.empty)) then
          some false
        else
          F25_u6 n a0
      else
        F25_u6 n a0
theorem F25_j3_ok (n : Nat) (a0 : Delta) : Sim Try.prog D (n + 8) pc25_c41 [(1, .one (.ptr 1 0))] ((1, some (.cells [li .i64 a0.ID, li .u8 a0.Mask, li .i64 a0.At.X, li .i64 a0.At.Y, li .i64 a0.F.a0.N, ls a0.F.a0.Text, li .i64 a0.F.a1.N, ls a0.F.a1.Text, li .i64 a0.F.a2.N, ls a0.F.a2.Text, li .i64 a0.F.a3.N, ls a0.F.a3.Text])) :: []) (F25_j3 n a0) (QF pc25_r 0 F25_e) := by
    unfold F25_j3
    refine Sim.seq ?_
    refine Sim.seq ?_
    refine Sim.region [(1, .one (.ptr 1 0))] ((1, some (.cells [li .i64 a0.ID, li .u8 a0.Mask, li .i64 a0.At.X, li .i64 a0.At.Y, li .i64 a0.F.a0.N, ls a0.F.a0.Text, li .i64 a0.F.a1.N, ls a0.F.a1.Text, li .i64 a0.F.a2.N, ls a0.F.a2.Text, li .i64 a0.F.a3.N, ls a0.F.a3.Text])) :: []) (by kernel_rfl) ?_
    refine SimI.run 3 [(41, .one (li .i64 0)), (40, .agg [li .i64 a0.F.a0.N, ls a0.F.a0.Text, li .i64 a0.F.a1.N, ls a0.F.a1.Text, li .i64 a0.F.a2.N, ls a0.F.a2.Text, li .i64 a0.F.a3.N, ls a0.F.a3.Text]), (39, .one (.ptr 1 4))] [] (by kernel_rfl) ?_
    refine SimI.done (by kernel_rfl) ?_
    refine SimE.thenN ?_
    refine Sim.block ?_
    refine Sim.loop ?_
    refine SimL.succ ?_
    refine Sim.seq ?_
    refine Sim.region [(1, .one (.ptr 1 0)), (40, .agg [li .i64 a0.F.a0.N, ls a0.F.a0.Text, li .i64 a0.F.a1.N, ls a0.F.a1.Text, li .i64 a0.F.a2.N, ls a0.F.a2.Text, li .i64 a0.F.a3.N, ls a0.F.a3.Text]), (41, .one (li .i64 0))] ((1, some (.cells [li .i64 a0.ID, li .u8 a0.Mask, li .i64 a0.At.X, li .i64 a0.At.Y, li .i64 a0.F.a0.N, ls a0.F.a0.Text, li .i64 a0.F.a1.N, ls a0.F.a1.Text, li .i64 a0.F.a2.N, ls a0.F.a2.Text, li .i64 a0.F.a3.N, ls a0.F.a3.Text])) :: []) (by kernel_rfl) ?_
    refine SimI.run 1 [(42, .one (lb true))] [] (by kernel_rfl) ?_
    refine SimI.done (by kernel_rfl) ?_
    refine SimE.thenN ?_
    refine Sim.seq ?_
    refine Sim.condT (by kernel_rfl) ?_
    refine Sim.skip ?_
    refine SimE.thenN ?_
    refine Sim.seq ?_
    refine Sim.block ?_
    refine Sim.seq ?_
    refine Sim.region0 ?_
    refine SimI.run 5 [(3, .one (li .i64 0)), (4, .one (.ptr 4 0)), (44, .agg [li .i64 a0.F.a0.N, ls a0.F.a0.Text]), (43, .one (li .i64 0))] [(4, some (.cells [li .i64 a0.F.a0.N, ls a0.F.a0.Text])), (4, some (.cells [li .i64 0, ls ByteArray.empty]))] (by kernel_rfl) ?_
    refine SimI.done (by kernel_rfl) ?_
    refine SimE.thenN ?_
    refine Sim.seq ?_
    refine Sim.region0 ?_
    refine SimI.run 1 [(45, .agg [li .i64 a0.F.a0.N, ls a0.F.a0.Text])] [] (by kernel_rfl) ?_
    refine SimI.bind (og := F26 n a0.F.a0) { dst := some 46, op := POp.call true [[]] 26 [Operand.tmp 45], guard := none, hints := [] } (fun r4 => [(46, .one (lb r4))]) (fun r4 => []) (by kernel_rfl) (fun r4 hr => pOp_eff (by kernel_rfl) (by kernel_rfl) (eff_call (ARGS := [.agg [li .i64 a0.F.a0.N, ls a0.F.a0.Text]]) (by kernel_rfl) (args_clean (by kernel_rfl) args_nil) (F26_ok n a0.F.a0 r4 hr) (by kernel_rfl))) (fun r4 => ?_)
    refine SimI.run 2 [(48, .one (lb (!(r4)))), (47, .one (lb (!(r4))))] [] (by kernel_rfl) ?_
    refine SimI.split 48 (!(r4)) (by kernel_rfl) ?_ ?_
    · refine SimI.run 11 [(59, .one (lb true)), (58, .tup []), (57, .tup []), (56, .tup []), (55, .tup []), (54, .tup []), (53, .tup []), (52, .tup []), (51, .tup []), (50, .tup []), (49, .tup [])] [] (by kernel_rfl) ?_
      refine SimI.done (by kernel_rfl) ?_
      refine SimE.thenN ?_
      refine Sim.condT (by kernel_rfl) ?_
      refine Sim.seq ?_
      refine Sim.region0 ?_
      refine SimI.run 1 [(2, .one (lb false))] [] (by kernel_rfl) ?_
      refine SimI.done (by kernel_rfl) ?_
      refine SimE.thenN ?_
      refine Sim.ret ?_
      refine SimE.blockR ?_
      refine SimE.thenR ?_
      refine SimE.loopR ?_
      refine SimE.blockR ?_
      refine SimE.thenR ?_
      exact SimE.fin (by kernel_rfl)
    · refine SimI.run 3 [(51, .one (li .i64 0)), (50, .one (li .u8 a0.Mask)), (49, .one (.ptr 1 1))] [] (by kernel_rfl) ?_
      refine SimI.bind (og := F43 n a0.Mask 0) { dst := some 52, op := POp.call true [[], []] 43 [Operand.tmp 50, Operand.tmp 51], guard := some (48, false), hints := [] } (fun r5 => [(52, .one (lb r5))]) (fun r5 => []) (by kernel_rfl) (fun r5 hr => pOp_eff (by kernel_rfl) (by kernel_rfl) (eff_call (ARGS := [.one (li .u8 a0.Mask), .one (li .i64 0)]) (by kernel_rfl) (args_clean (by kernel_rfl) (args_clean (by kernel_rfl) args_nil)) (F43_ok n a0.Mask 0 r5 hr) (by kernel_rfl))) (fun r5 => ?_)
      refine SimI.run 2 [(54, .one (lb (!(r5)))), (53, .one (lb (!(r5))))] [] (by kernel_rfl) ?_
      refine SimI.split 54 (!(r5)) (by kernel_rfl) ?_ ?_
      · refine SimI.run 2 [(56, .agg [li .i64 0, ls ByteArray.empty]), (55, .agg [li .i64 a0.F.a0.N, ls a0.F.a0.Text])] [] (by kernel_rfl) ?_
        refine SimI.step { dst := some 57, op := POp.prim (Prim.bin BinOp.neq 25 false false) [Operand.tmp 55, Operand.tmp 56], guard := some (54, true), hints := [] } [(57, .one (lb (!(Field.eqb a0.F.a0 (Field.mk 0 ByteArray.empty)))))] [] (by kernel_rfl) (pOp_eff (by kernel_rfl) (by kernel_rfl) (eff_prim (by kernel_rfl) (Field_eqn a0.F.a0 (Field.mk 0 ByteArray.empty) _ _))) ?_
        refine SimI.run 2 [(59, .one (lb (!(Field.eqb a0.F.a0 (Field.mk 0 ByteArray.empty))))), (58, .one (lb (!(Field.eqb a0.F.a0 (Field.mk 0 ByteArray.empty)))))] [] (by kernel_rfl) ?_
        refine SimI.done (by kernel_rfl) ?_
        refine SimE.thenN ?_
        refine Sim.cond (!(Field.eqb a0.F.a0 (Field.mk 0 ByteArray.empty))) (by kernel_rfl) ?_ ?_
        · refine Sim.seq ?_
          refine Sim.region0 ?_
          refine SimI.run 1 [(2, .one (lb false))] [] (by kernel_rfl) ?_
          refine SimI.done (by kernel_rfl) ?_
          refine SimE.thenN ?_
          refine Sim.ret ?_
          refine SimE.blockR ?_
          refine SimE.thenR ?_
          refine SimE.loopR ?_
          refine SimE.blockR ?_
          refine SimE.thenR ?_
          exact SimE.fin (by kernel_rfl)
        · refine Sim.skip ?_
          refine SimE.blockN ?_
          refine SimE.thenN ?_
          refine Sim.region0 ?_
          refine SimI.run 2 [(41, .one (li .i64 1)), (60, .one (li .i64 1))] [] (by kernel_rfl) ?_
          refine SimI.done (by kernel_rfl) ?_
          refine SimE.loopN ?_
          refine SimL.pre (ts := [1, 40, 41]) (os := [1, 4]) [(1, .one (.ptr 1 0)), (40, .agg [li .i64 a0.F.a0.N, ls a0.F.a0.Text, li .i64 a0.F.a1.N, ls a0.F.a1.Text, li .i64 a0.F.a2.N, ls a0.F.a2.Text, li .i64 a0.F.a3.N, ls a0.F.a3.Text]), (41, .one (li .i64 1))] ((1, some (.cells [li .i64 a0.ID, li .u8 a0.Mask, li .i64 a0.At.X, li .i64 a0.At.Y, li .i64 a0.F.a0.N, ls a0.F.a0.Text, li .i64 a0.F.a1.N, ls a0.F.a1.Text, li .i64 a0.F.a2.N, ls a0.F.a2.Text, li .i64 a0.F.a3.N, ls a0.F.a3.Text])) :: []) (by kernel_rfl) (by kernel_rfl) (by kernel_rfl) ?_
          exact F25_u6_ok n a0
      · refine SimI.run 5 [(59, .one (lb false)), (58, .one (lb false)), (57, .tup []), (56, .tup []), (55, .tup [])] [] (by kernel_rfl) ?_
        refine SimI.done (by kernel_rfl) ?_
        refine SimE.thenN ?_
        refine Sim.condF (by kernel_rfl) ?_
        refine Sim.skip ?_
        refine SimE.blockN ?_
        refine SimE.thenN ?_
        refine Sim.region0 ?_
        refine SimI.run 2 [(41, .one (li .i64 1)), (60, .one (li .i64 1))] [] (by kernel_rfl) ?_
        refine SimI.done (by kernel_rfl) ?_
        refine SimE.loopN ?_
        refine SimL.pre (ts := [1, 40, 41]) (os := [1, 4]) [(1, .one (.ptr 1 0)), (40, .agg [li .i64 a0.F.a0.N, ls a0.F.a0.Text, li .i64 a0.F.a1.N, ls a0.F.a1.Text, li .i64 a0.F.a2.N, ls a0.F.a2.Text, li .i64 a0.F.a3.N, ls a0.F.a3.Text]), (41, .one (li .i64 1))] ((1, some (.cells [li .i64 a0.ID, li .u8 a0.Mask, li .i64 a0.At.X, li .i64 a0.At.Y, li .i64 a0.F.a0.N, ls a0.F.a0.Text, li .i64 a0.F.a1.N, ls a0.F.a1.Text, li .i64 a0.F.a2.N, ls a0.F.a2.Text, li .i64 a0.F.a3.N, ls a0.F.a3.Text])) :: []) (by kernel_rfl) (by kernel_rfl) (by kernel_rfl) ?_
        exact F25_u6_ok n a0

def F25 (n : Nat) (a0 : Delta) : Option Bool :=
  if decide (a0.ID < 0) then
    some false
  else
    if decide ((1000000 : Int) < a0.ID) then
      some false
    else
      if a0.Mask == 0 then
        some false
      else
        if decide ((31 : Int) < a0.Mask) then
          some false
        else
          if (bitsI .and .u8 a0.Mask 1) == 0 then
            if !(Point.eqb a0.At (Point.mk 0 0)) then
              some false
            else
              (F50 n a0.At).bind fun (r1 : Bool) =>
              if !(r1) then
                some false
              else
                F25_j3 n a0
          else
            (F50 n a0.At).bind fun (r2 : Bool) =>
            if !(r2) then
              some false
            else
              F25_j3 n a0
theorem F25_ok (n : Nat) (a0 : Delta) : ∀ r, F25 n a0 = some r → D 25 [.agg [li .i64 a0.ID, li .u8 a0.Mask, li .i64 a0.At.X, li .i64 a0.At.Y, li .i64 a0.F.a0.N, ls a0.F.a0.Text, li .i64 a0.F.a1.N, ls a0.F.a1.Text, li .i64 a0.F.a2.N, ls a0.F.a2.Text, li .i64 a0.F.a3.N, ls a0.F.a3.Text]] [] = some (F25_e r) := by
  refine fn_to (D := D) (n := n + 8) (nt := 61) (rs := pc25_r) (c := pc25_c44) (L := [(0, .agg [li .i64 a0.ID, li .u8 a0.Mask, li .i64 a0.At.X, li .i64 a0.At.Y, li .i64 a0.F.a0.N, ls a0.F.a0.Text, li .i64 a0.F.a1.N, ls a0.F.a1.Text, li .i64 a0.F.a2.N, ls a0.F.a2.Text, li .i64 a0.F.a3.N, ls a0.F.a3.Text])]) (M := []) (k := 0) rfl rfl rfl rfl rfl rfl ?_
  unfold F25
  refine Sim.seq ?_
  refine Sim.region0 ?_
  refine SimI.run 2 [(2, .one (lb false)), (1, .one (.ptr 1 0))] [(1, some (.cells [li .i64 a0.ID, li .u8 a0.Mask, li .i64 a0.At.X, li .i64 a0.At.Y, li .i64 a0.F.a0.N, ls a0.F.a0.Text, li .i64 a0.F.a1.N, ls a0.F.a1.Text, li .i64 a0.F.a2.N, ls a0.F.a2.Text, li .i64 a0.F.a3.N, ls a0.F.a3.Text]))] (by kernel_rfl) ?_
  refine SimI.done (by kernel_rfl) ?_
  refine SimE.thenN ?_
  refine Sim.seq ?_
  refine Sim.seq ?_
  refine Sim.region0 ?_
  refine SimI.run 4 [(8, .one (lb (decide (a0.ID < 0)))), (7, .one (lb (decide (a0.ID < 0)))), (6, .one (li .i64 a0.ID)), (5, .one (.ptr 1 0))] [] (by kernel_rfl) ?_
  refine SimI.split 8 (decide (a0.ID < 0)) (by kernel_rfl) ?_ ?_
  · refine SimI.run 14 [(22, .one (lb true)), (21, .tup []), (20, .tup []), (19, .tup []), (18, .one (lb true)), (17, .one (lb true)), (16, .tup []), (15, .tup []), (14, .tup []), (13, .one (lb true)), (12, .one (lb true)), (11, .tup []), (10, .tup []), (9, .tup [])] [] (by kernel_rfl) ?_
    refine SimI.done (by kernel_rfl) ?_
    refine SimE.thenN ?_
    refine Sim.condT (by kernel_rfl) ?_
    refine Sim.seq ?_
    refine Sim.region0 ?_
    refine SimI.run 1 [(2, .one (lb false))] [] (by kernel_rfl) ?_
    refine SimI.done (by kernel_rfl) ?_
    refine SimE.thenN ?_
    refine Sim.ret ?_
    refine SimE.thenR ?_
    exact SimE.fin (by kernel_rfl)
  · refine SimI.run 5 [(13, .one (lb (decide ((1000000 : Int) < a0.ID)))), (12, .one (lb (decide ((1000000 : Int) < a0.ID)))), (11, .one (lb (decide ((1000000 : Int) < a0.ID)))), (10, .one (li .i64 a0.ID)), (9, .one (.ptr 1 0))] [] (by kernel_rfl) ?_
    refine SimI.split 13 (decide ((1000000 : Int) < a0.ID)) (by kernel_rfl) ?_ ?_
    · refine SimI.run 9 [(22, .one (lb true)), (21, .tup []), (20, .tup []), (19, .tup []), (18, .one (lb true)), (17, .one (lb true)), (16, .tup []), (15, .tup []), (14, .tup [])] [] (by kernel_rfl) ?_
      refine SimI.done (by kernel_rfl) ?_
      refine SimE.thenN ?_
      refine Sim.condT (by kernel_rfl) ?_
      refine Sim.seq ?_
      refine Sim.region0 ?_
      refine SimI.run 1 [(2, .one (lb false))] [] (by kernel_rfl) ?_
      refine SimI.done (by kernel_rfl) ?_
      refine SimE.thenN ?_
      refine Sim.ret ?_
      refine SimE.thenR ?_
      exact SimE.fin (by kernel_rfl)
    · refine SimI.run 5 [(18, .one (lb (a0.Mask == 0))), (17, .one (lb (a0.Mask == 0))), (16, .one (lb (a0.Mask == 0))), (15, .one (li .u8 a0.Mask)), (14, .one (.ptr 1 1))] [] (by kernel_rfl) ?_
      refine SimI.split 18 (a0.Mask == 0) (by kernel_rfl) ?_ ?_
      · refine SimI.run 4 [(22, .one (lb true)), (21, .tup []), (20, .tup []), (19, .tup [])] [] (by kernel_rfl) ?_
        refine SimI.done (by kernel_rfl) ?_
        refine SimE.thenN ?_
        refine Sim.condT (by kernel_rfl) ?_
        refine Sim.seq ?_
        refine Sim.region0 ?_
        refine SimI.run 1 [(2, .one (lb false))] [] (by kernel_rfl) ?_
        refine SimI.done (by kernel_rfl) ?_
        refine SimE.thenN ?_
        refine Sim.ret ?_
        refine SimE.thenR ?_
        exact SimE.fin (by kernel_rfl)
      · refine SimI.run 4 [(22, .one (lb (decide ((31 : Int) < a0.Mask)))), (21, .one (lb (decide ((31 : Int) < a0.Mask)))), (20, .one (li .u8 a0.Mask)), (19, .one (.ptr 1 1))] [] (by kernel_rfl) ?_
        refine SimI.done (by kernel_rfl) ?_
        refine SimE.thenN ?_
        refine Sim.cond (decide ((31 : Int) < a0.Mask)) (by kernel_rfl) ?_ ?_
        · refine Sim.seq ?_
          refine Sim.region0 ?_
          refine SimI.run 1 [(2, .one (lb false))] [] (by kernel_rfl) ?_
          refine SimI.done (by kernel_rfl) ?_
          refine SimE.thenN ?_
          refine Sim.ret ?_
          refine SimE.thenR ?_
          exact SimE.fin (by kernel_rfl)
        · refine Sim.skip ?_
          refine SimE.thenN ?_
          refine Sim.seq ?_
          refine Sim.seq ?_
          refine Sim.region0 ?_
          refine SimI.run 5 [(27, .one (lb ((bitsI .and .u8 a0.Mask 1) == 0))), (26, .one (lb ((bitsI .and .u8 a0.Mask 1) == 0))), (25, .one (li .u8 (bitsI .and .u8 a0.Mask 1))), (24, .one (li .u8 a0.Mask)), (23, .one (.ptr 1 1))] [] (by kernel_rfl) ?_
          refine SimI.split 27 ((bitsI .and .u8 a0.Mask 1) == 0) (by kernel_rfl) ?_ ?_
          · refine SimI.run 3 [(30, .agg [li .i64 0, li .i64 0]), (29, .agg [li .i64 a0.At.X, li .i64 a0.At.Y]), (28, .one (.ptr 1 2))] [] (by kernel_rfl) ?_
            refine SimI.step { dst := some 31, op := POp.prim (Prim.bin BinOp.neq 23 false false) [Operand.tmp 29, Operand.tmp 30], guard := some (27, true), hints := [] } [(31, .one (lb (!(Point.eqb a0.At (Point.mk 0 0)))))] [] (by kernel_rfl) (pOp_eff (by kernel_rfl) (by kernel_rfl) (eff_prim (by kernel_rfl) (Point_eqn a0.At (Point.mk 0 0) _ _))) ?_
            refine SimI.run 2 [(33, .one (lb (!(Point.eqb a0.At (Point.mk 0 0))))), (32, .one (lb (!(Point.eqb a0.At (Point.mk 0 0)))))] [] (by kernel_rfl) ?_
            refine SimI.split 33 (!(Point.eqb a0.At (Point.mk 0 0))) (by kernel_rfl) ?_ ?_
            · refine SimI.run 5 [(38, .one (lb true)), (37, .tup []), (36, .tup []), (35, .tup []), (34, .tup [])] [] (by kernel_rfl) ?_
              refine SimI.done (by kernel_rfl) ?_
              refine SimE.thenN ?_
              refine Sim.condT (by kernel_rfl) ?_
              refine Sim.seq ?_
              refine Sim.region0 ?_
              refine SimI.run 1 [(2, .one (lb false))] [] (by kernel_rfl) ?_
              refine SimI.done (by kernel_rfl) ?_
              refine SimE.thenN ?_
              refine Sim.ret ?_
              refine SimE.thenR ?_
              exact SimE.fin (by kernel_rfl)
            · refine SimI.run 2 [(35, .agg [li .i64 a0.At.X, li .i64 a0.At.Y]), (34, .one (.ptr 1 2))] [] (by kernel_rfl) ?_
              refine SimI.bind (og := F50 n a0.At) { dst := some 36, op := POp.call true [[]] 50 [Operand.tmp 35], guard := some (33, false), hints := [] } (fun r1 => [(36, .one (lb r1))]) (fun r1 => []) (by kernel_rfl) (fun r1 hr => pOp_eff (by kernel_rfl) (by kernel_rfl) (eff_call (ARGS := [.agg [li .i64 a0.At.X, li .i64 a0.At.Y]]) (by kernel_rfl) (args_clean (by kernel_rfl) args_nil) (F50_ok n a0.At r1 hr) (by kernel_rfl))) (fun r1 => ?_)
              refine SimI.run 2 [(38, .one (lb (!(r1)))), (37, .one (lb (!(r1))))] [] (by kernel_rfl) ?_
              refine SimI.done (by kernel_rfl) ?_
              refine SimE.thenN ?_
              refine Sim.cond (!(r1)) (by kernel_rfl) ?_ ?_
              · refine Sim.seq ?_
                refine Sim.region0 ?_
                refine SimI.run 1 [(2, .one (lb false))] [] (by kernel_rfl) ?_
                refine SimI.done (by kernel_rfl) ?_
                refine SimE.thenN ?_
                refine Sim.ret ?_
                refine SimE.thenR ?_
                exact SimE.fin (by kernel_rfl)
              · refine Sim.skip ?_
                refine SimE.thenN ?_
                refine Sim.pre (ts := [1]) (os := [1]) [(1, .one (.ptr 1 0))] ((1, some (.cells [li .i64 a0.ID, li .u8 a0.Mask, li .i64 a0.At.X, li .i64 a0.At.Y, li .i64 a0.F.a0.N, ls a0.F.a0.Text, li .i64 a0.F.a1.N, ls a0.F.a1.Text, li .i64 a0.F.a2.N, ls a0.F.a2.Text, li .i64 a0.F.a3.N, ls a0.F.a3.Text])) :: []) (by kernel_rfl) (by kernel_rfl) (by kernel_rfl) ?_
                exact F25_j3_ok n a0
          · refine SimI.run 8 [(35, .agg [li .i64 a0.At.X, li .i64 a0.At.Y]), (34, .one (.ptr 1 2)), (33, .one (lb false)), (32, .one (lb false)), (31, .tup []), (30, .tup []), (29, .tup []), (28, .tup [])] [] (by kernel_rfl) ?_
            refine SimI.bind (og := F50 n a0.At) { dst := some 36, op := POp.call true [[]] 50 [Operand.tmp 35], guard := some (33, false), hints := [] } (fun r2 => [(36, .one (lb r2))]) (fun r2 => []) (by kernel_rfl) (fun r2 hr => pOp_eff (by kernel_rfl) (by kernel_rfl) (eff_call (ARGS := [.agg [li .i64 a0.At.X, li .i64 a0.At.Y]]) (by kernel_rfl) (args_clean (by kernel_rfl) args_nil) (F50_ok n a0.At r2 hr) (by kernel_rfl))) (fun r2 => ?_)
            refine SimI.run 2 [(38, .one (lb (!(r2)))), (37, .one (lb (!(r2))))] [] (by kernel_rfl) ?_
            refine SimI.done (by kernel_rfl) ?_
            refine SimE.thenN ?_
            refine Sim.cond (!(r2)) (by kernel_rfl) ?_ ?_
            · refine Sim.seq ?_
              refine Sim.region0 ?_
              refine SimI.run 1 [(2, .one (lb false))] [] (by kernel_rfl) ?_
              refine SimI.done (by kernel_rfl) ?_
              refine SimE.thenN ?_
              refine Sim.ret ?_
              refine SimE.thenR ?_
              exact SimE.fin (by kernel_rfl)
            · refine Sim.skip ?_
              refine SimE.thenN ?_
              refine Sim.pre (ts := [1]) (os := [1]) [(1, .one (.ptr 1 0))] ((1, some (.cells [li .i64 a0.ID, li .u8 a0.Mask, li .i64 a0.At.X, li .i64 a0.At.Y, li .i64 a0.F.a0.N, ls a0.F.a0.Text, li .i64 a0.F.a1.N, ls a0.F.a1.Text, li .i64 a0.F.a2.N, ls a0.F.a2.Text, li .i64 a0.F.a3.N, ls a0.F.a3.Text])) :: []) (by kernel_rfl) (by kernel_rfl) (by kernel_rfl) ?_
              exact F25_j3_ok n a0


-- 42: vedette/num.Put
def F42_e : ByteArray → PV × List (List Lf) := fun r => (.one (ls r), [])
def F42_j13 (n : Nat) (i7 : Int) (l11 : (List Int)) : Option ByteArray :=
    if ((l11).length + 1) * 1 ≤ maxCells ∧ (l11).length + 1 ≤ maxCells then
      some (mkStr (l11 ++ [IntKind.wrap .u8 i7]))
    else none
theorem F42_j13_ok (n : Nat) (i7 : Int) (l11 : (List Int)) (g12 : Nat) : Sim Try.prog D (n + 8) pc42_c17 [(0, .one (li .u64 i7)), (3, .one (ownL 100003 g12 l11))] (ownM (codI .u8) 5 100003 g12 l11 []) (F42_j13 n i7 l11) (QF pc42_r 0 F42_e) := by
    cases l11 with
    | nil =>
      unfold F42_j13
      refine Sim.seq ?_
      refine Sim.region [(0, .one (li .u64 i7)), (3, .one (lnil))] [] (by kernel_rfl) ?_
      refine SimI.run 4 [(17, .one (vw (codI .u8) [IntKind.wrap .u8 i7])), (16, .one (li .u8 (IntKind.wrap .u8 i7))), (15, .one (li .u64 i7)), (14, .one (lnil))] [] (by kernel_rfl) ?_
      refine SimI.guard (c := (([] : List Int).length + 1) * 1 ≤ maxCells ∧ ([] : List Int).length + 1 ≤ maxCells) { dst := some 18, op := POp.app 100003 5 1 1 (Operand.tmp 14) (Operand.tmp 17), guard := none, hints := [] } [(18, .one (.osl 100003 0 0 ([IntKind.wrap .u8 i7]).length))] [(100003, some (.arr 5 (codI .u8).sz 0 ([IntKind.wrap .u8 i7]).length (getOf (codI .u8) [IntKind.wrap .u8 i7])))] (by kernel_rfl) (fun hc => pOp_eff (by kernel_rfl) (by kernel_rfl) (eff_appN (c := (codI .u8)) (a := IntKind.wrap .u8 i7) (by kernel_rfl) (by kernel_rfl) (by kernel_rfl) (by kernel_rfl) (by kernel_rfl) (by kernel_rfl))) ?_
      refine SimI.step { dst := some 19, op := POp.b2s (Operand.tmp 18), guard := none, hints := [] } [(19, .one (ls (mkStr [IntKind.wrap .u8 i7])))] [] (by kernel_rfl) (pOp_eff (by kernel_rfl) (by kernel_rfl) (eff_b2sO (l := [IntKind.wrap .u8 i7]) (k := 100003) (g := 0) (el := 5) (by kernel_rfl) (by kernel_rfl))) ?_
      refine SimI.run 1 [(2, .one (ls (mkStr [IntKind.wrap .u8 i7])))] [] (by kernel_rfl) ?_
      refine SimI.done (by kernel_rfl) ?_
      refine SimE.thenN ?_
      refine Sim.ret ?_
      exact SimE.fin (by kernel_rfl)
    | cons l11h l11t =>
      unfold F42_j13
      refine Sim.seq ?_
      refine Sim.region [(0, .one (li .u64 i7)), (3, .one (.osl 100003 g12 0 ((l11h :: l11t)).length))] ((100003, some (.arr 5 (codI .u8).sz g12 ((l11h :: l11t)).length (getOf (codI .u8) (l11h :: l11t)))) :: []) (by kernel_rfl) ?_
      refine SimI.run 4 [(17, .one (vw (codI .u8) [IntKind.wrap .u8 i7])), (16, .one (li .u8 (IntKind.wrap .u8 i7))), (15, .one (li .u64 i7)), (14, .one (.osl 100003 g12 0 ((l11h :: l11t)).length))] [] (by kernel_rfl) ?_
      refine SimI.guard (c := (((l11h :: l11t)).length + 1) * 1 ≤ maxCells ∧ ((l11h :: l11t)).length + 1 ≤ maxCells) { dst := some 18, op := POp.app 100003 5 1 1 (Operand.tmp 14) (Operand.tmp 17), guard := none, hints := [] } [(18, .one (.osl 100003 (g12 + 1) 0 (((l11h :: l11t) ++ [IntKind.wrap .u8 i7])).length))] [(100003, some (.arr 5 (codI .u8).sz (g12 + 1) (((l11h :: l11t) ++ [IntKind.wrap .u8 i7])).length (getOf (codI .u8) ((l11h :: l11t) ++ [IntKind.wrap .u8 i7]))))] (by kernel_rfl) (fun hc => pOp_eff (by kernel_rfl) (by kernel_rfl) (eff_appO (c := (codI .u8)) (g := g12) (l := (l11h :: l11t)) (a := IntKind.wrap .u8 i7) (by kernel_rfl) (by kernel_rfl) (by kernel_rfl) (by kernel_rfl) hc)) ?_
      refine SimI.step { dst := some 19, op := POp.b2s (Operand.tmp 18), guard := none, hints := [] } [(19, .one (ls (mkStr ((l11h :: l11t) ++ [IntKind.wrap .u8 i7]))))] [] (by kernel_rfl) (pOp_eff (by kernel_rfl) (by kernel_rfl) (eff_b2sO (l := ((l11h :: l11t) ++ [IntKind.wrap .u8 i7])) (k := 100003) (g := (g12 + 1)) (el := 5) (by kernel_rfl) (by kernel_rfl))) ?_
      refine SimI.run 1 [(2, .one (ls (mkStr ((l11h :: l11t) ++ [IntKind.wrap .u8 i7]))))] [] (by kernel_rfl) ?_
      refine SimI.done (by kernel_rfl) ?_
      refine SimE.thenN ?_
      refine Sim.ret ?_
      exact SimE.fin (by kernel_rfl)

def F42_l10 (n : Nat) : Nat → Int → (List Int) → Option ByteArray
  | 0, _, _ => none
  | m + 1, i7, l8 =>
    if decide ((128 : Int) ≤ i7) then
      if ((l8).length + 1) * 1 ≤ maxCells ∧ (l8).length + 1 ≤ maxCells then
        (F42_l10 n m) (shrI .u64 i7 7) (l8 ++ [bitsI .or .u8 (IntKind.wrap .u8 i7) 128])
      else none
    else
      F42_j13 n i7 l8
theorem F42_l10_ok (n : Nat) : ∀ (m : Nat) (i7 : Int) (l8 : (List Int)) (g9 : Nat), SimL Try.prog D (n + 8) m pc42_c12 [(0, .one (li .u64 i7)), (3, .one (ownL 100003 g9 l8))] (ownM (codI .u8) 5 100003 g9 l8 []) (F42_l10 n m i7 l8) (QB 0 (QT Try.prog D (n + 8) pc42_c17 (QF pc42_r 0 F42_e))) := by
  intro m_l10
  induction m_l10 with
  | zero => intro i7 l8 g9; exact SimL.zero'  rfl
  | succ m_l10 ih_l10 =>
    intro i7 l8 g9
    cases l8 with
    | nil =>
      refine SimL.succ ?_
      unfold F42_l10
      refine Sim.seq ?_
      refine Sim.seq ?_
      refine Sim.region [(0, .one (li .u64 i7)), (3, .one (lnil))] [] (by kernel_rfl) ?_
      refine SimI.run 2 [(5, .one (lb (decide ((128 : Int) ≤ i7)))), (4, .one (li .u64 i7))] [] (by kernel_rfl) ?_
      refine SimI.done (by kernel_rfl) ?_
      refine SimE.thenN ?_
      refine Sim.cond (decide ((128 : Int) ≤ i7)) (by kernel_rfl) ?_ ?_
      · refine Sim.skip ?_
        refine SimE.thenN ?_
        refine Sim.block ?_
        refine Sim.seq ?_
        refine Sim.region0 ?_
        refine SimI.run 5 [(10, .one (vw (codI .u8) [bitsI .or .u8 (IntKind.wrap .u8 i7) 128])), (9, .one (li .u8 (bitsI .or .u8 (IntKind.wrap .u8 i7) 128))), (8, .one (li .u8 (IntKind.wrap .u8 i7))), (7, .one (li .u64 i7)), (6, .one (lnil))] [] (by kernel_rfl) ?_
        refine SimI.guard (c := (([] : List Int).length + 1) * 1 ≤ maxCells ∧ ([] : List Int).length + 1 ≤ maxCells) { dst := some 11, op := POp.app 100003 5 1 1 (Operand.tmp 6) (Operand.tmp 10), guard := none, hints := [] } [(11, .one (.osl 100003 0 0 ([bitsI .or .u8 (IntKind.wrap .u8 i7) 128]).length))] [(100003, some (.arr 5 (codI .u8).sz 0 ([bitsI .or .u8 (IntKind.wrap .u8 i7) 128]).length (getOf (codI .u8) [bitsI .or .u8 (IntKind.wrap .u8 i7) 128])))] (by kernel_rfl) (fun hc => pOp_eff (by kernel_rfl) (by kernel_rfl) (eff_appN (c := (codI .u8)) (a := bitsI .or .u8 (IntKind.wrap .u8 i7) 128) (by kernel_rfl) (by kernel_rfl) (by kernel_rfl) (by kernel_rfl) (by kernel_rfl) (by kernel_rfl))) ?_
        refine SimI.run 1 [(3, .one (.osl 100003 0 0 ([bitsI .or .u8 (IntKind.wrap .u8 i7) 128]).length))] [] (by kernel_rfl) ?_
        refine SimI.done (by kernel_rfl) ?_
        refine SimE.thenN ?_
        refine Sim.region0 ?_
        refine SimI.run 3 [(0, .one (li .u64 (shrI .u64 i7 7))), (13, .one (li .u64 (shrI .u64 i7 7))), (12, .one (li .u64 i7))] [] (by kernel_rfl) ?_
        refine SimI.done (by kernel_rfl) ?_
        refine SimE.blockN ?_
        refine SimE.loopN ?_
        refine SimL.pre (ts := [0, 3]) (os := [100003]) [(0, .one (li .u64 (shrI .u64 i7 7))), (3, .one (ownL 100003 0 [bitsI .or .u8 (IntKind.wrap .u8 i7) 128]))] (ownM (codI .u8) 5 100003 0 [bitsI .or .u8 (IntKind.wrap .u8 i7) 128] []) (by kernel_rfl) (by kernel_rfl) (by kernel_rfl) ?_
        exact ih_l10 (shrI .u64 i7 7) [bitsI .or .u8 (IntKind.wrap .u8 i7) 128] 0
      · refine Sim.exit ?_
        refine SimE.thenX ?_
        refine SimE.loopX ?_
        refine SimE.blockX ?_
        refine SimE.thenN ?_
        refine Sim.pre (ts := [0, 3]) (os := [100003]) [(0, .one (li .u64 i7)), (3, .one (ownL 100003 0 ([] : List Int)))] (ownM (codI .u8) 5 100003 0 ([] : List Int) []) (by kernel_rfl) (by kernel_rfl) (by kernel_rfl) ?_
        exact F42_j13_ok n i7 ([] : List Int) 0
    | cons l8h l8t =>
      refine SimL.succ ?_
      unfold F42_l10
      refine Sim.seq ?_
      refine Sim.seq ?_
      refine Sim.region [(0, .one (li .u64 i7)), (3, .one (.osl 100003 g9 0 ((l8h :: l8t)).length))] ((100003, some (.arr 5 (codI .u8).sz g9 ((l8h :: l8t)).length (getOf (codI .u8) (l8h :: l8t)))) :: []) (by kernel_rfl) ?_
      refine SimI.run 2 [(5, .one (lb (decide ((128 : Int) ≤ i7)))), (4, .one (li .u64 i7))] [] (by kernel_rfl) ?_
      refine SimI.done (by kernel_rfl) ?_
      refine SimE.thenN ?_
      refine Sim.cond (decide ((128 : Int) ≤ i7)) (by kernel_rfl) ?_ ?_
      · refine Sim.skip ?_
        refine SimE.thenN ?_
        refine Sim.block ?_
        refine Sim.seq ?_
        refine Sim.region0 ?_
        refine SimI.run 5 [(10, .one (vw (codI .u8) [bitsI .or .u8 (IntKind.wrap .u8 i7) 128])), (9, .one (li .u8 (bitsI .or .u8 (IntKind.wrap .u8 i7) 128))), (8, .one (li .u8 (IntKind.wrap .u8 i7))), (7, .one (li .u64 i7)), (6, .one (.osl 100003 g9 0 ((l8h :: l8t)).length))] [] (by kernel_rfl) ?_
        refine SimI.guard (c := (((l8h :: l8t)).length + 1) * 1 ≤ maxCells ∧ ((l8h :: l8t)).length + 1 ≤ maxCells) { dst := some 11, op := POp.app 100003 5 1 1 (Operand.tmp 6) (Operand.tmp 10), guard := none, hints := [] } [(11, .one (.osl 100003 (g9 + 1) 0 (((l8h :: l8t) ++ [bitsI .or .u8 (IntKind.wrap .u8 i7) 128])).length))] [(100003, some (.arr 5 (codI .u8).sz (g9 + 1) (((l8h :: l8t) ++ [bitsI .or .u8 (IntKind.wrap .u8 i7) 128])).length (getOf (codI .u8) ((l8h :: l8t) ++ [bitsI .or .u8 (IntKind.wrap .u8 i7) 128]))))] (by kernel_rfl) (fun hc => pOp_eff (by kernel_rfl) (by kernel_rfl) (eff_appO (c := (codI .u8)) (g := g9) (l := (l8h :: l8t)) (a := bitsI .or .u8 (IntKind.wrap .u8 i7) 128) (by kernel_rfl) (by kernel_rfl) (by kernel_rfl) (by kernel_rfl) hc)) ?_
        refine SimI.run 1 [(3, .one (.osl 100003 (g9 + 1) 0 (((l8h :: l8t) ++ [bitsI .or .u8 (IntKind.wrap .u8 i7) 128])).length))] [] (by kernel_rfl) ?_
        refine SimI.done (by kernel_rfl) ?_
        refine SimE.thenN ?_
        refine Sim.region0 ?_
        refine SimI.run 3 [(0, .one (li .u64 (shrI .u64 i7 7))), (13, .one (li .u64 (shrI .u64 i7 7))), (12, .one (li .u64 i7))] [] (by kernel_rfl) ?_
        refine SimI.done (by kernel_rfl) ?_
        refine SimE.blockN ?_
        refine SimE.loopN ?_
        refine SimL.pre (ts := [0, 3]) (os := [100003]) [(0, .one (li .u64 (shrI .u64 i7 7))), (3, .one (ownL 100003 (g9 + 1) ((l8h :: l8t) ++ [bitsI .or .u8 (IntKind.wrap .u8 i7) 128])))] (ownM (codI .u8) 5 100003 (g9 + 1) ((l8h :: l8t) ++ [bitsI .or .u8 (IntKind.wrap .u8 i7) 128]) []) (by kernel_rfl) (by kernel_rfl) (by kernel_rfl) ?_
        exact ih_l10 (shrI .u64 i7 7) ((l8h :: l8t) ++ [bitsI .or .u8 (IntKind.wrap .u8 i7) 128]) (g9 + 1)
      · refine Sim.exit ?_
        refine SimE.thenX ?_
        refine SimE.loopX ?_
        refine SimE.blockX ?_
        refine SimE.thenN ?_
        refine Sim.pre (ts := [0, 3]) (os := [100003]) [(0, .one (li .u64 i7)), (3, .one (ownL 100003 g9 (l8h :: l8t)))] (ownM (codI .u8) 5 100003 g9 (l8h :: l8t) []) (by kernel_rfl) (by kernel_rfl) (by kernel_rfl) ?_
        exact F42_j13_ok n i7 (l8h :: l8t) g9

def F42 (n : Nat) (a0 : Int) : Option ByteArray :=
  F42_l10 n (n + 8) a0 ([] : List Int)
theorem F42_ok (n : Nat) (a0 : Int) : ∀ r, F42 n a0 = some r → D 42 [.one (li .u64 a0)] [] = some (F42_e r) := by
  refine fn_to (D := D) (n := n + 8) (nt := 20) (rs := pc42_r) (c := pc42_c20) (L := [(0, .one (li .u64 a0))]) (M := []) (k := 0) rfl rfl rfl rfl rfl rfl ?_
  unfold F42
  refine Sim.seq ?_
  refine Sim.region0 ?_
  refine SimI.run 1 [(2, .one (ls ByteArray.empty))] [] (by kernel_rfl) ?_
  refine SimI.done (by kernel_rfl) ?_
  refine SimE.thenN ?_
  refine Sim.seq ?_
  refine Sim.region0 ?_
  refine SimI.run 1 [(3, .one (lnil))] [] (by kernel_rfl) ?_
  refine SimI.done (by kernel_rfl) ?_
  refine SimE.thenN ?_
  refine Sim.seq ?_
  refine Sim.block ?_
  refine Sim.loop ?_
  refine SimL.pre (ts := [0, 3]) (os := [100003]) [(0, .one (li .u64 a0)), (3, .one (ownL 100003 0 ([] : List Int)))] (ownM (codI .u8) 5 100003 0 ([] : List Int) []) (by kernel_rfl) (by kernel_rfl) (by kernel_rfl) ?_
  exact F42_l10_ok n (n + 8) a0 ([] : List Int) 0


-- 44: vedette/num.Text
def F44_e : ByteArray → PV × List (List Lf) := fun r => (.one (ls r), [])
def F44 (n : Nat) (a0 : ByteArray) : Option ByteArray :=
  (F42 n (IntKind.wrap .u64 (a0.size : Int))).bind fun (r1 : ByteArray) =>
  if r1.size + a0.size ≤ 9223372036854775807 then
    some (r1 ++ a0)
  else none
theorem F44_ok (n : Nat) (a0 : ByteArray) : ∀ r, F44 n a0 = some r → D 44 [.one (ls a0)] [] = some (F44_e r) := by
  refine fn_to (D := D) (n := n + 8) (nt := 9) (rs := pc44_r) (c := pc44_c5) (L := [(0, .one (ls a0))]) (M := []) (k := 0) rfl rfl rfl rfl rfl rfl ?_
  unfold F44
  refine Sim.seq ?_
  refine Sim.region0 ?_
  refine SimI.run 1 [(2, .one (ls ByteArray.empty))] [] (by kernel_rfl) ?_
  refine SimI.done (by kernel_rfl) ?_
  refine SimE.thenN ?_
  refine Sim.seq ?_
  refine Sim.region0 ?_
  refine SimI.run 3 [(5, .one (li .u64 (IntKind.wrap .u64 (a0.size : Int)))), (4, .one (li .i64 (a0.size : Int))), (3, .one (ls a0))] [] (by kernel_rfl) ?_
  refine SimI.bind (og := F42 n (IntKind.wrap .u64 (a0.size : Int))) { dst := some 6, op := POp.call true [[]] 42 [Operand.tmp 5], guard := none, hints := [] } (fun r1 => [(6, .one (ls r1))]) (fun r1 => []) (by kernel_rfl) (fun r1 hr => pOp_eff (by kernel_rfl) (by kernel_rfl) (eff_call (ARGS := [.one (li .u64 (IntKind.wrap .u64 (a0.size : Int)))]) (by kernel_rfl) (args_clean (by kernel_rfl) args_nil) (F42_ok n (IntKind.wrap .u64 (a0.size : Int)) r1 hr) (by kernel_rfl))) (fun r1 => ?_)
  refine SimI.run 1 [(7, .one (ls a0))] [] (by kernel_rfl) ?_
  refine SimI.guard (c := r1.size + a0.size ≤ 9223372036854775807) { dst := some 8, op := POp.prim (Prim.bin BinOp.add 9 false false) [Operand.tmp 6, Operand.tmp 7], guard := none, hints := [] } [(8, .one (ls (r1 ++ a0)))] [] (by kernel_rfl) (fun hc => pOp_eff (by kernel_rfl) (by kernel_rfl) (eff_prim (by kernel_rfl) (pr_addS _ _ _ r1 a0 hc))) ?_
  refine SimI.run 1 [(2, .one (ls (r1 ++ a0)))] [] (by kernel_rfl) ?_
  refine SimI.done (by kernel_rfl) ?_
  refine SimE.thenN ?_
  refine Sim.ret ?_
  exact SimE.fin (by kernel_rfl)


-- 68: vedette/num.Zig
def F68_e : Int → PV × List (List Lf) := fun r => (.one (li .u64 r), [])
def F68 (n : Nat) (a0 : Int) : Option Int :=
  some (bitsI .xor .u64 (shlI .u64 (IntKind.wrap .u64 a0) 1) (IntKind.wrap .u64 (shrI .i64 a0 63)))
theorem F68_ok (n : Nat) (a0 : Int) : ∀ r, F68 n a0 = some r → D 68 [.one (li .i64 a0)] [] = some (F68_e r) := by
  refine fn_to (D := D) (n := n + 8) (nt := 10) (rs := pc68_r) (c := pc68_c5) (L := [(0, .one (li .i64 a0))]) (M := []) (k := 0) rfl rfl rfl rfl rfl rfl ?_
  unfold F68
  refine Sim.seq ?_
  refine Sim.region0 ?_
  refine SimI.run 1 [(2, .one (li .u64 0))] [] (by kernel_rfl) ?_
  refine SimI.done (by kernel_rfl) ?_
  refine SimE.thenN ?_
  refine Sim.seq ?_
  refine Sim.region0 ?_
  refine SimI.run 8 [(2, .one (li .u64 (bitsI .xor .u64 (shlI .u64 (IntKind.wrap .u64 a0) 1) (IntKind.wrap .u64 (shrI .i64 a0 63))))), (9, .one (li .u64 (bitsI .xor .u64 (shlI .u64 (IntKind.wrap .u64 a0) 1) (IntKind.wrap .u64 (shrI .i64 a0 63))))), (8, .one (li .u64 (IntKind.wrap .u64 (shrI .i64 a0 63)))), (7, .one (li .i64 (shrI .i64 a0 63))), (6, .one (li .i64 a0)), (5, .one (li .u64 (shlI .u64 (IntKind.wrap .u64 a0) 1))), (4, .one (li .u64 (IntKind.wrap .u64 a0))), (3, .one (li .i64 a0))] [] (by kernel_rfl) ?_
  refine SimI.done (by kernel_rfl) ?_
  refine SimE.thenN ?_
  refine Sim.ret ?_
  exact SimE.fin (by kernel_rfl)


-- 45: vedette/num.Int
def F45_e : ByteArray → PV × List (List Lf) := fun r => (.one (ls r), [])
def F45 (n : Nat) (a0 : Int) : Option ByteArray :=
  (F68 n a0).bind fun (r1 : Int) =>
  (F42 n r1).bind fun (r2 : ByteArray) =>
  some r2
theorem F45_ok (n : Nat) (a0 : Int) : ∀ r, F45 n a0 = some r → D 45 [.one (li .i64 a0)] [] = some (F45_e r) := by
  refine fn_to (D := D) (n := n + 8) (nt := 6) (rs := pc45_r) (c := pc45_c5) (L := [(0, .one (li .i64 a0))]) (M := []) (k := 0) rfl rfl rfl rfl rfl rfl ?_
  unfold F45
  refine Sim.seq ?_
  refine Sim.region0 ?_
  refine SimI.run 1 [(2, .one (ls ByteArray.empty))] [] (by kernel_rfl) ?_
  refine SimI.done (by kernel_rfl) ?_
  refine SimE.thenN ?_
  refine Sim.seq ?_
  refine Sim.region0 ?_
  refine SimI.run 1 [(3, .one (li .i64 a0))] [] (by kernel_rfl) ?_
  refine SimI.bind (og := F68 n a0) { dst := some 4, op := POp.call true [[]] 68 [Operand.tmp 3], guard := none, hints := [] } (fun r1 => [(4, .one (li .u64 r1))]) (fun r1 => []) (by kernel_rfl) (fun r1 hr => pOp_eff (by kernel_rfl) (by kernel_rfl) (eff_call (ARGS := [.one (li .i64 a0)]) (by kernel_rfl) (args_clean (by kernel_rfl) args_nil) (F68_ok n a0 r1 hr) (by kernel_rfl))) (fun r1 => ?_)
  refine SimI.bind (og := F42 n r1) { dst := some 5, op := POp.call true [[]] 42 [Operand.tmp 4], guard := none, hints := [] } (fun r2 => [(5, .one (ls r2))]) (fun r2 => []) (by kernel_rfl) (fun r2 hr => pOp_eff (by kernel_rfl) (by kernel_rfl) (eff_call (ARGS := [.one (li .u64 r1)]) (by kernel_rfl) (args_clean (by kernel_rfl) args_nil) (F42_ok n r1 r2 hr) (by kernel_rfl))) (fun r2 => ?_)
  refine SimI.run 1 [(2, .one (ls r2))] [] (by kernel_rfl) ?_
  refine SimI.done (by kernel_rfl) ?_
  refine SimE.thenN ?_
  refine Sim.ret ?_
  exact SimE.fin (by kernel_rfl)


-- 20: vedette/fields.Bytes
def F20_e : (ByteArray × Int) → PV × List (List Lf) := fun r => (.tup [.one (ls r.1), .one (li .i64 r.2)], [])
def F20_u27 (n : Nat) (s26 : ByteArray) : Option (ByteArray × Int) :=
    some (s26, 0)
theorem F20_u27_ok (n : Nat) (a0 : Delta) (s26 : ByteArray) : SimL Try.prog D (n + 8) (n + 4) pc20_c39 [(1, .one (.ptr 1 0)), (4, .one (ls s26)), (37, .agg [li .i64 a0.F.a0.N, ls a0.F.a0.Text, li .i64 a0.F.a1.N, ls a0.F.a1.Text, li .i64 a0.F.a2.N, ls a0.F.a2.Text, li .i64 a0.F.a3.N, ls a0.F.a3.Text]), (38, .one (li .i64 4))] ((1, some (.cells [li .i64 a0.ID, li .u8 a0.Mask, li .i64 a0.At.X, li .i64 a0.At.Y, li .i64 a0.F.a0.N, ls a0.F.a0.Text, li .i64 a0.F.a1.N, ls a0.F.a1.Text, li .i64 a0.F.a2.N, ls a0.F.a2.Text, li .i64 a0.F.a3.N, ls a0.F.a3.Text])) :: []) (F20_u27 n s26) (QB 0 (QT Try.prog D (n + 8) pc20_c45 (QF pc20_r 0 F20_e))) := by
    unfold F20_u27
    refine SimL.succ ?_
    refine Sim.seq ?_
    refine Sim.region [(1, .one (.ptr 1 0)), (4, .one (ls s26)), (37, .agg [li .i64 a0.F.a0.N, ls a0.F.a0.Text, li .i64 a0.F.a1.N, ls a0.F.a1.Text, li .i64 a0.F.a2.N, ls a0.F.a2.Text, li .i64 a0.F.a3.N, ls a0.F.a3.Text]), (38, .one (li .i64 4))] ((1, some (.cells [li .i64 a0.ID, li .u8 a0.Mask, li .i64 a0.At.X, li .i64 a0.At.Y, li .i64 a0.F.a0.N, ls a0.F.a0.Text, li .i64 a0.F.a1.N, ls a0.F.a1.Text, li .i64 a0.F.a2.N, ls a0.F.a2.Text, li .i64 a0.F.a3.N, ls a0.F.a3.Text])) :: []) (by kernel_rfl) ?_
    refine SimI.run 1 [(39, .one (lb false))] [] (by kernel_rfl) ?_
    refine SimI.done (by kernel_rfl) ?_
    refine SimE.thenN ?_
    refine Sim.seq ?_
    refine Sim.condF (by kernel_rfl) ?_
    refine Sim.exit ?_
    refine SimE.thenX ?_
    refine SimE.loopX ?_
    refine SimE.blockX ?_
    refine SimE.thenN ?_
    refine Sim.seq ?_
    refine Sim.region0 ?_
    refine SimI.run 3 [(3, .one (li .i64 0)), (2, .one (ls s26)), (61, .one (ls s26))] [] (by kernel_rfl) ?_
    refine SimI.done (by kernel_rfl) ?_
    refine SimE.thenN ?_
    refine Sim.ret ?_
    exact SimE.fin (by kernel_rfl)

def F20_u22 (n : Nat) (a0 : Delta) (s21 : ByteArray) : Option (ByteArray × Int) :=
    (F43 n a0.Mask 3).bind fun (r23 : Bool) =>
    if !(r23) then
      F20_u27 n s21
    else
      (F44 n a0.F.a3.Text).bind fun (r24 : ByteArray) =>
      if s21.size + r24.size ≤ 9223372036854775807 then
        if a0.F.a3.Text.toList == ByteArray.empty.toList then
          (F45 n a0.F.a3.N).bind fun (r25 : ByteArray) =>
          if (s21 ++ r24).size + r25.size ≤ 9223372036854775807 then
            F20_u27 n ((s21 ++ r24) ++ r25)
          else none
        else
          F20_u27 n (s21 ++ r24)
      else none
theorem F20_u22_ok (n : Nat) (a0 : Delta) (s21 : ByteArray) : SimL Try.prog D (n + 8) (n + 5) pc20_c39 [(1, .one (.ptr 1 0)), (4, .one (ls s21)), (37, .agg [li .i64 a0.F.a0.N, ls a0.F.a0.Text, li .i64 a0.F.a1.N, ls a0.F.a1.Text, li .i64 a0.F.a2.N, ls a0.F.a2.Text, li .i64 a0.F.a3.N, ls a0.F.a3.Text]), (38, .one (li .i64 3))] ((1, some (.cells [li .i64 a0.ID, li .u8 a0.Mask, li .i64 a0.At.X, li .i64 a0.At.Y, li .i64 a0.F.a0.N, ls a0.F.a0.Text, li .i64 a0.F.a1.N, ls a0.F.a1.Text, li .i64 a0.F.a2.N, ls a0.F.a2.Text, li .i64 a0.F.a3.N, ls a0.F.a3.Text])) :: []) (F20_u22 n a0 s21) (QB 0 (QT Try.prog D (n + 8) pc20_c45 (QF pc20_r 0 F20_e))) := by
    unfold F20_u22
    refine SimL.succ ?_
    refine Sim.seq ?_
    refine Sim.region [(1, .one (.ptr 1 0)), (4, .one (ls s21)), (37, .agg [li .i64 a0.F.a0.N, ls a0.F.a0.Text, li .i64 a0.F.a1.N, ls a0.F.a1.Text, li .i64 a0.F.a2.N, ls a0.F.a2.Text, li .i64 a0.F.a3.N, ls a0.F.a3.Text]), (38, .one (li .i64 3))] ((1, some (.cells [li .i64 a0.ID, li .u8 a0.Mask, li .i64 a0.At.X, li .i64 a0.At.Y, li .i64 a0.F.a0.N, ls a0.F.a0.Text, li .i64 a0.F.a1.N, ls a0.F.a1.Text, li .i64 a0.F.a2.N, ls a0.F.a2.Text, li .i64 a0.F.a3.N, ls a0.F.a3.Text])) :: []) (by kernel_rfl) ?_
    refine SimI.run 1 [(39, .one (lb true))] [] (by kernel_rfl) ?_
    refine SimI.done (by kernel_rfl) ?_
    refine SimE.thenN ?_
    refine Sim.seq ?_
    refine Sim.condT (by kernel_rfl) ?_
    refine Sim.skip ?_
    refine SimE.thenN ?_
    refine Sim.seq ?_
    refine Sim.block ?_
    refine Sim.seq ?_
    refine Sim.region0 ?_
    refine SimI.run 5 [(5, .one (li .i64 3)), (6, .one (.ptr 6 0)), (41, .agg [li .i64 a0.F.a3.N, ls a0.F.a3.Text]), (40, .one (li .i64 3))] [(6, some (.cells [li .i64 a0.F.a3.N, ls a0.F.a3.Text])), (6, some (.cells [li .i64 0, ls ByteArray.empty]))] (by kernel_rfl) ?_
    refine SimI.done (by kernel_rfl) ?_
    refine SimE.thenN ?_
    refine Sim.seq ?_
    refine Sim.seq ?_
    refine Sim.region0 ?_
    refine SimI.run 3 [(44, .one (li .i64 3)), (43, .one (li .u8 a0.Mask)), (42, .one (.ptr 1 1))] [] (by kernel_rfl) ?_
    refine SimI.bind (og := F43 n a0.Mask 3) { dst := some 45, op := POp.call true [[], []] 43 [Operand.tmp 43, Operand.tmp 44], guard := none, hints := [] } (fun r23 => [(45, .one (lb r23))]) (fun r23 => []) (by kernel_rfl) (fun r23 hr => pOp_eff (by kernel_rfl) (by kernel_rfl) (eff_call (ARGS := [.one (li .u8 a0.Mask), .one (li .i64 3)]) (by kernel_rfl) (args_clean (by kernel_rfl) (args_clean (by kernel_rfl) args_nil)) (F43_ok n a0.Mask 3 r23 hr) (by kernel_rfl))) (fun r23 => ?_)
    refine SimI.run 1 [(46, .one (lb (!(r23))))] [] (by kernel_rfl) ?_
    refine SimI.done (by kernel_rfl) ?_
    refine SimE.thenN ?_
    refine Sim.cond (!(r23)) (by kernel_rfl) ?_ ?_
    · refine Sim.exit ?_
      refine SimE.thenX ?_
      refine SimE.blockX ?_
      refine SimE.thenN ?_
      refine Sim.region0 ?_
      refine SimI.run 2 [(38, .one (li .i64 4)), (60, .one (li .i64 4))] [] (by kernel_rfl) ?_
      refine SimI.done (by kernel_rfl) ?_
      refine SimE.loopN ?_
      refine SimL.pre (ts := [1, 4, 37, 38]) (os := [1, 6]) [(1, .one (.ptr 1 0)), (4, .one (ls s21)), (37, .agg [li .i64 a0.F.a0.N, ls a0.F.a0.Text, li .i64 a0.F.a1.N, ls a0.F.a1.Text, li .i64 a0.F.a2.N, ls a0.F.a2.Text, li .i64 a0.F.a3.N, ls a0.F.a3.Text]), (38, .one (li .i64 4))] ((1, some (.cells [li .i64 a0.ID, li .u8 a0.Mask, li .i64 a0.At.X, li .i64 a0.At.Y, li .i64 a0.F.a0.N, ls a0.F.a0.Text, li .i64 a0.F.a1.N, ls a0.F.a1.Text, li .i64 a0.F.a2.N, ls a0.F.a2.Text, li .i64 a0.F.a3.N, ls a0.F.a3.Text])) :: []) (by kernel_rfl) (by kernel_rfl) (by kernel_rfl) ?_
      exact F20_u27_ok n a0 s21
    · refine Sim.skip ?_
      refine SimE.thenN ?_
      refine Sim.seq ?_
      refine Sim.region0 ?_
      refine SimI.run 3 [(49, .one (ls a0.F.a3.Text)), (48, .one (.ptr 6 1)), (47, .one (ls s21))] [] (by kernel_rfl) ?_
      refine SimI.bind (og := F44 n a0.F.a3.Text) { dst := some 50, op := POp.call true [[]] 44 [Operand.tmp 49], guard := none, hints := [] } (fun r24 => [(50, .one (ls r24))]) (fun r24 => []) (by kernel_rfl) (fun r24 hr => pOp_eff (by kernel_rfl) (by kernel_rfl) (eff_call (ARGS := [.one (ls a0.F.a3.Text)]) (by kernel_rfl) (args_clean (by kernel_rfl) args_nil) (F44_ok n a0.F.a3.Text r24 hr) (by kernel_rfl))) (fun r24 => ?_)
      refine SimI.guard (c := s21.size + r24.size ≤ 9223372036854775807) { dst := some 51, op := POp.prim (Prim.bin BinOp.add 9 false false) [Operand.tmp 47, Operand.tmp 50], guard := none, hints := [] } [(51, .one (ls (s21 ++ r24)))] [] (by kernel_rfl) (fun hc => pOp_eff (by kernel_rfl) (by kernel_rfl) (eff_prim (by kernel_rfl) (pr_addS _ _ _ s21 r24 hc))) ?_
      refine SimI.run 1 [(4, .one (ls (s21 ++ r24)))] [] (by kernel_rfl) ?_
      refine SimI.done (by kernel_rfl) ?_
      refine SimE.thenN ?_
      refine Sim.seq ?_
      refine Sim.region0 ?_
      refine SimI.run 3 [(54, .one (lb (a0.F.a3.Text.toList == ByteArray.empty.toList))), (53, .one (ls a0.F.a3.Text)), (52, .one (.ptr 6 1))] [] (by kernel_rfl) ?_
      refine SimI.done (by kernel_rfl) ?_
      refine SimE.thenN ?_
      refine Sim.cond (a0.F.a3.Text.toList == ByteArray.empty.toList) (by kernel_rfl) ?_ ?_
      · refine Sim.region0 ?_
        refine SimI.run 3 [(57, .one (li .i64 a0.F.a3.N)), (56, .one (.ptr 6 0)), (55, .one (ls (s21 ++ r24)))] [] (by kernel_rfl) ?_
        refine SimI.bind (og := F45 n a0.F.a3.N) { dst := some 58, op := POp.call true [[]] 45 [Operand.tmp 57], guard := none, hints := [] } (fun r25 => [(58, .one (ls r25))]) (fun r25 => []) (by kernel_rfl) (fun r25 hr => pOp_eff (by kernel_rfl) (by kernel_rfl) (eff_call (ARGS := [.one (li .i64 a0.F.a3.N)]) (by kernel_rfl) (args_clean (by kernel_rfl) args_nil) (F45_ok n a0.F.a3.N r25 hr) (by kernel_rfl))) (fun r25 => ?_)
        refine SimI.guard (c := (s21 ++ r24).size + r25.size ≤ 9223372036854775807) { dst := some 59, op := POp.prim (Prim.bin BinOp.add 9 false false) [Operand.tmp 55, Operand.tmp 58], guard := none, hints := [] } [(59, .one (ls ((s21 ++ r24) ++ r25)))] [] (by kernel_rfl) (fun hc => pOp_eff (by kernel_rfl) (by kernel_rfl) (eff_prim (by kernel_rfl) (pr_addS _ _ _ (s21 ++ r24) r25 hc))) ?_
        refine SimI.run 1 [(4, .one (ls ((s21 ++ r24) ++ r25)))] [] (by kernel_rfl) ?_
        refine SimI.done (by kernel_rfl) ?_
        refine SimE.blockN ?_
        refine SimE.thenN ?_
        refine Sim.region0 ?_
        refine SimI.run 2 [(38, .one (li .i64 4)), (60, .one (li .i64 4))] [] (by kernel_rfl) ?_
        refine SimI.done (by kernel_rfl) ?_
        refine SimE.loopN ?_
        refine SimL.pre (ts := [1, 4, 37, 38]) (os := [1, 6]) [(1, .one (.ptr 1 0)), (4, .one (ls ((s21 ++ r24) ++ r25))), (37, .agg [li .i64 a0.F.a0.N, ls a0.F.a0.Text, li .i64 a0.F.a1.N, ls a0.F.a1.Text, li .i64 a0.F.a2.N, ls a0.F.a2.Text, li .i64 a0.F.a3.N, ls a0.F.a3.Text]), (38, .one (li .i64 4))] ((1, some (.cells [li .i64 a0.ID, li .u8 a0.Mask, li .i64 a0.At.X, li .i64 a0.At.Y, li .i64 a0.F.a0.N, ls a0.F.a0.Text, li .i64 a0.F.a1.N, ls a0.F.a1.Text, li .i64 a0.F.a2.N, ls a0.F.a2.Text, li .i64 a0.F.a3.N, ls a0.F.a3.Text])) :: []) (by kernel_rfl) (by kernel_rfl) (by kernel_rfl) ?_
        exact F20_u27_ok n a0 ((s21 ++ r24) ++ r25)
      · refine Sim.skip ?_
        refine SimE.blockN ?_
        refine SimE.thenN ?_
        refine Sim.region0 ?_
        refine SimI.run 2 [(38, .one (li .i64 4)), (60, .one (li .i64 4))] [] (by kernel_rfl) ?_
        refine SimI.done (by kernel_rfl) ?_
        refine SimE.loopN ?_
        refine SimL.pre (ts := [1, 4, 37, 38]) (os := [1, 6]) [(1, .one (.ptr 1 0)), (4, .one (ls (s21 ++ r24))), (37, .agg [li .i64 a0.F.a0.N, ls a0.F.a0.Text, li .i64 a0.F.a1.N, ls a0.F.a1.Text, li .i64 a0.F.a2.N, ls a0.F.a2.Text, li .i64 a0.F.a3.N, ls a0.F.a3.Text]), (38, .one (li .i64 4))] ((1, some (.cells [li .i64 a0.ID, li .u8 a0.Mask, li .i64 a0.At.X, li .i64 a0.At.Y, li .i64 a0.F.a0.N, ls a0.F.a0.Text, li .i64 a0.F.a1.N, ls a0.F.a1.Text, li .i64 a0.F.a2.N, ls a0.F.a2.Text, li .i64 a0.F.a3.N, ls a0.F.a3.Text])) :: []) (by kernel_rfl) (by kernel_rfl) (by kernel_rfl) ?_
        exact F20_u27_ok n a0 (s21 ++ r24)

def F20_u17 (n : Nat) (a0 : Delta) (s16 : ByteArray) : Option (ByteArray × Int) :=
    (F43 n a0.Mask 2).bind fun (r18 : Bool) =>
    if !(r18) then
      F20_u22 n a0 s16
    else
      (F44 n a0.F.a2.Text).bind fun (r19 : ByteArray) =>
      if s16.size + r19.size ≤ 9223372036854775807 then
        if a0.F.a2.Text.toList == ByteArray.empty.toList then
          (F45 n a0.F.a2.N).bind fun (r20 : ByteArray) =>
          if (s16 ++ r19).size + r20.size ≤ 9223372036854775807 then
            F20_u22 n a0 ((s16 ++ r19) ++ r20)
          else none
        else
          F20_u22 n a0 (s16 ++ r19)
      else none
theorem F20_u17_ok (n : Nat) (a0 : Delta) (s16 : ByteArray) : SimL Try.prog D (n + 8) (n + 6) pc20_c39 [(1, .one (.ptr 1 0)), (4, .one (ls s16)), (37, .agg [li .i64 a0.F.a0.N, ls a0.F.a0.Text, li .i64 a0.F.a1.N, ls a0.F.a1.Text, li .i64 a0.F.a2.N, ls a0.F.a2.Text, li .i64 a0.F.a3.N, ls a0.F.a3.Text]), (38, .one (li .i64 2))] ((1, some (.cells [li .i64 a0.ID, li .u8 a0.Mask, li .i64 a0.At.X, li .i64 a0.At.Y, li .i64 a0.F.a0.N, ls a0.F.a0.Text, li .i64 a0.F.a1.N, ls a0.F.a1.Text, li .i64 a0.F.a2.N, ls a0.F.a2.Text, li .i64 a0.F.a3.N, ls a0.F.a3.Text])) :: []) (F20_u17 n a0 s16) (QB 0 (QT Try.prog D (n + 8) pc20_c45 (QF pc20_r 0 F20_e))) := by
    unfold F20_u17
    refine SimL.succ ?_
    refine Sim.seq ?_
    refine Sim.region [(1, .one (.ptr 1 0)), (4, .one (ls s16)), (37, .agg [li .i64 a0.F.a0.N, ls a0.F.a0.Text, li .i64 a0.F.a1.N, ls a0.F.a1.Text, li .i64 a0.F.a2.N, ls a0.F.a2.Text, li .i64 a0.F.a3.N, ls a0.F.a3.Text]), (38, .one (li .i64 2))] ((1, some (.cells [li .i64 a0.ID, li .u8 a0.Mask, li .i64 a0.At.X, li .i64 a0.At.Y, li .i64 a0.F.a0.N, ls a0.F.a0.Text, li .i64 a0.F.a1.N, ls a0.F.a1.Text, li .i64 a0.F.a2.N, ls a0.F.a2.Text, li .i64 a0.F.a3.N, ls a0.F.a3.Text])) :: []) (by kernel_rfl) ?_
    refine SimI.run 1 [(39, .one (lb true))] [] (by kernel_rfl) ?_
    refine SimI.done (by kernel_rfl) ?_
    refine SimE.thenN ?_
    refine Sim.seq ?_
    refine Sim.condT (by kernel_rfl) ?_
    refine Sim.skip ?_
    refine SimE.thenN ?_
    refine Sim.seq ?_
    refine Sim.block ?_
    refine Sim.seq ?_
    refine Sim.region0 ?_
    refine SimI.run 5 [(5, .one (li .i64 2)), (6, .one (.ptr 6 0)), (41, .agg [li .i64 a0.F.a2.N, ls a0.F.a2.Text]), (40, .one (li .i64 2))] [(6, some (.cells [li .i64 a0.F.a2.N, ls a0.F.a2.Text])), (6, some (.cells [li .i64 0, ls ByteArray.empty]))] (by kernel_rfl) ?_
    refine SimI.done (by kernel_rfl) ?_
    refine SimE.thenN ?_
    refine Sim.seq ?_
    refine Sim.seq ?_
    refine Sim.region0 ?_
    refine SimI.run 3 [(44, .one (li .i64 2)), (43, .one (li .u8 a0.Mask)), (42, .one (.ptr 1 1))] [] (by kernel_rfl) ?_
    refine SimI.bind (og := F43 n a0.Mask 2) { dst := some 45, op := POp.call true [[], []] 43 [Operand.tmp 43, Operand.tmp 44], guard := none, hints := [] } (fun r18 => [(45, .one (lb r18))]) (fun r18 => []) (by kernel_rfl) (fun r18 hr => pOp_eff (by kernel_rfl) (by kernel_rfl) (eff_call (ARGS := [.one (li .u8 a0.Mask), .one (li .i64 2)]) (by kernel_rfl) (args_clean (by kernel_rfl) (args_clean (by kernel_rfl) args_nil)) (F43_ok n a0.Mask 2 r18 hr) (by kernel_rfl))) (fun r18 => ?_)
    refine SimI.run 1 [(46, .one (lb (!(r18))))] [] (by kernel_rfl) ?_
    refine SimI.done (by kernel_rfl) ?_
    refine SimE.thenN ?_
    refine Sim.cond (!(r18)) (by kernel_rfl) ?_ ?_
    · refine Sim.exit ?_
      refine SimE.thenX ?_
      refine SimE.blockX ?_
      refine SimE.thenN ?_
      refine Sim.region0 ?_
      refine SimI.run 2 [(38, .one (li .i64 3)), (60, .one (li .i64 3))] [] (by kernel_rfl) ?_
      refine SimI.done (by kernel_rfl) ?_
      refine SimE.loopN ?_
      refine SimL.pre (ts := [1, 4, 37, 38]) (os := [1, 6]) [(1, .one (.ptr 1 0)), (4, .one (ls s16)), (37, .agg [li .i64 a0.F.a0.N, ls a0.F.a0.Text, li .i64 a0.F.a1.N, ls a0.F.a1.Text, li .i64 a0.F.a2.N, ls a0.F.a2.Text, li .i64 a0.F.a3.N, ls a0.F.a3.Text]), (38, .one (li .i64 3))] ((1, some (.cells [li .i64 a0.ID, li .u8 a0.Mask, li .i64 a0.At.X, li .i64 a0.At.Y, li .i64 a0.F.a0.N, ls a0.F.a0.Text, li .i64 a0.F.a1.N, ls a0.F.a1.Text, li .i64 a0.F.a2.N, ls a0.F.a2.Text, li .i64 a0.F.a3.N, ls a0.F.a3.Text])) :: []) (by kernel_rfl) (by kernel_rfl) (by kernel_rfl) ?_
      exact F20_u22_ok n a0 s16
    · refine Sim.skip ?_
      refine SimE.thenN ?_
      refine Sim.seq ?_
      refine Sim.region0 ?_
      refine SimI.run 3 [(49, .one (ls a0.F.a2.Text)), (48, .one (.ptr 6 1)), (47, .one (ls s16))] [] (by kernel_rfl) ?_
      refine SimI.bind (og := F44 n a0.F.a2.Text) { dst := some 50, op := POp.call true [[]] 44 [Operand.tmp 49], guard := none, hints := [] } (fun r19 => [(50, .one (ls r19))]) (fun r19 => []) (by kernel_rfl) (fun r19 hr => pOp_eff (by kernel_rfl) (by kernel_rfl) (eff_call (ARGS := [.one (ls a0.F.a2.Text)]) (by kernel_rfl) (args_clean (by kernel_rfl) args_nil) (F44_ok n a0.F.a2.Text r19 hr) (by kernel_rfl))) (fun r19 => ?_)
      refine SimI.guard (c := s16.size + r19.size ≤ 9223372036854775807) { dst := some 51, op := POp.prim (Prim.bin BinOp.add 9 false false) [Operand.tmp 47, Operand.tmp 50], guard := none, hints := [] } [(51, .one (ls (s16 ++ r19)))] [] (by kernel_rfl) (fun hc => pOp_eff (by kernel_rfl) (by kernel_rfl) (eff_prim (by kernel_rfl) (pr_addS _ _ _ s16 r19 hc))) ?_
      refine SimI.run 1 [(4, .one (ls (s16 ++ r19)))] [] (by kernel_rfl) ?_
      refine SimI.done (by kernel_rfl) ?_
      refine SimE.thenN ?_
      refine Sim.seq ?_
      refine Sim.region0 ?_
      refine SimI.run 3 [(54, .one (lb (a0.F.a2.Text.toList == ByteArray.empty.toList))), (53, .one (ls a0.F.a2.Text)), (52, .one (.ptr 6 1))] [] (by kernel_rfl) ?_
      refine SimI.done (by kernel_rfl) ?_
      refine SimE.thenN ?_
      refine Sim.cond (a0.F.a2.Text.toList == ByteArray.empty.toList) (by kernel_rfl) ?_ ?_
      · refine Sim.region0 ?_
        refine SimI.run 3 [(57, .one (li .i64 a0.F.a2.N)), (56, .one (.ptr 6 0)), (55, .one (ls (s16 ++ r19)))] [] (by kernel_rfl) ?_
        refine SimI.bind (og := F45 n a0.F.a2.N) { dst := some 58, op := POp.call true [[]] 45 [Operand.tmp 57], guard := none, hints := [] } (fun r20 => [(58, .one (ls r20))]) (fun r20 => []) (by kernel_rfl) (fun r20 hr => pOp_eff (by kernel_rfl) (by kernel_rfl) (eff_call (ARGS := [.one (li .i64 a0.F.a2.N)]) (by kernel_rfl) (args_clean (by kernel_rfl) args_nil) (F45_ok n a0.F.a2.N r20 hr) (by kernel_rfl))) (fun r20 => ?_)
        refine SimI.guard (c := (s16 ++ r19).size + r20.size ≤ 9223372036854775807) { dst := some 59, op := POp.prim (Prim.bin BinOp.add 9 false false) [Operand.tmp 55, Operand.tmp 58], guard := none, hints := [] } [(59, .one (ls ((s16 ++ r19) ++ r20)))] [] (by kernel_rfl) (fun hc => pOp_eff (by kernel_rfl) (by kernel_rfl) (eff_prim (by kernel_rfl) (pr_addS _ _ _ (s16 ++ r19) r20 hc))) ?_
        refine SimI.run 1 [(4, .one (ls ((s16 ++ r19) ++ r20)))] [] (by kernel_rfl) ?_
        refine SimI.done (by kernel_rfl) ?_
        refine SimE.blockN ?_
        refine SimE.thenN ?_
        refine Sim.region0 ?_
        refine SimI.run 2 [(38, .one (li .i64 3)), (60, .one (li .i64 3))] [] (by kernel_rfl) ?_
        refine SimI.done (by kernel_rfl) ?_
        refine SimE.loopN ?_
        refine SimL.pre (ts := [1, 4, 37, 38]) (os := [1, 6]) [(1, .one (.ptr 1 0)), (4, .one (ls ((s16 ++ r19) ++ r20))), (37, .agg [li .i64 a0.F.a0.N, ls a0.F.a0.Text, li .i64 a0.F.a1.N, ls a0.F.a1.Text, li .i64 a0.F.a2.N, ls a0.F.a2.Text, li .i64 a0.F.a3.N, ls a0.F.a3.Text]), (38, .one (li .i64 3))] ((1, some (.cells [li .i64 a0.ID, li .u8 a0.Mask, li .i64 a0.At.X, li .i64 a0.At.Y, li .i64 a0.F.a0.N, ls a0.F.a0.Text, li .i64 a0.F.a1.N, ls a0.F.a1.Text, li .i64 a0.F.a2.N, ls a0.F.a2.Text, li .i64 a0.F.a3.N, ls a0.F.a3.Text])) :: []) (by kernel_rfl) (by kernel_rfl) (by kernel_rfl) ?_
        exact F20_u22_ok n a0 ((s16 ++ r19) ++ r20)
      · refine Sim.skip ?_
        refine SimE.blockN ?_
        refine SimE.thenN ?_
        refine Sim.region0 ?_
        refine SimI.run 2 [(38, .one (li .i64 3)), (60, .one (li .i64 3))] [] (by kernel_rfl) ?_
        refine SimI.done (by kernel_rfl) ?_
        refine SimE.loopN ?_
        refine SimL.pre (ts := [1, 4, 37, 38]) (os := [1, 6]) [(1, .one (.ptr 1 0)), (4, .one (ls (s16 ++ r19))), (37, .agg [li .i64 a0.F.a0.N, ls a0.F.a0.Text, li .i64 a0.F.a1.N, ls a0.F.a1.Text, li .i64 a0.F.a2.N, ls a0.F.a2.Text, li .i64 a0.F.a3.N, ls a0.F.a3.Text]), (38, .one (li .i64 3))] ((1, some (.cells [li .i64 a0.ID, li .u8 a0.Mask, li .i64 a0.At.X, li .i64 a0.At.Y, li .i64 a0.F.a0.N, ls a0.F.a0.Text, li .i64 a0.F.a1.N, ls a0.F.a1.Text, li .i64 a0.F.a2.N, ls a0.F.a2.Text, li .i64 a0.F.a3.N, ls a0.F.a3.Text])) :: []) (by kernel_rfl) (by kernel_rfl) (by kernel_rfl) ?_
        exact F20_u22_ok n a0 (s16 ++ r19)

def F20_u12 (n : Nat) (a0 : Delta) (s11 : ByteArray) : Option (ByteArray × Int) :=
    (F43 n a0.Mask 1).bind fun (r13 : Bool) =>
    if !(r13) then
      F20_u17 n a0 s11
    else
      (F44 n a0.F.a1.Text).bind fun (r14 : ByteArray) =>
      if s11.size + r14.size ≤ 9223372036854775807 then
        if a0.F.a1.Text.toList == ByteArray.empty.toList then
          (F45 n a0.F.a1.N).bind fun (r15 : ByteArray) =>
          if (s11 ++ r14).size + r15.size ≤ 9223372036854775807 then
            F20_u17 n a0 ((s11 ++ r14) ++ r15)
          else none
        else
          F20_u17 n a0 (s11 ++ r14)
      else none
theorem F20_u12_ok (n : Nat) (a0 : Delta) (s11 : ByteArray) : SimL Try.prog D (n + 8) (n + 7) pc20_c39 [(1, .one (.ptr 1 0)), (4, .one (ls s11)), (37, .agg [li .i64 a0.F.a0.N, ls a0.F.a0.Text, li .i64 a0.F.a1.N, ls a0.F.a1.Text, li .i64 a0.F.a2.N, ls a0.F.a2.Text, li .i64 a0.F.a3.N, ls a0.F.a3.Text]), (38, .one (li .i64 1))] ((1, some (.cells [li .i64 a0.ID, li .u8 a0.Mask, li .i64 a0.At.X, li .i64 a0.At.Y, li .i64 a0.F.a0.N, ls a0.F.a0.Text, li .i64 a0.F.a1.N, ls a0.F.a1.Text, li .i64 a0.F.a2.N, ls a0.F.a2.Text, li .i64 a0.F.a3.N, ls a0.F.a3.Text])) :: []) (F20_u12 n a0 s11) (QB 0 (QT Try.prog D (n + 8) pc20_c45 (QF pc20_r 0 F20_e))) := by
    unfold F20_u12
    refine SimL.succ ?_
    refine Sim.seq ?_
    refine Sim.region [(1, .one (.ptr 1 0)), (4, .one (ls s11)), (37, .agg [li .i64 a0.F.a0.N, ls a0.F.a0.Text, li .i64 a0.F.a1.N, ls a0.F.a1.Text, li .i64 a0.F.a2.N, ls a0.F.a2.Text, li .i64 a0.F.a3.N, ls a0.F.a3.Text]), (38, .one (li .i64 1))] ((1, some (.cells [li .i64 a0.ID, li .u8 a0.Mask, li .i64 a0.At.X, li .i64 a0.At.Y, li .i64 a0.F.a0.N, ls a0.F.a0.Text, li .i64 a0.F.a1.N, ls a0.F.a1.Text, li .i64 a0.F.a2.N, ls a0.F.a2.Text, li .i64 a0.F.a3.N, ls a0.F.a3.Text])) :: []) (by kernel_rfl) ?_
    refine SimI.run 1 [(39, .one (lb true))] [] (by kernel_rfl) ?_
    refine SimI.done (by kernel_rfl) ?_
    refine SimE.thenN ?_
    refine Sim.seq ?_
    refine Sim.condT (by kernel_rfl) ?_
    refine Sim.skip ?_
    refine SimE.thenN ?_
    refine Sim.seq ?_
    refine Sim.block ?_
    refine Sim.seq ?_
    refine Sim.region0 ?_
    refine SimI.run 5 [(5, .one (li .i64 1)), (6, .one (.ptr 6 0)), (41, .agg [li .i64 a0.F.a1.N, ls a0.F.a1.Text]), (40, .one (li .i64 1))] [(6, some (.cells [li .i64 a0.F.a1.N, ls a0.F.a1.Text])), (6, some (.cells [li .i64 0, ls ByteArray.empty]))] (by kernel_rfl) ?_
    refine SimI.done (by kernel_rfl) ?_
    refine SimE.thenN ?_
    refine Sim.seq ?_
    refine Sim.seq ?_
    refine Sim.region0 ?_
    refine SimI.run 3 [(44, .one (li .i64 1)), (43, .one (li .u8 a0.Mask)), (42, .one (.ptr 1 1))] [] (by kernel_rfl) ?_
    refine SimI.bind (og := F43 n a0.Mask 1) { dst := some 45, op := POp.call true [[], []] 43 [Operand.tmp 43, Operand.tmp 44], guard := none, hints := [] } (fun r13 => [(45, .one (lb r13))]) (fun r13 => []) (by kernel_rfl) (fun r13 hr => pOp_eff (by kernel_rfl) (by kernel_rfl) (eff_call (ARGS := [.one (li .u8 a0.Mask), .one (li .i64 1)]) (by kernel_rfl) (args_clean (by kernel_rfl) (args_clean (by kernel_rfl) args_nil)) (F43_ok n a0.Mask 1 r13 hr) (by kernel_rfl))) (fun r13 => ?_)
    refine SimI.run 1 [(46, .one (lb (!(r13))))] [] (by kernel_rfl) ?_
    refine SimI.done (by kernel_rfl) ?_
    refine SimE.thenN ?_
    refine Sim.cond (!(r13)) (by kernel_rfl) ?_ ?_
    · refine Sim.exit ?_
      refine SimE.thenX ?_
      refine SimE.blockX ?_
      refine SimE.thenN ?_
      refine Sim.region0 ?_
      refine SimI.run 2 [(38, .one (li .i64 2)), (60, .one (li .i64 2))] [] (by kernel_rfl) ?_
      refine SimI.done (by kernel_rfl) ?_
      refine SimE.loopN ?_
      refine SimL.pre (ts := [1, 4, 37, 38]) (os := [1, 6]) [(1, .one (.ptr 1 0)), (4, .one (ls s11)), (37, .agg [li .i64 a0.F.a0.N, ls a0.F.a0.Text, li .i64 a0.F.a1.N, ls a0.F.a1.Text, li .i64 a0.F.a2.N, ls a0.F.a2.Text, li .i64 a0.F.a3.N, ls a0.F.a3.Text]), (38, .one (li .i64 2))] ((1, some (.cells [li .i64 a0.ID, li .u8 a0.Mask, li .i64 a0.At.X, li .i64 a0.At.Y, li .i64 a0.F.a0.N, ls a0.F.a0.Text, li .i64 a0.F.a1.N, ls a0.F.a1.Text, li .i64 a0.F.a2.N, ls a0.F.a2.Text, li .i64 a0.F.a3.N, ls a0.F.a3.Text])) :: []) (by kernel_rfl) (by kernel_rfl) (by kernel_rfl) ?_
      exact F20_u17_ok n a0 s11
    · refine Sim.skip ?_
      refine SimE.thenN ?_
      refine Sim.seq ?_
      refine Sim.region0 ?_
      refine SimI.run 3 [(49, .one (ls a0.F.a1.Text)), (48, .one (.ptr 6 1)), (47, .one (ls s11))] [] (by kernel_rfl) ?_
      refine SimI.bind (og := F44 n a0.F.a1.Text) { dst := some 50, op := POp.call true [[]] 44 [Operand.tmp 49], guard := none, hints := [] } (fun r14 => [(50, .one (ls r14))]) (fun r14 => []) (by kernel_rfl) (fun r14 hr => pOp_eff (by kernel_rfl) (by kernel_rfl) (eff_call (ARGS := [.one (ls a0.F.a1.Text)]) (by kernel_rfl) (args_clean (by kernel_rfl) args_nil) (F44_ok n a0.F.a1.Text r14 hr) (by kernel_rfl))) (fun r14 => ?_)
      refine SimI.guard (c := s11.size + r14.size ≤ 9223372036854775807) { dst := some 51, op := POp.prim (Prim.bin BinOp.add 9 false false) [Operand.tmp 47, Operand.tmp 50], guard := none, hints := [] } [(51, .one (ls (s11 ++ r14)))] [] (by kernel_rfl) (fun hc => pOp_eff (by kernel_rfl) (by kernel_rfl) (eff_prim (by kernel_rfl) (pr_addS _ _ _ s11 r14 hc))) ?_
      refine SimI.run 1 [(4, .one (ls (s11 ++ r14)))] [] (by kernel_rfl) ?_
      refine SimI.done (by kernel_rfl) ?_
      refine SimE.thenN ?_
      refine Sim.seq ?_
      refine Sim.region0 ?_
      refine SimI.run 3 [(54, .one (lb (a0.F.a1.Text.toList == ByteArray.empty.toList))), (53, .one (ls a0.F.a1.Text)), (52, .one (.ptr 6 1))] [] (by kernel_rfl) ?_
      refine SimI.done (by kernel_rfl) ?_
      refine SimE.thenN ?_
      refine Sim.cond (a0.F.a1.Text.toList == ByteArray.empty.toList) (by kernel_rfl) ?_ ?_
      · refine Sim.region0 ?_
        refine SimI.run 3 [(57, .one (li .i64 a0.F.a1.N)), (56, .one (.ptr 6 0)), (55, .one (ls (s11 ++ r14)))] [] (by kernel_rfl) ?_
        refine SimI.bind (og := F45 n a0.F.a1.N) { dst := some 58, op := POp.call true [[]] 45 [Operand.tmp 57], guard := none, hints := [] } (fun r15 => [(58, .one (ls r15))]) (fun r15 => []) (by kernel_rfl) (fun r15 hr => pOp_eff (by kernel_rfl) (by kernel_rfl) (eff_call (ARGS := [.one (li .i64 a0.F.a1.N)]) (by kernel_rfl) (args_clean (by kernel_rfl) args_nil) (F45_ok n a0.F.a1.N r15 hr) (by kernel_rfl))) (fun r15 => ?_)
        refine SimI.guard (c := (s11 ++ r14).size + r15.size ≤ 9223372036854775807) { dst := some 59, op := POp.prim (Prim.bin BinOp.add 9 false false) [Operand.tmp 55, Operand.tmp 58], guard := none, hints := [] } [(59, .one (ls ((s11 ++ r14) ++ r15)))] [] (by kernel_rfl) (fun hc => pOp_eff (by kernel_rfl) (by kernel_rfl) (eff_prim (by kernel_rfl) (pr_addS _ _ _ (s11 ++ r14) r15 hc))) ?_
        refine SimI.run 1 [(4, .one (ls ((s11 ++ r14) ++ r15)))] [] (by kernel_rfl) ?_
        refine SimI.done (by kernel_rfl) ?_
        refine SimE.blockN ?_
        refine SimE.thenN ?_
        refine Sim.region0 ?_
        refine SimI.run 2 [(38, .one (li .i64 2)), (60, .one (li .i64 2))] [] (by kernel_rfl) ?_
        refine SimI.done (by kernel_rfl) ?_
        refine SimE.loopN ?_
        refine SimL.pre (ts := [1, 4, 37, 38]) (os := [1, 6]) [(1, .one (.ptr 1 0)), (4, .one (ls ((s11 ++ r14) ++ r15))), (37, .agg [li .i64 a0.F.a0.N, ls a0.F.a0.Text, li .i64 a0.F.a1.N, ls a0.F.a1.Text, li .i64 a0.F.a2.N, ls a0.F.a2.Text, li .i64 a0.F.a3.N, ls a0.F.a3.Text]), (38, .one (li .i64 2))] ((1, some (.cells [li .i64 a0.ID, li .u8 a0.Mask, li .i64 a0.At.X, li .i64 a0.At.Y, li .i64 a0.F.a0.N, ls a0.F.a0.Text, li .i64 a0.F.a1.N, ls a0.F.a1.Text, li .i64 a0.F.a2.N, ls a0.F.a2.Text, li .i64 a0.F.a3.N, ls a0.F.a3.Text])) :: []) (by kernel_rfl) (by kernel_rfl) (by kernel_rfl) ?_
        exact F20_u17_ok n a0 ((s11 ++ r14) ++ r15)
      · refine Sim.skip ?_
        refine SimE.blockN ?_
        refine SimE.thenN ?_
        refine Sim.region0 ?_
        refine SimI.run 2 [(38, .one (li .i64 2)), (60, .one (li .i64 2))] [] (by kernel_rfl) ?_
        refine SimI.done (by kernel_rfl) ?_
        refine SimE.loopN ?_
        refine SimL.pre (ts := [1, 4, 37, 38]) (os := [1, 6]) [(1, .one (.ptr 1 0)), (4, .one (ls (s11 ++ r14))), (37, .agg [li .i64 a0.F.a0.N, ls a0.F.a0.Text, li .i64 a0.F.a1.N, ls a0.F.a1.Text, li .i64 a0.F.a2.N, ls a0.F.a2.Text, li .i64 a0.F.a3.N, ls a0.F.a3.Text]), (38, .one (li .i64 2))] ((1, some (.cells [li .i64 a0.ID, li .u8 a0.Mask, li .i64 a0.At.X, li .i64 a0.At.Y, li .i64 a0.F.a0.N, ls a0.F.a0.Text, li .i64 a0.F.a1.N, ls a0.F.a1.Text, li .i64 a0.F.a2.N, ls a0.F.a2.Text, li .i64 a0.F.a3.N, ls a0.F.a3.Text])) :: []) (by kernel_rfl) (by kernel_rfl) (by kernel_rfl) ?_
        exact F20_u17_ok n a0 (s11 ++ r14)

def F20_j7 (n : Nat) (a0 : Delta) (s6 : ByteArray) : Option (ByteArray × Int) :=
    (F43 n a0.Mask 0).bind fun (r8 : Bool) =>
    if !(r8) then
      F20_u12 n a0 s6
    else
      (F44 n a0.F.a0.Text).bind fun (r9 : ByteArray) =>
      if s6.size + r9.size ≤ 9223372036854775807 then
        if a0.F.a0.Text.toList == ByteArray.empty.toList then
          (F45 n a0.F.a0.N).bind fun (r10 : ByteArray) =>
          if (s6 ++ r9).size + r10.size ≤ 9223372036854775807 then
            F20_u12 n a0 ((s6 ++ r9) ++ r10)
          else none
        else
          F20_u12 n a0 (s6 ++ r9)
      else none
theorem F20_j7_ok (n : Nat) (a0 : Delta) (s6 : ByteArray) : Sim Try.prog D (n + 8) pc20_c46 [(1, .one (.ptr 1 0)), (4, .one (ls s6))] ((1, some (.cells [li .i64 a0.ID, li .u8 a0.Mask, li .i64 a0.At.X, li .i64 a0.At.Y, li .i64 a0.F.a0.N, ls a0.F.a0.Text, li .i64 a0.F.a1.N, ls a0.F.a1.Text, li .i64 a0.F.a2.N, ls a0.F.a2.Text, li .i64 a0.F.a3.N, ls a0.F.a3.Text])) :: []) (F20_j7 n a0 s6) (QF pc20_r 0 F20_e) := by
    unfold F20_j7
    refine Sim.seq ?_
    refine Sim.seq ?_
    refine Sim.region [(1, .one (.ptr 1 0)), (4, .one (ls s6))] ((1, some (.cells [li .i64 a0.ID, li .u8 a0.Mask, li .i64 a0.At.X, li .i64 a0.At.Y, li .i64 a0.F.a0.N, ls a0.F.a0.Text, li .i64 a0.F.a1.N, ls a0.F.a1.Text, li .i64 a0.F.a2.N, ls a0.F.a2.Text, li .i64 a0.F.a3.N, ls a0.F.a3.Text])) :: []) (by kernel_rfl) ?_
    refine SimI.run 3 [(38, .one (li .i64 0)), (37, .agg [li .i64 a0.F.a0.N, ls a0.F.a0.Text, li .i64 a0.F.a1.N, ls a0.F.a1.Text, li .i64 a0.F.a2.N, ls a0.F.a2.Text, li .i64 a0.F.a3.N, ls a0.F.a3.Text]), (36, .one (.ptr 1 4))] [] (by kernel_rfl) ?_
    refine SimI.done (by kernel_rfl) ?_
    refine SimE.thenN ?_
    refine Sim.block ?_
    refine Sim.loop ?_
    refine SimL.succ ?_
    refine Sim.seq ?_
    refine Sim.region [(1, .one (.ptr 1 0)), (4, .one (ls s6)), (37, .agg [li .i64 a0.F.a0.N, ls a0.F.a0.Text, li .i64 a0.F.a1.N, ls a0.F.a1.Text, li .i64 a0.F.a2.N, ls a0.F.a2.Text, li .i64 a0.F.a3.N, ls a0.F.a3.Text]), (38, .one (li .i64 0))] ((1, some (.cells [li .i64 a0.ID, li .u8 a0.Mask, li .i64 a0.At.X, li .i64 a0.At.Y, li .i64 a0.F.a0.N, ls a0.F.a0.Text, li .i64 a0.F.a1.N, ls a0.F.a1.Text, li .i64 a0.F.a2.N, ls a0.F.a2.Text, li .i64 a0.F.a3.N, ls a0.F.a3.Text])) :: []) (by kernel_rfl) ?_
    refine SimI.run 1 [(39, .one (lb true))] [] (by kernel_rfl) ?_
    refine SimI.done (by kernel_rfl) ?_
    refine SimE.thenN ?_
    refine Sim.seq ?_
    refine Sim.condT (by kernel_rfl) ?_
    refine Sim.skip ?_
    refine SimE.thenN ?_
    refine Sim.seq ?_
    refine Sim.block ?_
    refine Sim.seq ?_
    refine Sim.region0 ?_
    refine SimI.run 5 [(5, .one (li .i64 0)), (6, .one (.ptr 6 0)), (41, .agg [li .i64 a0.F.a0.N, ls a0.F.a0.Text]), (40, .one (li .i64 0))] [(6, some (.cells [li .i64 a0.F.a0.N, ls a0.F.a0.Text])), (6, some (.cells [li .i64 0, ls ByteArray.empty]))] (by kernel_rfl) ?_
    refine SimI.done (by kernel_rfl) ?_
    refine SimE.thenN ?_
    refine Sim.seq ?_
    refine Sim.seq ?_
    refine Sim.region0 ?_
    refine SimI.run 3 [(44, .one (li .i64 0)), (43, .one (li .u8 a0.Mask)), (42, .one (.ptr 1 1))] [] (by kernel_rfl) ?_
    refine SimI.bind (og := F43 n a0.Mask 0) { dst := some 45, op := POp.call true [[], []] 43 [Operand.tmp 43, Operand.tmp 44], guard := none, hints := [] } (fun r8 => [(45, .one (lb r8))]) (fun r8 => []) (by kernel_rfl) (fun r8 hr => pOp_eff (by kernel_rfl) (by kernel_rfl) (eff_call (ARGS := [.one (li .u8 a0.Mask), .one (li .i64 0)]) (by kernel_rfl) (args_clean (by kernel_rfl) (args_clean (by kernel_rfl) args_nil)) (F43_ok n a0.Mask 0 r8 hr) (by kernel_rfl))) (fun r8 => ?_)
    refine SimI.run 1 [(46, .one (lb (!(r8))))] [] (by kernel_rfl) ?_
    refine SimI.done (by kernel_rfl) ?_
    refine SimE.thenN ?_
    refine Sim.cond (!(r8)) (by kernel_rfl) ?_ ?_
    · refine Sim.exit ?_
      refine SimE.thenX ?_
      refine SimE.blockX ?_
      refine SimE.thenN ?_
      refine Sim.region0 ?_
      refine SimI.run 2 [(38, .one (li .i64 1)), (60, .one (li .i64 1))] [] (by kernel_rfl) ?_
      refine SimI.done (by kernel_rfl) ?_
      refine SimE.loopN ?_
      refine SimL.pre (ts := [1, 4, 37, 38]) (os := [1, 6]) [(1, .one (.ptr 1 0)), (4, .one (ls s6)), (37, .agg [li .i64 a0.F.a0.N, ls a0.F.a0.Text, li .i64 a0.F.a1.N, ls a0.F.a1.Text, li .i64 a0.F.a2.N, ls a0.F.a2.Text, li .i64 a0.F.a3.N, ls a0.F.a3.Text]), (38, .one (li .i64 1))] ((1, some (.cells [li .i64 a0.ID, li .u8 a0.Mask, li .i64 a0.At.X, li .i64 a0.At.Y, li .i64 a0.F.a0.N, ls a0.F.a0.Text, li .i64 a0.F.a1.N, ls a0.F.a1.Text, li .i64 a0.F.a2.N, ls a0.F.a2.Text, li .i64 a0.F.a3.N, ls a0.F.a3.Text])) :: []) (by kernel_rfl) (by kernel_rfl) (by kernel_rfl) ?_
      exact F20_u12_ok n a0 s6
    · refine Sim.skip ?_
      refine SimE.thenN ?_
      refine Sim.seq ?_
      refine Sim.region0 ?_
      refine SimI.run 3 [(49, .one (ls a0.F.a0.Text)), (48, .one (.ptr 6 1)), (47, .one (ls s6))] [] (by kernel_rfl) ?_
      refine SimI.bind (og := F44 n a0.F.a0.Text) { dst := some 50, op := POp.call true [[]] 44 [Operand.tmp 49], guard := none, hints := [] } (fun r9 => [(50, .one (ls r9))]) (fun r9 => []) (by kernel_rfl) (fun r9 hr => pOp_eff (by kernel_rfl) (by kernel_rfl) (eff_call (ARGS := [.one (ls a0.F.a0.Text)]) (by kernel_rfl) (args_clean (by kernel_rfl) args_nil) (F44_ok n a0.F.a0.Text r9 hr) (by kernel_rfl))) (fun r9 => ?_)
      refine SimI.guard (c := s6.size + r9.size ≤ 9223372036854775807) { dst := some 51, op := POp.prim (Prim.bin BinOp.add 9 false false) [Operand.tmp 47, Operand.tmp 50], guard := none, hints := [] } [(51, .one (ls (s6 ++ r9)))] [] (by kernel_rfl) (fun hc => pOp_eff (by kernel_rfl) (by kernel_rfl) (eff_prim (by kernel_rfl) (pr_addS _ _ _ s6 r9 hc))) ?_
      refine SimI.run 1 [(4, .one (ls (s6 ++ r9)))] [] (by kernel_rfl) ?_
      refine SimI.done (by kernel_rfl) ?_
      refine SimE.thenN ?_
      refine Sim.seq ?_
      refine Sim.region0 ?_
      refine SimI.run 3 [(54, .one (lb (a0.F.a0.Text.toList == ByteArray.empty.toList))), (53, .one (ls a0.F.a0.Text)), (52, .one (.ptr 6 1))] [] (by kernel_rfl) ?_
      refine SimI.done (by kernel_rfl) ?_
      refine SimE.thenN ?_
      refine Sim.cond (a0.F.a0.Text.toList == ByteArray.empty.toList) (by kernel_rfl) ?_ ?_
      · refine Sim.region0 ?_
        refine SimI.run 3 [(57, .one (li .i64 a0.F.a0.N)), (56, .one (.ptr 6 0)), (55, .one (ls (s6 ++ r9)))] [] (by kernel_rfl) ?_
        refine SimI.bind (og := F45 n a0.F.a0.N) { dst := some 58, op := POp.call true [[]] 45 [Operand.tmp 57], guard := none, hints := [] } (fun r10 => [(58, .one (ls r10))]) (fun r10 => []) (by kernel_rfl) (fun r10 hr => pOp_eff (by kernel_rfl) (by kernel_rfl) (eff_call (ARGS := [.one (li .i64 a0.F.a0.N)]) (by kernel_rfl) (args_clean (by kernel_rfl) args_nil) (F45_ok n a0.F.a0.N r10 hr) (by kernel_rfl))) (fun r10 => ?_)
        refine SimI.guard (c := (s6 ++ r9).size + r10.size ≤ 9223372036854775807) { dst := some 59, op := POp.prim (Prim.bin BinOp.add 9 false false) [Operand.tmp 55, Operand.tmp 58], guard := none, hints := [] } [(59, .one (ls ((s6 ++ r9) ++ r10)))] [] (by kernel_rfl) (fun hc => pOp_eff (by kernel_rfl) (by kernel_rfl) (eff_prim (by kernel_rfl) (pr_addS _ _ _ (s6 ++ r9) r10 hc))) ?_
        refine SimI.run 1 [(4, .one (ls ((s6 ++ r9) ++ r10)))] [] (by kernel_rfl) ?_
        refine SimI.done (by kernel_rfl) ?_
        refine SimE.blockN ?_
        refine SimE.thenN ?_
        refine Sim.region0 ?_
        refine SimI.run 2 [(38, .one (li .i64 1)), (60, .one (li .i64 1))] [] (by kernel_rfl) ?_
        refine SimI.done (by kernel_rfl) ?_
        refine SimE.loopN ?_
        refine SimL.pre (ts := [1, 4, 37, 38]) (os := [1, 6]) [(1, .one (.ptr 1 0)), (4, .one (ls ((s6 ++ r9) ++ r10))), (37, .agg [li .i64 a0.F.a0.N, ls a0.F.a0.Text, li .i64 a0.F.a1.N, ls a0.F.a1.Text, li .i64 a0.F.a2.N, ls a0.F.a2.Text, li .i64 a0.F.a3.N, ls a0.F.a3.Text]), (38, .one (li .i64 1))] ((1, some (.cells [li .i64 a0.ID, li .u8 a0.Mask, li .i64 a0.At.X, li .i64 a0.At.Y, li .i64 a0.F.a0.N, ls a0.F.a0.Text, li .i64 a0.F.a1.N, ls a0.F.a1.Text, li .i64 a0.F.a2.N, ls a0.F.a2.Text, li .i64 a0.F.a3.N, ls a0.F.a3.Text])) :: []) (by kernel_rfl) (by kernel_rfl) (by kernel_rfl) ?_
        exact F20_u12_ok n a0 ((s6 ++ r9) ++ r10)
      · refine Sim.skip ?_
        refine SimE.blockN ?_
        refine SimE.thenN ?_
        refine Sim.region0 ?_
        refine SimI.run 2 [(38, .one (li .i64 1)), (60, .one (li .i64 1))] [] (by kernel_rfl) ?_
        refine SimI.done (by kernel_rfl) ?_
        refine SimE.loopN ?_
        refine SimL.pre (ts := [1, 4, 37, 38]) (os := [1, 6]) [(1, .one (.ptr 1 0)), (4, .one (ls (s6 ++ r9))), (37, .agg [li .i64 a0.F.a0.N, ls a0.F.a0.Text, li .i64 a0.F.a1.N, ls a0.F.a1.Text, li .i64 a0.F.a2.N, ls a0.F.a2.Text, li .i64 a0.F.a3.N, ls a0.F.a3.Text]), (38, .one (li .i64 1))] ((1, some (.cells [li .i64 a0.ID, li .u8 a0.Mask, li .i64 a0.At.X, li .i64 a0.At.Y, li .i64 a0.F.a0.N, ls a0.F.a0.Text, li .i64 a0.F.a1.N, ls a0.F.a1.Text, li .i64 a0.F.a2.N, ls a0.F.a2.Text, li .i64 a0.F.a3.N, ls a0.F.a3.Text])) :: []) (by kernel_rfl) (by kernel_rfl) (by kernel_rfl) ?_
        exact F20_u12_ok n a0 (s6 ++ r9)

def F20 (n : Nat) (a0 : Delta) : Option (ByteArray × Int) :=
  (F25 n a0).bind fun (r1 : Bool) =>
  if !(r1) then
    some (ByteArray.empty, 11)
  else
    (F42 n (IntKind.wrap .u64 a0.ID)).bind fun (r2 : ByteArray) =>
    (F42 n (IntKind.wrap .u64 a0.Mask)).bind fun (r3 : ByteArray) =>
    if r2.size + r3.size ≤ 9223372036854775807 then
      if (bitsI .and .u8 a0.Mask 1) != 0 then
        (F42 n (IntKind.wrap .u64 a0.At.X)).bind fun (r4 : ByteArray) =>
        (F42 n (IntKind.wrap .u64 a0.At.Y)).bind fun (r5 : ByteArray) =>
        if r4.size + r5.size ≤ 9223372036854775807 then
          if (r2 ++ r3).size + (r4 ++ r5).size ≤ 9223372036854775807 then
            F20_j7 n a0 ((r2 ++ r3) ++ (r4 ++ r5))
          else none
        else none
      else
        F20_j7 n a0 (r2 ++ r3)
    else none
theorem F20_ok (n : Nat) (a0 : Delta) : ∀ r, F20 n a0 = some r → D 20 [.agg [li .i64 a0.ID, li .u8 a0.Mask, li .i64 a0.At.X, li .i64 a0.At.Y, li .i64 a0.F.a0.N, ls a0.F.a0.Text, li .i64 a0.F.a1.N, ls a0.F.a1.Text, li .i64 a0.F.a2.N, ls a0.F.a2.Text, li .i64 a0.F.a3.N, ls a0.F.a3.Text]] [] = some (F20_e r) := by
  refine fn_to (D := D) (n := n + 8) (nt := 62) (rs := pc20_r) (c := pc20_c50) (L := [(0, .agg [li .i64 a0.ID, li .u8 a0.Mask, li .i64 a0.At.X, li .i64 a0.At.Y, li .i64 a0.F.a0.N, ls a0.F.a0.Text, li .i64 a0.F.a1.N, ls a0.F.a1.Text, li .i64 a0.F.a2.N, ls a0.F.a2.Text, li .i64 a0.F.a3.N, ls a0.F.a3.Text])]) (M := []) (k := 0) rfl rfl rfl rfl rfl rfl ?_
  unfold F20
  refine Sim.seq ?_
  refine Sim.region0 ?_
  refine SimI.run 3 [(3, .one (li .i64 0)), (2, .one (ls ByteArray.empty)), (1, .one (.ptr 1 0))] [(1, some (.cells [li .i64 a0.ID, li .u8 a0.Mask, li .i64 a0.At.X, li .i64 a0.At.Y, li .i64 a0.F.a0.N, ls a0.F.a0.Text, li .i64 a0.F.a1.N, ls a0.F.a1.Text, li .i64 a0.F.a2.N, ls a0.F.a2.Text, li .i64 a0.F.a3.N, ls a0.F.a3.Text]))] (by kernel_rfl) ?_
  refine SimI.done (by kernel_rfl) ?_
  refine SimE.thenN ?_
  refine Sim.seq ?_
  refine Sim.seq ?_
  refine Sim.region0 ?_
  refine SimI.run 1 [(7, .agg [li .i64 a0.ID, li .u8 a0.Mask, li .i64 a0.At.X, li .i64 a0.At.Y, li .i64 a0.F.a0.N, ls a0.F.a0.Text, li .i64 a0.F.a1.N, ls a0.F.a1.Text, li .i64 a0.F.a2.N, ls a0.F.a2.Text, li .i64 a0.F.a3.N, ls a0.F.a3.Text])] [] (by kernel_rfl) ?_
  refine SimI.bind (og := F25 n a0) { dst := some 8, op := POp.call true [[]] 25 [Operand.tmp 7], guard := none, hints := [] } (fun r1 => [(8, .one (lb r1))]) (fun r1 => []) (by kernel_rfl) (fun r1 hr => pOp_eff (by kernel_rfl) (by kernel_rfl) (eff_call (ARGS := [.agg [li .i64 a0.ID, li .u8 a0.Mask, li .i64 a0.At.X, li .i64 a0.At.Y, li .i64 a0.F.a0.N, ls a0.F.a0.Text, li .i64 a0.F.a1.N, ls a0.F.a1.Text, li .i64 a0.F.a2.N, ls a0.F.a2.Text, li .i64 a0.F.a3.N, ls a0.F.a3.Text]]) (by kernel_rfl) (args_clean (by kernel_rfl) args_nil) (F25_ok n a0 r1 hr) (by kernel_rfl))) (fun r1 => ?_)
  refine SimI.run 1 [(9, .one (lb (!(r1))))] [] (by kernel_rfl) ?_
  refine SimI.done (by kernel_rfl) ?_
  refine SimE.thenN ?_
  refine Sim.cond (!(r1)) (by kernel_rfl) ?_ ?_
  · refine Sim.seq ?_
    refine Sim.region0 ?_
    refine SimI.run 2 [(3, .one (li .i64 11)), (2, .one (ls ByteArray.empty))] [] (by kernel_rfl) ?_
    refine SimI.done (by kernel_rfl) ?_
    refine SimE.thenN ?_
    refine Sim.ret ?_
    refine SimE.thenR ?_
    exact SimE.fin (by kernel_rfl)
  · refine Sim.skip ?_
    refine SimE.thenN ?_
    refine Sim.seq ?_
    refine Sim.region0 ?_
    refine SimI.run 3 [(12, .one (li .u64 (IntKind.wrap .u64 a0.ID))), (11, .one (li .i64 a0.ID)), (10, .one (.ptr 1 0))] [] (by kernel_rfl) ?_
    refine SimI.bind (og := F42 n (IntKind.wrap .u64 a0.ID)) { dst := some 13, op := POp.call false [[]] 42 [Operand.tmp 12], guard := none, hints := [(12, Hint.imm)] } (fun r2 => [(13, .one (ls r2))]) (fun r2 => []) (by kernel_rfl) (fun r2 hr => pOp_eff (by kernel_rfl) (by kernel_rfl) (eff_call (ARGS := [.one (li .u64 (IntKind.wrap .u64 a0.ID))]) (by kernel_rfl) (args_clean (by kernel_rfl) args_nil) (F42_ok n (IntKind.wrap .u64 a0.ID) r2 hr) (by kernel_rfl))) (fun r2 => ?_)
    refine SimI.run 3 [(16, .one (li .u64 (IntKind.wrap .u64 a0.Mask))), (15, .one (li .u8 a0.Mask)), (14, .one (.ptr 1 1))] [] (by kernel_rfl) ?_
    refine SimI.bind (og := F42 n (IntKind.wrap .u64 a0.Mask)) { dst := some 17, op := POp.call false [[]] 42 [Operand.tmp 16], guard := none, hints := [(16, Hint.imm)] } (fun r3 => [(17, .one (ls r3))]) (fun r3 => []) (by kernel_rfl) (fun r3 hr => pOp_eff (by kernel_rfl) (by kernel_rfl) (eff_call (ARGS := [.one (li .u64 (IntKind.wrap .u64 a0.Mask))]) (by kernel_rfl) (args_clean (by kernel_rfl) args_nil) (F42_ok n (IntKind.wrap .u64 a0.Mask) r3 hr) (by kernel_rfl))) (fun r3 => ?_)
    refine SimI.guard (c := r2.size + r3.size ≤ 9223372036854775807) { dst := some 18, op := POp.prim (Prim.bin BinOp.add 9 false false) [Operand.tmp 13, Operand.tmp 17], guard := none, hints := [(13, Hint.imm), (17, Hint.imm)] } [(18, .one (ls (r2 ++ r3)))] [] (by kernel_rfl) (fun hc => pOp_eff (by kernel_rfl) (by kernel_rfl) (eff_prim (by kernel_rfl) (pr_addS _ _ _ r2 r3 hc))) ?_
    refine SimI.run 1 [(4, .one (ls (r2 ++ r3)))] [] (by kernel_rfl) ?_
    refine SimI.done (by kernel_rfl) ?_
    refine SimE.thenN ?_
    refine Sim.seq ?_
    refine Sim.seq ?_
    refine Sim.region0 ?_
    refine SimI.run 4 [(22, .one (lb ((bitsI .and .u8 a0.Mask 1) != 0))), (21, .one (li .u8 (bitsI .and .u8 a0.Mask 1))), (20, .one (li .u8 a0.Mask)), (19, .one (.ptr 1 1))] [] (by kernel_rfl) ?_
    refine SimI.done (by kernel_rfl) ?_
    refine SimE.thenN ?_
    refine Sim.cond ((bitsI .and .u8 a0.Mask 1) != 0) (by kernel_rfl) ?_ ?_
    · refine Sim.region0 ?_
      refine SimI.run 5 [(27, .one (li .u64 (IntKind.wrap .u64 a0.At.X))), (26, .one (li .i64 a0.At.X)), (25, .one (.ptr 1 2)), (24, .one (.ptr 1 2)), (23, .one (ls (r2 ++ r3)))] [] (by kernel_rfl) ?_
      refine SimI.bind (og := F42 n (IntKind.wrap .u64 a0.At.X)) { dst := some 28, op := POp.call false [[]] 42 [Operand.tmp 27], guard := none, hints := [(27, Hint.imm)] } (fun r4 => [(28, .one (ls r4))]) (fun r4 => []) (by kernel_rfl) (fun r4 hr => pOp_eff (by kernel_rfl) (by kernel_rfl) (eff_call (ARGS := [.one (li .u64 (IntKind.wrap .u64 a0.At.X))]) (by kernel_rfl) (args_clean (by kernel_rfl) args_nil) (F42_ok n (IntKind.wrap .u64 a0.At.X) r4 hr) (by kernel_rfl))) (fun r4 => ?_)
      refine SimI.run 4 [(32, .one (li .u64 (IntKind.wrap .u64 a0.At.Y))), (31, .one (li .i64 a0.At.Y)), (30, .one (.ptr 1 3)), (29, .one (.ptr 1 2))] [] (by kernel_rfl) ?_
      refine SimI.bind (og := F42 n (IntKind.wrap .u64 a0.At.Y)) { dst := some 33, op := POp.call false [[]] 42 [Operand.tmp 32], guard := none, hints := [(32, Hint.imm)] } (fun r5 => [(33, .one (ls r5))]) (fun r5 => []) (by kernel_rfl) (fun r5 hr => pOp_eff (by kernel_rfl) (by kernel_rfl) (eff_call (ARGS := [.one (li .u64 (IntKind.wrap .u64 a0.At.Y))]) (by kernel_rfl) (args_clean (by kernel_rfl) args_nil) (F42_ok n (IntKind.wrap .u64 a0.At.Y) r5 hr) (by kernel_rfl))) (fun r5 => ?_)
      refine SimI.guard (c := r4.size + r5.size ≤ 9223372036854775807) { dst := some 34, op := POp.prim (Prim.bin BinOp.add 9 false false) [Operand.tmp 28, Operand.tmp 33], guard := none, hints := [(28, Hint.imm), (33, Hint.imm)] } [(34, .one (ls (r4 ++ r5)))] [] (by kernel_rfl) (fun hc => pOp_eff (by kernel_rfl) (by kernel_rfl) (eff_prim (by kernel_rfl) (pr_addS _ _ _ r4 r5 hc))) ?_
      refine SimI.guard (c := (r2 ++ r3).size + (r4 ++ r5).size ≤ 9223372036854775807) { dst := some 35, op := POp.prim (Prim.bin BinOp.add 9 false false) [Operand.tmp 23, Operand.tmp 34], guard := none, hints := [(23, Hint.imm), (34, Hint.imm)] } [(35, .one (ls ((r2 ++ r3) ++ (r4 ++ r5))))] [] (by kernel_rfl) (fun hc => pOp_eff (by kernel_rfl) (by kernel_rfl) (eff_prim (by kernel_rfl) (pr_addS _ _ _ (r2 ++ r3) (r4 ++ r5) hc))) ?_
      refine SimI.run 1 [(4, .one (ls ((r2 ++ r3) ++ (r4 ++ r5))))] [] (by kernel_rfl) ?_
      refine SimI.done (by kernel_rfl) ?_
      refine SimE.thenN ?_
      refine Sim.pre (ts := [1, 4]) (os := [1]) [(1, .one (.ptr 1 0)), (4, .one (ls ((r2 ++ r3) ++ (r4 ++ r5))))] ((1, some (.cells [li .i64 a0.ID, li .u8 a0.Mask, li .i64 a0.At.X, li .i64 a0.At.Y, li .i64 a0.F.a0.N, ls a0.F.a0.Text, li .i64 a0.F.a1.N, ls a0.F.a1.Text, li .i64 a0.F.a2.N, ls a0.F.a2.Text, li .i64 a0.F.a3.N, ls a0.F.a3.Text])) :: []) (by kernel_rfl) (by kernel_rfl) (by kernel_rfl) ?_
      exact F20_j7_ok n a0 ((r2 ++ r3) ++ (r4 ++ r5))
    · refine Sim.skip ?_
      refine SimE.thenN ?_
      refine Sim.pre (ts := [1, 4]) (os := [1]) [(1, .one (.ptr 1 0)), (4, .one (ls (r2 ++ r3)))] ((1, some (.cells [li .i64 a0.ID, li .u8 a0.Mask, li .i64 a0.At.X, li .i64 a0.At.Y, li .i64 a0.F.a0.N, ls a0.F.a0.Text, li .i64 a0.F.a1.N, ls a0.F.a1.Text, li .i64 a0.F.a2.N, ls a0.F.a2.Text, li .i64 a0.F.a3.N, ls a0.F.a3.Text])) :: []) (by kernel_rfl) (by kernel_rfl) (by kernel_rfl) ?_
      exact F20_j7_ok n a0 (r2 ++ r3)


-- 23: vedette/fields.Apply
def F23_e : Thing → PV × List (List Lf) := fun r => (.agg [li .i64 r.ID, li .i64 r.At.X, li .i64 r.At.Y, li .i64 r.F.a0.N, ls r.F.a0.Text, li .i64 r.F.a1.N, ls r.F.a1.Text, li .i64 r.F.a2.N, ls r.F.a2.Text, li .i64 r.F.a3.N, ls r.F.a3.Text], [])
def F23_u19 (n : Nat) (a0 : Thing) (i1 : Int) (i2 : Int) (i5 : Int) (s6 : ByteArray) (i9 : Int) (s10 : ByteArray) (i13 : Int) (s14 : ByteArray) (i17 : Int) (s18 : ByteArray) : Option Thing :=
    some (Thing.mk a0.ID (Point.mk i1 i2) (A4.mk (Field.mk i5 s6) (Field.mk i9 s10) (Field.mk i13 s14) (Field.mk i17 s18)))
theorem F23_u19_ok (n : Nat) (a0 : Thing) (a1 : Delta) (i1 : Int) (i2 : Int) (i5 : Int) (s6 : ByteArray) (i9 : Int) (s10 : ByteArray) (i13 : Int) (s14 : ByteArray) (i17 : Int) (s18 : ByteArray) : SimL Try.prog D (n + 8) (n + 4) pc23_c23 [(2, .one (.ptr 2 0)), (3, .one (.ptr 3 0)), (4, .one (.ptr 4 0)), (15, .agg [li .i64 a1.F.a0.N, ls a1.F.a0.Text, li .i64 a1.F.a1.N, ls a1.F.a1.Text, li .i64 a1.F.a2.N, ls a1.F.a2.Text, li .i64 a1.F.a3.N, ls a1.F.a3.Text]), (16, .one (li .i64 4))] ((2, some (.cells [li .i64 a0.ID, li .i64 i1, li .i64 i2, li .i64 i5, ls s6, li .i64 i9, ls s10, li .i64 i13, ls s14, li .i64 i17, ls s18])) :: ((3, some (.cells [li .i64 a1.ID, li .u8 a1.Mask, li .i64 a1.At.X, li .i64 a1.At.Y, li .i64 a1.F.a0.N, ls a1.F.a0.Text, li .i64 a1.F.a1.N, ls a1.F.a1.Text, li .i64 a1.F.a2.N, ls a1.F.a2.Text, li .i64 a1.F.a3.N, ls a1.F.a3.Text])) :: ((4, some (.cells [li .i64 0, li .i64 0, li .i64 0, li .i64 0, ls ByteArray.empty, li .i64 0, ls ByteArray.empty, li .i64 0, ls ByteArray.empty, li .i64 0, ls ByteArray.empty])) :: []))) (F23_u19 n a0 i1 i2 i5 s6 i9 s10 i13 s14 i17 s18) (QB 0 (QT Try.prog D (n + 8) pc23_c29 (QF pc23_r 0 F23_e))) := by
    unfold F23_u19
    refine SimL.succ ?_
    refine Sim.seq ?_
    refine Sim.region [(2, .one (.ptr 2 0)), (3, .one (.ptr 3 0)), (4, .one (.ptr 4 0)), (15, .agg [li .i64 a1.F.a0.N, ls a1.F.a0.Text, li .i64 a1.F.a1.N, ls a1.F.a1.Text, li .i64 a1.F.a2.N, ls a1.F.a2.Text, li .i64 a1.F.a3.N, ls a1.F.a3.Text]), (16, .one (li .i64 4))] ((2, some (.cells [li .i64 a0.ID, li .i64 i1, li .i64 i2, li .i64 i5, ls s6, li .i64 i9, ls s10, li .i64 i13, ls s14, li .i64 i17, ls s18])) :: ((3, some (.cells [li .i64 a1.ID, li .u8 a1.Mask, li .i64 a1.At.X, li .i64 a1.At.Y, li .i64 a1.F.a0.N, ls a1.F.a0.Text, li .i64 a1.F.a1.N, ls a1.F.a1.Text, li .i64 a1.F.a2.N, ls a1.F.a2.Text, li .i64 a1.F.a3.N, ls a1.F.a3.Text])) :: ((4, some (.cells [li .i64 0, li .i64 0, li .i64 0, li .i64 0, ls ByteArray.empty, li .i64 0, ls ByteArray.empty, li .i64 0, ls ByteArray.empty, li .i64 0, ls ByteArray.empty])) :: []))) (by kernel_rfl) ?_
    refine SimI.run 1 [(17, .one (lb false))] [] (by kernel_rfl) ?_
    refine SimI.done (by kernel_rfl) ?_
    refine SimE.thenN ?_
    refine Sim.seq ?_
    refine Sim.condF (by kernel_rfl) ?_
    refine Sim.exit ?_
    refine SimE.thenX ?_
    refine SimE.loopX ?_
    refine SimE.blockX ?_
    refine SimE.thenN ?_
    refine Sim.seq ?_
    refine Sim.region0 ?_
    refine SimI.run 2 [(29, .agg [li .i64 a0.ID, li .i64 i1, li .i64 i2, li .i64 i5, ls s6, li .i64 i9, ls s10, li .i64 i13, ls s14, li .i64 i17, ls s18])] [(4, some (.cells [li .i64 a0.ID, li .i64 i1, li .i64 i2, li .i64 i5, ls s6, li .i64 i9, ls s10, li .i64 i13, ls s14, li .i64 i17, ls s18]))] (by kernel_rfl) ?_
    refine SimI.done (by kernel_rfl) ?_
    refine SimE.thenN ?_
    refine Sim.ret ?_
    exact SimE.fin (by kernel_rfl)

def F23_u15 (n : Nat) (a0 : Thing) (a1 : Delta) (i1 : Int) (i2 : Int) (i5 : Int) (s6 : ByteArray) (i9 : Int) (s10 : ByteArray) (i13 : Int) (s14 : ByteArray) : Option Thing :=
    (F43 n a1.Mask 3).bind fun (r16 : Bool) =>
    if r16 then
      F23_u19 n a0 i1 i2 i5 s6 i9 s10 i13 s14 a1.F.a3.N a1.F.a3.Text
    else
      F23_u19 n a0 i1 i2 i5 s6 i9 s10 i13 s14 a0.F.a3.N a0.F.a3.Text
theorem F23_u15_ok (n : Nat) (a0 : Thing) (a1 : Delta) (i1 : Int) (i2 : Int) (i5 : Int) (s6 : ByteArray) (i9 : Int) (s10 : ByteArray) (i13 : Int) (s14 : ByteArray) : SimL Try.prog D (n + 8) (n + 5) pc23_c23 [(2, .one (.ptr 2 0)), (3, .one (.ptr 3 0)), (4, .one (.ptr 4 0)), (15, .agg [li .i64 a1.F.a0.N, ls a1.F.a0.Text, li .i64 a1.F.a1.N, ls a1.F.a1.Text, li .i64 a1.F.a2.N, ls a1.F.a2.Text, li .i64 a1.F.a3.N, ls a1.F.a3.Text]), (16, .one (li .i64 3))] ((2, some (.cells [li .i64 a0.ID, li .i64 i1, li .i64 i2, li .i64 i5, ls s6, li .i64 i9, ls s10, li .i64 i13, ls s14, li .i64 a0.F.a3.N, ls a0.F.a3.Text])) :: ((3, some (.cells [li .i64 a1.ID, li .u8 a1.Mask, li .i64 a1.At.X, li .i64 a1.At.Y, li .i64 a1.F.a0.N, ls a1.F.a0.Text, li .i64 a1.F.a1.N, ls a1.F.a1.Text, li .i64 a1.F.a2.N, ls a1.F.a2.Text, li .i64 a1.F.a3.N, ls a1.F.a3.Text])) :: ((4, some (.cells [li .i64 0, li .i64 0, li .i64 0, li .i64 0, ls ByteArray.empty, li .i64 0, ls ByteArray.empty, li .i64 0, ls ByteArray.empty, li .i64 0, ls ByteArray.empty])) :: []))) (F23_u15 n a0 a1 i1 i2 i5 s6 i9 s10 i13 s14) (QB 0 (QT Try.prog D (n + 8) pc23_c29 (QF pc23_r 0 F23_e))) := by
    unfold F23_u15
    refine SimL.succ ?_
    refine Sim.seq ?_
    refine Sim.region [(2, .one (.ptr 2 0)), (3, .one (.ptr 3 0)), (4, .one (.ptr 4 0)), (15, .agg [li .i64 a1.F.a0.N, ls a1.F.a0.Text, li .i64 a1.F.a1.N, ls a1.F.a1.Text, li .i64 a1.F.a2.N, ls a1.F.a2.Text, li .i64 a1.F.a3.N, ls a1.F.a3.Text]), (16, .one (li .i64 3))] ((2, some (.cells [li .i64 a0.ID, li .i64 i1, li .i64 i2, li .i64 i5, ls s6, li .i64 i9, ls s10, li .i64 i13, ls s14, li .i64 a0.F.a3.N, ls a0.F.a3.Text])) :: ((3, some (.cells [li .i64 a1.ID, li .u8 a1.Mask, li .i64 a1.At.X, li .i64 a1.At.Y, li .i64 a1.F.a0.N, ls a1.F.a0.Text, li .i64 a1.F.a1.N, ls a1.F.a1.Text, li .i64 a1.F.a2.N, ls a1.F.a2.Text, li .i64 a1.F.a3.N, ls a1.F.a3.Text])) :: ((4, some (.cells [li .i64 0, li .i64 0, li .i64 0, li .i64 0, ls ByteArray.empty, li .i64 0, ls ByteArray.empty, li .i64 0, ls ByteArray.empty, li .i64 0, ls ByteArray.empty])) :: []))) (by kernel_rfl) ?_
    refine SimI.run 1 [(17, .one (lb true))] [] (by kernel_rfl) ?_
    refine SimI.done (by kernel_rfl) ?_
    refine SimE.thenN ?_
    refine Sim.seq ?_
    refine Sim.condT (by kernel_rfl) ?_
    refine Sim.skip ?_
    refine SimE.thenN ?_
    refine Sim.seq ?_
    refine Sim.block ?_
    refine Sim.seq ?_
    refine Sim.region0 ?_
    refine SimI.run 5 [(5, .one (li .i64 3)), (6, .one (.ptr 6 0)), (19, .agg [li .i64 a1.F.a3.N, ls a1.F.a3.Text]), (18, .one (li .i64 3))] [(6, some (.cells [li .i64 a1.F.a3.N, ls a1.F.a3.Text])), (6, some (.cells [li .i64 0, ls ByteArray.empty]))] (by kernel_rfl) ?_
    refine SimI.done (by kernel_rfl) ?_
    refine SimE.thenN ?_
    refine Sim.seq ?_
    refine Sim.region0 ?_
    refine SimI.run 3 [(22, .one (li .i64 3)), (21, .one (li .u8 a1.Mask)), (20, .one (.ptr 3 1))] [] (by kernel_rfl) ?_
    refine SimI.bind (og := F43 n a1.Mask 3) { dst := some 23, op := POp.call true [[], []] 43 [Operand.tmp 21, Operand.tmp 22], guard := none, hints := [] } (fun r16 => [(23, .one (lb r16))]) (fun r16 => []) (by kernel_rfl) (fun r16 hr => pOp_eff (by kernel_rfl) (by kernel_rfl) (eff_call (ARGS := [.one (li .u8 a1.Mask), .one (li .i64 3)]) (by kernel_rfl) (args_clean (by kernel_rfl) (args_clean (by kernel_rfl) args_nil)) (F43_ok n a1.Mask 3 r16 hr) (by kernel_rfl))) (fun r16 => ?_)
    refine SimI.done (by kernel_rfl) ?_
    refine SimE.thenN ?_
    refine Sim.cond r16 (by kernel_rfl) ?_ ?_
    · refine Sim.region0 ?_
      refine SimI.run 5 [(27, .one (.ptr 2 9)), (26, .one (.ptr 2 3)), (25, .agg [li .i64 a1.F.a3.N, ls a1.F.a3.Text]), (24, .one (li .i64 3))] [(2, some (.cells [li .i64 a0.ID, li .i64 i1, li .i64 i2, li .i64 i5, ls s6, li .i64 i9, ls s10, li .i64 i13, ls s14, li .i64 a1.F.a3.N, ls a1.F.a3.Text]))] (by kernel_rfl) ?_
      refine SimI.done (by kernel_rfl) ?_
      refine SimE.blockN ?_
      refine SimE.thenN ?_
      refine Sim.region0 ?_
      refine SimI.run 2 [(16, .one (li .i64 4)), (28, .one (li .i64 4))] [] (by kernel_rfl) ?_
      refine SimI.done (by kernel_rfl) ?_
      refine SimE.loopN ?_
      refine SimL.pre (ts := [2, 3, 4, 15, 16]) (os := [2, 3, 4, 6]) [(2, .one (.ptr 2 0)), (3, .one (.ptr 3 0)), (4, .one (.ptr 4 0)), (15, .agg [li .i64 a1.F.a0.N, ls a1.F.a0.Text, li .i64 a1.F.a1.N, ls a1.F.a1.Text, li .i64 a1.F.a2.N, ls a1.F.a2.Text, li .i64 a1.F.a3.N, ls a1.F.a3.Text]), (16, .one (li .i64 4))] ((2, some (.cells [li .i64 a0.ID, li .i64 i1, li .i64 i2, li .i64 i5, ls s6, li .i64 i9, ls s10, li .i64 i13, ls s14, li .i64 a1.F.a3.N, ls a1.F.a3.Text])) :: ((3, some (.cells [li .i64 a1.ID, li .u8 a1.Mask, li .i64 a1.At.X, li .i64 a1.At.Y, li .i64 a1.F.a0.N, ls a1.F.a0.Text, li .i64 a1.F.a1.N, ls a1.F.a1.Text, li .i64 a1.F.a2.N, ls a1.F.a2.Text, li .i64 a1.F.a3.N, ls a1.F.a3.Text])) :: ((4, some (.cells [li .i64 0, li .i64 0, li .i64 0, li .i64 0, ls ByteArray.empty, li .i64 0, ls ByteArray.empty, li .i64 0, ls ByteArray.empty, li .i64 0, ls ByteArray.empty])) :: []))) (by kernel_rfl) (by kernel_rfl) (by kernel_rfl) ?_
      exact F23_u19_ok n a0 a1 i1 i2 i5 s6 i9 s10 i13 s14 a1.F.a3.N a1.F.a3.Text
    · refine Sim.skip ?_
      refine SimE.blockN ?_
      refine SimE.thenN ?_
      refine Sim.region0 ?_
      refine SimI.run 2 [(16, .one (li .i64 4)), (28, .one (li .i64 4))] [] (by kernel_rfl) ?_
      refine SimI.done (by kernel_rfl) ?_
      refine SimE.loopN ?_
      refine SimL.pre (ts := [2, 3, 4, 15, 16]) (os := [2, 3, 4, 6]) [(2, .one (.ptr 2 0)), (3, .one (.ptr 3 0)), (4, .one (.ptr 4 0)), (15, .agg [li .i64 a1.F.a0.N, ls a1.F.a0.Text, li .i64 a1.F.a1.N, ls a1.F.a1.Text, li .i64 a1.F.a2.N, ls a1.F.a2.Text, li .i64 a1.F.a3.N, ls a1.F.a3.Text]), (16, .one (li .i64 4))] ((2, some (.cells [li .i64 a0.ID, li .i64 i1, li .i64 i2, li .i64 i5, ls s6, li .i64 i9, ls s10, li .i64 i13, ls s14, li .i64 a0.F.a3.N, ls a0.F.a3.Text])) :: ((3, some (.cells [li .i64 a1.ID, li .u8 a1.Mask, li .i64 a1.At.X, li .i64 a1.At.Y, li .i64 a1.F.a0.N, ls a1.F.a0.Text, li .i64 a1.F.a1.N, ls a1.F.a1.Text, li .i64 a1.F.a2.N, ls a1.F.a2.Text, li .i64 a1.F.a3.N, ls a1.F.a3.Text])) :: ((4, some (.cells [li .i64 0, li .i64 0, li .i64 0, li .i64 0, ls ByteArray.empty, li .i64 0, ls ByteArray.empty, li .i64 0, ls ByteArray.empty, li .i64 0, ls ByteArray.empty])) :: []))) (by kernel_rfl) (by kernel_rfl) (by kernel_rfl) ?_
      exact F23_u19_ok n a0 a1 i1 i2 i5 s6 i9 s10 i13 s14 a0.F.a3.N a0.F.a3.Text

def F23_u11 (n : Nat) (a0 : Thing) (a1 : Delta) (i1 : Int) (i2 : Int) (i5 : Int) (s6 : ByteArray) (i9 : Int) (s10 : ByteArray) : Option Thing :=
    (F43 n a1.Mask 2).bind fun (r12 : Bool) =>
    if r12 then
      F23_u15 n a0 a1 i1 i2 i5 s6 i9 s10 a1.F.a2.N a1.F.a2.Text
    else
      F23_u15 n a0 a1 i1 i2 i5 s6 i9 s10 a0.F.a2.N a0.F.a2.Text
theorem F23_u11_ok (n : Nat) (a0 : Thing) (a1 : Delta) (i1 : Int) (i2 : Int) (i5 : Int) (s6 : ByteArray) (i9 : Int) (s10 : ByteArray) : SimL Try.prog D (n + 8) (n + 6) pc23_c23 [(2, .one (.ptr 2 0)), (3, .one (.ptr 3 0)), (4, .one (.ptr 4 0)), (15, .agg [li .i64 a1.F.a0.N, ls a1.F.a0.Text, li .i64 a1.F.a1.N, ls a1.F.a1.Text, li .i64 a1.F.a2.N, ls a1.F.a2.Text, li .i64 a1.F.a3.N, ls a1.F.a3.Text]), (16, .one (li .i64 2))] ((2, some (.cells [li .i64 a0.ID, li .i64 i1, li .i64 i2, li .i64 i5, ls s6, li .i64 i9, ls s10, li .i64 a0.F.a2.N, ls a0.F.a2.Text, li .i64 a0.F.a3.N, ls a0.F.a3.Text])) :: ((3, some (.cells [li .i64 a1.ID, li .u8 a1.Mask, li .i64 a1.At.X, li .i64 a1.At.Y, li .i64 a1.F.a0.N, ls a1.F.a0.Text, li .i64 a1.F.a1.N, ls a1.F.a1.Text, li .i64 a1.F.a2.N, ls a1.F.a2.Text, li .i64 a1.F.a3.N, ls a1.F.a3.Text])) :: ((4, some (.cells [li .i64 0, li .i64 0, li .i64 0, li .i64 0, ls ByteArray.empty, li .i64 0, ls ByteArray.empty, li .i64 0, ls ByteArray.empty, li .i64 0, ls ByteArray.empty])) :: []))) (F23_u11 n a0 a1 i1 i2 i5 s6 i9 s10) (QB 0 (QT Try.prog D (n + 8) pc23_c29 (QF pc23_r 0 F23_e))) := by
    unfold F23_u11
    refine SimL.succ ?_
    refine Sim.seq ?_
    refine Sim.region [(2, .one (.ptr 2 0)), (3, .one (.ptr 3 0)), (4, .one (.ptr 4 0)), (15, .agg [li .i64 a1.F.a0.N, ls a1.F.a0.Text, li .i64 a1.F.a1.N, ls a1.F.a1.Text, li .i64 a1.F.a2.N, ls a1.F.a2.Text, li .i64 a1.F.a3.N, ls a1.F.a3.Text]), (16, .one (li .i64 2))] ((2, some (.cells [li .i64 a0.ID, li .i64 i1, li .i64 i2, li .i64 i5, ls s6, li .i64 i9, ls s10, li .i64 a0.F.a2.N, ls a0.F.a2.Text, li .i64 a0.F.a3.N, ls a0.F.a3.Text])) :: ((3, some (.cells [li .i64 a1.ID, li .u8 a1.Mask, li .i64 a1.At.X, li .i64 a1.At.Y, li .i64 a1.F.a0.N, ls a1.F.a0.Text, li .i64 a1.F.a1.N, ls a1.F.a1.Text, li .i64 a1.F.a2.N, ls a1.F.a2.Text, li .i64 a1.F.a3.N, ls a1.F.a3.Text])) :: ((4, some (.cells [li .i64 0, li .i64 0, li .i64 0, li .i64 0, ls ByteArray.empty, li .i64 0, ls ByteArray.empty, li .i64 0, ls ByteArray.empty, li .i64 0, ls ByteArray.empty])) :: []))) (by kernel_rfl) ?_
    refine SimI.run 1 [(17, .one (lb true))] [] (by kernel_rfl) ?_
    refine SimI.done (by kernel_rfl) ?_
    refine SimE.thenN ?_
    refine Sim.seq ?_
    refine Sim.condT (by kernel_rfl) ?_
    refine Sim.skip ?_
    refine SimE.thenN ?_
    refine Sim.seq ?_
    refine Sim.block ?_
    refine Sim.seq ?_
    refine Sim.region0 ?_
    refine SimI.run 5 [(5, .one (li .i64 2)), (6, .one (.ptr 6 0)), (19, .agg [li .i64 a1.F.a2.N, ls a1.F.a2.Text]), (18, .one (li .i64 2))] [(6, some (.cells [li .i64 a1.F.a2.N, ls a1.F.a2.Text])), (6, some (.cells [li .i64 0, ls ByteArray.empty]))] (by kernel_rfl) ?_
    refine SimI.done (by kernel_rfl) ?_
    refine SimE.thenN ?_
    refine Sim.seq ?_
    refine Sim.region0 ?_
    refine SimI.run 3 [(22, .one (li .i64 2)), (21, .one (li .u8 a1.Mask)), (20, .one (.ptr 3 1))] [] (by kernel_rfl) ?_
    refine SimI.bind (og := F43 n a1.Mask 2) { dst := some 23, op := POp.call true [[], []] 43 [Operand.tmp 21, Operand.tmp 22], guard := none, hints := [] } (fun r12 => [(23, .one (lb r12))]) (fun r12 => []) (by kernel_rfl) (fun r12 hr => pOp_eff (by kernel_rfl) (by kernel_rfl) (eff_call (ARGS := [.one (li .u8 a1.Mask), .one (li .i64 2)]) (by kernel_rfl) (args_clean (by kernel_rfl) (args_clean (by kernel_rfl) args_nil)) (F43_ok n a1.Mask 2 r12 hr) (by kernel_rfl))) (fun r12 => ?_)
    refine SimI.done (by kernel_rfl) ?_
    refine SimE.thenN ?_
    refine Sim.cond r12 (by kernel_rfl) ?_ ?_
    · refine Sim.region0 ?_
      refine SimI.run 5 [(27, .one (.ptr 2 7)), (26, .one (.ptr 2 3)), (25, .agg [li .i64 a1.F.a2.N, ls a1.F.a2.Text]), (24, .one (li .i64 2))] [(2, some (.cells [li .i64 a0.ID, li .i64 i1, li .i64 i2, li .i64 i5, ls s6, li .i64 i9, ls s10, li .i64 a1.F.a2.N, ls a1.F.a2.Text, li .i64 a0.F.a3.N, ls a0.F.a3.Text]))] (by kernel_rfl) ?_
      refine SimI.done (by kernel_rfl) ?_
      refine SimE.blockN ?_
      refine SimE.thenN ?_
      refine Sim.region0 ?_
      refine SimI.run 2 [(16, .one (li .i64 3)), (28, .one (li .i64 3))] [] (by kernel_rfl) ?_
      refine SimI.done (by kernel_rfl) ?_
      refine SimE.loopN ?_
      refine SimL.pre (ts := [2, 3, 4, 15, 16]) (os := [2, 3, 4, 6]) [(2, .one (.ptr 2 0)), (3, .one (.ptr 3 0)), (4, .one (.ptr 4 0)), (15, .agg [li .i64 a1.F.a0.N, ls a1.F.a0.Text, li .i64 a1.F.a1.N, ls a1.F.a1.Text, li .i64 a1.F.a2.N, ls a1.F.a2.Text, li .i64 a1.F.a3.N, ls a1.F.a3.Text]), (16, .one (li .i64 3))] ((2, some (.cells [li .i64 a0.ID, li .i64 i1, li .i64 i2, li .i64 i5, ls s6, li .i64 i9, ls s10, li .i64 a1.F.a2.N, ls a1.F.a2.Text, li .i64 a0.F.a3.N, ls a0.F.a3.Text])) :: ((3, some (.cells [li .i64 a1.ID, li .u8 a1.Mask, li .i64 a1.At.X, li .i64 a1.At.Y, li .i64 a1.F.a0.N, ls a1.F.a0.Text, li .i64 a1.F.a1.N, ls a1.F.a1.Text, li .i64 a1.F.a2.N, ls a1.F.a2.Text, li .i64 a1.F.a3.N, ls a1.F.a3.Text])) :: ((4, some (.cells [li .i64 0, li .i64 0, li .i64 0, li .i64 0, ls ByteArray.empty, li .i64 0, ls ByteArray.empty, li .i64 0, ls ByteArray.empty, li .i64 0, ls ByteArray.empty])) :: []))) (by kernel_rfl) (by kernel_rfl) (by kernel_rfl) ?_
      exact F23_u15_ok n a0 a1 i1 i2 i5 s6 i9 s10 a1.F.a2.N a1.F.a2.Text
    · refine Sim.skip ?_
      refine SimE.blockN ?_
      refine SimE.thenN ?_
      refine Sim.region0 ?_
      refine SimI.run 2 [(16, .one (li .i64 3)), (28, .one (li .i64 3))] [] (by kernel_rfl) ?_
      refine SimI.done (by kernel_rfl) ?_
      refine SimE.loopN ?_
      refine SimL.pre (ts := [2, 3, 4, 15, 16]) (os := [2, 3, 4, 6]) [(2, .one (.ptr 2 0)), (3, .one (.ptr 3 0)), (4, .one (.ptr 4 0)), (15, .agg [li .i64 a1.F.a0.N, ls a1.F.a0.Text, li .i64 a1.F.a1.N, ls a1.F.a1.Text, li .i64 a1.F.a2.N, ls a1.F.a2.Text, li .i64 a1.F.a3.N, ls a1.F.a3.Text]), (16, .one (li .i64 3))] ((2, some (.cells [li .i64 a0.ID, li .i64 i1, li .i64 i2, li .i64 i5, ls s6, li .i64 i9, ls s10, li .i64 a0.F.a2.N, ls a0.F.a2.Text, li .i64 a0.F.a3.N, ls a0.F.a3.Text])) :: ((3, some (.cells [li .i64 a1.ID, li .u8 a1.Mask, li .i64 a1.At.X, li .i64 a1.At.Y, li .i64 a1.F.a0.N, ls a1.F.a0.Text, li .i64 a1.F.a1.N, ls a1.F.a1.Text, li .i64 a1.F.a2.N, ls a1.F.a2.Text, li .i64 a1.F.a3.N, ls a1.F.a3.Text])) :: ((4, some (.cells [li .i64 0, li .i64 0, li .i64 0, li .i64 0, ls ByteArray.empty, li .i64 0, ls ByteArray.empty, li .i64 0, ls ByteArray.empty, li .i64 0, ls ByteArray.empty])) :: []))) (by kernel_rfl) (by kernel_rfl) (by kernel_rfl) ?_
      exact F23_u15_ok n a0 a1 i1 i2 i5 s6 i9 s10 a0.F.a2.N a0.F.a2.Text

def F23_u7 (n : Nat) (a0 : Thing) (a1 : Delta) (i1 : Int) (i2 : Int) (i5 : Int) (s6 : ByteArray) : Option Thing :=
    (F43 n a1.Mask 1).bind fun (r8 : Bool) =>
    if r8 then
      F23_u11 n a0 a1 i1 i2 i5 s6 a1.F.a1.N a1.F.a1.Text
    else
      F23_u11 n a0 a1 i1 i2 i5 s6 a0.F.a1.N a0.F.a1.Text
theorem F23_u7_ok (n : Nat) (a0 : Thing) (a1 : Delta) (i1 : Int) (i2 : Int) (i5 : Int) (s6 : ByteArray) : SimL Try.prog D (n + 8) (n + 7) pc23_c23 [(2, .one (.ptr 2 0)), (3, .one (.ptr 3 0)), (4, .one (.ptr 4 0)), (15, .agg [li .i64 a1.F.a0.N, ls a1.F.a0.Text, li .i64 a1.F.a1.N, ls a1.F.a1.Text, li .i64 a1.F.a2.N, ls a1.F.a2.Text, li .i64 a1.F.a3.N, ls a1.F.a3.Text]), (16, .one (li .i64 1))] ((2, some (.cells [li .i64 a0.ID, li .i64 i1, li .i64 i2, li .i64 i5, ls s6, li .i64 a0.F.a1.N, ls a0.F.a1.Text, li .i64 a0.F.a2.N, ls a0.F.a2.Text, li .i64 a0.F.a3.N, ls a0.F.a3.Text])) :: ((3, some (.cells [li .i64 a1.ID, li .u8 a1.Mask, li .i64 a1.At.X, li .i64 a1.At.Y, li .i64 a1.F.a0.N, ls a1.F.a0.Text, li .i64 a1.F.a1.N, ls a1.F.a1.Text, li .i64 a1.F.a2.N, ls a1.F.a2.Text, li .i64 a1.F.a3.N, ls a1.F.a3.Text])) :: ((4, some (.cells [li .i64 0, li .i64 0, li .i64 0, li .i64 0, ls ByteArray.empty, li .i64 0, ls ByteArray.empty, li .i64 0, ls ByteArray.empty, li .i64 0, ls ByteArray.empty])) :: []))) (F23_u7 n a0 a1 i1 i2 i5 s6) (QB 0 (QT Try.prog D (n + 8) pc23_c29 (QF pc23_r 0 F23_e))) := by
    unfold F23_u7
    refine SimL.succ ?_
    refine Sim.seq ?_
    refine Sim.region [(2, .one (.ptr 2 0)), (3, .one (.ptr 3 0)), (4, .one (.ptr 4 0)), (15, .agg [li .i64 a1.F.a0.N, ls a1.F.a0.Text, li .i64 a1.F.a1.N, ls a1.F.a1.Text, li .i64 a1.F.a2.N, ls a1.F.a2.Text, li .i64 a1.F.a3.N, ls a1.F.a3.Text]), (16, .one (li .i64 1))] ((2, some (.cells [li .i64 a0.ID, li .i64 i1, li .i64 i2, li .i64 i5, ls s6, li .i64 a0.F.a1.N, ls a0.F.a1.Text, li .i64 a0.F.a2.N, ls a0.F.a2.Text, li .i64 a0.F.a3.N, ls a0.F.a3.Text])) :: ((3, some (.cells [li .i64 a1.ID, li .u8 a1.Mask, li .i64 a1.At.X, li .i64 a1.At.Y, li .i64 a1.F.a0.N, ls a1.F.a0.Text, li .i64 a1.F.a1.N, ls a1.F.a1.Text, li .i64 a1.F.a2.N, ls a1.F.a2.Text, li .i64 a1.F.a3.N, ls a1.F.a3.Text])) :: ((4, some (.cells [li .i64 0, li .i64 0, li .i64 0, li .i64 0, ls ByteArray.empty, li .i64 0, ls ByteArray.empty, li .i64 0, ls ByteArray.empty, li .i64 0, ls ByteArray.empty])) :: []))) (by kernel_rfl) ?_
    refine SimI.run 1 [(17, .one (lb true))] [] (by kernel_rfl) ?_
    refine SimI.done (by kernel_rfl) ?_
    refine SimE.thenN ?_
    refine Sim.seq ?_
    refine Sim.condT (by kernel_rfl) ?_
    refine Sim.skip ?_
    refine SimE.thenN ?_
    refine Sim.seq ?_
    refine Sim.block ?_
    refine Sim.seq ?_
    refine Sim.region0 ?_
    refine SimI.run 5 [(5, .one (li .i64 1)), (6, .one (.ptr 6 0)), (19, .agg [li .i64 a1.F.a1.N, ls a1.F.a1.Text]), (18, .one (li .i64 1))] [(6, some (.cells [li .i64 a1.F.a1.N, ls a1.F.a1.Text])), (6, some (.cells [li .i64 0, ls ByteArray.empty]))] (by kernel_rfl) ?_
    refine SimI.done (by kernel_rfl) ?_
    refine SimE.thenN ?_
    refine Sim.seq ?_
    refine Sim.region0 ?_
    refine SimI.run 3 [(22, .one (li .i64 1)), (21, .one (li .u8 a1.Mask)), (20, .one (.ptr 3 1))] [] (by kernel_rfl) ?_
    refine SimI.bind (og := F43 n a1.Mask 1) { dst := some 23, op := POp.call true [[], []] 43 [Operand.tmp 21, Operand.tmp 22], guard := none, hints := [] } (fun r8 => [(23, .one (lb r8))]) (fun r8 => []) (by kernel_rfl) (fun r8 hr => pOp_eff (by kernel_rfl) (by kernel_rfl) (eff_call (ARGS := [.one (li .u8 a1.Mask), .one (li .i64 1)]) (by kernel_rfl) (args_clean (by kernel_rfl) (args_clean (by kernel_rfl) args_nil)) (F43_ok n a1.Mask 1 r8 hr) (by kernel_rfl))) (fun r8 => ?_)
    refine SimI.done (by kernel_rfl) ?_
    refine SimE.thenN ?_
    refine Sim.cond r8 (by kernel_rfl) ?_ ?_
    · refine Sim.region0 ?_
      refine SimI.run 5 [(27, .one (.ptr 2 5)), (26, .one (.ptr 2 3)), (25, .agg [li .i64 a1.F.a1.N, ls a1.F.a1.Text]), (24, .one (li .i64 1))] [(2, some (.cells [li .i64 a0.ID, li .i64 i1, li .i64 i2, li .i64 i5, ls s6, li .i64 a1.F.a1.N, ls a1.F.a1.Text, li .i64 a0.F.a2.N, ls a0.F.a2.Text, li .i64 a0.F.a3.N, ls a0.F.a3.Text]))] (by kernel_rfl) ?_
      refine SimI.done (by kernel_rfl) ?_
      refine SimE.blockN ?_
      refine SimE.thenN ?_
      refine Sim.region0 ?_
      refine SimI.run 2 [(16, .one (li .i64 2)), (28, .one (li .i64 2))] [] (by kernel_rfl) ?_
      refine SimI.done (by kernel_rfl) ?_
      refine SimE.loopN ?_
      refine SimL.pre (ts := [2, 3, 4, 15, 16]) (os := [2, 3, 4, 6]) [(2, .one (.ptr 2 0)), (3, .one (.ptr 3 0)), (4, .one (.ptr 4 0)), (15, .agg [li .i64 a1.F.a0.N, ls a1.F.a0.Text, li .i64 a1.F.a1.N, ls a1.F.a1.Text, li .i64 a1.F.a2.N, ls a1.F.a2.Text, li .i64 a1.F.a3.N, ls a1.F.a3.Text]), (16, .one (li .i64 2))] ((2, some (.cells [li .i64 a0.ID, li .i64 i1, li .i64 i2, li .i64 i5, ls s6, li .i64 a1.F.a1.N, ls a1.F.a1.Text, li .i64 a0.F.a2.N, ls a0.F.a2.Text, li .i64 a0.F.a3.N, ls a0.F.a3.Text])) :: ((3, some (.cells [li .i64 a1.ID, li .u8 a1.Mask, li .i64 a1.At.X, li .i64 a1.At.Y, li .i64 a1.F.a0.N, ls a1.F.a0.Text, li .i64 a1.F.a1.N, ls a1.F.a1.Text, li .i64 a1.F.a2.N, ls a1.F.a2.Text, li .i64 a1.F.a3.N, ls a1.F.a3.Text])) :: ((4, some (.cells [li .i64 0, li .i64 0, li .i64 0, li .i64 0, ls ByteArray.empty, li .i64 0, ls ByteArray.empty, li .i64 0, ls ByteArray.empty, li .i64 0, ls ByteArray.empty])) :: []))) (by kernel_rfl) (by kernel_rfl) (by kernel_rfl) ?_
      exact F23_u11_ok n a0 a1 i1 i2 i5 s6 a1.F.a1.N a1.F.a1.Text
    · refine Sim.skip ?_
      refine SimE.blockN ?_
      refine SimE.thenN ?_
      refine Sim.region0 ?_
      refine SimI.run 2 [(16, .one (li .i64 2)), (28, .one (li .i64 2))] [] (by kernel_rfl) ?_
      refine SimI.done (by kernel_rfl) ?_
      refine SimE.loopN ?_
      refine SimL.pre (ts := [2, 3, 4, 15, 16]) (os := [2, 3, 4, 6]) [(2, .one (.ptr 2 0)), (3, .one (.ptr 3 0)), (4, .one (.ptr 4 0)), (15, .agg [li .i64 a1.F.a0.N, ls a1.F.a0.Text, li .i64 a1.F.a1.N, ls a1.F.a1.Text, li .i64 a1.F.a2.N, ls a1.F.a2.Text, li .i64 a1.F.a3.N, ls a1.F.a3.Text]), (16, .one (li .i64 2))] ((2, some (.cells [li .i64 a0.ID, li .i64 i1, li .i64 i2, li .i64 i5, ls s6, li .i64 a0.F.a1.N, ls a0.F.a1.Text, li .i64 a0.F.a2.N, ls a0.F.a2.Text, li .i64 a0.F.a3.N, ls a0.F.a3.Text])) :: ((3, some (.cells [li .i64 a1.ID, li .u8 a1.Mask, li .i64 a1.At.X, li .i64 a1.At.Y, li .i64 a1.F.a0.N, ls a1.F.a0.Text, li .i64 a1.F.a1.N, ls a1.F.a1.Text, li .i64 a1.F.a2.N, ls a1.F.a2.Text, li .i64 a1.F.a3.N, ls a1.F.a3.Text])) :: ((4, some (.cells [li .i64 0, li .i64 0, li .i64 0, li .i64 0, ls ByteArray.empty, li .i64 0, ls ByteArray.empty, li .i64 0, ls ByteArray.empty, li .i64 0, ls ByteArray.empty])) :: []))) (by kernel_rfl) (by kernel_rfl) (by kernel_rfl) ?_
      exact F23_u11_ok n a0 a1 i1 i2 i5 s6 a0.F.a1.N a0.F.a1.Text

def F23_j3 (n : Nat) (a0 : Thing) (a1 : Delta) (i1 : Int) (i2 : Int) : Option Thing :=
    (F43 n a1.Mask 0).bind fun (r4 : Bool) =>
    if r4 then
      F23_u7 n a0 a1 i1 i2 a1.F.a0.N a1.F.a0.Text
    else
      F23_u7 n a0 a1 i1 i2 a0.F.a0.N a0.F.a0.Text
theorem F23_j3_ok (n : Nat) (a0 : Thing) (a1 : Delta) (i1 : Int) (i2 : Int) : Sim Try.prog D (n + 8) pc23_c30 [(2, .one (.ptr 2 0)), (3, .one (.ptr 3 0)), (4, .one (.ptr 4 0))] ((2, some (.cells [li .i64 a0.ID, li .i64 i1, li .i64 i2, li .i64 a0.F.a0.N, ls a0.F.a0.Text, li .i64 a0.F.a1.N, ls a0.F.a1.Text, li .i64 a0.F.a2.N, ls a0.F.a2.Text, li .i64 a0.F.a3.N, ls a0.F.a3.Text])) :: ((3, some (.cells [li .i64 a1.ID, li .u8 a1.Mask, li .i64 a1.At.X, li .i64 a1.At.Y, li .i64 a1.F.a0.N, ls a1.F.a0.Text, li .i64 a1.F.a1.N, ls a1.F.a1.Text, li .i64 a1.F.a2.N, ls a1.F.a2.Text, li .i64 a1.F.a3.N, ls a1.F.a3.Text])) :: ((4, some (.cells [li .i64 0, li .i64 0, li .i64 0, li .i64 0, ls ByteArray.empty, li .i64 0, ls ByteArray.empty, li .i64 0, ls ByteArray.empty, li .i64 0, ls ByteArray.empty])) :: []))) (F23_j3 n a0 a1 i1 i2) (QF pc23_r 0 F23_e) := by
    unfold F23_j3
    refine Sim.seq ?_
    refine Sim.seq ?_
    refine Sim.region [(2, .one (.ptr 2 0)), (3, .one (.ptr 3 0)), (4, .one (.ptr 4 0))] ((2, some (.cells [li .i64 a0.ID, li .i64 i1, li .i64 i2, li .i64 a0.F.a0.N, ls a0.F.a0.Text, li .i64 a0.F.a1.N, ls a0.F.a1.Text, li .i64 a0.F.a2.N, ls a0.F.a2.Text, li .i64 a0.F.a3.N, ls a0.F.a3.Text])) :: ((3, some (.cells [li .i64 a1.ID, li .u8 a1.Mask, li .i64 a1.At.X, li .i64 a1.At.Y, li .i64 a1.F.a0.N, ls a1.F.a0.Text, li .i64 a1.F.a1.N, ls a1.F.a1.Text, li .i64 a1.F.a2.N, ls a1.F.a2.Text, li .i64 a1.F.a3.N, ls a1.F.a3.Text])) :: ((4, some (.cells [li .i64 0, li .i64 0, li .i64 0, li .i64 0, ls ByteArray.empty, li .i64 0, ls ByteArray.empty, li .i64 0, ls ByteArray.empty, li .i64 0, ls ByteArray.empty])) :: []))) (by kernel_rfl) ?_
    refine SimI.run 3 [(16, .one (li .i64 0)), (15, .agg [li .i64 a1.F.a0.N, ls a1.F.a0.Text, li .i64 a1.F.a1.N, ls a1.F.a1.Text, li .i64 a1.F.a2.N, ls a1.F.a2.Text, li .i64 a1.F.a3.N, ls a1.F.a3.Text]), (14, .one (.ptr 3 4))] [] (by kernel_rfl) ?_
    refine SimI.done (by kernel_rfl) ?_
    refine SimE.thenN ?_
    refine Sim.block ?_
    refine Sim.loop ?_
    refine SimL.succ ?_
    refine Sim.seq ?_
    refine Sim.region [(2, .one (.ptr 2 0)), (3, .one (.ptr 3 0)), (4, .one (.ptr 4 0)), (15, .agg [li .i64 a1.F.a0.N, ls a1.F.a0.Text, li .i64 a1.F.a1.N, ls a1.F.a1.Text, li .i64 a1.F.a2.N, ls a1.F.a2.Text, li .i64 a1.F.a3.N, ls a1.F.a3.Text]), (16, .one (li .i64 0))] ((2, some (.cells [li .i64 a0.ID, li .i64 i1, li .i64 i2, li .i64 a0.F.a0.N, ls a0.F.a0.Text, li .i64 a0.F.a1.N, ls a0.F.a1.Text, li .i64 a0.F.a2.N, ls a0.F.a2.Text, li .i64 a0.F.a3.N, ls a0.F.a3.Text])) :: ((3, some (.cells [li .i64 a1.ID, li .u8 a1.Mask, li .i64 a1.At.X, li .i64 a1.At.Y, li .i64 a1.F.a0.N, ls a1.F.a0.Text, li .i64 a1.F.a1.N, ls a1.F.a1.Text, li .i64 a1.F.a2.N, ls a1.F.a2.Text, li .i64 a1.F.a3.N, ls a1.F.a3.Text])) :: ((4, some (.cells [li .i64 0, li .i64 0, li .i64 0, li .i64 0, ls ByteArray.empty, li .i64 0, ls ByteArray.empty, li .i64 0, ls ByteArray.empty, li .i64 0, ls ByteArray.empty])) :: []))) (by kernel_rfl) ?_
    refine SimI.run 1 [(17, .one (lb true))] [] (by kernel_rfl) ?_
    refine SimI.done (by kernel_rfl) ?_
    refine SimE.thenN ?_
    refine Sim.seq ?_
    refine Sim.condT (by kernel_rfl) ?_
    refine Sim.skip ?_
    refine SimE.thenN ?_
    refine Sim.seq ?_
    refine Sim.block ?_
    refine Sim.seq ?_
    refine Sim.region0 ?_
    refine SimI.run 5 [(5, .one (li .i64 0)), (6, .one (.ptr 6 0)), (19, .agg [li .i64 a1.F.a0.N, ls a1.F.a0.Text]), (18, .one (li .i64 0))] [(6, some (.cells [li .i64 a1.F.a0.N, ls a1.F.a0.Text])), (6, some (.cells [li .i64 0, ls ByteArray.empty]))] (by kernel_rfl) ?_
    refine SimI.done (by kernel_rfl) ?_
    refine SimE.thenN ?_
    refine Sim.seq ?_
    refine Sim.region0 ?_
    refine SimI.run 3 [(22, .one (li .i64 0)), (21, .one (li .u8 a1.Mask)), (20, .one (.ptr 3 1))] [] (by kernel_rfl) ?_
    refine SimI.bind (og := F43 n a1.Mask 0) { dst := some 23, op := POp.call true [[], []] 43 [Operand.tmp 21, Operand.tmp 22], guard := none, hints := [] } (fun r4 => [(23, .one (lb r4))]) (fun r4 => []) (by kernel_rfl) (fun r4 hr => pOp_eff (by kernel_rfl) (by kernel_rfl) (eff_call (ARGS := [.one (li .u8 a1.Mask), .one (li .i64 0)]) (by kernel_rfl) (args_clean (by kernel_rfl) (args_clean (by kernel_rfl) args_nil)) (F43_ok n a1.Mask 0 r4 hr) (by kernel_rfl))) (fun r4 => ?_)
    refine SimI.done (by kernel_rfl) ?_
    refine SimE.thenN ?_
    refine Sim.cond r4 (by kernel_rfl) ?_ ?_
    · refine Sim.region0 ?_
      refine SimI.run 5 [(27, .one (.ptr 2 3)), (26, .one (.ptr 2 3)), (25, .agg [li .i64 a1.F.a0.N, ls a1.F.a0.Text]), (24, .one (li .i64 0))] [(2, some (.cells [li .i64 a0.ID, li .i64 i1, li .i64 i2, li .i64 a1.F.a0.N, ls a1.F.a0.Text, li .i64 a0.F.a1.N, ls a0.F.a1.Text, li .i64 a0.F.a2.N, ls a0.F.a2.Text, li .i64 a0.F.a3.N, ls a0.F.a3.Text]))] (by kernel_rfl) ?_
      refine SimI.done (by kernel_rfl) ?_
      refine SimE.blockN ?_
      refine SimE.thenN ?_
      refine Sim.region0 ?_
      refine SimI.run 2 [(16, .one (li .i64 1)), (28, .one (li .i64 1))] [] (by kernel_rfl) ?_
      refine SimI.done (by kernel_rfl) ?_
      refine SimE.loopN ?_
      refine SimL.pre (ts := [2, 3, 4, 15, 16]) (os := [2, 3, 4, 6]) [(2, .one (.ptr 2 0)), (3, .one (.ptr 3 0)), (4, .one (.ptr 4 0)), (15, .agg [li .i64 a1.F.a0.N, ls a1.F.a0.Text, li .i64 a1.F.a1.N, ls a1.F.a1.Text, li .i64 a1.F.a2.N, ls a1.F.a2.Text, li .i64 a1.F.a3.N, ls a1.F.a3.Text]), (16, .one (li .i64 1))] ((2, some (.cells [li .i64 a0.ID, li .i64 i1, li .i64 i2, li .i64 a1.F.a0.N, ls a1.F.a0.Text, li .i64 a0.F.a1.N, ls a0.F.a1.Text, li .i64 a0.F.a2.N, ls a0.F.a2.Text, li .i64 a0.F.a3.N, ls a0.F.a3.Text])) :: ((3, some (.cells [li .i64 a1.ID, li .u8 a1.Mask, li .i64 a1.At.X, li .i64 a1.At.Y, li .i64 a1.F.a0.N, ls a1.F.a0.Text, li .i64 a1.F.a1.N, ls a1.F.a1.Text, li .i64 a1.F.a2.N, ls a1.F.a2.Text, li .i64 a1.F.a3.N, ls a1.F.a3.Text])) :: ((4, some (.cells [li .i64 0, li .i64 0, li .i64 0, li .i64 0, ls ByteArray.empty, li .i64 0, ls ByteArray.empty, li .i64 0, ls ByteArray.empty, li .i64 0, ls ByteArray.empty])) :: []))) (by kernel_rfl) (by kernel_rfl) (by kernel_rfl) ?_
      exact F23_u7_ok n a0 a1 i1 i2 a1.F.a0.N a1.F.a0.Text
    · refine Sim.skip ?_
      refine SimE.blockN ?_
      refine SimE.thenN ?_
      refine Sim.region0 ?_
      refine SimI.run 2 [(16, .one (li .i64 1)), (28, .one (li .i64 1))] [] (by kernel_rfl) ?_
      refine SimI.done (by kernel_rfl) ?_
      refine SimE.loopN ?_
      refine SimL.pre (ts := [2, 3, 4, 15, 16]) (os := [2, 3, 4, 6]) [(2, .one (.ptr 2 0)), (3, .one (.ptr 3 0)), (4, .one (.ptr 4 0)), (15, .agg [li .i64 a1.F.a0.N, ls a1.F.a0.Text, li .i64 a1.F.a1.N, ls a1.F.a1.Text, li .i64 a1.F.a2.N, ls a1.F.a2.Text, li .i64 a1.F.a3.N, ls a1.F.a3.Text]), (16, .one (li .i64 1))] ((2, some (.cells [li .i64 a0.ID, li .i64 i1, li .i64 i2, li .i64 a0.F.a0.N, ls a0.F.a0.Text, li .i64 a0.F.a1.N, ls a0.F.a1.Text, li .i64 a0.F.a2.N, ls a0.F.a2.Text, li .i64 a0.F.a3.N, ls a0.F.a3.Text])) :: ((3, some (.cells [li .i64 a1.ID, li .u8 a1.Mask, li .i64 a1.At.X, li .i64 a1.At.Y, li .i64 a1.F.a0.N, ls a1.F.a0.Text, li .i64 a1.F.a1.N, ls a1.F.a1.Text, li .i64 a1.F.a2.N, ls a1.F.a2.Text, li .i64 a1.F.a3.N, ls a1.F.a3.Text])) :: ((4, some (.cells [li .i64 0, li .i64 0, li .i64 0, li .i64 0, ls ByteArray.empty, li .i64 0, ls ByteArray.empty, li .i64 0, ls ByteArray.empty, li .i64 0, ls ByteArray.empty])) :: []))) (by kernel_rfl) (by kernel_rfl) (by kernel_rfl) ?_
      exact F23_u7_ok n a0 a1 i1 i2 a0.F.a0.N a0.F.a0.Text

def F23 (n : Nat) (a0 : Thing) (a1 : Delta) : Option Thing :=
  if (bitsI .and .u8 a1.Mask 1) != 0 then
    F23_j3 n a0 a1 a1.At.X a1.At.Y
  else
    F23_j3 n a0 a1 a0.At.X a0.At.Y
theorem F23_ok (n : Nat) (a0 : Thing) (a1 : Delta) : ∀ r, F23 n a0 a1 = some r → D 23 [.agg [li .i64 a0.ID, li .i64 a0.At.X, li .i64 a0.At.Y, li .i64 a0.F.a0.N, ls a0.F.a0.Text, li .i64 a0.F.a1.N, ls a0.F.a1.Text, li .i64 a0.F.a2.N, ls a0.F.a2.Text, li .i64 a0.F.a3.N, ls a0.F.a3.Text], .agg [li .i64 a1.ID, li .u8 a1.Mask, li .i64 a1.At.X, li .i64 a1.At.Y, li .i64 a1.F.a0.N, ls a1.F.a0.Text, li .i64 a1.F.a1.N, ls a1.F.a1.Text, li .i64 a1.F.a2.N, ls a1.F.a2.Text, li .i64 a1.F.a3.N, ls a1.F.a3.Text]] [] = some (F23_e r) := by
  refine fn_to (D := D) (n := n + 8) (nt := 30) (rs := pc23_r) (c := pc23_c32) (L := [(0, .agg [li .i64 a0.ID, li .i64 a0.At.X, li .i64 a0.At.Y, li .i64 a0.F.a0.N, ls a0.F.a0.Text, li .i64 a0.F.a1.N, ls a0.F.a1.Text, li .i64 a0.F.a2.N, ls a0.F.a2.Text, li .i64 a0.F.a3.N, ls a0.F.a3.Text]), (1, .agg [li .i64 a1.ID, li .u8 a1.Mask, li .i64 a1.At.X, li .i64 a1.At.Y, li .i64 a1.F.a0.N, ls a1.F.a0.Text, li .i64 a1.F.a1.N, ls a1.F.a1.Text, li .i64 a1.F.a2.N, ls a1.F.a2.Text, li .i64 a1.F.a3.N, ls a1.F.a3.Text])]) (M := []) (k := 0) rfl rfl rfl rfl rfl rfl ?_
  unfold F23
  refine Sim.seq ?_
  refine Sim.region0 ?_
  refine SimI.run 3 [(4, .one (.ptr 4 0)), (3, .one (.ptr 3 0)), (2, .one (.ptr 2 0))] [(4, some (.cells [li .i64 0, li .i64 0, li .i64 0, li .i64 0, ls ByteArray.empty, li .i64 0, ls ByteArray.empty, li .i64 0, ls ByteArray.empty, li .i64 0, ls ByteArray.empty])), (3, some (.cells [li .i64 a1.ID, li .u8 a1.Mask, li .i64 a1.At.X, li .i64 a1.At.Y, li .i64 a1.F.a0.N, ls a1.F.a0.Text, li .i64 a1.F.a1.N, ls a1.F.a1.Text, li .i64 a1.F.a2.N, ls a1.F.a2.Text, li .i64 a1.F.a3.N, ls a1.F.a3.Text])), (2, some (.cells [li .i64 a0.ID, li .i64 a0.At.X, li .i64 a0.At.Y, li .i64 a0.F.a0.N, ls a0.F.a0.Text, li .i64 a0.F.a1.N, ls a0.F.a1.Text, li .i64 a0.F.a2.N, ls a0.F.a2.Text, li .i64 a0.F.a3.N, ls a0.F.a3.Text]))] (by kernel_rfl) ?_
  refine SimI.done (by kernel_rfl) ?_
  refine SimE.thenN ?_
  refine Sim.seq ?_
  refine Sim.seq ?_
  refine Sim.region0 ?_
  refine SimI.run 4 [(10, .one (lb ((bitsI .and .u8 a1.Mask 1) != 0))), (9, .one (li .u8 (bitsI .and .u8 a1.Mask 1))), (8, .one (li .u8 a1.Mask)), (7, .one (.ptr 3 1))] [] (by kernel_rfl) ?_
  refine SimI.done (by kernel_rfl) ?_
  refine SimE.thenN ?_
  refine Sim.cond ((bitsI .and .u8 a1.Mask 1) != 0) (by kernel_rfl) ?_ ?_
  · refine Sim.region0 ?_
    refine SimI.run 4 [(13, .one (.ptr 2 1)), (12, .agg [li .i64 a1.At.X, li .i64 a1.At.Y]), (11, .one (.ptr 3 2))] [(2, some (.cells [li .i64 a0.ID, li .i64 a1.At.X, li .i64 a1.At.Y, li .i64 a0.F.a0.N, ls a0.F.a0.Text, li .i64 a0.F.a1.N, ls a0.F.a1.Text, li .i64 a0.F.a2.N, ls a0.F.a2.Text, li .i64 a0.F.a3.N, ls a0.F.a3.Text]))] (by kernel_rfl) ?_
    refine SimI.done (by kernel_rfl) ?_
    refine SimE.thenN ?_
    refine Sim.pre (ts := [2, 3, 4]) (os := [2, 3, 4]) [(2, .one (.ptr 2 0)), (3, .one (.ptr 3 0)), (4, .one (.ptr 4 0))] ((2, some (.cells [li .i64 a0.ID, li .i64 a1.At.X, li .i64 a1.At.Y, li .i64 a0.F.a0.N, ls a0.F.a0.Text, li .i64 a0.F.a1.N, ls a0.F.a1.Text, li .i64 a0.F.a2.N, ls a0.F.a2.Text, li .i64 a0.F.a3.N, ls a0.F.a3.Text])) :: ((3, some (.cells [li .i64 a1.ID, li .u8 a1.Mask, li .i64 a1.At.X, li .i64 a1.At.Y, li .i64 a1.F.a0.N, ls a1.F.a0.Text, li .i64 a1.F.a1.N, ls a1.F.a1.Text, li .i64 a1.F.a2.N, ls a1.F.a2.Text, li .i64 a1.F.a3.N, ls a1.F.a3.Text])) :: ((4, some (.cells [li .i64 0, li .i64 0, li .i64 0, li .i64 0, ls ByteArray.empty, li .i64 0, ls ByteArray.empty, li .i64 0, ls ByteArray.empty, li .i64 0, ls ByteArray.empty])) :: []))) (by kernel_rfl) (by kernel_rfl) (by kernel_rfl) ?_
    exact F23_j3_ok n a0 a1 a1.At.X a1.At.Y
  · refine Sim.skip ?_
    refine SimE.thenN ?_
    refine Sim.pre (ts := [2, 3, 4]) (os := [2, 3, 4]) [(2, .one (.ptr 2 0)), (3, .one (.ptr 3 0)), (4, .one (.ptr 4 0))] ((2, some (.cells [li .i64 a0.ID, li .i64 a0.At.X, li .i64 a0.At.Y, li .i64 a0.F.a0.N, ls a0.F.a0.Text, li .i64 a0.F.a1.N, ls a0.F.a1.Text, li .i64 a0.F.a2.N, ls a0.F.a2.Text, li .i64 a0.F.a3.N, ls a0.F.a3.Text])) :: ((3, some (.cells [li .i64 a1.ID, li .u8 a1.Mask, li .i64 a1.At.X, li .i64 a1.At.Y, li .i64 a1.F.a0.N, ls a1.F.a0.Text, li .i64 a1.F.a1.N, ls a1.F.a1.Text, li .i64 a1.F.a2.N, ls a1.F.a2.Text, li .i64 a1.F.a3.N, ls a1.F.a3.Text])) :: ((4, some (.cells [li .i64 0, li .i64 0, li .i64 0, li .i64 0, ls ByteArray.empty, li .i64 0, ls ByteArray.empty, li .i64 0, ls ByteArray.empty, li .i64 0, ls ByteArray.empty])) :: []))) (by kernel_rfl) (by kernel_rfl) (by kernel_rfl) ?_
    exact F23_j3_ok n a0 a1 a0.At.X a0.At.Y


-- 28: vedette/fields.Same
def F28_e : Bool → PV × List (List Lf) := fun r => (.one (lb r), [])
def F28 (n : Nat) (a0 : Delta) (a1 : Delta) : Option Bool :=
  some (Delta.eqb a0 a1)
theorem F28_ok (n : Nat) (a0 : Delta) (a1 : Delta) : ∀ r, F28 n a0 a1 = some r → D 28 [.agg [li .i64 a0.ID, li .u8 a0.Mask, li .i64 a0.At.X, li .i64 a0.At.Y, li .i64 a0.F.a0.N, ls a0.F.a0.Text, li .i64 a0.F.a1.N, ls a0.F.a1.Text, li .i64 a0.F.a2.N, ls a0.F.a2.Text, li .i64 a0.F.a3.N, ls a0.F.a3.Text], .agg [li .i64 a1.ID, li .u8 a1.Mask, li .i64 a1.At.X, li .i64 a1.At.Y, li .i64 a1.F.a0.N, ls a1.F.a0.Text, li .i64 a1.F.a1.N, ls a1.F.a1.Text, li .i64 a1.F.a2.N, ls a1.F.a2.Text, li .i64 a1.F.a3.N, ls a1.F.a3.Text]] [] = some (F28_e r) := by
  refine fn_to (D := D) (n := n + 8) (nt := 8) (rs := pc28_r) (c := pc28_c5) (L := [(0, .agg [li .i64 a0.ID, li .u8 a0.Mask, li .i64 a0.At.X, li .i64 a0.At.Y, li .i64 a0.F.a0.N, ls a0.F.a0.Text, li .i64 a0.F.a1.N, ls a0.F.a1.Text, li .i64 a0.F.a2.N, ls a0.F.a2.Text, li .i64 a0.F.a3.N, ls a0.F.a3.Text]), (1, .agg [li .i64 a1.ID, li .u8 a1.Mask, li .i64 a1.At.X, li .i64 a1.At.Y, li .i64 a1.F.a0.N, ls a1.F.a0.Text, li .i64 a1.F.a1.N, ls a1.F.a1.Text, li .i64 a1.F.a2.N, ls a1.F.a2.Text, li .i64 a1.F.a3.N, ls a1.F.a3.Text])]) (M := []) (k := 0) rfl rfl rfl rfl rfl rfl ?_
  unfold F28
  refine Sim.seq ?_
  refine Sim.region0 ?_
  refine SimI.run 3 [(4, .one (lb false)), (3, .one (.ptr 3 0)), (2, .one (.ptr 2 0))] [(3, some (.cells [li .i64 a1.ID, li .u8 a1.Mask, li .i64 a1.At.X, li .i64 a1.At.Y, li .i64 a1.F.a0.N, ls a1.F.a0.Text, li .i64 a1.F.a1.N, ls a1.F.a1.Text, li .i64 a1.F.a2.N, ls a1.F.a2.Text, li .i64 a1.F.a3.N, ls a1.F.a3.Text])), (2, some (.cells [li .i64 a0.ID, li .u8 a0.Mask, li .i64 a0.At.X, li .i64 a0.At.Y, li .i64 a0.F.a0.N, ls a0.F.a0.Text, li .i64 a0.F.a1.N, ls a0.F.a1.Text, li .i64 a0.F.a2.N, ls a0.F.a2.Text, li .i64 a0.F.a3.N, ls a0.F.a3.Text]))] (by kernel_rfl) ?_
  refine SimI.done (by kernel_rfl) ?_
  refine SimE.thenN ?_
  refine Sim.seq ?_
  refine Sim.region0 ?_
  refine SimI.run 2 [(6, .agg [li .i64 a1.ID, li .u8 a1.Mask, li .i64 a1.At.X, li .i64 a1.At.Y, li .i64 a1.F.a0.N, ls a1.F.a0.Text, li .i64 a1.F.a1.N, ls a1.F.a1.Text, li .i64 a1.F.a2.N, ls a1.F.a2.Text, li .i64 a1.F.a3.N, ls a1.F.a3.Text]), (5, .agg [li .i64 a0.ID, li .u8 a0.Mask, li .i64 a0.At.X, li .i64 a0.At.Y, li .i64 a0.F.a0.N, ls a0.F.a0.Text, li .i64 a0.F.a1.N, ls a0.F.a1.Text, li .i64 a0.F.a2.N, ls a0.F.a2.Text, li .i64 a0.F.a3.N, ls a0.F.a3.Text])] [] (by kernel_rfl) ?_
  refine SimI.step { dst := some 7, op := POp.prim (Prim.bin BinOp.eql 30 false false) [Operand.tmp 5, Operand.tmp 6], guard := none, hints := [] } [(7, .one (lb (Delta.eqb a0 a1)))] [] (by kernel_rfl) (pOp_eff (by kernel_rfl) (by kernel_rfl) (eff_prim (by kernel_rfl) (Delta_eql a0 a1 _ _))) ?_
  refine SimI.run 1 [(4, .one (lb (Delta.eqb a0 a1)))] [] (by kernel_rfl) ?_
  refine SimI.done (by kernel_rfl) ?_
  refine SimE.thenN ?_
  refine Sim.ret ?_
  exact SimE.fin (by kernel_rfl)


-- 70: vedette/num.Get
def F70_e : (Int × Int × Int) → PV × List (List Lf) := fun r => (.tup [.one (li .u64 r.1), .one (li .i64 r.2.1), .one (li .i64 r.2.2)], [])
def F70_j13 (n : Nat) (i11 : Int) (i12 : Int) : Option (Int × Int × Int) :=
    if i12 == 0 then
      some (0, 0, 10)
    else
      some (i11, i12, 0)
theorem F70_j13_ok (n : Nat) (i11 : Int) (i12 : Int) : Sim Try.prog D (n + 8) pc70_c51 [(5, .one (li .u64 i11)), (6, .one (li .i64 i12))] [] (F70_j13 n i11 i12) (QF pc70_r 0 F70_e) := by
    unfold F70_j13
    refine Sim.seq ?_
    refine Sim.seq ?_
    refine Sim.region [(5, .one (li .u64 i11)), (6, .one (li .i64 i12))] [] (by kernel_rfl) ?_
    refine SimI.run 2 [(52, .one (lb (i12 == 0))), (51, .one (li .i64 i12))] [] (by kernel_rfl) ?_
    refine SimI.done (by kernel_rfl) ?_
    refine SimE.thenN ?_
    refine Sim.cond (i12 == 0) (by kernel_rfl) ?_ ?_
    · refine Sim.seq ?_
      refine Sim.region0 ?_
      refine SimI.run 3 [(4, .one (li .i64 10)), (3, .one (li .i64 0)), (2, .one (li .u64 0))] [] (by kernel_rfl) ?_
      refine SimI.done (by kernel_rfl) ?_
      refine SimE.thenN ?_
      refine Sim.ret ?_
      refine SimE.thenR ?_
      exact SimE.fin (by kernel_rfl)
    · refine Sim.skip ?_
      refine SimE.thenN ?_
      refine Sim.seq ?_
      refine Sim.region0 ?_
      refine SimI.run 5 [(4, .one (li .i64 0)), (3, .one (li .i64 i12)), (2, .one (li .u64 i11)), (54, .one (li .i64 i12)), (53, .one (li .u64 i11))] [] (by kernel_rfl) ?_
      refine SimI.done (by kernel_rfl) ?_
      refine SimE.thenN ?_
      refine Sim.ret ?_
      exact SimE.fin (by kernel_rfl)

def F70_j10 (n : Nat) (i5 : Int) (i6 : Int) (x8 : Int) (rec_l7 : Int → Int → Option (Int × Int × Int)) : Option (Int × Int × Int) :=
    if decide (x8 < 128) then
      if ¬ (IntKind.wrap .i64 (7 * i6) < 0) then
        F70_j13 n (bitsI .or .u64 i5 (shlI .u64 (IntKind.wrap .u64 x8) (IntKind.wrap .i64 (7 * i6)))) (IntKind.wrap .i64 (i6 + 1))
      else none
    else
      if ¬ (IntKind.wrap .i64 (7 * i6) < 0) then
        rec_l7 (bitsI .or .u64 i5 (shlI .u64 (IntKind.wrap .u64 (bitsI .andNot .u8 x8 128)) (IntKind.wrap .i64 (7 * i6)))) (IntKind.wrap .i64 (i6 + 1))
      else none
theorem F70_j10_ok (n : Nat) (a0 : ByteArray) (i5 : Int) (i6 : Int) (x8 : Int) (rec_l7 : Int → Int → Option (Int × Int × Int)) (m_l7 : Nat) (ih_l7 : ∀ (i5 : Int) (i6 : Int), SimL Try.prog D (n + 8) m_l7 pc70_c37 [(5, .one (li .u64 i5)), (6, .one (li .i64 0)), (10, .one (vw (codI .u8) (bytesL a0))), (11, .one (li .i64 ((bytesL a0).length : Int))), (12, .one (li .i64 i6))] [] (rec_l7 i5 i6) (QB 0 (QT Try.prog D (n + 8) pc70_c51 (QF pc70_r 0 F70_e)))) : Sim Try.prog D (n + 8) pc70_c26 [(5, .one (li .u64 i5)), (6, .one (li .i64 0)), (7, .one (li .i64 i6)), (8, .one (li .u8 x8)), (10, .one (vw (codI .u8) (bytesL a0))), (11, .one (li .i64 ((bytesL a0).length : Int))), (12, .one (li .i64 i6))] [] (F70_j10 n i5 i6 x8 rec_l7) (QB 2 (QT Try.prog D (n + 8) pc70_c30 (QB 1 (QT Try.prog D (n + 8) pc70_c34 (QL Try.prog D (n + 8) m_l7 pc70_c37 (QB 0 (QT Try.prog D (n + 8) pc70_c51 (QF pc70_r 0 F70_e)))))))) := by
    unfold F70_j10
    refine Sim.seq ?_
    refine Sim.region [(5, .one (li .u64 i5)), (6, .one (li .i64 0)), (7, .one (li .i64 i6)), (8, .one (li .u8 x8)), (10, .one (vw (codI .u8) (bytesL a0))), (11, .one (li .i64 ((bytesL a0).length : Int))), (12, .one (li .i64 i6))] [] (by kernel_rfl) ?_
    refine SimI.run 3 [(30, .one (lb (decide (x8 < 128)))), (32, .one (lb (decide (x8 < 128)))), (31, .one (li .u8 x8))] [] (by kernel_rfl) ?_
    refine SimI.done (by kernel_rfl) ?_
    refine SimE.thenN ?_
    refine Sim.cond (decide (x8 < 128)) (by kernel_rfl) ?_ ?_
    · refine Sim.seq ?_
      refine Sim.region0 ?_
      refine SimI.run 5 [(37, .one (li .i64 (IntKind.wrap .i64 (7 * i6)))), (36, .one (li .i64 i6)), (35, .one (li .u64 (IntKind.wrap .u64 x8))), (34, .one (li .u8 x8)), (33, .one (li .u64 i5))] [] (by kernel_rfl) ?_
      refine SimI.guard (c := ¬ (IntKind.wrap .i64 (7 * i6) < 0)) { dst := some 38, op := POp.prim (Prim.bin BinOp.shl 70 false false) [Operand.tmp 35, Operand.tmp 37], guard := none, hints := [] } [(38, .one (li .u64 (shlI .u64 (IntKind.wrap .u64 x8) (IntKind.wrap .i64 (7 * i6)))))] [] (by kernel_rfl) (fun hc => pOp_eff (by kernel_rfl) (by kernel_rfl) (eff_prim (by kernel_rfl) (pr_shl _ _ _ .u64 .i64 (IntKind.wrap .u64 x8) (IntKind.wrap .i64 (7 * i6)) hc))) ?_
      refine SimI.run 2 [(5, .one (li .u64 (bitsI .or .u64 i5 (shlI .u64 (IntKind.wrap .u64 x8) (IntKind.wrap .i64 (7 * i6)))))), (39, .one (li .u64 (bitsI .or .u64 i5 (shlI .u64 (IntKind.wrap .u64 x8) (IntKind.wrap .i64 (7 * i6))))))] [] (by kernel_rfl) ?_
      refine SimI.done (by kernel_rfl) ?_
      refine SimE.thenN ?_
      refine Sim.seq ?_
      refine Sim.region0 ?_
      refine SimI.run 3 [(6, .one (li .i64 (IntKind.wrap .i64 (i6 + 1)))), (41, .one (li .i64 (IntKind.wrap .i64 (i6 + 1)))), (40, .one (li .i64 i6))] [] (by kernel_rfl) ?_
      refine SimI.done (by kernel_rfl) ?_
      refine SimE.thenN ?_
      refine Sim.exit ?_
      refine SimE.blockY rfl ?_
      refine SimE.thenX ?_
      refine SimE.blockY rfl ?_
      refine SimE.thenX ?_
      refine SimE.loopX ?_
      refine SimE.blockX ?_
      refine SimE.thenN ?_
      refine Sim.pre (ts := [5, 6]) (os := []) [(5, .one (li .u64 (bitsI .or .u64 i5 (shlI .u64 (IntKind.wrap .u64 x8) (IntKind.wrap .i64 (7 * i6)))))), (6, .one (li .i64 (IntKind.wrap .i64 (i6 + 1))))] [] (by kernel_rfl) (by kernel_rfl) (by kernel_rfl) ?_
      exact F70_j13_ok n (bitsI .or .u64 i5 (shlI .u64 (IntKind.wrap .u64 x8) (IntKind.wrap .i64 (7 * i6)))) (IntKind.wrap .i64 (i6 + 1))
    · refine Sim.skip ?_
      refine SimE.blockN ?_
      refine SimE.thenN ?_
      refine Sim.region0 ?_
      refine SimI.run 6 [(47, .one (li .i64 (IntKind.wrap .i64 (7 * i6)))), (46, .one (li .i64 i6)), (45, .one (li .u64 (IntKind.wrap .u64 (bitsI .andNot .u8 x8 128)))), (44, .one (li .u8 (bitsI .andNot .u8 x8 128))), (43, .one (li .u8 x8)), (42, .one (li .u64 i5))] [] (by kernel_rfl) ?_
      refine SimI.guard (c := ¬ (IntKind.wrap .i64 (7 * i6) < 0)) { dst := some 48, op := POp.prim (Prim.bin BinOp.shl 70 false false) [Operand.tmp 45, Operand.tmp 47], guard := none, hints := [] } [(48, .one (li .u64 (shlI .u64 (IntKind.wrap .u64 (bitsI .andNot .u8 x8 128)) (IntKind.wrap .i64 (7 * i6)))))] [] (by kernel_rfl) (fun hc => pOp_eff (by kernel_rfl) (by kernel_rfl) (eff_prim (by kernel_rfl) (pr_shl _ _ _ .u64 .i64 (IntKind.wrap .u64 (bitsI .andNot .u8 x8 128)) (IntKind.wrap .i64 (7 * i6)) hc))) ?_
      refine SimI.run 2 [(5, .one (li .u64 (bitsI .or .u64 i5 (shlI .u64 (IntKind.wrap .u64 (bitsI .andNot .u8 x8 128)) (IntKind.wrap .i64 (7 * i6)))))), (49, .one (li .u64 (bitsI .or .u64 i5 (shlI .u64 (IntKind.wrap .u64 (bitsI .andNot .u8 x8 128)) (IntKind.wrap .i64 (7 * i6))))))] [] (by kernel_rfl) ?_
      refine SimI.done (by kernel_rfl) ?_
      refine SimE.blockN ?_
      refine SimE.thenN ?_
      refine Sim.region0 ?_
      refine SimI.run 2 [(12, .one (li .i64 (IntKind.wrap .i64 (i6 + 1)))), (50, .one (li .i64 (IntKind.wrap .i64 (i6 + 1))))] [] (by kernel_rfl) ?_
      refine SimI.done (by kernel_rfl) ?_
      refine SimE.loopN ?_
      refine SimL.pre (ts := [5, 6, 10, 11, 12]) (os := []) [(5, .one (li .u64 (bitsI .or .u64 i5 (shlI .u64 (IntKind.wrap .u64 (bitsI .andNot .u8 x8 128)) (IntKind.wrap .i64 (7 * i6)))))), (6, .one (li .i64 0)), (10, .one (vw (codI .u8) (bytesL a0))), (11, .one (li .i64 ((bytesL a0).length : Int))), (12, .one (li .i64 (IntKind.wrap .i64 (i6 + 1))))] [] (by kernel_rfl) (by kernel_rfl) (by kernel_rfl) ?_
      exact ih_l7 (bitsI .or .u64 i5 (shlI .u64 (IntKind.wrap .u64 (bitsI .andNot .u8 x8 128)) (IntKind.wrap .i64 (7 * i6)))) (IntKind.wrap .i64 (i6 + 1))

def F70_j9 (n : Nat) (i5 : Int) (i6 : Int) (x8 : Int) (rec_l7 : Int → Int → Option (Int × Int × Int)) : Option (Int × Int × Int) :=
    if decide ((0 : Int) < i6) then
      if x8 == 0 then
        some (0, 0, 11)
      else
        F70_j10 n i5 i6 x8 rec_l7
    else
      F70_j10 n i5 i6 x8 rec_l7
theorem F70_j9_ok (n : Nat) (a0 : ByteArray) (i5 : Int) (i6 : Int) (x8 : Int) (rec_l7 : Int → Int → Option (Int × Int × Int)) (m_l7 : Nat) (ih_l7 : ∀ (i5 : Int) (i6 : Int), SimL Try.prog D (n + 8) m_l7 pc70_c37 [(5, .one (li .u64 i5)), (6, .one (li .i64 0)), (10, .one (vw (codI .u8) (bytesL a0))), (11, .one (li .i64 ((bytesL a0).length : Int))), (12, .one (li .i64 i6))] [] (rec_l7 i5 i6) (QB 0 (QT Try.prog D (n + 8) pc70_c51 (QF pc70_r 0 F70_e)))) : Sim Try.prog D (n + 8) pc70_c12 [(5, .one (li .u64 i5)), (6, .one (li .i64 0)), (7, .one (li .i64 i6)), (8, .one (li .u8 x8)), (10, .one (vw (codI .u8) (bytesL a0))), (11, .one (li .i64 ((bytesL a0).length : Int))), (12, .one (li .i64 i6))] [] (F70_j9 n i5 i6 x8 rec_l7) (QT Try.prog D (n + 8) pc70_c27 (QB 2 (QT Try.prog D (n + 8) pc70_c30 (QB 1 (QT Try.prog D (n + 8) pc70_c34 (QL Try.prog D (n + 8) m_l7 pc70_c37 (QB 0 (QT Try.prog D (n + 8) pc70_c51 (QF pc70_r 0 F70_e))))))))) := by
    unfold F70_j9
    refine Sim.region [(5, .one (li .u64 i5)), (6, .one (li .i64 0)), (7, .one (li .i64 i6)), (8, .one (li .u8 x8)), (10, .one (vw (codI .u8) (bytesL a0))), (11, .one (li .i64 ((bytesL a0).length : Int))), (12, .one (li .i64 i6))] [] (by kernel_rfl) ?_
    refine SimI.run 3 [(26, .one (lb (decide ((0 : Int) < i6)))), (25, .one (lb (decide ((0 : Int) < i6)))), (24, .one (li .i64 i6))] [] (by kernel_rfl) ?_
    refine SimI.split 26 (decide ((0 : Int) < i6)) (by kernel_rfl) ?_ ?_
    · refine SimI.run 4 [(17, .one (lb (x8 == 0))), (29, .one (lb (x8 == 0))), (28, .one (lb (x8 == 0))), (27, .one (li .u8 x8))] [] (by kernel_rfl) ?_
      refine SimI.done (by kernel_rfl) ?_
      refine SimE.thenN ?_
      refine Sim.cond (x8 == 0) (by kernel_rfl) ?_ ?_
      · refine Sim.seq ?_
        refine Sim.region0 ?_
        refine SimI.run 3 [(4, .one (li .i64 11)), (3, .one (li .i64 0)), (2, .one (li .u64 0))] [] (by kernel_rfl) ?_
        refine SimI.done (by kernel_rfl) ?_
        refine SimE.thenN ?_
        refine Sim.ret ?_
        refine SimE.blockR ?_
        refine SimE.thenR ?_
        refine SimE.blockR ?_
        refine SimE.thenR ?_
        refine SimE.loopR ?_
        refine SimE.blockR ?_
        refine SimE.thenR ?_
        exact SimE.fin (by kernel_rfl)
      · refine Sim.pre (ts := [5, 6, 7, 8, 10, 11, 12]) (os := []) [(5, .one (li .u64 i5)), (6, .one (li .i64 0)), (7, .one (li .i64 i6)), (8, .one (li .u8 x8)), (10, .one (vw (codI .u8) (bytesL a0))), (11, .one (li .i64 ((bytesL a0).length : Int))), (12, .one (li .i64 i6))] [] (by kernel_rfl) (by kernel_rfl) (by kernel_rfl) ?_
        exact F70_j10_ok n a0 i5 i6 x8 rec_l7 m_l7 ih_l7
    · refine SimI.run 4 [(17, .one (lb false)), (29, .one (lb false)), (28, .tup []), (27, .tup [])] [] (by kernel_rfl) ?_
      refine SimI.done (by kernel_rfl) ?_
      refine SimE.thenN ?_
      refine Sim.condF (by kernel_rfl) ?_
      refine Sim.pre (ts := [5, 6, 7, 8, 10, 11, 12]) (os := []) [(5, .one (li .u64 i5)), (6, .one (li .i64 0)), (7, .one (li .i64 i6)), (8, .one (li .u8 x8)), (10, .one (vw (codI .u8) (bytesL a0))), (11, .one (li .i64 ((bytesL a0).length : Int))), (12, .one (li .i64 i6))] [] (by kernel_rfl) (by kernel_rfl) (by kernel_rfl) ?_
      exact F70_j10_ok n a0 i5 i6 x8 rec_l7 m_l7 ih_l7

def F70_l7 (n : Nat) (a0 : ByteArray) : Nat → Int → Int → Option (Int × Int × Int)
  | 0, _, _ => none
  | m + 1, i5, i6 =>
    if decide (i6 < ((bytesL a0).length : Int)) then
      (ix (bytesL a0) i6).bind fun (x8 : Int) =>
      if i6 == 9 then
        if decide ((1 : Int) < x8) then
          if decide ((1 : Int) < x8) then
            some (0, 0, 11)
          else
            F70_j10 n i5 i6 x8 (F70_l7 n a0 m)
        else
          F70_j9 n i5 i6 x8 (F70_l7 n a0 m)
      else
        F70_j9 n i5 i6 x8 (F70_l7 n a0 m)
    else
      F70_j13 n i5 0
theorem F70_l7_ok (n : Nat) (a0 : ByteArray) : ∀ (m : Nat) (i5 : Int) (i6 : Int), SimL Try.prog D (n + 8) m pc70_c37 [(5, .one (li .u64 i5)), (6, .one (li .i64 0)), (10, .one (vw (codI .u8) (bytesL a0))), (11, .one (li .i64 ((bytesL a0).length : Int))), (12, .one (li .i64 i6))] [] (F70_l7 n a0 m i5 i6) (QB 0 (QT Try.prog D (n + 8) pc70_c51 (QF pc70_r 0 F70_e))) := by
  intro m_l7
  induction m_l7 with
  | zero => intro i5 i6; exact SimL.zero'  rfl
  | succ m_l7 ih_l7 =>
    intro i5 i6
    refine SimL.succ ?_
    unfold F70_l7
    refine Sim.seq ?_
    refine Sim.region [(5, .one (li .u64 i5)), (6, .one (li .i64 0)), (10, .one (vw (codI .u8) (bytesL a0))), (11, .one (li .i64 ((bytesL a0).length : Int))), (12, .one (li .i64 i6))] [] (by kernel_rfl) ?_
    refine SimI.run 1 [(13, .one (lb (decide (i6 < ((bytesL a0).length : Int)))))] [] (by kernel_rfl) ?_
    refine SimI.done (by kernel_rfl) ?_
    refine SimE.thenN ?_
    refine Sim.seq ?_
    refine Sim.cond (decide (i6 < ((bytesL a0).length : Int))) (by kernel_rfl) ?_ ?_
    · refine Sim.skip ?_
      refine SimE.thenN ?_
      refine Sim.seq ?_
      refine Sim.block ?_
      refine Sim.seq ?_
      refine Sim.region0 ?_
      refine SimI.run 1 [(14, .one (li .i64 i6))] [] (by kernel_rfl) ?_
      refine SimI.bind (og := ix (bytesL a0) i6) { dst := some 15, op := POp.iaddrS 1 (Operand.tmp 10) (Operand.tmp 12), guard := none, hints := [] } (fun x8 => [(15, .one (.eptr ((codI .u8).enc x8) 0))]) (fun x8 => []) (by kernel_rfl) (fun x8 hr => pOp_eff (by kernel_rfl) (by kernel_rfl) (eff_idx (c := (codI .u8)) (l := bytesL a0) (k := .i64) (n := i6) (by kernel_rfl) (by kernel_rfl) (by kernel_rfl) hr)) (fun x8 => ?_)
      refine SimI.run 3 [(8, .one (li .u8 x8)), (7, .one (li .i64 i6)), (16, .one (li .u8 x8))] [] (by kernel_rfl) ?_
      refine SimI.done (by kernel_rfl) ?_
      refine SimE.thenN ?_
      refine Sim.seq ?_
      refine Sim.block ?_
      refine Sim.seq ?_
      refine Sim.seq ?_
      refine Sim.region0 ?_
      refine SimI.run 3 [(20, .one (lb (i6 == 9))), (19, .one (lb (i6 == 9))), (18, .one (li .i64 i6))] [] (by kernel_rfl) ?_
      refine SimI.split 20 (i6 == 9) (by kernel_rfl) ?_ ?_
      · refine SimI.run 4 [(17, .one (lb (decide ((1 : Int) < x8)))), (23, .one (lb (decide ((1 : Int) < x8)))), (22, .one (lb (decide ((1 : Int) < x8)))), (21, .one (li .u8 x8))] [] (by kernel_rfl) ?_
        refine SimI.done (by kernel_rfl) ?_
        refine SimE.thenN ?_
        refine Sim.cond (decide ((1 : Int) < x8)) (by kernel_rfl) ?_ ?_
        · refine Sim.skip ?_
          refine SimE.thenN ?_
          refine Sim.cond (decide ((1 : Int) < x8)) (by kernel_rfl) ?_ ?_
          · refine Sim.seq ?_
            refine Sim.region0 ?_
            refine SimI.run 3 [(4, .one (li .i64 11)), (3, .one (li .i64 0)), (2, .one (li .u64 0))] [] (by kernel_rfl) ?_
            refine SimI.done (by kernel_rfl) ?_
            refine SimE.thenN ?_
            refine Sim.ret ?_
            refine SimE.blockR ?_
            refine SimE.thenR ?_
            refine SimE.blockR ?_
            refine SimE.thenR ?_
            refine SimE.loopR ?_
            refine SimE.blockR ?_
            refine SimE.thenR ?_
            exact SimE.fin (by kernel_rfl)
          · refine Sim.pre (ts := [5, 6, 7, 8, 10, 11, 12]) (os := []) [(5, .one (li .u64 i5)), (6, .one (li .i64 0)), (7, .one (li .i64 i6)), (8, .one (li .u8 x8)), (10, .one (vw (codI .u8) (bytesL a0))), (11, .one (li .i64 ((bytesL a0).length : Int))), (12, .one (li .i64 i6))] [] (by kernel_rfl) (by kernel_rfl) (by kernel_rfl) ?_
            exact F70_j10_ok n a0 i5 i6 x8 (F70_l7 n a0 m_l7) m_l7 ih_l7
        · refine Sim.pre (ts := [5, 6, 7, 8, 10, 11, 12]) (os := []) [(5, .one (li .u64 i5)), (6, .one (li .i64 0)), (7, .one (li .i64 i6)), (8, .one (li .u8 x8)), (10, .one (vw (codI .u8) (bytesL a0))), (11, .one (li .i64 ((bytesL a0).length : Int))), (12, .one (li .i64 i6))] [] (by kernel_rfl) (by kernel_rfl) (by kernel_rfl) ?_
          exact F70_j9_ok n a0 i5 i6 x8 (F70_l7 n a0 m_l7) m_l7 ih_l7
      · refine SimI.run 4 [(17, .one (lb false)), (23, .one (lb false)), (22, .tup []), (21, .tup [])] [] (by kernel_rfl) ?_
        refine SimI.done (by kernel_rfl) ?_
        refine SimE.thenN ?_
        refine Sim.condF (by kernel_rfl) ?_
        refine Sim.pre (ts := [5, 6, 7, 8, 10, 11, 12]) (os := []) [(5, .one (li .u64 i5)), (6, .one (li .i64 0)), (7, .one (li .i64 i6)), (8, .one (li .u8 x8)), (10, .one (vw (codI .u8) (bytesL a0))), (11, .one (li .i64 ((bytesL a0).length : Int))), (12, .one (li .i64 i6))] [] (by kernel_rfl) (by kernel_rfl) (by kernel_rfl) ?_
        exact F70_j9_ok n a0 i5 i6 x8 (F70_l7 n a0 m_l7) m_l7 ih_l7
    · refine Sim.exit ?_
      refine SimE.thenX ?_
      refine SimE.loopX ?_
      refine SimE.blockX ?_
      refine SimE.thenN ?_
      refine Sim.pre (ts := [5, 6]) (os := []) [(5, .one (li .u64 i5)), (6, .one (li .i64 0))] [] (by kernel_rfl) (by kernel_rfl) (by kernel_rfl) ?_
      exact F70_j13_ok n i5 0

def F70 (n : Nat) (a0 : ByteArray) : Option (Int × Int × Int) :=
  F70_l7 n a0 (n + 8) 0 0
theorem F70_ok (n : Nat) (a0 : ByteArray) : ∀ r, F70 n a0 = some r → D 70 [.one (ls a0)] [] = some (F70_e r) := by
  refine fn_to (D := D) (n := n + 8) (nt := 55) (rs := pc70_r) (c := pc70_c56) (L := [(0, .one (ls a0))]) (M := []) (k := 0) rfl rfl rfl rfl rfl rfl ?_
  unfold F70
  refine Sim.seq ?_
  refine Sim.region0 ?_
  refine SimI.run 3 [(4, .one (li .i64 0)), (3, .one (li .i64 0)), (2, .one (li .u64 0))] [] (by kernel_rfl) ?_
  refine SimI.done (by kernel_rfl) ?_
  refine SimE.thenN ?_
  refine Sim.scope ?_
  refine Sim.seq ?_
  refine Sim.region0 ?_
  refine SimI.run 2 [(6, .one (li .i64 0)), (5, .one (li .u64 0))] [] (by kernel_rfl) ?_
  refine SimI.done (by kernel_rfl) ?_
  refine SimE.thenN ?_
  refine Sim.seq ?_
  refine Sim.label ?_
  refine SimE.thenN ?_
  refine Sim.seq ?_
  refine Sim.seq ?_
  refine Sim.region0 ?_
  refine SimI.run 1 [(9, .one (ls a0))] [] (by kernel_rfl) ?_
  refine SimI.step { dst := some 10, op := POp.s2b 5 (Operand.tmp 9), guard := none, hints := [] } [(10, .one (vw (codI .u8) (bytesL a0)))] [] (by kernel_rfl) (pOp_eff (by kernel_rfl) (by kernel_rfl) (eff_s2b (s := a0) (by kernel_rfl))) ?_
  refine SimI.run 2 [(12, .one (li .i64 0)), (11, .one (li .i64 ((bytesL a0).length : Int)))] [] (by kernel_rfl) ?_
  refine SimI.done (by kernel_rfl) ?_
  refine SimE.thenN ?_
  refine Sim.block ?_
  refine Sim.loop ?_
  refine SimL.pre (ts := [5, 6, 10, 11, 12]) (os := []) [(5, .one (li .u64 0)), (6, .one (li .i64 0)), (10, .one (vw (codI .u8) (bytesL a0))), (11, .one (li .i64 ((bytesL a0).length : Int))), (12, .one (li .i64 0))] [] (by kernel_rfl) (by kernel_rfl) (by kernel_rfl) ?_
  exact F70_l7_ok n a0 (n + 8) 0 0


-- 71: (*vedette/fields.reader).took
def F71_e : Reader → PV × List (List Lf) := fun r => (.tup [], [[ls r.s, li .i64 r.at_, li .i64 r.e]])
def F71 (n : Nat) (a0 : Reader) (a1 : Int) (a2 : Int) : Option Reader :=
  some (Reader.mk a0.s (IntKind.wrap .i64 (a0.at_ + a1)) a2)
theorem F71_ok (n : Nat) (a0 : Reader) (a1 : Int) (a2 : Int) : ∀ r, F71 n a0 a1 a2 = some r → D 71 [.one (.ptr 1000000 0), .one (li .i64 a1), .one (li .i64 a2)] [[ls a0.s, li .i64 a0.at_, li .i64 a0.e]] = some (F71_e r) := by
  refine fn_to (D := D) (n := n + 8) (nt := 18) (rs := pc71_r) (c := pc71_c3) (L := [(0, .one (.ptr 1000000 0)), (1, .one (li .i64 a1)), (2, .one (li .i64 a2))]) (M := [(1000000, some (.cells [ls a0.s, li .i64 a0.at_, li .i64 a0.e]))]) (k := 1) rfl rfl rfl rfl rfl rfl ?_
  unfold F71
  refine Sim.seq ?_
  refine Sim.region0 ?_
  refine SimI.run 9 [(13, .one (.ptr 1000000 1)), (12, .one (.ptr 1000000 0)), (11, .one (li .i64 (IntKind.wrap .i64 (a0.at_ + a1)))), (10, .one (li .i64 a1)), (9, .one (li .i64 a0.at_)), (8, .one (.ptr 1000000 1)), (7, .one (.ptr 1000000 0)), (6, .one (.ptr 1000000 0))] [(1000000, some (.cells [ls a0.s, li .i64 (IntKind.wrap .i64 (a0.at_ + a1)), li .i64 a0.e]))] (by kernel_rfl) ?_
  refine SimI.done (by kernel_rfl) ?_
  refine SimE.thenN ?_
  refine Sim.region0 ?_
  refine SimI.run 5 [(17, .one (.ptr 1000000 2)), (16, .one (.ptr 1000000 0)), (15, .one (li .i64 a2)), (14, .one (.ptr 1000000 0))] [(1000000, some (.cells [ls a0.s, li .i64 (IntKind.wrap .i64 (a0.at_ + a1)), li .i64 a2]))] (by kernel_rfl) ?_
  refine SimI.done (by kernel_rfl) ?_
  exact SimE.finN (by kernel_rfl)


-- 51: (*vedette/fields.reader).number
def F51_e : (Int × Reader) → PV × List (List Lf) := fun r => (.one (li .i64 r.1), [[ls r.2.s, li .i64 r.2.at_, li .i64 r.2.e]])
def F51 (n : Nat) (a0 : Reader) : Option (Int × Reader) :=
  if a0.e != 0 then
    some (0, a0)
  else
    if 0 ≤ (a0.at_ : Int) ∧ (a0.at_ : Int) ≤ (a0.s.size : Int) then
      (F70 n (a0.s.extract a0.at_.toNat a0.s.size)).bind fun (r1 : (Int × Int × Int)) =>
      (F71 n a0 r1.2.1 r1.2.2).bind fun (r2 : Reader) =>
      some (IntKind.wrap .i64 (imin r1.1 1000001), r2)
    else none
theorem F51_ok (n : Nat) (a0 : Reader) : ∀ r, F51 n a0 = some r → D 51 [.one (.ptr 1000000 0)] [[ls a0.s, li .i64 a0.at_, li .i64 a0.e]] = some (F51_e r) := by
  refine fn_to (D := D) (n := n + 8) (nt := 32) (rs := pc51_r) (c := pc51_c17) (L := [(0, .one (.ptr 1000000 0))]) (M := [(1000000, some (.cells [ls a0.s, li .i64 a0.at_, li .i64 a0.e]))]) (k := 1) rfl rfl rfl rfl rfl rfl ?_
  unfold F51
  refine Sim.seq ?_
  refine Sim.region0 ?_
  refine SimI.run 1 [(2, .one (li .i64 0))] [] (by kernel_rfl) ?_
  refine SimI.done (by kernel_rfl) ?_
  refine SimE.thenN ?_
  refine Sim.seq ?_
  refine Sim.seq ?_
  refine Sim.region0 ?_
  refine SimI.run 5 [(10, .one (lb (a0.e != 0))), (9, .one (li .i64 a0.e)), (8, .one (.ptr 1000000 2)), (7, .one (.ptr 1000000 0)), (6, .one (.ptr 1000000 0))] [] (by kernel_rfl) ?_
  refine SimI.done (by kernel_rfl) ?_
  refine SimE.thenN ?_
  refine Sim.cond (a0.e != 0) (by kernel_rfl) ?_ ?_
  · refine Sim.seq ?_
    refine Sim.region0 ?_
    refine SimI.run 1 [(2, .one (li .i64 0))] [] (by kernel_rfl) ?_
    refine SimI.done (by kernel_rfl) ?_
    refine SimE.thenN ?_
    refine Sim.ret ?_
    refine SimE.thenR ?_
    exact SimE.fin (by kernel_rfl)
  · refine Sim.skip ?_
    refine SimE.thenN ?_
    refine Sim.seq ?_
    refine Sim.region0 ?_
    refine SimI.run 8 [(19, .one (li .i64 a0.at_)), (18, .one (.ptr 1000000 1)), (17, .one (.ptr 1000000 0)), (16, .one (.ptr 1000000 0)), (15, .one (ls a0.s)), (14, .one (.ptr 1000000 0)), (13, .one (.ptr 1000000 0)), (12, .one (.ptr 1000000 0))] [] (by kernel_rfl) ?_
    refine SimI.guard (c := 0 ≤ (a0.at_ : Int) ∧ (a0.at_ : Int) ≤ (a0.s.size : Int)) { dst := some 20, op := POp.prim (Prim.slice 9 true false) [Operand.tmp 15, Operand.tmp 19], guard := none, hints := [(15, Hint.imm), (19, Hint.imm)] } [(20, .one (ls (a0.s.extract a0.at_.toNat a0.s.size)))] [] (by kernel_rfl) (fun hc => pOp_eff (by kernel_rfl) (by kernel_rfl) (eff_prim (by kernel_rfl) (pr_cutL (s := a0.s) (k := .i64) (a := a0.at_) Try.underlying9 hc))) ?_
    refine SimI.bind (og := F70 n (a0.s.extract a0.at_.toNat a0.s.size)) { dst := some 21, op := POp.call false [[]] 70 [Operand.tmp 20], guard := none, hints := [(20, Hint.imm)] } (fun r1 => [(21, .tup [.one (li .u64 r1.1), .one (li .i64 r1.2.1), .one (li .i64 r1.2.2)])]) (fun r1 => []) (by kernel_rfl) (fun r1 hr => pOp_eff (by kernel_rfl) (by kernel_rfl) (eff_call (ARGS := [.one (ls (a0.s.extract a0.at_.toNat a0.s.size))]) (by kernel_rfl) (args_clean (by kernel_rfl) args_nil) (F70_ok n (a0.s.extract a0.at_.toNat a0.s.size) r1 hr) (by kernel_rfl))) (fun r1 => ?_)
    refine SimI.run 7 [(5, .one (li .i64 r1.2.2)), (4, .one (li .i64 r1.2.1)), (3, .one (li .u64 r1.1)), (24, .one (li .i64 r1.2.2)), (23, .one (li .i64 r1.2.1)), (22, .one (li .u64 r1.1)), (11, .tup [.one (li .u64 r1.1), .one (li .i64 r1.2.1), .one (li .i64 r1.2.2)])] [] (by kernel_rfl) ?_
    refine SimI.done (by kernel_rfl) ?_
    refine SimE.thenN ?_
    refine Sim.seq ?_
    refine Sim.region0 ?_
    refine SimI.run 3 [(27, .one (li .i64 r1.2.2)), (26, .one (li .i64 r1.2.1)), (25, .one (.ptr 1000000 0))] [] (by kernel_rfl) ?_
    refine SimI.bind (og := F71 n a0 r1.2.1 r1.2.2) { dst := some 28, op := POp.call true [[], [], []] 71 [Operand.tmp 25, Operand.tmp 26, Operand.tmp 27], guard := none, hints := [] } (fun r2 => [(28, .tup [])]) (fun r2 => [(1000000, some (.cells [ls r2.s, li .i64 r2.at_, li .i64 r2.e]))]) (by kernel_rfl) (fun r2 hr => pOp_eff (by kernel_rfl) (by kernel_rfl) (eff_callp (ARGS := [.one (.ptr 1000000 0), .one (li .i64 r1.2.1), .one (li .i64 r1.2.2)]) (ARGS' := [.one (.ptr 1000000 0), .one (li .i64 r1.2.1), .one (li .i64 r1.2.2)]) (ks := [1000000]) (os := [[ls a0.s, li .i64 a0.at_, li .i64 a0.e]]) (os' := [[ls r2.s, li .i64 r2.at_, li .i64 r2.e]]) (by kernel_rfl) (args_ptr (by kernel_rfl) (args_clean (by kernel_rfl) (args_clean (by kernel_rfl) args_nil))) rfl (by kernel_rfl) (F71_ok n a0 r1.2.1 r1.2.2 r2 hr) (by kernel_rfl) (by kernel_rfl))) (fun r2 => ?_)
    refine SimI.done (by kernel_rfl) ?_
    refine SimE.thenN ?_
    refine Sim.seq ?_
    refine Sim.region0 ?_
    refine SimI.run 4 [(2, .one (li .i64 (IntKind.wrap .i64 (imin r1.1 1000001)))), (31, .one (li .i64 (IntKind.wrap .i64 (imin r1.1 1000001)))), (30, .one (li .u64 (imin r1.1 1000001))), (29, .one (li .u64 r1.1))] [] (by kernel_rfl) ?_
    refine SimI.done (by kernel_rfl) ?_
    refine SimE.thenN ?_
    refine Sim.ret ?_
    exact SimE.fin (by kernel_rfl)


-- 74: vedette/num.Zag
def F74_e : Int → PV × List (List Lf) := fun r => (.one (li .i64 r), [])
def F74 (n : Nat) (a0 : Int) : Option Int :=
  some (bitsI .xor .i64 (IntKind.wrap .i64 (shrI .u64 a0 1)) (IntKind.wrap .i64 (0 - (IntKind.wrap .i64 (bitsI .and .u64 a0 1)))))
theorem F74_ok (n : Nat) (a0 : Int) : ∀ r, F74 n a0 = some r → D 74 [.one (li .u64 a0)] [] = some (F74_e r) := by
  refine fn_to (D := D) (n := n + 8) (nt := 11) (rs := pc74_r) (c := pc74_c5) (L := [(0, .one (li .u64 a0))]) (M := []) (k := 0) rfl rfl rfl rfl rfl rfl ?_
  unfold F74
  refine Sim.seq ?_
  refine Sim.region0 ?_
  refine SimI.run 1 [(2, .one (li .i64 0))] [] (by kernel_rfl) ?_
  refine SimI.done (by kernel_rfl) ?_
  refine SimE.thenN ?_
  refine Sim.seq ?_
  refine Sim.region0 ?_
  refine SimI.run 9 [(2, .one (li .i64 (bitsI .xor .i64 (IntKind.wrap .i64 (shrI .u64 a0 1)) (IntKind.wrap .i64 (0 - (IntKind.wrap .i64 (bitsI .and .u64 a0 1))))))), (10, .one (li .i64 (bitsI .xor .i64 (IntKind.wrap .i64 (shrI .u64 a0 1)) (IntKind.wrap .i64 (0 - (IntKind.wrap .i64 (bitsI .and .u64 a0 1))))))), (9, .one (li .i64 (IntKind.wrap .i64 (0 - (IntKind.wrap .i64 (bitsI .and .u64 a0 1)))))), (8, .one (li .i64 (IntKind.wrap .i64 (bitsI .and .u64 a0 1)))), (7, .one (li .u64 (bitsI .and .u64 a0 1))), (6, .one (li .u64 a0)), (5, .one (li .i64 (IntKind.wrap .i64 (shrI .u64 a0 1)))), (4, .one (li .u64 (shrI .u64 a0 1))), (3, .one (li .u64 a0))] [] (by kernel_rfl) ?_
  refine SimI.done (by kernel_rfl) ?_
  refine SimE.thenN ?_
  refine Sim.ret ?_
  exact SimE.fin (by kernel_rfl)


-- 65: vedette/num.Ints
def F65_e : (Int × Int × Int) → PV × List (List Lf) := fun r => (.tup [.one (li .i64 r.1), .one (li .i64 r.2.1), .one (li .i64 r.2.2)], [])
def F65 (n : Nat) (a0 : ByteArray) : Option (Int × Int × Int) :=
  (F70 n a0).bind fun (r1 : (Int × Int × Int)) =>
  (F74 n r1.1).bind fun (r2 : Int) =>
  some (r2, r1.2.1, r1.2.2)
theorem F65_ok (n : Nat) (a0 : ByteArray) : ∀ r, F65 n a0 = some r → D 65 [.one (ls a0)] [] = some (F65_e r) := by
  refine fn_to (D := D) (n := n + 8) (nt := 18) (rs := pc65_r) (c := pc65_c7) (L := [(0, .one (ls a0))]) (M := []) (k := 0) rfl rfl rfl rfl rfl rfl ?_
  unfold F65
  refine Sim.seq ?_
  refine Sim.region0 ?_
  refine SimI.run 3 [(4, .one (li .i64 0)), (3, .one (li .i64 0)), (2, .one (li .i64 0))] [] (by kernel_rfl) ?_
  refine SimI.done (by kernel_rfl) ?_
  refine SimE.thenN ?_
  refine Sim.seq ?_
  refine Sim.region0 ?_
  refine SimI.run 1 [(9, .one (ls a0))] [] (by kernel_rfl) ?_
  refine SimI.bind (og := F70 n a0) { dst := some 10, op := POp.call true [[]] 70 [Operand.tmp 9], guard := none, hints := [] } (fun r1 => [(10, .tup [.one (li .u64 r1.1), .one (li .i64 r1.2.1), .one (li .i64 r1.2.2)])]) (fun r1 => []) (by kernel_rfl) (fun r1 hr => pOp_eff (by kernel_rfl) (by kernel_rfl) (eff_call (ARGS := [.one (ls a0)]) (by kernel_rfl) (args_clean (by kernel_rfl) args_nil) (F70_ok n a0 r1 hr) (by kernel_rfl))) (fun r1 => ?_)
  refine SimI.run 7 [(7, .one (li .i64 r1.2.2)), (6, .one (li .i64 r1.2.1)), (5, .one (li .u64 r1.1)), (13, .one (li .i64 r1.2.2)), (12, .one (li .i64 r1.2.1)), (11, .one (li .u64 r1.1)), (8, .tup [.one (li .u64 r1.1), .one (li .i64 r1.2.1), .one (li .i64 r1.2.2)])] [] (by kernel_rfl) ?_
  refine SimI.done (by kernel_rfl) ?_
  refine SimE.thenN ?_
  refine Sim.seq ?_
  refine Sim.region0 ?_
  refine SimI.run 1 [(14, .one (li .u64 r1.1))] [] (by kernel_rfl) ?_
  refine SimI.bind (og := F74 n r1.1) { dst := some 15, op := POp.call true [[]] 74 [Operand.tmp 14], guard := none, hints := [] } (fun r2 => [(15, .one (li .i64 r2))]) (fun r2 => []) (by kernel_rfl) (fun r2 hr => pOp_eff (by kernel_rfl) (by kernel_rfl) (eff_call (ARGS := [.one (li .u64 r1.1)]) (by kernel_rfl) (args_clean (by kernel_rfl) args_nil) (F74_ok n r1.1 r2 hr) (by kernel_rfl))) (fun r2 => ?_)
  refine SimI.run 5 [(4, .one (li .i64 r1.2.2)), (3, .one (li .i64 r1.2.1)), (2, .one (li .i64 r2)), (17, .one (li .i64 r1.2.2)), (16, .one (li .i64 r1.2.1))] [] (by kernel_rfl) ?_
  refine SimI.done (by kernel_rfl) ?_
  refine SimE.thenN ?_
  refine Sim.ret ?_
  exact SimE.fin (by kernel_rfl)


-- 67: vedette/num.Texts
def F67_e : (ByteArray × Int × Int) → PV × List (List Lf) := fun r => (.tup [.one (ls r.1), .one (li .i64 r.2.1), .one (li .i64 r.2.2)], [])
def F67 (n : Nat) (a0 : ByteArray) (a1 : Int) : Option (ByteArray × Int × Int) :=
  (F70 n a0).bind fun (r1 : (Int × Int × Int)) =>
  if r1.2.2 != 0 then
    some (ByteArray.empty, 0, r1.2.2)
  else
    if decide (IntKind.wrap .u64 (imax a1 0) < r1.1) then
      some (ByteArray.empty, 0, 13)
    else
      if decide (IntKind.wrap .u64 (IntKind.wrap .i64 ((a0.size : Int) - r1.2.1)) < r1.1) then
        some (ByteArray.empty, 0, 10)
      else
        if 0 ≤ (r1.2.1 : Int) ∧ (r1.2.1 : Int) ≤ IntKind.wrap .i64 (r1.2.1 + IntKind.wrap .i64 r1.1) ∧ IntKind.wrap .i64 (r1.2.1 + IntKind.wrap .i64 r1.1) ≤ (a0.size : Int) then
          some (a0.extract r1.2.1.toNat (IntKind.wrap .i64 (r1.2.1 + IntKind.wrap .i64 r1.1)).toNat, IntKind.wrap .i64 (r1.2.1 + IntKind.wrap .i64 r1.1), 0)
        else none
theorem F67_ok (n : Nat) (a0 : ByteArray) (a1 : Int) : ∀ r, F67 n a0 a1 = some r → D 67 [.one (ls a0), .one (li .i64 a1)] [] = some (F67_e r) := by
  refine fn_to (D := D) (n := n + 8) (nt := 44) (rs := pc67_r) (c := pc67_c30) (L := [(0, .one (ls a0)), (1, .one (li .i64 a1))]) (M := []) (k := 0) rfl rfl rfl rfl rfl rfl ?_
  unfold F67
  refine Sim.seq ?_
  refine Sim.region0 ?_
  refine SimI.run 3 [(6, .one (li .i64 0)), (5, .one (li .i64 0)), (4, .one (ls ByteArray.empty))] [] (by kernel_rfl) ?_
  refine SimI.done (by kernel_rfl) ?_
  refine SimE.thenN ?_
  refine Sim.seq ?_
  refine Sim.region0 ?_
  refine SimI.run 1 [(12, .one (ls a0))] [] (by kernel_rfl) ?_
  refine SimI.bind (og := F70 n a0) { dst := some 13, op := POp.call true [[]] 70 [Operand.tmp 12], guard := none, hints := [] } (fun r1 => [(13, .tup [.one (li .u64 r1.1), .one (li .i64 r1.2.1), .one (li .i64 r1.2.2)])]) (fun r1 => []) (by kernel_rfl) (fun r1 hr => pOp_eff (by kernel_rfl) (by kernel_rfl) (eff_call (ARGS := [.one (ls a0)]) (by kernel_rfl) (args_clean (by kernel_rfl) args_nil) (F70_ok n a0 r1 hr) (by kernel_rfl))) (fun r1 => ?_)
  refine SimI.run 7 [(9, .one (li .i64 r1.2.2)), (8, .one (li .i64 r1.2.1)), (7, .one (li .u64 r1.1)), (16, .one (li .i64 r1.2.2)), (15, .one (li .i64 r1.2.1)), (14, .one (li .u64 r1.1)), (11, .tup [.one (li .u64 r1.1), .one (li .i64 r1.2.1), .one (li .i64 r1.2.2)])] [] (by kernel_rfl) ?_
  refine SimI.done (by kernel_rfl) ?_
  refine SimE.thenN ?_
  refine Sim.seq ?_
  refine Sim.block ?_
  refine Sim.seq ?_
  refine Sim.region0 ?_
  refine SimI.run 3 [(17, .one (lb (r1.2.2 != 0))), (19, .one (lb (r1.2.2 != 0))), (18, .one (li .i64 r1.2.2))] [] (by kernel_rfl) ?_
  refine SimI.done (by kernel_rfl) ?_
  refine SimE.thenN ?_
  refine Sim.cond (r1.2.2 != 0) (by kernel_rfl) ?_ ?_
  · refine Sim.seq ?_
    refine Sim.region0 ?_
    refine SimI.run 4 [(6, .one (li .i64 r1.2.2)), (5, .one (li .i64 0)), (4, .one (ls ByteArray.empty)), (20, .one (li .i64 r1.2.2))] [] (by kernel_rfl) ?_
    refine SimI.done (by kernel_rfl) ?_
    refine SimE.thenN ?_
    refine Sim.ret ?_
    refine SimE.blockR ?_
    refine SimE.thenR ?_
    exact SimE.fin (by kernel_rfl)
  · refine Sim.seq ?_
    refine Sim.region0 ?_
    refine SimI.run 6 [(21, .one (lb (decide (IntKind.wrap .u64 (imax a1 0) < r1.1)))), (26, .one (lb (decide (IntKind.wrap .u64 (imax a1 0) < r1.1)))), (25, .one (li .u64 (IntKind.wrap .u64 (imax a1 0)))), (24, .one (li .i64 (imax a1 0))), (23, .one (li .i64 a1)), (22, .one (li .u64 r1.1))] [] (by kernel_rfl) ?_
    refine SimI.done (by kernel_rfl) ?_
    refine SimE.thenN ?_
    refine Sim.cond (decide (IntKind.wrap .u64 (imax a1 0) < r1.1)) (by kernel_rfl) ?_ ?_
    · refine Sim.seq ?_
      refine Sim.region0 ?_
      refine SimI.run 3 [(6, .one (li .i64 13)), (5, .one (li .i64 0)), (4, .one (ls ByteArray.empty))] [] (by kernel_rfl) ?_
      refine SimI.done (by kernel_rfl) ?_
      refine SimE.thenN ?_
      refine Sim.ret ?_
      refine SimE.blockR ?_
      refine SimE.thenR ?_
      exact SimE.fin (by kernel_rfl)
    · refine Sim.seq ?_
      refine Sim.region0 ?_
      refine SimI.run 8 [(27, .one (lb (decide (IntKind.wrap .u64 (IntKind.wrap .i64 ((a0.size : Int) - r1.2.1)) < r1.1)))), (34, .one (lb (decide (IntKind.wrap .u64 (IntKind.wrap .i64 ((a0.size : Int) - r1.2.1)) < r1.1)))), (33, .one (li .u64 (IntKind.wrap .u64 (IntKind.wrap .i64 ((a0.size : Int) - r1.2.1))))), (32, .one (li .i64 (IntKind.wrap .i64 ((a0.size : Int) - r1.2.1)))), (31, .one (li .i64 r1.2.1)), (30, .one (li .i64 (a0.size : Int))), (29, .one (ls a0)), (28, .one (li .u64 r1.1))] [] (by kernel_rfl) ?_
      refine SimI.done (by kernel_rfl) ?_
      refine SimE.thenN ?_
      refine Sim.cond (decide (IntKind.wrap .u64 (IntKind.wrap .i64 ((a0.size : Int) - r1.2.1)) < r1.1)) (by kernel_rfl) ?_ ?_
      · refine Sim.seq ?_
        refine Sim.region0 ?_
        refine SimI.run 3 [(6, .one (li .i64 10)), (5, .one (li .i64 0)), (4, .one (ls ByteArray.empty))] [] (by kernel_rfl) ?_
        refine SimI.done (by kernel_rfl) ?_
        refine SimE.thenN ?_
        refine Sim.ret ?_
        refine SimE.blockR ?_
        refine SimE.thenR ?_
        exact SimE.fin (by kernel_rfl)
      · refine Sim.skip ?_
        refine SimE.blockN ?_
        refine SimE.thenN ?_
        refine Sim.seq ?_
        refine Sim.region0 ?_
        refine SimI.run 5 [(10, .one (li .i64 (IntKind.wrap .i64 (r1.2.1 + IntKind.wrap .i64 r1.1)))), (38, .one (li .i64 (IntKind.wrap .i64 (r1.2.1 + IntKind.wrap .i64 r1.1)))), (37, .one (li .i64 (IntKind.wrap .i64 r1.1))), (36, .one (li .u64 r1.1)), (35, .one (li .i64 r1.2.1))] [] (by kernel_rfl) ?_
        refine SimI.done (by kernel_rfl) ?_
        refine SimE.thenN ?_
        refine Sim.seq ?_
        refine Sim.region0 ?_
        refine SimI.run 3 [(41, .one (li .i64 (IntKind.wrap .i64 (r1.2.1 + IntKind.wrap .i64 r1.1)))), (40, .one (li .i64 r1.2.1)), (39, .one (ls a0))] [] (by kernel_rfl) ?_
        refine SimI.guard (c := 0 ≤ (r1.2.1 : Int) ∧ (r1.2.1 : Int) ≤ IntKind.wrap .i64 (r1.2.1 + IntKind.wrap .i64 r1.1) ∧ IntKind.wrap .i64 (r1.2.1 + IntKind.wrap .i64 r1.1) ≤ (a0.size : Int)) { dst := some 42, op := POp.prim (Prim.slice 9 true true) [Operand.tmp 39, Operand.tmp 40, Operand.tmp 41], guard := none, hints := [] } [(42, .one (ls (a0.extract r1.2.1.toNat (IntKind.wrap .i64 (r1.2.1 + IntKind.wrap .i64 r1.1)).toNat)))] [] (by kernel_rfl) (fun hc => pOp_eff (by kernel_rfl) (by kernel_rfl) (eff_prim (by kernel_rfl) (pr_cutS (s := a0) (k := .i64) (l := .i64) (a := r1.2.1) (b := IntKind.wrap .i64 (r1.2.1 + IntKind.wrap .i64 r1.1)) Try.underlying9 hc))) ?_
        refine SimI.run 4 [(6, .one (li .i64 0)), (5, .one (li .i64 (IntKind.wrap .i64 (r1.2.1 + IntKind.wrap .i64 r1.1)))), (4, .one (ls (a0.extract r1.2.1.toNat (IntKind.wrap .i64 (r1.2.1 + IntKind.wrap .i64 r1.1)).toNat))), (43, .one (li .i64 (IntKind.wrap .i64 (r1.2.1 + IntKind.wrap .i64 r1.1))))] [] (by kernel_rfl) ?_
        refine SimI.done (by kernel_rfl) ?_
        refine SimE.thenN ?_
        refine Sim.ret ?_
        exact SimE.fin (by kernel_rfl)


-- 52: (*vedette/fields.reader).field
def F52_e : (Field × Reader) → PV × List (List Lf) := fun r => (.agg [li .i64 r.1.N, ls r.1.Text], [[ls r.2.s, li .i64 r.2.at_, li .i64 r.2.e]])
def F52 (n : Nat) (a0 : Reader) : Option (Field × Reader) :=
  if a0.e != 0 then
    some ((Field.mk 0 ByteArray.empty), a0)
  else
    if 0 ≤ (a0.at_ : Int) ∧ (a0.at_ : Int) ≤ (a0.s.size : Int) then
      (F67 n (a0.s.extract a0.at_.toNat a0.s.size) 12).bind fun (r1 : (ByteArray × Int × Int)) =>
      (F71 n a0 r1.2.1 r1.2.2).bind fun (r2 : Reader) =>
      if r1.1.toList == ByteArray.empty.toList then
        if r1.2.2 == 0 then
          if 0 ≤ (r2.at_ : Int) ∧ (r2.at_ : Int) ≤ (r2.s.size : Int) then
            (F65 n (r2.s.extract r2.at_.toNat r2.s.size)).bind fun (r3 : (Int × Int × Int)) =>
            (F71 n r2 r3.2.1 r3.2.2).bind fun (r4 : Reader) =>
            some ((Field.mk r3.1 r1.1), r4)
          else none
        else
          some ((Field.mk 0 r1.1), r2)
      else
        some ((Field.mk 0 r1.1), r2)
    else none
theorem F52_ok (n : Nat) (a0 : Reader) : ∀ r, F52 n a0 = some r → D 52 [.one (.ptr 1000000 0)] [[ls a0.s, li .i64 a0.at_, li .i64 a0.e]] = some (F52_e r) := by
  refine fn_to (D := D) (n := n + 8) (nt := 63) (rs := pc52_r) (c := pc52_c31) (L := [(0, .one (.ptr 1000000 0))]) (M := [(1000000, some (.cells [ls a0.s, li .i64 a0.at_, li .i64 a0.e]))]) (k := 1) rfl rfl rfl rfl rfl rfl ?_
  unfold F52
  refine Sim.seq ?_
  refine Sim.region0 ?_
  refine SimI.run 1 [(2, .one (.ptr 2 0))] [(2, some (.cells [li .i64 0, ls ByteArray.empty]))] (by kernel_rfl) ?_
  refine SimI.done (by kernel_rfl) ?_
  refine SimE.thenN ?_
  refine Sim.seq ?_
  refine Sim.region0 ?_
  refine SimI.run 1 [(3, .one (.ptr 3 0))] [(3, some (.cells [li .i64 0, ls ByteArray.empty]))] (by kernel_rfl) ?_
  refine SimI.done (by kernel_rfl) ?_
  refine SimE.thenN ?_
  refine Sim.seq ?_
  refine Sim.seq ?_
  refine Sim.region0 ?_
  refine SimI.run 5 [(14, .one (lb (a0.e != 0))), (13, .one (li .i64 a0.e)), (12, .one (.ptr 1000000 2)), (11, .one (.ptr 1000000 0)), (10, .one (.ptr 1000000 0))] [] (by kernel_rfl) ?_
  refine SimI.done (by kernel_rfl) ?_
  refine SimE.thenN ?_
  refine Sim.cond (a0.e != 0) (by kernel_rfl) ?_ ?_
  · refine Sim.seq ?_
    refine Sim.region0 ?_
    refine SimI.run 2 [(15, .agg [li .i64 0, ls ByteArray.empty])] [(2, some (.cells [li .i64 0, ls ByteArray.empty]))] (by kernel_rfl) ?_
    refine SimI.done (by kernel_rfl) ?_
    refine SimE.thenN ?_
    refine Sim.ret ?_
    refine SimE.thenR ?_
    exact SimE.fin (by kernel_rfl)
  · refine Sim.skip ?_
    refine SimE.thenN ?_
    refine Sim.seq ?_
    refine Sim.region0 ?_
    refine SimI.run 8 [(24, .one (li .i64 a0.at_)), (23, .one (.ptr 1000000 1)), (22, .one (.ptr 1000000 0)), (21, .one (.ptr 1000000 0)), (20, .one (ls a0.s)), (19, .one (.ptr 1000000 0)), (18, .one (.ptr 1000000 0)), (17, .one (.ptr 1000000 0))] [] (by kernel_rfl) ?_
    refine SimI.guard (c := 0 ≤ (a0.at_ : Int) ∧ (a0.at_ : Int) ≤ (a0.s.size : Int)) { dst := some 25, op := POp.prim (Prim.slice 9 true false) [Operand.tmp 20, Operand.tmp 24], guard := none, hints := [(20, Hint.imm), (24, Hint.imm)] } [(25, .one (ls (a0.s.extract a0.at_.toNat a0.s.size)))] [] (by kernel_rfl) (fun hc => pOp_eff (by kernel_rfl) (by kernel_rfl) (eff_prim (by kernel_rfl) (pr_cutL (s := a0.s) (k := .i64) (a := a0.at_) Try.underlying9 hc))) ?_
    refine SimI.bind (og := F67 n (a0.s.extract a0.at_.toNat a0.s.size) 12) { dst := some 26, op := POp.call false [[], []] 67 [Operand.tmp 25, Operand.const (Value.int IntKind.i64 12)], guard := none, hints := [(25, Hint.imm)] } (fun r1 => [(26, .tup [.one (ls r1.1), .one (li .i64 r1.2.1), .one (li .i64 r1.2.2)])]) (fun r1 => []) (by kernel_rfl) (fun r1 hr => pOp_eff (by kernel_rfl) (by kernel_rfl) (eff_call (ARGS := [.one (ls (a0.s.extract a0.at_.toNat a0.s.size)), .one (li .i64 12)]) (by kernel_rfl) (args_clean (by kernel_rfl) (args_clean (by kernel_rfl) args_nil)) (F67_ok n (a0.s.extract a0.at_.toNat a0.s.size) 12 r1 hr) (by kernel_rfl))) (fun r1 => ?_)
    refine SimI.run 7 [(6, .one (li .i64 r1.2.2)), (5, .one (li .i64 r1.2.1)), (4, .one (ls r1.1)), (29, .one (li .i64 r1.2.2)), (28, .one (li .i64 r1.2.1)), (27, .one (ls r1.1)), (16, .tup [.one (ls r1.1), .one (li .i64 r1.2.1), .one (li .i64 r1.2.2)])] [] (by kernel_rfl) ?_
    refine SimI.done (by kernel_rfl) ?_
    refine SimE.thenN ?_
    refine Sim.seq ?_
    refine Sim.region0 ?_
    refine SimI.run 3 [(32, .one (li .i64 r1.2.2)), (31, .one (li .i64 r1.2.1)), (30, .one (.ptr 1000000 0))] [] (by kernel_rfl) ?_
    refine SimI.bind (og := F71 n a0 r1.2.1 r1.2.2) { dst := some 33, op := POp.call true [[], [], []] 71 [Operand.tmp 30, Operand.tmp 31, Operand.tmp 32], guard := none, hints := [] } (fun r2 => [(33, .tup [])]) (fun r2 => [(1000000, some (.cells [ls r2.s, li .i64 r2.at_, li .i64 r2.e]))]) (by kernel_rfl) (fun r2 hr => pOp_eff (by kernel_rfl) (by kernel_rfl) (eff_callp (ARGS := [.one (.ptr 1000000 0), .one (li .i64 r1.2.1), .one (li .i64 r1.2.2)]) (ARGS' := [.one (.ptr 1000000 0), .one (li .i64 r1.2.1), .one (li .i64 r1.2.2)]) (ks := [1000000]) (os := [[ls a0.s, li .i64 a0.at_, li .i64 a0.e]]) (os' := [[ls r2.s, li .i64 r2.at_, li .i64 r2.e]]) (by kernel_rfl) (args_ptr (by kernel_rfl) (args_clean (by kernel_rfl) (args_clean (by kernel_rfl) args_nil))) rfl (by kernel_rfl) (F71_ok n a0 r1.2.1 r1.2.2 r2 hr) (by kernel_rfl) (by kernel_rfl))) (fun r2 => ?_)
    refine SimI.done (by kernel_rfl) ?_
    refine SimE.thenN ?_
    refine Sim.seq ?_
    refine Sim.seq ?_
    refine Sim.region0 ?_
    refine SimI.run 3 [(35, .one (.ptr 3 1)), (34, .one (ls r1.1))] [(3, some (.cells [li .i64 0, ls r1.1]))] (by kernel_rfl) ?_
    refine SimI.done (by kernel_rfl) ?_
    refine SimE.thenN ?_
    refine Sim.seq ?_
    refine Sim.region0 ?_
    refine SimI.run 3 [(38, .one (lb (r1.1.toList == ByteArray.empty.toList))), (37, .one (lb (r1.1.toList == ByteArray.empty.toList))), (36, .one (ls r1.1))] [] (by kernel_rfl) ?_
    refine SimI.split 38 (r1.1.toList == ByteArray.empty.toList) (by kernel_rfl) ?_ ?_
    · refine SimI.run 3 [(41, .one (lb (r1.2.2 == 0))), (40, .one (lb (r1.2.2 == 0))), (39, .one (li .i64 r1.2.2))] [] (by kernel_rfl) ?_
      refine SimI.done (by kernel_rfl) ?_
      refine SimE.thenN ?_
      refine Sim.cond (r1.2.2 == 0) (by kernel_rfl) ?_ ?_
      · refine Sim.seq ?_
        refine Sim.region0 ?_
        refine SimI.run 8 [(50, .one (li .i64 r2.at_)), (49, .one (.ptr 1000000 1)), (48, .one (.ptr 1000000 0)), (47, .one (.ptr 1000000 0)), (46, .one (ls r2.s)), (45, .one (.ptr 1000000 0)), (44, .one (.ptr 1000000 0)), (43, .one (.ptr 1000000 0))] [] (by kernel_rfl) ?_
        refine SimI.guard (c := 0 ≤ (r2.at_ : Int) ∧ (r2.at_ : Int) ≤ (r2.s.size : Int)) { dst := some 51, op := POp.prim (Prim.slice 9 true false) [Operand.tmp 46, Operand.tmp 50], guard := none, hints := [(46, Hint.imm), (50, Hint.imm)] } [(51, .one (ls (r2.s.extract r2.at_.toNat r2.s.size)))] [] (by kernel_rfl) (fun hc => pOp_eff (by kernel_rfl) (by kernel_rfl) (eff_prim (by kernel_rfl) (pr_cutL (s := r2.s) (k := .i64) (a := r2.at_) Try.underlying9 hc))) ?_
        refine SimI.bind (og := F65 n (r2.s.extract r2.at_.toNat r2.s.size)) { dst := some 52, op := POp.call false [[]] 65 [Operand.tmp 51], guard := none, hints := [(51, Hint.imm)] } (fun r3 => [(52, .tup [.one (li .i64 r3.1), .one (li .i64 r3.2.1), .one (li .i64 r3.2.2)])]) (fun r3 => []) (by kernel_rfl) (fun r3 hr => pOp_eff (by kernel_rfl) (by kernel_rfl) (eff_call (ARGS := [.one (ls (r2.s.extract r2.at_.toNat r2.s.size))]) (by kernel_rfl) (args_clean (by kernel_rfl) args_nil) (F65_ok n (r2.s.extract r2.at_.toNat r2.s.size) r3 hr) (by kernel_rfl))) (fun r3 => ?_)
        refine SimI.run 7 [(9, .one (li .i64 r3.2.2)), (8, .one (li .i64 r3.2.1)), (7, .one (li .i64 r3.1)), (55, .one (li .i64 r3.2.2)), (54, .one (li .i64 r3.2.1)), (53, .one (li .i64 r3.1)), (42, .tup [.one (li .i64 r3.1), .one (li .i64 r3.2.1), .one (li .i64 r3.2.2)])] [] (by kernel_rfl) ?_
        refine SimI.done (by kernel_rfl) ?_
        refine SimE.thenN ?_
        refine Sim.seq ?_
        refine Sim.region0 ?_
        refine SimI.run 3 [(58, .one (li .i64 r3.2.2)), (57, .one (li .i64 r3.2.1)), (56, .one (.ptr 1000000 0))] [] (by kernel_rfl) ?_
        refine SimI.bind (og := F71 n r2 r3.2.1 r3.2.2) { dst := some 59, op := POp.call true [[], [], []] 71 [Operand.tmp 56, Operand.tmp 57, Operand.tmp 58], guard := none, hints := [] } (fun r4 => [(59, .tup [])]) (fun r4 => [(1000000, some (.cells [ls r4.s, li .i64 r4.at_, li .i64 r4.e]))]) (by kernel_rfl) (fun r4 hr => pOp_eff (by kernel_rfl) (by kernel_rfl) (eff_callp (ARGS := [.one (.ptr 1000000 0), .one (li .i64 r3.2.1), .one (li .i64 r3.2.2)]) (ARGS' := [.one (.ptr 1000000 0), .one (li .i64 r3.2.1), .one (li .i64 r3.2.2)]) (ks := [1000000]) (os := [[ls r2.s, li .i64 r2.at_, li .i64 r2.e]]) (os' := [[ls r4.s, li .i64 r4.at_, li .i64 r4.e]]) (by kernel_rfl) (args_ptr (by kernel_rfl) (args_clean (by kernel_rfl) (args_clean (by kernel_rfl) args_nil))) rfl (by kernel_rfl) (F71_ok n r2 r3.2.1 r3.2.2 r4 hr) (by kernel_rfl) (by kernel_rfl))) (fun r4 => ?_)
        refine SimI.done (by kernel_rfl) ?_
        refine SimE.thenN ?_
        refine Sim.region0 ?_
        refine SimI.run 3 [(61, .one (.ptr 3 0)), (60, .one (li .i64 r3.1))] [(3, some (.cells [li .i64 r3.1, ls r1.1]))] (by kernel_rfl) ?_
        refine SimI.done (by kernel_rfl) ?_
        refine SimE.thenN ?_
        refine Sim.seq ?_
        refine Sim.region0 ?_
        refine SimI.run 2 [(62, .agg [li .i64 r3.1, ls r1.1])] [(2, some (.cells [li .i64 r3.1, ls r1.1]))] (by kernel_rfl) ?_
        refine SimI.done (by kernel_rfl) ?_
        refine SimE.thenN ?_
        refine Sim.ret ?_
        exact SimE.fin (by kernel_rfl)
      · refine Sim.skip ?_
        refine SimE.thenN ?_
        refine Sim.seq ?_
        refine Sim.region0 ?_
        refine SimI.run 2 [(62, .agg [li .i64 0, ls r1.1])] [(2, some (.cells [li .i64 0, ls r1.1]))] (by kernel_rfl) ?_
        refine SimI.done (by kernel_rfl) ?_
        refine SimE.thenN ?_
        refine Sim.ret ?_
        exact SimE.fin (by kernel_rfl)
    · refine SimI.run 3 [(41, .one (lb false)), (40, .tup []), (39, .tup [])] [] (by kernel_rfl) ?_
      refine SimI.done (by kernel_rfl) ?_
      refine SimE.thenN ?_
      refine Sim.condF (by kernel_rfl) ?_
      refine Sim.skip ?_
      refine SimE.thenN ?_
      refine Sim.seq ?_
      refine Sim.region0 ?_
      refine SimI.run 2 [(62, .agg [li .i64 0, ls r1.1])] [(2, some (.cells [li .i64 0, ls r1.1]))] (by kernel_rfl) ?_
      refine SimI.done (by kernel_rfl) ?_
      refine SimE.thenN ?_
      refine Sim.ret ?_
      exact SimE.fin (by kernel_rfl)


end Go.Proofs.Ythmbegagkgdopaa
