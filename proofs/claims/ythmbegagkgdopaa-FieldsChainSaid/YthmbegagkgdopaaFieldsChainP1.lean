/-
  Functions of the program as functions of Lean. No condition.
-/
import Derived.Test.YthmbegagkgdopaaFieldsChainP0
namespace Go.Proofs.Ythmbegagkgdopaa
open Go Go.Rx
set_option maxRecDepth 100000
set_option linter.unusedVariables false
set_option linter.unusedSimpArgs false
set_option linter.unnecessarySimpa false
-- 19: vedette/vedetteref6.Diff
def F19_e : (Delta × Bool) → PV × List (List Lf) := fun r => (.tup [.agg [li .i64 r.1.ID, li .u8 r.1.Mask, li .i64 r.1.At.X, li .i64 r.1.At.Y, li .i64 r.1.F.a0.N, ls r.1.F.a0.Text, li .i64 r.1.F.a1.N, ls r.1.F.a1.Text, li .i64 r.1.F.a2.N, ls r.1.F.a2.Text, li .i64 r.1.F.a3.N, ls r.1.F.a3.Text], .one (lb r.2)], [])
def F19_u20 (n : Nat) (a1 : Thing) (i2 : Int) (i3 : Int) (i6 : Int) (s7 : ByteArray) (i10 : Int) (s11 : ByteArray) (i14 : Int) (s15 : ByteArray) (i17 : Int) (i18 : Int) (s19 : ByteArray) : Option (Delta × Bool) :=
    some ((Delta.mk a1.ID i17 (Point.mk i2 i3) (A4.mk (Field.mk i6 s7) (Field.mk i10 s11) (Field.mk i14 s15) (Field.mk i18 s19))), i17 != 0)
theorem F19_u20_ok (n : Nat) (a0 : Thing) (a1 : Thing) (i2 : Int) (i3 : Int) (i6 : Int) (s7 : ByteArray) (i10 : Int) (s11 : ByteArray) (i14 : Int) (s15 : ByteArray) (i17 : Int) (i18 : Int) (s19 : ByteArray) : SimL Try.prog D (n + 8) (n + 4) pc19_c24 [(2, .one (.ptr 2 0)), (3, .one (.ptr 3 0)), (4, .one (.ptr 4 0)), (6, .one (.ptr 6 0)), (7, .one (li .i64 4))] ((2, some (.cells [li .i64 a0.ID, li .i64 a0.At.X, li .i64 a0.At.Y, li .i64 a0.F.a0.N, ls a0.F.a0.Text, li .i64 a0.F.a1.N, ls a0.F.a1.Text, li .i64 a0.F.a2.N, ls a0.F.a2.Text, li .i64 a0.F.a3.N, ls a0.F.a3.Text])) :: ((3, some (.cells [li .i64 a1.ID, li .i64 a1.At.X, li .i64 a1.At.Y, li .i64 a1.F.a0.N, ls a1.F.a0.Text, li .i64 a1.F.a1.N, ls a1.F.a1.Text, li .i64 a1.F.a2.N, ls a1.F.a2.Text, li .i64 a1.F.a3.N, ls a1.F.a3.Text])) :: ((4, some (.cells [li .i64 0, li .u8 0, li .i64 0, li .i64 0, li .i64 0, ls ByteArray.empty, li .i64 0, ls ByteArray.empty, li .i64 0, ls ByteArray.empty, li .i64 0, ls ByteArray.empty])) :: ((6, some (.cells [li .i64 a1.ID, li .u8 i17, li .i64 i2, li .i64 i3, li .i64 i6, ls s7, li .i64 i10, ls s11, li .i64 i14, ls s15, li .i64 i18, ls s19])) :: [])))) (F19_u20 n a1 i2 i3 i6 s7 i10 s11 i14 s15 i17 i18 s19) (QB 0 (QT Try.prog D (n + 8) pc19_c30 (QF pc19_r 0 F19_e))) := by
    unfold F19_u20
    refine SimL.succ ?_
    refine Sim.seq ?_
    refine Sim.seq ?_
    refine Sim.region [(2, .one (.ptr 2 0)), (3, .one (.ptr 3 0)), (4, .one (.ptr 4 0)), (6, .one (.ptr 6 0)), (7, .one (li .i64 4))] ((2, some (.cells [li .i64 a0.ID, li .i64 a0.At.X, li .i64 a0.At.Y, li .i64 a0.F.a0.N, ls a0.F.a0.Text, li .i64 a0.F.a1.N, ls a0.F.a1.Text, li .i64 a0.F.a2.N, ls a0.F.a2.Text, li .i64 a0.F.a3.N, ls a0.F.a3.Text])) :: ((3, some (.cells [li .i64 a1.ID, li .i64 a1.At.X, li .i64 a1.At.Y, li .i64 a1.F.a0.N, ls a1.F.a0.Text, li .i64 a1.F.a1.N, ls a1.F.a1.Text, li .i64 a1.F.a2.N, ls a1.F.a2.Text, li .i64 a1.F.a3.N, ls a1.F.a3.Text])) :: ((4, some (.cells [li .i64 0, li .u8 0, li .i64 0, li .i64 0, li .i64 0, ls ByteArray.empty, li .i64 0, ls ByteArray.empty, li .i64 0, ls ByteArray.empty, li .i64 0, ls ByteArray.empty])) :: ((6, some (.cells [li .i64 a1.ID, li .u8 i17, li .i64 i2, li .i64 i3, li .i64 i6, ls s7, li .i64 i10, ls s11, li .i64 i14, ls s15, li .i64 i18, ls s19])) :: [])))) (by kernel_rfl) ?_
    refine SimI.run 2 [(21, .one (lb false)), (20, .one (li .i64 4))] [] (by kernel_rfl) ?_
    refine SimI.done (by kernel_rfl) ?_
    refine SimE.thenN ?_
    refine Sim.condF (by kernel_rfl) ?_
    refine Sim.exit ?_
    refine SimE.thenX ?_
    refine SimE.loopX ?_
    refine SimE.blockX ?_
    refine SimE.thenN ?_
    refine Sim.seq ?_
    refine Sim.region0 ?_
    refine SimI.run 6 [(5, .one (lb (i17 != 0))), (50, .one (lb (i17 != 0))), (49, .one (li .u8 i17)), (48, .one (.ptr 6 1)), (47, .agg [li .i64 a1.ID, li .u8 i17, li .i64 i2, li .i64 i3, li .i64 i6, ls s7, li .i64 i10, ls s11, li .i64 i14, ls s15, li .i64 i18, ls s19])] [(4, some (.cells [li .i64 a1.ID, li .u8 i17, li .i64 i2, li .i64 i3, li .i64 i6, ls s7, li .i64 i10, ls s11, li .i64 i14, ls s15, li .i64 i18, ls s19]))] (by kernel_rfl) ?_
    refine SimI.done (by kernel_rfl) ?_
    refine SimE.thenN ?_
    refine Sim.ret ?_
    exact SimE.fin (by kernel_rfl)

def F19_u16 (n : Nat) (a0 : Thing) (a1 : Thing) (i2 : Int) (i3 : Int) (i6 : Int) (s7 : ByteArray) (i10 : Int) (s11 : ByteArray) (i13 : Int) (i14 : Int) (s15 : ByteArray) : Option (Delta × Bool) :=
    if !(Field.eqb a0.F.a3 a1.F.a3) then
      F19_u20 n a1 i2 i3 i6 s7 i10 s11 i14 s15 (bitsI .or .u8 i13 (shlI .u8 2 3)) a1.F.a3.N a1.F.a3.Text
    else
      F19_u20 n a1 i2 i3 i6 s7 i10 s11 i14 s15 i13 0 ByteArray.empty
theorem F19_u16_ok (n : Nat) (a0 : Thing) (a1 : Thing) (i2 : Int) (i3 : Int) (i6 : Int) (s7 : ByteArray) (i10 : Int) (s11 : ByteArray) (i13 : Int) (i14 : Int) (s15 : ByteArray) : SimL Try.prog D (n + 8) (n + 5) pc19_c24 [(2, .one (.ptr 2 0)), (3, .one (.ptr 3 0)), (4, .one (.ptr 4 0)), (6, .one (.ptr 6 0)), (7, .one (li .i64 3))] ((2, some (.cells [li .i64 a0.ID, li .i64 a0.At.X, li .i64 a0.At.Y, li .i64 a0.F.a0.N, ls a0.F.a0.Text, li .i64 a0.F.a1.N, ls a0.F.a1.Text, li .i64 a0.F.a2.N, ls a0.F.a2.Text, li .i64 a0.F.a3.N, ls a0.F.a3.Text])) :: ((3, some (.cells [li .i64 a1.ID, li .i64 a1.At.X, li .i64 a1.At.Y, li .i64 a1.F.a0.N, ls a1.F.a0.Text, li .i64 a1.F.a1.N, ls a1.F.a1.Text, li .i64 a1.F.a2.N, ls a1.F.a2.Text, li .i64 a1.F.a3.N, ls a1.F.a3.Text])) :: ((4, some (.cells [li .i64 0, li .u8 0, li .i64 0, li .i64 0, li .i64 0, ls ByteArray.empty, li .i64 0, ls ByteArray.empty, li .i64 0, ls ByteArray.empty, li .i64 0, ls ByteArray.empty])) :: ((6, some (.cells [li .i64 a1.ID, li .u8 i13, li .i64 i2, li .i64 i3, li .i64 i6, ls s7, li .i64 i10, ls s11, li .i64 i14, ls s15, li .i64 0, ls ByteArray.empty])) :: [])))) (F19_u16 n a0 a1 i2 i3 i6 s7 i10 s11 i13 i14 s15) (QB 0 (QT Try.prog D (n + 8) pc19_c30 (QF pc19_r 0 F19_e))) := by
    unfold F19_u16
    refine SimL.succ ?_
    refine Sim.seq ?_
    refine Sim.seq ?_
    refine Sim.region [(2, .one (.ptr 2 0)), (3, .one (.ptr 3 0)), (4, .one (.ptr 4 0)), (6, .one (.ptr 6 0)), (7, .one (li .i64 3))] ((2, some (.cells [li .i64 a0.ID, li .i64 a0.At.X, li .i64 a0.At.Y, li .i64 a0.F.a0.N, ls a0.F.a0.Text, li .i64 a0.F.a1.N, ls a0.F.a1.Text, li .i64 a0.F.a2.N, ls a0.F.a2.Text, li .i64 a0.F.a3.N, ls a0.F.a3.Text])) :: ((3, some (.cells [li .i64 a1.ID, li .i64 a1.At.X, li .i64 a1.At.Y, li .i64 a1.F.a0.N, ls a1.F.a0.Text, li .i64 a1.F.a1.N, ls a1.F.a1.Text, li .i64 a1.F.a2.N, ls a1.F.a2.Text, li .i64 a1.F.a3.N, ls a1.F.a3.Text])) :: ((4, some (.cells [li .i64 0, li .u8 0, li .i64 0, li .i64 0, li .i64 0, ls ByteArray.empty, li .i64 0, ls ByteArray.empty, li .i64 0, ls ByteArray.empty, li .i64 0, ls ByteArray.empty])) :: ((6, some (.cells [li .i64 a1.ID, li .u8 i13, li .i64 i2, li .i64 i3, li .i64 i6, ls s7, li .i64 i10, ls s11, li .i64 i14, ls s15, li .i64 0, ls ByteArray.empty])) :: [])))) (by kernel_rfl) ?_
    refine SimI.run 2 [(21, .one (lb true)), (20, .one (li .i64 3))] [] (by kernel_rfl) ?_
    refine SimI.done (by kernel_rfl) ?_
    refine SimE.thenN ?_
    refine Sim.condT (by kernel_rfl) ?_
    refine Sim.skip ?_
    refine SimE.thenN ?_
    refine Sim.seq ?_
    refine Sim.block ?_
    refine Sim.seq ?_
    refine Sim.region0 ?_
    refine SimI.run 8 [(31, .agg [li .i64 a1.F.a3.N, ls a1.F.a3.Text]), (30, .one (.ptr 3 9)), (29, .one (.ptr 3 3)), (28, .one (li .i64 3)), (27, .agg [li .i64 a0.F.a3.N, ls a0.F.a3.Text]), (26, .one (.ptr 2 9)), (25, .one (.ptr 2 3)), (24, .one (li .i64 3))] [] (by kernel_rfl) ?_
    refine SimI.step { dst := some 32, op := POp.prim (Prim.bin BinOp.neq 25 false false) [Operand.tmp 27, Operand.tmp 31], guard := none, hints := [(27, Hint.imm), (31, Hint.imm)] } [(32, .one (lb (!(Field.eqb a0.F.a3 a1.F.a3))))] [] (by kernel_rfl) (pOp_eff (by kernel_rfl) (by kernel_rfl) (eff_prim (by kernel_rfl) (Field_eqn a0.F.a3 a1.F.a3 _ _))) ?_
    refine SimI.done (by kernel_rfl) ?_
    refine SimE.thenN ?_
    refine Sim.cond (!(Field.eqb a0.F.a3 a1.F.a3)) (by kernel_rfl) ?_ ?_
    · refine Sim.seq ?_
      refine Sim.region0 ?_
      refine SimI.run 8 [(39, .one (.ptr 6 1)), (38, .one (li .u8 (bitsI .or .u8 i13 (shlI .u8 2 3)))), (37, .one (li .u8 (shlI .u8 2 3))), (36, .one (li .u64 3)), (35, .one (li .i64 3)), (34, .one (li .u8 i13)), (33, .one (.ptr 6 1))] [(6, some (.cells [li .i64 a1.ID, li .u8 (bitsI .or .u8 i13 (shlI .u8 2 3)), li .i64 i2, li .i64 i3, li .i64 i6, ls s7, li .i64 i10, ls s11, li .i64 i14, ls s15, li .i64 0, ls ByteArray.empty]))] (by kernel_rfl) ?_
      refine SimI.done (by kernel_rfl) ?_
      refine SimE.thenN ?_
      refine Sim.region0 ?_
      refine SimI.run 8 [(46, .one (.ptr 6 10)), (45, .one (.ptr 6 4)), (44, .agg [li .i64 a1.F.a3.N, ls a1.F.a3.Text]), (43, .one (.ptr 3 9)), (42, .one (.ptr 3 3)), (41, .one (li .i64 3)), (40, .one (li .i64 3))] [(6, some (.cells [li .i64 a1.ID, li .u8 (bitsI .or .u8 i13 (shlI .u8 2 3)), li .i64 i2, li .i64 i3, li .i64 i6, ls s7, li .i64 i10, ls s11, li .i64 i14, ls s15, li .i64 a1.F.a3.N, ls a1.F.a3.Text]))] (by kernel_rfl) ?_
      refine SimI.done (by kernel_rfl) ?_
      refine SimE.blockN ?_
      refine SimE.thenN ?_
      refine Sim.region0 ?_
      refine SimI.run 3 [(7, .one (li .i64 4)), (23, .one (li .i64 4)), (22, .one (li .i64 3))] [] (by kernel_rfl) ?_
      refine SimI.done (by kernel_rfl) ?_
      refine SimE.loopN ?_
      refine SimL.pre (ts := [2, 3, 4, 6, 7]) (os := [2, 3, 4, 6]) [(2, .one (.ptr 2 0)), (3, .one (.ptr 3 0)), (4, .one (.ptr 4 0)), (6, .one (.ptr 6 0)), (7, .one (li .i64 4))] ((2, some (.cells [li .i64 a0.ID, li .i64 a0.At.X, li .i64 a0.At.Y, li .i64 a0.F.a0.N, ls a0.F.a0.Text, li .i64 a0.F.a1.N, ls a0.F.a1.Text, li .i64 a0.F.a2.N, ls a0.F.a2.Text, li .i64 a0.F.a3.N, ls a0.F.a3.Text])) :: ((3, some (.cells [li .i64 a1.ID, li .i64 a1.At.X, li .i64 a1.At.Y, li .i64 a1.F.a0.N, ls a1.F.a0.Text, li .i64 a1.F.a1.N, ls a1.F.a1.Text, li .i64 a1.F.a2.N, ls a1.F.a2.Text, li .i64 a1.F.a3.N, ls a1.F.a3.Text])) :: ((4, some (.cells [li .i64 0, li .u8 0, li .i64 0, li .i64 0, li .i64 0, ls ByteArray.empty, li .i64 0, ls ByteArray.empty, li .i64 0, ls ByteArray.empty, li .i64 0, ls ByteArray.empty])) :: ((6, some (.cells [li .i64 a1.ID, li .u8 (bitsI .or .u8 i13 (shlI .u8 2 3)), li .i64 i2, li .i64 i3, li .i64 i6, ls s7, li .i64 i10, ls s11, li .i64 i14, ls s15, li .i64 a1.F.a3.N, ls a1.F.a3.Text])) :: [])))) (by kernel_rfl) (by kernel_rfl) (by kernel_rfl) ?_
      exact F19_u20_ok n a0 a1 i2 i3 i6 s7 i10 s11 i14 s15 (bitsI .or .u8 i13 (shlI .u8 2 3)) a1.F.a3.N a1.F.a3.Text
    · refine Sim.skip ?_
      refine SimE.blockN ?_
      refine SimE.thenN ?_
      refine Sim.region0 ?_
      refine SimI.run 3 [(7, .one (li .i64 4)), (23, .one (li .i64 4)), (22, .one (li .i64 3))] [] (by kernel_rfl) ?_
      refine SimI.done (by kernel_rfl) ?_
      refine SimE.loopN ?_
      refine SimL.pre (ts := [2, 3, 4, 6, 7]) (os := [2, 3, 4, 6]) [(2, .one (.ptr 2 0)), (3, .one (.ptr 3 0)), (4, .one (.ptr 4 0)), (6, .one (.ptr 6 0)), (7, .one (li .i64 4))] ((2, some (.cells [li .i64 a0.ID, li .i64 a0.At.X, li .i64 a0.At.Y, li .i64 a0.F.a0.N, ls a0.F.a0.Text, li .i64 a0.F.a1.N, ls a0.F.a1.Text, li .i64 a0.F.a2.N, ls a0.F.a2.Text, li .i64 a0.F.a3.N, ls a0.F.a3.Text])) :: ((3, some (.cells [li .i64 a1.ID, li .i64 a1.At.X, li .i64 a1.At.Y, li .i64 a1.F.a0.N, ls a1.F.a0.Text, li .i64 a1.F.a1.N, ls a1.F.a1.Text, li .i64 a1.F.a2.N, ls a1.F.a2.Text, li .i64 a1.F.a3.N, ls a1.F.a3.Text])) :: ((4, some (.cells [li .i64 0, li .u8 0, li .i64 0, li .i64 0, li .i64 0, ls ByteArray.empty, li .i64 0, ls ByteArray.empty, li .i64 0, ls ByteArray.empty, li .i64 0, ls ByteArray.empty])) :: ((6, some (.cells [li .i64 a1.ID, li .u8 i13, li .i64 i2, li .i64 i3, li .i64 i6, ls s7, li .i64 i10, ls s11, li .i64 i14, ls s15, li .i64 0, ls ByteArray.empty])) :: [])))) (by kernel_rfl) (by kernel_rfl) (by kernel_rfl) ?_
      exact F19_u20_ok n a0 a1 i2 i3 i6 s7 i10 s11 i14 s15 i13 0 ByteArray.empty

def F19_u12 (n : Nat) (a0 : Thing) (a1 : Thing) (i2 : Int) (i3 : Int) (i6 : Int) (s7 : ByteArray) (i9 : Int) (i10 : Int) (s11 : ByteArray) : Option (Delta × Bool) :=
    if !(Field.eqb a0.F.a2 a1.F.a2) then
      F19_u16 n a0 a1 i2 i3 i6 s7 i10 s11 (bitsI .or .u8 i9 (shlI .u8 2 2)) a1.F.a2.N a1.F.a2.Text
    else
      F19_u16 n a0 a1 i2 i3 i6 s7 i10 s11 i9 0 ByteArray.empty
theorem F19_u12_ok (n : Nat) (a0 : Thing) (a1 : Thing) (i2 : Int) (i3 : Int) (i6 : Int) (s7 : ByteArray) (i9 : Int) (i10 : Int) (s11 : ByteArray) : SimL Try.prog D (n + 8) (n + 6) pc19_c24 [(2, .one (.ptr 2 0)), (3, .one (.ptr 3 0)), (4, .one (.ptr 4 0)), (6, .one (.ptr 6 0)), (7, .one (li .i64 2))] ((2, some (.cells [li .i64 a0.ID, li .i64 a0.At.X, li .i64 a0.At.Y, li .i64 a0.F.a0.N, ls a0.F.a0.Text, li .i64 a0.F.a1.N, ls a0.F.a1.Text, li .i64 a0.F.a2.N, ls a0.F.a2.Text, li .i64 a0.F.a3.N, ls a0.F.a3.Text])) :: ((3, some (.cells [li .i64 a1.ID, li .i64 a1.At.X, li .i64 a1.At.Y, li .i64 a1.F.a0.N, ls a1.F.a0.Text, li .i64 a1.F.a1.N, ls a1.F.a1.Text, li .i64 a1.F.a2.N, ls a1.F.a2.Text, li .i64 a1.F.a3.N, ls a1.F.a3.Text])) :: ((4, some (.cells [li .i64 0, li .u8 0, li .i64 0, li .i64 0, li .i64 0, ls ByteArray.empty, li .i64 0, ls ByteArray.empty, li .i64 0, ls ByteArray.empty, li .i64 0, ls ByteArray.empty])) :: ((6, some (.cells [li .i64 a1.ID, li .u8 i9, li .i64 i2, li .i64 i3, li .i64 i6, ls s7, li .i64 i10, ls s11, li .i64 0, ls ByteArray.empty, li .i64 0, ls ByteArray.empty])) :: [])))) (F19_u12 n a0 a1 i2 i3 i6 s7 i9 i10 s11) (QB 0 (QT Try.prog D (n + 8) pc19_c30 (QF pc19_r 0 F19_e))) := by
    unfold F19_u12
    refine SimL.succ ?_
    refine Sim.seq ?_
    refine Sim.seq ?_
    refine Sim.region [(2, .one (.ptr 2 0)), (3, .one (.ptr 3 0)), (4, .one (.ptr 4 0)), (6, .one (.ptr 6 0)), (7, .one (li .i64 2))] ((2, some (.cells [li .i64 a0.ID, li .i64 a0.At.X, li .i64 a0.At.Y, li .i64 a0.F.a0.N, ls a0.F.a0.Text, li .i64 a0.F.a1.N, ls a0.F.a1.Text, li .i64 a0.F.a2.N, ls a0.F.a2.Text, li .i64 a0.F.a3.N, ls a0.F.a3.Text])) :: ((3, some (.cells [li .i64 a1.ID, li .i64 a1.At.X, li .i64 a1.At.Y, li .i64 a1.F.a0.N, ls a1.F.a0.Text, li .i64 a1.F.a1.N, ls a1.F.a1.Text, li .i64 a1.F.a2.N, ls a1.F.a2.Text, li .i64 a1.F.a3.N, ls a1.F.a3.Text])) :: ((4, some (.cells [li .i64 0, li .u8 0, li .i64 0, li .i64 0, li .i64 0, ls ByteArray.empty, li .i64 0, ls ByteArray.empty, li .i64 0, ls ByteArray.empty, li .i64 0, ls ByteArray.empty])) :: ((6, some (.cells [li .i64 a1.ID, li .u8 i9, li .i64 i2, li .i64 i3, li .i64 i6, ls s7, li .i64 i10, ls s11, li .i64 0, ls ByteArray.empty, li .i64 0, ls ByteArray.empty])) :: [])))) (by kernel_rfl) ?_
    refine SimI.run 2 [(21, .one (lb true)), (20, .one (li .i64 2))] [] (by kernel_rfl) ?_
    refine SimI.done (by kernel_rfl) ?_
    refine SimE.thenN ?_
    refine Sim.condT (by kernel_rfl) ?_
    refine Sim.skip ?_
    refine SimE.thenN ?_
    refine Sim.seq ?_
    refine Sim.block ?_
    refine Sim.seq ?_
    refine Sim.region0 ?_
    refine SimI.run 8 [(31, .agg [li .i64 a1.F.a2.N, ls a1.F.a2.Text]), (30, .one (.ptr 3 7)), (29, .one (.ptr 3 3)), (28, .one (li .i64 2)), (27, .agg [li .i64 a0.F.a2.N, ls a0.F.a2.Text]), (26, .one (.ptr 2 7)), (25, .one (.ptr 2 3)), (24, .one (li .i64 2))] [] (by kernel_rfl) ?_
    refine SimI.step { dst := some 32, op := POp.prim (Prim.bin BinOp.neq 25 false false) [Operand.tmp 27, Operand.tmp 31], guard := none, hints := [(27, Hint.imm), (31, Hint.imm)] } [(32, .one (lb (!(Field.eqb a0.F.a2 a1.F.a2))))] [] (by kernel_rfl) (pOp_eff (by kernel_rfl) (by kernel_rfl) (eff_prim (by kernel_rfl) (Field_eqn a0.F.a2 a1.F.a2 _ _))) ?_
    refine SimI.done (by kernel_rfl) ?_
    refine SimE.thenN ?_
    refine Sim.cond (!(Field.eqb a0.F.a2 a1.F.a2)) (by kernel_rfl) ?_ ?_
    · refine Sim.seq ?_
      refine Sim.region0 ?_
      refine SimI.run 8 [(39, .one (.ptr 6 1)), (38, .one (li .u8 (bitsI .or .u8 i9 (shlI .u8 2 2)))), (37, .one (li .u8 (shlI .u8 2 2))), (36, .one (li .u64 2)), (35, .one (li .i64 2)), (34, .one (li .u8 i9)), (33, .one (.ptr 6 1))] [(6, some (.cells [li .i64 a1.ID, li .u8 (bitsI .or .u8 i9 (shlI .u8 2 2)), li .i64 i2, li .i64 i3, li .i64 i6, ls s7, li .i64 i10, ls s11, li .i64 0, ls ByteArray.empty, li .i64 0, ls ByteArray.empty]))] (by kernel_rfl) ?_
      refine SimI.done (by kernel_rfl) ?_
      refine SimE.thenN ?_
      refine Sim.region0 ?_
      refine SimI.run 8 [(46, .one (.ptr 6 8)), (45, .one (.ptr 6 4)), (44, .agg [li .i64 a1.F.a2.N, ls a1.F.a2.Text]), (43, .one (.ptr 3 7)), (42, .one (.ptr 3 3)), (41, .one (li .i64 2)), (40, .one (li .i64 2))] [(6, some (.cells [li .i64 a1.ID, li .u8 (bitsI .or .u8 i9 (shlI .u8 2 2)), li .i64 i2, li .i64 i3, li .i64 i6, ls s7, li .i64 i10, ls s11, li .i64 a1.F.a2.N, ls a1.F.a2.Text, li .i64 0, ls ByteArray.empty]))] (by kernel_rfl) ?_
      refine SimI.done (by kernel_rfl) ?_
      refine SimE.blockN ?_
      refine SimE.thenN ?_
      refine Sim.region0 ?_
      refine SimI.run 3 [(7, .one (li .i64 3)), (23, .one (li .i64 3)), (22, .one (li .i64 2))] [] (by kernel_rfl) ?_
      refine SimI.done (by kernel_rfl) ?_
      refine SimE.loopN ?_
      refine SimL.pre (ts := [2, 3, 4, 6, 7]) (os := [2, 3, 4, 6]) [(2, .one (.ptr 2 0)), (3, .one (.ptr 3 0)), (4, .one (.ptr 4 0)), (6, .one (.ptr 6 0)), (7, .one (li .i64 3))] ((2, some (.cells [li .i64 a0.ID, li .i64 a0.At.X, li .i64 a0.At.Y, li .i64 a0.F.a0.N, ls a0.F.a0.Text, li .i64 a0.F.a1.N, ls a0.F.a1.Text, li .i64 a0.F.a2.N, ls a0.F.a2.Text, li .i64 a0.F.a3.N, ls a0.F.a3.Text])) :: ((3, some (.cells [li .i64 a1.ID, li .i64 a1.At.X, li .i64 a1.At.Y, li .i64 a1.F.a0.N, ls a1.F.a0.Text, li .i64 a1.F.a1.N, ls a1.F.a1.Text, li .i64 a1.F.a2.N, ls a1.F.a2.Text, li .i64 a1.F.a3.N, ls a1.F.a3.Text])) :: ((4, some (.cells [li .i64 0, li .u8 0, li .i64 0, li .i64 0, li .i64 0, ls ByteArray.empty, li .i64 0, ls ByteArray.empty, li .i64 0, ls ByteArray.empty, li .i64 0, ls ByteArray.empty])) :: ((6, some (.cells [li .i64 a1.ID, li .u8 (bitsI .or .u8 i9 (shlI .u8 2 2)), li .i64 i2, li .i64 i3, li .i64 i6, ls s7, li .i64 i10, ls s11, li .i64 a1.F.a2.N, ls a1.F.a2.Text, li .i64 0, ls ByteArray.empty])) :: [])))) (by kernel_rfl) (by kernel_rfl) (by kernel_rfl) ?_
      exact F19_u16_ok n a0 a1 i2 i3 i6 s7 i10 s11 (bitsI .or .u8 i9 (shlI .u8 2 2)) a1.F.a2.N a1.F.a2.Text
    · refine Sim.skip ?_
      refine SimE.blockN ?_
      refine SimE.thenN ?_
      refine Sim.region0 ?_
      refine SimI.run 3 [(7, .one (li .i64 3)), (23, .one (li .i64 3)), (22, .one (li .i64 2))] [] (by kernel_rfl) ?_
      refine SimI.done (by kernel_rfl) ?_
      refine SimE.loopN ?_
      refine SimL.pre (ts := [2, 3, 4, 6, 7]) (os := [2, 3, 4, 6]) [(2, .one (.ptr 2 0)), (3, .one (.ptr 3 0)), (4, .one (.ptr 4 0)), (6, .one (.ptr 6 0)), (7, .one (li .i64 3))] ((2, some (.cells [li .i64 a0.ID, li .i64 a0.At.X, li .i64 a0.At.Y, li .i64 a0.F.a0.N, ls a0.F.a0.Text, li .i64 a0.F.a1.N, ls a0.F.a1.Text, li .i64 a0.F.a2.N, ls a0.F.a2.Text, li .i64 a0.F.a3.N, ls a0.F.a3.Text])) :: ((3, some (.cells [li .i64 a1.ID, li .i64 a1.At.X, li .i64 a1.At.Y, li .i64 a1.F.a0.N, ls a1.F.a0.Text, li .i64 a1.F.a1.N, ls a1.F.a1.Text, li .i64 a1.F.a2.N, ls a1.F.a2.Text, li .i64 a1.F.a3.N, ls a1.F.a3.Text])) :: ((4, some (.cells [li .i64 0, li .u8 0, li .i64 0, li .i64 0, li .i64 0, ls ByteArray.empty, li .i64 0, ls ByteArray.empty, li .i64 0, ls ByteArray.empty, li .i64 0, ls ByteArray.empty])) :: ((6, some (.cells [li .i64 a1.ID, li .u8 i9, li .i64 i2, li .i64 i3, li .i64 i6, ls s7, li .i64 i10, ls s11, li .i64 0, ls ByteArray.empty, li .i64 0, ls ByteArray.empty])) :: [])))) (by kernel_rfl) (by kernel_rfl) (by kernel_rfl) ?_
      exact F19_u16_ok n a0 a1 i2 i3 i6 s7 i10 s11 i9 0 ByteArray.empty

def F19_u8 (n : Nat) (a0 : Thing) (a1 : Thing) (i2 : Int) (i3 : Int) (i5 : Int) (i6 : Int) (s7 : ByteArray) : Option (Delta × Bool) :=
    if !(Field.eqb a0.F.a1 a1.F.a1) then
      F19_u12 n a0 a1 i2 i3 i6 s7 (bitsI .or .u8 i5 (shlI .u8 2 1)) a1.F.a1.N a1.F.a1.Text
    else
      F19_u12 n a0 a1 i2 i3 i6 s7 i5 0 ByteArray.empty
theorem F19_u8_ok (n : Nat) (a0 : Thing) (a1 : Thing) (i2 : Int) (i3 : Int) (i5 : Int) (i6 : Int) (s7 : ByteArray) : SimL Try.prog D (n + 8) (n + 7) pc19_c24 [(2, .one (.ptr 2 0)), (3, .one (.ptr 3 0)), (4, .one (.ptr 4 0)), (6, .one (.ptr 6 0)), (7, .one (li .i64 1))] ((2, some (.cells [li .i64 a0.ID, li .i64 a0.At.X, li .i64 a0.At.Y, li .i64 a0.F.a0.N, ls a0.F.a0.Text, li .i64 a0.F.a1.N, ls a0.F.a1.Text, li .i64 a0.F.a2.N, ls a0.F.a2.Text, li .i64 a0.F.a3.N, ls a0.F.a3.Text])) :: ((3, some (.cells [li .i64 a1.ID, li .i64 a1.At.X, li .i64 a1.At.Y, li .i64 a1.F.a0.N, ls a1.F.a0.Text, li .i64 a1.F.a1.N, ls a1.F.a1.Text, li .i64 a1.F.a2.N, ls a1.F.a2.Text, li .i64 a1.F.a3.N, ls a1.F.a3.Text])) :: ((4, some (.cells [li .i64 0, li .u8 0, li .i64 0, li .i64 0, li .i64 0, ls ByteArray.empty, li .i64 0, ls ByteArray.empty, li .i64 0, ls ByteArray.empty, li .i64 0, ls ByteArray.empty])) :: ((6, some (.cells [li .i64 a1.ID, li .u8 i5, li .i64 i2, li .i64 i3, li .i64 i6, ls s7, li .i64 0, ls ByteArray.empty, li .i64 0, ls ByteArray.empty, li .i64 0, ls ByteArray.empty])) :: [])))) (F19_u8 n a0 a1 i2 i3 i5 i6 s7) (QB 0 (QT Try.prog D (n + 8) pc19_c30 (QF pc19_r 0 F19_e))) := by
    unfold F19_u8
    refine SimL.succ ?_
    refine Sim.seq ?_
    refine Sim.seq ?_
    refine Sim.region [(2, .one (.ptr 2 0)), (3, .one (.ptr 3 0)), (4, .one (.ptr 4 0)), (6, .one (.ptr 6 0)), (7, .one (li .i64 1))] ((2, some (.cells [li .i64 a0.ID, li .i64 a0.At.X, li .i64 a0.At.Y, li .i64 a0.F.a0.N, ls a0.F.a0.Text, li .i64 a0.F.a1.N, ls a0.F.a1.Text, li .i64 a0.F.a2.N, ls a0.F.a2.Text, li .i64 a0.F.a3.N, ls a0.F.a3.Text])) :: ((3, some (.cells [li .i64 a1.ID, li .i64 a1.At.X, li .i64 a1.At.Y, li .i64 a1.F.a0.N, ls a1.F.a0.Text, li .i64 a1.F.a1.N, ls a1.F.a1.Text, li .i64 a1.F.a2.N, ls a1.F.a2.Text, li .i64 a1.F.a3.N, ls a1.F.a3.Text])) :: ((4, some (.cells [li .i64 0, li .u8 0, li .i64 0, li .i64 0, li .i64 0, ls ByteArray.empty, li .i64 0, ls ByteArray.empty, li .i64 0, ls ByteArray.empty, li .i64 0, ls ByteArray.empty])) :: ((6, some (.cells [li .i64 a1.ID, li .u8 i5, li .i64 i2, li .i64 i3, li .i64 i6, ls s7, li .i64 0, ls ByteArray.empty, li .i64 0, ls ByteArray.empty, li .i64 0, ls ByteArray.empty])) :: [])))) (by kernel_rfl) ?_
    refine SimI.run 2 [(21, .one (lb true)), (20, .one (li .i64 1))] [] (by kernel_rfl) ?_
    refine SimI.done (by kernel_rfl) ?_
    refine SimE.thenN ?_
    refine Sim.condT (by kernel_rfl) ?_
    refine Sim.skip ?_
    refine SimE.thenN ?_
    refine Sim.seq ?_
    refine Sim.block ?_
    refine Sim.seq ?_
    refine Sim.region0 ?_
    refine SimI.run 8 [(31, .agg [li .i64 a1.F.a1.N, ls a1.F.a1.Text]), (30, .one (.ptr 3 5)), (29, .one (.ptr 3 3)), (28, .one (li .i64 1)), (27, .agg [li .i64 a0.F.a1.N, ls a0.F.a1.Text]), (26, .one (.ptr 2 5)), (25, .one (.ptr 2 3)), (24, .one (li .i64 1))] [] (by kernel_rfl) ?_
    refine SimI.step { dst := some 32, op := POp.prim (Prim.bin BinOp.neq 25 false false) [Operand.tmp 27, Operand.tmp 31], guard := none, hints := [(27, Hint.imm), (31, Hint.imm)] } [(32, .one (lb (!(Field.eqb a0.F.a1 a1.F.a1))))] [] (by kernel_rfl) (pOp_eff (by kernel_rfl) (by kernel_rfl) (eff_prim (by kernel_rfl) (Field_eqn a0.F.a1 a1.F.a1 _ _))) ?_
    refine SimI.done (by kernel_rfl) ?_
    refine SimE.thenN ?_
    refine Sim.cond (!(Field.eqb a0.F.a1 a1.F.a1)) (by kernel_rfl) ?_ ?_
    · refine Sim.seq ?_
      refine Sim.region0 ?_
      refine SimI.run 8 [(39, .one (.ptr 6 1)), (38, .one (li .u8 (bitsI .or .u8 i5 (shlI .u8 2 1)))), (37, .one (li .u8 (shlI .u8 2 1))), (36, .one (li .u64 1)), (35, .one (li .i64 1)), (34, .one (li .u8 i5)), (33, .one (.ptr 6 1))] [(6, some (.cells [li .i64 a1.ID, li .u8 (bitsI .or .u8 i5 (shlI .u8 2 1)), li .i64 i2, li .i64 i3, li .i64 i6, ls s7, li .i64 0, ls ByteArray.empty, li .i64 0, ls ByteArray.empty, li .i64 0, ls ByteArray.empty]))] (by kernel_rfl) ?_
      refine SimI.done (by kernel_rfl) ?_
      refine SimE.thenN ?_
      refine Sim.region0 ?_
      refine SimI.run 8 [(46, .one (.ptr 6 6)), (45, .one (.ptr 6 4)), (44, .agg [li .i64 a1.F.a1.N, ls a1.F.a1.Text]), (43, .one (.ptr 3 5)), (42, .one (.ptr 3 3)), (41, .one (li .i64 1)), (40, .one (li .i64 1))] [(6, some (.cells [li .i64 a1.ID, li .u8 (bitsI .or .u8 i5 (shlI .u8 2 1)), li .i64 i2, li .i64 i3, li .i64 i6, ls s7, li .i64 a1.F.a1.N, ls a1.F.a1.Text, li .i64 0, ls ByteArray.empty, li .i64 0, ls ByteArray.empty]))] (by kernel_rfl) ?_
      refine SimI.done (by kernel_rfl) ?_
      refine SimE.blockN ?_
      refine SimE.thenN ?_
      refine Sim.region0 ?_
      refine SimI.run 3 [(7, .one (li .i64 2)), (23, .one (li .i64 2)), (22, .one (li .i64 1))] [] (by kernel_rfl) ?_
      refine SimI.done (by kernel_rfl) ?_
      refine SimE.loopN ?_
      refine SimL.pre (ts := [2, 3, 4, 6, 7]) (os := [2, 3, 4, 6]) [(2, .one (.ptr 2 0)), (3, .one (.ptr 3 0)), (4, .one (.ptr 4 0)), (6, .one (.ptr 6 0)), (7, .one (li .i64 2))] ((2, some (.cells [li .i64 a0.ID, li .i64 a0.At.X, li .i64 a0.At.Y, li .i64 a0.F.a0.N, ls a0.F.a0.Text, li .i64 a0.F.a1.N, ls a0.F.a1.Text, li .i64 a0.F.a2.N, ls a0.F.a2.Text, li .i64 a0.F.a3.N, ls a0.F.a3.Text])) :: ((3, some (.cells [li .i64 a1.ID, li .i64 a1.At.X, li .i64 a1.At.Y, li .i64 a1.F.a0.N, ls a1.F.a0.Text, li .i64 a1.F.a1.N, ls a1.F.a1.Text, li .i64 a1.F.a2.N, ls a1.F.a2.Text, li .i64 a1.F.a3.N, ls a1.F.a3.Text])) :: ((4, some (.cells [li .i64 0, li .u8 0, li .i64 0, li .i64 0, li .i64 0, ls ByteArray.empty, li .i64 0, ls ByteArray.empty, li .i64 0, ls ByteArray.empty, li .i64 0, ls ByteArray.empty])) :: ((6, some (.cells [li .i64 a1.ID, li .u8 (bitsI .or .u8 i5 (shlI .u8 2 1)), li .i64 i2, li .i64 i3, li .i64 i6, ls s7, li .i64 a1.F.a1.N, ls a1.F.a1.Text, li .i64 0, ls ByteArray.empty, li .i64 0, ls ByteArray.empty])) :: [])))) (by kernel_rfl) (by kernel_rfl) (by kernel_rfl) ?_
      exact F19_u12_ok n a0 a1 i2 i3 i6 s7 (bitsI .or .u8 i5 (shlI .u8 2 1)) a1.F.a1.N a1.F.a1.Text
    · refine Sim.skip ?_
      refine SimE.blockN ?_
      refine SimE.thenN ?_
      refine Sim.region0 ?_
      refine SimI.run 3 [(7, .one (li .i64 2)), (23, .one (li .i64 2)), (22, .one (li .i64 1))] [] (by kernel_rfl) ?_
      refine SimI.done (by kernel_rfl) ?_
      refine SimE.loopN ?_
      refine SimL.pre (ts := [2, 3, 4, 6, 7]) (os := [2, 3, 4, 6]) [(2, .one (.ptr 2 0)), (3, .one (.ptr 3 0)), (4, .one (.ptr 4 0)), (6, .one (.ptr 6 0)), (7, .one (li .i64 2))] ((2, some (.cells [li .i64 a0.ID, li .i64 a0.At.X, li .i64 a0.At.Y, li .i64 a0.F.a0.N, ls a0.F.a0.Text, li .i64 a0.F.a1.N, ls a0.F.a1.Text, li .i64 a0.F.a2.N, ls a0.F.a2.Text, li .i64 a0.F.a3.N, ls a0.F.a3.Text])) :: ((3, some (.cells [li .i64 a1.ID, li .i64 a1.At.X, li .i64 a1.At.Y, li .i64 a1.F.a0.N, ls a1.F.a0.Text, li .i64 a1.F.a1.N, ls a1.F.a1.Text, li .i64 a1.F.a2.N, ls a1.F.a2.Text, li .i64 a1.F.a3.N, ls a1.F.a3.Text])) :: ((4, some (.cells [li .i64 0, li .u8 0, li .i64 0, li .i64 0, li .i64 0, ls ByteArray.empty, li .i64 0, ls ByteArray.empty, li .i64 0, ls ByteArray.empty, li .i64 0, ls ByteArray.empty])) :: ((6, some (.cells [li .i64 a1.ID, li .u8 i5, li .i64 i2, li .i64 i3, li .i64 i6, ls s7, li .i64 0, ls ByteArray.empty, li .i64 0, ls ByteArray.empty, li .i64 0, ls ByteArray.empty])) :: [])))) (by kernel_rfl) (by kernel_rfl) (by kernel_rfl) ?_
      exact F19_u12_ok n a0 a1 i2 i3 i6 s7 i5 0 ByteArray.empty

def F19_j4 (n : Nat) (a0 : Thing) (a1 : Thing) (i1 : Int) (i2 : Int) (i3 : Int) : Option (Delta × Bool) :=
    if !(Field.eqb a0.F.a0 a1.F.a0) then
      F19_u8 n a0 a1 i2 i3 (bitsI .or .u8 i1 (shlI .u8 2 0)) a1.F.a0.N a1.F.a0.Text
    else
      F19_u8 n a0 a1 i2 i3 i1 0 ByteArray.empty
theorem F19_j4_ok (n : Nat) (a0 : Thing) (a1 : Thing) (i1 : Int) (i2 : Int) (i3 : Int) : Sim Try.prog D (n + 8) pc19_c31 [(2, .one (.ptr 2 0)), (3, .one (.ptr 3 0)), (4, .one (.ptr 4 0)), (6, .one (.ptr 6 0))] ((2, some (.cells [li .i64 a0.ID, li .i64 a0.At.X, li .i64 a0.At.Y, li .i64 a0.F.a0.N, ls a0.F.a0.Text, li .i64 a0.F.a1.N, ls a0.F.a1.Text, li .i64 a0.F.a2.N, ls a0.F.a2.Text, li .i64 a0.F.a3.N, ls a0.F.a3.Text])) :: ((3, some (.cells [li .i64 a1.ID, li .i64 a1.At.X, li .i64 a1.At.Y, li .i64 a1.F.a0.N, ls a1.F.a0.Text, li .i64 a1.F.a1.N, ls a1.F.a1.Text, li .i64 a1.F.a2.N, ls a1.F.a2.Text, li .i64 a1.F.a3.N, ls a1.F.a3.Text])) :: ((4, some (.cells [li .i64 0, li .u8 0, li .i64 0, li .i64 0, li .i64 0, ls ByteArray.empty, li .i64 0, ls ByteArray.empty, li .i64 0, ls ByteArray.empty, li .i64 0, ls ByteArray.empty])) :: ((6, some (.cells [li .i64 a1.ID, li .u8 i1, li .i64 i2, li .i64 i3, li .i64 0, ls ByteArray.empty, li .i64 0, ls ByteArray.empty, li .i64 0, ls ByteArray.empty, li .i64 0, ls ByteArray.empty])) :: [])))) (F19_j4 n a0 a1 i1 i2 i3) (QF pc19_r 0 F19_e) := by
    unfold F19_j4
    refine Sim.seq ?_
    refine Sim.seq ?_
    refine Sim.region [(2, .one (.ptr 2 0)), (3, .one (.ptr 3 0)), (4, .one (.ptr 4 0)), (6, .one (.ptr 6 0))] ((2, some (.cells [li .i64 a0.ID, li .i64 a0.At.X, li .i64 a0.At.Y, li .i64 a0.F.a0.N, ls a0.F.a0.Text, li .i64 a0.F.a1.N, ls a0.F.a1.Text, li .i64 a0.F.a2.N, ls a0.F.a2.Text, li .i64 a0.F.a3.N, ls a0.F.a3.Text])) :: ((3, some (.cells [li .i64 a1.ID, li .i64 a1.At.X, li .i64 a1.At.Y, li .i64 a1.F.a0.N, ls a1.F.a0.Text, li .i64 a1.F.a1.N, ls a1.F.a1.Text, li .i64 a1.F.a2.N, ls a1.F.a2.Text, li .i64 a1.F.a3.N, ls a1.F.a3.Text])) :: ((4, some (.cells [li .i64 0, li .u8 0, li .i64 0, li .i64 0, li .i64 0, ls ByteArray.empty, li .i64 0, ls ByteArray.empty, li .i64 0, ls ByteArray.empty, li .i64 0, ls ByteArray.empty])) :: ((6, some (.cells [li .i64 a1.ID, li .u8 i1, li .i64 i2, li .i64 i3, li .i64 0, ls ByteArray.empty, li .i64 0, ls ByteArray.empty, li .i64 0, ls ByteArray.empty, li .i64 0, ls ByteArray.empty])) :: [])))) (by kernel_rfl) ?_
    refine SimI.run 1 [(7, .one (li .i64 0))] [] (by kernel_rfl) ?_
    refine SimI.done (by kernel_rfl) ?_
    refine SimE.thenN ?_
    refine Sim.block ?_
    refine Sim.loop ?_
    refine SimL.succ ?_
    refine Sim.seq ?_
    refine Sim.seq ?_
    refine Sim.region [(2, .one (.ptr 2 0)), (3, .one (.ptr 3 0)), (4, .one (.ptr 4 0)), (6, .one (.ptr 6 0)), (7, .one (li .i64 0))] ((2, some (.cells [li .i64 a0.ID, li .i64 a0.At.X, li .i64 a0.At.Y, li .i64 a0.F.a0.N, ls a0.F.a0.Text, li .i64 a0.F.a1.N, ls a0.F.a1.Text, li .i64 a0.F.a2.N, ls a0.F.a2.Text, li .i64 a0.F.a3.N, ls a0.F.a3.Text])) :: ((3, some (.cells [li .i64 a1.ID, li .i64 a1.At.X, li .i64 a1.At.Y, li .i64 a1.F.a0.N, ls a1.F.a0.Text, li .i64 a1.F.a1.N, ls a1.F.a1.Text, li .i64 a1.F.a2.N, ls a1.F.a2.Text, li .i64 a1.F.a3.N, ls a1.F.a3.Text])) :: ((4, some (.cells [li .i64 0, li .u8 0, li .i64 0, li .i64 0, li .i64 0, ls ByteArray.empty, li .i64 0, ls ByteArray.empty, li .i64 0, ls ByteArray.empty, li .i64 0, ls ByteArray.empty])) :: ((6, some (.cells [li .i64 a1.ID, li .u8 i1, li .i64 i2, li .i64 i3, li .i64 0, ls ByteArray.empty, li .i64 0, ls ByteArray.empty, li .i64 0, ls ByteArray.empty, li .i64 0, ls ByteArray.empty])) :: [])))) (by kernel_rfl) ?_
    refine SimI.run 2 [(21, .one (lb true)), (20, .one (li .i64 0))] [] (by kernel_rfl) ?_
    refine SimI.done (by kernel_rfl) ?_
    refine SimE.thenN ?_
    refine Sim.condT (by kernel_rfl) ?_
    refine Sim.skip ?_
    refine SimE.thenN ?_
    refine Sim.seq ?_
    refine Sim.block ?_
    refine Sim.seq ?_
    refine Sim.region0 ?_
    refine SimI.run 8 [(31, .agg [li .i64 a1.F.a0.N, ls a1.F.a0.Text]), (30, .one (.ptr 3 3)), (29, .one (.ptr 3 3)), (28, .one (li .i64 0)), (27, .agg [li .i64 a0.F.a0.N, ls a0.F.a0.Text]), (26, .one (.ptr 2 3)), (25, .one (.ptr 2 3)), (24, .one (li .i64 0))] [] (by kernel_rfl) ?_
    refine SimI.step { dst := some 32, op := POp.prim (Prim.bin BinOp.neq 25 false false) [Operand.tmp 27, Operand.tmp 31], guard := none, hints := [(27, Hint.imm), (31, Hint.imm)] } [(32, .one (lb (!(Field.eqb a0.F.a0 a1.F.a0))))] [] (by kernel_rfl) (pOp_eff (by kernel_rfl) (by kernel_rfl) (eff_prim (by kernel_rfl) (Field_eqn a0.F.a0 a1.F.a0 _ _))) ?_
    refine SimI.done (by kernel_rfl) ?_
    refine SimE.thenN ?_
    refine Sim.cond (!(Field.eqb a0.F.a0 a1.F.a0)) (by kernel_rfl) ?_ ?_
    · refine Sim.seq ?_
      refine Sim.region0 ?_
      refine SimI.run 8 [(39, .one (.ptr 6 1)), (38, .one (li .u8 (bitsI .or .u8 i1 (shlI .u8 2 0)))), (37, .one (li .u8 (shlI .u8 2 0))), (36, .one (li .u64 0)), (35, .one (li .i64 0)), (34, .one (li .u8 i1)), (33, .one (.ptr 6 1))] [(6, some (.cells [li .i64 a1.ID, li .u8 (bitsI .or .u8 i1 (shlI .u8 2 0)), li .i64 i2, li .i64 i3, li .i64 0, ls ByteArray.empty, li .i64 0, ls ByteArray.empty, li .i64 0, ls ByteArray.empty, li .i64 0, ls ByteArray.empty]))] (by kernel_rfl) ?_
      refine SimI.done (by kernel_rfl) ?_
      refine SimE.thenN ?_
      refine Sim.region0 ?_
      refine SimI.run 8 [(46, .one (.ptr 6 4)), (45, .one (.ptr 6 4)), (44, .agg [li .i64 a1.F.a0.N, ls a1.F.a0.Text]), (43, .one (.ptr 3 3)), (42, .one (.ptr 3 3)), (41, .one (li .i64 0)), (40, .one (li .i64 0))] [(6, some (.cells [li .i64 a1.ID, li .u8 (bitsI .or .u8 i1 (shlI .u8 2 0)), li .i64 i2, li .i64 i3, li .i64 a1.F.a0.N, ls a1.F.a0.Text, li .i64 0, ls ByteArray.empty, li .i64 0, ls ByteArray.empty, li .i64 0, ls ByteArray.empty]))] (by kernel_rfl) ?_
      refine SimI.done (by kernel_rfl) ?_
      refine SimE.blockN ?_
      refine SimE.thenN ?_
      refine Sim.region0 ?_
      refine SimI.run 3 [(7, .one (li .i64 1)), (23, .one (li .i64 1)), (22, .one (li .i64 0))] [] (by kernel_rfl) ?_
      refine SimI.done (by kernel_rfl) ?_
      refine SimE.loopN ?_
      refine SimL.pre (ts := [2, 3, 4, 6, 7]) (os := [2, 3, 4, 6]) [(2, .one (.ptr 2 0)), (3, .one (.ptr 3 0)), (4, .one (.ptr 4 0)), (6, .one (.ptr 6 0)), (7, .one (li .i64 1))] ((2, some (.cells [li .i64 a0.ID, li .i64 a0.At.X, li .i64 a0.At.Y, li .i64 a0.F.a0.N, ls a0.F.a0.Text, li .i64 a0.F.a1.N, ls a0.F.a1.Text, li .i64 a0.F.a2.N, ls a0.F.a2.Text, li .i64 a0.F.a3.N, ls a0.F.a3.Text])) :: ((3, some (.cells [li .i64 a1.ID, li .i64 a1.At.X, li .i64 a1.At.Y, li .i64 a1.F.a0.N, ls a1.F.a0.Text, li .i64 a1.F.a1.N, ls a1.F.a1.Text, li .i64 a1.F.a2.N, ls a1.F.a2.Text, li .i64 a1.F.a3.N, ls a1.F.a3.Text])) :: ((4, some (.cells [li .i64 0, li .u8 0, li .i64 0, li .i64 0, li .i64 0, ls ByteArray.empty, li .i64 0, ls ByteArray.empty, li .i64 0, ls ByteArray.empty, li .i64 0, ls ByteArray.empty])) :: ((6, some (.cells [li .i64 a1.ID, li .u8 (bitsI .or .u8 i1 (shlI .u8 2 0)), li .i64 i2, li .i64 i3, li .i64 a1.F.a0.N, ls a1.F.a0.Text, li .i64 0, ls ByteArray.empty, li .i64 0, ls ByteArray.empty, li .i64 0, ls ByteArray.empty])) :: [])))) (by kernel_rfl) (by kernel_rfl) (by kernel_rfl) ?_
      exact F19_u8_ok n a0 a1 i2 i3 (bitsI .or .u8 i1 (shlI .u8 2 0)) a1.F.a0.N a1.F.a0.Text
    · refine Sim.skip ?_
      refine SimE.blockN ?_
      refine SimE.thenN ?_
      refine Sim.region0 ?_
      refine SimI.run 3 [(7, .one (li .i64 1)), (23, .one (li .i64 1)), (22, .one (li .i64 0))] [] (by kernel_rfl) ?_
      refine SimI.done (by kernel_rfl) ?_
      refine SimE.loopN ?_
      refine SimL.pre (ts := [2, 3, 4, 6, 7]) (os := [2, 3, 4, 6]) [(2, .one (.ptr 2 0)), (3, .one (.ptr 3 0)), (4, .one (.ptr 4 0)), (6, .one (.ptr 6 0)), (7, .one (li .i64 1))] ((2, some (.cells [li .i64 a0.ID, li .i64 a0.At.X, li .i64 a0.At.Y, li .i64 a0.F.a0.N, ls a0.F.a0.Text, li .i64 a0.F.a1.N, ls a0.F.a1.Text, li .i64 a0.F.a2.N, ls a0.F.a2.Text, li .i64 a0.F.a3.N, ls a0.F.a3.Text])) :: ((3, some (.cells [li .i64 a1.ID, li .i64 a1.At.X, li .i64 a1.At.Y, li .i64 a1.F.a0.N, ls a1.F.a0.Text, li .i64 a1.F.a1.N, ls a1.F.a1.Text, li .i64 a1.F.a2.N, ls a1.F.a2.Text, li .i64 a1.F.a3.N, ls a1.F.a3.Text])) :: ((4, some (.cells [li .i64 0, li .u8 0, li .i64 0, li .i64 0, li .i64 0, ls ByteArray.empty, li .i64 0, ls ByteArray.empty, li .i64 0, ls ByteArray.empty, li .i64 0, ls ByteArray.empty])) :: ((6, some (.cells [li .i64 a1.ID, li .u8 i1, li .i64 i2, li .i64 i3, li .i64 0, ls ByteArray.empty, li .i64 0, ls ByteArray.empty, li .i64 0, ls ByteArray.empty, li .i64 0, ls ByteArray.empty])) :: [])))) (by kernel_rfl) (by kernel_rfl) (by kernel_rfl) ?_
      exact F19_u8_ok n a0 a1 i2 i3 i1 0 ByteArray.empty

def F19 (n : Nat) (a0 : Thing) (a1 : Thing) : Option (Delta × Bool) :=
  if !(Point.eqb a0.At a1.At) then
    F19_j4 n a0 a1 1 a1.At.X a1.At.Y
  else
    F19_j4 n a0 a1 0 0 0
theorem F19_ok (n : Nat) (a0 : Thing) (a1 : Thing) : ∀ r, F19 n a0 a1 = some r → D 19 [.agg [li .i64 a0.ID, li .i64 a0.At.X, li .i64 a0.At.Y, li .i64 a0.F.a0.N, ls a0.F.a0.Text, li .i64 a0.F.a1.N, ls a0.F.a1.Text, li .i64 a0.F.a2.N, ls a0.F.a2.Text, li .i64 a0.F.a3.N, ls a0.F.a3.Text], .agg [li .i64 a1.ID, li .i64 a1.At.X, li .i64 a1.At.Y, li .i64 a1.F.a0.N, ls a1.F.a0.Text, li .i64 a1.F.a1.N, ls a1.F.a1.Text, li .i64 a1.F.a2.N, ls a1.F.a2.Text, li .i64 a1.F.a3.N, ls a1.F.a3.Text]] [] = some (F19_e r) := by
  refine fn_to (D := D) (n := n + 8) (nt := 51) (rs := pc19_r) (c := pc19_c34) (L := [(0, .agg [li .i64 a0.ID, li .i64 a0.At.X, li .i64 a0.At.Y, li .i64 a0.F.a0.N, ls a0.F.a0.Text, li .i64 a0.F.a1.N, ls a0.F.a1.Text, li .i64 a0.F.a2.N, ls a0.F.a2.Text, li .i64 a0.F.a3.N, ls a0.F.a3.Text]), (1, .agg [li .i64 a1.ID, li .i64 a1.At.X, li .i64 a1.At.Y, li .i64 a1.F.a0.N, ls a1.F.a0.Text, li .i64 a1.F.a1.N, ls a1.F.a1.Text, li .i64 a1.F.a2.N, ls a1.F.a2.Text, li .i64 a1.F.a3.N, ls a1.F.a3.Text])]) (M := []) (k := 0) rfl rfl rfl rfl rfl rfl ?_
  unfold F19
  refine Sim.seq ?_
  refine Sim.region0 ?_
  refine SimI.run 4 [(5, .one (lb false)), (4, .one (.ptr 4 0)), (3, .one (.ptr 3 0)), (2, .one (.ptr 2 0))] [(4, some (.cells [li .i64 0, li .u8 0, li .i64 0, li .i64 0, li .i64 0, ls ByteArray.empty, li .i64 0, ls ByteArray.empty, li .i64 0, ls ByteArray.empty, li .i64 0, ls ByteArray.empty])), (3, some (.cells [li .i64 a1.ID, li .i64 a1.At.X, li .i64 a1.At.Y, li .i64 a1.F.a0.N, ls a1.F.a0.Text, li .i64 a1.F.a1.N, ls a1.F.a1.Text, li .i64 a1.F.a2.N, ls a1.F.a2.Text, li .i64 a1.F.a3.N, ls a1.F.a3.Text])), (2, some (.cells [li .i64 a0.ID, li .i64 a0.At.X, li .i64 a0.At.Y, li .i64 a0.F.a0.N, ls a0.F.a0.Text, li .i64 a0.F.a1.N, ls a0.F.a1.Text, li .i64 a0.F.a2.N, ls a0.F.a2.Text, li .i64 a0.F.a3.N, ls a0.F.a3.Text]))] (by kernel_rfl) ?_
  refine SimI.done (by kernel_rfl) ?_
  refine SimE.thenN ?_
  refine Sim.seq ?_
  refine Sim.region0 ?_
  refine SimI.run 5 [(6, .one (.ptr 6 0)), (10, .agg [li .i64 a1.ID, li .u8 0, li .i64 0, li .i64 0, li .i64 0, ls ByteArray.empty, li .i64 0, ls ByteArray.empty, li .i64 0, ls ByteArray.empty, li .i64 0, ls ByteArray.empty]), (9, .one (li .i64 a1.ID)), (8, .one (.ptr 3 0))] [(6, some (.cells [li .i64 a1.ID, li .u8 0, li .i64 0, li .i64 0, li .i64 0, ls ByteArray.empty, li .i64 0, ls ByteArray.empty, li .i64 0, ls ByteArray.empty, li .i64 0, ls ByteArray.empty])), (6, some (.cells [li .i64 0, li .u8 0, li .i64 0, li .i64 0, li .i64 0, ls ByteArray.empty, li .i64 0, ls ByteArray.empty, li .i64 0, ls ByteArray.empty, li .i64 0, ls ByteArray.empty]))] (by kernel_rfl) ?_
  refine SimI.done (by kernel_rfl) ?_
  refine SimE.thenN ?_
  refine Sim.seq ?_
  refine Sim.seq ?_
  refine Sim.region0 ?_
  refine SimI.run 4 [(14, .agg [li .i64 a1.At.X, li .i64 a1.At.Y]), (13, .one (.ptr 3 1)), (12, .agg [li .i64 a0.At.X, li .i64 a0.At.Y]), (11, .one (.ptr 2 1))] [] (by kernel_rfl) ?_
  refine SimI.step { dst := some 15, op := POp.prim (Prim.bin BinOp.neq 23 false false) [Operand.tmp 12, Operand.tmp 14], guard := none, hints := [] } [(15, .one (lb (!(Point.eqb a0.At a1.At))))] [] (by kernel_rfl) (pOp_eff (by kernel_rfl) (by kernel_rfl) (eff_prim (by kernel_rfl) (Point_eqn a0.At a1.At _ _))) ?_
  refine SimI.done (by kernel_rfl) ?_
  refine SimE.thenN ?_
  refine Sim.cond (!(Point.eqb a0.At a1.At)) (by kernel_rfl) ?_ ?_
  · refine Sim.region0 ?_
    refine SimI.run 6 [(19, .one (.ptr 6 2)), (18, .one (.ptr 6 1)), (17, .agg [li .i64 a1.At.X, li .i64 a1.At.Y]), (16, .one (.ptr 3 1))] [(6, some (.cells [li .i64 a1.ID, li .u8 1, li .i64 a1.At.X, li .i64 a1.At.Y, li .i64 0, ls ByteArray.empty, li .i64 0, ls ByteArray.empty, li .i64 0, ls ByteArray.empty, li .i64 0, ls ByteArray.empty])), (6, some (.cells [li .i64 a1.ID, li .u8 1, li .i64 0, li .i64 0, li .i64 0, ls ByteArray.empty, li .i64 0, ls ByteArray.empty, li .i64 0, ls ByteArray.empty, li .i64 0, ls ByteArray.empty]))] (by kernel_rfl) ?_
    refine SimI.done (by kernel_rfl) ?_
    refine SimE.thenN ?_
    refine Sim.pre (ts := [2, 3, 4, 6]) (os := [2, 3, 4, 6]) [(2, .one (.ptr 2 0)), (3, .one (.ptr 3 0)), (4, .one (.ptr 4 0)), (6, .one (.ptr 6 0))] ((2, some (.cells [li .i64 a0.ID, li .i64 a0.At.X, li .i64 a0.At.Y, li .i64 a0.F.a0.N, ls a0.F.a0.Text, li .i64 a0.F.a1.N, ls a0.F.a1.Text, li .i64 a0.F.a2.N, ls a0.F.a2.Text, li .i64 a0.F.a3.N, ls a0.F.a3.Text])) :: ((3, some (.cells [li .i64 a1.ID, li .i64 a1.At.X, li .i64 a1.At.Y, li .i64 a1.F.a0.N, ls a1.F.a0.Text, li .i64 a1.F.a1.N, ls a1.F.a1.Text, li .i64 a1.F.a2.N, ls a1.F.a2.Text, li .i64 a1.F.a3.N, ls a1.F.a3.Text])) :: ((4, some (.cells [li .i64 0, li .u8 0, li .i64 0, li .i64 0, li .i64 0, ls ByteArray.empty, li .i64 0, ls ByteArray.empty, li .i64 0, ls ByteArray.empty, li .i64 0, ls ByteArray.empty])) :: ((6, some (.cells [li .i64 a1.ID, li .u8 1, li .i64 a1.At.X, li .i64 a1.At.Y, li .i64 0, ls ByteArray.empty, li .i64 0, ls ByteArray.empty, li .i64 0, ls ByteArray.empty, li .i64 0, ls ByteArray.empty])) :: [])))) (by kernel_rfl) (by kernel_rfl) (by kernel_rfl) ?_
    exact F19_j4_ok n a0 a1 1 a1.At.X a1.At.Y
  · refine Sim.skip ?_
    refine SimE.thenN ?_
    refine Sim.pre (ts := [2, 3, 4, 6]) (os := [2, 3, 4, 6]) [(2, .one (.ptr 2 0)), (3, .one (.ptr 3 0)), (4, .one (.ptr 4 0)), (6, .one (.ptr 6 0))] ((2, some (.cells [li .i64 a0.ID, li .i64 a0.At.X, li .i64 a0.At.Y, li .i64 a0.F.a0.N, ls a0.F.a0.Text, li .i64 a0.F.a1.N, ls a0.F.a1.Text, li .i64 a0.F.a2.N, ls a0.F.a2.Text, li .i64 a0.F.a3.N, ls a0.F.a3.Text])) :: ((3, some (.cells [li .i64 a1.ID, li .i64 a1.At.X, li .i64 a1.At.Y, li .i64 a1.F.a0.N, ls a1.F.a0.Text, li .i64 a1.F.a1.N, ls a1.F.a1.Text, li .i64 a1.F.a2.N, ls a1.F.a2.Text, li .i64 a1.F.a3.N, ls a1.F.a3.Text])) :: ((4, some (.cells [li .i64 0, li .u8 0, li .i64 0, li .i64 0, li .i64 0, ls ByteArray.empty, li .i64 0, ls ByteArray.empty, li .i64 0, ls ByteArray.empty, li .i64 0, ls ByteArray.empty])) :: ((6, some (.cells [li .i64 a1.ID, li .u8 0, li .i64 0, li .i64 0, li .i64 0, ls ByteArray.empty, li .i64 0, ls ByteArray.empty, li .i64 0, ls ByteArray.empty, li .i64 0, ls ByteArray.empty])) :: [])))) (by kernel_rfl) (by kernel_rfl) (by kernel_rfl) ?_
    exact F19_j4_ok n a0 a1 0 0 0


end Go.Proofs.Ythmbegagkgdopaa
