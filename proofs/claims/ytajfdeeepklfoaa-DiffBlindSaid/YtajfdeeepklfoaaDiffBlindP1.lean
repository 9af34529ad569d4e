/-
  Functions of the program as functions of Lean. No condition.
-/
import Derived.Test.YtajfdeeepklfoaaDiffBlindP0
namespace Go.Proofs.Ytajfdeeepklfoaa
open Go Go.Rx
set_option maxRecDepth 100000
set_option linter.unusedVariables false
set_option linter.unusedSimpArgs false
set_option linter.unnecessarySimpa false
-- 50: vedette/vedetteref6.Diff
def F50_e : (Delta × Bool) → PV × List (List Lf) := fun r => (.tup [.agg [li .i64 r.1.ID, li .u8 r.1.Mask, li .i64 r.1.At.X, li .i64 r.1.At.Y, li .i64 r.1.F.a0.N, ls r.1.F.a0.Text, li .i64 r.1.F.a1.N, ls r.1.F.a1.Text, li .i64 r.1.F.a2.N, ls r.1.F.a2.Text, li .i64 r.1.F.a3.N, ls r.1.F.a3.Text], .one (lb r.2)], [])
def F50_u20 (n : Nat) (a1 : Thing) (i2 : Int) (i3 : Int) (i6 : Int) (s7 : ByteArray) (i10 : Int) (s11 : ByteArray) (i14 : Int) (s15 : ByteArray) (i17 : Int) (i18 : Int) (s19 : ByteArray) : Option (Delta × Bool) :=
    some ((Delta.mk a1.ID i17 (Point.mk i2 i3) (A4.mk (Field.mk i6 s7) (Field.mk i10 s11) (Field.mk i14 s15) (Field.mk i18 s19))), i17 != 0)
theorem F50_u20_ok (n : Nat) (a0 : Thing) (a1 : Thing) (i2 : Int) (i3 : Int) (i6 : Int) (s7 : ByteArray) (i10 : Int) (s11 : ByteArray) (i14 : Int) (s15 : ByteArray) (i17 : Int) (i18 : Int) (s19 : ByteArray) : SimL Try.prog D (n + 8) (n + 4) pc50_c24 [(2, .one (.ptr 2 0)), (3, .one (.ptr 3 0)), (4, .one (.ptr 4 0)), (6, .one (.ptr 6 0)), (7, .one (li .i64 4))] ((2, some (.cells [li .i64 a0.ID, li .i64 a0.At.X, li .i64 a0.At.Y, li .i64 a0.F.a0.N, ls a0.F.a0.Text, li .i64 a0.F.a1.N, ls a0.F.a1.Text, li .i64 a0.F.a2.N, ls a0.F.a2.Text, li .i64 a0.F.a3.N, ls a0.F.a3.Text])) :: ((3, some (.cells [li .i64 a1.ID, li .i64 a1.At.X, li .i64 a1.At.Y, li .i64 a1.F.a0.N, ls a1.F.a0.Text, li .i64 a1.F.a1.N, ls a1.F.a1.Text, li .i64 a1.F.a2.N, ls a1.F.a2.Text, li .i64 a1.F.a3.N, ls a1.F.a3.Text])) :: ((4, some (.cells [li .i64 0, li .u8 0, li .i64 0, li .i64 0, li .i64 0, ls ByteArray.empty, li .i64 0, ls ByteArray.empty, li .i64 0, ls ByteArray.empty, li .i64 0, ls ByteArray.empty])) :: ((6, some (.cells [li .i64 a1.ID, li .u8 i17, li .i64 i2, li .i64 i3, li .i64 i6, ls s7, li .i64 i10, ls s11, li .i64 i14, ls s15, li .i64 i18, ls s19])) :: [])))) (F50_u20 n a1 i2 i3 i6 s7 i10 s11 i14 s15 i17 i18 s19) (QB 0 (QT Try.prog D (n + 8) pc50_c30 (QF pc50_r 0 F50_e))) := by
    unfold F50_u20
    refine SimL.succ ?_
    refine Sim.seq ?_
    refine Sim.seq ?_
    refine Sim.region [(2, .one (.ptr 2 0)), (3, .one (.ptr 3 0)), (4, .one (.ptr 4 0)), (6, .one (.ptr 6 0)), (7, .one (li .i64 4))] ((2, some (.cells [li .i64 a0.ID, li .i64 a0.At.X, li .i64 a0.At.Y, li .i64 a0.F.a0.N, ls a0.F.a0.Text, li .i64 a0.F.a1.N, ls a0.F.a1.Text, li .i64 a0.F.a2.N, ls a0.F.a2.Text, li .i64 a0.F.a3.N, ls a0.F.a3.Text])) :: ((3, some (.cells [li .i64 a1.ID, li .i64 a1.At.X, li .i64 a1.At.Y, li .i64 a1.F.a0.N, ls a1.F.a0.Text, li .i64 a1.F.a1.N, ls a1.F.a1.Text, li .i64 a1.F.a2.N, ls a1.F.a2.Text, li .i64 a1.F.a3.N, ls a1.F.a3.Text])) :: ((4, some (.cells [li .i64 0, li .u8 0, li .i64 0, li .i64 0, li .i64 0, ls ByteArray.empty, li .i64 0, ls ByteArray.empty, li .i64 0, ls ByteArray.empty, li .i64 0, ls ByteArray.empty])) :: ((6, some (.cells [li .i64 a1.ID, li .u8 i17, li .i64 i2, li .i64 i3, li .i64 i6, ls s7, li .i64 i10, ls s11, li .i64 i14, ls s15, li .i64 i18, ls s19])) :: [])))) (by kernel_rfl) ?_
    refine SimI.run 2 [(21, .one (lb false)), (20, .one (li .i64 4))] [] (by kernel_rfl) ?_
    refine SimI.done (by kernel_rfl) ?_
    refine SimE.thenN ?_
    refine Sim.condF (by kernel_rfl) ?_
    refine Sim.exit ?_
    refine SimE.thenX ?_
    refine SimE.loopX ?_
    refine SimE.blockX ?_
    refine SimE.thenN ?_
    refine Sim.seq ?_
    refine Sim.region0 ?_
    refine SimI.run 6 [(5, .one (lb (i17 != 0))), (50, .one (lb (i17 != 0))), (49, .one (li .u8 i17)), (48, .one (.ptr 6 1)), (47, .agg [li .i64 a1.ID, li .u8 i17, li .i64 i2, li .i64 i3, li .i64 i6, ls s7, li .i64 i10, ls s11, li .i64 i14, ls s15, li .i64 i18, ls s19])] [(4, some (.cells [li .i64 a1.ID, li .u8 i17, li .i64 i2, li .i64 i3, li .i64 i6, ls s7, li .i64 i10, ls s11, li .i64 i14, ls s15, li .i64 i18, ls s19]))] (by kernel_rfl) ?_
    refine SimI.done (by kernel_rfl) ?_
    refine SimE.thenN ?_
    refine Sim.ret ?_
    exact SimE.fin (by kernel_rfl)

def F50_u16 (n : Nat) (a0 : Thing) (a1 : Thing) (i2 : Int) (i3 : Int) (i6 : Int) (s7 : ByteArray) (i10 : Int) (s11 : ByteArray) (i13 : Int) (i14 : Int) (s15 : ByteArray) : Option (Delta × Bool) :=
    if !(Field.eqb a0.F.a3 a1.F.a3) then
      F50_u20 n a1 i2 i3 i6 s7 i10 s11 i14 s15 (bitsI .or .u8 i13 (shlI .u8 2 3)) a1.F.a3.N a1.F.a3.Text
    else
      F50_u20 n a1 i2 i3 i6 s7 i10 s11 i14 s15 i13 0 ByteArray.empty
theorem F50_u16_ok (n : Nat) (a0 : Thing) (a1 : Thing) (i2 : Int) (i3 : Int) (i6 : Int) (s7 : ByteArray) (i10 : Int) (s11 : ByteArray) (i13 : Int) (i14 : Int) (s15 : ByteArray) : SimL Try.prog D (n + 8) (n + 5) pc50_c24 [(2, .one (.ptr 2 0)), (3, .one (.ptr 3 0)), (4, .one (.ptr 4 0)), (6, .one (.ptr 6 0)), (7, .one (li .i64 3))] ((2, some (.cells [li .i64 a0.ID, li .i64 a0.At.X, li .i64 a0.At.Y, li .i64 a0.F.a0.N, ls a0.F.a0.Text, li .i64 a0.F.a1.N, ls a0.F.a1.Text, li .i64 a0.F.a2.N, ls a0.F.a2.Text, li .i64 a0.F.a3.N, ls a0.F.a3.Text])) :: ((3, some (.cells [li .i64 a1.ID, li .i64 a1.At.X, li .i64 a1.At.Y, li .i64 a1.F.a0.N, ls a1.F.a0.Text, li .i64 a1.F.a1.N, ls a1.F.a1.Text, li .i64 a1.F.a2.N, ls a1.F.a2.Text, li .i64 a1.F.a3.N, ls a1.F.a3.Text])) :: ((4, some (.cells [li .i64 0, li .u8 0, li .i64 0, li .i64 0, li .i64 0, ls ByteArray.empty, li .i64 0, ls ByteArray.empty, li .i64 0, ls ByteArray.empty, li .i64 0, ls ByteArray.empty])) :: ((6, some (.cells [li .i64 a1.ID, li .u8 i13, li .i64 i2, li .i64 i3, li .i64 i6, ls s7, li .i64 i10, ls s11, li .i64 i14, ls s15, li .i64 0, ls ByteArray.empty])) :: [])))) (F50_u16 n a0 a1 i2 i3 i6 s7 i10 s11 i13 i14 s15) (QB 0 (QT Try.prog D (n + 8) pc50_c30 (QF pc50_r 0 F50_e))) := by
    unfold F50_u16
    refine SimL.succ ?_
    refine Sim.seq ?_
    refine Sim.seq ?_
    refine Sim.region [(2, .one (.ptr 2 0)), (3, .one (.ptr 3 0)), (4, .one (.ptr 4 0)), (6, .one (.ptr 6 0)), (7, .one (li .i64 3))] ((2, some (.cells [li .i64 a0.ID, li .i64 a0.At.X, li .i64 a0.At.Y, li .i64 a0.F.a0.N, ls a0.F.a0.Text, li .i64 a0.F.a1.N, ls a0.F.a1.Text, li .i64 a0.F.a2.N, ls a0.F.a2.Text, li .i64 a0.F.a3.N, ls a0.F.a3.Text])) :: ((3, some (.cells [li .i64 a1.ID, li .i64 a1.At.X, li .i64 a1.At.Y, li .i64 a1.F.a0.N, ls a1.F.a0.Text, li .i64 a1.F.a1.N, ls a1.F.a1.Text, li .i64 a1.F.a2.N, ls a1.F.a2.Text, li .i64 a1.F.a3.N, ls a1.F.a3.Text])) :: ((4, some (.cells [li .i64 0, li .u8 0, li .i64 0, li .i64 0, li .i64 0, ls ByteArray.empty, li .i64 0, ls ByteArray.empty, li .i64 0, ls ByteArray.empty, li .i64 0, ls ByteArray.empty])) :: ((6, some (.cells [li .i64 a1.ID, li .u8 i13, li .i64 i2, li .i64 i3, li .i64 i6, ls s7, li .i64 i10, ls s11, li .i64 i14, ls s15, li .i64 0, ls ByteArray.empty])) :: [])))) (by kernel_rfl) ?_
    refine SimI.run 2 [(21, .one (lb true)), (20, .one (li .i64 3))] [] (by kernel_rfl) ?_
    refine SimI.done (by kernel_rfl) ?_
    refine SimE.thenN ?_
    refine Sim.condT (by kernel_rfl) ?_
    refine Sim.skip ?_
    refine SimE.thenN ?_
    refine Sim.seq ?_
    refine Sim.block ?_
    refine Sim.seq ?_
    refine Sim.region0 ?_
    refine SimI.run 8 [(31, .agg [li .i64 a1.F.a3.N, ls a1.F.a3.Text]), (30, .one (.ptr 3 9)), (29, .one (.ptr 3 3)), (28, .one (li .i64 3)), (27, .agg [li .i64 a0.F.a3.N, ls a0.F.a3.Text]), (26, .one (.ptr 2 9)), (25, .one (.ptr 2 3)), (24, .one (li .i64 3))] [] (by kernel_rfl) ?_
    refine SimI.step { dst := some 32, op := POp.prim (Prim.bin BinOp.neq 36 false false) [Operand.tmp 27, Operand.tmp 31], guard := none, hints := [(27, Hint.imm), (31, Hint.imm)] } [(32, .one (lb (!(Field.eqb a0.F.a3 a1.F.a3))))] [] (by kernel_rfl) (pOp_eff (by kernel_rfl) (by kernel_rfl) (eff_prim (by kernel_rfl) (Field_eqn a0.F.a3 a1.F.a3 _ _))) ?_
    refine SimI.done (by kernel_rfl) ?_
    refine SimE.thenN ?_
    refine Sim.cond (!(Field.eqb a0.F.a3 a1.F.a3)) (by kernel_rfl) ?_ ?_
    · refine Sim.seq ?_
      refine Sim.region0 ?_
      refine SimI.run 8 [(39, .one (.ptr 6 1)), (38, .one (li .u8 (bitsI .or .u8 i13 (shlI .u8 2 3)))), (37, .one (li .u8 (shlI .u8 2 3))), (36, .one (li .u64 3)), (35, .one (li .i64 3)), (34, .one (li .u8 i13)), (33, .one (.ptr 6 1))] [(6, some (.cells [li .i64 a1.ID, li .u8 (bitsI .or .u8 i13 (shlI .u8 2 3)), li .i64 i2, li .i64 i3, li .i64 i6, ls s7, li .i64 i10, ls s11, li .i64 i14, ls s15, li .i64 0, ls ByteArray.empty]))] (by kernel_rfl) ?_
      refine SimI.done (by kernel_rfl) ?_
      refine SimE.thenN ?_
      refine Sim.region0 ?_
      refine SimI.run 8 [(46, .one (.ptr 6 10)), (45, .one (.ptr 6 4)), (44, .agg [li .i64 a1.F.a3.N, ls a1.F.a3.Text]), (43, .one (.ptr 3 9)), (42, .one (.ptr 3 3)), (41, .one (li .i64 3)), (40, .one (li .i64 3))] [(6, some (.cells [li .i64 a1.ID, li .u8 (bitsI .or .u8 i13 (shlI .u8 2 3)), li .i64 i2, li .i64 i3, li .i64 i6, ls s7, li .i64 i10, ls s11, li .i64 i14, ls s15, li .i64 a1.F.a3.N, ls a1.F.a3.Text]))] (by kernel_rfl) ?_
      refine SimI.done (by kernel_rfl) ?_
      refine SimE.blockN ?_
      refine SimE.thenN ?_
      refine Sim.region0 ?_
      refine SimI.run 3 [(7, .one (li .i64 4)), (23, .one (li .i64 4)), (22, .one (li .i64 3))] [] (by kernel_rfl) ?_
      refine SimI.done (by kernel_rfl) ?_
      refine SimE.loopN ?_
      refine SimL.pre (ts := [2, 3, 4, 6, 7]) (os := [2, 3, 4, 6]) [(2, .one (.ptr 2 0)), (3, .one (.ptr 3 0)), (4, .one (.ptr 4 0)), (6, .one (.ptr 6 0)), (7, .one (li .i64 4))] ((2, some (.cells [li .i64 a0.ID, li .i64 a0.At.X, li .i64 a0.At.Y, li .i64 a0.F.a0.N, ls a0.F.a0.Text, li .i64 a0.F.a1.N, ls a0.F.a1.Text, li .i64 a0.F.a2.N, ls a0.F.a2.Text, li .i64 a0.F.a3.N, ls a0.F.a3.Text])) :: ((3, some (.cells [li .i64 a1.ID, li .i64 a1.At.X, li .i64 a1.At.Y, li .i64 a1.F.a0.N, ls a1.F.a0.Text, li .i64 a1.F.a1.N, ls a1.F.a1.Text, li .i64 a1.F.a2.N, ls a1.F.a2.Text, li .i64 a1.F.a3.N, ls a1.F.a3.Text])) :: ((4, some (.cells [li .i64 0, li .u8 0, li .i64 0, li .i64 0, li .i64 0, ls ByteArray.empty, li .i64 0, ls ByteArray.empty, li .i64 0, ls ByteArray.empty, li .i64 0, ls ByteArray.empty])) :: ((6, some (.cells [li .i64 a1.ID, li .u8 (bitsI .or .u8 i13 (shlI .u8 2 3)), li .i64 i2, li .i64 i3, li .i64 i6, ls s7, li .i64 i10, ls s11, li .i64 i14, ls s15, li .i64 a1.F.a3.N, ls a1.F.a3.Text])) :: [])))) (by kernel_rfl) (by kernel_rfl) (by kernel_rfl) ?_
      exact F50_u20_ok n a0 a1 i2 i3 i6 s7 i10 s11 i14 s15 (bitsI .or .u8 i13 (shlI .u8 2 3)) a1.F.a3.N a1.F.a3.Text
    · refine Sim.skip ?_
      refine SimE.blockN ?_
      refine SimE.thenN ?_
      refine Sim.region0 ?_
      refine SimI.run 3 [(7, .one (li .i64 4)), (23, .one (li .i64 4)), (22, .one (li .i64 3))] [] (by kernel_rfl) ?_
      refine SimI.done (by kernel_rfl) ?_
      refine SimE.loopN ?_
      refine SimL.pre (ts := [2, 3, 4, 6, 7]) (os := [2, 3, 4, 6]) [(2, .one (.ptr 2 0)), (3, .one (.ptr 3 0)), (4, .one (.ptr 4 0)), (6, .one (.ptr 6 0)), (7, .one (li .i64 4))] ((2, some (.cells [li .i64 a0.ID, li .i64 a0.At.X, li .i64 a0.At.Y, li .i64 a0.F.a0.N, ls a0.F.a0.Text, li .i64 a0.F.a1.N, ls a0.F.a1.Text, li .i64 a0.F.a2.N, ls a0.F.a2.Text, li .i64 a0.F.a3.N, ls a0.F.a3.Text])) :: ((3, some (.cells [li .i64 a1.ID, li .i64 a1.At.X, li .i64 a1.At.Y, li .i64 a1.F.a0.N, ls a1.F.a0.Text, li .i64 a1.F.a1.N, ls a1.F.a1.Text, li .i64 a1.F.a2.N, ls a1.F.a2.Text, li .i64 a1.F.a3.N, ls a1.F.a3.Text])) :: ((4, some (.cells [li .i64 0, li .u8 0, li .i64 0, li .i64 0, li .i64 0, ls ByteArray.empty, li .i64 0, ls ByteArray.empty, li .i64 0, ls ByteArray.empty, li .i64 0, ls ByteArray.empty])) :: ((6, some (.cells [li .i64 a1.ID, li .u8 i13, li .i64 i2, li .i64 i3, li .i64 i6, ls s7, li .i64 i10, ls s11, li .i64 i14, ls s15, li .i64 0, ls ByteArray.empty])) :: [])))) (by kernel_rfl) (by kernel_rfl) (by kernel_rfl) ?_
      exact F50_u20_ok n a0 a1 i2 i3 i6 s7 i10 s11 i14 s15 i13 0 ByteArray.empty

def F50_u12 (n : Nat) (a0 : Thing) (a1 : Thing) (i2 : Int) (i3 : Int) (i6 : Int) (s7 : ByteArray) (i9 : Int) (i10 : Int) (s11 : ByteArray) : Option (Delta × Bool) :=
    if !(Field.eqb a0.F.a2 a1.F.a2) then
      F50_u16 n a0 a1 i2 i3 i6 s7 i10 s11 (bitsI .or .u8 i9 (shlI .u8 2 2)) a1.F.a2.N a1.F.a2.Text
    else
      F50_u16 n a0 a1 i2 i3 i6 s7 i10 s11 i9 0 ByteArray.empty
theorem F50_u12_ok (n : Nat) (a0 : Thing) (a1 : Thing) (i2 : Int) (i3 : Int) (i6 : Int) (s7 : ByteArray) (i9 : Int) (i10 : Int) (s11 : ByteArray) : SimL Try.prog D (n + 8) (n + 6) pc50_c24 [(2, .one (.ptr 2 0)), (3, .one (.ptr 3 0)), (4, .one (.ptr 4 0)), (6, .one (.ptr 6 0)), (7, .one (li .i64 2))] ((2, some (.cells [li .i64 a0.ID, li .i64 a0.At.X, li .i64 a0.At.Y, li .i64 a0.F.a0.N, ls a0.F.a0.Text, li .i64 a0.F.a1.N, ls a0.F.a1.Text, li .i64 a0.F.a2.N, ls a0.F.a2.Text, li .i64 a0.F.a3.N, ls a0.F.a3.Text])) :: ((3, some (.cells [li .i64 a1.ID, li .i64 a1.At.X, li .i64 a1.At.Y, li .i64 a1.F.a0.N, ls a1.F.a0.Text, li .i64 a1.F.a1.N, ls a1.F.a1.Text, li .i64 a1.F.a2.N, ls a1.F.a2.Text, li .i64 a1.F.a3.N, ls a1.F.a3.Text])) :: ((4, some (.cells [li .i64 0, li .u8 0, li .i64 0, li .i64 0, li .i64 0, ls ByteArray.empty, li .i64 0, ls ByteArray.empty, li .i64 0, ls ByteArray.empty, li .i64 0, ls ByteArray.empty])) :: ((6, some (.cells [li .i64 a1.ID, li .u8 i9, li .i64 i2, li .i64 i3, li .i64 i6, ls s7, li .i64 i10, ls s11, li .i64 0, ls ByteArray.empty, li .i64 0, ls ByteArray.empty])) :: [])))) (F50_u12 n a0 a1 i2 i3 i6 s7 i9 i10 s11) (QB 0 (QT Try.prog D (n + 8) pc50_c30 (QF pc50_r 0 F50_e))) := by
    unfold F50_u12
    refine SimL.succ ?_
    refine Sim.seq ?_
    refine Sim.seq ?_
    refine Sim.region [(2, .one (.ptr 2 0)), (3, .one (.ptr 3 0)), (4, .one (.ptr 4 0)), (6, .one (.ptr 6 0)), (7, .one (li .i64 2))] ((2, some (.cells [li .i64 a0.ID, li .i64 a0.At.X, li .i64 a0.At.Y, li .i64 a0.F.a0.N, ls a0.F.a0.Text, li .i64 a0.F.a1.N, ls a0.F.a1.Text, li .i64 a0.F.a2.N, ls a0.F.a2.Text, li .i64 a0.F.a3.N, ls a0.F.a3.Text])) :: ((3, some (.cells [li .i64 a1.ID, li .i64 a1.At.X, li .i64 a1.At.Y, li .i64 a1.F.a0.N, ls a1.F.a0.Text, li .i64 a1.F.a1.N, ls a1.F.a1.Text, li .i64 a1.F.a2.N, ls a1.F.a2.Text, li .i64 a1.F.a3.N, ls a1.F.a3.Text])) :: ((4, some (.cells [li .i64 0, li .u8 0, li .i64 0, li .i64 0, li .i64 0, ls ByteArray.empty, li .i64 0, ls ByteArray.empty, li .i64 0, ls ByteArray.empty, li .i64 0, ls ByteArray.empty])) :: ((6, some (.cells [li .i64 a1.ID, li .u8 i9, li .i64 i2, li .i64 i3, li .i64 i6, ls s7, li .i64 i10, ls s11, li .i64 0, ls ByteArray.empty, li .i64 0, ls ByteArray.empty])) :: [])))) (by kernel_rfl) ?_
    refine SimI.run 2 [(21, .one (lb true)), (20, .one (li .i64 2))] [] (by kernel_rfl) ?_
    refine SimI.done (by kernel_rfl) ?_
    refine SimE.thenN ?_
    refine Sim.condT (by kernel_rfl) ?_
    refine Sim.skip ?_
    refine SimE.thenN ?_
    refine Sim.seq ?_
    refine Sim.block ?_
    refine Sim.seq ?_
    refine Sim.region0 ?_
    refine SimI.run 8 [(31, .agg [li .i64 a1.F.a2.N, ls a1.F.a2.Text]), (30, .one (.ptr 3 7)), (29, .one (.ptr 3 3)), (28, .one (li .i64 2)), (27, .agg [li .i64 a0.F.a2.N, ls a0.F.a2.Text]), (26, .one (.ptr 2 7)), (25, .one (.ptr 2 3)), (24, .one (li .i64 2))] [] (by kernel_rfl) ?_
    refine SimI.step { dst := some 32, op := POp.prim (Prim.bin BinOp.neq 36 false false) [Operand.tmp 27, Operand.tmp 31], guard := none, hints := [(27, Hint.imm), (31, Hint.imm)] } [(32, .one (lb (!(Field.eqb a0.F.a2 a1.F.a2))))] [] (by kernel_rfl) (pOp_eff (by kernel_rfl) (by kernel_rfl) (eff_prim (by kernel_rfl) (Field_eqn a0.F.a2 a1.F.a2 _ _))) ?_
    refine SimI.done (by kernel_rfl) ?_
    refine SimE.thenN ?_
    refine Sim.cond (!(Field.eqb a0.F.a2 a1.F.a2)) (by kernel_rfl) ?_ ?_
    · refine Sim.seq ?_
      refine Sim.region0 ?_
      refine SimI.run 8 [(39, .one (.ptr 6 1)), (38, .one (li .u8 (bitsI .or .u8 i9 (shlI .u8 2 2)))), (37, .one (li .u8 (shlI .u8 2 2))), (36, .one (li .u64 2)), (35, .one (li .i64 2)), (34, .one (li .u8 i9)), (33, .one (.ptr 6 1))] [(6, some (.cells [li .i64 a1.ID, li .u8 (bitsI .or .u8 i9 (shlI .u8 2 2)), li .i64 i2, li .i64 i3, li .i64 i6, ls s7, li .i64 i10, ls s11, li .i64 0, ls ByteArray.empty, li .i64 0, ls ByteArray.empty]))] (by kernel_rfl) ?_
      refine SimI.done (by kernel_rfl) ?_
      refine SimE.thenN ?_
      refine Sim.region0 ?_
      refine SimI.run 8 [(46, .one (.ptr 6 8)), (45, .one (.ptr 6 4)), (44, .agg [li .i64 a1.F.a2.N, ls a1.F.a2.Text]), (43, .one (.ptr 3 7)), (42, .one (.ptr 3 3)), (41, .one (li .i64 2)), (40, .one (li .i64 2))] [(6, some (.cells [li .i64 a1.ID, li .u8 (bitsI .or .u8 i9 (shlI .u8 2 2)), li .i64 i2, li .i64 i3, li .i64 i6, ls s7, li .i64 i10, ls s11, li .i64 a1.F.a2.N, ls a1.F.a2.Text, li .i64 0, ls ByteArray.empty]))] (by kernel_rfl) ?_
      refine SimI.done (by kernel_rfl) ?_
      refine SimE.blockN ?_
      refine SimE.thenN ?_
      refine Sim.region0 ?_
      refine SimI.run 3 [(7, .one (li .i64 3)), (23, .one (li .i64 3)), (22, .one (li .i64 2))] [] (by kernel_rfl) ?_
      refine SimI.done (by kernel_rfl) ?_
      refine SimE.loopN ?_
      refine SimL.pre (ts := [2, 3, 4, 6, 7]) (os := [2, 3, 4, 6]) [(2, .one (.ptr 2 0)), (3, .one (.ptr 3 0)), (4, .one (.ptr 4 0)), (6, .one (.ptr 6 0)), (7, .one (li .i64 3))] ((2, some (.cells [li .i64 a0.ID, li .i64 a0.At.X, li .i64 a0.At.Y, li .i64 a0.F.a0.N, ls a0.F.a0.Text, li .i64 a0.F.a1.N, ls a0.F.a1.Text, li .i64 a0.F.a2.N, ls a0.F.a2.Text, li .i64 a0.F.a3.N, ls a0.F.a3.Text])) :: ((3, some (.cells [li .i64 a1.ID, li .i64 a1.At.X, li .i64 a1.At.Y, li .i64 a1.F.a0.N, ls a1.F.a0.Text, li .i64 a1.F.a1.N, ls a1.F.a1.Text, li .i64 a1.F.a2.N, ls a1.F.a2.Text, li .i64 a1.F.a3.N, ls a1.F.a3.Text])) :: ((4, some (.cells [li .i64 0, li .u8 0, li .i64 0, li .i64 0, li .i64 0, ls ByteArray.empty, li .i64 0, ls ByteArray.empty, li .i64 0, ls ByteArray.empty, li .i64 0, ls ByteArray.empty])) :: ((6, some (.cells [li .i64 a1.ID, li .u8 (bitsI .or .u8 i9 (shlI .u8 2 2)), li .i64 i2, li .i64 i3, li .i64 i6, ls s7, li .i64 i10, ls s11, li .i64 a1.F.a2.N, ls a1.F.a2.Text, li .i64 0, ls ByteArray.empty])) :: [])))) (by kernel_rfl) (by kernel_rfl) (by kernel_rfl) ?_
      exact F50_u16_ok n a0 a1 i2 i3 i6 s7 i10 s11 (bitsI .or .u8 i9 (shlI .u8 2 2)) a1.F.a2.N a1.F.a2.Text
    · refine Sim.skip ?_
      refine SimE.blockN ?_
      refine SimE.thenN ?_
      refine Sim.region0 ?_
      refine SimI.run 3 [(7, .one (li .i64 3)), (23, .one (li .i64 3)), (22, .one (li .i64 2))] [] (by kernel_rfl) ?_
      refine SimI.done (by kernel_rfl) ?_
      refine SimE.loopN ?_
      refine SimL.pre (ts := [2, 3, 4, 6, 7]) (os := [2, 3, 4, 6]) [(2, .one (.ptr 2 0)), (3, .one (.ptr 3 0)), (4, .one (.ptr 4 0)), (6, .one (.ptr 6 0)), (7, .one (li .i64 3))] ((2, some (.cells [li .i64 a0.ID, li .i64 a0.At.X, li .i64 a0.At.Y, li .i64 a0.F.a0.N, ls a0.F.a0.Text, li .i64 a0.F.a1.N, ls a0.F.a1.Text, li .i64 a0.F.a2.N, ls a0.F.a2.Text, li .i64 a0.F.a3.N, ls a0.F.a3.Text])) :: ((3, some (.cells [li .i64 a1.ID, li .i64 a1.At.X, li .i64 a1.At.Y, li .i64 a1.F.a0.N, ls a1.F.a0.Text, li .i64 a1.F.a1.N, ls a1.F.a1.Text, li .i64 a1.F.a2.N, ls a1.F.a2.Text, li .i64 a1.F.a3.N, ls a1.F.a3.Text])) :: ((4, some (.cells [li .i64 0, li .u8 0, li .i64 0, li .i64 0, li .i64 0, ls ByteArray.empty, li .i64 0, ls ByteArray.empty, li .i64 0, ls ByteArray.empty, li .i64 0, ls ByteArray.empty])) :: ((6, some (.cells [li .i64 a1.ID, li .u8 i9, li .i64 i2, li .i64 i3, li .i64 i6, ls s7, li .i64 i10, ls s11, li .i64 0, ls ByteArray.empty, li .i64 0, ls ByteArray.empty])) :: [])))) (by kernel_rfl) (by kernel_rfl) (by kernel_rfl) ?_
      exact F50_u16_ok n a0 a1 i2 i3 i6 s7 i10 s11 i9 0 ByteArray.empty

def F50_u8 (n : Nat) (a0 : Thing) (a1 : Thing) (i2 : Int) (i3 : Int) (i5 : Int) (i6 : Int) (s7 : ByteArray) : Option (Delta × Bool) :=
    if !(Field.eqb a0.F.a1 a1.F.a1) then
      F50_u12 n a0 a1 i2 i3 i6 s7 (bitsI .or .u8 i5 (shlI .u8 2 1)) a1.F.a1.N a1.F.a1.Text
    else
      F50_u12 n a0 a1 i2 i3 i6 s7 i5 0 ByteArray.empty
theorem F50_u8_ok (n : Nat) (a0 : Thing) (a1 : Thing) (i2 : Int) (i3 : Int) (i5 : Int) (i6 : Int) (s7 : ByteArray) : SimL Try.prog D (n + 8) (n + 7) pc50_c24 [(2, .one (.ptr 2 0)), (3, .one (.ptr 3 0)), (4, .one (.ptr 4 0)), (6, .one (.ptr 6 0)), (7, .one (li .i64 1))] ((2, some (.cells [li .i64 a0.ID, li .i64 a0.At.X, li .i64 a0.At.Y, li .i64 a0.F.a0.N, ls a0.F.a0.Text, li .i64 a0.F.a1.N, ls a0.F.a1.Text, li .i64 a0.F.a2.N, ls a0.F.a2.Text, li .i64 a0.F.a3.N, ls a0.F.a3.Text])) :: ((3, some (.cells [li .i64 a1.ID, li .i64 a1.At.X, li .i64 a1.At.Y, li .i64 a1.F.a0.N, ls a1.F.a0.Text, li .i64 a1.F.a1.N, ls a1.F.a1.Text, li .i64 a1.F.a2.N, ls a1.F.a2.Text, li .i64 a1.F.a3.N, ls a1.F.a3.Text])) :: ((4, some (.cells [li .i64 0, li .u8 0, li .i64 0, li .i64 0, li .i64 0, ls ByteArray.empty, li .i64 0, ls ByteArray.empty, li .i64 0, ls ByteArray.empty, li .i64 0, ls ByteArray.empty])) :: ((6, some (.cells [li .i64 a1.ID, li .u8 i5, li .i64 i2, li .i64 i3, li .i64 i6, ls s7, li .i64 0, ls ByteArray.empty, li .i64 0, ls ByteArray.empty, li .i64 0, ls ByteArray.empty])) :: [])))) (F50_u8 n a0 a1 i2 i3 i5 i6 s7) (QB 0 (QT Try.prog D (n + 8) pc50_c30 (QF pc50_r 0 F50_e))) := by
    unfold F50_u8
    refine SimL.succ ?_
    refine Sim.seq ?_
    refine Sim.seq ?_
    refine Sim.region [(2, .one (.ptr 2 0)), (3, .one (.ptr 3 0)), (4, .one (.ptr 4 0)), (6, .one (.ptr 6 0)), (7, .one (li .i64 1))] ((2, some (.cells [li .i64 a0.ID, li .i64 a0.At.X, li .i64 a0.At.Y, li .i64 a0.F.a0.N, ls a0.F.a0.Text, li .i64 a0.F.a1.N, ls a0.F.a1.Text, li .i64 a0.F.a2.N, ls a0.F.a2.Text, li .i64 a0.F.a3.N, ls a0.F.a3.Text])) :: ((3, some (.cells [li .i64 a1.ID, li .i64 a1.At.X, li .i64 a1.At.Y, li .i64 a1.F.a0.N, ls a1.F.a0.Text, li .i64 a1.F.a1.N, ls a1.F.a1.Text, li .i64 a1.F.a2.N, ls a1.F.a2.Text, li .i64 a1.F.a3.N, ls a1.F.a3.Text])) :: ((4, some (.cells [li .i64 0, li .u8 0, li .i64 0, li .i64 0, li .i64 0, ls ByteArray.empty, li .i64 0, ls ByteArray.empty, li .i64 0, ls ByteArray.empty, li .i64 0, ls ByteArray.empty])) :: ((6, some (.cells [li .i64 a1.ID, li .u8 i5, li .i64 i2, li .i64 i3, li .i64 i6, ls s7, li .i64 0, ls ByteArray.empty, li .i64 0, ls ByteArray.empty, li .i64 0, ls ByteArray.empty])) :: [])))) (by kernel_rfl) ?_
    refine SimI.run 2 [(21, .one (lb true)), (20, .one (li .i64 1))] [] (by kernel_rfl) ?_
    refine SimI.done (by kernel_rfl) ?_
    refine SimE.thenN ?_
    refine Sim.condT (by kernel_rfl) ?_
    refine Sim.skip ?_
    refine SimE.thenN ?_
    refine Sim.seq ?_
    refine Sim.block ?_
    refine Sim.seq ?_
    refine Sim.region0 ?_
    refine SimI.run 8 [(31, .agg [li .i64 a1.F.a1.N, ls a1.F.a1.Text]), (30, .one (.ptr 3 5)), (29, .one (.ptr 3 3)), (28, .one (li .i64 1)), (27, .agg [li .i64 a0.F.a1.N, ls a0.F.a1.Text]), (26, .one (.ptr 2 5)), (25, .one (.ptr 2 3)), (24, .one (li .i64 1))] [] (by kernel_rfl) ?_
    refine SimI.step { dst := some 32, op := POp.prim (Prim.bin BinOp.neq 36 false false) [Operand.tmp 27, Operand.tmp 31], guard := none, hints := [(27, Hint.imm), (31, Hint.imm)] } [(32, .one (lb (!(Field.eqb a0.F.a1 a1.F.a1))))] [] (by kernel_rfl) (pOp_eff (by kernel_rfl) (by kernel_rfl) (eff_prim (by kernel_rfl) (Field_eqn a0.F.a1 a1.F.a1 _ _))) ?_
    refine SimI.done (by kernel_rfl) ?_
    refine SimE.thenN ?_
    refine Sim.cond (!(Field.eqb a0.F.a1 a1.F.a1)) (by kernel_rfl) ?_ ?_
    · refine Sim.seq ?_
      refine Sim.region0 ?_
      refine SimI.run 8 [(39, .one (.ptr 6 1)), (38, .one (li .u8 (bitsI .or .u8 i5 (shlI .u8 2 1)))), (37, .one (li .u8 (shlI .u8 2 1))), (36, .one (li .u64 1)), (35, .one (li .i64 1)), (34, .one (li .u8 i5)), (33, .one (.ptr 6 1))] [(6, some (.cells [li .i64 a1.ID, li .u8 (bitsI .or .u8 i5 (shlI .u8 2 1)), li .i64 i2, li .i64 i3, li .i64 i6, ls s7, li .i64 0, ls ByteArray.empty, li .i64 0, ls ByteArray.empty, li .i64 0, ls ByteArray.empty]))] (by kernel_rfl) ?_
      refine SimI.done (by kernel_rfl) ?_
      refine SimE.thenN ?_
      refine Sim.region0 ?_
      refine SimI.run 8 [(46, .one (.ptr 6 6)), (45, .one (.ptr 6 4)), (44, .agg [li .i64 a1.F.a1.N, ls a1.F.a1.Text]), (43, .one (.ptr 3 5)), (42, .one (.ptr 3 3)), (41, .one (li .i64 1)), (40, .one (li .i64 1))] [(6, some (.cells [li .i64 a1.ID, li .u8 (bitsI .or .u8 i5 (shlI .u8 2 1)), li .i64 i2, li .i64 i3, li .i64 i6, ls s7, li .i64 a1.F.a1.N, ls a1.F.a1.Text, li .i64 0, ls ByteArray.empty, li .i64 0, ls ByteArray.empty]))] (by kernel_rfl) ?_
      refine SimI.done (by kernel_rfl) ?_
      refine SimE.blockN ?_
      refine SimE.thenN ?_
      refine Sim.region0 ?_
      refine SimI.run 3 [(7, .one (li .i64 2)), (23, .one (li .i64 2)), (22, .one (li .i64 1))] [] (by kernel_rfl) ?_
      refine SimI.done (by kernel_rfl) ?_
      refine SimE.loopN ?_
      refine SimL.pre (ts := [2, 3, 4, 6, 7]) (os := [2, 3, 4, 6]) [(2, .one (.ptr 2 0)), (3, .one (.ptr 3 0)), (4, .one (.ptr 4 0)), (6, .one (.ptr 6 0)), (7, .one (li .i64 2))] ((2, some (.cells [li .i64 a0.ID, li .i64 a0.At.X, li .i64 a0.At.Y, li .i64 a0.F.a0.N, ls a0.F.a0.Text, li .i64 a0.F.a1.N, ls a0.F.a1.Text, li .i64 a0.F.a2.N, ls a0.F.a2.Text, li .i64 a0.F.a3.N, ls a0.F.a3.Text])) :: ((3, some (.cells [li .i64 a1.ID, li .i64 a1.At.X, li .i64 a1.At.Y, li .i64 a1.F.a0.N, ls a1.F.a0.Text, li .i64 a1.F.a1.N, ls a1.F.a1.Text, li .i64 a1.F.a2.N, ls a1.F.a2.Text, li .i64 a1.F.a3.N, ls a1.F.a3.Text])) :: ((4, some (.cells [li .i64 0, li .u8 0, li .i64 0, li .i64 0, li .i64 0, ls ByteArray.empty, li .i64 0, ls ByteArray.empty, li .i64 0, ls ByteArray.empty, li .i64 0, ls ByteArray.empty])) :: ((6, some (.cells [li .i64 a1.ID, li .u8 (bitsI .or .u8 i5 (shlI .u8 2 1)), li .i64 i2, li .i64 i3, li .i64 i6, ls s7, li .i64 a1.F.a1.N, ls a1.F.a1.Text, li .i64 0, ls ByteArray.empty, li .i64 0, ls ByteArray.empty])) :: [])))) (by kernel_rfl) (by kernel_rfl) (by kernel_rfl) ?_
      exact F50_u12_ok n a0 a1 i2 i3 i6 s7 (bitsI .or .u8 i5 (shlI .u8 2 1)) a1.F.a1.N a1.F.a1.Text
    · refine Sim.skip ?_
      refine SimE.blockN ?_
      refine SimE.thenN ?_
      refine Sim.region0 ?_
      refine SimI.run 3 [(7, .one (li .i64 2)), (23, .one (li .i64 2)), (22, .one (li .i64 1))] [] (by kernel_rfl) ?_
      refine SimI.done (by kernel_rfl) ?_
      refine SimE.loopN ?_
      refine SimL.pre (ts := [2, 3, 4, 6, 7]) (os := [2, 3, 4, 6]) [(2, .one (.ptr 2 0)), (3, .one (.ptr 3 0)), (4, .one (.ptr 4 0)), (6, .one (.ptr 6 0)), (7, .one (li .i64 2))] ((2, some (.cells [li .i64 a0.ID, li .i64 a0.At.X, li .i64 a0.At.Y, li .i64 a0.F.a0.N, ls a0.F.a0.Text, li .i64 a0.F.a1.N, ls a0.F.a1.Text, li .i64 a0.F.a2.N, ls a0.F.a2.Text, li .i64 a0.F.a3.N, ls a0.F.a3.Text])) :: ((3, some (.cells [li .i64 a1.ID, li .i64 a1.At.X, li .i64 a1.At.Y, li .i64 a1.F.a0.N, ls a1.F.a0.Text, li .i64 a1.F.a1.N, ls a1.F.a1.Text, li .i64 a1.F.a2.N, ls a1.F.a2.Text, li .i64 a1.F.a3.N, ls a1.F.a3.Text])) :: ((4, some (.cells [li .i64 0, li .u8 0, li .i64 0, li .i64 0, li .i64 0, ls ByteArray.empty, li .i64 0, ls ByteArray.empty, li .i64 0, ls ByteArray.empty, li .i64 0, ls ByteArray.empty])) :: ((6, some (.cells [li .i64 a1.ID, li .u8 i5, li .i64 i2, li .i64 i3, li .i64 i6, ls s7, li .i64 0, ls ByteArray.empty, li .i64 0, ls ByteArray.empty, li .i64 0, ls ByteArray.empty])) :: [])))) (by kernel_rfl) (by kernel_rfl) (by kernel_rfl) ?_
      exact F50_u12_ok n a0 a1 i2 i3 i6 s7 i5 0 ByteArray.empty

def F50_j4 (n : Nat) (a0 : Thing) (a1 : Thing) (i1 : Int) (i2 : Int) (i3 : Int) : Option (Delta × Bool) :=
    if !(Field.eqb a0.F.a0 a1.F.a0) then
      F50_u8 n a0 a1 i2 i3 (bitsI .or .u8 i1 (shlI .u8 2 0)) a1.F.a0.N a1.F.a0.Text
    else
      F50_u8 n a0 a1 i2 i3 i1 0 ByteArray.empty
theorem F50_j4_ok (n : Nat) (a0 : Thing) (a1 : Thing) (i1 : Int) (i2 : Int) (i3 : Int) : Sim Try.prog D (n + 8) pc50_c31 [(2, .one (.ptr 2 0)), (3, .one (.ptr 3 0)), (4, .one (.ptr 4 0)), (6, .one (.ptr 6 0))] ((2, some (.cells [li .i64 a0.ID, li .i64 a0.At.X, li .i64 a0.At.Y, li .i64 a0.F.a0.N, ls a0.F.a0.Text, li .i64 a0.F.a1.N, ls a0.F.a1.Text, li .i64 a0.F.a2.N, ls a0.F.a2.Text, li .i64 a0.F.a3.N, ls a0.F.a3.Text])) :: ((3, some (.cells [li .i64 a1.ID, li .i64 a1.At.X, li .i64 a1.At.Y, li .i64 a1.F.a0.N, ls a1.F.a0.Text, li .i64 a1.F.a1.N, ls a1.F.a1.Text, li .i64 a1.F.a2.N, ls a1.F.a2.Text, li .i64 a1.F.a3.N, ls a1.F.a3.Text])) :: ((4, some (.cells [li .i64 0, li .u8 0, li .i64 0, li .i64 0, li .i64 0, ls ByteArray.empty, li .i64 0, ls ByteArray.empty, li .i64 0, ls ByteArray.empty, li .i64 0, ls ByteArray.empty])) :: ((6, some (.cells [li .i64 a1.ID, li .u8 i1, li .i64 i2, li .i64 i3, li .i64 0, ls ByteArray.empty, li .i64 0, ls ByteArray.empty, li .i64 0, ls ByteArray.empty, li .i64 0, ls ByteArray.empty])) :: [])))) (F50_j4 n a0 a1 i1 i2 i3) (QF pc50_r 0 F50_e) := by
    unfold F50_j4
    refine Sim.seq ?_
    refine Sim.seq ?_
    refine Sim.region [(2, .one (.ptr 2 0)), (3, .one (.ptr 3 0)), (4, .one (.ptr 4 0)), (6, .one (.ptr 6 0))] ((2, some (.cells [li .i64 a0.ID, li .i64 a0.At.X, li .i64 a0.At.Y, li .i64 a0.F.a0.N, ls a0.F.a0.Text, li .i64 a0.F.a1.N, ls a0.F.a1.Text, li .i64 a0.F.a2.N, ls a0.F.a2.Text, li .i64 a0.F.a3.N, ls a0.F.a3.Text])) :: ((3, some (.cells [li .i64 a1.ID, li .i64 a1.At.X, li .i64 a1.At.Y, li .i64 a1.F.a0.N, ls a1.F.a0.Text, li .i64 a1.F.a1.N, ls a1.F.a1.Text, li .i64 a1.F.a2.N, ls a1.F.a2.Text, li .i64 a1.F.a3.N, ls a1.F.a3.Text])) :: ((4, some (.cells [li .i64 0, li .u8 0, li .i64 0, li .i64 0, li .i64 0, ls ByteArray.empty, li .i64 0, ls ByteArray.empty, li .i64 0, ls ByteArray.empty, li .i64 0, ls ByteArray.empty])) :: ((6, some (.cells [li .i64 a1.ID, li .u8 i1, li .i64 i2, li .i64 i3, li .i64 0, ls ByteArray.empty, li .i64 0, ls ByteArray.empty, li .i64 0, ls ByteArray.empty, li .i64 0, ls ByteArray.empty])) :: [])))) (by kernel_rfl) ?_
    refine SimI.run 1 [(7, .one (li .i64 0))] [] (by kernel_rfl) ?_
    refine SimI.done (by kernel_rfl) ?_
    refine SimE.thenN ?_
    refine Sim.block ?_
    refine Sim.loop ?_
    refine SimL.succ ?_
    refine Sim.seq ?_
    refine Sim.seq ?_
    refine Sim.region [(2, .one (.ptr 2 0)), (3, .one (.ptr 3 0)), (4, .one (.ptr 4 0)), (6, .one (.ptr 6 0)), (7, .one (li .i64 0))] ((2, some (.cells [li .i64 a0.ID, li .i64 a0.At.X, li .i64 a0.At.Y, li .i64 a0.F.a0.N, ls a0.F.a0.Text, li .i64 a0.F.a1.N, ls a0.F.a1.Text, li .i64 a0.F.a2.N, ls a0.F.a2.Text, li .i64 a0.F.a3.N, ls a0.F.a3.Text])) :: ((3, some (.cells [li .i64 a1.ID, li .i64 a1.At.X, li .i64 a1.At.Y, li .i64 a1.F.a0.N, ls a1.F.a0.Text, li .i64 a1.F.a1.N, ls a1.F.a1.Text, li .i64 a1.F.a2.N, ls a1.F.a2.Text, li .i64 a1.F.a3.N, ls a1.F.a3.Text])) :: ((4, some (.cells [li .i64 0, li .u8 0, li .i64 0, li .i64 0, li .i64 0, ls ByteArray.empty, li .i64 0, ls ByteArray.empty, li .i64 0, ls ByteArray.empty, li .i64 0, ls ByteArray.empty])) :: ((6, some (.cells [li .i64 a1.ID, li .u8 i1, li .i64 i2, li .i64 i3, li .i64 0, ls ByteArray.empty, li .i64 0, ls ByteArray.empty, li .i64 0, ls ByteArray.empty, li .i64 0, ls ByteArray.empty])) :: [])))) (by kernel_rfl) ?_
    refine SimI.run 2 [(21, .one (lb true)), (20, .one (li .i64 0))] [] (by kernel_rfl) ?_
    refine SimI.done (by kernel_rfl) ?_
    refine SimE.thenN ?_
    refine Sim.condT (by kernel_rfl) ?_
    refine Sim.skip ?_
    refine SimE.thenN ?_
    refine Sim.seq ?_
    refine Sim.block ?_
    refine Sim.seq ?_
    refine Sim.region0 ?_
    refine SimI.run 8 [(31, .agg [li .i64 a1.F.a0.N, ls a1.F.a0.Text]), (30, .one (.ptr 3 3)), (29, .one (.ptr 3 3)), (28, .one (li .i64 0)), (27, .agg [li .i64 a0.F.a0.N, ls a0.F.a0.Text]), (26, .one (.ptr 2 3)), (25, .one (.ptr 2 3)), (24, .one (li .i64 0))] [] (by kernel_rfl) ?_
    refine SimI.step { dst := some 32, op := POp.prim (Prim.bin BinOp.neq 36 false false) [Operand.tmp 27, Operand.tmp 31], guard := none, hints := [(27, Hint.imm), (31, Hint.imm)] } [(32, .one (lb (!(Field.eqb a0.F.a0 a1.F.a0))))] [] (by kernel_rfl) (pOp_eff (by kernel_rfl) (by kernel_rfl) (eff_prim (by kernel_rfl) (Field_eqn a0.F.a0 a1.F.a0 _ _))) ?_
    refine SimI.done (by kernel_rfl) ?_
    refine SimE.thenN ?_
    refine Sim.cond (!(Field.eqb a0.F.a0 a1.F.a0)) (by kernel_rfl) ?_ ?_
    · refine Sim.seq ?_
      refine Sim.region0 ?_
      refine SimI.run 8 [(39, .one (.ptr 6 1)), (38, .one (li .u8 (bitsI .or .u8 i1 (shlI .u8 2 0)))), (37, .one (li .u8 (shlI .u8 2 0))), (36, .one (li .u64 0)), (35, .one (li .i64 0)), (34, .one (li .u8 i1)), (33, .one (.ptr 6 1))] [(6, some (.cells [li .i64 a1.ID, li .u8 (bitsI .or .u8 i1 (shlI .u8 2 0)), li .i64 i2, li .i64 i3, li .i64 0, ls ByteArray.empty, li .i64 0, ls ByteArray.empty, li .i64 0, ls ByteArray.empty, li .i64 0, ls ByteArray.empty]))] (by kernel_rfl) ?_
      refine SimI.done (by kernel_rfl) ?_
      refine SimE.thenN ?_
      refine Sim.region0 ?_
      refine SimI.run 8 [(46, .one (.ptr 6 4)), (45, .one (.ptr 6 4)), (44, .agg [li .i64 a1.F.a0.N, ls a1.F.a0.Text]), (43, .one (.ptr 3 3)), (42, .one (.ptr 3 3)), (41, .one (li .i64 0)), (40, .one (li .i64 0))] [(6, some (.cells [li .i64 a1.ID, li .u8 (bitsI .or .u8 i1 (shlI .u8 2 0)), li .i64 i2, li .i64 i3, li .i64 a1.F.a0.N, ls a1.F.a0.Text, li .i64 0, ls ByteArray.empty, li .i64 0, ls ByteArray.empty, li .i64 0, ls ByteArray.empty]))] (by kernel_rfl) ?_
      refine SimI.done (by kernel_rfl) ?_
      refine SimE.blockN ?_
      refine SimE.thenN ?_
      refine Sim.region0 ?_
      refine SimI.run 3 [(7, .one (li .i64 1)), (23, .one (li .i64 1)), (22, .one (li .i64 0))] [] (by kernel_rfl) ?_
      refine SimI.done (by kernel_rfl) ?_
      refine SimE.loopN ?_
      refine SimL.pre (ts := [2, 3, 4, 6, 7]) (os := [2, 3, 4, 6]) [(2, .one (.ptr 2 0)), (3, .one (.ptr 3 0)), (4, .one (.ptr 4 0)), (6, .one (.ptr 6 0)), (7, .one (li .i64 1))] ((2, some (.cells [li .i64 a0.ID, li .i64 a0.At.X, li .i64 a0.At.Y, li .i64 a0.F.a0.N, ls a0.F.a0.Text, li .i64 a0.F.a1.N, ls a0.F.a1.Text, li .i64 a0.F.a2.N, ls a0.F.a2.Text, li .i64 a0.F.a3.N, ls a0.F.a3.Text])) :: ((3, some (.cells [li .i64 a1.ID, li .i64 a1.At.X, li .i64 a1.At.Y, li .i64 a1.F.a0.N, ls a1.F.a0.Text, li .i64 a1.F.a1.N, ls a1.F.a1.Text, li .i64 a1.F.a2.N, ls a1.F.a2.Text, li .i64 a1.F.a3.N, ls a1.F.a3.Text])) :: ((4, some (.cells [li .i64 0, li .u8 0, li .i64 0, li .i64 0, li .i64 0, ls ByteArray.empty, li .i64 0, ls ByteArray.empty, li .i64 0, ls ByteArray.empty, li .i64 0, ls ByteArray.empty])) :: ((6, some (.cells [li .i64 a1.ID, li .u8 (bitsI .or .u8 i1 (shlI .u8 2 0)), li .i64 i2, li .i64 i3, li .i64 a1.F.a0.N, ls a1.F.a0.Text, li .i64 0, ls ByteArray.empty, li .i64 0, ls ByteArray.empty, li .i64 0, ls ByteArray.empty])) :: [])))) (by kernel_rfl) (by kernel_rfl) (by kernel_rfl) ?_
      exact F50_u8_ok n a0 a1 i2 i3 (bitsI .or .u8 i1 (shlI .u8 2 0)) a1.F.a0.N a1.F.a0.Text
    · refine Sim.skip ?_
      refine SimE.blockN ?_
      refine SimE.thenN ?_
      refine Sim.region0 ?_
      refine SimI.run 3 [(7, .one (li .i64 1)), (23, .one (li .i64 1)), (22, .one (li .i64 0))] [] (by kernel_rfl) ?_
      refine SimI.done (by kernel_rfl) ?_
      refine SimE.loopN ?_
      refine SimL.pre (ts := [2, 3, 4, 6, 7]) (os := [2, 3, 4, 6]) [(2, .one (.ptr 2 0)), (3, .one (.ptr 3 0)), (4, .one (.ptr 4 0)), (6, .one (.ptr 6 0)), (7, .one (li .i64 1))] ((2, some (.cells [li .i64 a0.ID, li .i64 a0.At.X, li .i64 a0.At.Y, li .i64 a0.F.a0.N, ls a0.F.a0.Text, li .i64 a0.F.a1.N, ls a0.F.a1.Text, li .i64 a0.F.a2.N, ls a0.F.a2.Text, li .i64 a0.F.a3.N, ls a0.F.a3.Text])) :: ((3, some (.cells [li .i64 a1.ID, li .i64 a1.At.X, li .i64 a1.At.Y, li .i64 a1.F.a0.N, ls a1.F.a0.Text, li .i64 a1.F.a1.N, ls a1.F.a1.Text, li .i64 a1.F.a2.N, ls a1.F.a2.Text, li .i64 a1.F.a3.N, ls a1.F.a3.Text])) :: ((4, some (.cells [li .i64 0, li .u8 0, li .i64 0, li .i64 0, li .i64 0, ls ByteArray.empty, li .i64 0, ls ByteArray.empty, li .i64 0, ls ByteArray.empty, li .i64 0, ls ByteArray.empty])) :: ((6, some (.cells [li .i64 a1.ID, li .u8 i1, li .i64 i2, li .i64 i3, li .i64 0, ls ByteArray.empty, li .i64 0, ls ByteArray.empty, li .i64 0, ls ByteArray.empty, li .i64 0, ls ByteArray.empty])) :: [])))) (by kernel_rfl) (by kernel_rfl) (by kernel_rfl) ?_
      exact F50_u8_ok n a0 a1 i2 i3 i1 0 ByteArray.empty

def F50 (n : Nat) (a0 : Thing) (a1 : Thing) : Option (Delta × Bool) :=
  if !(Point.eqb a0.At a1.At) then
    F50_j4 n a0 a1 1 a1.At.X a1.At.Y
  else
    F50_j4 n a0 a1 0 0 0
theorem F50_ok (n : Nat) (a0 : Thing) (a1 : Thing) : ∀ r, F50 n a0 a1 = some r → D 50 [.agg [li .i64 a0.ID, li .i64 a0.At.X, li .i64 a0.At.Y, li .i64 a0.F.a0.N, ls a0.F.a0.Text, li .i64 a0.F.a1.N, ls a0.F.a1.Text, li .i64 a0.F.a2.N, ls a0.F.a2.Text, li .i64 a0.F.a3.N, ls a0.F.a3.Text], .agg [li .i64 a1.ID, li .i64 a1.At.X, li .i64 a1.At.Y, li .i64 a1.F.a0.N, ls a1.F.a0.Text, li .i64 a1.F.a1.N, ls a1.F.a1.Text, li .i64 a1.F.a2.N, ls a1.F.a2.Text, li .i64 a1.F.a3.N, ls a1.F.a3.Text]] [] = some (F50_e r) := by
  refine fn_to (D := D) (n := n + 8) (nt := 51) (rs := pc50_r) (c := pc50_c34) (L := [(0, .agg [li .i64 a0.ID, li .i64 a0.At.X, li .i64 a0.At.Y, li .i64 a0.F.a0.N, ls a0.F.a0.Text, li .i64 a0.F.a1.N, ls a0.F.a1.Text, li .i64 a0.F.a2.N, ls a0.F.a2.Text, li .i64 a0.F.a3.N, ls a0.F.a3.Text]), (1, .agg [li .i64 a1.ID, li .i64 a1.At.X, li .i64 a1.At.Y, li .i64 a1.F.a0.N, ls a1.F.a0.Text, li .i64 a1.F.a1.N, ls a1.F.a1.Text, li .i64 a1.F.a2.N, ls a1.F.a2.Text, li .i64 a1.F.a3.N, ls a1.F.a3.Text])]) (M := []) (k := 0) rfl rfl rfl rfl rfl rfl ?_
  unfold F50
  refine Sim.seq ?_
  refine Sim.region0 ?_
  refine SimI.run 4 [(5, .one (lb false)), (4, .one (.ptr 4 0)), (3, .one (.ptr 3 0)), (2, .one (.ptr 2 0))] [(4, some (.cells [li .i64 0, li .u8 0, li .i64 0, li .i64 0, li .i64 0, ls ByteArray.empty, li .i64 0, ls ByteArray.empty, li .i64 0, ls ByteArray.empty, li .i64 0, ls ByteArray.empty])), (3, some (.cells [li .i64 a1.ID, li .i64 a1.At.X, li .i64 a1.At.Y, li .i64 a1.F.a0.N, ls a1.F.a0.Text, li .i64 a1.F.a1.N, ls a1.F.a1.Text, li .i64 a1.F.a2.N, ls a1.F.a2.Text, li .i64 a1.F.a3.N, ls a1.F.a3.Text])), (2, some (.cells [li .i64 a0.ID, li .i64 a0.At.X, li .i64 a0.At.Y, li .i64 a0.F.a0.N, ls a0.F.a0.Text, li .i64 a0.F.a1.N, ls a0.F.a1.Text, li .i64 a0.F.a2.N, ls a0.F.a2.Text, li .i64 a0.F.a3.N, ls a0.F.a3.Text]))] (by kernel_rfl) ?_
  refine SimI.done (by kernel_rfl) ?_
  refine SimE.thenN ?_
  refine Sim.seq ?_
  refine Sim.region0 ?_
  refine SimI.run 5 [(6, .one (.ptr 6 0)), (10, .agg [li .i64 a1.ID, li .u8 0, li .i64 0, li .i64 0, li .i64 0, ls ByteArray.empty, li .i64 0, ls ByteArray.empty, li .i64 0, ls ByteArray.empty, li .i64 0, ls ByteArray.empty]), (9, .one (li .i64 a1.ID)), (8, .one (.ptr 3 0))] [(6, some (.cells [li .i64 a1.ID, li .u8 0, li .i64 0, li .i64 0, li .i64 0, ls ByteArray.empty, li .i64 0, ls ByteArray.empty, li .i64 0, ls ByteArray.empty, li .i64 0, ls ByteArray.empty])), (6, some (.cells [li .i64 0, li .u8 0, li .i64 0, li .i64 0, li .i64 0, ls ByteArray.empty, li .i64 0, ls ByteArray.empty, li .i64 0, ls ByteArray.empty, li .i64 0, ls ByteArray.empty]))] (by kernel_rfl) ?_
  refine SimI.done (by kernel_rfl) ?_
  refine SimE.thenN ?_
  refine Sim.seq ?_
  refine Sim.seq ?_
  refine Sim.region0 ?_
  refine SimI.run 4 [(14, .agg [li .i64 a1.At.X, li .i64 a1.At.Y]), (13, .one (.ptr 3 1)), (12, .agg [li .i64 a0.At.X, li .i64 a0.At.Y]), (11, .one (.ptr 2 1))] [] (by kernel_rfl) ?_
  refine SimI.step { dst := some 15, op := POp.prim (Prim.bin BinOp.neq 34 false false) [Operand.tmp 12, Operand.tmp 14], guard := none, hints := [] } [(15, .one (lb (!(Point.eqb a0.At a1.At))))] [] (by kernel_rfl) (pOp_eff (by kernel_rfl) (by kernel_rfl) (eff_prim (by kernel_rfl) (Point_eqn a0.At a1.At _ _))) ?_
  refine SimI.done (by kernel_rfl) ?_
  refine SimE.thenN ?_
  refine Sim.cond (!(Point.eqb a0.At a1.At)) (by kernel_rfl) ?_ ?_
  · refine Sim.region0 ?_
    refine SimI.run 6 [(19, .one (.ptr 6 2)), (18, .one (.ptr 6 1)), (17, .agg [li .i64 a1.At.X, li .i64 a1.At.Y]), (16, .one (.ptr 3 1))] [(6, some (.cells [li .i64 a1.ID, li .u8 1, li .i64 a1.At.X, li .i64 a1.At.Y, li .i64 0, ls ByteArray.empty, li .i64 0, ls ByteArray.empty, li .i64 0, ls ByteArray.empty, li .i64 0, ls ByteArray.empty])), (6, some (.cells [li .i64 a1.ID, li .u8 1, li .i64 0, li .i64 0, li .i64 0, ls ByteArray.empty, li .i64 0, ls ByteArray.empty, li .i64 0, ls ByteArray.empty, li .i64 0, ls ByteArray.empty]))] (by kernel_rfl) ?_
    refine SimI.done (by kernel_rfl) ?_
    refine SimE.thenN ?_
    refine Sim.pre (ts := [2, 3, 4, 6]) (os := [2, 3, 4, 6]) [(2, .one (.ptr 2 0)), (3, .one (.ptr 3 0)), (4, .one (.ptr 4 0)), (6, .one (.ptr 6 0))] ((2, some (.cells [li .i64 a0.ID, li .i64 a0.At.X, li .i64 a0.At.Y, li .i64 a0.F.a0.N, ls a0.F.a0.Text, li .i64 a0.F.a1.N, ls a0.F.a1.Text, li .i64 a0.F.a2.N, ls a0.F.a2.Text, li .i64 a0.F.a3.N, ls a0.F.a3.Text])) :: ((3, some (.cells [li .i64 a1.ID, li .i64 a1.At.X, li .i64 a1.At.Y, li .i64 a1.F.a0.N, ls a1.F.a0.Text, li .i64 a1.F.a1.N, ls a1.F.a1.Text, li .i64 a1.F.a2.N, ls a1.F.a2.Text, li .i64 a1.F.a3.N, ls a1.F.a3.Text])) :: ((4, some (.cells [li .i64 0, li .u8 0, li .i64 0, li .i64 0, li .i64 0, ls ByteArray.empty, li .i64 0, ls ByteArray.empty, li .i64 0, ls ByteArray.empty, li .i64 0, ls ByteArray.empty])) :: ((6, some (.cells [li .i64 a1.ID, li .u8 1, li .i64 a1.At.X, li .i64 a1.At.Y, li .i64 0, ls ByteArray.empty, li .i64 0, ls ByteArray.empty, li .i64 0, ls ByteArray.empty, li .i64 0, ls ByteArray.empty])) :: [])))) (by kernel_rfl) (by kernel_rfl) (by kernel_rfl) ?_
    exact F50_j4_ok n a0 a1 1 a1.At.X a1.At.Y
  · refine Sim.skip ?_
    refine SimE.thenN ?_
    refine Sim.pre (ts := [2, 3, 4, 6]) (os := [2, 3, 4, 6]) [(2, .one (.ptr 2 0)), (3, .one (.ptr 3 0)), (4, .one (.ptr 4 0)), (6, .one (.ptr 6 0))] ((2, some (.cells [li .i64 a0.ID, li .i64 a0.At.X, li .i64 a0.At.Y, li .i64 a0.F.a0.N, ls a0.F.a0.Text, li .i64 a0.F.a1.N, ls a0.F.a1.Text, li .i64 a0.F.a2.N, ls a0.F.a2.Text, li .i64 a0.F.a3.N, ls a0.F.a3.Text])) :: ((3, some (.cells [li .i64 a1.ID, li .i64 a1.At.X, li .i64 a1.At.Y, li .i64 a1.F.a0.N, ls a1.F.a0.Text, li .i64 a1.F.a1.N, ls a1.F.a1.Text, li .i64 a1.F.a2.N, ls a1.F.a2.Text, li .i64 a1.F.a3.N, ls a1.F.a3.Text])) :: ((4, some (.cells [li .i64 0, li .u8 0, li .i64 0, li .i64 0, li .i64 0, ls ByteArray.empty, li .i64 0, ls ByteArray.empty, li .i64 0, ls ByteArray.empty, li .i64 0, ls ByteArray.empty])) :: ((6, some (.cells [li .i64 a1.ID, li .u8 0, li .i64 0, li .i64 0, li .i64 0, ls ByteArray.empty, li .i64 0, ls ByteArray.empty, li .i64 0, ls ByteArray.empty, li .i64 0, ls ByteArray.empty])) :: [])))) (by kernel_rfl) (by kernel_rfl) (by kernel_rfl) ?_
    exact F50_j4_ok n a0 a1 0 0 0


-- 19: vedette/vedetteref15.Diff
def F19_e : (List Event) → PV × List (List Lf) := fun r => (.one (vw Event.cod r), [])
def F19_j23 (n : Nat) (r1 : (List Thing)) (i13 : Int) (i14 : Int) (rec_l15 : (List Event) → Int → Int → Option (List Event)) (l21 : (List Event)) : Option (List Event) :=
    (ix r1 i13).bind fun (x24 : Thing) =>
    if ((l21).length + 1) * 264 ≤ maxCells ∧ (l21).length + 1 ≤ maxCells then
      rec_l15 (l21 ++ [(Event.mk 3 x24.ID (Thing.mk 0 (Point.mk 0 0) (A4.mk (Field.mk 0 ByteArray.empty) (Field.mk 0 ByteArray.empty) (Field.mk 0 ByteArray.empty) (Field.mk 0 ByteArray.empty))) (Delta.mk 0 0 (Point.mk 0 0) (A4.mk (Field.mk 0 ByteArray.empty) (Field.mk 0 ByteArray.empty) (Field.mk 0 ByteArray.empty) (Field.mk 0 ByteArray.empty))))]) (IntKind.wrap .i64 (i13 + 1)) i14
    else none
theorem F19_j23_ok (n : Nat) (r1 : (List Thing)) (r2 : (List Thing)) (i13 : Int) (i14 : Int) (rec_l15 : (List Event) → Int → Int → Option (List Event)) (m_l15 : Nat) (ih_l15 : ∀ (l11 : (List Event)) (i13 : Int) (i14 : Int) (g12 : Nat), SimL Try.prog D (n + 8) m_l15 pc19_c35 [(9, .one (vw Thing.cod r1)), (10, .one (vw Thing.cod r2)), (11, .one (ownL 100011 g12 l11)), (12, .one (li .i64 i13)), (13, .one (li .i64 i14))] (ownM Event.cod 45 100011 g12 l11 []) (rec_l15 l11 i13 i14) (QB 0 (QT Try.prog D (n + 8) pc19_c40 (QF pc19_r 0 F19_e)))) (l21 : (List Event)) (g22 : Nat) : Sim Try.prog D (n + 8) pc19_c13 [(9, .one (vw Thing.cod r1)), (10, .one (vw Thing.cod r2)), (11, .one (ownL 100011 g22 l21)), (12, .one (li .i64 i13)), (13, .one (li .i64 i14))] (ownM Event.cod 45 100011 g22 l21 []) (F19_j23 n r1 i13 i14 rec_l15 l21) (QB 2 (QB 1 (QL Try.prog D (n + 8) m_l15 pc19_c35 (QB 0 (QT Try.prog D (n + 8) pc19_c40 (QF pc19_r 0 F19_e)))))) := by
    cases l21 with
    | nil =>
      unfold F19_j23
      refine Sim.seq ?_
      refine Sim.region [(9, .one (vw Thing.cod r1)), (10, .one (vw Thing.cod r2)), (11, .one (lnil)), (12, .one (li .i64 i13)), (13, .one (li .i64 i14))] [] (by kernel_rfl) ?_
      refine SimI.run 3 [(82, .one (li .i64 i13)), (81, .one (vw Thing.cod r1)), (80, .one (lnil))] [] (by kernel_rfl) ?_
      refine SimI.bind (og := ix r1 i13) { dst := some 83, op := POp.iaddrS 11 (Operand.tmp 81) (Operand.tmp 82), guard := none, hints := [] } (fun x24 => [(83, .one (.eptr (Thing.cod.enc x24) 0))]) (fun x24 => []) (by kernel_rfl) (fun x24 hr => pOp_eff (by kernel_rfl) (by kernel_rfl) (eff_idx (c := Thing.cod) (l := r1) (k := .i64) (n := i13) (by kernel_rfl) (by kernel_rfl) (by kernel_rfl) hr)) (fun x24 => ?_)
      refine SimI.run 4 [(87, .one (vw Event.cod [(Event.mk 3 x24.ID (Thing.mk 0 (Point.mk 0 0) (A4.mk (Field.mk 0 ByteArray.empty) (Field.mk 0 ByteArray.empty) (Field.mk 0 ByteArray.empty) (Field.mk 0 ByteArray.empty))) (Delta.mk 0 0 (Point.mk 0 0) (A4.mk (Field.mk 0 ByteArray.empty) (Field.mk 0 ByteArray.empty) (Field.mk 0 ByteArray.empty) (Field.mk 0 ByteArray.empty))))])), (86, .agg [li .i64 3, li .i64 x24.ID, li .i64 0, li .i64 0, li .i64 0, li .i64 0, ls ByteArray.empty, li .i64 0, ls ByteArray.empty, li .i64 0, ls ByteArray.empty, li .i64 0, ls ByteArray.empty, li .i64 0, li .u8 0, li .i64 0, li .i64 0, li .i64 0, ls ByteArray.empty, li .i64 0, ls ByteArray.empty, li .i64 0, ls ByteArray.empty, li .i64 0, ls ByteArray.empty]), (85, .one (li .i64 x24.ID)), (84, .one (.eptr (Thing.cod.enc x24) 0))] [] (by kernel_rfl) ?_
      refine SimI.guard (c := (([] : List Event).length + 1) * 264 ≤ maxCells ∧ ([] : List Event).length + 1 ≤ maxCells) { dst := some 88, op := POp.app 100011 45 25 264 (Operand.tmp 80) (Operand.tmp 87), guard := none, hints := [] } [(88, .one (.osl 100011 0 0 ([(Event.mk 3 x24.ID (Thing.mk 0 (Point.mk 0 0) (A4.mk (Field.mk 0 ByteArray.empty) (Field.mk 0 ByteArray.empty) (Field.mk 0 ByteArray.empty) (Field.mk 0 ByteArray.empty))) (Delta.mk 0 0 (Point.mk 0 0) (A4.mk (Field.mk 0 ByteArray.empty) (Field.mk 0 ByteArray.empty) (Field.mk 0 ByteArray.empty) (Field.mk 0 ByteArray.empty))))]).length))] [(100011, some (.arr 45 Event.cod.sz 0 ([(Event.mk 3 x24.ID (Thing.mk 0 (Point.mk 0 0) (A4.mk (Field.mk 0 ByteArray.empty) (Field.mk 0 ByteArray.empty) (Field.mk 0 ByteArray.empty) (Field.mk 0 ByteArray.empty))) (Delta.mk 0 0 (Point.mk 0 0) (A4.mk (Field.mk 0 ByteArray.empty) (Field.mk 0 ByteArray.empty) (Field.mk 0 ByteArray.empty) (Field.mk 0 ByteArray.empty))))]).length (getOf Event.cod [(Event.mk 3 x24.ID (Thing.mk 0 (Point.mk 0 0) (A4.mk (Field.mk 0 ByteArray.empty) (Field.mk 0 ByteArray.empty) (Field.mk 0 ByteArray.empty) (Field.mk 0 ByteArray.empty))) (Delta.mk 0 0 (Point.mk 0 0) (A4.mk (Field.mk 0 ByteArray.empty) (Field.mk 0 ByteArray.empty) (Field.mk 0 ByteArray.empty) (Field.mk 0 ByteArray.empty))))])))] (by kernel_rfl) (fun hc => pOp_eff (by kernel_rfl) (by kernel_rfl) (eff_appN (c := Event.cod) (a := (Event.mk 3 x24.ID (Thing.mk 0 (Point.mk 0 0) (A4.mk (Field.mk 0 ByteArray.empty) (Field.mk 0 ByteArray.empty) (Field.mk 0 ByteArray.empty) (Field.mk 0 ByteArray.empty))) (Delta.mk 0 0 (Point.mk 0 0) (A4.mk (Field.mk 0 ByteArray.empty) (Field.mk 0 ByteArray.empty) (Field.mk 0 ByteArray.empty) (Field.mk 0 ByteArray.empty))))) (by kernel_rfl) (by kernel_rfl) (by kernel_rfl) (by kernel_rfl) (by kernel_rfl) (by kernel_rfl))) ?_
      refine SimI.run 1 [(11, .one (.osl 100011 0 0 ([(Event.mk 3 x24.ID (Thing.mk 0 (Point.mk 0 0) (A4.mk (Field.mk 0 ByteArray.empty) (Field.mk 0 ByteArray.empty) (Field.mk 0 ByteArray.empty) (Field.mk 0 ByteArray.empty))) (Delta.mk 0 0 (Point.mk 0 0) (A4.mk (Field.mk 0 ByteArray.empty) (Field.mk 0 ByteArray.empty) (Field.mk 0 ByteArray.empty) (Field.mk 0 ByteArray.empty))))]).length))] [] (by kernel_rfl) ?_
      refine SimI.done (by kernel_rfl) ?_
      refine SimE.thenN ?_
      refine Sim.region0 ?_
      refine SimI.run 3 [(12, .one (li .i64 (IntKind.wrap .i64 (i13 + 1)))), (90, .one (li .i64 (IntKind.wrap .i64 (i13 + 1)))), (89, .one (li .i64 i13))] [] (by kernel_rfl) ?_
      refine SimI.done (by kernel_rfl) ?_
      refine SimE.blockN ?_
      refine SimE.blockN ?_
      refine SimE.loopN ?_
      refine SimL.pre (ts := [9, 10, 11, 12, 13]) (os := [5, 7, 100011]) [(9, .one (vw Thing.cod r1)), (10, .one (vw Thing.cod r2)), (11, .one (ownL 100011 0 [(Event.mk 3 x24.ID (Thing.mk 0 (Point.mk 0 0) (A4.mk (Field.mk 0 ByteArray.empty) (Field.mk 0 ByteArray.empty) (Field.mk 0 ByteArray.empty) (Field.mk 0 ByteArray.empty))) (Delta.mk 0 0 (Point.mk 0 0) (A4.mk (Field.mk 0 ByteArray.empty) (Field.mk 0 ByteArray.empty) (Field.mk 0 ByteArray.empty) (Field.mk 0 ByteArray.empty))))])), (12, .one (li .i64 (IntKind.wrap .i64 (i13 + 1)))), (13, .one (li .i64 i14))] (ownM Event.cod 45 100011 0 [(Event.mk 3 x24.ID (Thing.mk 0 (Point.mk 0 0) (A4.mk (Field.mk 0 ByteArray.empty) (Field.mk 0 ByteArray.empty) (Field.mk 0 ByteArray.empty) (Field.mk 0 ByteArray.empty))) (Delta.mk 0 0 (Point.mk 0 0) (A4.mk (Field.mk 0 ByteArray.empty) (Field.mk 0 ByteArray.empty) (Field.mk 0 ByteArray.empty) (Field.mk 0 ByteArray.empty))))] []) (by kernel_rfl) (by kernel_rfl) (by kernel_rfl) ?_
      exact ih_l15 [(Event.mk 3 x24.ID (Thing.mk 0 (Point.mk 0 0) (A4.mk (Field.mk 0 ByteArray.empty) (Field.mk 0 ByteArray.empty) (Field.mk 0 ByteArray.empty) (Field.mk 0 ByteArray.empty))) (Delta.mk 0 0 (Point.mk 0 0) (A4.mk (Field.mk 0 ByteArray.empty) (Field.mk 0 ByteArray.empty) (Field.mk 0 ByteArray.empty) (Field.mk 0 ByteArray.empty))))] (IntKind.wrap .i64 (i13 + 1)) i14 0
    | cons l21h l21t =>
      unfold F19_j23
      refine Sim.seq ?_
      refine Sim.region [(9, .one (vw Thing.cod r1)), (10, .one (vw Thing.cod r2)), (11, .one (.osl 100011 g22 0 ((l21h :: l21t)).length)), (12, .one (li .i64 i13)), (13, .one (li .i64 i14))] ((100011, some (.arr 45 Event.cod.sz g22 ((l21h :: l21t)).length (getOf Event.cod (l21h :: l21t)))) :: []) (by kernel_rfl) ?_
      refine SimI.run 3 [(82, .one (li .i64 i13)), (81, .one (vw Thing.cod r1)), (80, .one (.osl 100011 g22 0 ((l21h :: l21t)).length))] [] (by kernel_rfl) ?_
      refine SimI.bind (og := ix r1 i13) { dst := some 83, op := POp.iaddrS 11 (Operand.tmp 81) (Operand.tmp 82), guard := none, hints := [] } (fun x24 => [(83, .one (.eptr (Thing.cod.enc x24) 0))]) (fun x24 => []) (by kernel_rfl) (fun x24 hr => pOp_eff (by kernel_rfl) (by kernel_rfl) (eff_idx (c := Thing.cod) (l := r1) (k := .i64) (n := i13) (by kernel_rfl) (by kernel_rfl) (by kernel_rfl) hr)) (fun x24 => ?_)
      refine SimI.run 4 [(87, .one (vw Event.cod [(Event.mk 3 x24.ID (Thing.mk 0 (Point.mk 0 0) (A4.mk (Field.mk 0 ByteArray.empty) (Field.mk 0 ByteArray.empty) (Field.mk 0 ByteArray.empty) (Field.mk 0 ByteArray.empty))) (Delta.mk 0 0 (Point.mk 0 0) (A4.mk (Field.mk 0 ByteArray.empty) (Field.mk 0 ByteArray.empty) (Field.mk 0 ByteArray.empty) (Field.mk 0 ByteArray.empty))))])), (86, .agg [li .i64 3, li .i64 x24.ID, li .i64 0, li .i64 0, li .i64 0, li .i64 0, ls ByteArray.empty, li .i64 0, ls ByteArray.empty, li .i64 0, ls ByteArray.empty, li .i64 0, ls ByteArray.empty, li .i64 0, li .u8 0, li .i64 0, li .i64 0, li .i64 0, ls ByteArray.empty, li .i64 0, ls ByteArray.empty, li .i64 0, ls ByteArray.empty, li .i64 0, ls ByteArray.empty]), (85, .one (li .i64 x24.ID)), (84, .one (.eptr (Thing.cod.enc x24) 0))] [] (by kernel_rfl) ?_
      refine SimI.guard (c := (((l21h :: l21t)).length + 1) * 264 ≤ maxCells ∧ ((l21h :: l21t)).length + 1 ≤ maxCells) { dst := some 88, op := POp.app 100011 45 25 264 (Operand.tmp 80) (Operand.tmp 87), guard := none, hints := [] } [(88, .one (.osl 100011 (g22 + 1) 0 (((l21h :: l21t) ++ [(Event.mk 3 x24.ID (Thing.mk 0 (Point.mk 0 0) (A4.mk (Field.mk 0 ByteArray.empty) (Field.mk 0 ByteArray.empty) (Field.mk 0 ByteArray.empty) (Field.mk 0 ByteArray.empty))) (Delta.mk 0 0 (Point.mk 0 0) (A4.mk (Field.mk 0 ByteArray.empty) (Field.mk 0 ByteArray.empty) (Field.mk 0 ByteArray.empty) (Field.mk 0 ByteArray.empty))))])).length))] [(100011, some (.arr 45 Event.cod.sz (g22 + 1) (((l21h :: l21t) ++ [(Event.mk 3 x24.ID (Thing.mk 0 (Point.mk 0 0) (A4.mk (Field.mk 0 ByteArray.empty) (Field.mk 0 ByteArray.empty) (Field.mk 0 ByteArray.empty) (Field.mk 0 ByteArray.empty))) (Delta.mk 0 0 (Point.mk 0 0) (A4.mk (Field.mk 0 ByteArray.empty) (Field.mk 0 ByteArray.empty) (Field.mk 0 ByteArray.empty) (Field.mk 0 ByteArray.empty))))])).length (getOf Event.cod ((l21h :: l21t) ++ [(Event.mk 3 x24.ID (Thing.mk 0 (Point.mk 0 0) (A4.mk (Field.mk 0 ByteArray.empty) (Field.mk 0 ByteArray.empty) (Field.mk 0 ByteArray.empty) (Field.mk 0 ByteArray.empty))) (Delta.mk 0 0 (Point.mk 0 0) (A4.mk (Field.mk 0 ByteArray.empty) (Field.mk 0 ByteArray.empty) (Field.mk 0 ByteArray.empty) (Field.mk 0 ByteArray.empty))))]))))] (by kernel_rfl) (fun hc => pOp_eff (by kernel_rfl) (by kernel_rfl) (eff_appO (c := Event.cod) (g := g22) (l := (l21h :: l21t)) (a := (Event.mk 3 x24.ID (Thing.mk 0 (Point.mk 0 0) (A4.mk (Field.mk 0 ByteArray.empty) (Field.mk 0 ByteArray.empty) (Field.mk 0 ByteArray.empty) (Field.mk 0 ByteArray.empty))) (Delta.mk 0 0 (Point.mk 0 0) (A4.mk (Field.mk 0 ByteArray.empty) (Field.mk 0 ByteArray.empty) (Field.mk 0 ByteArray.empty) (Field.mk 0 ByteArray.empty))))) (by kernel_rfl) (by kernel_rfl) (by kernel_rfl) (by kernel_rfl) hc)) ?_
      refine SimI.run 1 [(11, .one (.osl 100011 (g22 + 1) 0 (((l21h :: l21t) ++ [(Event.mk 3 x24.ID (Thing.mk 0 (Point.mk 0 0) (A4.mk (Field.mk 0 ByteArray.empty) (Field.mk 0 ByteArray.empty) (Field.mk 0 ByteArray.empty) (Field.mk 0 ByteArray.empty))) (Delta.mk 0 0 (Point.mk 0 0) (A4.mk (Field.mk 0 ByteArray.empty) (Field.mk 0 ByteArray.empty) (Field.mk 0 ByteArray.empty) (Field.mk 0 ByteArray.empty))))])).length))] [] (by kernel_rfl) ?_
      refine SimI.done (by kernel_rfl) ?_
      refine SimE.thenN ?_
      refine Sim.region0 ?_
      refine SimI.run 3 [(12, .one (li .i64 (IntKind.wrap .i64 (i13 + 1)))), (90, .one (li .i64 (IntKind.wrap .i64 (i13 + 1)))), (89, .one (li .i64 i13))] [] (by kernel_rfl) ?_
      refine SimI.done (by kernel_rfl) ?_
      refine SimE.blockN ?_
      refine SimE.blockN ?_
      refine SimE.loopN ?_
      refine SimL.pre (ts := [9, 10, 11, 12, 13]) (os := [5, 7, 100011]) [(9, .one (vw Thing.cod r1)), (10, .one (vw Thing.cod r2)), (11, .one (ownL 100011 (g22 + 1) ((l21h :: l21t) ++ [(Event.mk 3 x24.ID (Thing.mk 0 (Point.mk 0 0) (A4.mk (Field.mk 0 ByteArray.empty) (Field.mk 0 ByteArray.empty) (Field.mk 0 ByteArray.empty) (Field.mk 0 ByteArray.empty))) (Delta.mk 0 0 (Point.mk 0 0) (A4.mk (Field.mk 0 ByteArray.empty) (Field.mk 0 ByteArray.empty) (Field.mk 0 ByteArray.empty) (Field.mk 0 ByteArray.empty))))]))), (12, .one (li .i64 (IntKind.wrap .i64 (i13 + 1)))), (13, .one (li .i64 i14))] (ownM Event.cod 45 100011 (g22 + 1) ((l21h :: l21t) ++ [(Event.mk 3 x24.ID (Thing.mk 0 (Point.mk 0 0) (A4.mk (Field.mk 0 ByteArray.empty) (Field.mk 0 ByteArray.empty) (Field.mk 0 ByteArray.empty) (Field.mk 0 ByteArray.empty))) (Delta.mk 0 0 (Point.mk 0 0) (A4.mk (Field.mk 0 ByteArray.empty) (Field.mk 0 ByteArray.empty) (Field.mk 0 ByteArray.empty) (Field.mk 0 ByteArray.empty))))]) []) (by kernel_rfl) (by kernel_rfl) (by kernel_rfl) ?_
      exact ih_l15 ((l21h :: l21t) ++ [(Event.mk 3 x24.ID (Thing.mk 0 (Point.mk 0 0) (A4.mk (Field.mk 0 ByteArray.empty) (Field.mk 0 ByteArray.empty) (Field.mk 0 ByteArray.empty) (Field.mk 0 ByteArray.empty))) (Delta.mk 0 0 (Point.mk 0 0) (A4.mk (Field.mk 0 ByteArray.empty) (Field.mk 0 ByteArray.empty) (Field.mk 0 ByteArray.empty) (Field.mk 0 ByteArray.empty))))]) (IntKind.wrap .i64 (i13 + 1)) i14 (g22 + 1)

def F19_j32 (n : Nat) (r2 : (List Thing)) (i13 : Int) (i14 : Int) (rec_l15 : (List Event) → Int → Int → Option (List Event)) (l30 : (List Event)) : Option (List Event) :=
    (ix r2 i14).bind fun (x33 : Thing) =>
    (ix r2 i14).bind fun (x34 : Thing) =>
    if ((l30).length + 1) * 264 ≤ maxCells ∧ (l30).length + 1 ≤ maxCells then
      rec_l15 (l30 ++ [(Event.mk 1 x33.ID x34 (Delta.mk 0 0 (Point.mk 0 0) (A4.mk (Field.mk 0 ByteArray.empty) (Field.mk 0 ByteArray.empty) (Field.mk 0 ByteArray.empty) (Field.mk 0 ByteArray.empty))))]) i13 (IntKind.wrap .i64 (i14 + 1))
    else none
theorem F19_j32_ok (n : Nat) (a0 : (List Thing)) (a1 : Rect) (a2 : (List Thing)) (a3 : Rect) (r1 : (List Thing)) (r2 : (List Thing)) (i13 : Int) (i14 : Int) (rec_l15 : (List Event) → Int → Int → Option (List Event)) (m_l15 : Nat) (ih_l15 : ∀ (l11 : (List Event)) (i13 : Int) (i14 : Int) (g12 : Nat), SimL Try.prog D (n + 8) m_l15 pc19_c35 [(9, .one (vw Thing.cod r1)), (10, .one (vw Thing.cod r2)), (11, .one (ownL 100011 g12 l11)), (12, .one (li .i64 i13)), (13, .one (li .i64 i14))] (ownM Event.cod 45 100011 g12 l11 []) (rec_l15 l11 i13 i14) (QB 0 (QT Try.prog D (n + 8) pc19_c40 (QF pc19_r 0 F19_e)))) (l30 : (List Event)) (g31 : Nat) : Sim Try.prog D (n + 8) pc19_c17 [(9, .one (vw Thing.cod r1)), (10, .one (vw Thing.cod r2)), (11, .one (ownL 100011 g31 l30)), (12, .one (li .i64 i13)), (13, .one (li .i64 i14))] (ownM Event.cod 45 100011 g31 l30 []) (F19_j32 n r2 i13 i14 rec_l15 l30) (QB 2 (QB 1 (QL Try.prog D (n + 8) m_l15 pc19_c35 (QB 0 (QT Try.prog D (n + 8) pc19_c40 (QF pc19_r 0 F19_e)))))) := by
    cases l30 with
    | nil =>
      unfold F19_j32
      refine Sim.seq ?_
      refine Sim.region [(9, .one (vw Thing.cod r1)), (10, .one (vw Thing.cod r2)), (11, .one (lnil)), (12, .one (li .i64 i13)), (13, .one (li .i64 i14))] [] (by kernel_rfl) ?_
      refine SimI.run 3 [(111, .one (li .i64 i14)), (110, .one (vw Thing.cod r2)), (109, .one (lnil))] [] (by kernel_rfl) ?_
      refine SimI.bind (og := ix r2 i14) { dst := some 112, op := POp.iaddrS 11 (Operand.tmp 110) (Operand.tmp 111), guard := none, hints := [(110, Hint.imm), (111, Hint.imm)] } (fun x33 => [(112, .one (.eptr (Thing.cod.enc x33) 0))]) (fun x33 => []) (by kernel_rfl) (fun x33 hr => pOp_eff (by kernel_rfl) (by kernel_rfl) (eff_idx (c := Thing.cod) (l := r2) (k := .i64) (n := i14) (by kernel_rfl) (by kernel_rfl) (by kernel_rfl) hr)) (fun x33 => ?_)
      refine SimI.run 4 [(116, .one (li .i64 i14)), (115, .one (vw Thing.cod r2)), (114, .one (li .i64 x33.ID)), (113, .one (.eptr (Thing.cod.enc x33) 0))] [] (by kernel_rfl) ?_
      refine SimI.bind (og := ix r2 i14) { dst := some 117, op := POp.iaddrS 11 (Operand.tmp 115) (Operand.tmp 116), guard := none, hints := [(115, Hint.imm), (116, Hint.imm)] } (fun x34 => [(117, .one (.eptr (Thing.cod.enc x34) 0))]) (fun x34 => []) (by kernel_rfl) (fun x34 hr => pOp_eff (by kernel_rfl) (by kernel_rfl) (eff_idx (c := Thing.cod) (l := r2) (k := .i64) (n := i14) (by kernel_rfl) (by kernel_rfl) (by kernel_rfl) hr)) (fun x34 => ?_)
      refine SimI.run 3 [(120, .one (vw Event.cod [(Event.mk 1 x33.ID x34 (Delta.mk 0 0 (Point.mk 0 0) (A4.mk (Field.mk 0 ByteArray.empty) (Field.mk 0 ByteArray.empty) (Field.mk 0 ByteArray.empty) (Field.mk 0 ByteArray.empty))))])), (119, .agg [li .i64 1, li .i64 x33.ID, li .i64 x34.ID, li .i64 x34.At.X, li .i64 x34.At.Y, li .i64 x34.F.a0.N, ls x34.F.a0.Text, li .i64 x34.F.a1.N, ls x34.F.a1.Text, li .i64 x34.F.a2.N, ls x34.F.a2.Text, li .i64 x34.F.a3.N, ls x34.F.a3.Text, li .i64 0, li .u8 0, li .i64 0, li .i64 0, li .i64 0, ls ByteArray.empty, li .i64 0, ls ByteArray.empty, li .i64 0, ls ByteArray.empty, li .i64 0, ls ByteArray.empty]), (118, .agg [li .i64 x34.ID, li .i64 x34.At.X, li .i64 x34.At.Y, li .i64 x34.F.a0.N, ls x34.F.a0.Text, li .i64 x34.F.a1.N, ls x34.F.a1.Text, li .i64 x34.F.a2.N, ls x34.F.a2.Text, li .i64 x34.F.a3.N, ls x34.F.a3.Text])] [] (by kernel_rfl) ?_
      refine SimI.guard (c := (([] : List Event).length + 1) * 264 ≤ maxCells ∧ ([] : List Event).length + 1 ≤ maxCells) { dst := some 121, op := POp.app 100011 45 25 264 (Operand.tmp 109) (Operand.tmp 120), guard := none, hints := [(109, Hint.obj 100011), (120, Hint.imm)] } [(121, .one (.osl 100011 0 0 ([(Event.mk 1 x33.ID x34 (Delta.mk 0 0 (Point.mk 0 0) (A4.mk (Field.mk 0 ByteArray.empty) (Field.mk 0 ByteArray.empty) (Field.mk 0 ByteArray.empty) (Field.mk 0 ByteArray.empty))))]).length))] [(100011, some (.arr 45 Event.cod.sz 0 ([(Event.mk 1 x33.ID x34 (Delta.mk 0 0 (Point.mk 0 0) (A4.mk (Field.mk 0 ByteArray.empty) (Field.mk 0 ByteArray.empty) (Field.mk 0 ByteArray.empty) (Field.mk 0 ByteArray.empty))))]).length (getOf Event.cod [(Event.mk 1 x33.ID x34 (Delta.mk 0 0 (Point.mk 0 0) (A4.mk (Field.mk 0 ByteArray.empty) (Field.mk 0 ByteArray.empty) (Field.mk 0 ByteArray.empty) (Field.mk 0 ByteArray.empty))))])))] (by kernel_rfl) (fun hc => pOp_eff (by kernel_rfl) (by kernel_rfl) (eff_appN (c := Event.cod) (a := (Event.mk 1 x33.ID x34 (Delta.mk 0 0 (Point.mk 0 0) (A4.mk (Field.mk 0 ByteArray.empty) (Field.mk 0 ByteArray.empty) (Field.mk 0 ByteArray.empty) (Field.mk 0 ByteArray.empty))))) (by kernel_rfl) (by kernel_rfl) (by kernel_rfl) (by kernel_rfl) (by kernel_rfl) (by kernel_rfl))) ?_
      refine SimI.run 1 [(11, .one (.osl 100011 0 0 ([(Event.mk 1 x33.ID x34 (Delta.mk 0 0 (Point.mk 0 0) (A4.mk (Field.mk 0 ByteArray.empty) (Field.mk 0 ByteArray.empty) (Field.mk 0 ByteArray.empty) (Field.mk 0 ByteArray.empty))))]).length))] [] (by kernel_rfl) ?_
      refine SimI.done (by kernel_rfl) ?_
      refine SimE.thenN ?_
      refine Sim.region0 ?_
      refine SimI.run 3 [(13, .one (li .i64 (IntKind.wrap .i64 (i14 + 1)))), (123, .one (li .i64 (IntKind.wrap .i64 (i14 + 1)))), (122, .one (li .i64 i14))] [] (by kernel_rfl) ?_
      refine SimI.done (by kernel_rfl) ?_
      refine SimE.blockN ?_
      refine SimE.blockN ?_
      refine SimE.loopN ?_
      refine SimL.pre (ts := [9, 10, 11, 12, 13]) (os := [5, 7, 100011]) [(9, .one (vw Thing.cod r1)), (10, .one (vw Thing.cod r2)), (11, .one (ownL 100011 0 [(Event.mk 1 x33.ID x34 (Delta.mk 0 0 (Point.mk 0 0) (A4.mk (Field.mk 0 ByteArray.empty) (Field.mk 0 ByteArray.empty) (Field.mk 0 ByteArray.empty) (Field.mk 0 ByteArray.empty))))])), (12, .one (li .i64 i13)), (13, .one (li .i64 (IntKind.wrap .i64 (i14 + 1))))] (ownM Event.cod 45 100011 0 [(Event.mk 1 x33.ID x34 (Delta.mk 0 0 (Point.mk 0 0) (A4.mk (Field.mk 0 ByteArray.empty) (Field.mk 0 ByteArray.empty) (Field.mk 0 ByteArray.empty) (Field.mk 0 ByteArray.empty))))] []) (by kernel_rfl) (by kernel_rfl) (by kernel_rfl) ?_
      exact ih_l15 [(Event.mk 1 x33.ID x34 (Delta.mk 0 0 (Point.mk 0 0) (A4.mk (Field.mk 0 ByteArray.empty) (Field.mk 0 ByteArray.empty) (Field.mk 0 ByteArray.empty) (Field.mk 0 ByteArray.empty))))] i13 (IntKind.wrap .i64 (i14 + 1)) 0
    | cons l30h l30t =>
      unfold F19_j32
      refine Sim.seq ?_
      refine Sim.region [(9, .one (vw Thing.cod r1)), (10, .one (vw Thing.cod r2)), (11, .one (.osl 100011 g31 0 ((l30h :: l30t)).length)), (12, .one (li .i64 i13)), (13, .one (li .i64 i14))] ((100011, some (.arr 45 Event.cod.sz g31 ((l30h :: l30t)).length (getOf Event.cod (l30h :: l30t)))) :: []) (by kernel_rfl) ?_
      refine SimI.run 3 [(111, .one (li .i64 i14)), (110, .one (vw Thing.cod r2)), (109, .one (.osl 100011 g31 0 ((l30h :: l30t)).length))] [] (by kernel_rfl) ?_
      refine SimI.bind (og := ix r2 i14) { dst := some 112, op := POp.iaddrS 11 (Operand.tmp 110) (Operand.tmp 111), guard := none, hints := [(110, Hint.imm), (111, Hint.imm)] } (fun x33 => [(112, .one (.eptr (Thing.cod.enc x33) 0))]) (fun x33 => []) (by kernel_rfl) (fun x33 hr => pOp_eff (by kernel_rfl) (by kernel_rfl) (eff_idx (c := Thing.cod) (l := r2) (k := .i64) (n := i14) (by kernel_rfl) (by kernel_rfl) (by kernel_rfl) hr)) (fun x33 => ?_)
      refine SimI.run 4 [(116, .one (li .i64 i14)), (115, .one (vw Thing.cod r2)), (114, .one (li .i64 x33.ID)), (113, .one (.eptr (Thing.cod.enc x33) 0))] [] (by kernel_rfl) ?_
      refine SimI.bind (og := ix r2 i14) { dst := some 117, op := POp.iaddrS 11 (Operand.tmp 115) (Operand.tmp 116), guard := none, hints := [(115, Hint.imm), (116, Hint.imm)] } (fun x34 => [(117, .one (.eptr (Thing.cod.enc x34) 0))]) (fun x34 => []) (by kernel_rfl) (fun x34 hr => pOp_eff (by kernel_rfl) (by kernel_rfl) (eff_idx (c := Thing.cod) (l := r2) (k := .i64) (n := i14) (by kernel_rfl) (by kernel_rfl) (by kernel_rfl) hr)) (fun x34 => ?_)
      refine SimI.run 3 [(120, .one (vw Event.cod [(Event.mk 1 x33.ID x34 (Delta.mk 0 0 (Point.mk 0 0) (A4.mk (Field.mk 0 ByteArray.empty) (Field.mk 0 ByteArray.empty) (Field.mk 0 ByteArray.empty) (Field.mk 0 ByteArray.empty))))])), (119, .agg [li .i64 1, li .i64 x33.ID, li .i64 x34.ID, li .i64 x34.At.X, li .i64 x34.At.Y, li .i64 x34.F.a0.N, ls x34.F.a0.Text, li .i64 x34.F.a1.N, ls x34.F.a1.Text, li .i64 x34.F.a2.N, ls x34.F.a2.Text, li .i64 x34.F.a3.N, ls x34.F.a3.Text, li .i64 0, li .u8 0, li .i64 0, li .i64 0, li .i64 0, ls ByteArray.empty, li .i64 0, ls ByteArray.empty, li .i64 0, ls ByteArray.empty, li .i64 0, ls ByteArray.empty]), (118, .agg [li .i64 x34.ID, li .i64 x34.At.X, li .i64 x34.At.Y, li .i64 x34.F.a0.N, ls x34.F.a0.Text, li .i64 x34.F.a1.N, ls x34.F.a1.Text, li .i64 x34.F.a2.N, ls x34.F.a2.Text, li .i64 x34.F.a3.N, ls x34.F.a3.Text])] [] (by kernel_rfl) ?_
      refine SimI.guard (c := (((l30h :: l30t)).length + 1) * 264 ≤ maxCells ∧ ((l30h :: l30t)).length + 1 ≤ maxCells) { dst := some 121, op := POp.app 100011 45 25 264 (Operand.tmp 109) (Operand.tmp 120), guard := none, hints := [(109, Hint.obj 100011), (120, Hint.imm)] } [(121, .one (.osl 100011 (g31 + 1) 0 (((l30h :: l30t) ++ [(Event.mk 1 x33.ID x34 (Delta.mk 0 0 (Point.mk 0 0) (A4.mk (Field.mk 0 ByteArray.empty) (Field.mk 0 ByteArray.empty) (Field.mk 0 ByteArray.empty) (Field.mk 0 ByteArray.empty))))])).length))] [(100011, some (.arr 45 Event.cod.sz (g31 + 1) (((l30h :: l30t) ++ [(Event.mk 1 x33.ID x34 (Delta.mk 0 0 (Point.mk 0 0) (A4.mk (Field.mk 0 ByteArray.empty) (Field.mk 0 ByteArray.empty) (Field.mk 0 ByteArray.empty) (Field.mk 0 ByteArray.empty))))])).length (getOf Event.cod ((l30h :: l30t) ++ [(Event.mk 1 x33.ID x34 (Delta.mk 0 0 (Point.mk 0 0) (A4.mk (Field.mk 0 ByteArray.empty) (Field.mk 0 ByteArray.empty) (Field.mk 0 ByteArray.empty) (Field.mk 0 ByteArray.empty))))]))))] (by kernel_rfl) (fun hc => pOp_eff (by kernel_rfl) (by kernel_rfl) (eff_appO (c := Event.cod) (g := g31) (l := (l30h :: l30t)) (a := (Event.mk 1 x33.ID x34 (Delta.mk 0 0 (Point.mk 0 0) (A4.mk (Field.mk 0 ByteArray.empty) (Field.mk 0 ByteArray.empty) (Field.mk 0 ByteArray.empty) (Field.mk 0 ByteArray.empty))))) (by kernel_rfl) (by kernel_rfl) (by kernel_rfl) (by kernel_rfl) hc)) ?_
      refine SimI.run 1 [(11, .one (.osl 100011 (g31 + 1) 0 (((l30h :: l30t) ++ [(Event.mk 1 x33.ID x34 (Delta.mk 0 0 (Point.mk 0 0) (A4.mk (Field.mk 0 ByteArray.empty) (Field.mk 0 ByteArray.empty) (Field.mk 0 ByteArray.empty) (Field.mk 0 ByteArray.empty))))])).length))] [] (by kernel_rfl) ?_
      refine SimI.done (by kernel_rfl) ?_
      refine SimE.thenN ?_
      refine Sim.region0 ?_
      refine SimI.run 3 [(13, .one (li .i64 (IntKind.wrap .i64 (i14 + 1)))), (123, .one (li .i64 (IntKind.wrap .i64 (i14 + 1)))), (122, .one (li .i64 i14))] [] (by kernel_rfl) ?_
      refine SimI.done (by kernel_rfl) ?_
      refine SimE.blockN ?_
      refine SimE.blockN ?_
      refine SimE.loopN ?_
      refine SimL.pre (ts := [9, 10, 11, 12, 13]) (os := [5, 7, 100011]) [(9, .one (vw Thing.cod r1)), (10, .one (vw Thing.cod r2)), (11, .one (ownL 100011 (g31 + 1) ((l30h :: l30t) ++ [(Event.mk 1 x33.ID x34 (Delta.mk 0 0 (Point.mk 0 0) (A4.mk (Field.mk 0 ByteArray.empty) (Field.mk 0 ByteArray.empty) (Field.mk 0 ByteArray.empty) (Field.mk 0 ByteArray.empty))))]))), (12, .one (li .i64 i13)), (13, .one (li .i64 (IntKind.wrap .i64 (i14 + 1))))] (ownM Event.cod 45 100011 (g31 + 1) ((l30h :: l30t) ++ [(Event.mk 1 x33.ID x34 (Delta.mk 0 0 (Point.mk 0 0) (A4.mk (Field.mk 0 ByteArray.empty) (Field.mk 0 ByteArray.empty) (Field.mk 0 ByteArray.empty) (Field.mk 0 ByteArray.empty))))]) []) (by kernel_rfl) (by kernel_rfl) (by kernel_rfl) ?_
      exact ih_l15 ((l30h :: l30t) ++ [(Event.mk 1 x33.ID x34 (Delta.mk 0 0 (Point.mk 0 0) (A4.mk (Field.mk 0 ByteArray.empty) (Field.mk 0 ByteArray.empty) (Field.mk 0 ByteArray.empty) (Field.mk 0 ByteArray.empty))))]) i13 (IntKind.wrap .i64 (i14 + 1)) (g31 + 1)

def F19_j40 (n : Nat) (i13 : Int) (i14 : Int) (rec_l15 : (List Event) → Int → Int → Option (List Event)) (l38 : (List Event)) : Option (List Event) :=
    rec_l15 l38 (IntKind.wrap .i64 (i13 + 1)) (IntKind.wrap .i64 (i14 + 1))
theorem F19_j40_ok (n : Nat) (r1 : (List Thing)) (r2 : (List Thing)) (i13 : Int) (i14 : Int) (rec_l15 : (List Event) → Int → Int → Option (List Event)) (m_l15 : Nat) (ih_l15 : ∀ (l11 : (List Event)) (i13 : Int) (i14 : Int) (g12 : Nat), SimL Try.prog D (n + 8) m_l15 pc19_c35 [(9, .one (vw Thing.cod r1)), (10, .one (vw Thing.cod r2)), (11, .one (ownL 100011 g12 l11)), (12, .one (li .i64 i13)), (13, .one (li .i64 i14))] (ownM Event.cod 45 100011 g12 l11 []) (rec_l15 l11 i13 i14) (QB 0 (QT Try.prog D (n + 8) pc19_c40 (QF pc19_r 0 F19_e)))) (l38 : (List Event)) (g39 : Nat) : Sim Try.prog D (n + 8) pc19_c26 [(9, .one (vw Thing.cod r1)), (10, .one (vw Thing.cod r2)), (11, .one (ownL 100011 g39 l38)), (12, .one (li .i64 i13)), (13, .one (li .i64 i14))] (ownM Event.cod 45 100011 g39 l38 []) (F19_j40 n i13 i14 rec_l15 l38) (QB 2 (QB 1 (QL Try.prog D (n + 8) m_l15 pc19_c35 (QB 0 (QT Try.prog D (n + 8) pc19_c40 (QF pc19_r 0 F19_e)))))) := by
    cases l38 with
    | nil =>
      unfold F19_j40
      refine Sim.seq ?_
      refine Sim.region [(9, .one (vw Thing.cod r1)), (10, .one (vw Thing.cod r2)), (11, .one (lnil)), (12, .one (li .i64 i13)), (13, .one (li .i64 i14))] [] (by kernel_rfl) ?_
      refine SimI.run 3 [(12, .one (li .i64 (IntKind.wrap .i64 (i13 + 1)))), (53, .one (li .i64 (IntKind.wrap .i64 (i13 + 1)))), (52, .one (li .i64 i13))] [] (by kernel_rfl) ?_
      refine SimI.done (by kernel_rfl) ?_
      refine SimE.thenN ?_
      refine Sim.region0 ?_
      refine SimI.run 3 [(13, .one (li .i64 (IntKind.wrap .i64 (i14 + 1)))), (55, .one (li .i64 (IntKind.wrap .i64 (i14 + 1)))), (54, .one (li .i64 i14))] [] (by kernel_rfl) ?_
      refine SimI.done (by kernel_rfl) ?_
      refine SimE.blockN ?_
      refine SimE.blockN ?_
      refine SimE.loopN ?_
      refine SimL.pre (ts := [9, 10, 11, 12, 13]) (os := [5, 7, 100011]) [(9, .one (vw Thing.cod r1)), (10, .one (vw Thing.cod r2)), (11, .one (ownL 100011 0 ([] : List Event))), (12, .one (li .i64 (IntKind.wrap .i64 (i13 + 1)))), (13, .one (li .i64 (IntKind.wrap .i64 (i14 + 1))))] (ownM Event.cod 45 100011 0 ([] : List Event) []) (by kernel_rfl) (by kernel_rfl) (by kernel_rfl) ?_
      exact ih_l15 ([] : List Event) (IntKind.wrap .i64 (i13 + 1)) (IntKind.wrap .i64 (i14 + 1)) 0
    | cons l38h l38t =>
      unfold F19_j40
      refine Sim.seq ?_
      refine Sim.region [(9, .one (vw Thing.cod r1)), (10, .one (vw Thing.cod r2)), (11, .one (.osl 100011 g39 0 ((l38h :: l38t)).length)), (12, .one (li .i64 i13)), (13, .one (li .i64 i14))] ((100011, some (.arr 45 Event.cod.sz g39 ((l38h :: l38t)).length (getOf Event.cod (l38h :: l38t)))) :: []) (by kernel_rfl) ?_
      refine SimI.run 3 [(12, .one (li .i64 (IntKind.wrap .i64 (i13 + 1)))), (53, .one (li .i64 (IntKind.wrap .i64 (i13 + 1)))), (52, .one (li .i64 i13))] [] (by kernel_rfl) ?_
      refine SimI.done (by kernel_rfl) ?_
      refine SimE.thenN ?_
      refine Sim.region0 ?_
      refine SimI.run 3 [(13, .one (li .i64 (IntKind.wrap .i64 (i14 + 1)))), (55, .one (li .i64 (IntKind.wrap .i64 (i14 + 1)))), (54, .one (li .i64 i14))] [] (by kernel_rfl) ?_
      refine SimI.done (by kernel_rfl) ?_
      refine SimE.blockN ?_
      refine SimE.blockN ?_
      refine SimE.loopN ?_
      refine SimL.pre (ts := [9, 10, 11, 12, 13]) (os := [5, 7, 100011]) [(9, .one (vw Thing.cod r1)), (10, .one (vw Thing.cod r2)), (11, .one (ownL 100011 g39 (l38h :: l38t))), (12, .one (li .i64 (IntKind.wrap .i64 (i13 + 1)))), (13, .one (li .i64 (IntKind.wrap .i64 (i14 + 1))))] (ownM Event.cod 45 100011 g39 (l38h :: l38t) []) (by kernel_rfl) (by kernel_rfl) (by kernel_rfl) ?_
      exact ih_l15 (l38h :: l38t) (IntKind.wrap .i64 (i13 + 1)) (IntKind.wrap .i64 (i14 + 1)) g39

def F19_j27 (n : Nat) (r1 : (List Thing)) (r2 : (List Thing)) (i13 : Int) (i14 : Int) (rec_l15 : (List Event) → Int → Int → Option (List Event)) (l25 : (List Event)) : Option (List Event) :=
    if i13 == ((r1).length : Int) then
      F19_j32 n r2 i13 i14 rec_l15 l25
    else
      (ix r2 i14).bind fun (x28 : Thing) =>
      (ix r1 i13).bind fun (x29 : Thing) =>
      if decide (x28.ID < x29.ID) then
        F19_j32 n r2 i13 i14 rec_l15 l25
      else
        (ix r1 i13).bind fun (x35 : Thing) =>
        (ix r2 i14).bind fun (x36 : Thing) =>
        (F50 n x35 x36).bind fun (r37 : (Delta × Bool)) =>
        if r37.2 then
          if ((l25).length + 1) * 264 ≤ maxCells ∧ (l25).length + 1 ≤ maxCells then
            F19_j40 n i13 i14 rec_l15 (l25 ++ [(Event.mk 2 r37.1.ID (Thing.mk 0 (Point.mk 0 0) (A4.mk (Field.mk 0 ByteArray.empty) (Field.mk 0 ByteArray.empty) (Field.mk 0 ByteArray.empty) (Field.mk 0 ByteArray.empty))) r37.1)])
          else none
        else
          F19_j40 n i13 i14 rec_l15 l25
theorem F19_j27_ok (n : Nat) (a0 : (List Thing)) (a1 : Rect) (a2 : (List Thing)) (a3 : Rect) (r1 : (List Thing)) (r2 : (List Thing)) (i13 : Int) (i14 : Int) (rec_l15 : (List Event) → Int → Int → Option (List Event)) (m_l15 : Nat) (ih_l15 : ∀ (l11 : (List Event)) (i13 : Int) (i14 : Int) (g12 : Nat), SimL Try.prog D (n + 8) m_l15 pc19_c35 [(9, .one (vw Thing.cod r1)), (10, .one (vw Thing.cod r2)), (11, .one (ownL 100011 g12 l11)), (12, .one (li .i64 i13)), (13, .one (li .i64 i14))] (ownM Event.cod 45 100011 g12 l11 []) (rec_l15 l11 i13 i14) (QB 0 (QT Try.prog D (n + 8) pc19_c40 (QF pc19_r 0 F19_e)))) (l25 : (List Event)) (g26 : Nat) : Sim Try.prog D (n + 8) pc19_c30 [(9, .one (vw Thing.cod r1)), (10, .one (vw Thing.cod r2)), (11, .one (ownL 100011 g26 l25)), (12, .one (li .i64 i13)), (13, .one (li .i64 i14))] (ownM Event.cod 45 100011 g26 l25 []) (F19_j27 n r1 r2 i13 i14 rec_l15 l25) (QB 2 (QB 1 (QL Try.prog D (n + 8) m_l15 pc19_c35 (QB 0 (QT Try.prog D (n + 8) pc19_c40 (QF pc19_r 0 F19_e)))))) := by
    cases l25 with
    | nil =>
      unfold F19_j27
      refine Sim.seq ?_
      refine Sim.region [(9, .one (vw Thing.cod r1)), (10, .one (vw Thing.cod r2)), (11, .one (lnil)), (12, .one (li .i64 i13)), (13, .one (li .i64 i14))] [] (by kernel_rfl) ?_
      refine SimI.run 5 [(96, .one (lb (i13 == ((r1).length : Int)))), (95, .one (lb (i13 == ((r1).length : Int)))), (94, .one (li .i64 ((r1).length : Int))), (93, .one (vw Thing.cod r1)), (92, .one (li .i64 i13))] [] (by kernel_rfl) ?_
      refine SimI.split 96 (i13 == ((r1).length : Int)) (by kernel_rfl) ?_ ?_
      · refine SimI.run 13 [(91, .one (lb true)), (108, .one (lb true)), (107, .tup []), (106, .tup []), (105, .tup []), (104, .tup []), (103, .tup []), (102, .tup []), (101, .tup []), (100, .tup []), (99, .tup []), (98, .tup []), (97, .tup [])] [] (by kernel_rfl) ?_
        refine SimI.done (by kernel_rfl) ?_
        refine SimE.thenN ?_
        refine Sim.condT (by kernel_rfl) ?_
        refine Sim.pre (ts := [9, 10, 11, 12, 13]) (os := [100011]) [(9, .one (vw Thing.cod r1)), (10, .one (vw Thing.cod r2)), (11, .one (ownL 100011 0 ([] : List Event))), (12, .one (li .i64 i13)), (13, .one (li .i64 i14))] (ownM Event.cod 45 100011 0 ([] : List Event) []) (by kernel_rfl) (by kernel_rfl) (by kernel_rfl) ?_
        exact F19_j32_ok n a0 a1 a2 a3 r1 r2 i13 i14 rec_l15 m_l15 ih_l15 ([] : List Event) 0
      · refine SimI.run 2 [(98, .one (li .i64 i14)), (97, .one (vw Thing.cod r2))] [] (by kernel_rfl) ?_
        refine SimI.bind (og := ix r2 i14) { dst := some 99, op := POp.iaddrS 11 (Operand.tmp 97) (Operand.tmp 98), guard := some (96, false), hints := [(97, Hint.imm), (98, Hint.imm)] } (fun x28 => [(99, .one (.eptr (Thing.cod.enc x28) 0))]) (fun x28 => []) (by kernel_rfl) (fun x28 hr => pOp_eff (by kernel_rfl) (by kernel_rfl) (eff_idx (c := Thing.cod) (l := r2) (k := .i64) (n := i14) (by kernel_rfl) (by kernel_rfl) (by kernel_rfl) hr)) (fun x28 => ?_)
        refine SimI.run 4 [(103, .one (li .i64 i13)), (102, .one (vw Thing.cod r1)), (101, .one (li .i64 x28.ID)), (100, .one (.eptr (Thing.cod.enc x28) 0))] [] (by kernel_rfl) ?_
        refine SimI.bind (og := ix r1 i13) { dst := some 104, op := POp.iaddrS 11 (Operand.tmp 102) (Operand.tmp 103), guard := some (96, false), hints := [(102, Hint.imm), (103, Hint.imm)] } (fun x29 => [(104, .one (.eptr (Thing.cod.enc x29) 0))]) (fun x29 => []) (by kernel_rfl) (fun x29 hr => pOp_eff (by kernel_rfl) (by kernel_rfl) (eff_idx (c := Thing.cod) (l := r1) (k := .i64) (n := i13) (by kernel_rfl) (by kernel_rfl) (by kernel_rfl) hr)) (fun x29 => ?_)
        refine SimI.run 5 [(91, .one (lb (decide (x28.ID < x29.ID)))), (108, .one (lb (decide (x28.ID < x29.ID)))), (107, .one (lb (decide (x28.ID < x29.ID)))), (106, .one (li .i64 x29.ID)), (105, .one (.eptr (Thing.cod.enc x29) 0))] [] (by kernel_rfl) ?_
        refine SimI.done (by kernel_rfl) ?_
        refine SimE.thenN ?_
        refine Sim.cond (decide (x28.ID < x29.ID)) (by kernel_rfl) ?_ ?_
        · refine Sim.pre (ts := [9, 10, 11, 12, 13]) (os := [100011]) [(9, .one (vw Thing.cod r1)), (10, .one (vw Thing.cod r2)), (11, .one (ownL 100011 0 ([] : List Event))), (12, .one (li .i64 i13)), (13, .one (li .i64 i14))] (ownM Event.cod 45 100011 0 ([] : List Event) []) (by kernel_rfl) (by kernel_rfl) (by kernel_rfl) ?_
          exact F19_j32_ok n a0 a1 a2 a3 r1 r2 i13 i14 rec_l15 m_l15 ih_l15 ([] : List Event) 0
        · refine Sim.seq ?_
          refine Sim.region0 ?_
          refine SimI.run 2 [(34, .one (li .i64 i13)), (33, .one (vw Thing.cod r1))] [] (by kernel_rfl) ?_
          refine SimI.bind (og := ix r1 i13) { dst := some 35, op := POp.iaddrS 11 (Operand.tmp 33) (Operand.tmp 34), guard := none, hints := [(33, Hint.imm), (34, Hint.imm)] } (fun x35 => [(35, .one (.eptr (Thing.cod.enc x35) 0))]) (fun x35 => []) (by kernel_rfl) (fun x35 hr => pOp_eff (by kernel_rfl) (by kernel_rfl) (eff_idx (c := Thing.cod) (l := r1) (k := .i64) (n := i13) (by kernel_rfl) (by kernel_rfl) (by kernel_rfl) hr)) (fun x35 => ?_)
          refine SimI.run 3 [(38, .one (li .i64 i14)), (37, .one (vw Thing.cod r2)), (36, .agg [li .i64 x35.ID, li .i64 x35.At.X, li .i64 x35.At.Y, li .i64 x35.F.a0.N, ls x35.F.a0.Text, li .i64 x35.F.a1.N, ls x35.F.a1.Text, li .i64 x35.F.a2.N, ls x35.F.a2.Text, li .i64 x35.F.a3.N, ls x35.F.a3.Text])] [] (by kernel_rfl) ?_
          refine SimI.bind (og := ix r2 i14) { dst := some 39, op := POp.iaddrS 11 (Operand.tmp 37) (Operand.tmp 38), guard := none, hints := [(37, Hint.imm), (38, Hint.imm)] } (fun x36 => [(39, .one (.eptr (Thing.cod.enc x36) 0))]) (fun x36 => []) (by kernel_rfl) (fun x36 hr => pOp_eff (by kernel_rfl) (by kernel_rfl) (eff_idx (c := Thing.cod) (l := r2) (k := .i64) (n := i14) (by kernel_rfl) (by kernel_rfl) (by kernel_rfl) hr)) (fun x36 => ?_)
          refine SimI.run 1 [(40, .agg [li .i64 x36.ID, li .i64 x36.At.X, li .i64 x36.At.Y, li .i64 x36.F.a0.N, ls x36.F.a0.Text, li .i64 x36.F.a1.N, ls x36.F.a1.Text, li .i64 x36.F.a2.N, ls x36.F.a2.Text, li .i64 x36.F.a3.N, ls x36.F.a3.Text])] [] (by kernel_rfl) ?_
          refine SimI.bind (og := F50 n x35 x36) { dst := some 41, op := POp.call false [[], []] 50 [Operand.tmp 36, Operand.tmp 40], guard := none, hints := [(36, Hint.imm), (40, Hint.imm)] } (fun r37 => [(41, .tup [.agg [li .i64 r37.1.ID, li .u8 r37.1.Mask, li .i64 r37.1.At.X, li .i64 r37.1.At.Y, li .i64 r37.1.F.a0.N, ls r37.1.F.a0.Text, li .i64 r37.1.F.a1.N, ls r37.1.F.a1.Text, li .i64 r37.1.F.a2.N, ls r37.1.F.a2.Text, li .i64 r37.1.F.a3.N, ls r37.1.F.a3.Text], .one (lb r37.2)])]) (fun r37 => []) (by kernel_rfl) (fun r37 hr => pOp_eff (by kernel_rfl) (by kernel_rfl) (eff_call (ARGS := [.agg [li .i64 x35.ID, li .i64 x35.At.X, li .i64 x35.At.Y, li .i64 x35.F.a0.N, ls x35.F.a0.Text, li .i64 x35.F.a1.N, ls x35.F.a1.Text, li .i64 x35.F.a2.N, ls x35.F.a2.Text, li .i64 x35.F.a3.N, ls x35.F.a3.Text], .agg [li .i64 x36.ID, li .i64 x36.At.X, li .i64 x36.At.Y, li .i64 x36.F.a0.N, ls x36.F.a0.Text, li .i64 x36.F.a1.N, ls x36.F.a1.Text, li .i64 x36.F.a2.N, ls x36.F.a2.Text, li .i64 x36.F.a3.N, ls x36.F.a3.Text]]) (by kernel_rfl) (args_clean (by kernel_rfl) (args_clean (by kernel_rfl) args_nil)) (F50_ok n x35 x36 r37 hr) (by kernel_rfl))) (fun r37 => ?_)
          refine SimI.run 6 [(15, .one (lb r37.2)), (14, .one (.ptr 14 0)), (43, .one (lb r37.2)), (42, .agg [li .i64 r37.1.ID, li .u8 r37.1.Mask, li .i64 r37.1.At.X, li .i64 r37.1.At.Y, li .i64 r37.1.F.a0.N, ls r37.1.F.a0.Text, li .i64 r37.1.F.a1.N, ls r37.1.F.a1.Text, li .i64 r37.1.F.a2.N, ls r37.1.F.a2.Text, li .i64 r37.1.F.a3.N, ls r37.1.F.a3.Text]), (32, .tup [.agg [li .i64 r37.1.ID, li .u8 r37.1.Mask, li .i64 r37.1.At.X, li .i64 r37.1.At.Y, li .i64 r37.1.F.a0.N, ls r37.1.F.a0.Text, li .i64 r37.1.F.a1.N, ls r37.1.F.a1.Text, li .i64 r37.1.F.a2.N, ls r37.1.F.a2.Text, li .i64 r37.1.F.a3.N, ls r37.1.F.a3.Text], .one (lb r37.2)])] [(14, some (.cells [li .i64 r37.1.ID, li .u8 r37.1.Mask, li .i64 r37.1.At.X, li .i64 r37.1.At.Y, li .i64 r37.1.F.a0.N, ls r37.1.F.a0.Text, li .i64 r37.1.F.a1.N, ls r37.1.F.a1.Text, li .i64 r37.1.F.a2.N, ls r37.1.F.a2.Text, li .i64 r37.1.F.a3.N, ls r37.1.F.a3.Text])), (14, some (.cells [li .i64 0, li .u8 0, li .i64 0, li .i64 0, li .i64 0, ls ByteArray.empty, li .i64 0, ls ByteArray.empty, li .i64 0, ls ByteArray.empty, li .i64 0, ls ByteArray.empty]))] (by kernel_rfl) ?_
          refine SimI.done (by kernel_rfl) ?_
          refine SimE.thenN ?_
          refine Sim.seq ?_
          refine Sim.seq ?_
          refine Sim.region0 ?_
          refine SimI.run 1 [(44, .one (lb r37.2))] [] (by kernel_rfl) ?_
          refine SimI.done (by kernel_rfl) ?_
          refine SimE.thenN ?_
          refine Sim.cond r37.2 (by kernel_rfl) ?_ ?_
          · refine Sim.region0 ?_
            refine SimI.run 6 [(50, .one (vw Event.cod [(Event.mk 2 r37.1.ID (Thing.mk 0 (Point.mk 0 0) (A4.mk (Field.mk 0 ByteArray.empty) (Field.mk 0 ByteArray.empty) (Field.mk 0 ByteArray.empty) (Field.mk 0 ByteArray.empty))) r37.1)])), (49, .agg [li .i64 2, li .i64 r37.1.ID, li .i64 0, li .i64 0, li .i64 0, li .i64 0, ls ByteArray.empty, li .i64 0, ls ByteArray.empty, li .i64 0, ls ByteArray.empty, li .i64 0, ls ByteArray.empty, li .i64 r37.1.ID, li .u8 r37.1.Mask, li .i64 r37.1.At.X, li .i64 r37.1.At.Y, li .i64 r37.1.F.a0.N, ls r37.1.F.a0.Text, li .i64 r37.1.F.a1.N, ls r37.1.F.a1.Text, li .i64 r37.1.F.a2.N, ls r37.1.F.a2.Text, li .i64 r37.1.F.a3.N, ls r37.1.F.a3.Text]), (48, .agg [li .i64 r37.1.ID, li .u8 r37.1.Mask, li .i64 r37.1.At.X, li .i64 r37.1.At.Y, li .i64 r37.1.F.a0.N, ls r37.1.F.a0.Text, li .i64 r37.1.F.a1.N, ls r37.1.F.a1.Text, li .i64 r37.1.F.a2.N, ls r37.1.F.a2.Text, li .i64 r37.1.F.a3.N, ls r37.1.F.a3.Text]), (47, .one (li .i64 r37.1.ID)), (46, .one (.ptr 14 0)), (45, .one (lnil))] [] (by kernel_rfl) ?_
            refine SimI.guard (c := (([] : List Event).length + 1) * 264 ≤ maxCells ∧ ([] : List Event).length + 1 ≤ maxCells) { dst := some 51, op := POp.app 100011 45 25 264 (Operand.tmp 45) (Operand.tmp 50), guard := none, hints := [] } [(51, .one (.osl 100011 0 0 ([(Event.mk 2 r37.1.ID (Thing.mk 0 (Point.mk 0 0) (A4.mk (Field.mk 0 ByteArray.empty) (Field.mk 0 ByteArray.empty) (Field.mk 0 ByteArray.empty) (Field.mk 0 ByteArray.empty))) r37.1)]).length))] [(100011, some (.arr 45 Event.cod.sz 0 ([(Event.mk 2 r37.1.ID (Thing.mk 0 (Point.mk 0 0) (A4.mk (Field.mk 0 ByteArray.empty) (Field.mk 0 ByteArray.empty) (Field.mk 0 ByteArray.empty) (Field.mk 0 ByteArray.empty))) r37.1)]).length (getOf Event.cod [(Event.mk 2 r37.1.ID (Thing.mk 0 (Point.mk 0 0) (A4.mk (Field.mk 0 ByteArray.empty) (Field.mk 0 ByteArray.empty) (Field.mk 0 ByteArray.empty) (Field.mk 0 ByteArray.empty))) r37.1)])))] (by kernel_rfl) (fun hc => pOp_eff (by kernel_rfl) (by kernel_rfl) (eff_appN (c := Event.cod) (a := (Event.mk 2 r37.1.ID (Thing.mk 0 (Point.mk 0 0) (A4.mk (Field.mk 0 ByteArray.empty) (Field.mk 0 ByteArray.empty) (Field.mk 0 ByteArray.empty) (Field.mk 0 ByteArray.empty))) r37.1)) (by kernel_rfl) (by kernel_rfl) (by kernel_rfl) (by kernel_rfl) (by kernel_rfl) (by kernel_rfl))) ?_
            refine SimI.run 1 [(11, .one (.osl 100011 0 0 ([(Event.mk 2 r37.1.ID (Thing.mk 0 (Point.mk 0 0) (A4.mk (Field.mk 0 ByteArray.empty) (Field.mk 0 ByteArray.empty) (Field.mk 0 ByteArray.empty) (Field.mk 0 ByteArray.empty))) r37.1)]).length))] [] (by kernel_rfl) ?_
            refine SimI.done (by kernel_rfl) ?_
            refine SimE.thenN ?_
            refine Sim.pre (ts := [9, 10, 11, 12, 13]) (os := [14, 100011]) [(9, .one (vw Thing.cod r1)), (10, .one (vw Thing.cod r2)), (11, .one (ownL 100011 0 [(Event.mk 2 r37.1.ID (Thing.mk 0 (Point.mk 0 0) (A4.mk (Field.mk 0 ByteArray.empty) (Field.mk 0 ByteArray.empty) (Field.mk 0 ByteArray.empty) (Field.mk 0 ByteArray.empty))) r37.1)])), (12, .one (li .i64 i13)), (13, .one (li .i64 i14))] (ownM Event.cod 45 100011 0 [(Event.mk 2 r37.1.ID (Thing.mk 0 (Point.mk 0 0) (A4.mk (Field.mk 0 ByteArray.empty) (Field.mk 0 ByteArray.empty) (Field.mk 0 ByteArray.empty) (Field.mk 0 ByteArray.empty))) r37.1)] []) (by kernel_rfl) (by kernel_rfl) (by kernel_rfl) ?_
            exact F19_j40_ok n r1 r2 i13 i14 rec_l15 m_l15 ih_l15 [(Event.mk 2 r37.1.ID (Thing.mk 0 (Point.mk 0 0) (A4.mk (Field.mk 0 ByteArray.empty) (Field.mk 0 ByteArray.empty) (Field.mk 0 ByteArray.empty) (Field.mk 0 ByteArray.empty))) r37.1)] 0
          · refine Sim.skip ?_
            refine SimE.thenN ?_
            refine Sim.pre (ts := [9, 10, 11, 12, 13]) (os := [14, 100011]) [(9, .one (vw Thing.cod r1)), (10, .one (vw Thing.cod r2)), (11, .one (ownL 100011 0 ([] : List Event))), (12, .one (li .i64 i13)), (13, .one (li .i64 i14))] (ownM Event.cod 45 100011 0 ([] : List Event) []) (by kernel_rfl) (by kernel_rfl) (by kernel_rfl) ?_
            exact F19_j40_ok n r1 r2 i13 i14 rec_l15 m_l15 ih_l15 ([] : List Event) 0
    | cons l25h l25t =>
      unfold F19_j27
      refine Sim.seq ?_
      refine Sim.region [(9, .one (vw Thing.cod r1)), (10, .one (vw Thing.cod r2)), (11, .one (.osl 100011 g26 0 ((l25h :: l25t)).length)), (12, .one (li .i64 i13)), (13, .one (li .i64 i14))] ((100011, some (.arr 45 Event.cod.sz g26 ((l25h :: l25t)).length (getOf Event.cod (l25h :: l25t)))) :: []) (by kernel_rfl) ?_
      refine SimI.run 5 [(96, .one (lb (i13 == ((r1).length : Int)))), (95, .one (lb (i13 == ((r1).length : Int)))), (94, .one (li .i64 ((r1).length : Int))), (93, .one (vw Thing.cod r1)), (92, .one (li .i64 i13))] [] (by kernel_rfl) ?_
      refine SimI.split 96 (i13 == ((r1).length : Int)) (by kernel_rfl) ?_ ?_
      · refine SimI.run 13 [(91, .one (lb true)), (108, .one (lb true)), (107, .tup []), (106, .tup []), (105, .tup []), (104, .tup []), (103, .tup []), (102, .tup []), (101, .tup []), (100, .tup []), (99, .tup []), (98, .tup []), (97, .tup [])] [] (by kernel_rfl) ?_
        refine SimI.done (by kernel_rfl) ?_
        refine SimE.thenN ?_
        refine Sim.condT (by kernel_rfl) ?_
        refine Sim.pre (ts := [9, 10, 11, 12, 13]) (os := [100011]) [(9, .one (vw Thing.cod r1)), (10, .one (vw Thing.cod r2)), (11, .one (ownL 100011 g26 (l25h :: l25t))), (12, .one (li .i64 i13)), (13, .one (li .i64 i14))] (ownM Event.cod 45 100011 g26 (l25h :: l25t) []) (by kernel_rfl) (by kernel_rfl) (by kernel_rfl) ?_
        exact F19_j32_ok n a0 a1 a2 a3 r1 r2 i13 i14 rec_l15 m_l15 ih_l15 (l25h :: l25t) g26
      · refine SimI.run 2 [(98, .one (li .i64 i14)), (97, .one (vw Thing.cod r2))] [] (by kernel_rfl) ?_
        refine SimI.bind (og := ix r2 i14) { dst := some 99, op := POp.iaddrS 11 (Operand.tmp 97) (Operand.tmp 98), guard := some (96, false), hints := [(97, Hint.imm), (98, Hint.imm)] } (fun x28 => [(99, .one (.eptr (Thing.cod.enc x28) 0))]) (fun x28 => []) (by kernel_rfl) (fun x28 hr => pOp_eff (by kernel_rfl) (by kernel_rfl) (eff_idx (c := Thing.cod) (l := r2) (k := .i64) (n := i14) (by kernel_rfl) (by kernel_rfl) (by kernel_rfl) hr)) (fun x28 => ?_)
        refine SimI.run 4 [(103, .one (li .i64 i13)), (102, .one (vw Thing.cod r1)), (101, .one (li .i64 x28.ID)), (100, .one (.eptr (Thing.cod.enc x28) 0))] [] (by kernel_rfl) ?_
        refine SimI.bind (og := ix r1 i13) { dst := some 104, op := POp.iaddrS 11 (Operand.tmp 102) (Operand.tmp 103), guard := some (96, false), hints := [(102, Hint.imm), (103, Hint.imm)] } (fun x29 => [(104, .one (.eptr (Thing.cod.enc x29) 0))]) (fun x29 => []) (by kernel_rfl) (fun x29 hr => pOp_eff (by kernel_rfl) (by kernel_rfl) (eff_idx (c := Thing.cod) (l := r1) (k := .i64) (n := i13) (by kernel_rfl) (by kernel_rfl) (by kernel_rfl) hr)) (fun x29 => ?_)
        refine SimI.run 5 [(91, .one (lb (decide (x28.ID < x29.ID)))), (108, .one (lb (decide (x28.ID < x29.ID)))), (107, .one (lb (decide (x28.ID < x29.ID)))), (106, .one (li .i64 x29.ID)), (105, .one (.eptr (Thing.cod.enc x29) 0))] [] (by kernel_rfl) ?_
        refine SimI.done (by kernel_rfl) ?_
        refine SimE.thenN ?_
        refine Sim.cond (decide (x28.ID < x29.ID)) (by kernel_rfl) ?_ ?_
        · refine Sim.pre (ts := [9, 10, 11, 12, 13]) (os := [100011]) [(9, .one (vw Thing.cod r1)), (10, .one (vw Thing.cod r2)), (11, .one (ownL 100011 g26 (l25h :: l25t))), (12, .one (li .i64 i13)), (13, .one (li .i64 i14))] (ownM Event.cod 45 100011 g26 (l25h :: l25t) []) (by kernel_rfl) (by kernel_rfl) (by kernel_rfl) ?_
          exact F19_j32_ok n a0 a1 a2 a3 r1 r2 i13 i14 rec_l15 m_l15 ih_l15 (l25h :: l25t) g26
        · refine Sim.seq ?_
          refine Sim.region0 ?_
          refine SimI.run 2 [(34, .one (li .i64 i13)), (33, .one (vw Thing.cod r1))] [] (by kernel_rfl) ?_
          refine SimI.bind (og := ix r1 i13) { dst := some 35, op := POp.iaddrS 11 (Operand.tmp 33) (Operand.tmp 34), guard := none, hints := [(33, Hint.imm), (34, Hint.imm)] } (fun x35 => [(35, .one (.eptr (Thing.cod.enc x35) 0))]) (fun x35 => []) (by kernel_rfl) (fun x35 hr => pOp_eff (by kernel_rfl) (by kernel_rfl) (eff_idx (c := Thing.cod) (l := r1) (k := .i64) (n := i13) (by kernel_rfl) (by kernel_rfl) (by kernel_rfl) hr)) (fun x35 => ?_)
          refine SimI.run 3 [(38, .one (li .i64 i14)), (37, .one (vw Thing.cod r2)), (36, .agg [li .i64 x35.ID, li .i64 x35.At.X, li .i64 x35.At.Y, li .i64 x35.F.a0.N, ls x35.F.a0.Text, li .i64 x35.F.a1.N, ls x35.F.a1.Text, li .i64 x35.F.a2.N, ls x35.F.a2.Text, li .i64 x35.F.a3.N, ls x35.F.a3.Text])] [] (by kernel_rfl) ?_
          refine SimI.bind (og := ix r2 i14) { dst := some 39, op := POp.iaddrS 11 (Operand.tmp 37) (Operand.tmp 38), guard := none, hints := [(37, Hint.imm), (38, Hint.imm)] } (fun x36 => [(39, .one (.eptr (Thing.cod.enc x36) 0))]) (fun x36 => []) (by kernel_rfl) (fun x36 hr => pOp_eff (by kernel_rfl) (by kernel_rfl) (eff_idx (c := Thing.cod) (l := r2) (k := .i64) (n := i14) (by kernel_rfl) (by kernel_rfl) (by kernel_rfl) hr)) (fun x36 => ?_)
          refine SimI.run 1 [(40, .agg [li .i64 x36.ID, li .i64 x36.At.X, li .i64 x36.At.Y, li .i64 x36.F.a0.N, ls x36.F.a0.Text, li .i64 x36.F.a1.N, ls x36.F.a1.Text, li .i64 x36.F.a2.N, ls x36.F.a2.Text, li .i64 x36.F.a3.N, ls x36.F.a3.Text])] [] (by kernel_rfl) ?_
          refine SimI.bind (og := F50 n x35 x36) { dst := some 41, op := POp.call false [[], []] 50 [Operand.tmp 36, Operand.tmp 40], guard := none, hints := [(36, Hint.imm), (40, Hint.imm)] } (fun r37 => [(41, .tup [.agg [li .i64 r37.1.ID, li .u8 r37.1.Mask, li .i64 r37.1.At.X, li .i64 r37.1.At.Y, li .i64 r37.1.F.a0.N, ls r37.1.F.a0.Text, li .i64 r37.1.F.a1.N, ls r37.1.F.a1.Text, li .i64 r37.1.F.a2.N, ls r37.1.F.a2.Text, li .i64 r37.1.F.a3.N, ls r37.1.F.a3.Text], .one (lb r37.2)])]) (fun r37 => []) (by kernel_rfl) (fun r37 hr => pOp_eff (by kernel_rfl) (by kernel_rfl) (eff_call (ARGS := [.agg [li .i64 x35.ID, li .i64 x35.At.X, li .i64 x35.At.Y, li .i64 x35.F.a0.N, ls x35.F.a0.Text, li .i64 x35.F.a1.N, ls x35.F.a1.Text, li .i64 x35.F.a2.N, ls x35.F.a2.Text, li .i64 x35.F.a3.N, ls x35.F.a3.Text], .agg [li .i64 x36.ID, li .i64 x36.At.X, li .i64 x36.At.Y, li .i64 x36.F.a0.N, ls x36.F.a0.Text, li .i64 x36.F.a1.N, ls x36.F.a1.Text, li .i64 x36.F.a2.N, ls x36.F.a2.Text, li .i64 x36.F.a3.N, ls x36.F.a3.Text]]) (by kernel_rfl) (args_clean (by kernel_rfl) (args_clean (by kernel_rfl) args_nil)) (F50_ok n x35 x36 r37 hr) (by kernel_rfl))) (fun r37 => ?_)
          refine SimI.run 6 [(15, .one (lb r37.2)), (14, .one (.ptr 14 0)), (43, .one (lb r37.2)), (42, .agg [li .i64 r37.1.ID, li .u8 r37.1.Mask, li .i64 r37.1.At.X, li .i64 r37.1.At.Y, li .i64 r37.1.F.a0.N, ls r37.1.F.a0.Text, li .i64 r37.1.F.a1.N, ls r37.1.F.a1.Text, li .i64 r37.1.F.a2.N, ls r37.1.F.a2.Text, li .i64 r37.1.F.a3.N, ls r37.1.F.a3.Text]), (32, .tup [.agg [li .i64 r37.1.ID, li .u8 r37.1.Mask, li .i64 r37.1.At.X, li .i64 r37.1.At.Y, li .i64 r37.1.F.a0.N, ls r37.1.F.a0.Text, li .i64 r37.1.F.a1.N, ls r37.1.F.a1.Text, li .i64 r37.1.F.a2.N, ls r37.1.F.a2.Text, li .i64 r37.1.F.a3.N, ls r37.1.F.a3.Text], .one (lb r37.2)])] [(14, some (.cells [li .i64 r37.1.ID, li .u8 r37.1.Mask, li .i64 r37.1.At.X, li .i64 r37.1.At.Y, li .i64 r37.1.F.a0.N, ls r37.1.F.a0.Text, li .i64 r37.1.F.a1.N, ls r37.1.F.a1.Text, li .i64 r37.1.F.a2.N, ls r37.1.F.a2.Text, li .i64 r37.1.F.a3.N, ls r37.1.F.a3.Text])), (14, some (.cells [li .i64 0, li .u8 0, li .i64 0, li .i64 0, li .i64 0, ls ByteArray.empty, li .i64 0, ls ByteArray.empty, li .i64 0, ls ByteArray.empty, li .i64 0, ls ByteArray.empty]))] (by kernel_rfl) ?_
          refine SimI.done (by kernel_rfl) ?_
          refine SimE.thenN ?_
          refine Sim.seq ?_
          refine Sim.seq ?_
          refine Sim.region0 ?_
          refine SimI.run 1 [(44, .one (lb r37.2))] [] (by kernel_rfl) ?_
          refine SimI.done (by kernel_rfl) ?_
          refine SimE.thenN ?_
          refine Sim.cond r37.2 (by kernel_rfl) ?_ ?_
          · refine Sim.region0 ?_
            refine SimI.run 6 [(50, .one (vw Event.cod [(Event.mk 2 r37.1.ID (Thing.mk 0 (Point.mk 0 0) (A4.mk (Field.mk 0 ByteArray.empty) (Field.mk 0 ByteArray.empty) (Field.mk 0 ByteArray.empty) (Field.mk 0 ByteArray.empty))) r37.1)])), (49, .agg [li .i64 2, li .i64 r37.1.ID, li .i64 0, li .i64 0, li .i64 0, li .i64 0, ls ByteArray.empty, li .i64 0, ls ByteArray.empty, li .i64 0, ls ByteArray.empty, li .i64 0, ls ByteArray.empty, li .i64 r37.1.ID, li .u8 r37.1.Mask, li .i64 r37.1.At.X, li .i64 r37.1.At.Y, li .i64 r37.1.F.a0.N, ls r37.1.F.a0.Text, li .i64 r37.1.F.a1.N, ls r37.1.F.a1.Text, li .i64 r37.1.F.a2.N, ls r37.1.F.a2.Text, li .i64 r37.1.F.a3.N, ls r37.1.F.a3.Text]), (48, .agg [li .i64 r37.1.ID, li .u8 r37.1.Mask, li .i64 r37.1.At.X, li .i64 r37.1.At.Y, li .i64 r37.1.F.a0.N, ls r37.1.F.a0.Text, li .i64 r37.1.F.a1.N, ls r37.1.F.a1.Text, li .i64 r37.1.F.a2.N, ls r37.1.F.a2.Text, li .i64 r37.1.F.a3.N, ls r37.1.F.a3.Text]), (47, .one (li .i64 r37.1.ID)), (46, .one (.ptr 14 0)), (45, .one (.osl 100011 g26 0 ((l25h :: l25t)).length))] [] (by kernel_rfl) ?_
            refine SimI.guard (c := (((l25h :: l25t)).length + 1) * 264 ≤ maxCells ∧ ((l25h :: l25t)).length + 1 ≤ maxCells) { dst := some 51, op := POp.app 100011 45 25 264 (Operand.tmp 45) (Operand.tmp 50), guard := none, hints := [] } [(51, .one (.osl 100011 (g26 + 1) 0 (((l25h :: l25t) ++ [(Event.mk 2 r37.1.ID (Thing.mk 0 (Point.mk 0 0) (A4.mk (Field.mk 0 ByteArray.empty) (Field.mk 0 ByteArray.empty) (Field.mk 0 ByteArray.empty) (Field.mk 0 ByteArray.empty))) r37.1)])).length))] [(100011, some (.arr 45 Event.cod.sz (g26 + 1) (((l25h :: l25t) ++ [(Event.mk 2 r37.1.ID (Thing.mk 0 (Point.mk 0 0) (A4.mk (Field.mk 0 ByteArray.empty) (Field.mk 0 ByteArray.empty) (Field.mk 0 ByteArray.empty) (Field.mk 0 ByteArray.empty))) r37.1)])).length (getOf Event.cod ((l25h :: l25t) ++ [(Event.mk 2 r37.1.ID (Thing.mk 0 (Point.mk 0 0) (A4.mk (Field.mk 0 ByteArray.empty) (Field.mk 0 ByteArray.empty) (Field.mk 0 ByteArray.empty) (Field.mk 0 ByteArray.empty))) r37.1)]))))] (by kernel_rfl) (fun hc => pOp_eff (by kernel_rfl) (by kernel_rfl) (eff_appO (c := Event.cod) (g := g26) (l := (l25h :: l25t)) (a := (Event.mk 2 r37.1.ID (Thing.mk 0 (Point.mk 0 0) (A4.mk (Field.mk 0 ByteArray.empty) (Field.mk 0 ByteArray.empty) (Field.mk 0 ByteArray.empty) (Field.mk 0 ByteArray.empty))) r37.1)) (by kernel_rfl) (by kernel_rfl) (by kernel_rfl) (by kernel_rfl) hc)) ?_
            refine SimI.run 1 [(11, .one (.osl 100011 (g26 + 1) 0 (((l25h :: l25t) ++ [(Event.mk 2 r37.1.ID (Thing.mk 0 (Point.mk 0 0) (A4.mk (Field.mk 0 ByteArray.empty) (Field.mk 0 ByteArray.empty) (Field.mk 0 ByteArray.empty) (Field.mk 0 ByteArray.empty))) r37.1)])).length))] [] (by kernel_rfl) ?_
            refine SimI.done (by kernel_rfl) ?_
            refine SimE.thenN ?_
            refine Sim.pre (ts := [9, 10, 11, 12, 13]) (os := [14, 100011]) [(9, .one (vw Thing.cod r1)), (10, .one (vw Thing.cod r2)), (11, .one (ownL 100011 (g26 + 1) ((l25h :: l25t) ++ [(Event.mk 2 r37.1.ID (Thing.mk 0 (Point.mk 0 0) (A4.mk (Field.mk 0 ByteArray.empty) (Field.mk 0 ByteArray.empty) (Field.mk 0 ByteArray.empty) (Field.mk 0 ByteArray.empty))) r37.1)]))), (12, .one (li .i64 i13)), (13, .one (li .i64 i14))] (ownM Event.cod 45 100011 (g26 + 1) ((l25h :: l25t) ++ [(Event.mk 2 r37.1.ID (Thing.mk 0 (Point.mk 0 0) (A4.mk (Field.mk 0 ByteArray.empty) (Field.mk 0 ByteArray.empty) (Field.mk 0 ByteArray.empty) (Field.mk 0 ByteArray.empty))) r37.1)]) []) (by kernel_rfl) (by kernel_rfl) (by kernel_rfl) ?_
            exact F19_j40_ok n r1 r2 i13 i14 rec_l15 m_l15 ih_l15 ((l25h :: l25t) ++ [(Event.mk 2 r37.1.ID (Thing.mk 0 (Point.mk 0 0) (A4.mk (Field.mk 0 ByteArray.empty) (Field.mk 0 ByteArray.empty) (Field.mk 0 ByteArray.empty) (Field.mk 0 ByteArray.empty))) r37.1)]) (g26 + 1)
          · refine Sim.skip ?_
            refine SimE.thenN ?_
            refine Sim.pre (ts := [9, 10, 11, 12, 13]) (os := [14, 100011]) [(9, .one (vw Thing.cod r1)), (10, .one (vw Thing.cod r2)), (11, .one (ownL 100011 g26 (l25h :: l25t))), (12, .one (li .i64 i13)), (13, .one (li .i64 i14))] (ownM Event.cod 45 100011 g26 (l25h :: l25t) []) (by kernel_rfl) (by kernel_rfl) (by kernel_rfl) ?_
            exact F19_j40_ok n r1 r2 i13 i14 rec_l15 m_l15 ih_l15 (l25h :: l25t) g26

def F19_j18 (n : Nat) (r1 : (List Thing)) (r2 : (List Thing)) (i13 : Int) (i14 : Int) (rec_l15 : (List Event) → Int → Int → Option (List Event)) (l16 : (List Event)) : Option (List Event) :=
    if i14 == ((r2).length : Int) then
      F19_j23 n r1 i13 i14 rec_l15 l16
    else
      if decide (i13 < ((r1).length : Int)) then
        (ix r1 i13).bind fun (x19 : Thing) =>
        (ix r2 i14).bind fun (x20 : Thing) =>
        if decide (x19.ID < x20.ID) then
          F19_j23 n r1 i13 i14 rec_l15 l16
        else
          F19_j27 n r1 r2 i13 i14 rec_l15 l16
      else
        F19_j27 n r1 r2 i13 i14 rec_l15 l16
theorem F19_j18_ok (n : Nat) (a0 : (List Thing)) (a1 : Rect) (a2 : (List Thing)) (a3 : Rect) (r1 : (List Thing)) (r2 : (List Thing)) (i13 : Int) (i14 : Int) (rec_l15 : (List Event) → Int → Int → Option (List Event)) (m_l15 : Nat) (ih_l15 : ∀ (l11 : (List Event)) (i13 : Int) (i14 : Int) (g12 : Nat), SimL Try.prog D (n + 8) m_l15 pc19_c35 [(9, .one (vw Thing.cod r1)), (10, .one (vw Thing.cod r2)), (11, .one (ownL 100011 g12 l11)), (12, .one (li .i64 i13)), (13, .one (li .i64 i14))] (ownM Event.cod 45 100011 g12 l11 []) (rec_l15 l11 i13 i14) (QB 0 (QT Try.prog D (n + 8) pc19_c40 (QF pc19_r 0 F19_e)))) (l16 : (List Event)) (g17 : Nat) : Sim Try.prog D (n + 8) pc19_c34 [(9, .one (vw Thing.cod r1)), (10, .one (vw Thing.cod r2)), (11, .one (ownL 100011 g17 l16)), (12, .one (li .i64 i13)), (13, .one (li .i64 i14))] (ownM Event.cod 45 100011 g17 l16 []) (F19_j18 n r1 r2 i13 i14 rec_l15 l16) (QL Try.prog D (n + 8) m_l15 pc19_c35 (QB 0 (QT Try.prog D (n + 8) pc19_c40 (QF pc19_r 0 F19_e)))) := by
    cases l16 with
    | nil =>
      unfold F19_j18
      refine Sim.block ?_
      refine Sim.block ?_
      refine Sim.seq ?_
      refine Sim.region [(9, .one (vw Thing.cod r1)), (10, .one (vw Thing.cod r2)), (11, .one (lnil)), (12, .one (li .i64 i13)), (13, .one (li .i64 i14))] [] (by kernel_rfl) ?_
      refine SimI.run 5 [(61, .one (lb (i14 == ((r2).length : Int)))), (60, .one (lb (i14 == ((r2).length : Int)))), (59, .one (li .i64 ((r2).length : Int))), (58, .one (vw Thing.cod r2)), (57, .one (li .i64 i14))] [] (by kernel_rfl) ?_
      refine SimI.split 61 (i14 == ((r2).length : Int)) (by kernel_rfl) ?_ ?_
      · refine SimI.run 19 [(56, .one (lb true)), (79, .one (lb true)), (78, .tup []), (77, .tup []), (76, .tup []), (75, .tup []), (74, .tup []), (73, .tup []), (72, .tup []), (71, .tup []), (70, .tup []), (69, .tup []), (68, .tup []), (67, .tup []), (66, .tup []), (65, .tup []), (64, .tup []), (63, .tup []), (62, .tup [])] [] (by kernel_rfl) ?_
        refine SimI.done (by kernel_rfl) ?_
        refine SimE.thenN ?_
        refine Sim.condT (by kernel_rfl) ?_
        refine Sim.pre (ts := [9, 10, 11, 12, 13]) (os := [100011]) [(9, .one (vw Thing.cod r1)), (10, .one (vw Thing.cod r2)), (11, .one (ownL 100011 0 ([] : List Event))), (12, .one (li .i64 i13)), (13, .one (li .i64 i14))] (ownM Event.cod 45 100011 0 ([] : List Event) []) (by kernel_rfl) (by kernel_rfl) (by kernel_rfl) ?_
        exact F19_j23_ok n r1 r2 i13 i14 rec_l15 m_l15 ih_l15 ([] : List Event) 0
      · refine SimI.run 5 [(66, .one (lb (decide (i13 < ((r1).length : Int))))), (65, .one (lb (decide (i13 < ((r1).length : Int))))), (64, .one (li .i64 ((r1).length : Int))), (63, .one (vw Thing.cod r1)), (62, .one (li .i64 i13))] [] (by kernel_rfl) ?_
        refine SimI.split 66 (decide (i13 < ((r1).length : Int))) (by kernel_rfl) ?_ ?_
        · refine SimI.run 2 [(68, .one (li .i64 i13)), (67, .one (vw Thing.cod r1))] [] (by kernel_rfl) ?_
          refine SimI.bind (og := ix r1 i13) { dst := some 69, op := POp.iaddrS 11 (Operand.tmp 67) (Operand.tmp 68), guard := some (66, true), hints := [(67, Hint.imm), (68, Hint.imm)] } (fun x19 => [(69, .one (.eptr (Thing.cod.enc x19) 0))]) (fun x19 => []) (by kernel_rfl) (fun x19 hr => pOp_eff (by kernel_rfl) (by kernel_rfl) (eff_idx (c := Thing.cod) (l := r1) (k := .i64) (n := i13) (by kernel_rfl) (by kernel_rfl) (by kernel_rfl) hr)) (fun x19 => ?_)
          refine SimI.run 4 [(73, .one (li .i64 i14)), (72, .one (vw Thing.cod r2)), (71, .one (li .i64 x19.ID)), (70, .one (.eptr (Thing.cod.enc x19) 0))] [] (by kernel_rfl) ?_
          refine SimI.bind (og := ix r2 i14) { dst := some 74, op := POp.iaddrS 11 (Operand.tmp 72) (Operand.tmp 73), guard := some (66, true), hints := [(72, Hint.imm), (73, Hint.imm)] } (fun x20 => [(74, .one (.eptr (Thing.cod.enc x20) 0))]) (fun x20 => []) (by kernel_rfl) (fun x20 hr => pOp_eff (by kernel_rfl) (by kernel_rfl) (eff_idx (c := Thing.cod) (l := r2) (k := .i64) (n := i14) (by kernel_rfl) (by kernel_rfl) (by kernel_rfl) hr)) (fun x20 => ?_)
          refine SimI.run 6 [(56, .one (lb (decide (x19.ID < x20.ID)))), (79, .one (lb (decide (x19.ID < x20.ID)))), (78, .one (lb (decide (x19.ID < x20.ID)))), (77, .one (lb (decide (x19.ID < x20.ID)))), (76, .one (li .i64 x20.ID)), (75, .one (.eptr (Thing.cod.enc x20) 0))] [] (by kernel_rfl) ?_
          refine SimI.done (by kernel_rfl) ?_
          refine SimE.thenN ?_
          refine Sim.cond (decide (x19.ID < x20.ID)) (by kernel_rfl) ?_ ?_
          · refine Sim.pre (ts := [9, 10, 11, 12, 13]) (os := [100011]) [(9, .one (vw Thing.cod r1)), (10, .one (vw Thing.cod r2)), (11, .one (ownL 100011 0 ([] : List Event))), (12, .one (li .i64 i13)), (13, .one (li .i64 i14))] (ownM Event.cod 45 100011 0 ([] : List Event) []) (by kernel_rfl) (by kernel_rfl) (by kernel_rfl) ?_
            exact F19_j23_ok n r1 r2 i13 i14 rec_l15 m_l15 ih_l15 ([] : List Event) 0
          · refine Sim.pre (ts := [9, 10, 11, 12, 13]) (os := [100011]) [(9, .one (vw Thing.cod r1)), (10, .one (vw Thing.cod r2)), (11, .one (ownL 100011 0 ([] : List Event))), (12, .one (li .i64 i13)), (13, .one (li .i64 i14))] (ownM Event.cod 45 100011 0 ([] : List Event) []) (by kernel_rfl) (by kernel_rfl) (by kernel_rfl) ?_
            exact F19_j27_ok n a0 a1 a2 a3 r1 r2 i13 i14 rec_l15 m_l15 ih_l15 ([] : List Event) 0
        · refine SimI.run 14 [(56, .one (lb false)), (79, .one (lb false)), (78, .one (lb false)), (77, .tup []), (76, .tup []), (75, .tup []), (74, .tup []), (73, .tup []), (72, .tup []), (71, .tup []), (70, .tup []), (69, .tup []), (68, .tup []), (67, .tup [])] [] (by kernel_rfl) ?_
          refine SimI.done (by kernel_rfl) ?_
          refine SimE.thenN ?_
          refine Sim.condF (by kernel_rfl) ?_
          refine Sim.pre (ts := [9, 10, 11, 12, 13]) (os := [100011]) [(9, .one (vw Thing.cod r1)), (10, .one (vw Thing.cod r2)), (11, .one (ownL 100011 0 ([] : List Event))), (12, .one (li .i64 i13)), (13, .one (li .i64 i14))] (ownM Event.cod 45 100011 0 ([] : List Event) []) (by kernel_rfl) (by kernel_rfl) (by kernel_rfl) ?_
          exact F19_j27_ok n a0 a1 a2 a3 r1 r2 i13 i14 rec_l15 m_l15 ih_l15 ([] : List Event) 0
    | cons l16h l16t =>
      unfold F19_j18
      refine Sim.block ?_
      refine Sim.block ?_
      refine Sim.seq ?_
      refine Sim.region [(9, .one (vw Thing.cod r1)), (10, .one (vw Thing.cod r2)), (11, .one (.osl 100011 g17 0 ((l16h :: l16t)).length)), (12, .one (li .i64 i13)), (13, .one (li .i64 i14))] ((100011, some (.arr 45 Event.cod.sz g17 ((l16h :: l16t)).length (getOf Event.cod (l16h :: l16t)))) :: []) (by kernel_rfl) ?_
      refine SimI.run 5 [(61, .one (lb (i14 == ((r2).length : Int)))), (60, .one (lb (i14 == ((r2).length : Int)))), (59, .one (li .i64 ((r2).length : Int))), (58, .one (vw Thing.cod r2)), (57, .one (li .i64 i14))] [] (by kernel_rfl) ?_
      refine SimI.split 61 (i14 == ((r2).length : Int)) (by kernel_rfl) ?_ ?_
      · refine SimI.run 19 [(56, .one (lb true)), (79, .one (lb true)), (78, .tup []), (77, .tup []), (76, .tup []), (75, .tup []), (74, .tup []), (73, .tup []), (72, .tup []), (71, .tup []), (70, .tup []), (69, .tup []), (68, .tup []), (67, .tup []), (66, .tup []), (65, .tup []), (64, .tup []), (63, .tup []), (62, .tup [])] [] (by kernel_rfl) ?_
        refine SimI.done (by kernel_rfl) ?_
        refine SimE.thenN ?_
        refine Sim.condT (by kernel_rfl) ?_
        refine Sim.pre (ts := [9, 10, 11, 12, 13]) (os := [100011]) [(9, .one (vw Thing.cod r1)), (10, .one (vw Thing.cod r2)), (11, .one (ownL 100011 g17 (l16h :: l16t))), (12, .one (li .i64 i13)), (13, .one (li .i64 i14))] (ownM Event.cod 45 100011 g17 (l16h :: l16t) []) (by kernel_rfl) (by kernel_rfl) (by kernel_rfl) ?_
        exact F19_j23_ok n r1 r2 i13 i14 rec_l15 m_l15 ih_l15 (l16h :: l16t) g17
      · refine SimI.run 5 [(66, .one (lb (decide (i13 < ((r1).length : Int))))), (65, .one (lb (decide (i13 < ((r1).length : Int))))), (64, .one (li .i64 ((r1).length : Int))), (63, .one (vw Thing.cod r1)), (62, .one (li .i64 i13))] [] (by kernel_rfl) ?_
        refine SimI.split 66 (decide (i13 < ((r1).length : Int))) (by kernel_rfl) ?_ ?_
        · refine SimI.run 2 [(68, .one (li .i64 i13)), (67, .one (vw Thing.cod r1))] [] (by kernel_rfl) ?_
          refine SimI.bind (og := ix r1 i13) { dst := some 69, op := POp.iaddrS 11 (Operand.tmp 67) (Operand.tmp 68), guard := some (66, true), hints := [(67, Hint.imm), (68, Hint.imm)] } (fun x19 => [(69, .one (.eptr (Thing.cod.enc x19) 0))]) (fun x19 => []) (by kernel_rfl) (fun x19 hr => pOp_eff (by kernel_rfl) (by kernel_rfl) (eff_idx (c := Thing.cod) (l := r1) (k := .i64) (n := i13) (by kernel_rfl) (by kernel_rfl) (by kernel_rfl) hr)) (fun x19 => ?_)
          refine SimI.run 4 [(73, .one (li .i64 i14)), (72, .one (vw Thing.cod r2)), (71, .one (li .i64 x19.ID)), (70, .one (.eptr (Thing.cod.enc x19) 0))] [] (by kernel_rfl) ?_
          refine SimI.bind (og := ix r2 i14) { dst := some 74, op := POp.iaddrS 11 (Operand.tmp 72) (Operand.tmp 73), guard := some (66, true), hints := [(72, Hint.imm), (73, Hint.imm)] } (fun x20 => [(74, .one (.eptr (Thing.cod.enc x20) 0))]) (fun x20 => []) (by kernel_rfl) (fun x20 hr => pOp_eff (by kernel_rfl) (by kernel_rfl) (eff_idx (c := Thing.cod) (l := r2) (k := .i64) (n := i14) (by kernel_rfl) (by kernel_rfl) (by kernel_rfl) hr)) (fun x20 => ?_)
          refine SimI.run 6 [(56, .one (lb (decide (x19.ID < x20.ID)))), (79, .one (lb (decide (x19.ID < x20.ID)))), (78, .one (lb (decide (x19.ID < x20.ID)))), (77, .one (lb (decide (x19.ID < x20.ID)))), (76, .one (li .i64 x20.ID)), (75, .one (.eptr (Thing.cod.enc x20) 0))] [] (by kernel_rfl) ?_
          refine SimI.done (by kernel_rfl) ?_
          refine SimE.thenN ?_
          refine Sim.cond (decide (x19.ID < x20.ID)) (by kernel_rfl) ?_ ?_
          · refine Sim.pre (ts := [9, 10, 11, 12, 13]) (os := [100011]) [(9, .one (vw Thing.cod r1)), (10, .one (vw Thing.cod r2)), (11, .one (ownL 100011 g17 (l16h :: l16t))), (12, .one (li .i64 i13)), (13, .one (li .i64 i14))] (ownM Event.cod 45 100011 g17 (l16h :: l16t) []) (by kernel_rfl) (by kernel_rfl) (by kernel_rfl) ?_
            exact F19_j23_ok n r1 r2 i13 i14 rec_l15 m_l15 ih_l15 (l16h :: l16t) g17
          · refine Sim.pre (ts := [9, 10, 11, 12, 13]) (os := [100011]) [(9, .one (vw Thing.cod r1)), (10, .one (vw Thing.cod r2)), (11, .one (ownL 100011 g17 (l16h :: l16t))), (12, .one (li .i64 i13)), (13, .one (li .i64 i14))] (ownM Event.cod 45 100011 g17 (l16h :: l16t) []) (by kernel_rfl) (by kernel_rfl) (by kernel_rfl) ?_
            exact F19_j27_ok n a0 a1 a2 a3 r1 r2 i13 i14 rec_l15 m_l15 ih_l15 (l16h :: l16t) g17
        · refine SimI.run 14 [(56, .one (lb false)), (79, .one (lb false)), (78, .one (lb false)), (77, .tup []), (76, .tup []), (75, .tup []), (74, .tup []), (73, .tup []), (72, .tup []), (71, .tup []), (70, .tup []), (69, .tup []), (68, .tup []), (67, .tup [])] [] (by kernel_rfl) ?_
          refine SimI.done (by kernel_rfl) ?_
          refine SimE.thenN ?_
          refine Sim.condF (by kernel_rfl) ?_
          refine Sim.pre (ts := [9, 10, 11, 12, 13]) (os := [100011]) [(9, .one (vw Thing.cod r1)), (10, .one (vw Thing.cod r2)), (11, .one (ownL 100011 g17 (l16h :: l16t))), (12, .one (li .i64 i13)), (13, .one (li .i64 i14))] (ownM Event.cod 45 100011 g17 (l16h :: l16t) []) (by kernel_rfl) (by kernel_rfl) (by kernel_rfl) ?_
          exact F19_j27_ok n a0 a1 a2 a3 r1 r2 i13 i14 rec_l15 m_l15 ih_l15 (l16h :: l16t) g17

def F19_l15 (n : Nat) (r1 : (List Thing)) (r2 : (List Thing)) : Nat → (List Event) → Int → Int → Option (List Event)
  | 0, _, _, _ => none
  | m + 1, l11, i13, i14 =>
    if decide (i13 < ((r1).length : Int)) then
      F19_j18 n r1 r2 i13 i14 (F19_l15 n r1 r2 m) l11
    else
      if decide (i14 < ((r2).length : Int)) then
        F19_j18 n r1 r2 i13 i14 (F19_l15 n r1 r2 m) l11
      else
        some l11
theorem F19_l15_ok (n : Nat) (a0 : (List Thing)) (a1 : Rect) (a2 : (List Thing)) (a3 : Rect) (r1 : (List Thing)) (r2 : (List Thing)) : ∀ (m : Nat) (l11 : (List Event)) (i13 : Int) (i14 : Int) (g12 : Nat), SimL Try.prog D (n + 8) m pc19_c35 [(9, .one (vw Thing.cod r1)), (10, .one (vw Thing.cod r2)), (11, .one (ownL 100011 g12 l11)), (12, .one (li .i64 i13)), (13, .one (li .i64 i14))] (ownM Event.cod 45 100011 g12 l11 []) (F19_l15 n r1 r2 m l11 i13 i14) (QB 0 (QT Try.prog D (n + 8) pc19_c40 (QF pc19_r 0 F19_e))) := by
  intro m_l15
  induction m_l15 with
  | zero => intro l11 i13 i14 g12; exact SimL.zero'  rfl
  | succ m_l15 ih_l15 =>
    intro l11 i13 i14 g12
    cases l11 with
    | nil =>
      refine SimL.succ ?_
      unfold F19_l15
      refine Sim.seq ?_
      refine Sim.seq ?_
      refine Sim.region [(9, .one (vw Thing.cod r1)), (10, .one (vw Thing.cod r2)), (11, .one (lnil)), (12, .one (li .i64 i13)), (13, .one (li .i64 i14))] [] (by kernel_rfl) ?_
      refine SimI.run 5 [(26, .one (lb (decide (i13 < ((r1).length : Int))))), (25, .one (lb (decide (i13 < ((r1).length : Int))))), (24, .one (li .i64 ((r1).length : Int))), (23, .one (vw Thing.cod r1)), (22, .one (li .i64 i13))] [] (by kernel_rfl) ?_
      refine SimI.split 26 (decide (i13 < ((r1).length : Int))) (by kernel_rfl) ?_ ?_
      · refine SimI.run 5 [(31, .one (lb true)), (30, .tup []), (29, .tup []), (28, .tup []), (27, .tup [])] [] (by kernel_rfl) ?_
        refine SimI.done (by kernel_rfl) ?_
        refine SimE.thenN ?_
        refine Sim.condT (by kernel_rfl) ?_
        refine Sim.skip ?_
        refine SimE.thenN ?_
        refine Sim.pre (ts := [9, 10, 11, 12, 13]) (os := [100011]) [(9, .one (vw Thing.cod r1)), (10, .one (vw Thing.cod r2)), (11, .one (ownL 100011 0 ([] : List Event))), (12, .one (li .i64 i13)), (13, .one (li .i64 i14))] (ownM Event.cod 45 100011 0 ([] : List Event) []) (by kernel_rfl) (by kernel_rfl) (by kernel_rfl) ?_
        exact F19_j18_ok n a0 a1 a2 a3 r1 r2 i13 i14 (F19_l15 n r1 r2 m_l15) m_l15 ih_l15 ([] : List Event) 0
      · refine SimI.run 5 [(31, .one (lb (decide (i14 < ((r2).length : Int))))), (30, .one (lb (decide (i14 < ((r2).length : Int))))), (29, .one (li .i64 ((r2).length : Int))), (28, .one (vw Thing.cod r2)), (27, .one (li .i64 i14))] [] (by kernel_rfl) ?_
        refine SimI.done (by kernel_rfl) ?_
        refine SimE.thenN ?_
        refine Sim.cond (decide (i14 < ((r2).length : Int))) (by kernel_rfl) ?_ ?_
        · refine Sim.skip ?_
          refine SimE.thenN ?_
          refine Sim.pre (ts := [9, 10, 11, 12, 13]) (os := [100011]) [(9, .one (vw Thing.cod r1)), (10, .one (vw Thing.cod r2)), (11, .one (ownL 100011 0 ([] : List Event))), (12, .one (li .i64 i13)), (13, .one (li .i64 i14))] (ownM Event.cod 45 100011 0 ([] : List Event) []) (by kernel_rfl) (by kernel_rfl) (by kernel_rfl) ?_
          exact F19_j18_ok n a0 a1 a2 a3 r1 r2 i13 i14 (F19_l15 n r1 r2 m_l15) m_l15 ih_l15 ([] : List Event) 0
        · refine Sim.exit ?_
          refine SimE.thenX ?_
          refine SimE.loopX ?_
          refine SimE.blockX ?_
          refine SimE.thenN ?_
          refine Sim.seq ?_
          refine Sim.region0 ?_
          refine SimI.run 2 [(8, .one (lnil)), (124, .one (lnil))] [] (by kernel_rfl) ?_
          refine SimI.done (by kernel_rfl) ?_
          refine SimE.thenN ?_
          refine Sim.ret ?_
          exact SimE.fin (by kernel_rfl)
    | cons l11h l11t =>
      refine SimL.succ ?_
      unfold F19_l15
      refine Sim.seq ?_
      refine Sim.seq ?_
      refine Sim.region [(9, .one (vw Thing.cod r1)), (10, .one (vw Thing.cod r2)), (11, .one (.osl 100011 g12 0 ((l11h :: l11t)).length)), (12, .one (li .i64 i13)), (13, .one (li .i64 i14))] ((100011, some (.arr 45 Event.cod.sz g12 ((l11h :: l11t)).length (getOf Event.cod (l11h :: l11t)))) :: []) (by kernel_rfl) ?_
      refine SimI.run 5 [(26, .one (lb (decide (i13 < ((r1).length : Int))))), (25, .one (lb (decide (i13 < ((r1).length : Int))))), (24, .one (li .i64 ((r1).length : Int))), (23, .one (vw Thing.cod r1)), (22, .one (li .i64 i13))] [] (by kernel_rfl) ?_
      refine SimI.split 26 (decide (i13 < ((r1).length : Int))) (by kernel_rfl) ?_ ?_
      · refine SimI.run 5 [(31, .one (lb true)), (30, .tup []), (29, .tup []), (28, .tup []), (27, .tup [])] [] (by kernel_rfl) ?_
        refine SimI.done (by kernel_rfl) ?_
        refine SimE.thenN ?_
        refine Sim.condT (by kernel_rfl) ?_
        refine Sim.skip ?_
        refine SimE.thenN ?_
        refine Sim.pre (ts := [9, 10, 11, 12, 13]) (os := [100011]) [(9, .one (vw Thing.cod r1)), (10, .one (vw Thing.cod r2)), (11, .one (ownL 100011 g12 (l11h :: l11t))), (12, .one (li .i64 i13)), (13, .one (li .i64 i14))] (ownM Event.cod 45 100011 g12 (l11h :: l11t) []) (by kernel_rfl) (by kernel_rfl) (by kernel_rfl) ?_
        exact F19_j18_ok n a0 a1 a2 a3 r1 r2 i13 i14 (F19_l15 n r1 r2 m_l15) m_l15 ih_l15 (l11h :: l11t) g12
      · refine SimI.run 5 [(31, .one (lb (decide (i14 < ((r2).length : Int))))), (30, .one (lb (decide (i14 < ((r2).length : Int))))), (29, .one (li .i64 ((r2).length : Int))), (28, .one (vw Thing.cod r2)), (27, .one (li .i64 i14))] [] (by kernel_rfl) ?_
        refine SimI.done (by kernel_rfl) ?_
        refine SimE.thenN ?_
        refine Sim.cond (decide (i14 < ((r2).length : Int))) (by kernel_rfl) ?_ ?_
        · refine Sim.skip ?_
          refine SimE.thenN ?_
          refine Sim.pre (ts := [9, 10, 11, 12, 13]) (os := [100011]) [(9, .one (vw Thing.cod r1)), (10, .one (vw Thing.cod r2)), (11, .one (ownL 100011 g12 (l11h :: l11t))), (12, .one (li .i64 i13)), (13, .one (li .i64 i14))] (ownM Event.cod 45 100011 g12 (l11h :: l11t) []) (by kernel_rfl) (by kernel_rfl) (by kernel_rfl) ?_
          exact F19_j18_ok n a0 a1 a2 a3 r1 r2 i13 i14 (F19_l15 n r1 r2 m_l15) m_l15 ih_l15 (l11h :: l11t) g12
        · refine Sim.exit ?_
          refine SimE.thenX ?_
          refine SimE.loopX ?_
          refine SimE.blockX ?_
          refine SimE.thenN ?_
          refine Sim.seq ?_
          refine Sim.region0 ?_
          refine SimI.run 2 [(8, .one (.osl 100011 g12 0 ((l11h :: l11t)).length)), (124, .one (.osl 100011 g12 0 ((l11h :: l11t)).length))] [] (by kernel_rfl) ?_
          refine SimI.done (by kernel_rfl) ?_
          refine SimE.thenN ?_
          refine Sim.ret ?_
          exact SimE.fin (out_of (os := []) (ress_cons (resOf_own (c := Event.cod) (k := 100011) (g := g12) (el := 45) (l := (l11h :: l11t)) (by kernel_rfl) (by kernel_rfl)) (ress_nil)) (by kernel_rfl) (by kernel_rfl))

def F19 (n : Nat) (a0 : (List Thing)) (a1 : Rect) (a2 : (List Thing)) (a3 : Rect) : Option (List Event) :=
  (F22 n a0 a1).bind fun (r1 : (List Thing)) =>
  (F22 n a2 a3).bind fun (r2 : (List Thing)) =>
  F19_l15 n r1 r2 (n + 8) ([] : List Event) 0 0
theorem F19_ok (n : Nat) (a0 : (List Thing)) (a1 : Rect) (a2 : (List Thing)) (a3 : Rect) : ∀ r, F19 n a0 a1 a2 a3 = some r → D 19 [.one (vw Thing.cod a0), .agg [li .i64 a1.X0, li .i64 a1.Y0, li .i64 a1.X1, li .i64 a1.Y1], .one (vw Thing.cod a2), .agg [li .i64 a3.X0, li .i64 a3.Y0, li .i64 a3.X1, li .i64 a3.Y1]] [] = some (F19_e r) := by
  refine fn_to (D := D) (n := n + 8) (nt := 125) (rs := pc19_r) (c := pc19_c45) (L := [(0, .one (vw Thing.cod a0)), (1, .agg [li .i64 a1.X0, li .i64 a1.Y0, li .i64 a1.X1, li .i64 a1.Y1]), (2, .one (vw Thing.cod a2)), (3, .agg [li .i64 a3.X0, li .i64 a3.Y0, li .i64 a3.X1, li .i64 a3.Y1])]) (M := []) (k := 0) rfl rfl rfl rfl rfl rfl ?_
  unfold F19
  refine Sim.seq ?_
  refine Sim.region0 ?_
  refine SimI.run 3 [(8, .one (lnil)), (7, .one (.ptr 7 0)), (5, .one (.ptr 5 0))] [(7, some (.cells [li .i64 a3.X0, li .i64 a3.Y0, li .i64 a3.X1, li .i64 a3.Y1])), (5, some (.cells [li .i64 a1.X0, li .i64 a1.Y0, li .i64 a1.X1, li .i64 a1.Y1]))] (by kernel_rfl) ?_
  refine SimI.done (by kernel_rfl) ?_
  refine SimE.thenN ?_
  refine Sim.seq ?_
  refine Sim.region0 ?_
  refine SimI.run 2 [(17, .agg [li .i64 a1.X0, li .i64 a1.Y0, li .i64 a1.X1, li .i64 a1.Y1]), (16, .one (vw Thing.cod a0))] [] (by kernel_rfl) ?_
  refine SimI.bind (og := F22 n a0 a1) { dst := some 18, op := POp.call false [[(0, 11)], []] 22 [Operand.tmp 16, Operand.tmp 17], guard := none, hints := [(16, Hint.imm), (17, Hint.imm)] } (fun r1 => [(18, .one (vw Thing.cod r1))]) (fun r1 => []) (by kernel_rfl) (fun r1 hr => pOp_eff (by kernel_rfl) (by kernel_rfl) (eff_call (ARGS := [.one (vw Thing.cod a0), .agg [li .i64 a1.X0, li .i64 a1.Y0, li .i64 a1.X1, li .i64 a1.Y1]]) (by kernel_rfl) (args_clean (by kernel_rfl) (args_clean (by kernel_rfl) args_nil)) (F22_ok n a0 a1 r1 hr) (by kernel_rfl))) (fun r1 => ?_)
  refine SimI.run 2 [(20, .agg [li .i64 a3.X0, li .i64 a3.Y0, li .i64 a3.X1, li .i64 a3.Y1]), (19, .one (vw Thing.cod a2))] [] (by kernel_rfl) ?_
  refine SimI.bind (og := F22 n a2 a3) { dst := some 21, op := POp.call false [[(0, 11)], []] 22 [Operand.tmp 19, Operand.tmp 20], guard := none, hints := [(19, Hint.imm), (20, Hint.imm)] } (fun r2 => [(21, .one (vw Thing.cod r2))]) (fun r2 => []) (by kernel_rfl) (fun r2 hr => pOp_eff (by kernel_rfl) (by kernel_rfl) (eff_call (ARGS := [.one (vw Thing.cod a2), .agg [li .i64 a3.X0, li .i64 a3.Y0, li .i64 a3.X1, li .i64 a3.Y1]]) (by kernel_rfl) (args_clean (by kernel_rfl) (args_clean (by kernel_rfl) args_nil)) (F22_ok n a2 a3 r2 hr) (by kernel_rfl))) (fun r2 => ?_)
  refine SimI.run 2 [(10, .one (vw Thing.cod r2)), (9, .one (vw Thing.cod r1))] [] (by kernel_rfl) ?_
  refine SimI.done (by kernel_rfl) ?_
  refine SimE.thenN ?_
  refine Sim.seq ?_
  refine Sim.region0 ?_
  refine SimI.run 1 [(11, .one (lnil))] [] (by kernel_rfl) ?_
  refine SimI.done (by kernel_rfl) ?_
  refine SimE.thenN ?_
  refine Sim.seq ?_
  refine Sim.region0 ?_
  refine SimI.run 2 [(13, .one (li .i64 0)), (12, .one (li .i64 0))] [] (by kernel_rfl) ?_
  refine SimI.done (by kernel_rfl) ?_
  refine SimE.thenN ?_
  refine Sim.seq ?_
  refine Sim.block ?_
  refine Sim.loop ?_
  refine SimL.pre (ts := [9, 10, 11, 12, 13]) (os := [5, 7, 100011]) [(9, .one (vw Thing.cod r1)), (10, .one (vw Thing.cod r2)), (11, .one (ownL 100011 0 ([] : List Event))), (12, .one (li .i64 0)), (13, .one (li .i64 0))] (ownM Event.cod 45 100011 0 ([] : List Event) []) (by kernel_rfl) (by kernel_rfl) (by kernel_rfl) ?_
  exact F19_l15_ok n a0 a1 a2 a3 r1 r2 (n + 8) ([] : List Event) 0 0 0


-- 20: vedette/vedetteref6.SameAll
def F20_e : Bool → PV × List (List Lf) := fun r => (.one (lb r), [])
def F20_l4 (n : Nat) (a0 : (List Thing)) (a1 : (List Thing)) : Nat → Int → Option Bool
  | 0, _ => none
  | m + 1, i3 =>
    if decide (i3 < ((a0).length : Int)) then
      (ix a0 i3).bind fun (x5 : Thing) =>
      (ix a1 i3).bind fun (x6 : Thing) =>
      if !(Thing.eqb x5 x6) then
        some false
      else
        (F20_l4 n a0 a1 m) (IntKind.wrap .i64 (i3 + 1))
    else
      some true
theorem F20_l4_ok (n : Nat) (a0 : (List Thing)) (a1 : (List Thing)) : ∀ (m : Nat) (i3 : Int), SimL Try.prog D (n + 8) m pc20_c25 [(0, .one (vw Thing.cod a0)), (1, .one (vw Thing.cod a1)), (5, .one (li .i64 i3))] [] (F20_l4 n a0 a1 m i3) (QB 0 (QT Try.prog D (n + 8) pc20_c31 (QF pc20_r 0 F20_e))) := by
  intro m_l4
  induction m_l4 with
  | zero => intro i3; exact SimL.zero'  rfl
  | succ m_l4 ih_l4 =>
    intro i3
    refine SimL.succ ?_
    unfold F20_l4
    refine Sim.seq ?_
    refine Sim.seq ?_
    refine Sim.region [(0, .one (vw Thing.cod a0)), (1, .one (vw Thing.cod a1)), (5, .one (li .i64 i3))] [] (by kernel_rfl) ?_
    refine SimI.run 4 [(14, .one (lb (decide (i3 < ((a0).length : Int))))), (13, .one (li .i64 ((a0).length : Int))), (12, .one (vw Thing.cod a0)), (11, .one (li .i64 i3))] [] (by kernel_rfl) ?_
    refine SimI.done (by kernel_rfl) ?_
    refine SimE.thenN ?_
    refine Sim.cond (decide (i3 < ((a0).length : Int))) (by kernel_rfl) ?_ ?_
    · refine Sim.skip ?_
      refine SimE.thenN ?_
      refine Sim.seq ?_
      refine Sim.block ?_
      refine Sim.seq ?_
      refine Sim.region0 ?_
      refine SimI.run 2 [(18, .one (li .i64 i3)), (17, .one (vw Thing.cod a0))] [] (by kernel_rfl) ?_
      refine SimI.bind (og := ix a0 i3) { dst := some 19, op := POp.iaddrS 11 (Operand.tmp 17) (Operand.tmp 18), guard := none, hints := [(17, Hint.imm), (18, Hint.imm)] } (fun x5 => [(19, .one (.eptr (Thing.cod.enc x5) 0))]) (fun x5 => []) (by kernel_rfl) (fun x5 hr => pOp_eff (by kernel_rfl) (by kernel_rfl) (eff_idx (c := Thing.cod) (l := a0) (k := .i64) (n := i3) (by kernel_rfl) (by kernel_rfl) (by kernel_rfl) hr)) (fun x5 => ?_)
      refine SimI.run 3 [(22, .one (li .i64 i3)), (21, .one (vw Thing.cod a1)), (20, .agg [li .i64 x5.ID, li .i64 x5.At.X, li .i64 x5.At.Y, li .i64 x5.F.a0.N, ls x5.F.a0.Text, li .i64 x5.F.a1.N, ls x5.F.a1.Text, li .i64 x5.F.a2.N, ls x5.F.a2.Text, li .i64 x5.F.a3.N, ls x5.F.a3.Text])] [] (by kernel_rfl) ?_
      refine SimI.bind (og := ix a1 i3) { dst := some 23, op := POp.iaddrS 11 (Operand.tmp 21) (Operand.tmp 22), guard := none, hints := [(21, Hint.imm), (22, Hint.imm)] } (fun x6 => [(23, .one (.eptr (Thing.cod.enc x6) 0))]) (fun x6 => []) (by kernel_rfl) (fun x6 hr => pOp_eff (by kernel_rfl) (by kernel_rfl) (eff_idx (c := Thing.cod) (l := a1) (k := .i64) (n := i3) (by kernel_rfl) (by kernel_rfl) (by kernel_rfl) hr)) (fun x6 => ?_)
      refine SimI.run 1 [(24, .agg [li .i64 x6.ID, li .i64 x6.At.X, li .i64 x6.At.Y, li .i64 x6.F.a0.N, ls x6.F.a0.Text, li .i64 x6.F.a1.N, ls x6.F.a1.Text, li .i64 x6.F.a2.N, ls x6.F.a2.Text, li .i64 x6.F.a3.N, ls x6.F.a3.Text])] [] (by kernel_rfl) ?_
      refine SimI.step { dst := some 25, op := POp.prim (Prim.bin BinOp.neq 39 false false) [Operand.tmp 20, Operand.tmp 24], guard := none, hints := [(20, Hint.imm), (24, Hint.imm)] } [(25, .one (lb (!(Thing.eqb x5 x6))))] [] (by kernel_rfl) (pOp_eff (by kernel_rfl) (by kernel_rfl) (eff_prim (by kernel_rfl) (Thing_eqn x5 x6 _ _))) ?_
      refine SimI.done (by kernel_rfl) ?_
      refine SimE.thenN ?_
      refine Sim.cond (!(Thing.eqb x5 x6)) (by kernel_rfl) ?_ ?_
      · refine Sim.seq ?_
        refine Sim.region0 ?_
        refine SimI.run 1 [(4, .one (lb false))] [] (by kernel_rfl) ?_
        refine SimI.done (by kernel_rfl) ?_
        refine SimE.thenN ?_
        refine Sim.ret ?_
        refine SimE.blockR ?_
        refine SimE.thenR ?_
        refine SimE.loopR ?_
        refine SimE.blockR ?_
        refine SimE.thenR ?_
        exact SimE.fin (by kernel_rfl)
      · refine Sim.skip ?_
        refine SimE.blockN ?_
        refine SimE.thenN ?_
        refine Sim.region0 ?_
        refine SimI.run 3 [(5, .one (li .i64 (IntKind.wrap .i64 (i3 + 1)))), (16, .one (li .i64 (IntKind.wrap .i64 (i3 + 1)))), (15, .one (li .i64 i3))] [] (by kernel_rfl) ?_
        refine SimI.done (by kernel_rfl) ?_
        refine SimE.loopN ?_
        refine SimL.pre (ts := [0, 1, 5]) (os := []) [(0, .one (vw Thing.cod a0)), (1, .one (vw Thing.cod a1)), (5, .one (li .i64 (IntKind.wrap .i64 (i3 + 1))))] [] (by kernel_rfl) (by kernel_rfl) (by kernel_rfl) ?_
        exact ih_l4 (IntKind.wrap .i64 (i3 + 1))
    · refine Sim.exit ?_
      refine SimE.thenX ?_
      refine SimE.loopX ?_
      refine SimE.blockX ?_
      refine SimE.thenN ?_
      refine Sim.seq ?_
      refine Sim.region0 ?_
      refine SimI.run 1 [(4, .one (lb true))] [] (by kernel_rfl) ?_
      refine SimI.done (by kernel_rfl) ?_
      refine SimE.thenN ?_
      refine Sim.ret ?_
      exact SimE.fin (by kernel_rfl)

def F20 (n : Nat) (a0 : (List Thing)) (a1 : (List Thing)) : Option Bool :=
  if ((a0).length : Int) != ((a1).length : Int) then
    some false
  else
    F20_l4 n a0 a1 (n + 8) 0
theorem F20_ok (n : Nat) (a0 : (List Thing)) (a1 : (List Thing)) : ∀ r, F20 n a0 a1 = some r → D 20 [.one (vw Thing.cod a0), .one (vw Thing.cod a1)] [] = some (F20_e r) := by
  refine fn_to (D := D) (n := n + 8) (nt := 26) (rs := pc20_r) (c := pc20_c34) (L := [(0, .one (vw Thing.cod a0)), (1, .one (vw Thing.cod a1))]) (M := []) (k := 0) rfl rfl rfl rfl rfl rfl ?_
  unfold F20
  refine Sim.seq ?_
  refine Sim.region0 ?_
  refine SimI.run 1 [(4, .one (lb false))] [] (by kernel_rfl) ?_
  refine SimI.done (by kernel_rfl) ?_
  refine SimE.thenN ?_
  refine Sim.seq ?_
  refine Sim.seq ?_
  refine Sim.region0 ?_
  refine SimI.run 5 [(10, .one (lb (((a0).length : Int) != ((a1).length : Int)))), (9, .one (li .i64 ((a1).length : Int))), (8, .one (vw Thing.cod a1)), (7, .one (li .i64 ((a0).length : Int))), (6, .one (vw Thing.cod a0))] [] (by kernel_rfl) ?_
  refine SimI.done (by kernel_rfl) ?_
  refine SimE.thenN ?_
  refine Sim.cond (((a0).length : Int) != ((a1).length : Int)) (by kernel_rfl) ?_ ?_
  · refine Sim.seq ?_
    refine Sim.region0 ?_
    refine SimI.run 1 [(4, .one (lb false))] [] (by kernel_rfl) ?_
    refine SimI.done (by kernel_rfl) ?_
    refine SimE.thenN ?_
    refine Sim.ret ?_
    refine SimE.thenR ?_
    exact SimE.fin (by kernel_rfl)
  · refine Sim.skip ?_
    refine SimE.thenN ?_
    refine Sim.seq ?_
    refine Sim.seq ?_
    refine Sim.region0 ?_
    refine SimI.run 1 [(5, .one (li .i64 0))] [] (by kernel_rfl) ?_
    refine SimI.done (by kernel_rfl) ?_
    refine SimE.thenN ?_
    refine Sim.block ?_
    refine Sim.loop ?_
    refine SimL.pre (ts := [0, 1, 5]) (os := []) [(0, .one (vw Thing.cod a0)), (1, .one (vw Thing.cod a1)), (5, .one (li .i64 0))] [] (by kernel_rfl) (by kernel_rfl) (by kernel_rfl) ?_
    exact F20_l4_ok n a0 a1 (n + 8) 0


-- 3: vedette/vedettelaw16.DiffTells
def F3_e : Bool → PV × List (List Lf) := fun r => (.one (lb r), [])
def F3 (n : Nat) (a0 : (List Thing)) (a1 : (List Thing)) (a2 : Rect) (a3 : Rect) : Option Bool :=
  ((some true)).bind fun (r1 : Bool) =>
  if !(r1) then
    some false
  else
    (F15 n a0).bind fun (r2 : Bool) =>
    if !(r2) then
      some true
    else
      (F15 n a1).bind fun (r3 : Bool) =>
      if !(r3) then
        some true
      else
        (F16 n a0).bind fun (r4 : Bool) =>
        if !(r4) then
          some true
        else
          (F16 n a1).bind fun (r5 : Bool) =>
          if !(r5) then
            some true
          else
            (F18 n a0 a2 a1 a3).bind fun (r6 : (List Event)) =>
            (F19 n a0 a2 a1 a3).bind fun (r7 : (List Event)) =>
            (F17 n r6 r7).bind fun (r8 : Bool) =>
            if r8 then
              (F21 n a0 a2).bind fun (r9 : (List Thing)) =>
              (F22 n a0 a2).bind fun (r10 : (List Thing)) =>
              (F20 n r9 r10).bind fun (r11 : Bool) =>
              some r11
            else
              some false
theorem F3_ok (n : Nat) (a0 : (List Thing)) (a1 : (List Thing)) (a2 : Rect) (a3 : Rect) : ∀ r, F3 n a0 a1 a2 a3 = some r → D 3 [.one (vw Thing.cod a0), .one (vw Thing.cod a1), .agg [li .i64 a2.X0, li .i64 a2.Y0, li .i64 a2.X1, li .i64 a2.Y1], .agg [li .i64 a3.X0, li .i64 a3.Y0, li .i64 a3.X1, li .i64 a3.Y1]] [] = some (F3_e r) := by
  refine fn_to (D := D) (n := n + 8) (nt := 49) (rs := pc3_r) (c := pc3_c21) (L := [(0, .one (vw Thing.cod a0)), (1, .one (vw Thing.cod a1)), (2, .agg [li .i64 a2.X0, li .i64 a2.Y0, li .i64 a2.X1, li .i64 a2.Y1]), (3, .agg [li .i64 a3.X0, li .i64 a3.Y0, li .i64 a3.X1, li .i64 a3.Y1])]) (M := []) (k := 0) rfl rfl rfl rfl rfl rfl ?_
  unfold F3
  refine Sim.seq ?_
  refine Sim.region0 ?_
  refine SimI.run 3 [(8, .one (lb false)), (7, .one (.ptr 7 0)), (6, .one (.ptr 6 0))] [(7, some (.cells [li .i64 a3.X0, li .i64 a3.Y0, li .i64 a3.X1, li .i64 a3.Y1])), (6, some (.cells [li .i64 a2.X0, li .i64 a2.Y0, li .i64 a2.X1, li .i64 a2.Y1]))] (by kernel_rfl) ?_
  refine SimI.done (by kernel_rfl) ?_
  refine SimE.thenN ?_
  refine Sim.seq ?_
  refine Sim.seq ?_
  refine Sim.region0 ?_
  refine SimI.bind (og := (some true)) { dst := some 9, op := POp.call true [] 14 [], guard := none, hints := [] } (fun r1 => [(9, .one (lb r1))]) (fun r1 => []) (by kernel_rfl) (fun r1 hr => pOp_eff (by kernel_rfl) (by kernel_rfl) (eff_call (ARGS := []) (by kernel_rfl) (args_nil) (F14_ok n r1 hr) (by kernel_rfl))) (fun r1 => ?_)
  refine SimI.run 1 [(10, .one (lb (!(r1))))] [] (by kernel_rfl) ?_
  refine SimI.done (by kernel_rfl) ?_
  refine SimE.thenN ?_
  refine Sim.cond (!(r1)) (by kernel_rfl) ?_ ?_
  · refine Sim.seq ?_
    refine Sim.region0 ?_
    refine SimI.run 1 [(8, .one (lb false))] [] (by kernel_rfl) ?_
    refine SimI.done (by kernel_rfl) ?_
    refine SimE.thenN ?_
    refine Sim.ret ?_
    refine SimE.thenR ?_
    exact SimE.fin (by kernel_rfl)
  · refine Sim.skip ?_
    refine SimE.thenN ?_
    refine Sim.seq ?_
    refine Sim.seq ?_
    refine Sim.region0 ?_
    refine SimI.run 1 [(11, .one (vw Thing.cod a0))] [] (by kernel_rfl) ?_
    refine SimI.bind (og := F15 n a0) { dst := some 12, op := POp.call true [[(0, 11)]] 15 [Operand.tmp 11], guard := none, hints := [] } (fun r2 => [(12, .one (lb r2))]) (fun r2 => []) (by kernel_rfl) (fun r2 hr => pOp_eff (by kernel_rfl) (by kernel_rfl) (eff_call (ARGS := [.one (vw Thing.cod a0)]) (by kernel_rfl) (args_clean (by kernel_rfl) args_nil) (F15_ok n a0 r2 hr) (by kernel_rfl))) (fun r2 => ?_)
    refine SimI.run 2 [(14, .one (lb (!(r2)))), (13, .one (lb (!(r2))))] [] (by kernel_rfl) ?_
    refine SimI.split 14 (!(r2)) (by kernel_rfl) ?_ ?_
    · refine SimI.run 14 [(28, .one (lb true)), (27, .tup []), (26, .tup []), (25, .tup []), (24, .one (lb true)), (23, .one (lb true)), (22, .tup []), (21, .tup []), (20, .tup []), (19, .one (lb true)), (18, .one (lb true)), (17, .tup []), (16, .tup []), (15, .tup [])] [] (by kernel_rfl) ?_
      refine SimI.done (by kernel_rfl) ?_
      refine SimE.thenN ?_
      refine Sim.condT (by kernel_rfl) ?_
      refine Sim.seq ?_
      refine Sim.region0 ?_
      refine SimI.run 1 [(8, .one (lb true))] [] (by kernel_rfl) ?_
      refine SimI.done (by kernel_rfl) ?_
      refine SimE.thenN ?_
      refine Sim.ret ?_
      refine SimE.thenR ?_
      exact SimE.fin (by kernel_rfl)
    · refine SimI.run 1 [(15, .one (vw Thing.cod a1))] [] (by kernel_rfl) ?_
      refine SimI.bind (og := F15 n a1) { dst := some 16, op := POp.call true [[(0, 11)]] 15 [Operand.tmp 15], guard := some (14, false), hints := [] } (fun r3 => [(16, .one (lb r3))]) (fun r3 => []) (by kernel_rfl) (fun r3 hr => pOp_eff (by kernel_rfl) (by kernel_rfl) (eff_call (ARGS := [.one (vw Thing.cod a1)]) (by kernel_rfl) (args_clean (by kernel_rfl) args_nil) (F15_ok n a1 r3 hr) (by kernel_rfl))) (fun r3 => ?_)
      refine SimI.run 3 [(19, .one (lb (!(r3)))), (18, .one (lb (!(r3)))), (17, .one (lb (!(r3))))] [] (by kernel_rfl) ?_
      refine SimI.split 19 (!(r3)) (by kernel_rfl) ?_ ?_
      · refine SimI.run 9 [(28, .one (lb true)), (27, .tup []), (26, .tup []), (25, .tup []), (24, .one (lb true)), (23, .one (lb true)), (22, .tup []), (21, .tup []), (20, .tup [])] [] (by kernel_rfl) ?_
        refine SimI.done (by kernel_rfl) ?_
        refine SimE.thenN ?_
        refine Sim.condT (by kernel_rfl) ?_
        refine Sim.seq ?_
        refine Sim.region0 ?_
        refine SimI.run 1 [(8, .one (lb true))] [] (by kernel_rfl) ?_
        refine SimI.done (by kernel_rfl) ?_
        refine SimE.thenN ?_
        refine Sim.ret ?_
        refine SimE.thenR ?_
        exact SimE.fin (by kernel_rfl)
      · refine SimI.run 1 [(20, .one (vw Thing.cod a0))] [] (by kernel_rfl) ?_
        refine SimI.bind (og := F16 n a0) { dst := some 21, op := POp.call true [[(0, 11)]] 16 [Operand.tmp 20], guard := some (19, false), hints := [] } (fun r4 => [(21, .one (lb r4))]) (fun r4 => []) (by kernel_rfl) (fun r4 hr => pOp_eff (by kernel_rfl) (by kernel_rfl) (eff_call (ARGS := [.one (vw Thing.cod a0)]) (by kernel_rfl) (args_clean (by kernel_rfl) args_nil) (F16_ok n a0 r4 hr) (by kernel_rfl))) (fun r4 => ?_)
        refine SimI.run 3 [(24, .one (lb (!(r4)))), (23, .one (lb (!(r4)))), (22, .one (lb (!(r4))))] [] (by kernel_rfl) ?_
        refine SimI.split 24 (!(r4)) (by kernel_rfl) ?_ ?_
        · refine SimI.run 4 [(28, .one (lb true)), (27, .tup []), (26, .tup []), (25, .tup [])] [] (by kernel_rfl) ?_
          refine SimI.done (by kernel_rfl) ?_
          refine SimE.thenN ?_
          refine Sim.condT (by kernel_rfl) ?_
          refine Sim.seq ?_
          refine Sim.region0 ?_
          refine SimI.run 1 [(8, .one (lb true))] [] (by kernel_rfl) ?_
          refine SimI.done (by kernel_rfl) ?_
          refine SimE.thenN ?_
          refine Sim.ret ?_
          refine SimE.thenR ?_
          exact SimE.fin (by kernel_rfl)
        · refine SimI.run 1 [(25, .one (vw Thing.cod a1))] [] (by kernel_rfl) ?_
          refine SimI.bind (og := F16 n a1) { dst := some 26, op := POp.call true [[(0, 11)]] 16 [Operand.tmp 25], guard := some (24, false), hints := [] } (fun r5 => [(26, .one (lb r5))]) (fun r5 => []) (by kernel_rfl) (fun r5 hr => pOp_eff (by kernel_rfl) (by kernel_rfl) (eff_call (ARGS := [.one (vw Thing.cod a1)]) (by kernel_rfl) (args_clean (by kernel_rfl) args_nil) (F16_ok n a1 r5 hr) (by kernel_rfl))) (fun r5 => ?_)
          refine SimI.run 2 [(28, .one (lb (!(r5)))), (27, .one (lb (!(r5))))] [] (by kernel_rfl) ?_
          refine SimI.done (by kernel_rfl) ?_
          refine SimE.thenN ?_
          refine Sim.cond (!(r5)) (by kernel_rfl) ?_ ?_
          · refine Sim.seq ?_
            refine Sim.region0 ?_
            refine SimI.run 1 [(8, .one (lb true))] [] (by kernel_rfl) ?_
            refine SimI.done (by kernel_rfl) ?_
            refine SimE.thenN ?_
            refine Sim.ret ?_
            refine SimE.thenR ?_
            exact SimE.fin (by kernel_rfl)
          · refine Sim.skip ?_
            refine SimE.thenN ?_
            refine Sim.seq ?_
            refine Sim.region0 ?_
            refine SimI.run 4 [(32, .agg [li .i64 a3.X0, li .i64 a3.Y0, li .i64 a3.X1, li .i64 a3.Y1]), (31, .one (vw Thing.cod a1)), (30, .agg [li .i64 a2.X0, li .i64 a2.Y0, li .i64 a2.X1, li .i64 a2.Y1]), (29, .one (vw Thing.cod a0))] [] (by kernel_rfl) ?_
            refine SimI.bind (og := F18 n a0 a2 a1 a3) { dst := some 33, op := POp.call false [[(0, 11)], [], [(0, 11)], []] 18 [Operand.tmp 29, Operand.tmp 30, Operand.tmp 31, Operand.tmp 32], guard := none, hints := [(29, Hint.imm), (30, Hint.imm), (31, Hint.imm), (32, Hint.imm)] } (fun r6 => [(33, .one (vw Event.cod r6))]) (fun r6 => []) (by kernel_rfl) (fun r6 hr => pOp_eff (by kernel_rfl) (by kernel_rfl) (eff_call (ARGS := [.one (vw Thing.cod a0), .agg [li .i64 a2.X0, li .i64 a2.Y0, li .i64 a2.X1, li .i64 a2.Y1], .one (vw Thing.cod a1), .agg [li .i64 a3.X0, li .i64 a3.Y0, li .i64 a3.X1, li .i64 a3.Y1]]) (by kernel_rfl) (args_clean (by kernel_rfl) (args_clean (by kernel_rfl) (args_clean (by kernel_rfl) (args_clean (by kernel_rfl) args_nil)))) (F18_ok n a0 a2 a1 a3 r6 hr) (by kernel_rfl))) (fun r6 => ?_)
            refine SimI.run 4 [(37, .agg [li .i64 a3.X0, li .i64 a3.Y0, li .i64 a3.X1, li .i64 a3.Y1]), (36, .one (vw Thing.cod a1)), (35, .agg [li .i64 a2.X0, li .i64 a2.Y0, li .i64 a2.X1, li .i64 a2.Y1]), (34, .one (vw Thing.cod a0))] [] (by kernel_rfl) ?_
            refine SimI.bind (og := F19 n a0 a2 a1 a3) { dst := some 38, op := POp.call false [[(0, 11)], [], [(0, 11)], []] 19 [Operand.tmp 34, Operand.tmp 35, Operand.tmp 36, Operand.tmp 37], guard := none, hints := [(34, Hint.imm), (35, Hint.imm), (36, Hint.imm), (37, Hint.imm)] } (fun r7 => [(38, .one (vw Event.cod r7))]) (fun r7 => []) (by kernel_rfl) (fun r7 hr => pOp_eff (by kernel_rfl) (by kernel_rfl) (eff_call (ARGS := [.one (vw Thing.cod a0), .agg [li .i64 a2.X0, li .i64 a2.Y0, li .i64 a2.X1, li .i64 a2.Y1], .one (vw Thing.cod a1), .agg [li .i64 a3.X0, li .i64 a3.Y0, li .i64 a3.X1, li .i64 a3.Y1]]) (by kernel_rfl) (args_clean (by kernel_rfl) (args_clean (by kernel_rfl) (args_clean (by kernel_rfl) (args_clean (by kernel_rfl) args_nil)))) (F19_ok n a0 a2 a1 a3 r7 hr) (by kernel_rfl))) (fun r7 => ?_)
            refine SimI.bind (og := F17 n r6 r7) { dst := some 39, op := POp.call false [[(0, 25)], [(0, 25)]] 17 [Operand.tmp 33, Operand.tmp 38], guard := none, hints := [(33, Hint.imm), (38, Hint.imm)] } (fun r8 => [(39, .one (lb r8))]) (fun r8 => []) (by kernel_rfl) (fun r8 hr => pOp_eff (by kernel_rfl) (by kernel_rfl) (eff_call (ARGS := [.one (vw Event.cod r6), .one (vw Event.cod r7)]) (by kernel_rfl) (args_clean (by kernel_rfl) (args_clean (by kernel_rfl) args_nil)) (F17_ok n r6 r7 r8 hr) (by kernel_rfl))) (fun r8 => ?_)
            refine SimI.run 1 [(40, .one (lb r8))] [] (by kernel_rfl) ?_
            refine SimI.split 40 r8 (by kernel_rfl) ?_ ?_
            · refine SimI.run 2 [(42, .agg [li .i64 a2.X0, li .i64 a2.Y0, li .i64 a2.X1, li .i64 a2.Y1]), (41, .one (vw Thing.cod a0))] [] (by kernel_rfl) ?_
              refine SimI.bind (og := F21 n a0 a2) { dst := some 43, op := POp.call false [[(0, 11)], []] 21 [Operand.tmp 41, Operand.tmp 42], guard := some (40, true), hints := [(41, Hint.imm), (42, Hint.imm)] } (fun r9 => [(43, .one (vw Thing.cod r9))]) (fun r9 => []) (by kernel_rfl) (fun r9 hr => pOp_eff (by kernel_rfl) (by kernel_rfl) (eff_call (ARGS := [.one (vw Thing.cod a0), .agg [li .i64 a2.X0, li .i64 a2.Y0, li .i64 a2.X1, li .i64 a2.Y1]]) (by kernel_rfl) (args_clean (by kernel_rfl) (args_clean (by kernel_rfl) args_nil)) (F21_ok n a0 a2 r9 hr) (by kernel_rfl))) (fun r9 => ?_)
              refine SimI.run 2 [(45, .agg [li .i64 a2.X0, li .i64 a2.Y0, li .i64 a2.X1, li .i64 a2.Y1]), (44, .one (vw Thing.cod a0))] [] (by kernel_rfl) ?_
              refine SimI.bind (og := F22 n a0 a2) { dst := some 46, op := POp.call false [[(0, 11)], []] 22 [Operand.tmp 44, Operand.tmp 45], guard := some (40, true), hints := [(44, Hint.imm), (45, Hint.imm)] } (fun r10 => [(46, .one (vw Thing.cod r10))]) (fun r10 => []) (by kernel_rfl) (fun r10 hr => pOp_eff (by kernel_rfl) (by kernel_rfl) (eff_call (ARGS := [.one (vw Thing.cod a0), .agg [li .i64 a2.X0, li .i64 a2.Y0, li .i64 a2.X1, li .i64 a2.Y1]]) (by kernel_rfl) (args_clean (by kernel_rfl) (args_clean (by kernel_rfl) args_nil)) (F22_ok n a0 a2 r10 hr) (by kernel_rfl))) (fun r10 => ?_)
              refine SimI.bind (og := F20 n r9 r10) { dst := some 47, op := POp.call false [[(0, 11)], [(0, 11)]] 20 [Operand.tmp 43, Operand.tmp 46], guard := some (40, true), hints := [(43, Hint.imm), (46, Hint.imm)] } (fun r11 => [(47, .one (lb r11))]) (fun r11 => []) (by kernel_rfl) (fun r11 hr => pOp_eff (by kernel_rfl) (by kernel_rfl) (eff_call (ARGS := [.one (vw Thing.cod r9), .one (vw Thing.cod r10)]) (by kernel_rfl) (args_clean (by kernel_rfl) (args_clean (by kernel_rfl) args_nil)) (F20_ok n r9 r10 r11 hr) (by kernel_rfl))) (fun r11 => ?_)
              refine SimI.run 2 [(8, .one (lb r11)), (48, .one (lb r11))] [] (by kernel_rfl) ?_
              refine SimI.done (by kernel_rfl) ?_
              refine SimE.thenN ?_
              refine Sim.ret ?_
              exact SimE.fin (by kernel_rfl)
            · refine SimI.run 9 [(8, .one (lb false)), (48, .one (lb false)), (47, .tup []), (46, .tup []), (45, .tup []), (44, .tup []), (43, .tup []), (42, .tup []), (41, .tup [])] [] (by kernel_rfl) ?_
              refine SimI.done (by kernel_rfl) ?_
              refine SimE.thenN ?_
              refine Sim.ret ?_
              exact SimE.fin (by kernel_rfl)


-- 4: vedette/vedettelaw16.DiffParts
def F4_e : Bool → PV × List (List Lf) := fun r => (.one (lb r), [])
def F4_j23 (n : Nat) (a0 : (List Thing)) (a1 : (List Thing)) (a2 : Rect) (a3 : Rect) (l21 : (List Event)) : Option Bool :=
    (F18 n a0 a2 a1 a3).bind fun (r24 : (List Event)) =>
    (F17 n l21 r24).bind fun (r25 : Bool) =>
    some r25
theorem F4_j23_ok (n : Nat) (a0 : (List Thing)) (a1 : (List Thing)) (a2 : Rect) (a3 : Rect) (l21 : (List Event)) (g22 : Nat) : Sim Try.prog D (n + 8) pc4_c41 [(0, .one (vw Thing.cod a0)), (1, .one (vw Thing.cod a1)), (7, .one (.ptr 7 0)), (8, .one (.ptr 8 0)), (14, .one (ownL 100076 g22 l21))] ((7, some (.cells [li .i64 a2.X0, li .i64 a2.Y0, li .i64 a2.X1, li .i64 a2.Y1])) :: ((8, some (.cells [li .i64 a3.X0, li .i64 a3.Y0, li .i64 a3.X1, li .i64 a3.Y1])) :: (ownM Event.cod 45 100076 g22 l21 []))) (F4_j23 n a0 a1 a2 a3 l21) (QF pc4_r 0 F4_e) := by
    cases l21 with
    | nil =>
      unfold F4_j23
      refine Sim.seq ?_
      refine Sim.region [(0, .one (vw Thing.cod a0)), (1, .one (vw Thing.cod a1)), (7, .one (.ptr 7 0)), (8, .one (.ptr 8 0)), (14, .one (lnil))] ((7, some (.cells [li .i64 a2.X0, li .i64 a2.Y0, li .i64 a2.X1, li .i64 a2.Y1])) :: ((8, some (.cells [li .i64 a3.X0, li .i64 a3.Y0, li .i64 a3.X1, li .i64 a3.Y1])) :: [])) (by kernel_rfl) ?_
      refine SimI.run 5 [(91, .agg [li .i64 a3.X0, li .i64 a3.Y0, li .i64 a3.X1, li .i64 a3.Y1]), (90, .one (vw Thing.cod a1)), (89, .agg [li .i64 a2.X0, li .i64 a2.Y0, li .i64 a2.X1, li .i64 a2.Y1]), (88, .one (vw Thing.cod a0)), (87, .one (lnil))] [] (by kernel_rfl) ?_
      refine SimI.bind (og := F18 n a0 a2 a1 a3) { dst := some 92, op := POp.call true [[(0, 11)], [], [(0, 11)], []] 18 [Operand.tmp 88, Operand.tmp 89, Operand.tmp 90, Operand.tmp 91], guard := none, hints := [] } (fun r24 => [(92, .one (vw Event.cod r24))]) (fun r24 => []) (by kernel_rfl) (fun r24 hr => pOp_eff (by kernel_rfl) (by kernel_rfl) (eff_call (ARGS := [.one (vw Thing.cod a0), .agg [li .i64 a2.X0, li .i64 a2.Y0, li .i64 a2.X1, li .i64 a2.Y1], .one (vw Thing.cod a1), .agg [li .i64 a3.X0, li .i64 a3.Y0, li .i64 a3.X1, li .i64 a3.Y1]]) (by kernel_rfl) (args_clean (by kernel_rfl) (args_clean (by kernel_rfl) (args_clean (by kernel_rfl) (args_clean (by kernel_rfl) args_nil)))) (F18_ok n a0 a2 a1 a3 r24 hr) (by kernel_rfl))) (fun r24 => ?_)
      refine SimI.bind (og := F17 n ([] : List Event) r24) { dst := some 93, op := POp.call true [[(0, 25)], [(0, 25)]] 17 [Operand.tmp 87, Operand.tmp 92], guard := none, hints := [] } (fun r25 => [(93, .one (lb r25))]) (fun r25 => []) (by kernel_rfl) (fun r25 hr => pOp_eff (by kernel_rfl) (by kernel_rfl) (eff_call (ARGS := [.one (vw Event.cod ([] : List Event)), .one (vw Event.cod r24)]) (by kernel_rfl) (args_clean (by kernel_rfl) (args_clean (by kernel_rfl) args_nil)) (F17_ok n ([] : List Event) r24 r25 hr) (by kernel_rfl))) (fun r25 => ?_)
      refine SimI.run 1 [(10, .one (lb r25))] [] (by kernel_rfl) ?_
      refine SimI.done (by kernel_rfl) ?_
      refine SimE.thenN ?_
      refine Sim.ret ?_
      exact SimE.fin (by kernel_rfl)
    | cons l21h l21t =>
      unfold F4_j23
      refine Sim.seq ?_
      refine Sim.region [(0, .one (vw Thing.cod a0)), (1, .one (vw Thing.cod a1)), (7, .one (.ptr 7 0)), (8, .one (.ptr 8 0)), (14, .one (.osl 100076 g22 0 ((l21h :: l21t)).length))] ((7, some (.cells [li .i64 a2.X0, li .i64 a2.Y0, li .i64 a2.X1, li .i64 a2.Y1])) :: ((8, some (.cells [li .i64 a3.X0, li .i64 a3.Y0, li .i64 a3.X1, li .i64 a3.Y1])) :: ((100076, some (.arr 45 Event.cod.sz g22 ((l21h :: l21t)).length (getOf Event.cod (l21h :: l21t)))) :: []))) (by kernel_rfl) ?_
      refine SimI.run 5 [(91, .agg [li .i64 a3.X0, li .i64 a3.Y0, li .i64 a3.X1, li .i64 a3.Y1]), (90, .one (vw Thing.cod a1)), (89, .agg [li .i64 a2.X0, li .i64 a2.Y0, li .i64 a2.X1, li .i64 a2.Y1]), (88, .one (vw Thing.cod a0)), (87, .one (.osl 100076 g22 0 ((l21h :: l21t)).length))] [] (by kernel_rfl) ?_
      refine SimI.bind (og := F18 n a0 a2 a1 a3) { dst := some 92, op := POp.call true [[(0, 11)], [], [(0, 11)], []] 18 [Operand.tmp 88, Operand.tmp 89, Operand.tmp 90, Operand.tmp 91], guard := none, hints := [] } (fun r24 => [(92, .one (vw Event.cod r24))]) (fun r24 => []) (by kernel_rfl) (fun r24 hr => pOp_eff (by kernel_rfl) (by kernel_rfl) (eff_call (ARGS := [.one (vw Thing.cod a0), .agg [li .i64 a2.X0, li .i64 a2.Y0, li .i64 a2.X1, li .i64 a2.Y1], .one (vw Thing.cod a1), .agg [li .i64 a3.X0, li .i64 a3.Y0, li .i64 a3.X1, li .i64 a3.Y1]]) (by kernel_rfl) (args_clean (by kernel_rfl) (args_clean (by kernel_rfl) (args_clean (by kernel_rfl) (args_clean (by kernel_rfl) args_nil)))) (F18_ok n a0 a2 a1 a3 r24 hr) (by kernel_rfl))) (fun r24 => ?_)
      refine SimI.bind (og := F17 n (l21h :: l21t) r24) { dst := some 93, op := POp.call true [[(0, 25)], [(0, 25)]] 17 [Operand.tmp 87, Operand.tmp 92], guard := none, hints := [] } (fun r25 => [(93, .one (lb r25))]) (fun r25 => []) (by kernel_rfl) (fun r25 hr => pOp_eff (by kernel_rfl) (by kernel_rfl) (eff_call (ARGS := [.one (.osl 100076 g22 0 ((l21h :: l21t)).length), .one (vw Event.cod r24)]) (by kernel_rfl) (args_own (c := Event.cod) (k := 100076) (g := g22) (el := 45) (l := (l21h :: l21t)) (by kernel_rfl) (args_clean (by kernel_rfl) args_nil)) (F17_ok n (l21h :: l21t) r24 r25 hr) (by kernel_rfl))) (fun r25 => ?_)
      refine SimI.run 1 [(10, .one (lb r25))] [] (by kernel_rfl) ?_
      refine SimI.done (by kernel_rfl) ?_
      refine SimE.thenN ?_
      refine Sim.ret ?_
      exact SimE.fin (by kernel_rfl)

def F4_j17 (n : Nat) (a0 : (List Thing)) (a1 : (List Thing)) (a2 : Rect) (a3 : Rect) (i8 : Int) (i14 : Int) : Option Bool :=
    if 0 ≤ (0 : Int) ∧ (0 : Int) ≤ i8 ∧ i8 ≤ ((a0).length : Int) then
      if 0 ≤ (0 : Int) ∧ (0 : Int) ≤ i14 ∧ i14 ≤ ((a1).length : Int) then
        (F18 n (((a0).drop 0).take (i8.toNat - 0)) a2 (((a1).drop 0).take (i14.toNat - 0)) a3).bind fun (r18 : (List Event)) =>
        if (r18).length * 264 ≤ maxCells ∧ (r18).length ≤ maxCells then
          if 0 ≤ (i8 : Int) ∧ (i8 : Int) ≤ ((a0).length : Int) ∧ ((a0).length : Int) ≤ ((a0).length : Int) then
            if 0 ≤ (i14 : Int) ∧ (i14 : Int) ≤ ((a1).length : Int) ∧ ((a1).length : Int) ≤ ((a1).length : Int) then
              (F18 n (((a0).drop i8.toNat).take ((a0).length - i8.toNat)) a2 (((a1).drop i14.toNat).take ((a1).length - i14.toNat)) a3).bind fun (r20 : (List Event)) =>
              if ((r18).length + (r20).length) * 264 ≤ maxCells ∧ (r18).length + (r20).length ≤ maxCells then
                F4_j23 n a0 a1 a2 a3 (r18 ++ r20)
              else none
            else none
          else none
        else none
      else none
    else none
theorem F4_j17_ok (n : Nat) (a0 : (List Thing)) (a1 : (List Thing)) (a2 : Rect) (a3 : Rect) (i8 : Int) (i14 : Int) : Sim Try.prog D (n + 8) pc4_c42 [(0, .one (vw Thing.cod a0)), (1, .one (vw Thing.cod a1)), (7, .one (.ptr 7 0)), (8, .one (.ptr 8 0)), (12, .one (li .i64 i8)), (13, .one (li .i64 i14))] ((7, some (.cells [li .i64 a2.X0, li .i64 a2.Y0, li .i64 a2.X1, li .i64 a2.Y1])) :: ((8, some (.cells [li .i64 a3.X0, li .i64 a3.Y0, li .i64 a3.X1, li .i64 a3.Y1])) :: [])) (F4_j17 n a0 a1 a2 a3 i8 i14) (QF pc4_r 0 F4_e) := by
    unfold F4_j17
    refine Sim.seq ?_
    refine Sim.region [(0, .one (vw Thing.cod a0)), (1, .one (vw Thing.cod a1)), (7, .one (.ptr 7 0)), (8, .one (.ptr 8 0)), (12, .one (li .i64 i8)), (13, .one (li .i64 i14))] ((7, some (.cells [li .i64 a2.X0, li .i64 a2.Y0, li .i64 a2.X1, li .i64 a2.Y1])) :: ((8, some (.cells [li .i64 a3.X0, li .i64 a3.Y0, li .i64 a3.X1, li .i64 a3.Y1])) :: [])) (by kernel_rfl) ?_
    refine SimI.run 2 [(68, .one (li .i64 i8)), (67, .one (vw Thing.cod a0))] [] (by kernel_rfl) ?_
    refine SimI.guard (c := 0 ≤ (0 : Int) ∧ (0 : Int) ≤ i8 ∧ i8 ≤ ((a0).length : Int)) { dst := some 69, op := POp.slc 11 (Operand.tmp 67) none (some (Operand.tmp 68)), guard := none, hints := [(67, Hint.imm), (68, Hint.imm)] } [(69, .one (vw Thing.cod (((a0).drop 0).take (i8.toNat - 0))))] [] (by kernel_rfl) (fun hc => pOp_eff (by kernel_rfl) (by kernel_rfl) (eff_cut (c := Thing.cod) (l := a0) (a := 0) (b := i8.toNat) (by kernel_rfl) (by kernel_rfl) (bound_some (k := .i64) (by kernel_rfl) (Int.le_trans hc.1 hc.2.1)) (by kernel_rfl) (by omega) (by omega))) ?_
    refine SimI.run 3 [(72, .one (li .i64 i14)), (71, .one (vw Thing.cod a1)), (70, .agg [li .i64 a2.X0, li .i64 a2.Y0, li .i64 a2.X1, li .i64 a2.Y1])] [] (by kernel_rfl) ?_
    refine SimI.guard (c := 0 ≤ (0 : Int) ∧ (0 : Int) ≤ i14 ∧ i14 ≤ ((a1).length : Int)) { dst := some 73, op := POp.slc 11 (Operand.tmp 71) none (some (Operand.tmp 72)), guard := none, hints := [(71, Hint.imm), (72, Hint.imm)] } [(73, .one (vw Thing.cod (((a1).drop 0).take (i14.toNat - 0))))] [] (by kernel_rfl) (fun hc => pOp_eff (by kernel_rfl) (by kernel_rfl) (eff_cut (c := Thing.cod) (l := a1) (a := 0) (b := i14.toNat) (by kernel_rfl) (by kernel_rfl) (bound_some (k := .i64) (by kernel_rfl) (Int.le_trans hc.1 hc.2.1)) (by kernel_rfl) (by omega) (by omega))) ?_
    refine SimI.run 1 [(74, .agg [li .i64 a3.X0, li .i64 a3.Y0, li .i64 a3.X1, li .i64 a3.Y1])] [] (by kernel_rfl) ?_
    refine SimI.bind (og := F18 n (((a0).drop 0).take (i8.toNat - 0)) a2 (((a1).drop 0).take (i14.toNat - 0)) a3) { dst := some 75, op := POp.call false [[(0, 11)], [], [(0, 11)], []] 18 [Operand.tmp 69, Operand.tmp 70, Operand.tmp 73, Operand.tmp 74], guard := none, hints := [(69, Hint.imm), (70, Hint.imm), (73, Hint.imm), (74, Hint.imm)] } (fun r18 => [(75, .one (vw Event.cod r18))]) (fun r18 => []) (by kernel_rfl) (fun r18 hr => pOp_eff (by kernel_rfl) (by kernel_rfl) (eff_call (ARGS := [.one (vw Thing.cod (((a0).drop 0).take (i8.toNat - 0))), .agg [li .i64 a2.X0, li .i64 a2.Y0, li .i64 a2.X1, li .i64 a2.Y1], .one (vw Thing.cod (((a1).drop 0).take (i14.toNat - 0))), .agg [li .i64 a3.X0, li .i64 a3.Y0, li .i64 a3.X1, li .i64 a3.Y1]]) (by kernel_rfl) (args_clean (by kernel_rfl) (args_clean (by kernel_rfl) (args_clean (by kernel_rfl) (args_clean (by kernel_rfl) args_nil)))) (F18_ok n (((a0).drop 0).take (i8.toNat - 0)) a2 (((a1).drop 0).take (i14.toNat - 0)) a3 r18 hr) (by kernel_rfl))) (fun r18 => ?_)
    cases r18 with
    | nil =>
      refine SimI.guard (c := (([] : List Event)).length * 264 ≤ maxCells ∧ (([] : List Event)).length ≤ maxCells) { dst := some 76, op := POp.app 100076 45 25 264 (Operand.const (Value.slice none 0 0)) (Operand.tmp 75), guard := none, hints := [(75, Hint.imm)] } [(76, .one (lnil))] [] (by kernel_rfl) (fun hc => pOp_eff (by kernel_rfl) (by kernel_rfl) (eff_appNL (c := Event.cod) (l := ([] : List Event)) (by kernel_rfl) (by kernel_rfl) (by kernel_rfl) (by kernel_rfl) (by kernel_rfl) hc)) ?_
      refine SimI.run 2 [(78, .one (li .i64 i8)), (77, .one (vw Thing.cod a0))] [] (by kernel_rfl) ?_
      refine SimI.guard (c := 0 ≤ (i8 : Int) ∧ (i8 : Int) ≤ ((a0).length : Int) ∧ ((a0).length : Int) ≤ ((a0).length : Int)) { dst := some 79, op := POp.slc 11 (Operand.tmp 77) (some (Operand.tmp 78)) none, guard := none, hints := [(77, Hint.imm), (78, Hint.imm)] } [(79, .one (vw Thing.cod (((a0).drop i8.toNat).take ((a0).length - i8.toNat))))] [] (by kernel_rfl) (fun hc => pOp_eff (by kernel_rfl) (by kernel_rfl) (eff_cut (c := Thing.cod) (l := a0) (a := i8.toNat) (b := (a0).length) (by kernel_rfl) (bound_some (k := .i64) (by kernel_rfl) hc.1) (by kernel_rfl) (by kernel_rfl) (by omega) (by omega))) ?_
      refine SimI.run 3 [(82, .one (li .i64 i14)), (81, .one (vw Thing.cod a1)), (80, .agg [li .i64 a2.X0, li .i64 a2.Y0, li .i64 a2.X1, li .i64 a2.Y1])] [] (by kernel_rfl) ?_
      refine SimI.guard (c := 0 ≤ (i14 : Int) ∧ (i14 : Int) ≤ ((a1).length : Int) ∧ ((a1).length : Int) ≤ ((a1).length : Int)) { dst := some 83, op := POp.slc 11 (Operand.tmp 81) (some (Operand.tmp 82)) none, guard := none, hints := [(81, Hint.imm), (82, Hint.imm)] } [(83, .one (vw Thing.cod (((a1).drop i14.toNat).take ((a1).length - i14.toNat))))] [] (by kernel_rfl) (fun hc => pOp_eff (by kernel_rfl) (by kernel_rfl) (eff_cut (c := Thing.cod) (l := a1) (a := i14.toNat) (b := (a1).length) (by kernel_rfl) (bound_some (k := .i64) (by kernel_rfl) hc.1) (by kernel_rfl) (by kernel_rfl) (by omega) (by omega))) ?_
      refine SimI.run 1 [(84, .agg [li .i64 a3.X0, li .i64 a3.Y0, li .i64 a3.X1, li .i64 a3.Y1])] [] (by kernel_rfl) ?_
      refine SimI.bind (og := F18 n (((a0).drop i8.toNat).take ((a0).length - i8.toNat)) a2 (((a1).drop i14.toNat).take ((a1).length - i14.toNat)) a3) { dst := some 85, op := POp.call false [[(0, 11)], [], [(0, 11)], []] 18 [Operand.tmp 79, Operand.tmp 80, Operand.tmp 83, Operand.tmp 84], guard := none, hints := [(79, Hint.imm), (80, Hint.imm), (83, Hint.imm), (84, Hint.imm)] } (fun r19 => [(85, .one (vw Event.cod r19))]) (fun r19 => []) (by kernel_rfl) (fun r19 hr => pOp_eff (by kernel_rfl) (by kernel_rfl) (eff_call (ARGS := [.one (vw Thing.cod (((a0).drop i8.toNat).take ((a0).length - i8.toNat))), .agg [li .i64 a2.X0, li .i64 a2.Y0, li .i64 a2.X1, li .i64 a2.Y1], .one (vw Thing.cod (((a1).drop i14.toNat).take ((a1).length - i14.toNat))), .agg [li .i64 a3.X0, li .i64 a3.Y0, li .i64 a3.X1, li .i64 a3.Y1]]) (by kernel_rfl) (args_clean (by kernel_rfl) (args_clean (by kernel_rfl) (args_clean (by kernel_rfl) (args_clean (by kernel_rfl) args_nil)))) (F18_ok n (((a0).drop i8.toNat).take ((a0).length - i8.toNat)) a2 (((a1).drop i14.toNat).take ((a1).length - i14.toNat)) a3 r19 hr) (by kernel_rfl))) (fun r19 => ?_)
      cases r19 with
      | nil =>
        refine SimI.guard (c := ((([] : List Event)).length + (([] : List Event)).length) * 264 ≤ maxCells ∧ (([] : List Event)).length + (([] : List Event)).length ≤ maxCells) { dst := some 86, op := POp.app 100076 45 25 264 (Operand.tmp 76) (Operand.tmp 85), guard := none, hints := [(76, Hint.obj 100076), (85, Hint.imm)] } [(86, .one (lnil))] [] (by kernel_rfl) (fun hc => pOp_eff (by kernel_rfl) (by kernel_rfl) (eff_appNL (c := Event.cod) (l := ([] : List Event)) (by kernel_rfl) (by kernel_rfl) (by kernel_rfl) (by kernel_rfl) (by kernel_rfl) (by simpa using hc))) ?_
        refine SimI.run 1 [(14, .one (lnil))] [] (by kernel_rfl) ?_
        refine SimI.done (by kernel_rfl) ?_
        refine SimE.thenN ?_
        refine Sim.pre (ts := [0, 1, 7, 8, 14]) (os := [7, 8, 100076]) [(0, .one (vw Thing.cod a0)), (1, .one (vw Thing.cod a1)), (7, .one (.ptr 7 0)), (8, .one (.ptr 8 0)), (14, .one (ownL 100076 0 ([] : List Event)))] ((7, some (.cells [li .i64 a2.X0, li .i64 a2.Y0, li .i64 a2.X1, li .i64 a2.Y1])) :: ((8, some (.cells [li .i64 a3.X0, li .i64 a3.Y0, li .i64 a3.X1, li .i64 a3.Y1])) :: (ownM Event.cod 45 100076 0 ([] : List Event) []))) (by kernel_rfl) (by kernel_rfl) (by kernel_rfl) ?_
        exact F4_j23_ok n a0 a1 a2 a3 ([] : List Event) 0
      | cons r19h r19t =>
        refine SimI.guard (c := ((([] : List Event)).length + ((r19h :: r19t)).length) * 264 ≤ maxCells ∧ (([] : List Event)).length + ((r19h :: r19t)).length ≤ maxCells) { dst := some 86, op := POp.app 100076 45 25 264 (Operand.tmp 76) (Operand.tmp 85), guard := none, hints := [(76, Hint.obj 100076), (85, Hint.imm)] } [(86, .one (.osl 100076 0 0 ((r19h :: r19t)).length))] [(100076, some (.arr 45 Event.cod.sz 0 ((r19h :: r19t)).length (getOf Event.cod (r19h :: r19t))))] (by kernel_rfl) (fun hc => pOp_eff (by kernel_rfl) (by kernel_rfl) (eff_appNL (c := Event.cod) (l := (r19h :: r19t)) (by kernel_rfl) (by kernel_rfl) (by kernel_rfl) (by kernel_rfl) (by kernel_rfl) (by simpa using hc))) ?_
        refine SimI.run 1 [(14, .one (.osl 100076 0 0 ((r19h :: r19t)).length))] [] (by kernel_rfl) ?_
        refine SimI.done (by kernel_rfl) ?_
        refine SimE.thenN ?_
        refine Sim.pre (ts := [0, 1, 7, 8, 14]) (os := [7, 8, 100076]) [(0, .one (vw Thing.cod a0)), (1, .one (vw Thing.cod a1)), (7, .one (.ptr 7 0)), (8, .one (.ptr 8 0)), (14, .one (ownL 100076 0 (r19h :: r19t)))] ((7, some (.cells [li .i64 a2.X0, li .i64 a2.Y0, li .i64 a2.X1, li .i64 a2.Y1])) :: ((8, some (.cells [li .i64 a3.X0, li .i64 a3.Y0, li .i64 a3.X1, li .i64 a3.Y1])) :: (ownM Event.cod 45 100076 0 (r19h :: r19t) []))) (by kernel_rfl) (by kernel_rfl) (by kernel_rfl) ?_
        exact F4_j23_ok n a0 a1 a2 a3 (r19h :: r19t) 0
    | cons r18h r18t =>
      refine SimI.guard (c := ((r18h :: r18t)).length * 264 ≤ maxCells ∧ ((r18h :: r18t)).length ≤ maxCells) { dst := some 76, op := POp.app 100076 45 25 264 (Operand.const (Value.slice none 0 0)) (Operand.tmp 75), guard := none, hints := [(75, Hint.imm)] } [(76, .one (.osl 100076 0 0 ((r18h :: r18t)).length))] [(100076, some (.arr 45 Event.cod.sz 0 ((r18h :: r18t)).length (getOf Event.cod (r18h :: r18t))))] (by kernel_rfl) (fun hc => pOp_eff (by kernel_rfl) (by kernel_rfl) (eff_appNL (c := Event.cod) (l := (r18h :: r18t)) (by kernel_rfl) (by kernel_rfl) (by kernel_rfl) (by kernel_rfl) (by kernel_rfl) hc)) ?_
      refine SimI.run 2 [(78, .one (li .i64 i8)), (77, .one (vw Thing.cod a0))] [] (by kernel_rfl) ?_
      refine SimI.guard (c := 0 ≤ (i8 : Int) ∧ (i8 : Int) ≤ ((a0).length : Int) ∧ ((a0).length : Int) ≤ ((a0).length : Int)) { dst := some 79, op := POp.slc 11 (Operand.tmp 77) (some (Operand.tmp 78)) none, guard := none, hints := [(77, Hint.imm), (78, Hint.imm)] } [(79, .one (vw Thing.cod (((a0).drop i8.toNat).take ((a0).length - i8.toNat))))] [] (by kernel_rfl) (fun hc => pOp_eff (by kernel_rfl) (by kernel_rfl) (eff_cut (c := Thing.cod) (l := a0) (a := i8.toNat) (b := (a0).length) (by kernel_rfl) (bound_some (k := .i64) (by kernel_rfl) hc.1) (by kernel_rfl) (by kernel_rfl) (by omega) (by omega))) ?_
      refine SimI.run 3 [(82, .one (li .i64 i14)), (81, .one (vw Thing.cod a1)), (80, .agg [li .i64 a2.X0, li .i64 a2.Y0, li .i64 a2.X1, li .i64 a2.Y1])] [] (by kernel_rfl) ?_
      refine SimI.guard (c := 0 ≤ (i14 : Int) ∧ (i14 : Int) ≤ ((a1).length : Int) ∧ ((a1).length : Int) ≤ ((a1).length : Int)) { dst := some 83, op := POp.slc 11 (Operand.tmp 81) (some (Operand.tmp 82)) none, guard := none, hints := [(81, Hint.imm), (82, Hint.imm)] } [(83, .one (vw Thing.cod (((a1).drop i14.toNat).take ((a1).length - i14.toNat))))] [] (by kernel_rfl) (fun hc => pOp_eff (by kernel_rfl) (by kernel_rfl) (eff_cut (c := Thing.cod) (l := a1) (a := i14.toNat) (b := (a1).length) (by kernel_rfl) (bound_some (k := .i64) (by kernel_rfl) hc.1) (by kernel_rfl) (by kernel_rfl) (by omega) (by omega))) ?_
      refine SimI.run 1 [(84, .agg [li .i64 a3.X0, li .i64 a3.Y0, li .i64 a3.X1, li .i64 a3.Y1])] [] (by kernel_rfl) ?_
      refine SimI.bind (og := F18 n (((a0).drop i8.toNat).take ((a0).length - i8.toNat)) a2 (((a1).drop i14.toNat).take ((a1).length - i14.toNat)) a3) { dst := some 85, op := POp.call false [[(0, 11)], [], [(0, 11)], []] 18 [Operand.tmp 79, Operand.tmp 80, Operand.tmp 83, Operand.tmp 84], guard := none, hints := [(79, Hint.imm), (80, Hint.imm), (83, Hint.imm), (84, Hint.imm)] } (fun r20 => [(85, .one (vw Event.cod r20))]) (fun r20 => []) (by kernel_rfl) (fun r20 hr => pOp_eff (by kernel_rfl) (by kernel_rfl) (eff_call (ARGS := [.one (vw Thing.cod (((a0).drop i8.toNat).take ((a0).length - i8.toNat))), .agg [li .i64 a2.X0, li .i64 a2.Y0, li .i64 a2.X1, li .i64 a2.Y1], .one (vw Thing.cod (((a1).drop i14.toNat).take ((a1).length - i14.toNat))), .agg [li .i64 a3.X0, li .i64 a3.Y0, li .i64 a3.X1, li .i64 a3.Y1]]) (by kernel_rfl) (args_clean (by kernel_rfl) (args_clean (by kernel_rfl) (args_clean (by kernel_rfl) (args_clean (by kernel_rfl) args_nil)))) (F18_ok n (((a0).drop i8.toNat).take ((a0).length - i8.toNat)) a2 (((a1).drop i14.toNat).take ((a1).length - i14.toNat)) a3 r20 hr) (by kernel_rfl))) (fun r20 => ?_)
      refine SimI.guard (c := (((r18h :: r18t)).length + (r20).length) * 264 ≤ maxCells ∧ ((r18h :: r18t)).length + (r20).length ≤ maxCells) { dst := some 86, op := POp.app 100076 45 25 264 (Operand.tmp 76) (Operand.tmp 85), guard := none, hints := [(76, Hint.obj 100076), (85, Hint.imm)] } [(86, .one (.osl 100076 (0 + 1) 0 (((r18h :: r18t) ++ r20)).length))] [(100076, some (.arr 45 Event.cod.sz (0 + 1) (((r18h :: r18t) ++ r20)).length (getOf Event.cod ((r18h :: r18t) ++ r20))))] (by kernel_rfl) (fun hc => pOp_eff (by kernel_rfl) (by kernel_rfl) (eff_appOL (c := Event.cod) (g := 0) (l := (r18h :: r18t)) (m := r20) (by kernel_rfl) (by kernel_rfl) (by kernel_rfl) (by kernel_rfl) hc)) ?_
      refine SimI.run 1 [(14, .one (.osl 100076 (0 + 1) 0 (((r18h :: r18t) ++ r20)).length))] [] (by kernel_rfl) ?_
      refine SimI.done (by kernel_rfl) ?_
      refine SimE.thenN ?_
      refine Sim.pre (ts := [0, 1, 7, 8, 14]) (os := [7, 8, 100076]) [(0, .one (vw Thing.cod a0)), (1, .one (vw Thing.cod a1)), (7, .one (.ptr 7 0)), (8, .one (.ptr 8 0)), (14, .one (ownL 100076 (0 + 1) ((r18h :: r18t) ++ r20)))] ((7, some (.cells [li .i64 a2.X0, li .i64 a2.Y0, li .i64 a2.X1, li .i64 a2.Y1])) :: ((8, some (.cells [li .i64 a3.X0, li .i64 a3.Y0, li .i64 a3.X1, li .i64 a3.Y1])) :: (ownM Event.cod 45 100076 (0 + 1) ((r18h :: r18t) ++ r20) []))) (by kernel_rfl) (by kernel_rfl) (by kernel_rfl) ?_
      exact F4_j23_ok n a0 a1 a2 a3 ((r18h :: r18t) ++ r20) (0 + 1)

def F4_l15 (n : Nat) (a0 : (List Thing)) (a1 : (List Thing)) (a2 : Rect) (a3 : Rect) (a4 : Int) (i8 : Int) : Nat → Int → Option Bool
  | 0, _ => none
  | m + 1, i14 =>
    if decide (i14 < ((a1).length : Int)) then
      (ix a1 i14).bind fun (x16 : Thing) =>
      if decide (x16.ID < IntKind.wrap .i64 a4) then
        (F4_l15 n a0 a1 a2 a3 a4 i8 m) (IntKind.wrap .i64 (i14 + 1))
      else
        F4_j17 n a0 a1 a2 a3 i8 i14
    else
      F4_j17 n a0 a1 a2 a3 i8 i14
theorem F4_l15_ok (n : Nat) (a0 : (List Thing)) (a1 : (List Thing)) (a2 : Rect) (a3 : Rect) (a4 : Int) (i8 : Int) : ∀ (m : Nat) (i14 : Int), SimL Try.prog D (n + 8) m pc4_c35 [(0, .one (vw Thing.cod a0)), (1, .one (vw Thing.cod a1)), (7, .one (.ptr 7 0)), (8, .one (.ptr 8 0)), (11, .one (li .i64 (IntKind.wrap .i64 a4))), (12, .one (li .i64 i8)), (13, .one (li .i64 i14))] ((7, some (.cells [li .i64 a2.X0, li .i64 a2.Y0, li .i64 a2.X1, li .i64 a2.Y1])) :: ((8, some (.cells [li .i64 a3.X0, li .i64 a3.Y0, li .i64 a3.X1, li .i64 a3.Y1])) :: [])) (F4_l15 n a0 a1 a2 a3 a4 i8 m i14) (QB 2 (QT Try.prog D (n + 8) pc4_c42 (QF pc4_r 0 F4_e))) := by
  intro m_l15
  induction m_l15 with
  | zero => intro i14; exact SimL.zero'  rfl
  | succ m_l15 ih_l15 =>
    intro i14
    refine SimL.succ ?_
    unfold F4_l15
    refine Sim.seq ?_
    refine Sim.seq ?_
    refine Sim.region [(0, .one (vw Thing.cod a0)), (1, .one (vw Thing.cod a1)), (7, .one (.ptr 7 0)), (8, .one (.ptr 8 0)), (11, .one (li .i64 (IntKind.wrap .i64 a4))), (12, .one (li .i64 i8)), (13, .one (li .i64 i14))] ((7, some (.cells [li .i64 a2.X0, li .i64 a2.Y0, li .i64 a2.X1, li .i64 a2.Y1])) :: ((8, some (.cells [li .i64 a3.X0, li .i64 a3.Y0, li .i64 a3.X1, li .i64 a3.Y1])) :: [])) (by kernel_rfl) ?_
    refine SimI.run 5 [(56, .one (lb (decide (i14 < ((a1).length : Int))))), (55, .one (lb (decide (i14 < ((a1).length : Int))))), (54, .one (li .i64 ((a1).length : Int))), (53, .one (vw Thing.cod a1)), (52, .one (li .i64 i14))] [] (by kernel_rfl) ?_
    refine SimI.split 56 (decide (i14 < ((a1).length : Int))) (by kernel_rfl) ?_ ?_
    · refine SimI.run 2 [(58, .one (li .i64 i14)), (57, .one (vw Thing.cod a1))] [] (by kernel_rfl) ?_
      refine SimI.bind (og := ix a1 i14) { dst := some 59, op := POp.iaddrS 11 (Operand.tmp 57) (Operand.tmp 58), guard := some (56, true), hints := [] } (fun x16 => [(59, .one (.eptr (Thing.cod.enc x16) 0))]) (fun x16 => []) (by kernel_rfl) (fun x16 hr => pOp_eff (by kernel_rfl) (by kernel_rfl) (eff_idx (c := Thing.cod) (l := a1) (k := .i64) (n := i14) (by kernel_rfl) (by kernel_rfl) (by kernel_rfl) hr)) (fun x16 => ?_)
      refine SimI.run 5 [(64, .one (lb (decide (x16.ID < IntKind.wrap .i64 a4)))), (63, .one (lb (decide (x16.ID < IntKind.wrap .i64 a4)))), (62, .one (li .i64 (IntKind.wrap .i64 a4))), (61, .one (li .i64 x16.ID)), (60, .one (.eptr (Thing.cod.enc x16) 0))] [] (by kernel_rfl) ?_
      refine SimI.done (by kernel_rfl) ?_
      refine SimE.thenN ?_
      refine Sim.cond (decide (x16.ID < IntKind.wrap .i64 a4)) (by kernel_rfl) ?_ ?_
      · refine Sim.skip ?_
        refine SimE.thenN ?_
        refine Sim.block ?_
        refine Sim.region0 ?_
        refine SimI.run 3 [(13, .one (li .i64 (IntKind.wrap .i64 (i14 + 1)))), (66, .one (li .i64 (IntKind.wrap .i64 (i14 + 1)))), (65, .one (li .i64 i14))] [] (by kernel_rfl) ?_
        refine SimI.done (by kernel_rfl) ?_
        refine SimE.blockN ?_
        refine SimE.loopN ?_
        refine SimL.pre (ts := [0, 1, 7, 8, 11, 12, 13]) (os := [7, 8]) [(0, .one (vw Thing.cod a0)), (1, .one (vw Thing.cod a1)), (7, .one (.ptr 7 0)), (8, .one (.ptr 8 0)), (11, .one (li .i64 (IntKind.wrap .i64 a4))), (12, .one (li .i64 i8)), (13, .one (li .i64 (IntKind.wrap .i64 (i14 + 1))))] ((7, some (.cells [li .i64 a2.X0, li .i64 a2.Y0, li .i64 a2.X1, li .i64 a2.Y1])) :: ((8, some (.cells [li .i64 a3.X0, li .i64 a3.Y0, li .i64 a3.X1, li .i64 a3.Y1])) :: [])) (by kernel_rfl) (by kernel_rfl) (by kernel_rfl) ?_
        exact ih_l15 (IntKind.wrap .i64 (i14 + 1))
      · refine Sim.exit ?_
        refine SimE.thenX ?_
        refine SimE.loopX ?_
        refine SimE.blockX ?_
        refine SimE.thenN ?_
        refine Sim.pre (ts := [0, 1, 7, 8, 12, 13]) (os := [7, 8]) [(0, .one (vw Thing.cod a0)), (1, .one (vw Thing.cod a1)), (7, .one (.ptr 7 0)), (8, .one (.ptr 8 0)), (12, .one (li .i64 i8)), (13, .one (li .i64 i14))] ((7, some (.cells [li .i64 a2.X0, li .i64 a2.Y0, li .i64 a2.X1, li .i64 a2.Y1])) :: ((8, some (.cells [li .i64 a3.X0, li .i64 a3.Y0, li .i64 a3.X1, li .i64 a3.Y1])) :: [])) (by kernel_rfl) (by kernel_rfl) (by kernel_rfl) ?_
        exact F4_j17_ok n a0 a1 a2 a3 i8 i14
    · refine SimI.run 8 [(64, .one (lb false)), (63, .tup []), (62, .tup []), (61, .tup []), (60, .tup []), (59, .tup []), (58, .tup []), (57, .tup [])] [] (by kernel_rfl) ?_
      refine SimI.done (by kernel_rfl) ?_
      refine SimE.thenN ?_
      refine Sim.condF (by kernel_rfl) ?_
      refine Sim.exit ?_
      refine SimE.thenX ?_
      refine SimE.loopX ?_
      refine SimE.blockX ?_
      refine SimE.thenN ?_
      refine Sim.pre (ts := [0, 1, 7, 8, 12, 13]) (os := [7, 8]) [(0, .one (vw Thing.cod a0)), (1, .one (vw Thing.cod a1)), (7, .one (.ptr 7 0)), (8, .one (.ptr 8 0)), (12, .one (li .i64 i8)), (13, .one (li .i64 i14))] ((7, some (.cells [li .i64 a2.X0, li .i64 a2.Y0, li .i64 a2.X1, li .i64 a2.Y1])) :: ((8, some (.cells [li .i64 a3.X0, li .i64 a3.Y0, li .i64 a3.X1, li .i64 a3.Y1])) :: [])) (by kernel_rfl) (by kernel_rfl) (by kernel_rfl) ?_
      exact F4_j17_ok n a0 a1 a2 a3 i8 i14

def F4_j11 (n : Nat) (a0 : (List Thing)) (a1 : (List Thing)) (a2 : Rect) (a3 : Rect) (a4 : Int) (i8 : Int) : Option Bool :=
    F4_l15 n a0 a1 a2 a3 a4 i8 (n + 8) 0
theorem F4_j11_ok (n : Nat) (a0 : (List Thing)) (a1 : (List Thing)) (a2 : Rect) (a3 : Rect) (a4 : Int) (i8 : Int) : Sim Try.prog D (n + 8) pc4_c43 [(0, .one (vw Thing.cod a0)), (1, .one (vw Thing.cod a1)), (7, .one (.ptr 7 0)), (8, .one (.ptr 8 0)), (11, .one (li .i64 (IntKind.wrap .i64 a4))), (12, .one (li .i64 i8)), (13, .one (li .i64 0))] ((7, some (.cells [li .i64 a2.X0, li .i64 a2.Y0, li .i64 a2.X1, li .i64 a2.Y1])) :: ((8, some (.cells [li .i64 a3.X0, li .i64 a3.Y0, li .i64 a3.X1, li .i64 a3.Y1])) :: [])) (F4_j11 n a0 a1 a2 a3 a4 i8) (QF pc4_r 0 F4_e) := by
    unfold F4_j11
    refine Sim.seq ?_
    refine Sim.block ?_
    refine Sim.loop ?_
    refine SimL.pre (ts := [0, 1, 7, 8, 11, 12, 13]) (os := [7, 8]) [(0, .one (vw Thing.cod a0)), (1, .one (vw Thing.cod a1)), (7, .one (.ptr 7 0)), (8, .one (.ptr 8 0)), (11, .one (li .i64 (IntKind.wrap .i64 a4))), (12, .one (li .i64 i8)), (13, .one (li .i64 0))] ((7, some (.cells [li .i64 a2.X0, li .i64 a2.Y0, li .i64 a2.X1, li .i64 a2.Y1])) :: ((8, some (.cells [li .i64 a3.X0, li .i64 a3.Y0, li .i64 a3.X1, li .i64 a3.Y1])) :: [])) (by kernel_rfl) (by kernel_rfl) (by kernel_rfl) ?_
    exact F4_l15_ok n a0 a1 a2 a3 a4 i8 (n + 8) 0

def F4_l9 (n : Nat) (a0 : (List Thing)) (a1 : (List Thing)) (a2 : Rect) (a3 : Rect) (a4 : Int) : Nat → Int → Option Bool
  | 0, _ => none
  | m + 1, i8 =>
    if decide (i8 < ((a0).length : Int)) then
      (ix a0 i8).bind fun (x10 : Thing) =>
      if decide (x10.ID < IntKind.wrap .i64 a4) then
        (F4_l9 n a0 a1 a2 a3 a4 m) (IntKind.wrap .i64 (i8 + 1))
      else
        F4_j11 n a0 a1 a2 a3 a4 i8
    else
      F4_j11 n a0 a1 a2 a3 a4 i8
theorem F4_l9_ok (n : Nat) (a0 : (List Thing)) (a1 : (List Thing)) (a2 : Rect) (a3 : Rect) (a4 : Int) : ∀ (m : Nat) (i8 : Int), SimL Try.prog D (n + 8) m pc4_c25 [(0, .one (vw Thing.cod a0)), (1, .one (vw Thing.cod a1)), (7, .one (.ptr 7 0)), (8, .one (.ptr 8 0)), (11, .one (li .i64 (IntKind.wrap .i64 a4))), (12, .one (li .i64 i8)), (13, .one (li .i64 0))] ((7, some (.cells [li .i64 a2.X0, li .i64 a2.Y0, li .i64 a2.X1, li .i64 a2.Y1])) :: ((8, some (.cells [li .i64 a3.X0, li .i64 a3.Y0, li .i64 a3.X1, li .i64 a3.Y1])) :: [])) (F4_l9 n a0 a1 a2 a3 a4 m i8) (QB 0 (QT Try.prog D (n + 8) pc4_c43 (QF pc4_r 0 F4_e))) := by
  intro m_l9
  induction m_l9 with
  | zero => intro i8; exact SimL.zero'  rfl
  | succ m_l9 ih_l9 =>
    intro i8
    refine SimL.succ ?_
    unfold F4_l9
    refine Sim.seq ?_
    refine Sim.seq ?_
    refine Sim.region [(0, .one (vw Thing.cod a0)), (1, .one (vw Thing.cod a1)), (7, .one (.ptr 7 0)), (8, .one (.ptr 8 0)), (11, .one (li .i64 (IntKind.wrap .i64 a4))), (12, .one (li .i64 i8)), (13, .one (li .i64 0))] ((7, some (.cells [li .i64 a2.X0, li .i64 a2.Y0, li .i64 a2.X1, li .i64 a2.Y1])) :: ((8, some (.cells [li .i64 a3.X0, li .i64 a3.Y0, li .i64 a3.X1, li .i64 a3.Y1])) :: [])) (by kernel_rfl) ?_
    refine SimI.run 5 [(41, .one (lb (decide (i8 < ((a0).length : Int))))), (40, .one (lb (decide (i8 < ((a0).length : Int))))), (39, .one (li .i64 ((a0).length : Int))), (38, .one (vw Thing.cod a0)), (37, .one (li .i64 i8))] [] (by kernel_rfl) ?_
    refine SimI.split 41 (decide (i8 < ((a0).length : Int))) (by kernel_rfl) ?_ ?_
    · refine SimI.run 2 [(43, .one (li .i64 i8)), (42, .one (vw Thing.cod a0))] [] (by kernel_rfl) ?_
      refine SimI.bind (og := ix a0 i8) { dst := some 44, op := POp.iaddrS 11 (Operand.tmp 42) (Operand.tmp 43), guard := some (41, true), hints := [] } (fun x10 => [(44, .one (.eptr (Thing.cod.enc x10) 0))]) (fun x10 => []) (by kernel_rfl) (fun x10 hr => pOp_eff (by kernel_rfl) (by kernel_rfl) (eff_idx (c := Thing.cod) (l := a0) (k := .i64) (n := i8) (by kernel_rfl) (by kernel_rfl) (by kernel_rfl) hr)) (fun x10 => ?_)
      refine SimI.run 5 [(49, .one (lb (decide (x10.ID < IntKind.wrap .i64 a4)))), (48, .one (lb (decide (x10.ID < IntKind.wrap .i64 a4)))), (47, .one (li .i64 (IntKind.wrap .i64 a4))), (46, .one (li .i64 x10.ID)), (45, .one (.eptr (Thing.cod.enc x10) 0))] [] (by kernel_rfl) ?_
      refine SimI.done (by kernel_rfl) ?_
      refine SimE.thenN ?_
      refine Sim.cond (decide (x10.ID < IntKind.wrap .i64 a4)) (by kernel_rfl) ?_ ?_
      · refine Sim.skip ?_
        refine SimE.thenN ?_
        refine Sim.block ?_
        refine Sim.region0 ?_
        refine SimI.run 3 [(12, .one (li .i64 (IntKind.wrap .i64 (i8 + 1)))), (51, .one (li .i64 (IntKind.wrap .i64 (i8 + 1)))), (50, .one (li .i64 i8))] [] (by kernel_rfl) ?_
        refine SimI.done (by kernel_rfl) ?_
        refine SimE.blockN ?_
        refine SimE.loopN ?_
        refine SimL.pre (ts := [0, 1, 7, 8, 11, 12, 13]) (os := [7, 8]) [(0, .one (vw Thing.cod a0)), (1, .one (vw Thing.cod a1)), (7, .one (.ptr 7 0)), (8, .one (.ptr 8 0)), (11, .one (li .i64 (IntKind.wrap .i64 a4))), (12, .one (li .i64 (IntKind.wrap .i64 (i8 + 1)))), (13, .one (li .i64 0))] ((7, some (.cells [li .i64 a2.X0, li .i64 a2.Y0, li .i64 a2.X1, li .i64 a2.Y1])) :: ((8, some (.cells [li .i64 a3.X0, li .i64 a3.Y0, li .i64 a3.X1, li .i64 a3.Y1])) :: [])) (by kernel_rfl) (by kernel_rfl) (by kernel_rfl) ?_
        exact ih_l9 (IntKind.wrap .i64 (i8 + 1))
      · refine Sim.exit ?_
        refine SimE.thenX ?_
        refine SimE.loopX ?_
        refine SimE.blockX ?_
        refine SimE.thenN ?_
        refine Sim.pre (ts := [0, 1, 7, 8, 11, 12, 13]) (os := [7, 8]) [(0, .one (vw Thing.cod a0)), (1, .one (vw Thing.cod a1)), (7, .one (.ptr 7 0)), (8, .one (.ptr 8 0)), (11, .one (li .i64 (IntKind.wrap .i64 a4))), (12, .one (li .i64 i8)), (13, .one (li .i64 0))] ((7, some (.cells [li .i64 a2.X0, li .i64 a2.Y0, li .i64 a2.X1, li .i64 a2.Y1])) :: ((8, some (.cells [li .i64 a3.X0, li .i64 a3.Y0, li .i64 a3.X1, li .i64 a3.Y1])) :: [])) (by kernel_rfl) (by kernel_rfl) (by kernel_rfl) ?_
        exact F4_j11_ok n a0 a1 a2 a3 a4 i8
    · refine SimI.run 8 [(49, .one (lb false)), (48, .tup []), (47, .tup []), (46, .tup []), (45, .tup []), (44, .tup []), (43, .tup []), (42, .tup [])] [] (by kernel_rfl) ?_
      refine SimI.done (by kernel_rfl) ?_
      refine SimE.thenN ?_
      refine Sim.condF (by kernel_rfl) ?_
      refine Sim.exit ?_
      refine SimE.thenX ?_
      refine SimE.loopX ?_
      refine SimE.blockX ?_
      refine SimE.thenN ?_
      refine Sim.pre (ts := [0, 1, 7, 8, 11, 12, 13]) (os := [7, 8]) [(0, .one (vw Thing.cod a0)), (1, .one (vw Thing.cod a1)), (7, .one (.ptr 7 0)), (8, .one (.ptr 8 0)), (11, .one (li .i64 (IntKind.wrap .i64 a4))), (12, .one (li .i64 i8)), (13, .one (li .i64 0))] ((7, some (.cells [li .i64 a2.X0, li .i64 a2.Y0, li .i64 a2.X1, li .i64 a2.Y1])) :: ((8, some (.cells [li .i64 a3.X0, li .i64 a3.Y0, li .i64 a3.X1, li .i64 a3.Y1])) :: [])) (by kernel_rfl) (by kernel_rfl) (by kernel_rfl) ?_
      exact F4_j11_ok n a0 a1 a2 a3 a4 i8

def F4 (n : Nat) (a0 : (List Thing)) (a1 : (List Thing)) (a2 : Rect) (a3 : Rect) (a4 : Int) : Option Bool :=
  ((some true)).bind fun (r1 : Bool) =>
  if !(r1) then
    some false
  else
    (F15 n a0).bind fun (r2 : Bool) =>
    if !(r2) then
      some true
    else
      (F15 n a1).bind fun (r3 : Bool) =>
      if !(r3) then
        some true
      else
        (F16 n a0).bind fun (r4 : Bool) =>
        if !(r4) then
          some true
        else
          (F16 n a1).bind fun (r5 : Bool) =>
          if !(r5) then
            some true
          else
            F4_l9 n a0 a1 a2 a3 a4 (n + 8) 0
theorem F4_ok (n : Nat) (a0 : (List Thing)) (a1 : (List Thing)) (a2 : Rect) (a3 : Rect) (a4 : Int) : ∀ r, F4 n a0 a1 a2 a3 a4 = some r → D 4 [.one (vw Thing.cod a0), .one (vw Thing.cod a1), .agg [li .i64 a2.X0, li .i64 a2.Y0, li .i64 a2.X1, li .i64 a2.Y1], .agg [li .i64 a3.X0, li .i64 a3.Y0, li .i64 a3.X1, li .i64 a3.Y1], .one (li .u8 a4)] [] = some (F4_e r) := by
  refine fn_to (D := D) (n := n + 8) (nt := 94) (rs := pc4_r) (c := pc4_c49) (L := [(0, .one (vw Thing.cod a0)), (1, .one (vw Thing.cod a1)), (2, .agg [li .i64 a2.X0, li .i64 a2.Y0, li .i64 a2.X1, li .i64 a2.Y1]), (3, .agg [li .i64 a3.X0, li .i64 a3.Y0, li .i64 a3.X1, li .i64 a3.Y1]), (4, .one (li .u8 a4))]) (M := []) (k := 0) rfl rfl rfl rfl rfl rfl ?_
  unfold F4
  refine Sim.seq ?_
  refine Sim.region0 ?_
  refine SimI.run 3 [(10, .one (lb false)), (8, .one (.ptr 8 0)), (7, .one (.ptr 7 0))] [(8, some (.cells [li .i64 a3.X0, li .i64 a3.Y0, li .i64 a3.X1, li .i64 a3.Y1])), (7, some (.cells [li .i64 a2.X0, li .i64 a2.Y0, li .i64 a2.X1, li .i64 a2.Y1]))] (by kernel_rfl) ?_
  refine SimI.done (by kernel_rfl) ?_
  refine SimE.thenN ?_
  refine Sim.seq ?_
  refine Sim.seq ?_
  refine Sim.region0 ?_
  refine SimI.bind (og := (some true)) { dst := some 15, op := POp.call true [] 14 [], guard := none, hints := [] } (fun r1 => [(15, .one (lb r1))]) (fun r1 => []) (by kernel_rfl) (fun r1 hr => pOp_eff (by kernel_rfl) (by kernel_rfl) (eff_call (ARGS := []) (by kernel_rfl) (args_nil) (F14_ok n r1 hr) (by kernel_rfl))) (fun r1 => ?_)
  refine SimI.run 1 [(16, .one (lb (!(r1))))] [] (by kernel_rfl) ?_
  refine SimI.done (by kernel_rfl) ?_
  refine SimE.thenN ?_
  refine Sim.cond (!(r1)) (by kernel_rfl) ?_ ?_
  · refine Sim.seq ?_
    refine Sim.region0 ?_
    refine SimI.run 1 [(10, .one (lb false))] [] (by kernel_rfl) ?_
    refine SimI.done (by kernel_rfl) ?_
    refine SimE.thenN ?_
    refine Sim.ret ?_
    refine SimE.thenR ?_
    exact SimE.fin (by kernel_rfl)
  · refine Sim.skip ?_
    refine SimE.thenN ?_
    refine Sim.seq ?_
    refine Sim.seq ?_
    refine Sim.region0 ?_
    refine SimI.run 1 [(17, .one (vw Thing.cod a0))] [] (by kernel_rfl) ?_
    refine SimI.bind (og := F15 n a0) { dst := some 18, op := POp.call true [[(0, 11)]] 15 [Operand.tmp 17], guard := none, hints := [] } (fun r2 => [(18, .one (lb r2))]) (fun r2 => []) (by kernel_rfl) (fun r2 hr => pOp_eff (by kernel_rfl) (by kernel_rfl) (eff_call (ARGS := [.one (vw Thing.cod a0)]) (by kernel_rfl) (args_clean (by kernel_rfl) args_nil) (F15_ok n a0 r2 hr) (by kernel_rfl))) (fun r2 => ?_)
    refine SimI.run 2 [(20, .one (lb (!(r2)))), (19, .one (lb (!(r2))))] [] (by kernel_rfl) ?_
    refine SimI.split 20 (!(r2)) (by kernel_rfl) ?_ ?_
    · refine SimI.run 14 [(34, .one (lb true)), (33, .tup []), (32, .tup []), (31, .tup []), (30, .one (lb true)), (29, .one (lb true)), (28, .tup []), (27, .tup []), (26, .tup []), (25, .one (lb true)), (24, .one (lb true)), (23, .tup []), (22, .tup []), (21, .tup [])] [] (by kernel_rfl) ?_
      refine SimI.done (by kernel_rfl) ?_
      refine SimE.thenN ?_
      refine Sim.condT (by kernel_rfl) ?_
      refine Sim.seq ?_
      refine Sim.region0 ?_
      refine SimI.run 1 [(10, .one (lb true))] [] (by kernel_rfl) ?_
      refine SimI.done (by kernel_rfl) ?_
      refine SimE.thenN ?_
      refine Sim.ret ?_
      refine SimE.thenR ?_
      exact SimE.fin (by kernel_rfl)
    · refine SimI.run 1 [(21, .one (vw Thing.cod a1))] [] (by kernel_rfl) ?_
      refine SimI.bind (og := F15 n a1) { dst := some 22, op := POp.call true [[(0, 11)]] 15 [Operand.tmp 21], guard := some (20, false), hints := [] } (fun r3 => [(22, .one (lb r3))]) (fun r3 => []) (by kernel_rfl) (fun r3 hr => pOp_eff (by kernel_rfl) (by kernel_rfl) (eff_call (ARGS := [.one (vw Thing.cod a1)]) (by kernel_rfl) (args_clean (by kernel_rfl) args_nil) (F15_ok n a1 r3 hr) (by kernel_rfl))) (fun r3 => ?_)
      refine SimI.run 3 [(25, .one (lb (!(r3)))), (24, .one (lb (!(r3)))), (23, .one (lb (!(r3))))] [] (by kernel_rfl) ?_
      refine SimI.split 25 (!(r3)) (by kernel_rfl) ?_ ?_
      · refine SimI.run 9 [(34, .one (lb true)), (33, .tup []), (32, .tup []), (31, .tup []), (30, .one (lb true)), (29, .one (lb true)), (28, .tup []), (27, .tup []), (26, .tup [])] [] (by kernel_rfl) ?_
        refine SimI.done (by kernel_rfl) ?_
        refine SimE.thenN ?_
        refine Sim.condT (by kernel_rfl) ?_
        refine Sim.seq ?_
        refine Sim.region0 ?_
        refine SimI.run 1 [(10, .one (lb true))] [] (by kernel_rfl) ?_
        refine SimI.done (by kernel_rfl) ?_
        refine SimE.thenN ?_
        refine Sim.ret ?_
        refine SimE.thenR ?_
        exact SimE.fin (by kernel_rfl)
      · refine SimI.run 1 [(26, .one (vw Thing.cod a0))] [] (by kernel_rfl) ?_
        refine SimI.bind (og := F16 n a0) { dst := some 27, op := POp.call true [[(0, 11)]] 16 [Operand.tmp 26], guard := some (25, false), hints := [] } (fun r4 => [(27, .one (lb r4))]) (fun r4 => []) (by kernel_rfl) (fun r4 hr => pOp_eff (by kernel_rfl) (by kernel_rfl) (eff_call (ARGS := [.one (vw Thing.cod a0)]) (by kernel_rfl) (args_clean (by kernel_rfl) args_nil) (F16_ok n a0 r4 hr) (by kernel_rfl))) (fun r4 => ?_)
        refine SimI.run 3 [(30, .one (lb (!(r4)))), (29, .one (lb (!(r4)))), (28, .one (lb (!(r4))))] [] (by kernel_rfl) ?_
        refine SimI.split 30 (!(r4)) (by kernel_rfl) ?_ ?_
        · refine SimI.run 4 [(34, .one (lb true)), (33, .tup []), (32, .tup []), (31, .tup [])] [] (by kernel_rfl) ?_
          refine SimI.done (by kernel_rfl) ?_
          refine SimE.thenN ?_
          refine Sim.condT (by kernel_rfl) ?_
          refine Sim.seq ?_
          refine Sim.region0 ?_
          refine SimI.run 1 [(10, .one (lb true))] [] (by kernel_rfl) ?_
          refine SimI.done (by kernel_rfl) ?_
          refine SimE.thenN ?_
          refine Sim.ret ?_
          refine SimE.thenR ?_
          exact SimE.fin (by kernel_rfl)
        · refine SimI.run 1 [(31, .one (vw Thing.cod a1))] [] (by kernel_rfl) ?_
          refine SimI.bind (og := F16 n a1) { dst := some 32, op := POp.call true [[(0, 11)]] 16 [Operand.tmp 31], guard := some (30, false), hints := [] } (fun r5 => [(32, .one (lb r5))]) (fun r5 => []) (by kernel_rfl) (fun r5 hr => pOp_eff (by kernel_rfl) (by kernel_rfl) (eff_call (ARGS := [.one (vw Thing.cod a1)]) (by kernel_rfl) (args_clean (by kernel_rfl) args_nil) (F16_ok n a1 r5 hr) (by kernel_rfl))) (fun r5 => ?_)
          refine SimI.run 2 [(34, .one (lb (!(r5)))), (33, .one (lb (!(r5))))] [] (by kernel_rfl) ?_
          refine SimI.done (by kernel_rfl) ?_
          refine SimE.thenN ?_
          refine Sim.cond (!(r5)) (by kernel_rfl) ?_ ?_
          · refine Sim.seq ?_
            refine Sim.region0 ?_
            refine SimI.run 1 [(10, .one (lb true))] [] (by kernel_rfl) ?_
            refine SimI.done (by kernel_rfl) ?_
            refine SimE.thenN ?_
            refine Sim.ret ?_
            refine SimE.thenR ?_
            exact SimE.fin (by kernel_rfl)
          · refine Sim.skip ?_
            refine SimE.thenN ?_
            refine Sim.seq ?_
            refine Sim.region0 ?_
            refine SimI.run 3 [(11, .one (li .i64 (IntKind.wrap .i64 a4))), (36, .one (li .i64 (IntKind.wrap .i64 a4))), (35, .one (li .u8 a4))] [] (by kernel_rfl) ?_
            refine SimI.done (by kernel_rfl) ?_
            refine SimE.thenN ?_
            refine Sim.seq ?_
            refine Sim.region0 ?_
            refine SimI.run 2 [(13, .one (li .i64 0)), (12, .one (li .i64 0))] [] (by kernel_rfl) ?_
            refine SimI.done (by kernel_rfl) ?_
            refine SimE.thenN ?_
            refine Sim.seq ?_
            refine Sim.block ?_
            refine Sim.loop ?_
            refine SimL.pre (ts := [0, 1, 7, 8, 11, 12, 13]) (os := [7, 8]) [(0, .one (vw Thing.cod a0)), (1, .one (vw Thing.cod a1)), (7, .one (.ptr 7 0)), (8, .one (.ptr 8 0)), (11, .one (li .i64 (IntKind.wrap .i64 a4))), (12, .one (li .i64 0)), (13, .one (li .i64 0))] ((7, some (.cells [li .i64 a2.X0, li .i64 a2.Y0, li .i64 a2.X1, li .i64 a2.Y1])) :: ((8, some (.cells [li .i64 a3.X0, li .i64 a3.Y0, li .i64 a3.X1, li .i64 a3.Y1])) :: [])) (by kernel_rfl) (by kernel_rfl) (by kernel_rfl) ?_
            exact F4_l9_ok n a0 a1 a2 a3 a4 (n + 8) 0


-- 5: vedette/vedettelaw16.DiffRects
def F5_e : Bool → PV × List (List Lf) := fun r => (.one (lb r), [])
def F5_j17 (n : Nat) (a0 : (List Thing)) (r4 : (List Event)) (i9 : Int) (i10 : Int) (rec_l11 : Int → Int → Option Bool) (i16 : Int) : Option Bool :=
    if decide (((r4).length : Int) ≤ i9) then
      some false
    else
      (ix r4 i9).bind fun (x18 : Event) =>
      (ix a0 i10).bind fun (x19 : Thing) =>
      if x18.ID != x19.ID then
        some false
      else
        (ix r4 i9).bind fun (x20 : Event) =>
        if x20.Kind != i16 then
          some false
        else
          rec_l11 (IntKind.wrap .i64 (i9 + 1)) (IntKind.wrap .i64 (i10 + 1))
theorem F5_j17_ok (n : Nat) (a0 : (List Thing)) (a1 : Rect) (a2 : Rect) (r4 : (List Event)) (i9 : Int) (i10 : Int) (rec_l11 : Int → Int → Option Bool) (m_l11 : Nat) (ih_l11 : ∀ (i9 : Int) (i10 : Int), SimL Try.prog D (n + 8) m_l11 pc5_c50 [(0, .one (vw Thing.cod a0)), (4, .one (.ptr 4 0)), (5, .one (.ptr 5 0)), (7, .one (vw Event.cod r4)), (8, .one (li .i64 i9)), (9, .one (li .i64 i10))] ((4, some (.cells [li .i64 a1.X0, li .i64 a1.Y0, li .i64 a1.X1, li .i64 a1.Y1])) :: ((5, some (.cells [li .i64 a2.X0, li .i64 a2.Y0, li .i64 a2.X1, li .i64 a2.Y1])) :: [])) (rec_l11 i9 i10) (QB 0 (QT Try.prog D (n + 8) pc5_c56 (QF pc5_r 0 F5_e)))) (i16 : Int) : Sim Try.prog D (n + 8) pc5_c40 [(0, .one (vw Thing.cod a0)), (4, .one (.ptr 4 0)), (5, .one (.ptr 5 0)), (7, .one (vw Event.cod r4)), (8, .one (li .i64 i9)), (9, .one (li .i64 i10)), (12, .one (li .i64 i16))] ((4, some (.cells [li .i64 a1.X0, li .i64 a1.Y0, li .i64 a1.X1, li .i64 a1.Y1])) :: ((5, some (.cells [li .i64 a2.X0, li .i64 a2.Y0, li .i64 a2.X1, li .i64 a2.Y1])) :: [])) (F5_j17 n a0 r4 i9 i10 rec_l11 i16) (QB 1 (QT Try.prog D (n + 8) pc5_c48 (QL Try.prog D (n + 8) m_l11 pc5_c50 (QB 0 (QT Try.prog D (n + 8) pc5_c56 (QF pc5_r 0 F5_e)))))) := by
    unfold F5_j17
    refine Sim.seq ?_
    refine Sim.seq ?_
    refine Sim.region [(0, .one (vw Thing.cod a0)), (4, .one (.ptr 4 0)), (5, .one (.ptr 5 0)), (7, .one (vw Event.cod r4)), (8, .one (li .i64 i9)), (9, .one (li .i64 i10)), (12, .one (li .i64 i16))] ((4, some (.cells [li .i64 a1.X0, li .i64 a1.Y0, li .i64 a1.X1, li .i64 a1.Y1])) :: ((5, some (.cells [li .i64 a2.X0, li .i64 a2.Y0, li .i64 a2.X1, li .i64 a2.Y1])) :: [])) (by kernel_rfl) ?_
    refine SimI.run 5 [(80, .one (lb (decide (((r4).length : Int) ≤ i9)))), (79, .one (lb (decide (((r4).length : Int) ≤ i9)))), (78, .one (li .i64 ((r4).length : Int))), (77, .one (vw Event.cod r4)), (76, .one (li .i64 i9))] [] (by kernel_rfl) ?_
    refine SimI.split 80 (decide (((r4).length : Int) ≤ i9)) (by kernel_rfl) ?_ ?_
    · refine SimI.run 21 [(101, .one (lb true)), (100, .tup []), (99, .tup []), (98, .tup []), (97, .tup []), (96, .tup []), (95, .tup []), (94, .tup []), (93, .one (lb true)), (92, .one (lb true)), (91, .tup []), (90, .tup []), (89, .tup []), (88, .tup []), (87, .tup []), (86, .tup []), (85, .tup []), (84, .tup []), (83, .tup []), (82, .tup []), (81, .tup [])] [] (by kernel_rfl) ?_
      refine SimI.done (by kernel_rfl) ?_
      refine SimE.thenN ?_
      refine Sim.condT (by kernel_rfl) ?_
      refine Sim.seq ?_
      refine Sim.region0 ?_
      refine SimI.run 1 [(6, .one (lb false))] [] (by kernel_rfl) ?_
      refine SimI.done (by kernel_rfl) ?_
      refine SimE.thenN ?_
      refine Sim.ret ?_
      refine SimE.thenR ?_
      refine SimE.blockR ?_
      refine SimE.thenR ?_
      refine SimE.loopR ?_
      refine SimE.blockR ?_
      refine SimE.thenR ?_
      exact SimE.fin (by kernel_rfl)
    · refine SimI.run 2 [(82, .one (li .i64 i9)), (81, .one (vw Event.cod r4))] [] (by kernel_rfl) ?_
      refine SimI.bind (og := ix r4 i9) { dst := some 83, op := POp.iaddrS 25 (Operand.tmp 81) (Operand.tmp 82), guard := some (80, false), hints := [(81, Hint.imm), (82, Hint.imm)] } (fun x18 => [(83, .one (.eptr (Event.cod.enc x18) 0))]) (fun x18 => []) (by kernel_rfl) (fun x18 hr => pOp_eff (by kernel_rfl) (by kernel_rfl) (eff_idx (c := Event.cod) (l := r4) (k := .i64) (n := i9) (by kernel_rfl) (by kernel_rfl) (by kernel_rfl) hr)) (fun x18 => ?_)
      refine SimI.run 4 [(87, .one (li .i64 i10)), (86, .one (vw Thing.cod a0)), (85, .one (li .i64 x18.ID)), (84, .one (.eptr (Event.cod.enc x18) 1))] [] (by kernel_rfl) ?_
      refine SimI.bind (og := ix a0 i10) { dst := some 88, op := POp.iaddrS 11 (Operand.tmp 86) (Operand.tmp 87), guard := some (80, false), hints := [(86, Hint.imm), (87, Hint.imm)] } (fun x19 => [(88, .one (.eptr (Thing.cod.enc x19) 0))]) (fun x19 => []) (by kernel_rfl) (fun x19 hr => pOp_eff (by kernel_rfl) (by kernel_rfl) (eff_idx (c := Thing.cod) (l := a0) (k := .i64) (n := i10) (by kernel_rfl) (by kernel_rfl) (by kernel_rfl) hr)) (fun x19 => ?_)
      refine SimI.run 5 [(93, .one (lb (x18.ID != x19.ID))), (92, .one (lb (x18.ID != x19.ID))), (91, .one (lb (x18.ID != x19.ID))), (90, .one (li .i64 x19.ID)), (89, .one (.eptr (Thing.cod.enc x19) 0))] [] (by kernel_rfl) ?_
      refine SimI.split 93 (x18.ID != x19.ID) (by kernel_rfl) ?_ ?_
      · refine SimI.run 8 [(101, .one (lb true)), (100, .tup []), (99, .tup []), (98, .tup []), (97, .tup []), (96, .tup []), (95, .tup []), (94, .tup [])] [] (by kernel_rfl) ?_
        refine SimI.done (by kernel_rfl) ?_
        refine SimE.thenN ?_
        refine Sim.condT (by kernel_rfl) ?_
        refine Sim.seq ?_
        refine Sim.region0 ?_
        refine SimI.run 1 [(6, .one (lb false))] [] (by kernel_rfl) ?_
        refine SimI.done (by kernel_rfl) ?_
        refine SimE.thenN ?_
        refine Sim.ret ?_
        refine SimE.thenR ?_
        refine SimE.blockR ?_
        refine SimE.thenR ?_
        refine SimE.loopR ?_
        refine SimE.blockR ?_
        refine SimE.thenR ?_
        exact SimE.fin (by kernel_rfl)
      · refine SimI.run 2 [(95, .one (li .i64 i9)), (94, .one (vw Event.cod r4))] [] (by kernel_rfl) ?_
        refine SimI.bind (og := ix r4 i9) { dst := some 96, op := POp.iaddrS 25 (Operand.tmp 94) (Operand.tmp 95), guard := some (93, false), hints := [(94, Hint.imm), (95, Hint.imm)] } (fun x20 => [(96, .one (.eptr (Event.cod.enc x20) 0))]) (fun x20 => []) (by kernel_rfl) (fun x20 hr => pOp_eff (by kernel_rfl) (by kernel_rfl) (eff_idx (c := Event.cod) (l := r4) (k := .i64) (n := i9) (by kernel_rfl) (by kernel_rfl) (by kernel_rfl) hr)) (fun x20 => ?_)
        refine SimI.run 5 [(101, .one (lb (x20.Kind != i16))), (100, .one (lb (x20.Kind != i16))), (99, .one (li .i64 i16)), (98, .one (li .i64 x20.Kind)), (97, .one (.eptr (Event.cod.enc x20) 0))] [] (by kernel_rfl) ?_
        refine SimI.done (by kernel_rfl) ?_
        refine SimE.thenN ?_
        refine Sim.cond (x20.Kind != i16) (by kernel_rfl) ?_ ?_
        · refine Sim.seq ?_
          refine Sim.region0 ?_
          refine SimI.run 1 [(6, .one (lb false))] [] (by kernel_rfl) ?_
          refine SimI.done (by kernel_rfl) ?_
          refine SimE.thenN ?_
          refine Sim.ret ?_
          refine SimE.thenR ?_
          refine SimE.blockR ?_
          refine SimE.thenR ?_
          refine SimE.loopR ?_
          refine SimE.blockR ?_
          refine SimE.thenR ?_
          exact SimE.fin (by kernel_rfl)
        · refine Sim.skip ?_
          refine SimE.thenN ?_
          refine Sim.region0 ?_
          refine SimI.run 3 [(8, .one (li .i64 (IntKind.wrap .i64 (i9 + 1)))), (103, .one (li .i64 (IntKind.wrap .i64 (i9 + 1)))), (102, .one (li .i64 i9))] [] (by kernel_rfl) ?_
          refine SimI.done (by kernel_rfl) ?_
          refine SimE.blockN ?_
          refine SimE.thenN ?_
          refine Sim.region0 ?_
          refine SimI.run 3 [(9, .one (li .i64 (IntKind.wrap .i64 (i10 + 1)))), (57, .one (li .i64 (IntKind.wrap .i64 (i10 + 1)))), (56, .one (li .i64 i10))] [] (by kernel_rfl) ?_
          refine SimI.done (by kernel_rfl) ?_
          refine SimE.loopN ?_
          refine SimL.pre (ts := [0, 4, 5, 7, 8, 9]) (os := [4, 5]) [(0, .one (vw Thing.cod a0)), (4, .one (.ptr 4 0)), (5, .one (.ptr 5 0)), (7, .one (vw Event.cod r4)), (8, .one (li .i64 (IntKind.wrap .i64 (i9 + 1)))), (9, .one (li .i64 (IntKind.wrap .i64 (i10 + 1))))] ((4, some (.cells [li .i64 a1.X0, li .i64 a1.Y0, li .i64 a1.X1, li .i64 a1.Y1])) :: ((5, some (.cells [li .i64 a2.X0, li .i64 a2.Y0, li .i64 a2.X1, li .i64 a2.Y1])) :: [])) (by kernel_rfl) (by kernel_rfl) (by kernel_rfl) ?_
          exact ih_l11 (IntKind.wrap .i64 (i9 + 1)) (IntKind.wrap .i64 (i10 + 1))

def F5_l11 (n : Nat) (a0 : (List Thing)) (a1 : Rect) (a2 : Rect) (r4 : (List Event)) : Nat → Int → Int → Option Bool
  | 0, _, _ => none
  | m + 1, i9, i10 =>
    if decide (i10 < ((a0).length : Int)) then
      (ix a0 i10).bind fun (x12 : Thing) =>
      (F23 n a1 x12.At).bind fun (r13 : Bool) =>
      (ix a0 i10).bind fun (x14 : Thing) =>
      (F23 n a2 x14.At).bind fun (r15 : Bool) =>
      if !(r13 == r15) then
        if r13 then
          F5_j17 n a0 r4 i9 i10 (F5_l11 n a0 a1 a2 r4 m) 3
        else
          F5_j17 n a0 r4 i9 i10 (F5_l11 n a0 a1 a2 r4 m) 1
      else
        (F5_l11 n a0 a1 a2 r4 m) i9 (IntKind.wrap .i64 (i10 + 1))
    else
      some (i9 == ((r4).length : Int))
theorem F5_l11_ok (n : Nat) (a0 : (List Thing)) (a1 : Rect) (a2 : Rect) (r4 : (List Event)) : ∀ (m : Nat) (i9 : Int) (i10 : Int), SimL Try.prog D (n + 8) m pc5_c50 [(0, .one (vw Thing.cod a0)), (4, .one (.ptr 4 0)), (5, .one (.ptr 5 0)), (7, .one (vw Event.cod r4)), (8, .one (li .i64 i9)), (9, .one (li .i64 i10))] ((4, some (.cells [li .i64 a1.X0, li .i64 a1.Y0, li .i64 a1.X1, li .i64 a1.Y1])) :: ((5, some (.cells [li .i64 a2.X0, li .i64 a2.Y0, li .i64 a2.X1, li .i64 a2.Y1])) :: [])) (F5_l11 n a0 a1 a2 r4 m i9 i10) (QB 0 (QT Try.prog D (n + 8) pc5_c56 (QF pc5_r 0 F5_e))) := by
  intro m_l11
  induction m_l11 with
  | zero => intro i9 i10; exact SimL.zero'  rfl
  | succ m_l11 ih_l11 =>
    intro i9 i10
    refine SimL.succ ?_
    unfold F5_l11
    refine Sim.seq ?_
    refine Sim.seq ?_
    refine Sim.region [(0, .one (vw Thing.cod a0)), (4, .one (.ptr 4 0)), (5, .one (.ptr 5 0)), (7, .one (vw Event.cod r4)), (8, .one (li .i64 i9)), (9, .one (li .i64 i10))] ((4, some (.cells [li .i64 a1.X0, li .i64 a1.Y0, li .i64 a1.X1, li .i64 a1.Y1])) :: ((5, some (.cells [li .i64 a2.X0, li .i64 a2.Y0, li .i64 a2.X1, li .i64 a2.Y1])) :: [])) (by kernel_rfl) ?_
    refine SimI.run 4 [(55, .one (lb (decide (i10 < ((a0).length : Int))))), (54, .one (li .i64 ((a0).length : Int))), (53, .one (vw Thing.cod a0)), (52, .one (li .i64 i10))] [] (by kernel_rfl) ?_
    refine SimI.done (by kernel_rfl) ?_
    refine SimE.thenN ?_
    refine Sim.cond (decide (i10 < ((a0).length : Int))) (by kernel_rfl) ?_ ?_
    · refine Sim.skip ?_
      refine SimE.thenN ?_
      refine Sim.seq ?_
      refine Sim.block ?_
      refine Sim.seq ?_
      refine Sim.region0 ?_
      refine SimI.run 3 [(60, .one (li .i64 i10)), (59, .one (vw Thing.cod a0)), (58, .agg [li .i64 a1.X0, li .i64 a1.Y0, li .i64 a1.X1, li .i64 a1.Y1])] [] (by kernel_rfl) ?_
      refine SimI.bind (og := ix a0 i10) { dst := some 61, op := POp.iaddrS 11 (Operand.tmp 59) (Operand.tmp 60), guard := none, hints := [(59, Hint.imm), (60, Hint.imm)] } (fun x12 => [(61, .one (.eptr (Thing.cod.enc x12) 0))]) (fun x12 => []) (by kernel_rfl) (fun x12 hr => pOp_eff (by kernel_rfl) (by kernel_rfl) (eff_idx (c := Thing.cod) (l := a0) (k := .i64) (n := i10) (by kernel_rfl) (by kernel_rfl) (by kernel_rfl) hr)) (fun x12 => ?_)
      refine SimI.run 2 [(63, .agg [li .i64 x12.At.X, li .i64 x12.At.Y]), (62, .one (.eptr (Thing.cod.enc x12) 1))] [] (by kernel_rfl) ?_
      refine SimI.bind (og := F23 n a1 x12.At) { dst := some 64, op := POp.call false [[], []] 23 [Operand.tmp 58, Operand.tmp 63], guard := none, hints := [(58, Hint.imm), (63, Hint.imm)] } (fun r13 => [(64, .one (lb r13))]) (fun r13 => []) (by kernel_rfl) (fun r13 hr => pOp_eff (by kernel_rfl) (by kernel_rfl) (eff_call (ARGS := [.agg [li .i64 a1.X0, li .i64 a1.Y0, li .i64 a1.X1, li .i64 a1.Y1], .agg [li .i64 x12.At.X, li .i64 x12.At.Y]]) (by kernel_rfl) (args_clean (by kernel_rfl) (args_clean (by kernel_rfl) args_nil)) (F23_ok n a1 x12.At r13 hr) (by kernel_rfl))) (fun r13 => ?_)
      refine SimI.run 3 [(67, .one (li .i64 i10)), (66, .one (vw Thing.cod a0)), (65, .agg [li .i64 a2.X0, li .i64 a2.Y0, li .i64 a2.X1, li .i64 a2.Y1])] [] (by kernel_rfl) ?_
      refine SimI.bind (og := ix a0 i10) { dst := some 68, op := POp.iaddrS 11 (Operand.tmp 66) (Operand.tmp 67), guard := none, hints := [(66, Hint.imm), (67, Hint.imm)] } (fun x14 => [(68, .one (.eptr (Thing.cod.enc x14) 0))]) (fun x14 => []) (by kernel_rfl) (fun x14 hr => pOp_eff (by kernel_rfl) (by kernel_rfl) (eff_idx (c := Thing.cod) (l := a0) (k := .i64) (n := i10) (by kernel_rfl) (by kernel_rfl) (by kernel_rfl) hr)) (fun x14 => ?_)
      refine SimI.run 2 [(70, .agg [li .i64 x14.At.X, li .i64 x14.At.Y]), (69, .one (.eptr (Thing.cod.enc x14) 1))] [] (by kernel_rfl) ?_
      refine SimI.bind (og := F23 n a2 x14.At) { dst := some 71, op := POp.call false [[], []] 23 [Operand.tmp 65, Operand.tmp 70], guard := none, hints := [(65, Hint.imm), (70, Hint.imm)] } (fun r15 => [(71, .one (lb r15))]) (fun r15 => []) (by kernel_rfl) (fun r15 hr => pOp_eff (by kernel_rfl) (by kernel_rfl) (eff_call (ARGS := [.agg [li .i64 a2.X0, li .i64 a2.Y0, li .i64 a2.X1, li .i64 a2.Y1], .agg [li .i64 x14.At.X, li .i64 x14.At.Y]]) (by kernel_rfl) (args_clean (by kernel_rfl) (args_clean (by kernel_rfl) args_nil)) (F23_ok n a2 x14.At r15 hr) (by kernel_rfl))) (fun r15 => ?_)
      refine SimI.run 2 [(11, .one (lb r15)), (10, .one (lb r13))] [] (by kernel_rfl) ?_
      refine SimI.done (by kernel_rfl) ?_
      refine SimE.thenN ?_
      refine Sim.seq ?_
      refine Sim.region0 ?_
      refine SimI.run 3 [(74, .one (lb (!(r13 == r15)))), (73, .one (lb r15)), (72, .one (lb r13))] [] (by kernel_rfl) ?_
      refine SimI.done (by kernel_rfl) ?_
      refine SimE.thenN ?_
      refine Sim.cond (!(r13 == r15)) (by kernel_rfl) ?_ ?_
      · refine Sim.seq ?_
        refine Sim.region0 ?_
        refine SimI.run 1 [(12, .one (li .i64 1))] [] (by kernel_rfl) ?_
        refine SimI.done (by kernel_rfl) ?_
        refine SimE.thenN ?_
        refine Sim.seq ?_
        refine Sim.seq ?_
        refine Sim.region0 ?_
        refine SimI.run 1 [(75, .one (lb r13))] [] (by kernel_rfl) ?_
        refine SimI.done (by kernel_rfl) ?_
        refine SimE.thenN ?_
        refine Sim.cond r13 (by kernel_rfl) ?_ ?_
        · refine Sim.region0 ?_
          refine SimI.run 1 [(12, .one (li .i64 3))] [] (by kernel_rfl) ?_
          refine SimI.done (by kernel_rfl) ?_
          refine SimE.thenN ?_
          refine Sim.pre (ts := [0, 4, 5, 7, 8, 9, 12]) (os := [4, 5]) [(0, .one (vw Thing.cod a0)), (4, .one (.ptr 4 0)), (5, .one (.ptr 5 0)), (7, .one (vw Event.cod r4)), (8, .one (li .i64 i9)), (9, .one (li .i64 i10)), (12, .one (li .i64 3))] ((4, some (.cells [li .i64 a1.X0, li .i64 a1.Y0, li .i64 a1.X1, li .i64 a1.Y1])) :: ((5, some (.cells [li .i64 a2.X0, li .i64 a2.Y0, li .i64 a2.X1, li .i64 a2.Y1])) :: [])) (by kernel_rfl) (by kernel_rfl) (by kernel_rfl) ?_
          exact F5_j17_ok n a0 a1 a2 r4 i9 i10 (F5_l11 n a0 a1 a2 r4 m_l11) m_l11 ih_l11 3
        · refine Sim.skip ?_
          refine SimE.thenN ?_
          refine Sim.pre (ts := [0, 4, 5, 7, 8, 9, 12]) (os := [4, 5]) [(0, .one (vw Thing.cod a0)), (4, .one (.ptr 4 0)), (5, .one (.ptr 5 0)), (7, .one (vw Event.cod r4)), (8, .one (li .i64 i9)), (9, .one (li .i64 i10)), (12, .one (li .i64 1))] ((4, some (.cells [li .i64 a1.X0, li .i64 a1.Y0, li .i64 a1.X1, li .i64 a1.Y1])) :: ((5, some (.cells [li .i64 a2.X0, li .i64 a2.Y0, li .i64 a2.X1, li .i64 a2.Y1])) :: [])) (by kernel_rfl) (by kernel_rfl) (by kernel_rfl) ?_
          exact F5_j17_ok n a0 a1 a2 r4 i9 i10 (F5_l11 n a0 a1 a2 r4 m_l11) m_l11 ih_l11 1
      · refine Sim.skip ?_
        refine SimE.blockN ?_
        refine SimE.thenN ?_
        refine Sim.region0 ?_
        refine SimI.run 3 [(9, .one (li .i64 (IntKind.wrap .i64 (i10 + 1)))), (57, .one (li .i64 (IntKind.wrap .i64 (i10 + 1)))), (56, .one (li .i64 i10))] [] (by kernel_rfl) ?_
        refine SimI.done (by kernel_rfl) ?_
        refine SimE.loopN ?_
        refine SimL.pre (ts := [0, 4, 5, 7, 8, 9]) (os := [4, 5]) [(0, .one (vw Thing.cod a0)), (4, .one (.ptr 4 0)), (5, .one (.ptr 5 0)), (7, .one (vw Event.cod r4)), (8, .one (li .i64 i9)), (9, .one (li .i64 (IntKind.wrap .i64 (i10 + 1))))] ((4, some (.cells [li .i64 a1.X0, li .i64 a1.Y0, li .i64 a1.X1, li .i64 a1.Y1])) :: ((5, some (.cells [li .i64 a2.X0, li .i64 a2.Y0, li .i64 a2.X1, li .i64 a2.Y1])) :: [])) (by kernel_rfl) (by kernel_rfl) (by kernel_rfl) ?_
        exact ih_l11 i9 (IntKind.wrap .i64 (i10 + 1))
    · refine Sim.exit ?_
      refine SimE.thenX ?_
      refine SimE.loopX ?_
      refine SimE.blockX ?_
      refine SimE.thenN ?_
      refine Sim.seq ?_
      refine Sim.region0 ?_
      refine SimI.run 5 [(6, .one (lb (i9 == ((r4).length : Int)))), (107, .one (lb (i9 == ((r4).length : Int)))), (106, .one (li .i64 ((r4).length : Int))), (105, .one (vw Event.cod r4)), (104, .one (li .i64 i9))] [] (by kernel_rfl) ?_
      refine SimI.done (by kernel_rfl) ?_
      refine SimE.thenN ?_
      refine Sim.ret ?_
      exact SimE.fin (by kernel_rfl)

def F5 (n : Nat) (a0 : (List Thing)) (a1 : Rect) (a2 : Rect) : Option Bool :=
  ((some true)).bind fun (r1 : Bool) =>
  if !(r1) then
    some false
  else
    (F15 n a0).bind fun (r2 : Bool) =>
    if !(r2) then
      some true
    else
      (F16 n a0).bind fun (r3 : Bool) =>
      if !(r3) then
        some true
      else
        if decide (imin (imin (imin a1.X0 a1.Y0) a2.X0) a2.Y0 < (-10000)) then
          some true
        else
          if decide ((10000 : Int) < imax (imax (imax a1.X1 a1.Y1) a2.X1) a2.Y1) then
            some true
          else
            (F18 n a0 a1 a0 a2).bind fun (r4 : (List Event)) =>
            F5_l11 n a0 a1 a2 r4 (n + 8) 0 0
theorem F5_ok (n : Nat) (a0 : (List Thing)) (a1 : Rect) (a2 : Rect) : ∀ r, F5 n a0 a1 a2 = some r → D 5 [.one (vw Thing.cod a0), .agg [li .i64 a1.X0, li .i64 a1.Y0, li .i64 a1.X1, li .i64 a1.Y1], .agg [li .i64 a2.X0, li .i64 a2.Y0, li .i64 a2.X1, li .i64 a2.Y1]] [] = some (F5_e r) := by
  refine fn_to (D := D) (n := n + 8) (nt := 108) (rs := pc5_r) (c := pc5_c62) (L := [(0, .one (vw Thing.cod a0)), (1, .agg [li .i64 a1.X0, li .i64 a1.Y0, li .i64 a1.X1, li .i64 a1.Y1]), (2, .agg [li .i64 a2.X0, li .i64 a2.Y0, li .i64 a2.X1, li .i64 a2.Y1])]) (M := []) (k := 0) rfl rfl rfl rfl rfl rfl ?_
  unfold F5
  refine Sim.seq ?_
  refine Sim.region0 ?_
  refine SimI.run 3 [(6, .one (lb false)), (5, .one (.ptr 5 0)), (4, .one (.ptr 4 0))] [(5, some (.cells [li .i64 a2.X0, li .i64 a2.Y0, li .i64 a2.X1, li .i64 a2.Y1])), (4, some (.cells [li .i64 a1.X0, li .i64 a1.Y0, li .i64 a1.X1, li .i64 a1.Y1]))] (by kernel_rfl) ?_
  refine SimI.done (by kernel_rfl) ?_
  refine SimE.thenN ?_
  refine Sim.seq ?_
  refine Sim.seq ?_
  refine Sim.region0 ?_
  refine SimI.bind (og := (some true)) { dst := some 13, op := POp.call true [] 14 [], guard := none, hints := [] } (fun r1 => [(13, .one (lb r1))]) (fun r1 => []) (by kernel_rfl) (fun r1 hr => pOp_eff (by kernel_rfl) (by kernel_rfl) (eff_call (ARGS := []) (by kernel_rfl) (args_nil) (F14_ok n r1 hr) (by kernel_rfl))) (fun r1 => ?_)
  refine SimI.run 1 [(14, .one (lb (!(r1))))] [] (by kernel_rfl) ?_
  refine SimI.done (by kernel_rfl) ?_
  refine SimE.thenN ?_
  refine Sim.cond (!(r1)) (by kernel_rfl) ?_ ?_
  · refine Sim.seq ?_
    refine Sim.region0 ?_
    refine SimI.run 1 [(6, .one (lb false))] [] (by kernel_rfl) ?_
    refine SimI.done (by kernel_rfl) ?_
    refine SimE.thenN ?_
    refine Sim.ret ?_
    refine SimE.thenR ?_
    exact SimE.fin (by kernel_rfl)
  · refine Sim.skip ?_
    refine SimE.thenN ?_
    refine Sim.seq ?_
    refine Sim.seq ?_
    refine Sim.region0 ?_
    refine SimI.run 1 [(15, .one (vw Thing.cod a0))] [] (by kernel_rfl) ?_
    refine SimI.bind (og := F15 n a0) { dst := some 16, op := POp.call true [[(0, 11)]] 15 [Operand.tmp 15], guard := none, hints := [] } (fun r2 => [(16, .one (lb r2))]) (fun r2 => []) (by kernel_rfl) (fun r2 hr => pOp_eff (by kernel_rfl) (by kernel_rfl) (eff_call (ARGS := [.one (vw Thing.cod a0)]) (by kernel_rfl) (args_clean (by kernel_rfl) args_nil) (F15_ok n a0 r2 hr) (by kernel_rfl))) (fun r2 => ?_)
    refine SimI.run 2 [(18, .one (lb (!(r2)))), (17, .one (lb (!(r2))))] [] (by kernel_rfl) ?_
    refine SimI.split 18 (!(r2)) (by kernel_rfl) ?_ ?_
    · refine SimI.run 28 [(46, .one (lb true)), (45, .tup []), (44, .tup []), (43, .tup []), (42, .tup []), (41, .tup []), (40, .tup []), (39, .tup []), (38, .tup []), (37, .tup []), (36, .tup []), (35, .one (lb true)), (34, .one (lb true)), (33, .tup []), (32, .tup []), (31, .tup []), (30, .tup []), (29, .tup []), (28, .tup []), (27, .tup []), (26, .tup []), (25, .tup []), (24, .tup []), (23, .one (lb true)), (22, .one (lb true)), (21, .tup []), (20, .tup []), (19, .tup [])] [] (by kernel_rfl) ?_
      refine SimI.done (by kernel_rfl) ?_
      refine SimE.thenN ?_
      refine Sim.condT (by kernel_rfl) ?_
      refine Sim.seq ?_
      refine Sim.region0 ?_
      refine SimI.run 1 [(6, .one (lb true))] [] (by kernel_rfl) ?_
      refine SimI.done (by kernel_rfl) ?_
      refine SimE.thenN ?_
      refine Sim.ret ?_
      refine SimE.thenR ?_
      exact SimE.fin (by kernel_rfl)
    · refine SimI.run 1 [(19, .one (vw Thing.cod a0))] [] (by kernel_rfl) ?_
      refine SimI.bind (og := F16 n a0) { dst := some 20, op := POp.call true [[(0, 11)]] 16 [Operand.tmp 19], guard := some (18, false), hints := [] } (fun r3 => [(20, .one (lb r3))]) (fun r3 => []) (by kernel_rfl) (fun r3 hr => pOp_eff (by kernel_rfl) (by kernel_rfl) (eff_call (ARGS := [.one (vw Thing.cod a0)]) (by kernel_rfl) (args_clean (by kernel_rfl) args_nil) (F16_ok n a0 r3 hr) (by kernel_rfl))) (fun r3 => ?_)
      refine SimI.run 3 [(23, .one (lb (!(r3)))), (22, .one (lb (!(r3)))), (21, .one (lb (!(r3))))] [] (by kernel_rfl) ?_
      refine SimI.split 23 (!(r3)) (by kernel_rfl) ?_ ?_
      · refine SimI.run 23 [(46, .one (lb true)), (45, .tup []), (44, .tup []), (43, .tup []), (42, .tup []), (41, .tup []), (40, .tup []), (39, .tup []), (38, .tup []), (37, .tup []), (36, .tup []), (35, .one (lb true)), (34, .one (lb true)), (33, .tup []), (32, .tup []), (31, .tup []), (30, .tup []), (29, .tup []), (28, .tup []), (27, .tup []), (26, .tup []), (25, .tup []), (24, .tup [])] [] (by kernel_rfl) ?_
        refine SimI.done (by kernel_rfl) ?_
        refine SimE.thenN ?_
        refine Sim.condT (by kernel_rfl) ?_
        refine Sim.seq ?_
        refine Sim.region0 ?_
        refine SimI.run 1 [(6, .one (lb true))] [] (by kernel_rfl) ?_
        refine SimI.done (by kernel_rfl) ?_
        refine SimE.thenN ?_
        refine Sim.ret ?_
        refine SimE.thenR ?_
        exact SimE.fin (by kernel_rfl)
      · refine SimI.run 12 [(35, .one (lb (decide (imin (imin (imin a1.X0 a1.Y0) a2.X0) a2.Y0 < (-10000))))), (34, .one (lb (decide (imin (imin (imin a1.X0 a1.Y0) a2.X0) a2.Y0 < (-10000))))), (33, .one (lb (decide (imin (imin (imin a1.X0 a1.Y0) a2.X0) a2.Y0 < (-10000))))), (32, .one (li .i64 (imin (imin (imin a1.X0 a1.Y0) a2.X0) a2.Y0))), (31, .one (li .i64 a2.Y0)), (30, .one (.ptr 5 1)), (29, .one (li .i64 a2.X0)), (28, .one (.ptr 5 0)), (27, .one (li .i64 a1.Y0)), (26, .one (.ptr 4 1)), (25, .one (li .i64 a1.X0)), (24, .one (.ptr 4 0))] [] (by kernel_rfl) ?_
        refine SimI.split 35 (decide (imin (imin (imin a1.X0 a1.Y0) a2.X0) a2.Y0 < (-10000))) (by kernel_rfl) ?_ ?_
        · refine SimI.run 11 [(46, .one (lb true)), (45, .tup []), (44, .tup []), (43, .tup []), (42, .tup []), (41, .tup []), (40, .tup []), (39, .tup []), (38, .tup []), (37, .tup []), (36, .tup [])] [] (by kernel_rfl) ?_
          refine SimI.done (by kernel_rfl) ?_
          refine SimE.thenN ?_
          refine Sim.condT (by kernel_rfl) ?_
          refine Sim.seq ?_
          refine Sim.region0 ?_
          refine SimI.run 1 [(6, .one (lb true))] [] (by kernel_rfl) ?_
          refine SimI.done (by kernel_rfl) ?_
          refine SimE.thenN ?_
          refine Sim.ret ?_
          refine SimE.thenR ?_
          exact SimE.fin (by kernel_rfl)
        · refine SimI.run 11 [(46, .one (lb (decide ((10000 : Int) < imax (imax (imax a1.X1 a1.Y1) a2.X1) a2.Y1)))), (45, .one (lb (decide ((10000 : Int) < imax (imax (imax a1.X1 a1.Y1) a2.X1) a2.Y1)))), (44, .one (li .i64 (imax (imax (imax a1.X1 a1.Y1) a2.X1) a2.Y1))), (43, .one (li .i64 a2.Y1)), (42, .one (.ptr 5 3)), (41, .one (li .i64 a2.X1)), (40, .one (.ptr 5 2)), (39, .one (li .i64 a1.Y1)), (38, .one (.ptr 4 3)), (37, .one (li .i64 a1.X1)), (36, .one (.ptr 4 2))] [] (by kernel_rfl) ?_
          refine SimI.done (by kernel_rfl) ?_
          refine SimE.thenN ?_
          refine Sim.cond (decide ((10000 : Int) < imax (imax (imax a1.X1 a1.Y1) a2.X1) a2.Y1)) (by kernel_rfl) ?_ ?_
          · refine Sim.seq ?_
            refine Sim.region0 ?_
            refine SimI.run 1 [(6, .one (lb true))] [] (by kernel_rfl) ?_
            refine SimI.done (by kernel_rfl) ?_
            refine SimE.thenN ?_
            refine Sim.ret ?_
            refine SimE.thenR ?_
            exact SimE.fin (by kernel_rfl)
          · refine Sim.skip ?_
            refine SimE.thenN ?_
            refine Sim.seq ?_
            refine Sim.region0 ?_
            refine SimI.run 4 [(50, .agg [li .i64 a2.X0, li .i64 a2.Y0, li .i64 a2.X1, li .i64 a2.Y1]), (49, .one (vw Thing.cod a0)), (48, .agg [li .i64 a1.X0, li .i64 a1.Y0, li .i64 a1.X1, li .i64 a1.Y1]), (47, .one (vw Thing.cod a0))] [] (by kernel_rfl) ?_
            refine SimI.bind (og := F18 n a0 a1 a0 a2) { dst := some 51, op := POp.call true [[(0, 11)], [], [(0, 11)], []] 18 [Operand.tmp 47, Operand.tmp 48, Operand.tmp 49, Operand.tmp 50], guard := none, hints := [] } (fun r4 => [(51, .one (vw Event.cod r4))]) (fun r4 => []) (by kernel_rfl) (fun r4 hr => pOp_eff (by kernel_rfl) (by kernel_rfl) (eff_call (ARGS := [.one (vw Thing.cod a0), .agg [li .i64 a1.X0, li .i64 a1.Y0, li .i64 a1.X1, li .i64 a1.Y1], .one (vw Thing.cod a0), .agg [li .i64 a2.X0, li .i64 a2.Y0, li .i64 a2.X1, li .i64 a2.Y1]]) (by kernel_rfl) (args_clean (by kernel_rfl) (args_clean (by kernel_rfl) (args_clean (by kernel_rfl) (args_clean (by kernel_rfl) args_nil)))) (F18_ok n a0 a1 a0 a2 r4 hr) (by kernel_rfl))) (fun r4 => ?_)
            refine SimI.run 1 [(7, .one (vw Event.cod r4))] [] (by kernel_rfl) ?_
            refine SimI.done (by kernel_rfl) ?_
            refine SimE.thenN ?_
            refine Sim.seq ?_
            refine Sim.region0 ?_
            refine SimI.run 1 [(8, .one (li .i64 0))] [] (by kernel_rfl) ?_
            refine SimI.done (by kernel_rfl) ?_
            refine SimE.thenN ?_
            refine Sim.seq ?_
            refine Sim.seq ?_
            refine Sim.region0 ?_
            refine SimI.run 1 [(9, .one (li .i64 0))] [] (by kernel_rfl) ?_
            refine SimI.done (by kernel_rfl) ?_
            refine SimE.thenN ?_
            refine Sim.block ?_
            refine Sim.loop ?_
            refine SimL.pre (ts := [0, 4, 5, 7, 8, 9]) (os := [4, 5]) [(0, .one (vw Thing.cod a0)), (4, .one (.ptr 4 0)), (5, .one (.ptr 5 0)), (7, .one (vw Event.cod r4)), (8, .one (li .i64 0)), (9, .one (li .i64 0))] ((4, some (.cells [li .i64 a1.X0, li .i64 a1.Y0, li .i64 a1.X1, li .i64 a1.Y1])) :: ((5, some (.cells [li .i64 a2.X0, li .i64 a2.Y0, li .i64 a2.X1, li .i64 a2.Y1])) :: [])) (by kernel_rfl) (by kernel_rfl) (by kernel_rfl) ?_
            exact F5_l11_ok n a0 a1 a2 r4 (n + 8) 0 0


-- 6: vedette/vedettelaw16.DiffBlind
def F6_e : Bool → PV × List (List Lf) := fun r => (.one (lb r), [])
def F6_l19 (n : Nat) (a0 : (List Thing)) (r7 : (List Event)) : Nat → Int → Option Bool
  | 0, _ => none
  | m + 1, i18 =>
    if decide (i18 < ((r7).length : Int)) then
      (ix r7 i18).bind fun (x20 : Event) =>
      if x20.Kind != 3 then
        some false
      else
        (ix r7 i18).bind fun (x21 : Event) =>
        (ix a0 i18).bind fun (x22 : Thing) =>
        if x21.ID != x22.ID then
          some false
        else
          (F6_l19 n a0 r7 m) (IntKind.wrap .i64 (i18 + 1))
    else
      (F21 n a0 (Rect.mk 0 0 64 64)).bind fun (r23 : (List Thing)) =>
      some (((r23).length : Int) == ((a0).length : Int))
theorem F6_l19_ok (n : Nat) (a0 : (List Thing)) (r7 : (List Event)) : ∀ (m : Nat) (i18 : Int), SimL Try.prog D (n + 8) m pc6_c62 [(0, .one (vw Thing.cod a0)), (7, .one (.ptr 7 0)), (9, .one (vw Event.cod r7)), (11, .one (li .i64 i18))] ((7, some (.cells [li .i64 0, li .i64 0, li .i64 64, li .i64 64])) :: []) (F6_l19 n a0 r7 m i18) (QB 2 (QT Try.prog D (n + 8) pc6_c68 (QF pc6_r 0 F6_e))) := by
  intro m_l19
  induction m_l19 with
  | zero => intro i18; exact SimL.zero'  rfl
  | succ m_l19 ih_l19 =>
    intro i18
    refine SimL.succ ?_
    unfold F6_l19
    refine Sim.seq ?_
    refine Sim.seq ?_
    refine Sim.region [(0, .one (vw Thing.cod a0)), (7, .one (.ptr 7 0)), (9, .one (vw Event.cod r7)), (11, .one (li .i64 i18))] ((7, some (.cells [li .i64 0, li .i64 0, li .i64 64, li .i64 64])) :: []) (by kernel_rfl) ?_
    refine SimI.run 4 [(91, .one (lb (decide (i18 < ((r7).length : Int))))), (90, .one (li .i64 ((r7).length : Int))), (89, .one (vw Event.cod r7)), (88, .one (li .i64 i18))] [] (by kernel_rfl) ?_
    refine SimI.done (by kernel_rfl) ?_
    refine SimE.thenN ?_
    refine Sim.cond (decide (i18 < ((r7).length : Int))) (by kernel_rfl) ?_ ?_
    · refine Sim.skip ?_
      refine SimE.thenN ?_
      refine Sim.seq ?_
      refine Sim.block ?_
      refine Sim.seq ?_
      refine Sim.region0 ?_
      refine SimI.run 2 [(95, .one (li .i64 i18)), (94, .one (vw Event.cod r7))] [] (by kernel_rfl) ?_
      refine SimI.bind (og := ix r7 i18) { dst := some 96, op := POp.iaddrS 25 (Operand.tmp 94) (Operand.tmp 95), guard := none, hints := [(94, Hint.imm), (95, Hint.imm)] } (fun x20 => [(96, .one (.eptr (Event.cod.enc x20) 0))]) (fun x20 => []) (by kernel_rfl) (fun x20 hr => pOp_eff (by kernel_rfl) (by kernel_rfl) (eff_idx (c := Event.cod) (l := r7) (k := .i64) (n := i18) (by kernel_rfl) (by kernel_rfl) (by kernel_rfl) hr)) (fun x20 => ?_)
      refine SimI.run 4 [(100, .one (lb (x20.Kind != 3))), (99, .one (lb (x20.Kind != 3))), (98, .one (li .i64 x20.Kind)), (97, .one (.eptr (Event.cod.enc x20) 0))] [] (by kernel_rfl) ?_
      refine SimI.split 100 (x20.Kind != 3) (by kernel_rfl) ?_ ?_
      · refine SimI.run 12 [(112, .one (lb true)), (111, .tup []), (110, .tup []), (109, .tup []), (108, .tup []), (107, .tup []), (106, .tup []), (105, .tup []), (104, .tup []), (103, .tup []), (102, .tup []), (101, .tup [])] [] (by kernel_rfl) ?_
        refine SimI.done (by kernel_rfl) ?_
        refine SimE.thenN ?_
        refine Sim.condT (by kernel_rfl) ?_
        refine Sim.seq ?_
        refine Sim.region0 ?_
        refine SimI.run 1 [(6, .one (lb false))] [] (by kernel_rfl) ?_
        refine SimI.done (by kernel_rfl) ?_
        refine SimE.thenN ?_
        refine Sim.ret ?_
        refine SimE.blockR ?_
        refine SimE.thenR ?_
        refine SimE.loopR ?_
        refine SimE.blockR ?_
        refine SimE.thenR ?_
        exact SimE.fin (by kernel_rfl)
      · refine SimI.run 2 [(102, .one (li .i64 i18)), (101, .one (vw Event.cod r7))] [] (by kernel_rfl) ?_
        refine SimI.bind (og := ix r7 i18) { dst := some 103, op := POp.iaddrS 25 (Operand.tmp 101) (Operand.tmp 102), guard := some (100, false), hints := [(101, Hint.imm), (102, Hint.imm)] } (fun x21 => [(103, .one (.eptr (Event.cod.enc x21) 0))]) (fun x21 => []) (by kernel_rfl) (fun x21 hr => pOp_eff (by kernel_rfl) (by kernel_rfl) (eff_idx (c := Event.cod) (l := r7) (k := .i64) (n := i18) (by kernel_rfl) (by kernel_rfl) (by kernel_rfl) hr)) (fun x21 => ?_)
        refine SimI.run 4 [(107, .one (li .i64 i18)), (106, .one (vw Thing.cod a0)), (105, .one (li .i64 x21.ID)), (104, .one (.eptr (Event.cod.enc x21) 1))] [] (by kernel_rfl) ?_
        refine SimI.bind (og := ix a0 i18) { dst := some 108, op := POp.iaddrS 11 (Operand.tmp 106) (Operand.tmp 107), guard := some (100, false), hints := [(106, Hint.imm), (107, Hint.imm)] } (fun x22 => [(108, .one (.eptr (Thing.cod.enc x22) 0))]) (fun x22 => []) (by kernel_rfl) (fun x22 hr => pOp_eff (by kernel_rfl) (by kernel_rfl) (eff_idx (c := Thing.cod) (l := a0) (k := .i64) (n := i18) (by kernel_rfl) (by kernel_rfl) (by kernel_rfl) hr)) (fun x22 => ?_)
        refine SimI.run 4 [(112, .one (lb (x21.ID != x22.ID))), (111, .one (lb (x21.ID != x22.ID))), (110, .one (li .i64 x22.ID)), (109, .one (.eptr (Thing.cod.enc x22) 0))] [] (by kernel_rfl) ?_
        refine SimI.done (by kernel_rfl) ?_
        refine SimE.thenN ?_
        refine Sim.cond (x21.ID != x22.ID) (by kernel_rfl) ?_ ?_
        · refine Sim.seq ?_
          refine Sim.region0 ?_
          refine SimI.run 1 [(6, .one (lb false))] [] (by kernel_rfl) ?_
          refine SimI.done (by kernel_rfl) ?_
          refine SimE.thenN ?_
          refine Sim.ret ?_
          refine SimE.blockR ?_
          refine SimE.thenR ?_
          refine SimE.loopR ?_
          refine SimE.blockR ?_
          refine SimE.thenR ?_
          exact SimE.fin (by kernel_rfl)
        · refine Sim.skip ?_
          refine SimE.blockN ?_
          refine SimE.thenN ?_
          refine Sim.region0 ?_
          refine SimI.run 3 [(11, .one (li .i64 (IntKind.wrap .i64 (i18 + 1)))), (93, .one (li .i64 (IntKind.wrap .i64 (i18 + 1)))), (92, .one (li .i64 i18))] [] (by kernel_rfl) ?_
          refine SimI.done (by kernel_rfl) ?_
          refine SimE.loopN ?_
          refine SimL.pre (ts := [0, 7, 9, 11]) (os := [7]) [(0, .one (vw Thing.cod a0)), (7, .one (.ptr 7 0)), (9, .one (vw Event.cod r7)), (11, .one (li .i64 (IntKind.wrap .i64 (i18 + 1))))] ((7, some (.cells [li .i64 0, li .i64 0, li .i64 64, li .i64 64])) :: []) (by kernel_rfl) (by kernel_rfl) (by kernel_rfl) ?_
          exact ih_l19 (IntKind.wrap .i64 (i18 + 1))
    · refine Sim.exit ?_
      refine SimE.thenX ?_
      refine SimE.loopX ?_
      refine SimE.blockX ?_
      refine SimE.thenN ?_
      refine Sim.seq ?_
      refine Sim.region0 ?_
      refine SimI.run 2 [(114, .agg [li .i64 0, li .i64 0, li .i64 64, li .i64 64]), (113, .one (vw Thing.cod a0))] [] (by kernel_rfl) ?_
      refine SimI.bind (og := F21 n a0 (Rect.mk 0 0 64 64)) { dst := some 115, op := POp.call true [[(0, 11)], []] 21 [Operand.tmp 113, Operand.tmp 114], guard := none, hints := [] } (fun r23 => [(115, .one (vw Thing.cod r23))]) (fun r23 => []) (by kernel_rfl) (fun r23 hr => pOp_eff (by kernel_rfl) (by kernel_rfl) (eff_call (ARGS := [.one (vw Thing.cod a0), .agg [li .i64 0, li .i64 0, li .i64 64, li .i64 64]]) (by kernel_rfl) (args_clean (by kernel_rfl) (args_clean (by kernel_rfl) args_nil)) (F21_ok n a0 (Rect.mk 0 0 64 64) r23 hr) (by kernel_rfl))) (fun r23 => ?_)
      refine SimI.run 5 [(6, .one (lb (((r23).length : Int) == ((a0).length : Int)))), (119, .one (lb (((r23).length : Int) == ((a0).length : Int)))), (118, .one (li .i64 ((a0).length : Int))), (117, .one (vw Thing.cod a0)), (116, .one (li .i64 ((r23).length : Int)))] [] (by kernel_rfl) ?_
      refine SimI.done (by kernel_rfl) ?_
      refine SimE.thenN ?_
      refine Sim.ret ?_
      exact SimE.fin (by kernel_rfl)

def F6_l12 (n : Nat) (a0 : (List Thing)) (a1 : (List Thing)) (r6 : (List Event)) (r7 : (List Event)) : Nat → Int → Option Bool
  | 0, _ => none
  | m + 1, i11 =>
    if decide (i11 < ((r6).length : Int)) then
      (ix r6 i11).bind fun (x13 : Event) =>
      if x13.Kind != 1 then
        some false
      else
        (ix r6 i11).bind fun (x14 : Event) =>
        (ix a1 i11).bind fun (x15 : Thing) =>
        if !(Thing.eqb x14.Thing x15) then
          some false
        else
          (F6_l12 n a0 a1 r6 r7 m) (IntKind.wrap .i64 (i11 + 1))
    else
      F6_l19 n a0 r7 (n + 8) 0
theorem F6_l12_ok (n : Nat) (a0 : (List Thing)) (a1 : (List Thing)) (a2 : Rect) (r6 : (List Event)) (r7 : (List Event)) : ∀ (m : Nat) (i11 : Int), SimL Try.prog D (n + 8) m pc6_c42 [(0, .one (vw Thing.cod a0)), (1, .one (vw Thing.cod a1)), (7, .one (.ptr 7 0)), (8, .one (vw Event.cod r6)), (9, .one (vw Event.cod r7)), (10, .one (li .i64 i11))] ((7, some (.cells [li .i64 0, li .i64 0, li .i64 64, li .i64 64])) :: []) (F6_l12 n a0 a1 r6 r7 m i11) (QB 0 (QT Try.prog D (n + 8) pc6_c69 (QF pc6_r 0 F6_e))) := by
  intro m_l12
  induction m_l12 with
  | zero => intro i11; exact SimL.zero'  rfl
  | succ m_l12 ih_l12 =>
    intro i11
    refine SimL.succ ?_
    unfold F6_l12
    refine Sim.seq ?_
    refine Sim.seq ?_
    refine Sim.region [(0, .one (vw Thing.cod a0)), (1, .one (vw Thing.cod a1)), (7, .one (.ptr 7 0)), (8, .one (vw Event.cod r6)), (9, .one (vw Event.cod r7)), (10, .one (li .i64 i11))] ((7, some (.cells [li .i64 0, li .i64 0, li .i64 64, li .i64 64])) :: []) (by kernel_rfl) ?_
    refine SimI.run 4 [(67, .one (lb (decide (i11 < ((r6).length : Int))))), (66, .one (li .i64 ((r6).length : Int))), (65, .one (vw Event.cod r6)), (64, .one (li .i64 i11))] [] (by kernel_rfl) ?_
    refine SimI.done (by kernel_rfl) ?_
    refine SimE.thenN ?_
    refine Sim.cond (decide (i11 < ((r6).length : Int))) (by kernel_rfl) ?_ ?_
    · refine Sim.skip ?_
      refine SimE.thenN ?_
      refine Sim.seq ?_
      refine Sim.block ?_
      refine Sim.seq ?_
      refine Sim.region0 ?_
      refine SimI.run 2 [(71, .one (li .i64 i11)), (70, .one (vw Event.cod r6))] [] (by kernel_rfl) ?_
      refine SimI.bind (og := ix r6 i11) { dst := some 72, op := POp.iaddrS 25 (Operand.tmp 70) (Operand.tmp 71), guard := none, hints := [(70, Hint.imm), (71, Hint.imm)] } (fun x13 => [(72, .one (.eptr (Event.cod.enc x13) 0))]) (fun x13 => []) (by kernel_rfl) (fun x13 hr => pOp_eff (by kernel_rfl) (by kernel_rfl) (eff_idx (c := Event.cod) (l := r6) (k := .i64) (n := i11) (by kernel_rfl) (by kernel_rfl) (by kernel_rfl) hr)) (fun x13 => ?_)
      refine SimI.run 4 [(76, .one (lb (x13.Kind != 1))), (75, .one (lb (x13.Kind != 1))), (74, .one (li .i64 x13.Kind)), (73, .one (.eptr (Event.cod.enc x13) 0))] [] (by kernel_rfl) ?_
      refine SimI.split 76 (x13.Kind != 1) (by kernel_rfl) ?_ ?_
      · refine SimI.run 11 [(87, .one (lb true)), (86, .tup []), (85, .tup []), (84, .tup []), (83, .tup []), (82, .tup []), (81, .tup []), (80, .tup []), (79, .tup []), (78, .tup []), (77, .tup [])] [] (by kernel_rfl) ?_
        refine SimI.done (by kernel_rfl) ?_
        refine SimE.thenN ?_
        refine Sim.condT (by kernel_rfl) ?_
        refine Sim.seq ?_
        refine Sim.region0 ?_
        refine SimI.run 1 [(6, .one (lb false))] [] (by kernel_rfl) ?_
        refine SimI.done (by kernel_rfl) ?_
        refine SimE.thenN ?_
        refine Sim.ret ?_
        refine SimE.blockR ?_
        refine SimE.thenR ?_
        refine SimE.loopR ?_
        refine SimE.blockR ?_
        refine SimE.thenR ?_
        exact SimE.fin (by kernel_rfl)
      · refine SimI.run 2 [(78, .one (li .i64 i11)), (77, .one (vw Event.cod r6))] [] (by kernel_rfl) ?_
        refine SimI.bind (og := ix r6 i11) { dst := some 79, op := POp.iaddrS 25 (Operand.tmp 77) (Operand.tmp 78), guard := some (76, false), hints := [(77, Hint.imm), (78, Hint.imm)] } (fun x14 => [(79, .one (.eptr (Event.cod.enc x14) 0))]) (fun x14 => []) (by kernel_rfl) (fun x14 hr => pOp_eff (by kernel_rfl) (by kernel_rfl) (eff_idx (c := Event.cod) (l := r6) (k := .i64) (n := i11) (by kernel_rfl) (by kernel_rfl) (by kernel_rfl) hr)) (fun x14 => ?_)
        refine SimI.run 4 [(83, .one (li .i64 i11)), (82, .one (vw Thing.cod a1)), (81, .agg [li .i64 x14.Thing.ID, li .i64 x14.Thing.At.X, li .i64 x14.Thing.At.Y, li .i64 x14.Thing.F.a0.N, ls x14.Thing.F.a0.Text, li .i64 x14.Thing.F.a1.N, ls x14.Thing.F.a1.Text, li .i64 x14.Thing.F.a2.N, ls x14.Thing.F.a2.Text, li .i64 x14.Thing.F.a3.N, ls x14.Thing.F.a3.Text]), (80, .one (.eptr (Event.cod.enc x14) 2))] [] (by kernel_rfl) ?_
        refine SimI.bind (og := ix a1 i11) { dst := some 84, op := POp.iaddrS 11 (Operand.tmp 82) (Operand.tmp 83), guard := some (76, false), hints := [(82, Hint.imm), (83, Hint.imm)] } (fun x15 => [(84, .one (.eptr (Thing.cod.enc x15) 0))]) (fun x15 => []) (by kernel_rfl) (fun x15 hr => pOp_eff (by kernel_rfl) (by kernel_rfl) (eff_idx (c := Thing.cod) (l := a1) (k := .i64) (n := i11) (by kernel_rfl) (by kernel_rfl) (by kernel_rfl) hr)) (fun x15 => ?_)
        refine SimI.run 1 [(85, .agg [li .i64 x15.ID, li .i64 x15.At.X, li .i64 x15.At.Y, li .i64 x15.F.a0.N, ls x15.F.a0.Text, li .i64 x15.F.a1.N, ls x15.F.a1.Text, li .i64 x15.F.a2.N, ls x15.F.a2.Text, li .i64 x15.F.a3.N, ls x15.F.a3.Text])] [] (by kernel_rfl) ?_
        refine SimI.step { dst := some 86, op := POp.prim (Prim.bin BinOp.neq 39 false false) [Operand.tmp 81, Operand.tmp 85], guard := some (76, false), hints := [(81, Hint.imm), (85, Hint.imm)] } [(86, .one (lb (!(Thing.eqb x14.Thing x15))))] [] (by kernel_rfl) (pOp_eff (by kernel_rfl) (by kernel_rfl) (eff_prim (by kernel_rfl) (Thing_eqn x14.Thing x15 _ _))) ?_
        refine SimI.run 1 [(87, .one (lb (!(Thing.eqb x14.Thing x15))))] [] (by kernel_rfl) ?_
        refine SimI.done (by kernel_rfl) ?_
        refine SimE.thenN ?_
        refine Sim.cond (!(Thing.eqb x14.Thing x15)) (by kernel_rfl) ?_ ?_
        · refine Sim.seq ?_
          refine Sim.region0 ?_
          refine SimI.run 1 [(6, .one (lb false))] [] (by kernel_rfl) ?_
          refine SimI.done (by kernel_rfl) ?_
          refine SimE.thenN ?_
          refine Sim.ret ?_
          refine SimE.blockR ?_
          refine SimE.thenR ?_
          refine SimE.loopR ?_
          refine SimE.blockR ?_
          refine SimE.thenR ?_
          exact SimE.fin (by kernel_rfl)
        · refine Sim.skip ?_
          refine SimE.blockN ?_
          refine SimE.thenN ?_
          refine Sim.region0 ?_
          refine SimI.run 3 [(10, .one (li .i64 (IntKind.wrap .i64 (i11 + 1)))), (69, .one (li .i64 (IntKind.wrap .i64 (i11 + 1)))), (68, .one (li .i64 i11))] [] (by kernel_rfl) ?_
          refine SimI.done (by kernel_rfl) ?_
          refine SimE.loopN ?_
          refine SimL.pre (ts := [0, 1, 7, 8, 9, 10]) (os := [5, 7]) [(0, .one (vw Thing.cod a0)), (1, .one (vw Thing.cod a1)), (7, .one (.ptr 7 0)), (8, .one (vw Event.cod r6)), (9, .one (vw Event.cod r7)), (10, .one (li .i64 (IntKind.wrap .i64 (i11 + 1))))] ((7, some (.cells [li .i64 0, li .i64 0, li .i64 64, li .i64 64])) :: []) (by kernel_rfl) (by kernel_rfl) (by kernel_rfl) ?_
          exact ih_l12 (IntKind.wrap .i64 (i11 + 1))
    · refine Sim.exit ?_
      refine SimE.thenX ?_
      refine SimE.loopX ?_
      refine SimE.blockX ?_
      refine SimE.thenN ?_
      refine Sim.seq ?_
      refine Sim.seq ?_
      refine Sim.region0 ?_
      refine SimI.run 1 [(11, .one (li .i64 0))] [] (by kernel_rfl) ?_
      refine SimI.done (by kernel_rfl) ?_
      refine SimE.thenN ?_
      refine Sim.block ?_
      refine Sim.loop ?_
      refine SimL.pre (ts := [0, 7, 9, 11]) (os := [7]) [(0, .one (vw Thing.cod a0)), (7, .one (.ptr 7 0)), (9, .one (vw Event.cod r7)), (11, .one (li .i64 0))] ((7, some (.cells [li .i64 0, li .i64 0, li .i64 64, li .i64 64])) :: []) (by kernel_rfl) (by kernel_rfl) (by kernel_rfl) ?_
      exact F6_l19_ok n a0 r7 (n + 8) 0

def F6 (n : Nat) (a0 : (List Thing)) (a1 : (List Thing)) (a2 : Rect) : Option Bool :=
  ((some true)).bind fun (r1 : Bool) =>
  if !(r1) then
    some false
  else
    (F15 n a0).bind fun (r2 : Bool) =>
    if !(r2) then
      some true
    else
      (F15 n a1).bind fun (r3 : Bool) =>
      if !(r3) then
        some true
      else
        (F16 n a0).bind fun (r4 : Bool) =>
        if !(r4) then
          some true
        else
          (F16 n a1).bind fun (r5 : Bool) =>
          if !(r5) then
            some true
          else
            (F18 n a0 (Rect.mk 0 0 0 0) a1 (Rect.mk 0 0 64 64)).bind fun (r6 : (List Event)) =>
            (F18 n a0 (Rect.mk 0 0 64 64) a1 (Rect.mk 0 0 0 0)).bind fun (r7 : (List Event)) =>
            if ((r6).length : Int) != ((a1).length : Int) then
              some false
            else
              if ((r7).length : Int) != ((a0).length : Int) then
                some false
              else
                (F18 n a0 (Rect.mk 0 0 0 0) a1 (Rect.mk 0 0 0 0)).bind fun (r8 : (List Event)) =>
                if ((r8).length : Int) != 0 then
                  some false
                else
                  F6_l12 n a0 a1 r6 r7 (n + 8) 0
theorem F6_ok (n : Nat) (a0 : (List Thing)) (a1 : (List Thing)) (a2 : Rect) : ∀ r, F6 n a0 a1 a2 = some r → D 6 [.one (vw Thing.cod a0), .one (vw Thing.cod a1), .agg [li .i64 a2.X0, li .i64 a2.Y0, li .i64 a2.X1, li .i64 a2.Y1]] [] = some (F6_e r) := by
  refine fn_to (D := D) (n := n + 8) (nt := 120) (rs := pc6_r) (c := pc6_c77) (L := [(0, .one (vw Thing.cod a0)), (1, .one (vw Thing.cod a1)), (2, .agg [li .i64 a2.X0, li .i64 a2.Y0, li .i64 a2.X1, li .i64 a2.Y1])]) (M := []) (k := 0) rfl rfl rfl rfl rfl rfl ?_
  unfold F6
  refine Sim.seq ?_
  refine Sim.region0 ?_
  refine SimI.run 2 [(6, .one (lb false)), (5, .one (.ptr 5 0))] [(5, some (.cells [li .i64 a2.X0, li .i64 a2.Y0, li .i64 a2.X1, li .i64 a2.Y1]))] (by kernel_rfl) ?_
  refine SimI.done (by kernel_rfl) ?_
  refine SimE.thenN ?_
  refine Sim.seq ?_
  refine Sim.seq ?_
  refine Sim.region0 ?_
  refine SimI.bind (og := (some true)) { dst := some 12, op := POp.call true [] 14 [], guard := none, hints := [] } (fun r1 => [(12, .one (lb r1))]) (fun r1 => []) (by kernel_rfl) (fun r1 hr => pOp_eff (by kernel_rfl) (by kernel_rfl) (eff_call (ARGS := []) (by kernel_rfl) (args_nil) (F14_ok n r1 hr) (by kernel_rfl))) (fun r1 => ?_)
  refine SimI.run 1 [(13, .one (lb (!(r1))))] [] (by kernel_rfl) ?_
  refine SimI.done (by kernel_rfl) ?_
  refine SimE.thenN ?_
  refine Sim.cond (!(r1)) (by kernel_rfl) ?_ ?_
  · refine Sim.seq ?_
    refine Sim.region0 ?_
    refine SimI.run 1 [(6, .one (lb false))] [] (by kernel_rfl) ?_
    refine SimI.done (by kernel_rfl) ?_
    refine SimE.thenN ?_
    refine Sim.ret ?_
    refine SimE.thenR ?_
    exact SimE.fin (by kernel_rfl)
  · refine Sim.skip ?_
    refine SimE.thenN ?_
    refine Sim.seq ?_
    refine Sim.seq ?_
    refine Sim.region0 ?_
    refine SimI.run 1 [(14, .one (vw Thing.cod a0))] [] (by kernel_rfl) ?_
    refine SimI.bind (og := F15 n a0) { dst := some 15, op := POp.call true [[(0, 11)]] 15 [Operand.tmp 14], guard := none, hints := [] } (fun r2 => [(15, .one (lb r2))]) (fun r2 => []) (by kernel_rfl) (fun r2 hr => pOp_eff (by kernel_rfl) (by kernel_rfl) (eff_call (ARGS := [.one (vw Thing.cod a0)]) (by kernel_rfl) (args_clean (by kernel_rfl) args_nil) (F15_ok n a0 r2 hr) (by kernel_rfl))) (fun r2 => ?_)
    refine SimI.run 2 [(17, .one (lb (!(r2)))), (16, .one (lb (!(r2))))] [] (by kernel_rfl) ?_
    refine SimI.split 17 (!(r2)) (by kernel_rfl) ?_ ?_
    · refine SimI.run 14 [(31, .one (lb true)), (30, .tup []), (29, .tup []), (28, .tup []), (27, .one (lb true)), (26, .one (lb true)), (25, .tup []), (24, .tup []), (23, .tup []), (22, .one (lb true)), (21, .one (lb true)), (20, .tup []), (19, .tup []), (18, .tup [])] [] (by kernel_rfl) ?_
      refine SimI.done (by kernel_rfl) ?_
      refine SimE.thenN ?_
      refine Sim.condT (by kernel_rfl) ?_
      refine Sim.seq ?_
      refine Sim.region0 ?_
      refine SimI.run 1 [(6, .one (lb true))] [] (by kernel_rfl) ?_
      refine SimI.done (by kernel_rfl) ?_
      refine SimE.thenN ?_
      refine Sim.ret ?_
      refine SimE.thenR ?_
      exact SimE.fin (by kernel_rfl)
    · refine SimI.run 1 [(18, .one (vw Thing.cod a1))] [] (by kernel_rfl) ?_
      refine SimI.bind (og := F15 n a1) { dst := some 19, op := POp.call true [[(0, 11)]] 15 [Operand.tmp 18], guard := some (17, false), hints := [] } (fun r3 => [(19, .one (lb r3))]) (fun r3 => []) (by kernel_rfl) (fun r3 hr => pOp_eff (by kernel_rfl) (by kernel_rfl) (eff_call (ARGS := [.one (vw Thing.cod a1)]) (by kernel_rfl) (args_clean (by kernel_rfl) args_nil) (F15_ok n a1 r3 hr) (by kernel_rfl))) (fun r3 => ?_)
      refine SimI.run 3 [(22, .one (lb (!(r3)))), (21, .one (lb (!(r3)))), (20, .one (lb (!(r3))))] [] (by kernel_rfl) ?_
      refine SimI.split 22 (!(r3)) (by kernel_rfl) ?_ ?_
      · refine SimI.run 9 [(31, .one (lb true)), (30, .tup []), (29, .tup []), (28, .tup []), (27, .one (lb true)), (26, .one (lb true)), (25, .tup []), (24, .tup []), (23, .tup [])] [] (by kernel_rfl) ?_
        refine SimI.done (by kernel_rfl) ?_
        refine SimE.thenN ?_
        refine Sim.condT (by kernel_rfl) ?_
        refine Sim.seq ?_
        refine Sim.region0 ?_
        refine SimI.run 1 [(6, .one (lb true))] [] (by kernel_rfl) ?_
        refine SimI.done (by kernel_rfl) ?_
        refine SimE.thenN ?_
        refine Sim.ret ?_
        refine SimE.thenR ?_
        exact SimE.fin (by kernel_rfl)
      · refine SimI.run 1 [(23, .one (vw Thing.cod a0))] [] (by kernel_rfl) ?_
        refine SimI.bind (og := F16 n a0) { dst := some 24, op := POp.call true [[(0, 11)]] 16 [Operand.tmp 23], guard := some (22, false), hints := [] } (fun r4 => [(24, .one (lb r4))]) (fun r4 => []) (by kernel_rfl) (fun r4 hr => pOp_eff (by kernel_rfl) (by kernel_rfl) (eff_call (ARGS := [.one (vw Thing.cod a0)]) (by kernel_rfl) (args_clean (by kernel_rfl) args_nil) (F16_ok n a0 r4 hr) (by kernel_rfl))) (fun r4 => ?_)
        refine SimI.run 3 [(27, .one (lb (!(r4)))), (26, .one (lb (!(r4)))), (25, .one (lb (!(r4))))] [] (by kernel_rfl) ?_
        refine SimI.split 27 (!(r4)) (by kernel_rfl) ?_ ?_
        · refine SimI.run 4 [(31, .one (lb true)), (30, .tup []), (29, .tup []), (28, .tup [])] [] (by kernel_rfl) ?_
          refine SimI.done (by kernel_rfl) ?_
          refine SimE.thenN ?_
          refine Sim.condT (by kernel_rfl) ?_
          refine Sim.seq ?_
          refine Sim.region0 ?_
          refine SimI.run 1 [(6, .one (lb true))] [] (by kernel_rfl) ?_
          refine SimI.done (by kernel_rfl) ?_
          refine SimE.thenN ?_
          refine Sim.ret ?_
          refine SimE.thenR ?_
          exact SimE.fin (by kernel_rfl)
        · refine SimI.run 1 [(28, .one (vw Thing.cod a1))] [] (by kernel_rfl) ?_
          refine SimI.bind (og := F16 n a1) { dst := some 29, op := POp.call true [[(0, 11)]] 16 [Operand.tmp 28], guard := some (27, false), hints := [] } (fun r5 => [(29, .one (lb r5))]) (fun r5 => []) (by kernel_rfl) (fun r5 hr => pOp_eff (by kernel_rfl) (by kernel_rfl) (eff_call (ARGS := [.one (vw Thing.cod a1)]) (by kernel_rfl) (args_clean (by kernel_rfl) args_nil) (F16_ok n a1 r5 hr) (by kernel_rfl))) (fun r5 => ?_)
          refine SimI.run 2 [(31, .one (lb (!(r5)))), (30, .one (lb (!(r5))))] [] (by kernel_rfl) ?_
          refine SimI.done (by kernel_rfl) ?_
          refine SimE.thenN ?_
          refine Sim.cond (!(r5)) (by kernel_rfl) ?_ ?_
          · refine Sim.seq ?_
            refine Sim.region0 ?_
            refine SimI.run 1 [(6, .one (lb true))] [] (by kernel_rfl) ?_
            refine SimI.done (by kernel_rfl) ?_
            refine SimE.thenN ?_
            refine Sim.ret ?_
            refine SimE.thenR ?_
            exact SimE.fin (by kernel_rfl)
          · refine Sim.skip ?_
            refine SimE.thenN ?_
            refine Sim.seq ?_
            refine Sim.region0 ?_
            refine SimI.run 3 [(7, .one (.ptr 7 0)), (32, .agg [li .i64 0, li .i64 0, li .i64 64, li .i64 64])] [(7, some (.cells [li .i64 0, li .i64 0, li .i64 64, li .i64 64])), (7, some (.cells [li .i64 0, li .i64 0, li .i64 0, li .i64 0]))] (by kernel_rfl) ?_
            refine SimI.done (by kernel_rfl) ?_
            refine SimE.thenN ?_
            refine Sim.seq ?_
            refine Sim.region0 ?_
            refine SimI.run 4 [(36, .agg [li .i64 0, li .i64 0, li .i64 64, li .i64 64]), (35, .one (vw Thing.cod a1)), (34, .agg [li .i64 0, li .i64 0, li .i64 0, li .i64 0]), (33, .one (vw Thing.cod a0))] [] (by kernel_rfl) ?_
            refine SimI.bind (og := F18 n a0 (Rect.mk 0 0 0 0) a1 (Rect.mk 0 0 64 64)) { dst := some 37, op := POp.call true [[(0, 11)], [], [(0, 11)], []] 18 [Operand.tmp 33, Operand.tmp 34, Operand.tmp 35, Operand.tmp 36], guard := none, hints := [] } (fun r6 => [(37, .one (vw Event.cod r6))]) (fun r6 => []) (by kernel_rfl) (fun r6 hr => pOp_eff (by kernel_rfl) (by kernel_rfl) (eff_call (ARGS := [.one (vw Thing.cod a0), .agg [li .i64 0, li .i64 0, li .i64 0, li .i64 0], .one (vw Thing.cod a1), .agg [li .i64 0, li .i64 0, li .i64 64, li .i64 64]]) (by kernel_rfl) (args_clean (by kernel_rfl) (args_clean (by kernel_rfl) (args_clean (by kernel_rfl) (args_clean (by kernel_rfl) args_nil)))) (F18_ok n a0 (Rect.mk 0 0 0 0) a1 (Rect.mk 0 0 64 64) r6 hr) (by kernel_rfl))) (fun r6 => ?_)
            refine SimI.run 1 [(8, .one (vw Event.cod r6))] [] (by kernel_rfl) ?_
            refine SimI.done (by kernel_rfl) ?_
            refine SimE.thenN ?_
            refine Sim.seq ?_
            refine Sim.region0 ?_
            refine SimI.run 4 [(41, .agg [li .i64 0, li .i64 0, li .i64 0, li .i64 0]), (40, .one (vw Thing.cod a1)), (39, .agg [li .i64 0, li .i64 0, li .i64 64, li .i64 64]), (38, .one (vw Thing.cod a0))] [] (by kernel_rfl) ?_
            refine SimI.bind (og := F18 n a0 (Rect.mk 0 0 64 64) a1 (Rect.mk 0 0 0 0)) { dst := some 42, op := POp.call true [[(0, 11)], [], [(0, 11)], []] 18 [Operand.tmp 38, Operand.tmp 39, Operand.tmp 40, Operand.tmp 41], guard := none, hints := [] } (fun r7 => [(42, .one (vw Event.cod r7))]) (fun r7 => []) (by kernel_rfl) (fun r7 hr => pOp_eff (by kernel_rfl) (by kernel_rfl) (eff_call (ARGS := [.one (vw Thing.cod a0), .agg [li .i64 0, li .i64 0, li .i64 64, li .i64 64], .one (vw Thing.cod a1), .agg [li .i64 0, li .i64 0, li .i64 0, li .i64 0]]) (by kernel_rfl) (args_clean (by kernel_rfl) (args_clean (by kernel_rfl) (args_clean (by kernel_rfl) (args_clean (by kernel_rfl) args_nil)))) (F18_ok n a0 (Rect.mk 0 0 64 64) a1 (Rect.mk 0 0 0 0) r7 hr) (by kernel_rfl))) (fun r7 => ?_)
            refine SimI.run 1 [(9, .one (vw Event.cod r7))] [] (by kernel_rfl) ?_
            refine SimI.done (by kernel_rfl) ?_
            refine SimE.thenN ?_
            refine Sim.seq ?_
            refine Sim.seq ?_
            refine Sim.region0 ?_
            refine SimI.run 6 [(48, .one (lb (((r6).length : Int) != ((a1).length : Int)))), (47, .one (lb (((r6).length : Int) != ((a1).length : Int)))), (46, .one (li .i64 ((a1).length : Int))), (45, .one (vw Thing.cod a1)), (44, .one (li .i64 ((r6).length : Int))), (43, .one (vw Event.cod r6))] [] (by kernel_rfl) ?_
            refine SimI.split 48 (((r6).length : Int) != ((a1).length : Int)) (by kernel_rfl) ?_ ?_
            · refine SimI.run 15 [(63, .one (lb true)), (62, .tup []), (61, .tup []), (60, .tup []), (59, .tup []), (58, .tup []), (57, .tup []), (56, .tup []), (55, .one (lb true)), (54, .one (lb true)), (53, .tup []), (52, .tup []), (51, .tup []), (50, .tup []), (49, .tup [])] [] (by kernel_rfl) ?_
              refine SimI.done (by kernel_rfl) ?_
              refine SimE.thenN ?_
              refine Sim.condT (by kernel_rfl) ?_
              refine Sim.seq ?_
              refine Sim.region0 ?_
              refine SimI.run 1 [(6, .one (lb false))] [] (by kernel_rfl) ?_
              refine SimI.done (by kernel_rfl) ?_
              refine SimE.thenN ?_
              refine Sim.ret ?_
              refine SimE.thenR ?_
              exact SimE.fin (by kernel_rfl)
            · refine SimI.run 7 [(55, .one (lb (((r7).length : Int) != ((a0).length : Int)))), (54, .one (lb (((r7).length : Int) != ((a0).length : Int)))), (53, .one (lb (((r7).length : Int) != ((a0).length : Int)))), (52, .one (li .i64 ((a0).length : Int))), (51, .one (vw Thing.cod a0)), (50, .one (li .i64 ((r7).length : Int))), (49, .one (vw Event.cod r7))] [] (by kernel_rfl) ?_
              refine SimI.split 55 (((r7).length : Int) != ((a0).length : Int)) (by kernel_rfl) ?_ ?_
              · refine SimI.run 8 [(63, .one (lb true)), (62, .tup []), (61, .tup []), (60, .tup []), (59, .tup []), (58, .tup []), (57, .tup []), (56, .tup [])] [] (by kernel_rfl) ?_
                refine SimI.done (by kernel_rfl) ?_
                refine SimE.thenN ?_
                refine Sim.condT (by kernel_rfl) ?_
                refine Sim.seq ?_
                refine Sim.region0 ?_
                refine SimI.run 1 [(6, .one (lb false))] [] (by kernel_rfl) ?_
                refine SimI.done (by kernel_rfl) ?_
                refine SimE.thenN ?_
                refine Sim.ret ?_
                refine SimE.thenR ?_
                exact SimE.fin (by kernel_rfl)
              · refine SimI.run 4 [(59, .agg [li .i64 0, li .i64 0, li .i64 0, li .i64 0]), (58, .one (vw Thing.cod a1)), (57, .agg [li .i64 0, li .i64 0, li .i64 0, li .i64 0]), (56, .one (vw Thing.cod a0))] [] (by kernel_rfl) ?_
                refine SimI.bind (og := F18 n a0 (Rect.mk 0 0 0 0) a1 (Rect.mk 0 0 0 0)) { dst := some 60, op := POp.call true [[(0, 11)], [], [(0, 11)], []] 18 [Operand.tmp 56, Operand.tmp 57, Operand.tmp 58, Operand.tmp 59], guard := some (55, false), hints := [] } (fun r8 => [(60, .one (vw Event.cod r8))]) (fun r8 => []) (by kernel_rfl) (fun r8 hr => pOp_eff (by kernel_rfl) (by kernel_rfl) (eff_call (ARGS := [.one (vw Thing.cod a0), .agg [li .i64 0, li .i64 0, li .i64 0, li .i64 0], .one (vw Thing.cod a1), .agg [li .i64 0, li .i64 0, li .i64 0, li .i64 0]]) (by kernel_rfl) (args_clean (by kernel_rfl) (args_clean (by kernel_rfl) (args_clean (by kernel_rfl) (args_clean (by kernel_rfl) args_nil)))) (F18_ok n a0 (Rect.mk 0 0 0 0) a1 (Rect.mk 0 0 0 0) r8 hr) (by kernel_rfl))) (fun r8 => ?_)
                refine SimI.run 3 [(63, .one (lb (((r8).length : Int) != 0))), (62, .one (lb (((r8).length : Int) != 0))), (61, .one (li .i64 ((r8).length : Int)))] [] (by kernel_rfl) ?_
                refine SimI.done (by kernel_rfl) ?_
                refine SimE.thenN ?_
                refine Sim.cond (((r8).length : Int) != 0) (by kernel_rfl) ?_ ?_
                · refine Sim.seq ?_
                  refine Sim.region0 ?_
                  refine SimI.run 1 [(6, .one (lb false))] [] (by kernel_rfl) ?_
                  refine SimI.done (by kernel_rfl) ?_
                  refine SimE.thenN ?_
                  refine Sim.ret ?_
                  refine SimE.thenR ?_
                  exact SimE.fin (by kernel_rfl)
                · refine Sim.skip ?_
                  refine SimE.thenN ?_
                  refine Sim.seq ?_
                  refine Sim.seq ?_
                  refine Sim.region0 ?_
                  refine SimI.run 1 [(10, .one (li .i64 0))] [] (by kernel_rfl) ?_
                  refine SimI.done (by kernel_rfl) ?_
                  refine SimE.thenN ?_
                  refine Sim.block ?_
                  refine Sim.loop ?_
                  refine SimL.pre (ts := [0, 1, 7, 8, 9, 10]) (os := [5, 7]) [(0, .one (vw Thing.cod a0)), (1, .one (vw Thing.cod a1)), (7, .one (.ptr 7 0)), (8, .one (vw Event.cod r6)), (9, .one (vw Event.cod r7)), (10, .one (li .i64 0))] ((7, some (.cells [li .i64 0, li .i64 0, li .i64 64, li .i64 64])) :: []) (by kernel_rfl) (by kernel_rfl) (by kernel_rfl) ?_
                  exact F6_l12_ok n a0 a1 a2 r6 r7 (n + 8) 0


end Go.Proofs.Ytajfdeeepklfoaa
