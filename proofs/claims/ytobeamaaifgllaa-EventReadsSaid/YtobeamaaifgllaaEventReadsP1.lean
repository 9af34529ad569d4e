/-
  Functions of the program as functions of Lean. No condition.
-/
import Derived.Test.YtobeamaaifgllaaEventReadsP0
namespace Go.Proofs.Ytobeamaaifgllaa
open Go Go.Rx
set_option maxRecDepth 100000
set_option linter.unusedVariables false
set_option linter.unusedSimpArgs false
set_option linter.unnecessarySimpa false
-- 72: vedette/vedetteref6.Read
def F72_e : (Delta × Int × Int) → PV × List Ob := fun r => (.tup [.agg (Delta.cells r.1), .one (li .i64 r.2.1), .one (li .i64 r.2.2)], [])
def F72_u32 (n : Nat) (r1 : (Int × Int × Int)) (r2 : (Int × Int × Int)) (i6 : Int) (i7 : Int) (i12 : Int) (s13 : ByteArray) (i18 : Int) (s19 : ByteArray) (i24 : Int) (s25 : ByteArray) (i29 : Int) (i30 : Int) (s31 : ByteArray) : Option (Delta × Int × Int) :=
    (F94 n (Delta.mk r1.1 (IntKind.wrap .u8 r2.1) (Point.mk i6 i7) (A4.mk (Field.mk i12 s13) (Field.mk i18 s19) (Field.mk i24 s25) (Field.mk i30 s31)))).bind fun (r33 : Bool) =>
    if !(r33) then
      some ((Delta.mk 0 0 (Point.mk 0 0) (A4.mk (Field.mk 0 ByteArray.empty) (Field.mk 0 ByteArray.empty) (Field.mk 0 ByteArray.empty) (Field.mk 0 ByteArray.empty))), 0, 11)
    else
      some ((Delta.mk r1.1 (IntKind.wrap .u8 r2.1) (Point.mk i6 i7) (A4.mk (Field.mk i12 s13) (Field.mk i18 s19) (Field.mk i24 s25) (Field.mk i30 s31))), i29, 0)
theorem F72_u32_ok (n : Nat) (a0 : ByteArray) (r1 : (Int × Int × Int)) (r2 : (Int × Int × Int)) (i6 : Int) (i7 : Int) (i12 : Int) (s13 : ByteArray) (i18 : Int) (s19 : ByteArray) (i24 : Int) (s25 : ByteArray) (i29 : Int) (i30 : Int) (s31 : ByteArray) : SimL Try.prog D (n + 8) (n + 4) pc72_c93 [(0, qs a0), (2, qp 2 0), (5, qp 5 0), (6, qp 6 0), (8, qj i29), (11, qj 4)] [(2, some (.cells [lj 0, li .u8 0, lj 0, lj 0, lj 0, ls be, lj 0, ls be, lj 0, ls be, lj 0, ls be])), (5, some (.cells [lj 0, li .u8 0, lj 0, lj 0, lj 0, ls be, lj 0, ls be, lj 0, ls be, lj 0, ls be])), (6, some (.cells [lj r1.1, li .u8 (IntKind.wrap .u8 r2.1), lj i6, lj i7, lj i12, ls s13, lj i18, ls s19, lj i24, ls s25, lj i30, ls s31]))] (F72_u32 n r1 r2 i6 i7 i12 s13 i18 s19 i24 s25 i29 i30 s31) (QB 0 (QT Try.prog D (n + 8) pc72_c107 (QF false pc72_r 0 F72_e))) := by
    unfold F72_u32
    refine SimL.succ (.seq (.seq (.rg [(0, qs a0), (2, qp 2 0), (5, qp 5 0), (6, qp 6 0), (8, qj i29), (11, qj 4)] [(2, some (.cells [lj 0, li .u8 0, lj 0, lj 0, lj 0, ls be, lj 0, ls be, lj 0, ls be, lj 0, ls be])), (5, some (.cells [lj 0, li .u8 0, lj 0, lj 0, lj 0, ls be, lj 0, ls be, lj 0, ls be, lj 0, ls be])), (6, some (.cells [lj r1.1, li .u8 (IntKind.wrap .u8 r2.1), lj i6, lj i7, lj i12, ls s13, lj i18, ls s19, lj i24, ls s25, lj i30, ls s31]))] (.rd 2 [(88, qb false), (87, qj 4)] [] (.thenN (.condF (by kernel_rfl) (.exit (.thenX (.loopX (.blockX (.thenN (.seq (.st 1 [(141, .agg [lj r1.1, li .u8 (IntKind.wrap .u8 r2.1), lj i6, lj i7, lj i12, ls s13, lj i18, ls s19, lj i24, ls s25, lj i30, ls s31])] [] (.cl 142 true [[]] 94 [Operand.tmp 141] none (fun r33 => qb r33) [.agg [lj r1.1, li .u8 (IntKind.wrap .u8 r2.1), lj i6, lj i7, lj i12, ls s13, lj i18, ls s19, lj i24, ls s25, lj i30, ls s31]] (F94_ok n (Delta.mk r1.1 (IntKind.wrap .u8 r2.1) (Point.mk i6 i7) (A4.mk (Field.mk i12 s13) (Field.mk i18 s19) (Field.mk i24 s25) (Field.mk i30 s31)))) (fun r33 => ?_)))))))))))))))
    refine SimI.rd 1 [(143, qb (!(r33)))] [] (.thenN (.cond (!(r33)) (by kernel_rfl) ?_ ?_))
    · exact Sim.sr 4 [(4, qj 11), (3, qj 0), (144, .agg [lj 0, li .u8 0, lj 0, lj 0, lj 0, ls be, lj 0, ls be, lj 0, ls be, lj 0, ls be])] [(2, some (.cells [lj 0, li .u8 0, lj 0, lj 0, lj 0, ls be, lj 0, ls be, lj 0, ls be, lj 0, ls be]))] (.ret (.thenR .fn))
    · exact Sim.skip (.thenN (.sr 5 [(4, qj 0), (3, qj i29), (146, qj i29), (145, .agg [lj r1.1, li .u8 (IntKind.wrap .u8 r2.1), lj i6, lj i7, lj i12, ls s13, lj i18, ls s19, lj i24, ls s25, lj i30, ls s31])] [(2, some (.cells [lj r1.1, li .u8 (IntKind.wrap .u8 r2.1), lj i6, lj i7, lj i12, ls s13, lj i18, ls s19, lj i24, ls s25, lj i30, ls s31]))] (.ret .fn)))

def F72_u26 (n : Nat) (a0 : ByteArray) (r1 : (Int × Int × Int)) (r2 : (Int × Int × Int)) (i6 : Int) (i7 : Int) (i12 : Int) (s13 : ByteArray) (i18 : Int) (s19 : ByteArray) (i23 : Int) (i24 : Int) (s25 : ByteArray) : Option (Delta × Int × Int) :=
    if (bitsI .and .u8 (shrI .u8 (IntKind.wrap .u8 r2.1) 4) 1) == 0 then
      F72_u32 n r1 r2 i6 i7 i12 s13 i18 s19 i24 s25 i23 0 ByteArray.empty
    else
      if 0 ≤ (i23 : Int) ∧ (i23 : Int) ≤ (a0.size : Int) then
        (F107 n (a0.extract i23.toNat a0.size) 12).bind fun (r27 : (ByteArray × Int × Int)) =>
        if r27.2.2 != 0 then
          some ((Delta.mk 0 0 (Point.mk 0 0) (A4.mk (Field.mk 0 ByteArray.empty) (Field.mk 0 ByteArray.empty) (Field.mk 0 ByteArray.empty) (Field.mk 0 ByteArray.empty))), 0, r27.2.2)
        else
          if r27.1.toList == ByteArray.empty.toList then
            if 0 ≤ (IntKind.wrap .i64 (i23 + r27.2.1) : Int) ∧ (IntKind.wrap .i64 (i23 + r27.2.1) : Int) ≤ (a0.size : Int) then
              (F108 n (a0.extract (IntKind.wrap .i64 (i23 + r27.2.1)).toNat a0.size)).bind fun (r28 : (Int × Int × Int)) =>
              if r28.2.2 != 0 then
                some ((Delta.mk 0 0 (Point.mk 0 0) (A4.mk (Field.mk 0 ByteArray.empty) (Field.mk 0 ByteArray.empty) (Field.mk 0 ByteArray.empty) (Field.mk 0 ByteArray.empty))), 0, r28.2.2)
              else
                F72_u32 n r1 r2 i6 i7 i12 s13 i18 s19 i24 s25 (IntKind.wrap .i64 (IntKind.wrap .i64 (i23 + r27.2.1) + r28.2.1)) r28.1 r27.1
            else none
          else
            F72_u32 n r1 r2 i6 i7 i12 s13 i18 s19 i24 s25 (IntKind.wrap .i64 (i23 + r27.2.1)) 0 r27.1
      else none
theorem F72_u26_ok (n : Nat) (a0 : ByteArray) (r1 : (Int × Int × Int)) (r2 : (Int × Int × Int)) (i6 : Int) (i7 : Int) (i12 : Int) (s13 : ByteArray) (i18 : Int) (s19 : ByteArray) (i23 : Int) (i24 : Int) (s25 : ByteArray) : SimL Try.prog D (n + 8) (n + 5) pc72_c93 [(0, qs a0), (2, qp 2 0), (5, qp 5 0), (6, qp 6 0), (8, qj i23), (11, qj 3)] [(2, some (.cells [lj 0, li .u8 0, lj 0, lj 0, lj 0, ls be, lj 0, ls be, lj 0, ls be, lj 0, ls be])), (5, some (.cells [lj 0, li .u8 0, lj 0, lj 0, lj 0, ls be, lj 0, ls be, lj 0, ls be, lj 0, ls be])), (6, some (.cells [lj r1.1, li .u8 (IntKind.wrap .u8 r2.1), lj i6, lj i7, lj i12, ls s13, lj i18, ls s19, lj i24, ls s25, lj 0, ls be]))] (F72_u26 n a0 r1 r2 i6 i7 i12 s13 i18 s19 i23 i24 s25) (QB 0 (QT Try.prog D (n + 8) pc72_c107 (QF false pc72_r 0 F72_e))) := by
    unfold F72_u26
    refine SimL.succ (.seq (.seq (.rg [(0, qs a0), (2, qp 2 0), (5, qp 5 0), (6, qp 6 0), (8, qj i23), (11, qj 3)] [(2, some (.cells [lj 0, li .u8 0, lj 0, lj 0, lj 0, ls be, lj 0, ls be, lj 0, ls be, lj 0, ls be])), (5, some (.cells [lj 0, li .u8 0, lj 0, lj 0, lj 0, ls be, lj 0, ls be, lj 0, ls be, lj 0, ls be])), (6, some (.cells [lj r1.1, li .u8 (IntKind.wrap .u8 r2.1), lj i6, lj i7, lj i12, ls s13, lj i18, ls s19, lj i24, ls s25, lj 0, ls be]))] (.rd 2 [(88, qb true), (87, qj 3)] [] (.thenN (.condT (by kernel_rfl) (.skip (.thenN (.seq (.block (.seq (.sr 8 [(98, qb ((bitsI .and .u8 (shrI .u8 (IntKind.wrap .u8 r2.1) 4) 1) == 0)), (97, .one (li .u8 (bitsI .and .u8 (shrI .u8 (IntKind.wrap .u8 r2.1) 4) 1))), (96, .one (li .u8 (shrI .u8 (IntKind.wrap .u8 r2.1) 4))), (95, .one (li .u64 4)), (94, qj 4), (93, qj 3), (92, .one (li .u8 (IntKind.wrap .u8 r2.1))), (91, qp 6 1)] [] (.cond ((bitsI .and .u8 (shrI .u8 (IntKind.wrap .u8 r2.1) 4) 1) == 0) (by kernel_rfl) ?_ ?_)))))))))))))
    · refine Sim.exit (.thenX (.blockX (.thenN (.region0 (.rd 3 [(11, qj 4), (90, qj 4), (89, qj 3)] [] (.loopN (.pr [0, 2, 5, 6, 8, 11] [2, 5, 6] [] [(0, qs a0), (2, qp 2 0), (5, qp 5 0), (6, qp 6 0), (8, qj i23), (11, qj 4)] [(2, some (.cells [lj 0, li .u8 0, lj 0, lj 0, lj 0, ls be, lj 0, ls be, lj 0, ls be, lj 0, ls be])), (5, some (.cells [lj 0, li .u8 0, lj 0, lj 0, lj 0, ls be, lj 0, ls be, lj 0, ls be, lj 0, ls be])), (6, some (.cells [lj r1.1, li .u8 (IntKind.wrap .u8 r2.1), lj i6, lj i7, lj i12, ls s13, lj i18, ls s19, lj i24, ls s25, lj 0, ls be]))] ?_)))))))
      exact F72_u32_ok n a0 r1 r2 i6 i7 i12 s13 i18 s19 i24 s25 i23 0 be
    · refine Sim.skip (.thenN (.st 2 [(101, qj i23), (100, qs a0)] [] (.guard (c := 0 ≤ (i23 : Int) ∧ (i23 : Int) ≤ (a0.size : Int)) ⟨some 102, POp.prim (Prim.slice 9 true false) [Operand.tmp 100, Operand.tmp 101], none, []⟩ [(102, qs (a0.extract i23.toNat a0.size))] [] (by kernel_rfl) (fun hc => pOp_eff (by kernel_rfl) (by kernel_rfl) (eff_prim (by kernel_rfl) (pr_cutL (s := a0) (k := .i64) (a := i23) Try.underlying9 hc))) (.cl 103 true [[], []] 107 [Operand.tmp 102, Operand.const (Value.int IntKind.i64 12)] none (fun r27 => .tup [qs r27.1, qj r27.2.1, qj r27.2.2]) [qs (a0.extract i23.toNat a0.size), qj 12] (F107_ok n (a0.extract i23.toNat a0.size) 12) (fun r27 => ?_)))))
      refine SimI.rd 7 [(14, qj r27.2.2), (13, qj r27.2.1), (12, qs r27.1), (106, qj r27.2.2), (105, qj r27.2.1), (104, qs r27.1), (99, .tup [qs r27.1, qj r27.2.1, qj r27.2.2])] [] (.thenN (.seq (.sr 2 [(108, qb (r27.2.2 != 0)), (107, qj r27.2.2)] [] (.cond (r27.2.2 != 0) (by kernel_rfl) ?_ ?_))))
      · exact Sim.sr 5 [(4, qj r27.2.2), (3, qj 0), (110, qj r27.2.2), (109, .agg [lj 0, li .u8 0, lj 0, lj 0, lj 0, ls be, lj 0, ls be, lj 0, ls be, lj 0, ls be])] [(2, some (.cells [lj 0, li .u8 0, lj 0, lj 0, lj 0, ls be, lj 0, ls be, lj 0, ls be, lj 0, ls be]))] (.ret (.thenR (.blockR (.thenR (.loopR (.blockR (.thenR .fn)))))))
      · refine Sim.skip (.thenN (.sr 10 [(8, qj (IntKind.wrap .i64 (i23 + r27.2.1))), (118, qp 6 11), (117, qp 6 10), (116, qp 6 4), (115, qj (IntKind.wrap .i64 (i23 + r27.2.1))), (114, qj r27.2.1), (113, qj i23), (112, qs r27.1), (111, qj 3)] [(6, some (.cells [lj r1.1, li .u8 (IntKind.wrap .u8 r2.1), lj i6, lj i7, lj i12, ls s13, lj i18, ls s19, lj i24, ls s25, lj 0, ls r27.1]))] (.sr 2 [(120, qb (r27.1.toList == be.toList)), (119, qs r27.1)] [] (.cond (r27.1.toList == be.toList) (by kernel_rfl) ?_ ?_))))
        · refine Sim.st 2 [(123, qj (IntKind.wrap .i64 (i23 + r27.2.1))), (122, qs a0)] [] (.guard (c := 0 ≤ (IntKind.wrap .i64 (i23 + r27.2.1) : Int) ∧ (IntKind.wrap .i64 (i23 + r27.2.1) : Int) ≤ (a0.size : Int)) ⟨some 124, POp.prim (Prim.slice 9 true false) [Operand.tmp 122, Operand.tmp 123], none, []⟩ [(124, qs (a0.extract (IntKind.wrap .i64 (i23 + r27.2.1)).toNat a0.size))] [] (by kernel_rfl) (fun hc => pOp_eff (by kernel_rfl) (by kernel_rfl) (eff_prim (by kernel_rfl) (pr_cutL (s := a0) (k := .i64) (a := IntKind.wrap .i64 (i23 + r27.2.1)) Try.underlying9 hc))) (.cl 125 true [[]] 108 [Operand.tmp 124] none (fun r28 => .tup [qj r28.1, qj r28.2.1, qj r28.2.2]) [qs (a0.extract (IntKind.wrap .i64 (i23 + r27.2.1)).toNat a0.size)] (F108_ok n (a0.extract (IntKind.wrap .i64 (i23 + r27.2.1)).toNat a0.size)) (fun r28 => ?_)))
          refine SimI.rd 7 [(17, qj r28.2.2), (16, qj r28.2.1), (15, qj r28.1), (128, qj r28.2.2), (127, qj r28.2.1), (126, qj r28.1), (121, .tup [qj r28.1, qj r28.2.1, qj r28.2.2])] [] (.thenN (.seq (.sr 2 [(130, qb (r28.2.2 != 0)), (129, qj r28.2.2)] [] (.cond (r28.2.2 != 0) (by kernel_rfl) ?_ ?_))))
          · exact Sim.sr 5 [(4, qj r28.2.2), (3, qj 0), (132, qj r28.2.2), (131, .agg [lj 0, li .u8 0, lj 0, lj 0, lj 0, ls be, lj 0, ls be, lj 0, ls be, lj 0, ls be])] [(2, some (.cells [lj 0, li .u8 0, lj 0, lj 0, lj 0, ls be, lj 0, ls be, lj 0, ls be, lj 0, ls be]))] (.ret (.thenR (.blockR (.thenR (.loopR (.blockR (.thenR .fn)))))))
          · refine Sim.skip (.thenN (.region0 (.rd 10 [(8, qj (IntKind.wrap .i64 (IntKind.wrap .i64 (i23 + r27.2.1) + r28.2.1))), (140, qp 6 10), (139, qp 6 10), (138, qp 6 4), (137, qj (IntKind.wrap .i64 (IntKind.wrap .i64 (i23 + r27.2.1) + r28.2.1))), (136, qj r28.2.1), (135, qj (IntKind.wrap .i64 (i23 + r27.2.1))), (134, qj r28.1), (133, qj 3)] [(6, some (.cells [lj r1.1, li .u8 (IntKind.wrap .u8 r2.1), lj i6, lj i7, lj i12, ls s13, lj i18, ls s19, lj i24, ls s25, lj r28.1, ls r27.1]))] (.blockN (.thenN (.region0 (.rd 3 [(11, qj 4), (90, qj 4), (89, qj 3)] [] (.loopN (.pr [0, 2, 5, 6, 8, 11] [2, 5, 6] [] [(0, qs a0), (2, qp 2 0), (5, qp 5 0), (6, qp 6 0), (8, qj (IntKind.wrap .i64 (IntKind.wrap .i64 (i23 + r27.2.1) + r28.2.1))), (11, qj 4)] [(2, some (.cells [lj 0, li .u8 0, lj 0, lj 0, lj 0, ls be, lj 0, ls be, lj 0, ls be, lj 0, ls be])), (5, some (.cells [lj 0, li .u8 0, lj 0, lj 0, lj 0, ls be, lj 0, ls be, lj 0, ls be, lj 0, ls be])), (6, some (.cells [lj r1.1, li .u8 (IntKind.wrap .u8 r2.1), lj i6, lj i7, lj i12, ls s13, lj i18, ls s19, lj i24, ls s25, lj r28.1, ls r27.1]))] ?_)))))))))
            exact F72_u32_ok n a0 r1 r2 i6 i7 i12 s13 i18 s19 i24 s25 (IntKind.wrap .i64 (IntKind.wrap .i64 (i23 + r27.2.1) + r28.2.1)) r28.1 r27.1
        · refine Sim.skip (.blockN (.thenN (.region0 (.rd 3 [(11, qj 4), (90, qj 4), (89, qj 3)] [] (.loopN (.pr [0, 2, 5, 6, 8, 11] [2, 5, 6] [] [(0, qs a0), (2, qp 2 0), (5, qp 5 0), (6, qp 6 0), (8, qj (IntKind.wrap .i64 (i23 + r27.2.1))), (11, qj 4)] [(2, some (.cells [lj 0, li .u8 0, lj 0, lj 0, lj 0, ls be, lj 0, ls be, lj 0, ls be, lj 0, ls be])), (5, some (.cells [lj 0, li .u8 0, lj 0, lj 0, lj 0, ls be, lj 0, ls be, lj 0, ls be, lj 0, ls be])), (6, some (.cells [lj r1.1, li .u8 (IntKind.wrap .u8 r2.1), lj i6, lj i7, lj i12, ls s13, lj i18, ls s19, lj i24, ls s25, lj 0, ls r27.1]))] ?_))))))
          exact F72_u32_ok n a0 r1 r2 i6 i7 i12 s13 i18 s19 i24 s25 (IntKind.wrap .i64 (i23 + r27.2.1)) 0 r27.1

def F72_u20 (n : Nat) (a0 : ByteArray) (r1 : (Int × Int × Int)) (r2 : (Int × Int × Int)) (i6 : Int) (i7 : Int) (i12 : Int) (s13 : ByteArray) (i17 : Int) (i18 : Int) (s19 : ByteArray) : Option (Delta × Int × Int) :=
    if (bitsI .and .u8 (shrI .u8 (IntKind.wrap .u8 r2.1) 3) 1) == 0 then
      F72_u26 n a0 r1 r2 i6 i7 i12 s13 i18 s19 i17 0 ByteArray.empty
    else
      if 0 ≤ (i17 : Int) ∧ (i17 : Int) ≤ (a0.size : Int) then
        (F107 n (a0.extract i17.toNat a0.size) 12).bind fun (r21 : (ByteArray × Int × Int)) =>
        if r21.2.2 != 0 then
          some ((Delta.mk 0 0 (Point.mk 0 0) (A4.mk (Field.mk 0 ByteArray.empty) (Field.mk 0 ByteArray.empty) (Field.mk 0 ByteArray.empty) (Field.mk 0 ByteArray.empty))), 0, r21.2.2)
        else
          if r21.1.toList == ByteArray.empty.toList then
            if 0 ≤ (IntKind.wrap .i64 (i17 + r21.2.1) : Int) ∧ (IntKind.wrap .i64 (i17 + r21.2.1) : Int) ≤ (a0.size : Int) then
              (F108 n (a0.extract (IntKind.wrap .i64 (i17 + r21.2.1)).toNat a0.size)).bind fun (r22 : (Int × Int × Int)) =>
              if r22.2.2 != 0 then
                some ((Delta.mk 0 0 (Point.mk 0 0) (A4.mk (Field.mk 0 ByteArray.empty) (Field.mk 0 ByteArray.empty) (Field.mk 0 ByteArray.empty) (Field.mk 0 ByteArray.empty))), 0, r22.2.2)
              else
                F72_u26 n a0 r1 r2 i6 i7 i12 s13 i18 s19 (IntKind.wrap .i64 (IntKind.wrap .i64 (i17 + r21.2.1) + r22.2.1)) r22.1 r21.1
            else none
          else
            F72_u26 n a0 r1 r2 i6 i7 i12 s13 i18 s19 (IntKind.wrap .i64 (i17 + r21.2.1)) 0 r21.1
      else none
theorem F72_u20_ok (n : Nat) (a0 : ByteArray) (r1 : (Int × Int × Int)) (r2 : (Int × Int × Int)) (i6 : Int) (i7 : Int) (i12 : Int) (s13 : ByteArray) (i17 : Int) (i18 : Int) (s19 : ByteArray) : SimL Try.prog D (n + 8) (n + 6) pc72_c93 [(0, qs a0), (2, qp 2 0), (5, qp 5 0), (6, qp 6 0), (8, qj i17), (11, qj 2)] [(2, some (.cells [lj 0, li .u8 0, lj 0, lj 0, lj 0, ls be, lj 0, ls be, lj 0, ls be, lj 0, ls be])), (5, some (.cells [lj 0, li .u8 0, lj 0, lj 0, lj 0, ls be, lj 0, ls be, lj 0, ls be, lj 0, ls be])), (6, some (.cells [lj r1.1, li .u8 (IntKind.wrap .u8 r2.1), lj i6, lj i7, lj i12, ls s13, lj i18, ls s19, lj 0, ls be, lj 0, ls be]))] (F72_u20 n a0 r1 r2 i6 i7 i12 s13 i17 i18 s19) (QB 0 (QT Try.prog D (n + 8) pc72_c107 (QF false pc72_r 0 F72_e))) := by
    unfold F72_u20
    refine SimL.succ (.seq (.seq (.rg [(0, qs a0), (2, qp 2 0), (5, qp 5 0), (6, qp 6 0), (8, qj i17), (11, qj 2)] [(2, some (.cells [lj 0, li .u8 0, lj 0, lj 0, lj 0, ls be, lj 0, ls be, lj 0, ls be, lj 0, ls be])), (5, some (.cells [lj 0, li .u8 0, lj 0, lj 0, lj 0, ls be, lj 0, ls be, lj 0, ls be, lj 0, ls be])), (6, some (.cells [lj r1.1, li .u8 (IntKind.wrap .u8 r2.1), lj i6, lj i7, lj i12, ls s13, lj i18, ls s19, lj 0, ls be, lj 0, ls be]))] (.rd 2 [(88, qb true), (87, qj 2)] [] (.thenN (.condT (by kernel_rfl) (.skip (.thenN (.seq (.block (.seq (.sr 8 [(98, qb ((bitsI .and .u8 (shrI .u8 (IntKind.wrap .u8 r2.1) 3) 1) == 0)), (97, .one (li .u8 (bitsI .and .u8 (shrI .u8 (IntKind.wrap .u8 r2.1) 3) 1))), (96, .one (li .u8 (shrI .u8 (IntKind.wrap .u8 r2.1) 3))), (95, .one (li .u64 3)), (94, qj 3), (93, qj 2), (92, .one (li .u8 (IntKind.wrap .u8 r2.1))), (91, qp 6 1)] [] (.cond ((bitsI .and .u8 (shrI .u8 (IntKind.wrap .u8 r2.1) 3) 1) == 0) (by kernel_rfl) ?_ ?_)))))))))))))
    · refine Sim.exit (.thenX (.blockX (.thenN (.region0 (.rd 3 [(11, qj 3), (90, qj 3), (89, qj 2)] [] (.loopN (.pr [0, 2, 5, 6, 8, 11] [2, 5, 6] [] [(0, qs a0), (2, qp 2 0), (5, qp 5 0), (6, qp 6 0), (8, qj i17), (11, qj 3)] [(2, some (.cells [lj 0, li .u8 0, lj 0, lj 0, lj 0, ls be, lj 0, ls be, lj 0, ls be, lj 0, ls be])), (5, some (.cells [lj 0, li .u8 0, lj 0, lj 0, lj 0, ls be, lj 0, ls be, lj 0, ls be, lj 0, ls be])), (6, some (.cells [lj r1.1, li .u8 (IntKind.wrap .u8 r2.1), lj i6, lj i7, lj i12, ls s13, lj i18, ls s19, lj 0, ls be, lj 0, ls be]))] ?_)))))))
      exact F72_u26_ok n a0 r1 r2 i6 i7 i12 s13 i18 s19 i17 0 be
    · refine Sim.skip (.thenN (.st 2 [(101, qj i17), (100, qs a0)] [] (.guard (c := 0 ≤ (i17 : Int) ∧ (i17 : Int) ≤ (a0.size : Int)) ⟨some 102, POp.prim (Prim.slice 9 true false) [Operand.tmp 100, Operand.tmp 101], none, []⟩ [(102, qs (a0.extract i17.toNat a0.size))] [] (by kernel_rfl) (fun hc => pOp_eff (by kernel_rfl) (by kernel_rfl) (eff_prim (by kernel_rfl) (pr_cutL (s := a0) (k := .i64) (a := i17) Try.underlying9 hc))) (.cl 103 true [[], []] 107 [Operand.tmp 102, Operand.const (Value.int IntKind.i64 12)] none (fun r21 => .tup [qs r21.1, qj r21.2.1, qj r21.2.2]) [qs (a0.extract i17.toNat a0.size), qj 12] (F107_ok n (a0.extract i17.toNat a0.size) 12) (fun r21 => ?_)))))
      refine SimI.rd 7 [(14, qj r21.2.2), (13, qj r21.2.1), (12, qs r21.1), (106, qj r21.2.2), (105, qj r21.2.1), (104, qs r21.1), (99, .tup [qs r21.1, qj r21.2.1, qj r21.2.2])] [] (.thenN (.seq (.sr 2 [(108, qb (r21.2.2 != 0)), (107, qj r21.2.2)] [] (.cond (r21.2.2 != 0) (by kernel_rfl) ?_ ?_))))
      · exact Sim.sr 5 [(4, qj r21.2.2), (3, qj 0), (110, qj r21.2.2), (109, .agg [lj 0, li .u8 0, lj 0, lj 0, lj 0, ls be, lj 0, ls be, lj 0, ls be, lj 0, ls be])] [(2, some (.cells [lj 0, li .u8 0, lj 0, lj 0, lj 0, ls be, lj 0, ls be, lj 0, ls be, lj 0, ls be]))] (.ret (.thenR (.blockR (.thenR (.loopR (.blockR (.thenR .fn)))))))
      · refine Sim.skip (.thenN (.sr 10 [(8, qj (IntKind.wrap .i64 (i17 + r21.2.1))), (118, qp 6 9), (117, qp 6 8), (116, qp 6 4), (115, qj (IntKind.wrap .i64 (i17 + r21.2.1))), (114, qj r21.2.1), (113, qj i17), (112, qs r21.1), (111, qj 2)] [(6, some (.cells [lj r1.1, li .u8 (IntKind.wrap .u8 r2.1), lj i6, lj i7, lj i12, ls s13, lj i18, ls s19, lj 0, ls r21.1, lj 0, ls be]))] (.sr 2 [(120, qb (r21.1.toList == be.toList)), (119, qs r21.1)] [] (.cond (r21.1.toList == be.toList) (by kernel_rfl) ?_ ?_))))
        · refine Sim.st 2 [(123, qj (IntKind.wrap .i64 (i17 + r21.2.1))), (122, qs a0)] [] (.guard (c := 0 ≤ (IntKind.wrap .i64 (i17 + r21.2.1) : Int) ∧ (IntKind.wrap .i64 (i17 + r21.2.1) : Int) ≤ (a0.size : Int)) ⟨some 124, POp.prim (Prim.slice 9 true false) [Operand.tmp 122, Operand.tmp 123], none, []⟩ [(124, qs (a0.extract (IntKind.wrap .i64 (i17 + r21.2.1)).toNat a0.size))] [] (by kernel_rfl) (fun hc => pOp_eff (by kernel_rfl) (by kernel_rfl) (eff_prim (by kernel_rfl) (pr_cutL (s := a0) (k := .i64) (a := IntKind.wrap .i64 (i17 + r21.2.1)) Try.underlying9 hc))) (.cl 125 true [[]] 108 [Operand.tmp 124] none (fun r22 => .tup [qj r22.1, qj r22.2.1, qj r22.2.2]) [qs (a0.extract (IntKind.wrap .i64 (i17 + r21.2.1)).toNat a0.size)] (F108_ok n (a0.extract (IntKind.wrap .i64 (i17 + r21.2.1)).toNat a0.size)) (fun r22 => ?_)))
          refine SimI.rd 7 [(17, qj r22.2.2), (16, qj r22.2.1), (15, qj r22.1), (128, qj r22.2.2), (127, qj r22.2.1), (126, qj r22.1), (121, .tup [qj r22.1, qj r22.2.1, qj r22.2.2])] [] (.thenN (.seq (.sr 2 [(130, qb (r22.2.2 != 0)), (129, qj r22.2.2)] [] (.cond (r22.2.2 != 0) (by kernel_rfl) ?_ ?_))))
          · exact Sim.sr 5 [(4, qj r22.2.2), (3, qj 0), (132, qj r22.2.2), (131, .agg [lj 0, li .u8 0, lj 0, lj 0, lj 0, ls be, lj 0, ls be, lj 0, ls be, lj 0, ls be])] [(2, some (.cells [lj 0, li .u8 0, lj 0, lj 0, lj 0, ls be, lj 0, ls be, lj 0, ls be, lj 0, ls be]))] (.ret (.thenR (.blockR (.thenR (.loopR (.blockR (.thenR .fn)))))))
          · refine Sim.skip (.thenN (.region0 (.rd 10 [(8, qj (IntKind.wrap .i64 (IntKind.wrap .i64 (i17 + r21.2.1) + r22.2.1))), (140, qp 6 8), (139, qp 6 8), (138, qp 6 4), (137, qj (IntKind.wrap .i64 (IntKind.wrap .i64 (i17 + r21.2.1) + r22.2.1))), (136, qj r22.2.1), (135, qj (IntKind.wrap .i64 (i17 + r21.2.1))), (134, qj r22.1), (133, qj 2)] [(6, some (.cells [lj r1.1, li .u8 (IntKind.wrap .u8 r2.1), lj i6, lj i7, lj i12, ls s13, lj i18, ls s19, lj r22.1, ls r21.1, lj 0, ls be]))] (.blockN (.thenN (.region0 (.rd 3 [(11, qj 3), (90, qj 3), (89, qj 2)] [] (.loopN (.pr [0, 2, 5, 6, 8, 11] [2, 5, 6] [] [(0, qs a0), (2, qp 2 0), (5, qp 5 0), (6, qp 6 0), (8, qj (IntKind.wrap .i64 (IntKind.wrap .i64 (i17 + r21.2.1) + r22.2.1))), (11, qj 3)] [(2, some (.cells [lj 0, li .u8 0, lj 0, lj 0, lj 0, ls be, lj 0, ls be, lj 0, ls be, lj 0, ls be])), (5, some (.cells [lj 0, li .u8 0, lj 0, lj 0, lj 0, ls be, lj 0, ls be, lj 0, ls be, lj 0, ls be])), (6, some (.cells [lj r1.1, li .u8 (IntKind.wrap .u8 r2.1), lj i6, lj i7, lj i12, ls s13, lj i18, ls s19, lj r22.1, ls r21.1, lj 0, ls be]))] ?_)))))))))
            exact F72_u26_ok n a0 r1 r2 i6 i7 i12 s13 i18 s19 (IntKind.wrap .i64 (IntKind.wrap .i64 (i17 + r21.2.1) + r22.2.1)) r22.1 r21.1
        · refine Sim.skip (.blockN (.thenN (.region0 (.rd 3 [(11, qj 3), (90, qj 3), (89, qj 2)] [] (.loopN (.pr [0, 2, 5, 6, 8, 11] [2, 5, 6] [] [(0, qs a0), (2, qp 2 0), (5, qp 5 0), (6, qp 6 0), (8, qj (IntKind.wrap .i64 (i17 + r21.2.1))), (11, qj 3)] [(2, some (.cells [lj 0, li .u8 0, lj 0, lj 0, lj 0, ls be, lj 0, ls be, lj 0, ls be, lj 0, ls be])), (5, some (.cells [lj 0, li .u8 0, lj 0, lj 0, lj 0, ls be, lj 0, ls be, lj 0, ls be, lj 0, ls be])), (6, some (.cells [lj r1.1, li .u8 (IntKind.wrap .u8 r2.1), lj i6, lj i7, lj i12, ls s13, lj i18, ls s19, lj 0, ls r21.1, lj 0, ls be]))] ?_))))))
          exact F72_u26_ok n a0 r1 r2 i6 i7 i12 s13 i18 s19 (IntKind.wrap .i64 (i17 + r21.2.1)) 0 r21.1

def F72_u14 (n : Nat) (a0 : ByteArray) (r1 : (Int × Int × Int)) (r2 : (Int × Int × Int)) (i6 : Int) (i7 : Int) (i11 : Int) (i12 : Int) (s13 : ByteArray) : Option (Delta × Int × Int) :=
    if (bitsI .and .u8 (shrI .u8 (IntKind.wrap .u8 r2.1) 2) 1) == 0 then
      F72_u20 n a0 r1 r2 i6 i7 i12 s13 i11 0 ByteArray.empty
    else
      if 0 ≤ (i11 : Int) ∧ (i11 : Int) ≤ (a0.size : Int) then
        (F107 n (a0.extract i11.toNat a0.size) 12).bind fun (r15 : (ByteArray × Int × Int)) =>
        if r15.2.2 != 0 then
          some ((Delta.mk 0 0 (Point.mk 0 0) (A4.mk (Field.mk 0 ByteArray.empty) (Field.mk 0 ByteArray.empty) (Field.mk 0 ByteArray.empty) (Field.mk 0 ByteArray.empty))), 0, r15.2.2)
        else
          if r15.1.toList == ByteArray.empty.toList then
            if 0 ≤ (IntKind.wrap .i64 (i11 + r15.2.1) : Int) ∧ (IntKind.wrap .i64 (i11 + r15.2.1) : Int) ≤ (a0.size : Int) then
              (F108 n (a0.extract (IntKind.wrap .i64 (i11 + r15.2.1)).toNat a0.size)).bind fun (r16 : (Int × Int × Int)) =>
              if r16.2.2 != 0 then
                some ((Delta.mk 0 0 (Point.mk 0 0) (A4.mk (Field.mk 0 ByteArray.empty) (Field.mk 0 ByteArray.empty) (Field.mk 0 ByteArray.empty) (Field.mk 0 ByteArray.empty))), 0, r16.2.2)
              else
                F72_u20 n a0 r1 r2 i6 i7 i12 s13 (IntKind.wrap .i64 (IntKind.wrap .i64 (i11 + r15.2.1) + r16.2.1)) r16.1 r15.1
            else none
          else
            F72_u20 n a0 r1 r2 i6 i7 i12 s13 (IntKind.wrap .i64 (i11 + r15.2.1)) 0 r15.1
      else none
theorem F72_u14_ok (n : Nat) (a0 : ByteArray) (r1 : (Int × Int × Int)) (r2 : (Int × Int × Int)) (i6 : Int) (i7 : Int) (i11 : Int) (i12 : Int) (s13 : ByteArray) : SimL Try.prog D (n + 8) (n + 7) pc72_c93 [(0, qs a0), (2, qp 2 0), (5, qp 5 0), (6, qp 6 0), (8, qj i11), (11, qj 1)] [(2, some (.cells [lj 0, li .u8 0, lj 0, lj 0, lj 0, ls be, lj 0, ls be, lj 0, ls be, lj 0, ls be])), (5, some (.cells [lj 0, li .u8 0, lj 0, lj 0, lj 0, ls be, lj 0, ls be, lj 0, ls be, lj 0, ls be])), (6, some (.cells [lj r1.1, li .u8 (IntKind.wrap .u8 r2.1), lj i6, lj i7, lj i12, ls s13, lj 0, ls be, lj 0, ls be, lj 0, ls be]))] (F72_u14 n a0 r1 r2 i6 i7 i11 i12 s13) (QB 0 (QT Try.prog D (n + 8) pc72_c107 (QF false pc72_r 0 F72_e))) := by
    unfold F72_u14
    refine SimL.succ (.seq (.seq (.rg [(0, qs a0), (2, qp 2 0), (5, qp 5 0), (6, qp 6 0), (8, qj i11), (11, qj 1)] [(2, some (.cells [lj 0, li .u8 0, lj 0, lj 0, lj 0, ls be, lj 0, ls be, lj 0, ls be, lj 0, ls be])), (5, some (.cells [lj 0, li .u8 0, lj 0, lj 0, lj 0, ls be, lj 0, ls be, lj 0, ls be, lj 0, ls be])), (6, some (.cells [lj r1.1, li .u8 (IntKind.wrap .u8 r2.1), lj i6, lj i7, lj i12, ls s13, lj 0, ls be, lj 0, ls be, lj 0, ls be]))] (.rd 2 [(88, qb true), (87, qj 1)] [] (.thenN (.condT (by kernel_rfl) (.skip (.thenN (.seq (.block (.seq (.sr 8 [(98, qb ((bitsI .and .u8 (shrI .u8 (IntKind.wrap .u8 r2.1) 2) 1) == 0)), (97, .one (li .u8 (bitsI .and .u8 (shrI .u8 (IntKind.wrap .u8 r2.1) 2) 1))), (96, .one (li .u8 (shrI .u8 (IntKind.wrap .u8 r2.1) 2))), (95, .one (li .u64 2)), (94, qj 2), (93, qj 1), (92, .one (li .u8 (IntKind.wrap .u8 r2.1))), (91, qp 6 1)] [] (.cond ((bitsI .and .u8 (shrI .u8 (IntKind.wrap .u8 r2.1) 2) 1) == 0) (by kernel_rfl) ?_ ?_)))))))))))))
    · refine Sim.exit (.thenX (.blockX (.thenN (.region0 (.rd 3 [(11, qj 2), (90, qj 2), (89, qj 1)] [] (.loopN (.pr [0, 2, 5, 6, 8, 11] [2, 5, 6] [] [(0, qs a0), (2, qp 2 0), (5, qp 5 0), (6, qp 6 0), (8, qj i11), (11, qj 2)] [(2, some (.cells [lj 0, li .u8 0, lj 0, lj 0, lj 0, ls be, lj 0, ls be, lj 0, ls be, lj 0, ls be])), (5, some (.cells [lj 0, li .u8 0, lj 0, lj 0, lj 0, ls be, lj 0, ls be, lj 0, ls be, lj 0, ls be])), (6, some (.cells [lj r1.1, li .u8 (IntKind.wrap .u8 r2.1), lj i6, lj i7, lj i12, ls s13, lj 0, ls be, lj 0, ls be, lj 0, ls be]))] ?_)))))))
      exact F72_u20_ok n a0 r1 r2 i6 i7 i12 s13 i11 0 be
    · refine Sim.skip (.thenN (.st 2 [(101, qj i11), (100, qs a0)] [] (.guard (c := 0 ≤ (i11 : Int) ∧ (i11 : Int) ≤ (a0.size : Int)) ⟨some 102, POp.prim (Prim.slice 9 true false) [Operand.tmp 100, Operand.tmp 101], none, []⟩ [(102, qs (a0.extract i11.toNat a0.size))] [] (by kernel_rfl) (fun hc => pOp_eff (by kernel_rfl) (by kernel_rfl) (eff_prim (by kernel_rfl) (pr_cutL (s := a0) (k := .i64) (a := i11) Try.underlying9 hc))) (.cl 103 true [[], []] 107 [Operand.tmp 102, Operand.const (Value.int IntKind.i64 12)] none (fun r15 => .tup [qs r15.1, qj r15.2.1, qj r15.2.2]) [qs (a0.extract i11.toNat a0.size), qj 12] (F107_ok n (a0.extract i11.toNat a0.size) 12) (fun r15 => ?_)))))
      refine SimI.rd 7 [(14, qj r15.2.2), (13, qj r15.2.1), (12, qs r15.1), (106, qj r15.2.2), (105, qj r15.2.1), (104, qs r15.1), (99, .tup [qs r15.1, qj r15.2.1, qj r15.2.2])] [] (.thenN (.seq (.sr 2 [(108, qb (r15.2.2 != 0)), (107, qj r15.2.2)] [] (.cond (r15.2.2 != 0) (by kernel_rfl) ?_ ?_))))
      · exact Sim.sr 5 [(4, qj r15.2.2), (3, qj 0), (110, qj r15.2.2), (109, .agg [lj 0, li .u8 0, lj 0, lj 0, lj 0, ls be, lj 0, ls be, lj 0, ls be, lj 0, ls be])] [(2, some (.cells [lj 0, li .u8 0, lj 0, lj 0, lj 0, ls be, lj 0, ls be, lj 0, ls be, lj 0, ls be]))] (.ret (.thenR (.blockR (.thenR (.loopR (.blockR (.thenR .fn)))))))
      · refine Sim.skip (.thenN (.sr 10 [(8, qj (IntKind.wrap .i64 (i11 + r15.2.1))), (118, qp 6 7), (117, qp 6 6), (116, qp 6 4), (115, qj (IntKind.wrap .i64 (i11 + r15.2.1))), (114, qj r15.2.1), (113, qj i11), (112, qs r15.1), (111, qj 1)] [(6, some (.cells [lj r1.1, li .u8 (IntKind.wrap .u8 r2.1), lj i6, lj i7, lj i12, ls s13, lj 0, ls r15.1, lj 0, ls be, lj 0, ls be]))] (.sr 2 [(120, qb (r15.1.toList == be.toList)), (119, qs r15.1)] [] (.cond (r15.1.toList == be.toList) (by kernel_rfl) ?_ ?_))))
        · refine Sim.st 2 [(123, qj (IntKind.wrap .i64 (i11 + r15.2.1))), (122, qs a0)] [] (.guard (c := 0 ≤ (IntKind.wrap .i64 (i11 + r15.2.1) : Int) ∧ (IntKind.wrap .i64 (i11 + r15.2.1) : Int) ≤ (a0.size : Int)) ⟨some 124, POp.prim (Prim.slice 9 true false) [Operand.tmp 122, Operand.tmp 123], none, []⟩ [(124, qs (a0.extract (IntKind.wrap .i64 (i11 + r15.2.1)).toNat a0.size))] [] (by kernel_rfl) (fun hc => pOp_eff (by kernel_rfl) (by kernel_rfl) (eff_prim (by kernel_rfl) (pr_cutL (s := a0) (k := .i64) (a := IntKind.wrap .i64 (i11 + r15.2.1)) Try.underlying9 hc))) (.cl 125 true [[]] 108 [Operand.tmp 124] none (fun r16 => .tup [qj r16.1, qj r16.2.1, qj r16.2.2]) [qs (a0.extract (IntKind.wrap .i64 (i11 + r15.2.1)).toNat a0.size)] (F108_ok n (a0.extract (IntKind.wrap .i64 (i11 + r15.2.1)).toNat a0.size)) (fun r16 => ?_)))
          refine SimI.rd 7 [(17, qj r16.2.2), (16, qj r16.2.1), (15, qj r16.1), (128, qj r16.2.2), (127, qj r16.2.1), (126, qj r16.1), (121, .tup [qj r16.1, qj r16.2.1, qj r16.2.2])] [] (.thenN (.seq (.sr 2 [(130, qb (r16.2.2 != 0)), (129, qj r16.2.2)] [] (.cond (r16.2.2 != 0) (by kernel_rfl) ?_ ?_))))
          · exact Sim.sr 5 [(4, qj r16.2.2), (3, qj 0), (132, qj r16.2.2), (131, .agg [lj 0, li .u8 0, lj 0, lj 0, lj 0, ls be, lj 0, ls be, lj 0, ls be, lj 0, ls be])] [(2, some (.cells [lj 0, li .u8 0, lj 0, lj 0, lj 0, ls be, lj 0, ls be, lj 0, ls be, lj 0, ls be]))] (.ret (.thenR (.blockR (.thenR (.loopR (.blockR (.thenR .fn)))))))
          · refine Sim.skip (.thenN (.region0 (.rd 10 [(8, qj (IntKind.wrap .i64 (IntKind.wrap .i64 (i11 + r15.2.1) + r16.2.1))), (140, qp 6 6), (139, qp 6 6), (138, qp 6 4), (137, qj (IntKind.wrap .i64 (IntKind.wrap .i64 (i11 + r15.2.1) + r16.2.1))), (136, qj r16.2.1), (135, qj (IntKind.wrap .i64 (i11 + r15.2.1))), (134, qj r16.1), (133, qj 1)] [(6, some (.cells [lj r1.1, li .u8 (IntKind.wrap .u8 r2.1), lj i6, lj i7, lj i12, ls s13, lj r16.1, ls r15.1, lj 0, ls be, lj 0, ls be]))] (.blockN (.thenN (.region0 (.rd 3 [(11, qj 2), (90, qj 2), (89, qj 1)] [] (.loopN (.pr [0, 2, 5, 6, 8, 11] [2, 5, 6] [] [(0, qs a0), (2, qp 2 0), (5, qp 5 0), (6, qp 6 0), (8, qj (IntKind.wrap .i64 (IntKind.wrap .i64 (i11 + r15.2.1) + r16.2.1))), (11, qj 2)] [(2, some (.cells [lj 0, li .u8 0, lj 0, lj 0, lj 0, ls be, lj 0, ls be, lj 0, ls be, lj 0, ls be])), (5, some (.cells [lj 0, li .u8 0, lj 0, lj 0, lj 0, ls be, lj 0, ls be, lj 0, ls be, lj 0, ls be])), (6, some (.cells [lj r1.1, li .u8 (IntKind.wrap .u8 r2.1), lj i6, lj i7, lj i12, ls s13, lj r16.1, ls r15.1, lj 0, ls be, lj 0, ls be]))] ?_)))))))))
            exact F72_u20_ok n a0 r1 r2 i6 i7 i12 s13 (IntKind.wrap .i64 (IntKind.wrap .i64 (i11 + r15.2.1) + r16.2.1)) r16.1 r15.1
        · refine Sim.skip (.blockN (.thenN (.region0 (.rd 3 [(11, qj 2), (90, qj 2), (89, qj 1)] [] (.loopN (.pr [0, 2, 5, 6, 8, 11] [2, 5, 6] [] [(0, qs a0), (2, qp 2 0), (5, qp 5 0), (6, qp 6 0), (8, qj (IntKind.wrap .i64 (i11 + r15.2.1))), (11, qj 2)] [(2, some (.cells [lj 0, li .u8 0, lj 0, lj 0, lj 0, ls be, lj 0, ls be, lj 0, ls be, lj 0, ls be])), (5, some (.cells [lj 0, li .u8 0, lj 0, lj 0, lj 0, ls be, lj 0, ls be, lj 0, ls be, lj 0, ls be])), (6, some (.cells [lj r1.1, li .u8 (IntKind.wrap .u8 r2.1), lj i6, lj i7, lj i12, ls s13, lj 0, ls r15.1, lj 0, ls be, lj 0, ls be]))] ?_))))))
          exact F72_u20_ok n a0 r1 r2 i6 i7 i12 s13 (IntKind.wrap .i64 (i11 + r15.2.1)) 0 r15.1

def F72_j8 (n : Nat) (a0 : ByteArray) (r1 : (Int × Int × Int)) (r2 : (Int × Int × Int)) (i5 : Int) (i6 : Int) (i7 : Int) : Option (Delta × Int × Int) :=
    if (bitsI .and .u8 (shrI .u8 (IntKind.wrap .u8 r2.1) 1) 1) == 0 then
      F72_u14 n a0 r1 r2 i6 i7 i5 0 ByteArray.empty
    else
      if 0 ≤ (i5 : Int) ∧ (i5 : Int) ≤ (a0.size : Int) then
        (F107 n (a0.extract i5.toNat a0.size) 12).bind fun (r9 : (ByteArray × Int × Int)) =>
        if r9.2.2 != 0 then
          some ((Delta.mk 0 0 (Point.mk 0 0) (A4.mk (Field.mk 0 ByteArray.empty) (Field.mk 0 ByteArray.empty) (Field.mk 0 ByteArray.empty) (Field.mk 0 ByteArray.empty))), 0, r9.2.2)
        else
          if r9.1.toList == ByteArray.empty.toList then
            if 0 ≤ (IntKind.wrap .i64 (i5 + r9.2.1) : Int) ∧ (IntKind.wrap .i64 (i5 + r9.2.1) : Int) ≤ (a0.size : Int) then
              (F108 n (a0.extract (IntKind.wrap .i64 (i5 + r9.2.1)).toNat a0.size)).bind fun (r10 : (Int × Int × Int)) =>
              if r10.2.2 != 0 then
                some ((Delta.mk 0 0 (Point.mk 0 0) (A4.mk (Field.mk 0 ByteArray.empty) (Field.mk 0 ByteArray.empty) (Field.mk 0 ByteArray.empty) (Field.mk 0 ByteArray.empty))), 0, r10.2.2)
              else
                F72_u14 n a0 r1 r2 i6 i7 (IntKind.wrap .i64 (IntKind.wrap .i64 (i5 + r9.2.1) + r10.2.1)) r10.1 r9.1
            else none
          else
            F72_u14 n a0 r1 r2 i6 i7 (IntKind.wrap .i64 (i5 + r9.2.1)) 0 r9.1
      else none
theorem F72_j8_ok (n : Nat) (a0 : ByteArray) (r1 : (Int × Int × Int)) (r2 : (Int × Int × Int)) (i5 : Int) (i6 : Int) (i7 : Int) : Sim Try.prog D (n + 8) pc72_c108 [(0, qs a0), (2, qp 2 0), (5, qp 5 0), (6, qp 6 0), (8, qj i5)] [(2, some (.cells [lj 0, li .u8 0, lj 0, lj 0, lj 0, ls be, lj 0, ls be, lj 0, ls be, lj 0, ls be])), (5, some (.cells [lj 0, li .u8 0, lj 0, lj 0, lj 0, ls be, lj 0, ls be, lj 0, ls be, lj 0, ls be])), (6, some (.cells [lj r1.1, li .u8 (IntKind.wrap .u8 r2.1), lj i6, lj i7, lj 0, ls be, lj 0, ls be, lj 0, ls be, lj 0, ls be]))] (F72_j8 n a0 r1 r2 i5 i6 i7) (QF false pc72_r 0 F72_e) := by
    unfold F72_j8
    refine Sim.seq (.seq (.rg [(0, qs a0), (2, qp 2 0), (5, qp 5 0), (6, qp 6 0), (8, qj i5)] [(2, some (.cells [lj 0, li .u8 0, lj 0, lj 0, lj 0, ls be, lj 0, ls be, lj 0, ls be, lj 0, ls be])), (5, some (.cells [lj 0, li .u8 0, lj 0, lj 0, lj 0, ls be, lj 0, ls be, lj 0, ls be, lj 0, ls be])), (6, some (.cells [lj r1.1, li .u8 (IntKind.wrap .u8 r2.1), lj i6, lj i7, lj 0, ls be, lj 0, ls be, lj 0, ls be, lj 0, ls be]))] (.rd 1 [(11, qj 0)] [] (.thenN (.block (.loop (.succ (.seq (.seq (.rg [(0, qs a0), (2, qp 2 0), (5, qp 5 0), (6, qp 6 0), (8, qj i5), (11, qj 0)] [(2, some (.cells [lj 0, li .u8 0, lj 0, lj 0, lj 0, ls be, lj 0, ls be, lj 0, ls be, lj 0, ls be])), (5, some (.cells [lj 0, li .u8 0, lj 0, lj 0, lj 0, ls be, lj 0, ls be, lj 0, ls be, lj 0, ls be])), (6, some (.cells [lj r1.1, li .u8 (IntKind.wrap .u8 r2.1), lj i6, lj i7, lj 0, ls be, lj 0, ls be, lj 0, ls be, lj 0, ls be]))] (.rd 2 [(88, qb true), (87, qj 0)] [] (.thenN (.condT (by kernel_rfl) (.skip (.thenN (.seq (.block (.seq (.sr 8 [(98, qb ((bitsI .and .u8 (shrI .u8 (IntKind.wrap .u8 r2.1) 1) 1) == 0)), (97, .one (li .u8 (bitsI .and .u8 (shrI .u8 (IntKind.wrap .u8 r2.1) 1) 1))), (96, .one (li .u8 (shrI .u8 (IntKind.wrap .u8 r2.1) 1))), (95, .one (li .u64 1)), (94, qj 1), (93, qj 0), (92, .one (li .u8 (IntKind.wrap .u8 r2.1))), (91, qp 6 1)] [] (.cond ((bitsI .and .u8 (shrI .u8 (IntKind.wrap .u8 r2.1) 1) 1) == 0) (by kernel_rfl) ?_ ?_))))))))))))))))))))
    · refine Sim.exit (.thenX (.blockX (.thenN (.region0 (.rd 3 [(11, qj 1), (90, qj 1), (89, qj 0)] [] (.loopN (.pr [0, 2, 5, 6, 8, 11] [2, 5, 6] [] [(0, qs a0), (2, qp 2 0), (5, qp 5 0), (6, qp 6 0), (8, qj i5), (11, qj 1)] [(2, some (.cells [lj 0, li .u8 0, lj 0, lj 0, lj 0, ls be, lj 0, ls be, lj 0, ls be, lj 0, ls be])), (5, some (.cells [lj 0, li .u8 0, lj 0, lj 0, lj 0, ls be, lj 0, ls be, lj 0, ls be, lj 0, ls be])), (6, some (.cells [lj r1.1, li .u8 (IntKind.wrap .u8 r2.1), lj i6, lj i7, lj 0, ls be, lj 0, ls be, lj 0, ls be, lj 0, ls be]))] ?_)))))))
      exact F72_u14_ok n a0 r1 r2 i6 i7 i5 0 be
    · refine Sim.skip (.thenN (.st 2 [(101, qj i5), (100, qs a0)] [] (.guard (c := 0 ≤ (i5 : Int) ∧ (i5 : Int) ≤ (a0.size : Int)) ⟨some 102, POp.prim (Prim.slice 9 true false) [Operand.tmp 100, Operand.tmp 101], none, []⟩ [(102, qs (a0.extract i5.toNat a0.size))] [] (by kernel_rfl) (fun hc => pOp_eff (by kernel_rfl) (by kernel_rfl) (eff_prim (by kernel_rfl) (pr_cutL (s := a0) (k := .i64) (a := i5) Try.underlying9 hc))) (.cl 103 true [[], []] 107 [Operand.tmp 102, Operand.const (Value.int IntKind.i64 12)] none (fun r9 => .tup [qs r9.1, qj r9.2.1, qj r9.2.2]) [qs (a0.extract i5.toNat a0.size), qj 12] (F107_ok n (a0.extract i5.toNat a0.size) 12) (fun r9 => ?_)))))
      refine SimI.rd 7 [(14, qj r9.2.2), (13, qj r9.2.1), (12, qs r9.1), (106, qj r9.2.2), (105, qj r9.2.1), (104, qs r9.1), (99, .tup [qs r9.1, qj r9.2.1, qj r9.2.2])] [] (.thenN (.seq (.sr 2 [(108, qb (r9.2.2 != 0)), (107, qj r9.2.2)] [] (.cond (r9.2.2 != 0) (by kernel_rfl) ?_ ?_))))
      · exact Sim.sr 5 [(4, qj r9.2.2), (3, qj 0), (110, qj r9.2.2), (109, .agg [lj 0, li .u8 0, lj 0, lj 0, lj 0, ls be, lj 0, ls be, lj 0, ls be, lj 0, ls be])] [(2, some (.cells [lj 0, li .u8 0, lj 0, lj 0, lj 0, ls be, lj 0, ls be, lj 0, ls be, lj 0, ls be]))] (.ret (.thenR (.blockR (.thenR (.loopR (.blockR (.thenR .fn)))))))
      · refine Sim.skip (.thenN (.sr 10 [(8, qj (IntKind.wrap .i64 (i5 + r9.2.1))), (118, qp 6 5), (117, qp 6 4), (116, qp 6 4), (115, qj (IntKind.wrap .i64 (i5 + r9.2.1))), (114, qj r9.2.1), (113, qj i5), (112, qs r9.1), (111, qj 0)] [(6, some (.cells [lj r1.1, li .u8 (IntKind.wrap .u8 r2.1), lj i6, lj i7, lj 0, ls r9.1, lj 0, ls be, lj 0, ls be, lj 0, ls be]))] (.sr 2 [(120, qb (r9.1.toList == be.toList)), (119, qs r9.1)] [] (.cond (r9.1.toList == be.toList) (by kernel_rfl) ?_ ?_))))
        · refine Sim.st 2 [(123, qj (IntKind.wrap .i64 (i5 + r9.2.1))), (122, qs a0)] [] (.guard (c := 0 ≤ (IntKind.wrap .i64 (i5 + r9.2.1) : Int) ∧ (IntKind.wrap .i64 (i5 + r9.2.1) : Int) ≤ (a0.size : Int)) ⟨some 124, POp.prim (Prim.slice 9 true false) [Operand.tmp 122, Operand.tmp 123], none, []⟩ [(124, qs (a0.extract (IntKind.wrap .i64 (i5 + r9.2.1)).toNat a0.size))] [] (by kernel_rfl) (fun hc => pOp_eff (by kernel_rfl) (by kernel_rfl) (eff_prim (by kernel_rfl) (pr_cutL (s := a0) (k := .i64) (a := IntKind.wrap .i64 (i5 + r9.2.1)) Try.underlying9 hc))) (.cl 125 true [[]] 108 [Operand.tmp 124] none (fun r10 => .tup [qj r10.1, qj r10.2.1, qj r10.2.2]) [qs (a0.extract (IntKind.wrap .i64 (i5 + r9.2.1)).toNat a0.size)] (F108_ok n (a0.extract (IntKind.wrap .i64 (i5 + r9.2.1)).toNat a0.size)) (fun r10 => ?_)))
          refine SimI.rd 7 [(17, qj r10.2.2), (16, qj r10.2.1), (15, qj r10.1), (128, qj r10.2.2), (127, qj r10.2.1), (126, qj r10.1), (121, .tup [qj r10.1, qj r10.2.1, qj r10.2.2])] [] (.thenN (.seq (.sr 2 [(130, qb (r10.2.2 != 0)), (129, qj r10.2.2)] [] (.cond (r10.2.2 != 0) (by kernel_rfl) ?_ ?_))))
          · exact Sim.sr 5 [(4, qj r10.2.2), (3, qj 0), (132, qj r10.2.2), (131, .agg [lj 0, li .u8 0, lj 0, lj 0, lj 0, ls be, lj 0, ls be, lj 0, ls be, lj 0, ls be])] [(2, some (.cells [lj 0, li .u8 0, lj 0, lj 0, lj 0, ls be, lj 0, ls be, lj 0, ls be, lj 0, ls be]))] (.ret (.thenR (.blockR (.thenR (.loopR (.blockR (.thenR .fn)))))))
          · refine Sim.skip (.thenN (.region0 (.rd 10 [(8, qj (IntKind.wrap .i64 (IntKind.wrap .i64 (i5 + r9.2.1) + r10.2.1))), (140, qp 6 4), (139, qp 6 4), (138, qp 6 4), (137, qj (IntKind.wrap .i64 (IntKind.wrap .i64 (i5 + r9.2.1) + r10.2.1))), (136, qj r10.2.1), (135, qj (IntKind.wrap .i64 (i5 + r9.2.1))), (134, qj r10.1), (133, qj 0)] [(6, some (.cells [lj r1.1, li .u8 (IntKind.wrap .u8 r2.1), lj i6, lj i7, lj r10.1, ls r9.1, lj 0, ls be, lj 0, ls be, lj 0, ls be]))] (.blockN (.thenN (.region0 (.rd 3 [(11, qj 1), (90, qj 1), (89, qj 0)] [] (.loopN (.pr [0, 2, 5, 6, 8, 11] [2, 5, 6] [] [(0, qs a0), (2, qp 2 0), (5, qp 5 0), (6, qp 6 0), (8, qj (IntKind.wrap .i64 (IntKind.wrap .i64 (i5 + r9.2.1) + r10.2.1))), (11, qj 1)] [(2, some (.cells [lj 0, li .u8 0, lj 0, lj 0, lj 0, ls be, lj 0, ls be, lj 0, ls be, lj 0, ls be])), (5, some (.cells [lj 0, li .u8 0, lj 0, lj 0, lj 0, ls be, lj 0, ls be, lj 0, ls be, lj 0, ls be])), (6, some (.cells [lj r1.1, li .u8 (IntKind.wrap .u8 r2.1), lj i6, lj i7, lj r10.1, ls r9.1, lj 0, ls be, lj 0, ls be, lj 0, ls be]))] ?_)))))))))
            exact F72_u14_ok n a0 r1 r2 i6 i7 (IntKind.wrap .i64 (IntKind.wrap .i64 (i5 + r9.2.1) + r10.2.1)) r10.1 r9.1
        · refine Sim.skip (.blockN (.thenN (.region0 (.rd 3 [(11, qj 1), (90, qj 1), (89, qj 0)] [] (.loopN (.pr [0, 2, 5, 6, 8, 11] [2, 5, 6] [] [(0, qs a0), (2, qp 2 0), (5, qp 5 0), (6, qp 6 0), (8, qj (IntKind.wrap .i64 (i5 + r9.2.1))), (11, qj 1)] [(2, some (.cells [lj 0, li .u8 0, lj 0, lj 0, lj 0, ls be, lj 0, ls be, lj 0, ls be, lj 0, ls be])), (5, some (.cells [lj 0, li .u8 0, lj 0, lj 0, lj 0, ls be, lj 0, ls be, lj 0, ls be, lj 0, ls be])), (6, some (.cells [lj r1.1, li .u8 (IntKind.wrap .u8 r2.1), lj i6, lj i7, lj 0, ls r9.1, lj 0, ls be, lj 0, ls be, lj 0, ls be]))] ?_))))))
          exact F72_u14_ok n a0 r1 r2 i6 i7 (IntKind.wrap .i64 (i5 + r9.2.1)) 0 r9.1

def F72 (n : Nat) (a0 : ByteArray) : Option (Delta × Int × Int) :=
  (F106 n a0 0 1000000).bind fun (r1 : (Int × Int × Int)) =>
  if r1.2.2 != 0 then
    some ((Delta.mk 0 0 (Point.mk 0 0) (A4.mk (Field.mk 0 ByteArray.empty) (Field.mk 0 ByteArray.empty) (Field.mk 0 ByteArray.empty) (Field.mk 0 ByteArray.empty))), 0, r1.2.2)
  else
    (F106 n a0 r1.2.1 31).bind fun (r2 : (Int × Int × Int)) =>
    if r2.2.2 != 0 then
      some ((Delta.mk 0 0 (Point.mk 0 0) (A4.mk (Field.mk 0 ByteArray.empty) (Field.mk 0 ByteArray.empty) (Field.mk 0 ByteArray.empty) (Field.mk 0 ByteArray.empty))), 0, r2.2.2)
    else
      if decide ((1000000 : Int) < r1.1) then
        some ((Delta.mk 0 0 (Point.mk 0 0) (A4.mk (Field.mk 0 ByteArray.empty) (Field.mk 0 ByteArray.empty) (Field.mk 0 ByteArray.empty) (Field.mk 0 ByteArray.empty))), 0, 11)
      else
        if decide (r2.1 < 1) then
          some ((Delta.mk 0 0 (Point.mk 0 0) (A4.mk (Field.mk 0 ByteArray.empty) (Field.mk 0 ByteArray.empty) (Field.mk 0 ByteArray.empty) (Field.mk 0 ByteArray.empty))), 0, 11)
        else
          if decide ((31 : Int) < r2.1) then
            some ((Delta.mk 0 0 (Point.mk 0 0) (A4.mk (Field.mk 0 ByteArray.empty) (Field.mk 0 ByteArray.empty) (Field.mk 0 ByteArray.empty) (Field.mk 0 ByteArray.empty))), 0, 11)
          else
            if (bitsI .and .u8 (IntKind.wrap .u8 r2.1) 1) != 0 then
              (F106 n a0 r2.2.1 1048576).bind fun (r3 : (Int × Int × Int)) =>
              if r3.2.2 != 0 then
                some ((Delta.mk 0 0 (Point.mk 0 0) (A4.mk (Field.mk 0 ByteArray.empty) (Field.mk 0 ByteArray.empty) (Field.mk 0 ByteArray.empty) (Field.mk 0 ByteArray.empty))), 0, r3.2.2)
              else
                (F106 n a0 r3.2.1 1048576).bind fun (r4 : (Int × Int × Int)) =>
                if r4.2.2 != 0 then
                  some ((Delta.mk 0 0 (Point.mk 0 0) (A4.mk (Field.mk 0 ByteArray.empty) (Field.mk 0 ByteArray.empty) (Field.mk 0 ByteArray.empty) (Field.mk 0 ByteArray.empty))), 0, r4.2.2)
                else
                  F72_j8 n a0 r1 r2 r4.2.1 r3.1 r4.1
            else
              F72_j8 n a0 r1 r2 r2.2.1 0 0
theorem F72_ok (n : Nat) (a0 : ByteArray) : ∀ r, F72 n a0 = some r → D 72 [.one (ls a0)] [] = some (F72_e r) := by
  refine fn_to (D := D) (n := n + 8) (nt := 147) (rs := pc72_r) (c := pc72_c118) (L := [(0, qs a0)]) (M := []) (k := 0) rfl rfl rfl rfl rfl rfl rfl ?_
  unfold F72
  refine Sim.sr 3 [(4, qj 0), (3, qj 0), (2, qp 2 0)] [(2, some (.cells [lj 0, li .u8 0, lj 0, lj 0, lj 0, ls be, lj 0, ls be, lj 0, ls be, lj 0, ls be]))] (.sr 3 [(5, qp 5 0), (18, .agg [lj 0, li .u8 0, lj 0, lj 0, lj 0, ls be, lj 0, ls be, lj 0, ls be, lj 0, ls be])] [(5, some (.cells [lj 0, li .u8 0, lj 0, lj 0, lj 0, ls be, lj 0, ls be, lj 0, ls be, lj 0, ls be])), (5, some (.cells [lj 0, li .u8 0, lj 0, lj 0, lj 0, ls be, lj 0, ls be, lj 0, ls be, lj 0, ls be]))] (.sr 3 [(6, qp 6 0), (19, .agg [lj 0, li .u8 0, lj 0, lj 0, lj 0, ls be, lj 0, ls be, lj 0, ls be, lj 0, ls be])] [(6, some (.cells [lj 0, li .u8 0, lj 0, lj 0, lj 0, ls be, lj 0, ls be, lj 0, ls be, lj 0, ls be])), (6, some (.cells [lj 0, li .u8 0, lj 0, lj 0, lj 0, ls be, lj 0, ls be, lj 0, ls be, lj 0, ls be]))] (.st 1 [(21, qs a0)] [] (.cl 22 true [[], [], []] 106 [Operand.tmp 21, Operand.const (Value.int IntKind.i64 0), Operand.const (Value.int IntKind.u64 1000000)] none (fun r1 => .tup [qj r1.1, qj r1.2.1, qj r1.2.2]) [qs a0, qj 0, .one (li .u64 1000000)] (F106_ok n a0 0 1000000) (fun r1 => ?_)))))
  refine SimI.rd 7 [(9, qj r1.2.2), (8, qj r1.2.1), (7, qj r1.1), (25, qj r1.2.2), (24, qj r1.2.1), (23, qj r1.1), (20, .tup [qj r1.1, qj r1.2.1, qj r1.2.2])] [] (.thenN (.seq (.sr 2 [(27, qb (r1.2.2 != 0)), (26, qj r1.2.2)] [] (.cond (r1.2.2 != 0) (by kernel_rfl) ?_ ?_))))
  · exact Sim.sr 5 [(4, qj r1.2.2), (3, qj 0), (29, qj r1.2.2), (28, .agg [lj 0, li .u8 0, lj 0, lj 0, lj 0, ls be, lj 0, ls be, lj 0, ls be, lj 0, ls be])] [(2, some (.cells [lj 0, li .u8 0, lj 0, lj 0, lj 0, ls be, lj 0, ls be, lj 0, ls be, lj 0, ls be]))] (.ret (.thenR .fn))
  · refine Sim.skip (.thenN (.st 2 [(32, qj r1.2.1), (31, qs a0)] [] (.cl 33 true [[], [], []] 106 [Operand.tmp 31, Operand.tmp 32, Operand.const (Value.int IntKind.u64 31)] none (fun r2 => .tup [qj r2.1, qj r2.2.1, qj r2.2.2]) [qs a0, qj r1.2.1, .one (li .u64 31)] (F106_ok n a0 r1.2.1 31) (fun r2 => ?_))))
    refine SimI.rd 7 [(9, qj r2.2.2), (8, qj r2.2.1), (10, qj r2.1), (36, qj r2.2.2), (35, qj r2.2.1), (34, qj r2.1), (30, .tup [qj r2.1, qj r2.2.1, qj r2.2.2])] [] (.thenN (.seq (.sr 2 [(38, qb (r2.2.2 != 0)), (37, qj r2.2.2)] [] (.cond (r2.2.2 != 0) (by kernel_rfl) ?_ ?_))))
    · exact Sim.sr 5 [(4, qj r2.2.2), (3, qj 0), (40, qj r2.2.2), (39, .agg [lj 0, li .u8 0, lj 0, lj 0, lj 0, ls be, lj 0, ls be, lj 0, ls be, lj 0, ls be])] [(2, some (.cells [lj 0, li .u8 0, lj 0, lj 0, lj 0, ls be, lj 0, ls be, lj 0, ls be, lj 0, ls be]))] (.ret (.thenR .fn))
    · refine Sim.skip (.thenN (.seq (.st 3 [(43, qb (decide ((1000000 : Int) < r1.1))), (42, qb (decide ((1000000 : Int) < r1.1))), (41, qj r1.1)] [] (.split 43 (decide ((1000000 : Int) < r1.1)) (by kernel_rfl) ?_ ?_))))
      · exact SimI.rd 7 [(50, qb true), (49, .tup []), (48, .tup []), (47, qb true), (46, qb true), (45, .tup []), (44, .tup [])] [] (.thenN (.condT (by kernel_rfl) (.sr 4 [(4, qj 11), (3, qj 0), (51, .agg [lj 0, li .u8 0, lj 0, lj 0, lj 0, ls be, lj 0, ls be, lj 0, ls be, lj 0, ls be])] [(2, some (.cells [lj 0, li .u8 0, lj 0, lj 0, lj 0, ls be, lj 0, ls be, lj 0, ls be, lj 0, ls be]))] (.ret (.thenR .fn)))))
      · refine SimI.rn 4 [(47, qb (decide (r2.1 < 1))), (46, qb (decide (r2.1 < 1))), (45, qb (decide (r2.1 < 1))), (44, qj r2.1)] [] (.split 47 (decide (r2.1 < 1)) (by kernel_rfl) ?_ ?_)
        · exact SimI.rd 3 [(50, qb true), (49, .tup []), (48, .tup [])] [] (.thenN (.condT (by kernel_rfl) (.sr 4 [(4, qj 11), (3, qj 0), (51, .agg [lj 0, li .u8 0, lj 0, lj 0, lj 0, ls be, lj 0, ls be, lj 0, ls be, lj 0, ls be])] [(2, some (.cells [lj 0, li .u8 0, lj 0, lj 0, lj 0, ls be, lj 0, ls be, lj 0, ls be, lj 0, ls be]))] (.ret (.thenR .fn)))))
        · refine SimI.rd 3 [(50, qb (decide ((31 : Int) < r2.1))), (49, qb (decide ((31 : Int) < r2.1))), (48, qj r2.1)] [] (.thenN (.cond (decide ((31 : Int) < r2.1)) (by kernel_rfl) ?_ ?_))
          · exact Sim.sr 4 [(4, qj 11), (3, qj 0), (51, .agg [lj 0, li .u8 0, lj 0, lj 0, lj 0, ls be, lj 0, ls be, lj 0, ls be, lj 0, ls be])] [(2, some (.cells [lj 0, li .u8 0, lj 0, lj 0, lj 0, ls be, lj 0, ls be, lj 0, ls be, lj 0, ls be]))] (.ret (.thenR .fn))
          · refine Sim.skip (.thenN (.sr 7 [(56, qp 6 1), (55, qp 6 0), (54, .one (li .u8 (IntKind.wrap .u8 r2.1))), (53, qj r2.1), (52, qj r1.1)] [(6, some (.cells [lj r1.1, li .u8 (IntKind.wrap .u8 r2.1), lj 0, lj 0, lj 0, ls be, lj 0, ls be, lj 0, ls be, lj 0, ls be])), (6, some (.cells [lj r1.1, li .u8 0, lj 0, lj 0, lj 0, ls be, lj 0, ls be, lj 0, ls be, lj 0, ls be]))] (.seq (.sr 4 [(60, qb ((bitsI .and .u8 (IntKind.wrap .u8 r2.1) 1) != 0)), (59, .one (li .u8 (bitsI .and .u8 (IntKind.wrap .u8 r2.1) 1))), (58, .one (li .u8 (IntKind.wrap .u8 r2.1))), (57, qp 6 1)] [] (.cond ((bitsI .and .u8 (IntKind.wrap .u8 r2.1) 1) != 0) (by kernel_rfl) ?_ ?_)))))
            · refine Sim.st 2 [(63, qj r2.2.1), (62, qs a0)] [] (.cl 64 true [[], [], []] 106 [Operand.tmp 62, Operand.tmp 63, Operand.const (Value.int IntKind.u64 1048576)] none (fun r3 => .tup [qj r3.1, qj r3.2.1, qj r3.2.2]) [qs a0, qj r2.2.1, .one (li .u64 1048576)] (F106_ok n a0 r2.2.1 1048576) (fun r3 => ?_))
              refine SimI.rd 9 [(9, qj r3.2.2), (8, qj r3.2.1), (69, qp 6 2), (68, qp 6 2), (67, qj r3.2.2), (66, qj r3.2.1), (65, qj r3.1), (61, .tup [qj r3.1, qj r3.2.1, qj r3.2.2])] [(6, some (.cells [lj r1.1, li .u8 (IntKind.wrap .u8 r2.1), lj r3.1, lj 0, lj 0, ls be, lj 0, ls be, lj 0, ls be, lj 0, ls be]))] (.thenN (.seq (.sr 2 [(71, qb (r3.2.2 != 0)), (70, qj r3.2.2)] [] (.cond (r3.2.2 != 0) (by kernel_rfl) ?_ ?_))))
              · exact Sim.sr 5 [(4, qj r3.2.2), (3, qj 0), (73, qj r3.2.2), (72, .agg [lj 0, li .u8 0, lj 0, lj 0, lj 0, ls be, lj 0, ls be, lj 0, ls be, lj 0, ls be])] [(2, some (.cells [lj 0, li .u8 0, lj 0, lj 0, lj 0, ls be, lj 0, ls be, lj 0, ls be, lj 0, ls be]))] (.ret (.thenR (.thenR .fn)))
              · refine Sim.skip (.thenN (.st 2 [(76, qj r3.2.1), (75, qs a0)] [] (.cl 77 true [[], [], []] 106 [Operand.tmp 75, Operand.tmp 76, Operand.const (Value.int IntKind.u64 1048576)] none (fun r4 => .tup [qj r4.1, qj r4.2.1, qj r4.2.2]) [qs a0, qj r3.2.1, .one (li .u64 1048576)] (F106_ok n a0 r3.2.1 1048576) (fun r4 => ?_))))
                refine SimI.rd 9 [(9, qj r4.2.2), (8, qj r4.2.1), (82, qp 6 3), (81, qp 6 2), (80, qj r4.2.2), (79, qj r4.2.1), (78, qj r4.1), (74, .tup [qj r4.1, qj r4.2.1, qj r4.2.2])] [(6, some (.cells [lj r1.1, li .u8 (IntKind.wrap .u8 r2.1), lj r3.1, lj r4.1, lj 0, ls be, lj 0, ls be, lj 0, ls be, lj 0, ls be]))] (.thenN (.sr 2 [(84, qb (r4.2.2 != 0)), (83, qj r4.2.2)] [] (.cond (r4.2.2 != 0) (by kernel_rfl) ?_ ?_)))
                · exact Sim.sr 5 [(4, qj r4.2.2), (3, qj 0), (86, qj r4.2.2), (85, .agg [lj 0, li .u8 0, lj 0, lj 0, lj 0, ls be, lj 0, ls be, lj 0, ls be, lj 0, ls be])] [(2, some (.cells [lj 0, li .u8 0, lj 0, lj 0, lj 0, ls be, lj 0, ls be, lj 0, ls be, lj 0, ls be]))] (.ret (.thenR .fn))
                · refine Sim.skip (.thenN (.pr [0, 2, 5, 6, 8] [2, 5, 6] [] [(0, qs a0), (2, qp 2 0), (5, qp 5 0), (6, qp 6 0), (8, qj r4.2.1)] [(2, some (.cells [lj 0, li .u8 0, lj 0, lj 0, lj 0, ls be, lj 0, ls be, lj 0, ls be, lj 0, ls be])), (5, some (.cells [lj 0, li .u8 0, lj 0, lj 0, lj 0, ls be, lj 0, ls be, lj 0, ls be, lj 0, ls be])), (6, some (.cells [lj r1.1, li .u8 (IntKind.wrap .u8 r2.1), lj r3.1, lj r4.1, lj 0, ls be, lj 0, ls be, lj 0, ls be, lj 0, ls be]))] ?_))
                  exact F72_j8_ok n a0 r1 r2 r4.2.1 r3.1 r4.1
            · refine Sim.skip (.thenN (.pr [0, 2, 5, 6, 8] [2, 5, 6] [] [(0, qs a0), (2, qp 2 0), (5, qp 5 0), (6, qp 6 0), (8, qj r2.2.1)] [(2, some (.cells [lj 0, li .u8 0, lj 0, lj 0, lj 0, ls be, lj 0, ls be, lj 0, ls be, lj 0, ls be])), (5, some (.cells [lj 0, li .u8 0, lj 0, lj 0, lj 0, ls be, lj 0, ls be, lj 0, ls be, lj 0, ls be])), (6, some (.cells [lj r1.1, li .u8 (IntKind.wrap .u8 r2.1), lj 0, lj 0, lj 0, ls be, lj 0, ls be, lj 0, ls be, lj 0, ls be]))] ?_))
              exact F72_j8_ok n a0 r1 r2 r2.2.1 0 0


-- 31: vedette/vedetteref6.ReadThing
def F31_e : (Thing × Int × Int) → PV × List Ob := fun r => (.tup [.agg (Thing.cells r.1), .one (li .i64 r.2.1), .one (li .i64 r.2.2)], [])
def F31 (n : Nat) (a0 : ByteArray) : Option (Thing × Int × Int) :=
  (F72 n a0).bind fun (r1 : (Delta × Int × Int)) =>
  if r1.2.2 != 0 then
    some ((Thing.mk 0 (Point.mk 0 0) (A4.mk (Field.mk 0 ByteArray.empty) (Field.mk 0 ByteArray.empty) (Field.mk 0 ByteArray.empty) (Field.mk 0 ByteArray.empty))), 0, r1.2.2)
  else
    if r1.1.Mask != 31 then
      some ((Thing.mk 0 (Point.mk 0 0) (A4.mk (Field.mk 0 ByteArray.empty) (Field.mk 0 ByteArray.empty) (Field.mk 0 ByteArray.empty) (Field.mk 0 ByteArray.empty))), 0, 11)
    else
      some ((Thing.mk r1.1.ID r1.1.At r1.1.F), r1.2.1, 0)
theorem F31_ok (n : Nat) (a0 : ByteArray) : ∀ r, F31 n a0 = some r → D 31 [.one (ls a0)] [] = some (F31_e r) := by
  refine fn_to (D := D) (n := n + 8) (nt := 30) (rs := pc31_r) (c := pc31_c23) (L := [(0, qs a0)]) (M := []) (k := 0) rfl rfl rfl rfl rfl rfl rfl ?_
  unfold F31
  refine Sim.sr 3 [(4, qj 0), (3, qj 0), (2, qp 2 0)] [(2, some (.cells [lj 0, lj 0, lj 0, lj 0, ls be, lj 0, ls be, lj 0, ls be, lj 0, ls be]))] (.st 1 [(9, qs a0)] [] (.cl 10 true [[]] 72 [Operand.tmp 9] none (fun r1 => .tup [.agg (Delta.cells r1.1), qj r1.2.1, qj r1.2.2]) [qs a0] (F72_ok n a0) (fun r1 => ?_)))
  refine SimI.rd 8 [(7, qj r1.2.2), (6, qj r1.2.1), (5, qp 5 0), (13, qj r1.2.2), (12, qj r1.2.1), (11, .agg (Delta.cells r1.1)), (8, .tup [.agg (Delta.cells r1.1), qj r1.2.1, qj r1.2.2])] [(5, some (.cells (Delta.cells r1.1))), (5, some (.cells [lj 0, li .u8 0, lj 0, lj 0, lj 0, ls be, lj 0, ls be, lj 0, ls be, lj 0, ls be]))] (.thenN (.seq (.sr 2 [(15, qb (r1.2.2 != 0)), (14, qj r1.2.2)] [] (.cond (r1.2.2 != 0) (by kernel_rfl) ?_ ?_))))
  · exact Sim.sr 5 [(4, qj r1.2.2), (3, qj 0), (17, qj r1.2.2), (16, .agg [lj 0, lj 0, lj 0, lj 0, ls be, lj 0, ls be, lj 0, ls be, lj 0, ls be])] [(2, some (.cells [lj 0, lj 0, lj 0, lj 0, ls be, lj 0, ls be, lj 0, ls be, lj 0, ls be]))] (.ret (.thenR .fn))
  · refine Sim.skip (.thenN (.seq (.sr 3 [(20, qb (r1.1.Mask != 31)), (19, .one (li .u8 r1.1.Mask)), (18, qp 5 1)] [] (.cond (r1.1.Mask != 31) (by kernel_rfl) ?_ ?_))))
    · exact Sim.sr 4 [(4, qj 11), (3, qj 0), (21, .agg [lj 0, lj 0, lj 0, lj 0, ls be, lj 0, ls be, lj 0, ls be, lj 0, ls be])] [(2, some (.cells [lj 0, lj 0, lj 0, lj 0, ls be, lj 0, ls be, lj 0, ls be, lj 0, ls be]))] (.ret (.thenR .fn))
    · exact Sim.skip (.thenN (.sr 11 [(4, qj 0), (3, qj r1.2.1), (29, qj r1.2.1), (28, .agg [lj r1.1.ID, lj r1.1.At.X, lj r1.1.At.Y, lj r1.1.F.a0.N, ls r1.1.F.a0.Text, lj r1.1.F.a1.N, ls r1.1.F.a1.Text, lj r1.1.F.a2.N, ls r1.1.F.a2.Text, lj r1.1.F.a3.N, ls r1.1.F.a3.Text]), (27, .agg (A4_Field.cells r1.1.F)), (26, qp 5 4), (25, .agg [lj r1.1.At.X, lj r1.1.At.Y]), (24, qp 5 2), (23, qj r1.1.ID), (22, qp 5 0)] [(2, some (.cells [lj r1.1.ID, lj r1.1.At.X, lj r1.1.At.Y, lj r1.1.F.a0.N, ls r1.1.F.a0.Text, lj r1.1.F.a1.N, ls r1.1.F.a1.Text, lj r1.1.F.a2.N, ls r1.1.F.a2.Text, lj r1.1.F.a3.N, ls r1.1.F.a3.Text]))] (.ret .fn)))


-- 96: vedette/vedetteref15.one
def F96_e : (Event × Int × Int) → PV × List Ob := fun r => (.tup [.agg (Event.cells r.1), .one (li .i64 r.2.1), .one (li .i64 r.2.2)], [])
def F96_j6 (n : Nat) (r1 : (Int × Int × Int)) (r4 : (Int × Int × Int)) (i5 : Int) : Option (Event × Int × Int) :=
    some ((Event.mk 3 (IntKind.wrap .i64 (imin r4.1 1000000)) (Thing.mk 0 (Point.mk 0 0) (A4.mk (Field.mk 0 ByteArray.empty) (Field.mk 0 ByteArray.empty) (Field.mk 0 ByteArray.empty) (Field.mk 0 ByteArray.empty))) (Delta.mk 0 0 (Point.mk 0 0) (A4.mk (Field.mk 0 ByteArray.empty) (Field.mk 0 ByteArray.empty) (Field.mk 0 ByteArray.empty) (Field.mk 0 ByteArray.empty)))), IntKind.wrap .i64 (r1.2.1 + r4.2.1), i5)
theorem F96_j6_ok (n : Nat) (r1 : (Int × Int × Int)) (r4 : (Int × Int × Int)) (i5 : Int) : Sim Try.prog D (n + 8) pc96_c32 [(2, qp 2 0), (6, qj r1.2.1), (14, .one (li .u64 r4.1)), (15, qj r4.2.1), (16, qj i5)] [(2, some (.cells [lj 0, lj 0, lj 0, lj 0, lj 0, lj 0, ls be, lj 0, ls be, lj 0, ls be, lj 0, ls be, lj 0, li .u8 0, lj 0, lj 0, lj 0, ls be, lj 0, ls be, lj 0, ls be, lj 0, ls be]))] (F96_j6 n r1 r4 i5) (QB 0 (QT Try.prog D (n + 8) pc96_c46 (QF false pc96_r 0 F96_e))) := by
    unfold F96_j6
    exact Sim.seq (.rg [(2, qp 2 0), (6, qj r1.2.1), (14, .one (li .u64 r4.1)), (15, qj r4.2.1), (16, qj i5)] [(2, some (.cells [lj 0, lj 0, lj 0, lj 0, lj 0, lj 0, ls be, lj 0, ls be, lj 0, ls be, lj 0, ls be, lj 0, li .u8 0, lj 0, lj 0, lj 0, ls be, lj 0, ls be, lj 0, ls be, lj 0, ls be]))] (.rd 11 [(4, qj i5), (3, qj (IntKind.wrap .i64 (r1.2.1 + r4.2.1))), (87, qj i5), (86, qj (IntKind.wrap .i64 (r1.2.1 + r4.2.1))), (85, qj r4.2.1), (84, qj r1.2.1), (83, .agg [lj 3, lj (IntKind.wrap .i64 (imin r4.1 1000000)), lj 0, lj 0, lj 0, lj 0, ls be, lj 0, ls be, lj 0, ls be, lj 0, ls be, lj 0, li .u8 0, lj 0, lj 0, lj 0, ls be, lj 0, ls be, lj 0, ls be, lj 0, ls be]), (82, qj (IntKind.wrap .i64 (imin r4.1 1000000))), (81, .one (li .u64 (imin r4.1 1000000))), (80, .one (li .u64 r4.1))] [(2, some (.cells [lj 3, lj (IntKind.wrap .i64 (imin r4.1 1000000)), lj 0, lj 0, lj 0, lj 0, ls be, lj 0, ls be, lj 0, ls be, lj 0, ls be, lj 0, li .u8 0, lj 0, lj 0, lj 0, ls be, lj 0, ls be, lj 0, ls be, lj 0, ls be]))] (.thenN (.ret (.blockR (.thenR .fn))))))

def F96 (n : Nat) (a0 : ByteArray) : Option (Event × Int × Int) :=
  (F74 n a0).bind fun (r1 : (Int × Int × Int)) =>
  if r1.2.2 != 0 then
    some ((Event.mk 0 0 (Thing.mk 0 (Point.mk 0 0) (A4.mk (Field.mk 0 ByteArray.empty) (Field.mk 0 ByteArray.empty) (Field.mk 0 ByteArray.empty) (Field.mk 0 ByteArray.empty))) (Delta.mk 0 0 (Point.mk 0 0) (A4.mk (Field.mk 0 ByteArray.empty) (Field.mk 0 ByteArray.empty) (Field.mk 0 ByteArray.empty) (Field.mk 0 ByteArray.empty)))), 0, r1.2.2)
  else
    if r1.1 == 1 then
      if 0 ≤ (r1.2.1 : Int) ∧ (r1.2.1 : Int) ≤ (a0.size : Int) then
        (F31 n (a0.extract r1.2.1.toNat a0.size)).bind fun (r2 : (Thing × Int × Int)) =>
        some ((Event.mk 1 r2.1.ID r2.1 (Delta.mk 0 0 (Point.mk 0 0) (A4.mk (Field.mk 0 ByteArray.empty) (Field.mk 0 ByteArray.empty) (Field.mk 0 ByteArray.empty) (Field.mk 0 ByteArray.empty)))), IntKind.wrap .i64 (r1.2.1 + r2.2.1), r2.2.2)
      else none
    else
      if r1.1 == 2 then
        if 0 ≤ (r1.2.1 : Int) ∧ (r1.2.1 : Int) ≤ (a0.size : Int) then
          (F72 n (a0.extract r1.2.1.toNat a0.size)).bind fun (r3 : (Delta × Int × Int)) =>
          some ((Event.mk 2 r3.1.ID (Thing.mk 0 (Point.mk 0 0) (A4.mk (Field.mk 0 ByteArray.empty) (Field.mk 0 ByteArray.empty) (Field.mk 0 ByteArray.empty) (Field.mk 0 ByteArray.empty))) r3.1), IntKind.wrap .i64 (r1.2.1 + r3.2.1), r3.2.2)
        else none
      else
        if r1.1 == 3 then
          if 0 ≤ (r1.2.1 : Int) ∧ (r1.2.1 : Int) ≤ (a0.size : Int) then
            (F74 n (a0.extract r1.2.1.toNat a0.size)).bind fun (r4 : (Int × Int × Int)) =>
            if r4.2.2 == 0 then
              if decide ((1000000 : Int) < r4.1) then
                F96_j6 n r1 r4 11
              else
                F96_j6 n r1 r4 r4.2.2
            else
              F96_j6 n r1 r4 r4.2.2
          else none
        else
          some ((Event.mk 0 0 (Thing.mk 0 (Point.mk 0 0) (A4.mk (Field.mk 0 ByteArray.empty) (Field.mk 0 ByteArray.empty) (Field.mk 0 ByteArray.empty) (Field.mk 0 ByteArray.empty))) (Delta.mk 0 0 (Point.mk 0 0) (A4.mk (Field.mk 0 ByteArray.empty) (Field.mk 0 ByteArray.empty) (Field.mk 0 ByteArray.empty) (Field.mk 0 ByteArray.empty)))), 0, 11)
theorem F96_ok (n : Nat) (a0 : ByteArray) : ∀ r, F96 n a0 = some r → D 96 [.one (ls a0)] [] = some (F96_e r) := by
  refine fn_to (D := D) (n := n + 8) (nt := 89) (rs := pc96_r) (c := pc96_c50) (L := [(0, qs a0)]) (M := []) (k := 0) rfl rfl rfl rfl rfl rfl rfl ?_
  unfold F96
  refine Sim.sr 3 [(4, qj 0), (3, qj 0), (2, qp 2 0)] [(2, some (.cells [lj 0, lj 0, lj 0, lj 0, lj 0, lj 0, ls be, lj 0, ls be, lj 0, ls be, lj 0, ls be, lj 0, li .u8 0, lj 0, lj 0, lj 0, ls be, lj 0, ls be, lj 0, ls be, lj 0, ls be]))] (.st 1 [(18, qs a0)] [] (.cl 19 true [[]] 74 [Operand.tmp 18] none (fun r1 => .tup [.one (li .u64 r1.1), qj r1.2.1, qj r1.2.2]) [qs a0] (F74_ok n a0) (fun r1 => ?_)))
  refine SimI.rd 7 [(7, qj r1.2.2), (6, qj r1.2.1), (5, .one (li .u64 r1.1)), (22, qj r1.2.2), (21, qj r1.2.1), (20, .one (li .u64 r1.1)), (17, .tup [.one (li .u64 r1.1), qj r1.2.1, qj r1.2.2])] [] (.thenN (.seq (.sr 2 [(24, qb (r1.2.2 != 0)), (23, qj r1.2.2)] [] (.cond (r1.2.2 != 0) (by kernel_rfl) ?_ ?_))))
  · exact Sim.sr 5 [(4, qj r1.2.2), (3, qj 0), (26, qj r1.2.2), (25, .agg [lj 0, lj 0, lj 0, lj 0, lj 0, lj 0, ls be, lj 0, ls be, lj 0, ls be, lj 0, ls be, lj 0, li .u8 0, lj 0, lj 0, lj 0, ls be, lj 0, ls be, lj 0, ls be, lj 0, ls be])] [(2, some (.cells [lj 0, lj 0, lj 0, lj 0, lj 0, lj 0, ls be, lj 0, ls be, lj 0, ls be, lj 0, ls be, lj 0, li .u8 0, lj 0, lj 0, lj 0, ls be, lj 0, ls be, lj 0, ls be, lj 0, ls be]))] (.ret (.thenR .fn))
  · refine Sim.skip (.thenN (.seq (.sr 1 [(27, .one (li .u64 r1.1))] [] (.block (.sr 2 [(28, qb (r1.1 == 1)), (29, qb (r1.1 == 1))] [] (.cond (r1.1 == 1) (by kernel_rfl) ?_ ?_))))))
    · refine Sim.st 2 [(32, qj r1.2.1), (31, qs a0)] [] (.guard (c := 0 ≤ (r1.2.1 : Int) ∧ (r1.2.1 : Int) ≤ (a0.size : Int)) ⟨some 33, POp.prim (Prim.slice 9 true false) [Operand.tmp 31, Operand.tmp 32], none, []⟩ [(33, qs (a0.extract r1.2.1.toNat a0.size))] [] (by kernel_rfl) (fun hc => pOp_eff (by kernel_rfl) (by kernel_rfl) (eff_prim (by kernel_rfl) (pr_cutL (s := a0) (k := .i64) (a := r1.2.1) Try.underlying9 hc))) (.cl 34 true [[]] 31 [Operand.tmp 33] none (fun r2 => .tup [.agg (Thing.cells r2.1), qj r2.2.1, qj r2.2.2]) [qs (a0.extract r1.2.1.toNat a0.size)] (F31_ok n (a0.extract r1.2.1.toNat a0.size)) (fun r2 => ?_)))
      exact SimI.rd 8 [(10, qj r2.2.2), (9, qj r2.2.1), (8, qp 8 0), (37, qj r2.2.2), (36, qj r2.2.1), (35, .agg (Thing.cells r2.1)), (30, .tup [.agg (Thing.cells r2.1), qj r2.2.1, qj r2.2.2])] [(8, some (.cells (Thing.cells r2.1))), (8, some (.cells [lj 0, lj 0, lj 0, lj 0, ls be, lj 0, ls be, lj 0, ls be, lj 0, ls be]))] (.thenN (.sr 11 [(4, qj r2.2.2), (3, qj (IntKind.wrap .i64 (r1.2.1 + r2.2.1))), (45, qj r2.2.2), (44, qj (IntKind.wrap .i64 (r1.2.1 + r2.2.1))), (43, qj r2.2.1), (42, qj r1.2.1), (41, .agg [lj 1, lj r2.1.ID, lj r2.1.ID, lj r2.1.At.X, lj r2.1.At.Y, lj r2.1.F.a0.N, ls r2.1.F.a0.Text, lj r2.1.F.a1.N, ls r2.1.F.a1.Text, lj r2.1.F.a2.N, ls r2.1.F.a2.Text, lj r2.1.F.a3.N, ls r2.1.F.a3.Text, lj 0, li .u8 0, lj 0, lj 0, lj 0, ls be, lj 0, ls be, lj 0, ls be, lj 0, ls be]), (40, .agg (Thing.cells r2.1)), (39, qj r2.1.ID), (38, qp 8 0)] [(2, some (.cells [lj 1, lj r2.1.ID, lj r2.1.ID, lj r2.1.At.X, lj r2.1.At.Y, lj r2.1.F.a0.N, ls r2.1.F.a0.Text, lj r2.1.F.a1.N, ls r2.1.F.a1.Text, lj r2.1.F.a2.N, ls r2.1.F.a2.Text, lj r2.1.F.a3.N, ls r2.1.F.a3.Text, lj 0, li .u8 0, lj 0, lj 0, lj 0, ls be, lj 0, ls be, lj 0, ls be, lj 0, ls be]))] (.ret (.blockR (.thenR .fn)))))
    · refine Sim.sr 2 [(46, qb (r1.1 == 2)), (47, qb (r1.1 == 2))] [] (.cond (r1.1 == 2) (by kernel_rfl) ?_ ?_)
      · refine Sim.st 2 [(50, qj r1.2.1), (49, qs a0)] [] (.guard (c := 0 ≤ (r1.2.1 : Int) ∧ (r1.2.1 : Int) ≤ (a0.size : Int)) ⟨some 51, POp.prim (Prim.slice 9 true false) [Operand.tmp 49, Operand.tmp 50], none, []⟩ [(51, qs (a0.extract r1.2.1.toNat a0.size))] [] (by kernel_rfl) (fun hc => pOp_eff (by kernel_rfl) (by kernel_rfl) (eff_prim (by kernel_rfl) (pr_cutL (s := a0) (k := .i64) (a := r1.2.1) Try.underlying9 hc))) (.cl 52 true [[]] 72 [Operand.tmp 51] none (fun r3 => .tup [.agg (Delta.cells r3.1), qj r3.2.1, qj r3.2.2]) [qs (a0.extract r1.2.1.toNat a0.size)] (F72_ok n (a0.extract r1.2.1.toNat a0.size)) (fun r3 => ?_)))
        exact SimI.rd 8 [(13, qj r3.2.2), (12, qj r3.2.1), (11, qp 11 0), (55, qj r3.2.2), (54, qj r3.2.1), (53, .agg (Delta.cells r3.1)), (48, .tup [.agg (Delta.cells r3.1), qj r3.2.1, qj r3.2.2])] [(11, some (.cells (Delta.cells r3.1))), (11, some (.cells [lj 0, li .u8 0, lj 0, lj 0, lj 0, ls be, lj 0, ls be, lj 0, ls be, lj 0, ls be]))] (.thenN (.sr 11 [(4, qj r3.2.2), (3, qj (IntKind.wrap .i64 (r1.2.1 + r3.2.1))), (63, qj r3.2.2), (62, qj (IntKind.wrap .i64 (r1.2.1 + r3.2.1))), (61, qj r3.2.1), (60, qj r1.2.1), (59, .agg [lj 2, lj r3.1.ID, lj 0, lj 0, lj 0, lj 0, ls be, lj 0, ls be, lj 0, ls be, lj 0, ls be, lj r3.1.ID, li .u8 r3.1.Mask, lj r3.1.At.X, lj r3.1.At.Y, lj r3.1.F.a0.N, ls r3.1.F.a0.Text, lj r3.1.F.a1.N, ls r3.1.F.a1.Text, lj r3.1.F.a2.N, ls r3.1.F.a2.Text, lj r3.1.F.a3.N, ls r3.1.F.a3.Text]), (58, .agg (Delta.cells r3.1)), (57, qj r3.1.ID), (56, qp 11 0)] [(2, some (.cells [lj 2, lj r3.1.ID, lj 0, lj 0, lj 0, lj 0, ls be, lj 0, ls be, lj 0, ls be, lj 0, ls be, lj r3.1.ID, li .u8 r3.1.Mask, lj r3.1.At.X, lj r3.1.At.Y, lj r3.1.F.a0.N, ls r3.1.F.a0.Text, lj r3.1.F.a1.N, ls r3.1.F.a1.Text, lj r3.1.F.a2.N, ls r3.1.F.a2.Text, lj r3.1.F.a3.N, ls r3.1.F.a3.Text]))] (.ret (.blockR (.thenR .fn)))))
      · refine Sim.sr 2 [(64, qb (r1.1 == 3)), (65, qb (r1.1 == 3))] [] (.cond (r1.1 == 3) (by kernel_rfl) ?_ ?_)
        · refine Sim.st 2 [(68, qj r1.2.1), (67, qs a0)] [] (.guard (c := 0 ≤ (r1.2.1 : Int) ∧ (r1.2.1 : Int) ≤ (a0.size : Int)) ⟨some 69, POp.prim (Prim.slice 9 true false) [Operand.tmp 67, Operand.tmp 68], none, []⟩ [(69, qs (a0.extract r1.2.1.toNat a0.size))] [] (by kernel_rfl) (fun hc => pOp_eff (by kernel_rfl) (by kernel_rfl) (eff_prim (by kernel_rfl) (pr_cutL (s := a0) (k := .i64) (a := r1.2.1) Try.underlying9 hc))) (.cl 70 true [[]] 74 [Operand.tmp 69] none (fun r4 => .tup [.one (li .u64 r4.1), qj r4.2.1, qj r4.2.2]) [qs (a0.extract r1.2.1.toNat a0.size)] (F74_ok n (a0.extract r1.2.1.toNat a0.size)) (fun r4 => ?_)))
          refine SimI.rd 7 [(16, qj r4.2.2), (15, qj r4.2.1), (14, .one (li .u64 r4.1)), (73, qj r4.2.2), (72, qj r4.2.1), (71, .one (li .u64 r4.1)), (66, .tup [.one (li .u64 r4.1), qj r4.2.1, qj r4.2.2])] [] (.thenN (.seq (.st 3 [(76, qb (r4.2.2 == 0)), (75, qb (r4.2.2 == 0)), (74, qj r4.2.2)] [] (.split 76 (r4.2.2 == 0) (by kernel_rfl) ?_ ?_))))
          · refine SimI.rd 3 [(79, qb (decide ((1000000 : Int) < r4.1))), (78, qb (decide ((1000000 : Int) < r4.1))), (77, .one (li .u64 r4.1))] [] (.thenN (.cond (decide ((1000000 : Int) < r4.1)) (by kernel_rfl) ?_ ?_))
            · refine Sim.region0 (.rd 1 [(16, qj 11)] [] (.thenN (.pr [2, 6, 14, 15, 16] [2] [] [(2, qp 2 0), (6, qj r1.2.1), (14, .one (li .u64 r4.1)), (15, qj r4.2.1), (16, qj 11)] [(2, some (.cells [lj 0, lj 0, lj 0, lj 0, lj 0, lj 0, ls be, lj 0, ls be, lj 0, ls be, lj 0, ls be, lj 0, li .u8 0, lj 0, lj 0, lj 0, ls be, lj 0, ls be, lj 0, ls be, lj 0, ls be]))] ?_)))
              exact F96_j6_ok n r1 r4 11
            · refine Sim.skip (.thenN (.pr [2, 6, 14, 15, 16] [2] [] [(2, qp 2 0), (6, qj r1.2.1), (14, .one (li .u64 r4.1)), (15, qj r4.2.1), (16, qj r4.2.2)] [(2, some (.cells [lj 0, lj 0, lj 0, lj 0, lj 0, lj 0, ls be, lj 0, ls be, lj 0, ls be, lj 0, ls be, lj 0, li .u8 0, lj 0, lj 0, lj 0, ls be, lj 0, ls be, lj 0, ls be, lj 0, ls be]))] ?_))
              exact F96_j6_ok n r1 r4 r4.2.2
          · refine SimI.rd 3 [(79, qb false), (78, .tup []), (77, .tup [])] [] (.thenN (.condF (by kernel_rfl) (.skip (.thenN (.pr [2, 6, 14, 15, 16] [2] [] [(2, qp 2 0), (6, qj r1.2.1), (14, .one (li .u64 r4.1)), (15, qj r4.2.1), (16, qj r4.2.2)] [(2, some (.cells [lj 0, lj 0, lj 0, lj 0, lj 0, lj 0, ls be, lj 0, ls be, lj 0, ls be, lj 0, ls be, lj 0, li .u8 0, lj 0, lj 0, lj 0, ls be, lj 0, ls be, lj 0, ls be, lj 0, ls be]))] ?_)))))
            exact F96_j6_ok n r1 r4 r4.2.2
        · exact Sim.skip (.blockN (.thenN (.sr 4 [(4, qj 11), (3, qj 0), (88, .agg [lj 0, lj 0, lj 0, lj 0, lj 0, lj 0, ls be, lj 0, ls be, lj 0, ls be, lj 0, ls be, lj 0, li .u8 0, lj 0, lj 0, lj 0, ls be, lj 0, ls be, lj 0, ls be, lj 0, ls be])] [(2, some (.cells [lj 0, lj 0, lj 0, lj 0, lj 0, lj 0, ls be, lj 0, ls be, lj 0, ls be, lj 0, ls be, lj 0, li .u8 0, lj 0, lj 0, lj 0, ls be, lj 0, ls be, lj 0, ls be, lj 0, ls be]))] (.ret .fn))))


-- 55: vedette/vedetteref15.Read
def F55_e : ((List Event) × Int × Int) → PV × List Ob := fun r => (.tup [.one (vw Event.cod r.1), .one (li .i64 r.2.1), .one (li .i64 r.2.2)], [])
def F55_l11 (n : Nat) (a0 : ByteArray) (r1 : (Int × Int × Int)) : Nat → Int → (List Event) → Int → Option ((List Event) × Int × Int)
  | 0, _, _, _ => none
  | m + 1, ii8, l9, i10 =>
    if decide (i10 < IntKind.wrap .i64 r1.1) then
      if 0 ≤ (ii8 : Int) ∧ (ii8 : Int) ≤ (a0.size : Int) then
        (F96 n (a0.extract ii8.toNat a0.size)).bind fun (r12 : (Event × Int × Int)) =>
        if r12.2.2 != 0 then
          some (([] : List Event), 0, r12.2.2)
        else
          if ((l9).length + 1) * 264 ≤ maxCells ∧ (l9).length + 1 ≤ maxCells then
            (F55_l11 n a0 r1 m) (IntKind.wrap .i64 (ii8 + r12.2.1)) (l9 ++ [r12.1]) (IntKind.wrap .i64 (i10 + 1))
          else none
      else none
    else
      some (l9, ii8, 0)
theorem F55_l11_ok (n : Nat) (a0 : ByteArray) (r1 : (Int × Int × Int)) : ∀ (m : Nat) (ii8 : Int) (l9 : (List Event)) (i10 : Int), SimL Try.prog D (n + 8) m pc55_c40 [(0, qs a0), (5, .one (li .u64 r1.1)), (6, qj ii8), (8, .one (.osl 100008 0 0 (l9).length)), (9, qj i10)] [(100008, some (.arr 67 Event.cod.sz 0 (l9).length (getOf Event.cod l9)))] (F55_l11 n a0 r1 m ii8 l9 i10) (QB 0 (QT Try.prog D (n + 8) pc55_c46 (QF false pc55_r 0 F55_e))) := by
  intro m_l11
  induction m_l11 with
  | zero => intro ii8 l9 i10; exact SimL.zero'  rfl
  | succ m_l11 ih_l11 =>
    intro ii8 l9 i10
    refine SimL.succ ?_
    unfold F55_l11
    refine Sim.seq (.seq (.rg [(0, qs a0), (5, .one (li .u64 r1.1)), (6, qj ii8), (8, .one (.osl 100008 0 0 (l9).length)), (9, qj i10)] [(100008, some (.arr 67 Event.cod.sz 0 (l9).length (getOf Event.cod l9)))] (.rd 4 [(27, qb (decide (i10 < IntKind.wrap .i64 r1.1))), (26, qj (IntKind.wrap .i64 r1.1)), (25, .one (li .u64 r1.1)), (24, qj i10)] [] (.thenN (.cond (decide (i10 < IntKind.wrap .i64 r1.1)) (by kernel_rfl) ?_ ?_)))))
    · refine Sim.skip (.thenN (.seq (.block (.st 2 [(32, qj ii8), (31, qs a0)] [] (.guard (c := 0 ≤ (ii8 : Int) ∧ (ii8 : Int) ≤ (a0.size : Int)) ⟨some 33, POp.prim (Prim.slice 9 true false) [Operand.tmp 31, Operand.tmp 32], none, []⟩ [(33, qs (a0.extract ii8.toNat a0.size))] [] (by kernel_rfl) (fun hc => pOp_eff (by kernel_rfl) (by kernel_rfl) (eff_prim (by kernel_rfl) (pr_cutL (s := a0) (k := .i64) (a := ii8) Try.underlying9 hc))) (.cl 34 true [[]] 96 [Operand.tmp 33] none (fun r12 => .tup [.agg (Event.cells r12.1), qj r12.2.1, qj r12.2.2]) [qs (a0.extract ii8.toNat a0.size)] (F96_ok n (a0.extract ii8.toNat a0.size)) (fun r12 => ?_)))))))
      refine SimI.rd 8 [(12, qj r12.2.2), (11, qj r12.2.1), (10, qp 10 0), (37, qj r12.2.2), (36, qj r12.2.1), (35, .agg (Event.cells r12.1)), (30, .tup [.agg (Event.cells r12.1), qj r12.2.1, qj r12.2.2])] [(10, some (.cells (Event.cells r12.1))), (10, some (.cells [lj 0, lj 0, lj 0, lj 0, lj 0, lj 0, ls be, lj 0, ls be, lj 0, ls be, lj 0, ls be, lj 0, li .u8 0, lj 0, lj 0, lj 0, ls be, lj 0, ls be, lj 0, ls be, lj 0, ls be]))] (.thenN (.seq (.sr 2 [(39, qb (r12.2.2 != 0)), (38, qj r12.2.2)] [] (.cond (r12.2.2 != 0) (by kernel_rfl) ?_ ?_))))
      · exact Sim.sr 4 [(4, qj r12.2.2), (3, qj 0), (2, .one (lnil)), (40, qj r12.2.2)] [] (.ret (.thenR (.blockR (.thenR (.loopR (.blockR (.thenR .fn)))))))
      · refine Sim.skip (.thenN (.st 3 [(43, .one (vw Event.cod [r12.1])), (42, .agg (Event.cells r12.1)), (41, .one (.osl 100008 0 0 (l9).length))] [] (.guard (c := ((l9).length + 1) * 264 ≤ maxCells ∧ (l9).length + 1 ≤ maxCells) ⟨some 44, POp.app 100008 67 25 264 (Operand.tmp 41) (Operand.tmp 43), none, []⟩ [(44, .one (.osl 100008 (0 + 1) 0 ((l9 ++ [r12.1])).length))] [(100008, some (.arr 67 Event.cod.sz (0 + 1) ((l9 ++ [r12.1])).length (getOf Event.cod (l9 ++ [r12.1]))))] (by kernel_rfl) (fun hc => pOp_eff (by kernel_rfl) (by kernel_rfl) (eff_appO (c := Event.cod) (g := 0) (l := l9) (a := r12.1) (by kernel_rfl) (by kernel_rfl) (by kernel_rfl) (by kernel_rfl) hc)) (.rd 1 [(8, .one (.osl 100008 (0 + 1) 0 ((l9 ++ [r12.1])).length))] [] (.thenN (.region0 (.rd 4 [(6, qj (IntKind.wrap .i64 (ii8 + r12.2.1))), (47, qj (IntKind.wrap .i64 (ii8 + r12.2.1))), (46, qj r12.2.1), (45, qj ii8)] [] (.blockN (.thenN (.region0 (.rd 3 [(9, qj (IntKind.wrap .i64 (i10 + 1))), (29, qj (IntKind.wrap .i64 (i10 + 1))), (28, qj i10)] [] (.loopN (.pr [0, 5, 6, 8, 9] [10, 100008] [(false, 8, 0, 100008, 67, 25)] [(0, qs a0), (5, .one (li .u64 r1.1)), (6, qj (IntKind.wrap .i64 (ii8 + r12.2.1))), (8, .one (.osl 100008 0 0 ((l9 ++ [r12.1])).length)), (9, qj (IntKind.wrap .i64 (i10 + 1)))] [(100008, some (.arr 67 Event.cod.sz 0 ((l9 ++ [r12.1])).length (getOf Event.cod (l9 ++ [r12.1]))))] ?_)))))))))))))
        exact ih_l11 (IntKind.wrap .i64 (ii8 + r12.2.1)) (l9 ++ [r12.1]) (IntKind.wrap .i64 (i10 + 1))
    · exact Sim.exit (.thenX (.loopX (.blockX (.thenN (.sr 5 [(4, qj 0), (3, qj ii8), (2, .one (.osl 100008 0 0 (l9).length)), (49, qj ii8), (48, .one (.osl 100008 0 0 (l9).length))] [] (.ret (.fin (out_of (os := []) (ress_cons (resOf_own (c := Event.cod) (k := 100008) (g := 0) (el := 67) (l := l9) (by kernel_rfl) (by kernel_rfl) (by kernel_rfl)) (ress_cons (v := qj ii8) (by kernel_rfl) (ress_cons (v := qj 0) (by kernel_rfl) (ress_nil)))) (by kernel_rfl) rfl (by kernel_rfl)))))))))

def F55 (n : Nat) (a0 : ByteArray) : Option ((List Event) × Int × Int) :=
  (F74 n a0).bind fun (r1 : (Int × Int × Int)) =>
  if r1.2.2 != 0 then
    some (([] : List Event), 0, r1.2.2)
  else
    if decide ((400 : Int) < r1.1) then
      some (([] : List Event), 0, 13)
    else
      F55_l11 n a0 r1 (n + 8) r1.2.1 ([] : List Event) 0
theorem F55_ok (n : Nat) (a0 : ByteArray) : ∀ r, F55 n a0 = some r → D 55 [.one (ls a0)] [] = some (F55_e r) := by
  refine fn_to (D := D) (n := n + 8) (nt := 50) (rs := pc55_r) (c := pc55_c52) (L := [(0, qs a0)]) (M := []) (k := 0) rfl rfl rfl rfl rfl rfl rfl ?_
  unfold F55
  refine Sim.sr 3 [(4, qj 0), (3, qj 0), (2, .one (lnil))] [] (.st 1 [(14, qs a0)] [] (.cl 15 true [[]] 74 [Operand.tmp 14] none (fun r1 => .tup [.one (li .u64 r1.1), qj r1.2.1, qj r1.2.2]) [qs a0] (F74_ok n a0) (fun r1 => ?_)))
  refine SimI.rd 7 [(7, qj r1.2.2), (6, qj r1.2.1), (5, .one (li .u64 r1.1)), (18, qj r1.2.2), (17, qj r1.2.1), (16, .one (li .u64 r1.1)), (13, .tup [.one (li .u64 r1.1), qj r1.2.1, qj r1.2.2])] [] (.thenN (.seq (.sr 2 [(20, qb (r1.2.2 != 0)), (19, qj r1.2.2)] [] (.cond (r1.2.2 != 0) (by kernel_rfl) ?_ ?_))))
  · exact Sim.sr 4 [(4, qj r1.2.2), (3, qj 0), (2, .one (lnil)), (21, qj r1.2.2)] [] (.ret (.thenR .fn))
  · refine Sim.skip (.thenN (.seq (.sr 2 [(23, qb (decide ((400 : Int) < r1.1))), (22, .one (li .u64 r1.1))] [] (.cond (decide ((400 : Int) < r1.1)) (by kernel_rfl) ?_ ?_))))
    · exact Sim.sr 3 [(4, qj 13), (3, qj 0), (2, .one (lnil))] [] (.ret (.thenR .fn))
    · refine Sim.skip (.thenN (.sr 1 [(8, .one (lnil))] [] (.seq (.sr 1 [(9, qj 0)] [] (.block (.loop (.pr [0, 5, 6, 8, 9] [10, 100008] [(false, 8, 0, 100008, 67, 25)] [(0, qs a0), (5, .one (li .u64 r1.1)), (6, qj r1.2.1), (8, .one (.osl 100008 0 0 (([] : List Event)).length)), (9, qj 0)] [(100008, some (.arr 67 Event.cod.sz 0 (([] : List Event)).length (getOf Event.cod ([] : List Event))))] ?_)))))))
      exact F55_l11_ok n a0 r1 (n + 8) r1.2.1 ([] : List Event) 0


-- 11: vedette/vedettelaw15.EventReads
def F11_e : Bool → PV × List Ob := fun r => (.one (lb r), [])
def F11 (n : Nat) (a0 : ByteArray) : Option Bool :=
  ((some true)).bind fun (r1 : Bool) =>
  if !(r1) then
    some false
  else
    if decide ((800 : Int) < (a0.size : Int)) then
      some true
    else
      (F54 n a0).bind fun (r2 : ((List Event) × Int × Int)) =>
      (F55 n a0).bind fun (r3 : ((List Event) × Int × Int)) =>
      (F50 n r2.1 r3.1).bind fun (r4 : Bool) =>
      if r4 then
        if r2.2.1 == r3.2.1 then
          some (r2.2.2 == r3.2.2)
        else
          some false
      else
        some false
theorem F11_ok (n : Nat) (a0 : ByteArray) : ∀ r, F11 n a0 = some r → D 11 [.one (ls a0)] [] = some (F11_e r) := by
  refine fn_to (D := D) (n := n + 8) (nt := 39) (rs := pc11_r) (c := pc11_c25) (L := [(0, qs a0)]) (M := []) (k := 0) rfl rfl rfl rfl rfl rfl rfl ?_
  unfold F11
  refine Sim.sr 1 [(2, qb false)] [] (.seq (.seq (.region0 (.cl 9 true [] 42 [] none (fun r1 => qb r1) [] (F42_ok n) (fun r1 => ?_)))))
  refine SimI.rd 1 [(10, qb (!(r1)))] [] (.thenN (.cond (!(r1)) (by kernel_rfl) ?_ ?_))
  · exact Sim.sr 1 [(2, qb false)] [] (.ret (.thenR .fn))
  · refine Sim.skip (.thenN (.seq (.sr 3 [(13, qb (decide ((800 : Int) < (a0.size : Int)))), (12, qj (a0.size : Int)), (11, qs a0)] [] (.cond (decide ((800 : Int) < (a0.size : Int))) (by kernel_rfl) ?_ ?_))))
    · exact Sim.sr 1 [(2, qb true)] [] (.ret (.thenR .fn))
    · refine Sim.skip (.thenN (.st 1 [(15, qs a0)] [] (.cl 16 true [[]] 54 [Operand.tmp 15] none (fun r2 => .tup [.one (vw Event.cod r2.1), qj r2.2.1, qj r2.2.2]) [qs a0] (F54_ok n a0) (fun r2 => ?_))))
      refine SimI.rd 7 [(5, qj r2.2.2), (4, qj r2.2.1), (3, .one (vw Event.cod r2.1)), (19, qj r2.2.2), (18, qj r2.2.1), (17, .one (vw Event.cod r2.1)), (14, .tup [.one (vw Event.cod r2.1), qj r2.2.1, qj r2.2.2])] [] (.thenN (.st 1 [(21, qs a0)] [] (.cl 22 true [[]] 55 [Operand.tmp 21] none (fun r3 => .tup [.one (vw Event.cod r3.1), qj r3.2.1, qj r3.2.2]) [qs a0] (F55_ok n a0) (fun r3 => ?_))))
      refine SimI.rd 7 [(8, qj r3.2.2), (7, qj r3.2.1), (6, .one (vw Event.cod r3.1)), (25, qj r3.2.2), (24, qj r3.2.1), (23, .one (vw Event.cod r3.1)), (20, .tup [.one (vw Event.cod r3.1), qj r3.2.1, qj r3.2.2])] [] (.thenN (.st 2 [(27, .one (vw Event.cod r3.1)), (26, .one (vw Event.cod r2.1))] [] (.cl 28 true [[(0, 25)], [(0, 25)]] 50 [Operand.tmp 26, Operand.tmp 27] none (fun r4 => qb r4) [.one (vw Event.cod r2.1), .one (vw Event.cod r3.1)] (F50_ok n r2.1 r3.1) (fun r4 => ?_))))
      refine SimI.rn 1 [(29, qb r4)] [] (.split 29 r4 (by kernel_rfl) ?_ ?_)
      · refine SimI.rn 5 [(34, qb (r2.2.1 == r3.2.1)), (33, qb (r2.2.1 == r3.2.1)), (32, qb (r2.2.1 == r3.2.1)), (31, qj r3.2.1), (30, qj r2.2.1)] [] (.split 34 (r2.2.1 == r3.2.1) (by kernel_rfl) ?_ ?_)
        · exact SimI.rd 5 [(2, qb (r2.2.2 == r3.2.2)), (38, qb (r2.2.2 == r3.2.2)), (37, qb (r2.2.2 == r3.2.2)), (36, qj r3.2.2), (35, qj r2.2.2)] [] (.thenN (.ret .fn))
        · exact SimI.rd 5 [(2, qb false), (38, qb false), (37, .tup []), (36, .tup []), (35, .tup [])] [] (.thenN (.ret .fn))
      · exact SimI.rd 10 [(2, qb false), (38, qb false), (37, .tup []), (36, .tup []), (35, .tup []), (34, qb false), (33, qb false), (32, .tup []), (31, .tup []), (30, .tup [])] [] (.thenN (.ret .fn))


-- 18: vedette/vedetteref6.Is
def F18_e : Bool → PV × List Ob := fun r => (.one (lb r), [])
def F18_u15 (n : Nat) (b14 : Bool) : Option Bool :=
    some b14
theorem F18_u15_ok (n : Nat) (a0 : Thing) (b14 : Bool) : SimL Try.prog D (n + 8) (n + 4) pc18_c13 [(1, qp 1 0), (3, qb b14), (4, qj 4)] [(1, some (.cells (Thing.cells a0)))] (F18_u15 n b14) (QB 0 (QT Try.prog D (n + 8) pc18_c19 (QF false pc18_r 0 F18_e))) := by
    unfold F18_u15
    exact SimL.succ (.seq (.seq (.rg [(1, qp 1 0), (3, qb b14), (4, qj 4)] [(1, some (.cells (Thing.cells a0)))] (.rd 2 [(19, qb false), (18, qj 4)] [] (.thenN (.condF (by kernel_rfl) (.exit (.thenX (.loopX (.blockX (.thenN (.sr 2 [(2, qb b14), (30, qb b14)] [] (.ret .fn)))))))))))))

def F18_u12 (n : Nat) (a0 : Thing) (b11 : Bool) : Option Bool :=
    if b11 then
      (F59 n a0.F.a3).bind fun (r13 : Bool) =>
      F18_u15 n r13
    else
      F18_u15 n false
theorem F18_u12_ok (n : Nat) (a0 : Thing) (b11 : Bool) : SimL Try.prog D (n + 8) (n + 5) pc18_c13 [(1, qp 1 0), (3, qb b11), (4, qj 3)] [(1, some (.cells (Thing.cells a0)))] (F18_u12 n a0 b11) (QB 0 (QT Try.prog D (n + 8) pc18_c19 (QF false pc18_r 0 F18_e))) := by
    unfold F18_u12
    refine SimL.succ (.seq (.seq (.rg [(1, qp 1 0), (3, qb b11), (4, qj 3)] [(1, some (.cells (Thing.cells a0)))] (.rd 2 [(19, qb true), (18, qj 3)] [] (.thenN (.condT (by kernel_rfl) (.skip (.thenN (.seq (.block (.region0 (.rn 2 [(23, qb b11), (22, qb b11)] [] (.split 23 b11 (by kernel_rfl) ?_ ?_)))))))))))))
    · refine SimI.rn 4 [(27, .agg [lj a0.F.a3.N, ls a0.F.a3.Text]), (26, qp 1 9), (25, qp 1 3), (24, qj 3)] [] (.cl 28 true [[]] 59 [Operand.tmp 27] (some (23, true)) (fun r13 => qb r13) [.agg [lj a0.F.a3.N, ls a0.F.a3.Text]] (F59_ok n a0.F.a3) (fun r13 => ?_))
      refine SimI.rd 2 [(3, qb r13), (29, qb r13)] [] (.blockN (.thenN (.region0 (.rd 3 [(4, qj 4), (21, qj 4), (20, qj 3)] [] (.loopN (.pr [1, 3, 4] [1] [] [(1, qp 1 0), (3, qb r13), (4, qj 4)] [(1, some (.cells (Thing.cells a0)))] ?_))))))
      exact F18_u15_ok n a0 r13
    · refine SimI.rd 7 [(3, qb false), (29, qb false), (28, .tup []), (27, .tup []), (26, .tup []), (25, .tup []), (24, .tup [])] [] (.blockN (.thenN (.region0 (.rd 3 [(4, qj 4), (21, qj 4), (20, qj 3)] [] (.loopN (.pr [1, 3, 4] [1] [] [(1, qp 1 0), (3, qb false), (4, qj 4)] [(1, some (.cells (Thing.cells a0)))] ?_))))))
      exact F18_u15_ok n a0 false

def F18_u9 (n : Nat) (a0 : Thing) (b8 : Bool) : Option Bool :=
    if b8 then
      (F59 n a0.F.a2).bind fun (r10 : Bool) =>
      F18_u12 n a0 r10
    else
      F18_u12 n a0 false
theorem F18_u9_ok (n : Nat) (a0 : Thing) (b8 : Bool) : SimL Try.prog D (n + 8) (n + 6) pc18_c13 [(1, qp 1 0), (3, qb b8), (4, qj 2)] [(1, some (.cells (Thing.cells a0)))] (F18_u9 n a0 b8) (QB 0 (QT Try.prog D (n + 8) pc18_c19 (QF false pc18_r 0 F18_e))) := by
    unfold F18_u9
    refine SimL.succ (.seq (.seq (.rg [(1, qp 1 0), (3, qb b8), (4, qj 2)] [(1, some (.cells (Thing.cells a0)))] (.rd 2 [(19, qb true), (18, qj 2)] [] (.thenN (.condT (by kernel_rfl) (.skip (.thenN (.seq (.block (.region0 (.rn 2 [(23, qb b8), (22, qb b8)] [] (.split 23 b8 (by kernel_rfl) ?_ ?_)))))))))))))
    · refine SimI.rn 4 [(27, .agg [lj a0.F.a2.N, ls a0.F.a2.Text]), (26, qp 1 7), (25, qp 1 3), (24, qj 2)] [] (.cl 28 true [[]] 59 [Operand.tmp 27] (some (23, true)) (fun r10 => qb r10) [.agg [lj a0.F.a2.N, ls a0.F.a2.Text]] (F59_ok n a0.F.a2) (fun r10 => ?_))
      refine SimI.rd 2 [(3, qb r10), (29, qb r10)] [] (.blockN (.thenN (.region0 (.rd 3 [(4, qj 3), (21, qj 3), (20, qj 2)] [] (.loopN (.pr [1, 3, 4] [1] [] [(1, qp 1 0), (3, qb r10), (4, qj 3)] [(1, some (.cells (Thing.cells a0)))] ?_))))))
      exact F18_u12_ok n a0 r10
    · refine SimI.rd 7 [(3, qb false), (29, qb false), (28, .tup []), (27, .tup []), (26, .tup []), (25, .tup []), (24, .tup [])] [] (.blockN (.thenN (.region0 (.rd 3 [(4, qj 3), (21, qj 3), (20, qj 2)] [] (.loopN (.pr [1, 3, 4] [1] [] [(1, qp 1 0), (3, qb false), (4, qj 3)] [(1, some (.cells (Thing.cells a0)))] ?_))))))
      exact F18_u12_ok n a0 false

def F18_u6 (n : Nat) (a0 : Thing) (b5 : Bool) : Option Bool :=
    if b5 then
      (F59 n a0.F.a1).bind fun (r7 : Bool) =>
      F18_u9 n a0 r7
    else
      F18_u9 n a0 false
theorem F18_u6_ok (n : Nat) (a0 : Thing) (b5 : Bool) : SimL Try.prog D (n + 8) (n + 7) pc18_c13 [(1, qp 1 0), (3, qb b5), (4, qj 1)] [(1, some (.cells (Thing.cells a0)))] (F18_u6 n a0 b5) (QB 0 (QT Try.prog D (n + 8) pc18_c19 (QF false pc18_r 0 F18_e))) := by
    unfold F18_u6
    refine SimL.succ (.seq (.seq (.rg [(1, qp 1 0), (3, qb b5), (4, qj 1)] [(1, some (.cells (Thing.cells a0)))] (.rd 2 [(19, qb true), (18, qj 1)] [] (.thenN (.condT (by kernel_rfl) (.skip (.thenN (.seq (.block (.region0 (.rn 2 [(23, qb b5), (22, qb b5)] [] (.split 23 b5 (by kernel_rfl) ?_ ?_)))))))))))))
    · refine SimI.rn 4 [(27, .agg [lj a0.F.a1.N, ls a0.F.a1.Text]), (26, qp 1 5), (25, qp 1 3), (24, qj 1)] [] (.cl 28 true [[]] 59 [Operand.tmp 27] (some (23, true)) (fun r7 => qb r7) [.agg [lj a0.F.a1.N, ls a0.F.a1.Text]] (F59_ok n a0.F.a1) (fun r7 => ?_))
      refine SimI.rd 2 [(3, qb r7), (29, qb r7)] [] (.blockN (.thenN (.region0 (.rd 3 [(4, qj 2), (21, qj 2), (20, qj 1)] [] (.loopN (.pr [1, 3, 4] [1] [] [(1, qp 1 0), (3, qb r7), (4, qj 2)] [(1, some (.cells (Thing.cells a0)))] ?_))))))
      exact F18_u9_ok n a0 r7
    · refine SimI.rd 7 [(3, qb false), (29, qb false), (28, .tup []), (27, .tup []), (26, .tup []), (25, .tup []), (24, .tup [])] [] (.blockN (.thenN (.region0 (.rd 3 [(4, qj 2), (21, qj 2), (20, qj 1)] [] (.loopN (.pr [1, 3, 4] [1] [] [(1, qp 1 0), (3, qb false), (4, qj 2)] [(1, some (.cells (Thing.cells a0)))] ?_))))))
      exact F18_u9_ok n a0 false

def F18_j3 (n : Nat) (a0 : Thing) (b2 : Bool) : Option Bool :=
    if b2 then
      (F59 n a0.F.a0).bind fun (r4 : Bool) =>
      F18_u6 n a0 r4
    else
      F18_u6 n a0 false
theorem F18_j3_ok (n : Nat) (a0 : Thing) (b2 : Bool) : Sim Try.prog D (n + 8) pc18_c20 [(1, qp 1 0), (3, qb b2)] [(1, some (.cells (Thing.cells a0)))] (F18_j3 n a0 b2) (QF false pc18_r 0 F18_e) := by
    unfold F18_j3
    refine Sim.seq (.seq (.rg [(1, qp 1 0), (3, qb b2)] [(1, some (.cells (Thing.cells a0)))] (.rd 1 [(4, qj 0)] [] (.thenN (.block (.loop (.succ (.seq (.seq (.rg [(1, qp 1 0), (3, qb b2), (4, qj 0)] [(1, some (.cells (Thing.cells a0)))] (.rd 2 [(19, qb true), (18, qj 0)] [] (.thenN (.condT (by kernel_rfl) (.skip (.thenN (.seq (.block (.region0 (.rn 2 [(23, qb b2), (22, qb b2)] [] (.split 23 b2 (by kernel_rfl) ?_ ?_))))))))))))))))))))
    · refine SimI.rn 4 [(27, .agg [lj a0.F.a0.N, ls a0.F.a0.Text]), (26, qp 1 3), (25, qp 1 3), (24, qj 0)] [] (.cl 28 true [[]] 59 [Operand.tmp 27] (some (23, true)) (fun r4 => qb r4) [.agg [lj a0.F.a0.N, ls a0.F.a0.Text]] (F59_ok n a0.F.a0) (fun r4 => ?_))
      refine SimI.rd 2 [(3, qb r4), (29, qb r4)] [] (.blockN (.thenN (.region0 (.rd 3 [(4, qj 1), (21, qj 1), (20, qj 0)] [] (.loopN (.pr [1, 3, 4] [1] [] [(1, qp 1 0), (3, qb r4), (4, qj 1)] [(1, some (.cells (Thing.cells a0)))] ?_))))))
      exact F18_u6_ok n a0 r4
    · refine SimI.rd 7 [(3, qb false), (29, qb false), (28, .tup []), (27, .tup []), (26, .tup []), (25, .tup []), (24, .tup [])] [] (.blockN (.thenN (.region0 (.rd 3 [(4, qj 1), (21, qj 1), (20, qj 0)] [] (.loopN (.pr [1, 3, 4] [1] [] [(1, qp 1 0), (3, qb false), (4, qj 1)] [(1, some (.cells (Thing.cells a0)))] ?_))))))
      exact F18_u6_ok n a0 false

def F18 (n : Nat) (a0 : Thing) : Option Bool :=
  if decide ((0 : Int) ≤ a0.ID) then
    if decide (a0.ID ≤ 1000000) then
      (F58 n a0.At).bind fun (r1 : Bool) =>
      F18_j3 n a0 r1
    else
      F18_j3 n a0 false
  else
    F18_j3 n a0 false
theorem F18_ok (n : Nat) (a0 : Thing) : ∀ r, F18 n a0 = some r → D 18 [.agg (Thing.cells a0)] [] = some (F18_e r) := by
  refine fn_to (D := D) (n := n + 8) (nt := 31) (rs := pc18_r) (c := pc18_c22) (L := [(0, .agg (Thing.cells a0))]) (M := []) (k := 0) rfl rfl rfl rfl rfl rfl rfl ?_
  unfold F18
  refine Sim.sr 2 [(2, qb false), (1, qp 1 0)] [(1, some (.cells (Thing.cells a0)))] (.st 4 [(8, qb (decide ((0 : Int) ≤ a0.ID))), (7, qb (decide ((0 : Int) ≤ a0.ID))), (6, qj a0.ID), (5, qp 1 0)] [] (.split 8 (decide ((0 : Int) ≤ a0.ID)) (by kernel_rfl) ?_ ?_))
  · refine SimI.rn 5 [(13, qb (decide (a0.ID ≤ 1000000))), (12, qb (decide (a0.ID ≤ 1000000))), (11, qb (decide (a0.ID ≤ 1000000))), (10, qj a0.ID), (9, qp 1 0)] [] (.split 13 (decide (a0.ID ≤ 1000000)) (by kernel_rfl) ?_ ?_)
    · refine SimI.rn 2 [(15, .agg [lj a0.At.X, lj a0.At.Y]), (14, qp 1 1)] [] (.cl 16 true [[]] 58 [Operand.tmp 15] (some (13, true)) (fun r1 => qb r1) [.agg [lj a0.At.X, lj a0.At.Y]] (F58_ok n a0.At) (fun r1 => ?_))
      refine SimI.rd 2 [(3, qb r1), (17, qb r1)] [] (.thenN (.pr [1, 3] [1] [] [(1, qp 1 0), (3, qb r1)] [(1, some (.cells (Thing.cells a0)))] ?_))
      exact F18_j3_ok n a0 r1
    · refine SimI.rd 5 [(3, qb false), (17, qb false), (16, .tup []), (15, .tup []), (14, .tup [])] [] (.thenN (.pr [1, 3] [1] [] [(1, qp 1 0), (3, qb false)] [(1, some (.cells (Thing.cells a0)))] ?_))
      exact F18_j3_ok n a0 false
  · refine SimI.rd 10 [(3, qb false), (17, qb false), (16, .tup []), (15, .tup []), (14, .tup []), (13, qb false), (12, qb false), (11, .tup []), (10, .tup []), (9, .tup [])] [] (.thenN (.pr [1, 3] [1] [] [(1, qp 1 0), (3, qb false)] [(1, some (.cells (Thing.cells a0)))] ?_))
    exact F18_j3_ok n a0 false


-- 20: vedette/vedetteref6.Full
def F20_e : Delta → PV × List Ob := fun r => (.agg (Delta.cells r), [])
def F20 (n : Nat) (a0 : Thing) : Option Delta :=
  some (Delta.mk a0.ID 31 a0.At a0.F)
theorem F20_ok (n : Nat) (a0 : Thing) : ∀ r, F20 n a0 = some r → D 20 [.agg (Thing.cells a0)] [] = some (F20_e r) := by
  refine fn_to (D := D) (n := n + 8) (nt := 10) (rs := pc20_r) (c := pc20_c5) (L := [(0, .agg (Thing.cells a0))]) (M := []) (k := 0) rfl rfl rfl rfl rfl rfl rfl ?_
  unfold F20
  exact Sim.sr 2 [(2, qp 2 0), (1, qp 1 0)] [(2, some (.cells [lj 0, li .u8 0, lj 0, lj 0, lj 0, ls be, lj 0, ls be, lj 0, ls be, lj 0, ls be])), (1, some (.cells (Thing.cells a0)))] (.sr 8 [(9, .agg [lj a0.ID, li .u8 31, lj a0.At.X, lj a0.At.Y, lj a0.F.a0.N, ls a0.F.a0.Text, lj a0.F.a1.N, ls a0.F.a1.Text, lj a0.F.a2.N, ls a0.F.a2.Text, lj a0.F.a3.N, ls a0.F.a3.Text]), (8, .agg (A4_Field.cells a0.F)), (7, qp 1 3), (6, .agg [lj a0.At.X, lj a0.At.Y]), (5, qp 1 1), (4, qj a0.ID), (3, qp 1 0)] [(2, some (.cells [lj a0.ID, li .u8 31, lj a0.At.X, lj a0.At.Y, lj a0.F.a0.N, ls a0.F.a0.Text, lj a0.F.a1.N, ls a0.F.a1.Text, lj a0.F.a2.N, ls a0.F.a2.Text, lj a0.F.a3.N, ls a0.F.a3.Text]))] (.ret .fn))


-- 53: vedette/vedetteref15.Is
def F53_e : Bool → PV × List Ob := fun r => (.one (lb r), [])
def F53 (n : Nat) (a0 : Event) : Option Bool :=
  if a0.Kind == 1 then
    (F18 n a0.Thing).bind fun (r1 : Bool) =>
    if r1 then
      if a0.ID == a0.Thing.ID then
        some (Delta.eqb a0.Delta (Delta.mk 0 0 (Point.mk 0 0) (A4.mk (Field.mk 0 ByteArray.empty) (Field.mk 0 ByteArray.empty) (Field.mk 0 ByteArray.empty) (Field.mk 0 ByteArray.empty))))
      else
        some false
    else
      some false
  else
    if a0.Kind == 2 then
      (F94 n a0.Delta).bind fun (r2 : Bool) =>
      if r2 then
        if a0.ID == a0.Delta.ID then
          some (Thing.eqb a0.Thing (Thing.mk 0 (Point.mk 0 0) (A4.mk (Field.mk 0 ByteArray.empty) (Field.mk 0 ByteArray.empty) (Field.mk 0 ByteArray.empty) (Field.mk 0 ByteArray.empty))))
        else
          some false
      else
        some false
    else
      if a0.Kind == 3 then
        if decide ((0 : Int) ≤ a0.ID) then
          if decide (a0.ID ≤ 1000000) then
            if Thing.eqb a0.Thing (Thing.mk 0 (Point.mk 0 0) (A4.mk (Field.mk 0 ByteArray.empty) (Field.mk 0 ByteArray.empty) (Field.mk 0 ByteArray.empty) (Field.mk 0 ByteArray.empty))) then
              some (Delta.eqb a0.Delta (Delta.mk 0 0 (Point.mk 0 0) (A4.mk (Field.mk 0 ByteArray.empty) (Field.mk 0 ByteArray.empty) (Field.mk 0 ByteArray.empty) (Field.mk 0 ByteArray.empty))))
            else
              some false
          else
            some false
        else
          some false
      else
        some false
theorem F53_ok (n : Nat) (a0 : Event) : ∀ r, F53 n a0 = some r → D 53 [.agg (Event.cells a0)] [] = some (F53_e r) := by
  refine fn_to (D := D) (n := n + 8) (nt := 65) (rs := pc53_r) (c := pc53_c28) (L := [(0, .agg (Event.cells a0))]) (M := []) (k := 0) rfl rfl rfl rfl rfl rfl rfl ?_
  unfold F53
  refine Sim.sr 2 [(2, qb false), (1, qp 1 0)] [(1, some (.cells (Event.cells a0)))] (.seq (.sr 2 [(4, qj a0.Kind), (3, qp 1 0)] [] (.block (.sr 2 [(5, qb (a0.Kind == 1)), (6, qb (a0.Kind == 1))] [] (.cond (a0.Kind == 1) (by kernel_rfl) ?_ ?_)))))
  · refine Sim.st 2 [(8, .agg (Thing.cells a0.Thing)), (7, qp 1 2)] [] (.cl 9 true [[]] 18 [Operand.tmp 8] none (fun r1 => qb r1) [.agg (Thing.cells a0.Thing)] (F18_ok n a0.Thing) (fun r1 => ?_))
    refine SimI.rn 1 [(10, qb r1)] [] (.split 10 r1 (by kernel_rfl) ?_ ?_)
    · refine SimI.rn 8 [(18, qb (a0.ID == a0.Thing.ID)), (17, qb (a0.ID == a0.Thing.ID)), (16, qb (a0.ID == a0.Thing.ID)), (15, qj a0.Thing.ID), (14, qp 1 2), (13, qp 1 2), (12, qj a0.ID), (11, qp 1 1)] [] (.split 18 (a0.ID == a0.Thing.ID) (by kernel_rfl) ?_ ?_)
      · exact SimI.rn 3 [(21, .agg [lj 0, li .u8 0, lj 0, lj 0, lj 0, ls be, lj 0, ls be, lj 0, ls be, lj 0, ls be]), (20, .agg (Delta.cells a0.Delta)), (19, qp 1 13)] [] (.step ⟨some 22, POp.prim (Prim.bin BinOp.eql 35 false false) [Operand.tmp 20, Operand.tmp 21], some (18, true), []⟩ [(22, qb (Delta.eqb a0.Delta (Delta.mk 0 0 (Point.mk 0 0) (A4.mk (Field.mk 0 be) (Field.mk 0 be) (Field.mk 0 be) (Field.mk 0 be)))))] [] (by kernel_rfl) (pOp_eff (by kernel_rfl) (by kernel_rfl) (eff_prim (by kernel_rfl) (Delta_eql a0.Delta (Delta.mk 0 0 (Point.mk 0 0) (A4.mk (Field.mk 0 be) (Field.mk 0 be) (Field.mk 0 be) (Field.mk 0 be))) _ _))) (.rd 2 [(2, qb (Delta.eqb a0.Delta (Delta.mk 0 0 (Point.mk 0 0) (A4.mk (Field.mk 0 be) (Field.mk 0 be) (Field.mk 0 be) (Field.mk 0 be))))), (23, qb (Delta.eqb a0.Delta (Delta.mk 0 0 (Point.mk 0 0) (A4.mk (Field.mk 0 be) (Field.mk 0 be) (Field.mk 0 be) (Field.mk 0 be)))))] [] (.thenN (.ret (.blockR (.thenR .fn))))))
      · exact SimI.rd 6 [(2, qb false), (23, qb false), (22, .tup []), (21, .tup []), (20, .tup []), (19, .tup [])] [] (.thenN (.ret (.blockR (.thenR .fn))))
    · exact SimI.rd 14 [(2, qb false), (23, qb false), (22, .tup []), (21, .tup []), (20, .tup []), (19, .tup []), (18, qb false), (17, qb false), (16, .tup []), (15, .tup []), (14, .tup []), (13, .tup []), (12, .tup []), (11, .tup [])] [] (.thenN (.ret (.blockR (.thenR .fn))))
  · refine Sim.sr 2 [(24, qb (a0.Kind == 2)), (25, qb (a0.Kind == 2))] [] (.cond (a0.Kind == 2) (by kernel_rfl) ?_ ?_)
    · refine Sim.st 2 [(27, .agg (Delta.cells a0.Delta)), (26, qp 1 13)] [] (.cl 28 true [[]] 94 [Operand.tmp 27] none (fun r2 => qb r2) [.agg (Delta.cells a0.Delta)] (F94_ok n a0.Delta) (fun r2 => ?_))
      refine SimI.rn 1 [(29, qb r2)] [] (.split 29 r2 (by kernel_rfl) ?_ ?_)
      · refine SimI.rn 8 [(37, qb (a0.ID == a0.Delta.ID)), (36, qb (a0.ID == a0.Delta.ID)), (35, qb (a0.ID == a0.Delta.ID)), (34, qj a0.Delta.ID), (33, qp 1 13), (32, qp 1 13), (31, qj a0.ID), (30, qp 1 1)] [] (.split 37 (a0.ID == a0.Delta.ID) (by kernel_rfl) ?_ ?_)
        · exact SimI.rn 3 [(40, .agg [lj 0, lj 0, lj 0, lj 0, ls be, lj 0, ls be, lj 0, ls be, lj 0, ls be]), (39, .agg (Thing.cells a0.Thing)), (38, qp 1 2)] [] (.step ⟨some 41, POp.prim (Prim.bin BinOp.eql 28 false false) [Operand.tmp 39, Operand.tmp 40], some (37, true), []⟩ [(41, qb (Thing.eqb a0.Thing (Thing.mk 0 (Point.mk 0 0) (A4.mk (Field.mk 0 be) (Field.mk 0 be) (Field.mk 0 be) (Field.mk 0 be)))))] [] (by kernel_rfl) (pOp_eff (by kernel_rfl) (by kernel_rfl) (eff_prim (by kernel_rfl) (Thing_eql a0.Thing (Thing.mk 0 (Point.mk 0 0) (A4.mk (Field.mk 0 be) (Field.mk 0 be) (Field.mk 0 be) (Field.mk 0 be))) _ _))) (.rd 2 [(2, qb (Thing.eqb a0.Thing (Thing.mk 0 (Point.mk 0 0) (A4.mk (Field.mk 0 be) (Field.mk 0 be) (Field.mk 0 be) (Field.mk 0 be))))), (42, qb (Thing.eqb a0.Thing (Thing.mk 0 (Point.mk 0 0) (A4.mk (Field.mk 0 be) (Field.mk 0 be) (Field.mk 0 be) (Field.mk 0 be)))))] [] (.thenN (.ret (.blockR (.thenR .fn))))))
        · exact SimI.rd 6 [(2, qb false), (42, qb false), (41, .tup []), (40, .tup []), (39, .tup []), (38, .tup [])] [] (.thenN (.ret (.blockR (.thenR .fn))))
      · exact SimI.rd 14 [(2, qb false), (42, qb false), (41, .tup []), (40, .tup []), (39, .tup []), (38, .tup []), (37, qb false), (36, qb false), (35, .tup []), (34, .tup []), (33, .tup []), (32, .tup []), (31, .tup []), (30, .tup [])] [] (.thenN (.ret (.blockR (.thenR .fn))))
    · refine Sim.sr 2 [(43, qb (a0.Kind == 3)), (44, qb (a0.Kind == 3))] [] (.cond (a0.Kind == 3) (by kernel_rfl) ?_ ?_)
      · refine Sim.st 4 [(48, qb (decide ((0 : Int) ≤ a0.ID))), (47, qb (decide ((0 : Int) ≤ a0.ID))), (46, qj a0.ID), (45, qp 1 1)] [] (.split 48 (decide ((0 : Int) ≤ a0.ID)) (by kernel_rfl) ?_ ?_)
        · refine SimI.rn 5 [(53, qb (decide (a0.ID ≤ 1000000))), (52, qb (decide (a0.ID ≤ 1000000))), (51, qb (decide (a0.ID ≤ 1000000))), (50, qj a0.ID), (49, qp 1 1)] [] (.split 53 (decide (a0.ID ≤ 1000000)) (by kernel_rfl) ?_ ?_)
          · refine SimI.rn 3 [(56, .agg [lj 0, lj 0, lj 0, lj 0, ls be, lj 0, ls be, lj 0, ls be, lj 0, ls be]), (55, .agg (Thing.cells a0.Thing)), (54, qp 1 2)] [] (.step ⟨some 57, POp.prim (Prim.bin BinOp.eql 28 false false) [Operand.tmp 55, Operand.tmp 56], some (53, true), []⟩ [(57, qb (Thing.eqb a0.Thing (Thing.mk 0 (Point.mk 0 0) (A4.mk (Field.mk 0 be) (Field.mk 0 be) (Field.mk 0 be) (Field.mk 0 be)))))] [] (by kernel_rfl) (pOp_eff (by kernel_rfl) (by kernel_rfl) (eff_prim (by kernel_rfl) (Thing_eql a0.Thing (Thing.mk 0 (Point.mk 0 0) (A4.mk (Field.mk 0 be) (Field.mk 0 be) (Field.mk 0 be) (Field.mk 0 be))) _ _))) (.rn 2 [(59, qb (Thing.eqb a0.Thing (Thing.mk 0 (Point.mk 0 0) (A4.mk (Field.mk 0 be) (Field.mk 0 be) (Field.mk 0 be) (Field.mk 0 be))))), (58, qb (Thing.eqb a0.Thing (Thing.mk 0 (Point.mk 0 0) (A4.mk (Field.mk 0 be) (Field.mk 0 be) (Field.mk 0 be) (Field.mk 0 be)))))] [] (.split 59 (Thing.eqb a0.Thing (Thing.mk 0 (Point.mk 0 0) (A4.mk (Field.mk 0 be) (Field.mk 0 be) (Field.mk 0 be) (Field.mk 0 be)))) (by kernel_rfl) ?_ ?_)))
            · exact SimI.rn 3 [(62, .agg [lj 0, li .u8 0, lj 0, lj 0, lj 0, ls be, lj 0, ls be, lj 0, ls be, lj 0, ls be]), (61, .agg (Delta.cells a0.Delta)), (60, qp 1 13)] [] (.step ⟨some 63, POp.prim (Prim.bin BinOp.eql 35 false false) [Operand.tmp 61, Operand.tmp 62], some (59, true), []⟩ [(63, qb (Delta.eqb a0.Delta (Delta.mk 0 0 (Point.mk 0 0) (A4.mk (Field.mk 0 be) (Field.mk 0 be) (Field.mk 0 be) (Field.mk 0 be)))))] [] (by kernel_rfl) (pOp_eff (by kernel_rfl) (by kernel_rfl) (eff_prim (by kernel_rfl) (Delta_eql a0.Delta (Delta.mk 0 0 (Point.mk 0 0) (A4.mk (Field.mk 0 be) (Field.mk 0 be) (Field.mk 0 be) (Field.mk 0 be))) _ _))) (.rd 2 [(2, qb (Delta.eqb a0.Delta (Delta.mk 0 0 (Point.mk 0 0) (A4.mk (Field.mk 0 be) (Field.mk 0 be) (Field.mk 0 be) (Field.mk 0 be))))), (64, qb (Delta.eqb a0.Delta (Delta.mk 0 0 (Point.mk 0 0) (A4.mk (Field.mk 0 be) (Field.mk 0 be) (Field.mk 0 be) (Field.mk 0 be)))))] [] (.thenN (.ret (.blockR (.thenR .fn))))))
            · exact SimI.rd 6 [(2, qb false), (64, qb false), (63, .tup []), (62, .tup []), (61, .tup []), (60, .tup [])] [] (.thenN (.ret (.blockR (.thenR .fn))))
          · exact SimI.rd 12 [(2, qb false), (64, qb false), (63, .tup []), (62, .tup []), (61, .tup []), (60, .tup []), (59, qb false), (58, qb false), (57, .tup []), (56, .tup []), (55, .tup []), (54, .tup [])] [] (.thenN (.ret (.blockR (.thenR .fn))))
        · exact SimI.rd 17 [(2, qb false), (64, qb false), (63, .tup []), (62, .tup []), (61, .tup []), (60, .tup []), (59, qb false), (58, qb false), (57, .tup []), (56, .tup []), (55, .tup []), (54, .tup []), (53, qb false), (52, qb false), (51, .tup []), (50, .tup []), (49, .tup [])] [] (.thenN (.ret (.blockR (.thenR .fn))))
      · exact Sim.skip (.blockN (.thenN (.sr 1 [(2, qb false)] [] (.ret .fn))))


end Go.Proofs.Ytobeamaaifgllaa
