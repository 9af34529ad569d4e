/-
  Functions of the program as functions of Lean. No condition.
-/
import Derived.Test.YtobeamaaifgllaaEventBackP0
namespace Go.Proofs.Ytobeamaaifgllaa
open Go Go.Rx
set_option maxRecDepth 100000
set_option linter.unusedVariables false
set_option linter.unusedSimpArgs false
set_option linter.unnecessarySimpa false
-- 95: vedette/event.readOne
def F95_e : (Event × Int × Int) → PV × List Ob := fun r => (.tup [.agg (Event.cells r.1), .one (li .i64 r.2.1), .one (li .i64 r.2.2)], [])
def F95_j34 (n : Nat) (r1 : (Int × Int × Int)) (i6 : Int) (i7 : Int) (ii8 : Int) (i9 : Int) (i10 : Int) (i11 : Int) (s12 : ByteArray) (i13 : Int) (s14 : ByteArray) (i15 : Int) (s16 : ByteArray) (i17 : Int) (s18 : ByteArray) (i19 : Int) (i20 : Int) (i21 : Int) (i22 : Int) (i23 : Int) (s24 : ByteArray) (i25 : Int) (s26 : ByteArray) (i27 : Int) (s28 : ByteArray) (i29 : Int) (s30 : ByteArray) (i33 : Int) : Option (Event × Int × Int) :=
    some ((Event.mk (IntKind.wrap .i64 (imin r1.1 4)) i7 (Thing.mk ii8 (Point.mk i9 i10) (A4.mk (Field.mk i11 s12) (Field.mk i13 s14) (Field.mk i15 s16) (Field.mk i17 s18))) (Delta.mk i19 i20 (Point.mk i21 i22) (A4.mk (Field.mk i23 s24) (Field.mk i25 s26) (Field.mk i27 s28) (Field.mk i29 s30)))), IntKind.wrap .i64 (r1.2.1 + i6), i33)
theorem F95_j34_ok (n : Nat) (r1 : (Int × Int × Int)) (i6 : Int) (i7 : Int) (ii8 : Int) (i9 : Int) (i10 : Int) (i11 : Int) (s12 : ByteArray) (i13 : Int) (s14 : ByteArray) (i15 : Int) (s16 : ByteArray) (i17 : Int) (s18 : ByteArray) (i19 : Int) (i20 : Int) (i21 : Int) (i22 : Int) (i23 : Int) (s24 : ByteArray) (i25 : Int) (s26 : ByteArray) (i27 : Int) (s28 : ByteArray) (i29 : Int) (s30 : ByteArray) (i33 : Int) : Sim Try.prog D (n + 8) pc95_c43 [(2, qp 2 0), (6, qj r1.2.1), (7, qj i33), (8, qp 8 0), (9, qj i6)] [(2, some (.cells [lj 0, lj 0, lj 0, lj 0, lj 0, lj 0, ls be, lj 0, ls be, lj 0, ls be, lj 0, ls be, lj 0, li .u8 0, lj 0, lj 0, lj 0, ls be, lj 0, ls be, lj 0, ls be, lj 0, ls be])), (8, some (.cells [lj (IntKind.wrap .i64 (imin r1.1 4)), lj i7, lj ii8, lj i9, lj i10, lj i11, ls s12, lj i13, ls s14, lj i15, ls s16, lj i17, ls s18, lj i19, li .u8 i20, lj i21, lj i22, lj i23, ls s24, lj i25, ls s26, lj i27, ls s28, lj i29, ls s30]))] (F95_j34 n r1 i6 i7 ii8 i9 i10 i11 s12 i13 s14 i15 s16 i17 s18 i19 i20 i21 i22 i23 s24 i25 s26 i27 s28 i29 s30 i33) (QF false pc95_r 0 F95_e) := by
    unfold F95_j34
    exact Sim.seq (.rg [(2, qp 2 0), (6, qj r1.2.1), (7, qj i33), (8, qp 8 0), (9, qj i6)] [(2, some (.cells [lj 0, lj 0, lj 0, lj 0, lj 0, lj 0, ls be, lj 0, ls be, lj 0, ls be, lj 0, ls be, lj 0, li .u8 0, lj 0, lj 0, lj 0, ls be, lj 0, ls be, lj 0, ls be, lj 0, ls be])), (8, some (.cells [lj (IntKind.wrap .i64 (imin r1.1 4)), lj i7, lj ii8, lj i9, lj i10, lj i11, ls s12, lj i13, ls s14, lj i15, ls s16, lj i17, ls s18, lj i19, li .u8 i20, lj i21, lj i22, lj i23, ls s24, lj i25, ls s26, lj i27, ls s28, lj i29, ls s30]))] (.rd 8 [(4, qj i33), (3, qj (IntKind.wrap .i64 (r1.2.1 + i6))), (82, qj i33), (81, qj (IntKind.wrap .i64 (r1.2.1 + i6))), (80, qj i6), (79, qj r1.2.1), (78, .agg [lj (IntKind.wrap .i64 (imin r1.1 4)), lj i7, lj ii8, lj i9, lj i10, lj i11, ls s12, lj i13, ls s14, lj i15, ls s16, lj i17, ls s18, lj i19, li .u8 i20, lj i21, lj i22, lj i23, ls s24, lj i25, ls s26, lj i27, ls s28, lj i29, ls s30])] [(2, some (.cells [lj (IntKind.wrap .i64 (imin r1.1 4)), lj i7, lj ii8, lj i9, lj i10, lj i11, ls s12, lj i13, ls s14, lj i15, ls s16, lj i17, ls s18, lj i19, li .u8 i20, lj i21, lj i22, lj i23, ls s24, lj i25, ls s26, lj i27, ls s28, lj i29, ls s30]))] (.thenN (.ret .fn))))

def F95_j31 (n : Nat) (r1 : (Int × Int × Int)) (i5 : Int) (i6 : Int) (i7 : Int) (ii8 : Int) (i9 : Int) (i10 : Int) (i11 : Int) (s12 : ByteArray) (i13 : Int) (s14 : ByteArray) (i15 : Int) (s16 : ByteArray) (i17 : Int) (s18 : ByteArray) (i19 : Int) (i20 : Int) (i21 : Int) (i22 : Int) (i23 : Int) (s24 : ByteArray) (i25 : Int) (s26 : ByteArray) (i27 : Int) (s28 : ByteArray) (i29 : Int) (s30 : ByteArray) : Option (Event × Int × Int) :=
    if i5 == 0 then
      (F39 n (Event.mk (IntKind.wrap .i64 (imin r1.1 4)) i7 (Thing.mk ii8 (Point.mk i9 i10) (A4.mk (Field.mk i11 s12) (Field.mk i13 s14) (Field.mk i15 s16) (Field.mk i17 s18))) (Delta.mk i19 i20 (Point.mk i21 i22) (A4.mk (Field.mk i23 s24) (Field.mk i25 s26) (Field.mk i27 s28) (Field.mk i29 s30))))).bind fun (r32 : Bool) =>
      if !(r32) then
        F95_j34 n r1 i6 i7 ii8 i9 i10 i11 s12 i13 s14 i15 s16 i17 s18 i19 i20 i21 i22 i23 s24 i25 s26 i27 s28 i29 s30 11
      else
        F95_j34 n r1 i6 i7 ii8 i9 i10 i11 s12 i13 s14 i15 s16 i17 s18 i19 i20 i21 i22 i23 s24 i25 s26 i27 s28 i29 s30 i5
    else
      F95_j34 n r1 i6 i7 ii8 i9 i10 i11 s12 i13 s14 i15 s16 i17 s18 i19 i20 i21 i22 i23 s24 i25 s26 i27 s28 i29 s30 i5
theorem F95_j31_ok (n : Nat) (r1 : (Int × Int × Int)) (i5 : Int) (i6 : Int) (i7 : Int) (ii8 : Int) (i9 : Int) (i10 : Int) (i11 : Int) (s12 : ByteArray) (i13 : Int) (s14 : ByteArray) (i15 : Int) (s16 : ByteArray) (i17 : Int) (s18 : ByteArray) (i19 : Int) (i20 : Int) (i21 : Int) (i22 : Int) (i23 : Int) (s24 : ByteArray) (i25 : Int) (s26 : ByteArray) (i27 : Int) (s28 : ByteArray) (i29 : Int) (s30 : ByteArray) : Sim Try.prog D (n + 8) pc95_c44 [(2, qp 2 0), (6, qj r1.2.1), (7, qj i5), (8, qp 8 0), (9, qj i6)] [(2, some (.cells [lj 0, lj 0, lj 0, lj 0, lj 0, lj 0, ls be, lj 0, ls be, lj 0, ls be, lj 0, ls be, lj 0, li .u8 0, lj 0, lj 0, lj 0, ls be, lj 0, ls be, lj 0, ls be, lj 0, ls be])), (8, some (.cells [lj (IntKind.wrap .i64 (imin r1.1 4)), lj i7, lj ii8, lj i9, lj i10, lj i11, ls s12, lj i13, ls s14, lj i15, ls s16, lj i17, ls s18, lj i19, li .u8 i20, lj i21, lj i22, lj i23, ls s24, lj i25, ls s26, lj i27, ls s28, lj i29, ls s30]))] (F95_j31 n r1 i5 i6 i7 ii8 i9 i10 i11 s12 i13 s14 i15 s16 i17 s18 i19 i20 i21 i22 i23 s24 i25 s26 i27 s28 i29 s30) (QF false pc95_r 0 F95_e) := by
    unfold F95_j31
    refine Sim.seq (.seq (.rg [(2, qp 2 0), (6, qj r1.2.1), (7, qj i5), (8, qp 8 0), (9, qj i6)] [(2, some (.cells [lj 0, lj 0, lj 0, lj 0, lj 0, lj 0, ls be, lj 0, ls be, lj 0, ls be, lj 0, ls be, lj 0, li .u8 0, lj 0, lj 0, lj 0, ls be, lj 0, ls be, lj 0, ls be, lj 0, ls be])), (8, some (.cells [lj (IntKind.wrap .i64 (imin r1.1 4)), lj i7, lj ii8, lj i9, lj i10, lj i11, ls s12, lj i13, ls s14, lj i15, ls s16, lj i17, ls s18, lj i19, li .u8 i20, lj i21, lj i22, lj i23, ls s24, lj i25, ls s26, lj i27, ls s28, lj i29, ls s30]))] (.rn 3 [(73, qb (i5 == 0)), (72, qb (i5 == 0)), (71, qj i5)] [] (.split 73 (i5 == 0) (by kernel_rfl) ?_ ?_))))
    · refine SimI.rn 1 [(74, .agg [lj (IntKind.wrap .i64 (imin r1.1 4)), lj i7, lj ii8, lj i9, lj i10, lj i11, ls s12, lj i13, ls s14, lj i15, ls s16, lj i17, ls s18, lj i19, li .u8 i20, lj i21, lj i22, lj i23, ls s24, lj i25, ls s26, lj i27, ls s28, lj i29, ls s30])] [] (.cl 75 true [[]] 39 [Operand.tmp 74] (some (73, true)) (fun r32 => qb r32) [.agg [lj (IntKind.wrap .i64 (imin r1.1 4)), lj i7, lj ii8, lj i9, lj i10, lj i11, ls s12, lj i13, ls s14, lj i15, ls s16, lj i17, ls s18, lj i19, li .u8 i20, lj i21, lj i22, lj i23, ls s24, lj i25, ls s26, lj i27, ls s28, lj i29, ls s30]] (F39_ok n (Event.mk (IntKind.wrap .i64 (imin r1.1 4)) i7 (Thing.mk ii8 (Point.mk i9 i10) (A4.mk (Field.mk i11 s12) (Field.mk i13 s14) (Field.mk i15 s16) (Field.mk i17 s18))) (Delta.mk i19 i20 (Point.mk i21 i22) (A4.mk (Field.mk i23 s24) (Field.mk i25 s26) (Field.mk i27 s28) (Field.mk i29 s30))))) (fun r32 => ?_))
      refine SimI.rd 2 [(77, qb (!(r32))), (76, qb (!(r32)))] [] (.thenN (.cond (!(r32)) (by kernel_rfl) ?_ ?_))
      · refine Sim.region0 (.rd 1 [(7, qj 11)] [] (.thenN (.pr [2, 6, 7, 8, 9] [2, 8] [] [(2, qp 2 0), (6, qj r1.2.1), (7, qj 11), (8, qp 8 0), (9, qj i6)] [(2, some (.cells [lj 0, lj 0, lj 0, lj 0, lj 0, lj 0, ls be, lj 0, ls be, lj 0, ls be, lj 0, ls be, lj 0, li .u8 0, lj 0, lj 0, lj 0, ls be, lj 0, ls be, lj 0, ls be, lj 0, ls be])), (8, some (.cells [lj (IntKind.wrap .i64 (imin r1.1 4)), lj i7, lj ii8, lj i9, lj i10, lj i11, ls s12, lj i13, ls s14, lj i15, ls s16, lj i17, ls s18, lj i19, li .u8 i20, lj i21, lj i22, lj i23, ls s24, lj i25, ls s26, lj i27, ls s28, lj i29, ls s30]))] ?_)))
        exact F95_j34_ok n r1 i6 i7 ii8 i9 i10 i11 s12 i13 s14 i15 s16 i17 s18 i19 i20 i21 i22 i23 s24 i25 s26 i27 s28 i29 s30 11
      · refine Sim.skip (.thenN (.pr [2, 6, 7, 8, 9] [2, 8] [] [(2, qp 2 0), (6, qj r1.2.1), (7, qj i5), (8, qp 8 0), (9, qj i6)] [(2, some (.cells [lj 0, lj 0, lj 0, lj 0, lj 0, lj 0, ls be, lj 0, ls be, lj 0, ls be, lj 0, ls be, lj 0, li .u8 0, lj 0, lj 0, lj 0, ls be, lj 0, ls be, lj 0, ls be, lj 0, ls be])), (8, some (.cells [lj (IntKind.wrap .i64 (imin r1.1 4)), lj i7, lj ii8, lj i9, lj i10, lj i11, ls s12, lj i13, ls s14, lj i15, ls s16, lj i17, ls s18, lj i19, li .u8 i20, lj i21, lj i22, lj i23, ls s24, lj i25, ls s26, lj i27, ls s28, lj i29, ls s30]))] ?_))
        exact F95_j34_ok n r1 i6 i7 ii8 i9 i10 i11 s12 i13 s14 i15 s16 i17 s18 i19 i20 i21 i22 i23 s24 i25 s26 i27 s28 i29 s30 i5
    · refine SimI.rd 4 [(77, qb false), (76, .tup []), (75, .tup []), (74, .tup [])] [] (.thenN (.condF (by kernel_rfl) (.skip (.thenN (.pr [2, 6, 7, 8, 9] [2, 8] [] [(2, qp 2 0), (6, qj r1.2.1), (7, qj i5), (8, qp 8 0), (9, qj i6)] [(2, some (.cells [lj 0, lj 0, lj 0, lj 0, lj 0, lj 0, ls be, lj 0, ls be, lj 0, ls be, lj 0, ls be, lj 0, li .u8 0, lj 0, lj 0, lj 0, ls be, lj 0, ls be, lj 0, ls be, lj 0, ls be])), (8, some (.cells [lj (IntKind.wrap .i64 (imin r1.1 4)), lj i7, lj ii8, lj i9, lj i10, lj i11, ls s12, lj i13, ls s14, lj i15, ls s16, lj i17, ls s18, lj i19, li .u8 i20, lj i21, lj i22, lj i23, ls s24, lj i25, ls s26, lj i27, ls s28, lj i29, ls s30]))] ?_)))))
      exact F95_j34_ok n r1 i6 i7 ii8 i9 i10 i11 s12 i13 s14 i15 s16 i17 s18 i19 i20 i21 i22 i23 s24 i25 s26 i27 s28 i29 s30 i5

def F95 (n : Nat) (a0 : ByteArray) : Option (Event × Int × Int) :=
  (F73 n a0).bind fun (r1 : (Int × Int × Int)) =>
  if r1.2.2 != 0 then
    some ((Event.mk 0 0 (Thing.mk 0 (Point.mk 0 0) (A4.mk (Field.mk 0 ByteArray.empty) (Field.mk 0 ByteArray.empty) (Field.mk 0 ByteArray.empty) (Field.mk 0 ByteArray.empty))) (Delta.mk 0 0 (Point.mk 0 0) (A4.mk (Field.mk 0 ByteArray.empty) (Field.mk 0 ByteArray.empty) (Field.mk 0 ByteArray.empty) (Field.mk 0 ByteArray.empty)))), 0, r1.2.2)
  else
    if (IntKind.wrap .i64 (imin r1.1 4)) == 1 then
      if 0 ≤ (r1.2.1 : Int) ∧ (r1.2.1 : Int) ≤ (a0.size : Int) then
        (F30 n (a0.extract r1.2.1.toNat a0.size)).bind fun (r2 : (Thing × Int × Int)) =>
        F95_j31 n r1 r2.2.2 r2.2.1 r2.1.ID r2.1.ID r2.1.At.X r2.1.At.Y r2.1.F.a0.N r2.1.F.a0.Text r2.1.F.a1.N r2.1.F.a1.Text r2.1.F.a2.N r2.1.F.a2.Text r2.1.F.a3.N r2.1.F.a3.Text 0 0 0 0 0 ByteArray.empty 0 ByteArray.empty 0 ByteArray.empty 0 ByteArray.empty
      else none
    else
      if (IntKind.wrap .i64 (imin r1.1 4)) == 2 then
        if 0 ≤ (r1.2.1 : Int) ∧ (r1.2.1 : Int) ≤ (a0.size : Int) then
          (F71 n (a0.extract r1.2.1.toNat a0.size)).bind fun (r3 : (Delta × Int × Int)) =>
          F95_j31 n r1 r3.2.2 r3.2.1 r3.1.ID 0 0 0 0 ByteArray.empty 0 ByteArray.empty 0 ByteArray.empty 0 ByteArray.empty r3.1.ID r3.1.Mask r3.1.At.X r3.1.At.Y r3.1.F.a0.N r3.1.F.a0.Text r3.1.F.a1.N r3.1.F.a1.Text r3.1.F.a2.N r3.1.F.a2.Text r3.1.F.a3.N r3.1.F.a3.Text
        else none
      else
        if (IntKind.wrap .i64 (imin r1.1 4)) == 3 then
          if 0 ≤ (r1.2.1 : Int) ∧ (r1.2.1 : Int) ≤ (a0.size : Int) then
            (F73 n (a0.extract r1.2.1.toNat a0.size)).bind fun (r4 : (Int × Int × Int)) =>
            F95_j31 n r1 r4.2.2 r4.2.1 (IntKind.wrap .i64 (imin r4.1 1000001)) 0 0 0 0 ByteArray.empty 0 ByteArray.empty 0 ByteArray.empty 0 ByteArray.empty 0 0 0 0 0 ByteArray.empty 0 ByteArray.empty 0 ByteArray.empty 0 ByteArray.empty
          else none
        else
          F95_j31 n r1 r1.2.2 0 0 0 0 0 0 ByteArray.empty 0 ByteArray.empty 0 ByteArray.empty 0 ByteArray.empty 0 0 0 0 0 ByteArray.empty 0 ByteArray.empty 0 ByteArray.empty 0 ByteArray.empty
theorem F95_ok (n : Nat) (a0 : ByteArray) : ∀ r, F95 n a0 = some r → D 95 [.one (ls a0)] [] = some (F95_e r) := by
  refine fn_to (D := D) (n := n + 8) (nt := 83) (rs := pc95_r) (c := pc95_c50) (L := [(0, qs a0)]) (M := []) (k := 0) rfl rfl rfl rfl rfl rfl rfl ?_
  unfold F95
  refine Sim.sr 3 [(4, qj 0), (3, qj 0), (2, qp 2 0)] [(2, some (.cells [lj 0, lj 0, lj 0, lj 0, lj 0, lj 0, ls be, lj 0, ls be, lj 0, ls be, lj 0, ls be, lj 0, li .u8 0, lj 0, lj 0, lj 0, ls be, lj 0, ls be, lj 0, ls be, lj 0, ls be]))] (.st 1 [(12, qs a0)] [] (.cl 13 true [[]] 73 [Operand.tmp 12] none (fun r1 => .tup [.one (li .u64 r1.1), qj r1.2.1, qj r1.2.2]) [qs a0] (F73_ok n a0) (fun r1 => ?_)))
  refine SimI.rd 7 [(7, qj r1.2.2), (6, qj r1.2.1), (5, .one (li .u64 r1.1)), (16, qj r1.2.2), (15, qj r1.2.1), (14, .one (li .u64 r1.1)), (11, .tup [.one (li .u64 r1.1), qj r1.2.1, qj r1.2.2])] [] (.thenN (.seq (.sr 2 [(18, qb (r1.2.2 != 0)), (17, qj r1.2.2)] [] (.cond (r1.2.2 != 0) (by kernel_rfl) ?_ ?_))))
  · exact Sim.sr 5 [(4, qj r1.2.2), (3, qj 0), (20, qj r1.2.2), (19, .agg [lj 0, lj 0, lj 0, lj 0, lj 0, lj 0, ls be, lj 0, ls be, lj 0, ls be, lj 0, ls be, lj 0, li .u8 0, lj 0, lj 0, lj 0, ls be, lj 0, ls be, lj 0, ls be, lj 0, ls be])] [(2, some (.cells [lj 0, lj 0, lj 0, lj 0, lj 0, lj 0, ls be, lj 0, ls be, lj 0, ls be, lj 0, ls be, lj 0, li .u8 0, lj 0, lj 0, lj 0, ls be, lj 0, ls be, lj 0, ls be, lj 0, ls be]))] (.ret (.thenR .fn))
  · refine Sim.skip (.thenN (.sr 6 [(8, qp 8 0), (24, .agg [lj (IntKind.wrap .i64 (imin r1.1 4)), lj 0, lj 0, lj 0, lj 0, lj 0, ls be, lj 0, ls be, lj 0, ls be, lj 0, ls be, lj 0, li .u8 0, lj 0, lj 0, lj 0, ls be, lj 0, ls be, lj 0, ls be, lj 0, ls be]), (23, qj (IntKind.wrap .i64 (imin r1.1 4))), (22, .one (li .u64 (imin r1.1 4))), (21, .one (li .u64 r1.1))] [(8, some (.cells [lj (IntKind.wrap .i64 (imin r1.1 4)), lj 0, lj 0, lj 0, lj 0, lj 0, ls be, lj 0, ls be, lj 0, ls be, lj 0, ls be, lj 0, li .u8 0, lj 0, lj 0, lj 0, ls be, lj 0, ls be, lj 0, ls be, lj 0, ls be])), (8, some (.cells [lj 0, lj 0, lj 0, lj 0, lj 0, lj 0, ls be, lj 0, ls be, lj 0, ls be, lj 0, ls be, lj 0, li .u8 0, lj 0, lj 0, lj 0, ls be, lj 0, ls be, lj 0, ls be, lj 0, ls be]))] (.sr 1 [(9, qj 0)] [] (.seq (.sr 2 [(26, qj (IntKind.wrap .i64 (imin r1.1 4))), (25, qp 8 0)] [] (.block (.sr 2 [(27, qb ((IntKind.wrap .i64 (imin r1.1 4)) == 1)), (28, qb ((IntKind.wrap .i64 (imin r1.1 4)) == 1))] [] (.cond ((IntKind.wrap .i64 (imin r1.1 4)) == 1) (by kernel_rfl) ?_ ?_))))))))
    · refine Sim.st 2 [(31, qj r1.2.1), (30, qs a0)] [] (.guard (c := 0 ≤ (r1.2.1 : Int) ∧ (r1.2.1 : Int) ≤ (a0.size : Int)) ⟨some 32, POp.prim (Prim.slice 9 true false) [Operand.tmp 30, Operand.tmp 31], none, []⟩ [(32, qs (a0.extract r1.2.1.toNat a0.size))] [] (by kernel_rfl) (fun hc => pOp_eff (by kernel_rfl) (by kernel_rfl) (eff_prim (by kernel_rfl) (pr_cutL (s := a0) (k := .i64) (a := r1.2.1) Try.underlying9 hc))) (.cl 33 true [[]] 30 [Operand.tmp 32] none (fun r2 => .tup [.agg (Thing.cells r2.1), qj r2.2.1, qj r2.2.2]) [qs (a0.extract r1.2.1.toNat a0.size)] (F30_ok n (a0.extract r1.2.1.toNat a0.size)) (fun r2 => ?_)))
      refine SimI.rd 8 [(7, qj r2.2.2), (9, qj r2.2.1), (37, qp 8 2), (36, qj r2.2.2), (35, qj r2.2.1), (34, .agg (Thing.cells r2.1)), (29, .tup [.agg (Thing.cells r2.1), qj r2.2.1, qj r2.2.2])] [(8, some (.cells [lj (IntKind.wrap .i64 (imin r1.1 4)), lj 0, lj r2.1.ID, lj r2.1.At.X, lj r2.1.At.Y, lj r2.1.F.a0.N, ls r2.1.F.a0.Text, lj r2.1.F.a1.N, ls r2.1.F.a1.Text, lj r2.1.F.a2.N, ls r2.1.F.a2.Text, lj r2.1.F.a3.N, ls r2.1.F.a3.Text, lj 0, li .u8 0, lj 0, lj 0, lj 0, ls be, lj 0, ls be, lj 0, ls be, lj 0, ls be]))] (.thenN (.region0 (.rd 5 [(41, qp 8 1), (40, qj r2.1.ID), (39, qp 8 2), (38, qp 8 2)] [(8, some (.cells [lj (IntKind.wrap .i64 (imin r1.1 4)), lj r2.1.ID, lj r2.1.ID, lj r2.1.At.X, lj r2.1.At.Y, lj r2.1.F.a0.N, ls r2.1.F.a0.Text, lj r2.1.F.a1.N, ls r2.1.F.a1.Text, lj r2.1.F.a2.N, ls r2.1.F.a2.Text, lj r2.1.F.a3.N, ls r2.1.F.a3.Text, lj 0, li .u8 0, lj 0, lj 0, lj 0, ls be, lj 0, ls be, lj 0, ls be, lj 0, ls be]))] (.blockN (.thenN (.pr [2, 6, 7, 8, 9] [2, 8] [] [(2, qp 2 0), (6, qj r1.2.1), (7, qj r2.2.2), (8, qp 8 0), (9, qj r2.2.1)] [(2, some (.cells [lj 0, lj 0, lj 0, lj 0, lj 0, lj 0, ls be, lj 0, ls be, lj 0, ls be, lj 0, ls be, lj 0, li .u8 0, lj 0, lj 0, lj 0, ls be, lj 0, ls be, lj 0, ls be, lj 0, ls be])), (8, some (.cells [lj (IntKind.wrap .i64 (imin r1.1 4)), lj r2.1.ID, lj r2.1.ID, lj r2.1.At.X, lj r2.1.At.Y, lj r2.1.F.a0.N, ls r2.1.F.a0.Text, lj r2.1.F.a1.N, ls r2.1.F.a1.Text, lj r2.1.F.a2.N, ls r2.1.F.a2.Text, lj r2.1.F.a3.N, ls r2.1.F.a3.Text, lj 0, li .u8 0, lj 0, lj 0, lj 0, ls be, lj 0, ls be, lj 0, ls be, lj 0, ls be]))] ?_))))))
      exact F95_j31_ok n r1 r2.2.2 r2.2.1 r2.1.ID r2.1.ID r2.1.At.X r2.1.At.Y r2.1.F.a0.N r2.1.F.a0.Text r2.1.F.a1.N r2.1.F.a1.Text r2.1.F.a2.N r2.1.F.a2.Text r2.1.F.a3.N r2.1.F.a3.Text 0 0 0 0 0 be 0 be 0 be 0 be
    · refine Sim.sr 2 [(42, qb ((IntKind.wrap .i64 (imin r1.1 4)) == 2)), (43, qb ((IntKind.wrap .i64 (imin r1.1 4)) == 2))] [] (.cond ((IntKind.wrap .i64 (imin r1.1 4)) == 2) (by kernel_rfl) ?_ ?_)
      · refine Sim.st 2 [(46, qj r1.2.1), (45, qs a0)] [] (.guard (c := 0 ≤ (r1.2.1 : Int) ∧ (r1.2.1 : Int) ≤ (a0.size : Int)) ⟨some 47, POp.prim (Prim.slice 9 true false) [Operand.tmp 45, Operand.tmp 46], none, []⟩ [(47, qs (a0.extract r1.2.1.toNat a0.size))] [] (by kernel_rfl) (fun hc => pOp_eff (by kernel_rfl) (by kernel_rfl) (eff_prim (by kernel_rfl) (pr_cutL (s := a0) (k := .i64) (a := r1.2.1) Try.underlying9 hc))) (.cl 48 true [[]] 71 [Operand.tmp 47] none (fun r3 => .tup [.agg (Delta.cells r3.1), qj r3.2.1, qj r3.2.2]) [qs (a0.extract r1.2.1.toNat a0.size)] (F71_ok n (a0.extract r1.2.1.toNat a0.size)) (fun r3 => ?_)))
        refine SimI.rd 8 [(7, qj r3.2.2), (9, qj r3.2.1), (52, qp 8 13), (51, qj r3.2.2), (50, qj r3.2.1), (49, .agg (Delta.cells r3.1)), (44, .tup [.agg (Delta.cells r3.1), qj r3.2.1, qj r3.2.2])] [(8, some (.cells [lj (IntKind.wrap .i64 (imin r1.1 4)), lj 0, lj 0, lj 0, lj 0, lj 0, ls be, lj 0, ls be, lj 0, ls be, lj 0, ls be, lj r3.1.ID, li .u8 r3.1.Mask, lj r3.1.At.X, lj r3.1.At.Y, lj r3.1.F.a0.N, ls r3.1.F.a0.Text, lj r3.1.F.a1.N, ls r3.1.F.a1.Text, lj r3.1.F.a2.N, ls r3.1.F.a2.Text, lj r3.1.F.a3.N, ls r3.1.F.a3.Text]))] (.thenN (.region0 (.rd 5 [(56, qp 8 1), (55, qj r3.1.ID), (54, qp 8 13), (53, qp 8 13)] [(8, some (.cells [lj (IntKind.wrap .i64 (imin r1.1 4)), lj r3.1.ID, lj 0, lj 0, lj 0, lj 0, ls be, lj 0, ls be, lj 0, ls be, lj 0, ls be, lj r3.1.ID, li .u8 r3.1.Mask, lj r3.1.At.X, lj r3.1.At.Y, lj r3.1.F.a0.N, ls r3.1.F.a0.Text, lj r3.1.F.a1.N, ls r3.1.F.a1.Text, lj r3.1.F.a2.N, ls r3.1.F.a2.Text, lj r3.1.F.a3.N, ls r3.1.F.a3.Text]))] (.blockN (.thenN (.pr [2, 6, 7, 8, 9] [2, 8] [] [(2, qp 2 0), (6, qj r1.2.1), (7, qj r3.2.2), (8, qp 8 0), (9, qj r3.2.1)] [(2, some (.cells [lj 0, lj 0, lj 0, lj 0, lj 0, lj 0, ls be, lj 0, ls be, lj 0, ls be, lj 0, ls be, lj 0, li .u8 0, lj 0, lj 0, lj 0, ls be, lj 0, ls be, lj 0, ls be, lj 0, ls be])), (8, some (.cells [lj (IntKind.wrap .i64 (imin r1.1 4)), lj r3.1.ID, lj 0, lj 0, lj 0, lj 0, ls be, lj 0, ls be, lj 0, ls be, lj 0, ls be, lj r3.1.ID, li .u8 r3.1.Mask, lj r3.1.At.X, lj r3.1.At.Y, lj r3.1.F.a0.N, ls r3.1.F.a0.Text, lj r3.1.F.a1.N, ls r3.1.F.a1.Text, lj r3.1.F.a2.N, ls r3.1.F.a2.Text, lj r3.1.F.a3.N, ls r3.1.F.a3.Text]))] ?_))))))
        exact F95_j31_ok n r1 r3.2.2 r3.2.1 r3.1.ID 0 0 0 0 be 0 be 0 be 0 be r3.1.ID r3.1.Mask r3.1.At.X r3.1.At.Y r3.1.F.a0.N r3.1.F.a0.Text r3.1.F.a1.N r3.1.F.a1.Text r3.1.F.a2.N r3.1.F.a2.Text r3.1.F.a3.N r3.1.F.a3.Text
      · refine Sim.sr 2 [(57, qb ((IntKind.wrap .i64 (imin r1.1 4)) == 3)), (58, qb ((IntKind.wrap .i64 (imin r1.1 4)) == 3))] [] (.cond ((IntKind.wrap .i64 (imin r1.1 4)) == 3) (by kernel_rfl) ?_ ?_)
        · refine Sim.sr 1 [(10, .one (li .u64 0))] [] (.st 2 [(61, qj r1.2.1), (60, qs a0)] [] (.guard (c := 0 ≤ (r1.2.1 : Int) ∧ (r1.2.1 : Int) ≤ (a0.size : Int)) ⟨some 62, POp.prim (Prim.slice 9 true false) [Operand.tmp 60, Operand.tmp 61], none, []⟩ [(62, qs (a0.extract r1.2.1.toNat a0.size))] [] (by kernel_rfl) (fun hc => pOp_eff (by kernel_rfl) (by kernel_rfl) (eff_prim (by kernel_rfl) (pr_cutL (s := a0) (k := .i64) (a := r1.2.1) Try.underlying9 hc))) (.cl 63 true [[]] 73 [Operand.tmp 62] none (fun r4 => .tup [.one (li .u64 r4.1), qj r4.2.1, qj r4.2.2]) [qs (a0.extract r1.2.1.toNat a0.size)] (F73_ok n (a0.extract r1.2.1.toNat a0.size)) (fun r4 => ?_))))
          refine SimI.rd 7 [(7, qj r4.2.2), (9, qj r4.2.1), (10, .one (li .u64 r4.1)), (66, qj r4.2.2), (65, qj r4.2.1), (64, .one (li .u64 r4.1)), (59, .tup [.one (li .u64 r4.1), qj r4.2.1, qj r4.2.2])] [] (.thenN (.region0 (.rd 5 [(70, qp 8 1), (69, qj (IntKind.wrap .i64 (imin r4.1 1000001))), (68, .one (li .u64 (imin r4.1 1000001))), (67, .one (li .u64 r4.1))] [(8, some (.cells [lj (IntKind.wrap .i64 (imin r1.1 4)), lj (IntKind.wrap .i64 (imin r4.1 1000001)), lj 0, lj 0, lj 0, lj 0, ls be, lj 0, ls be, lj 0, ls be, lj 0, ls be, lj 0, li .u8 0, lj 0, lj 0, lj 0, ls be, lj 0, ls be, lj 0, ls be, lj 0, ls be]))] (.blockN (.thenN (.pr [2, 6, 7, 8, 9] [2, 8] [] [(2, qp 2 0), (6, qj r1.2.1), (7, qj r4.2.2), (8, qp 8 0), (9, qj r4.2.1)] [(2, some (.cells [lj 0, lj 0, lj 0, lj 0, lj 0, lj 0, ls be, lj 0, ls be, lj 0, ls be, lj 0, ls be, lj 0, li .u8 0, lj 0, lj 0, lj 0, ls be, lj 0, ls be, lj 0, ls be, lj 0, ls be])), (8, some (.cells [lj (IntKind.wrap .i64 (imin r1.1 4)), lj (IntKind.wrap .i64 (imin r4.1 1000001)), lj 0, lj 0, lj 0, lj 0, ls be, lj 0, ls be, lj 0, ls be, lj 0, ls be, lj 0, li .u8 0, lj 0, lj 0, lj 0, ls be, lj 0, ls be, lj 0, ls be, lj 0, ls be]))] ?_))))))
          exact F95_j31_ok n r1 r4.2.2 r4.2.1 (IntKind.wrap .i64 (imin r4.1 1000001)) 0 0 0 0 be 0 be 0 be 0 be 0 0 0 0 0 be 0 be 0 be 0 be
        · refine Sim.skip (.blockN (.thenN (.pr [2, 6, 7, 8, 9] [2, 8] [] [(2, qp 2 0), (6, qj r1.2.1), (7, qj r1.2.2), (8, qp 8 0), (9, qj 0)] [(2, some (.cells [lj 0, lj 0, lj 0, lj 0, lj 0, lj 0, ls be, lj 0, ls be, lj 0, ls be, lj 0, ls be, lj 0, li .u8 0, lj 0, lj 0, lj 0, ls be, lj 0, ls be, lj 0, ls be, lj 0, ls be])), (8, some (.cells [lj (IntKind.wrap .i64 (imin r1.1 4)), lj 0, lj 0, lj 0, lj 0, lj 0, ls be, lj 0, ls be, lj 0, ls be, lj 0, ls be, lj 0, li .u8 0, lj 0, lj 0, lj 0, ls be, lj 0, ls be, lj 0, ls be, lj 0, ls be]))] ?_)))
          exact F95_j31_ok n r1 r1.2.2 0 0 0 0 0 0 be 0 be 0 be 0 be 0 0 0 0 0 be 0 be 0 be 0 be


-- 54: vedette/event.Read
def F54_e : ((List Event) × Int × Int) → PV × List Ob := fun r => (.tup [.one (vw Event.cod r.1), .one (li .i64 r.2.1), .one (li .i64 r.2.2)], [])
def F54_l11 (n : Nat) (a0 : ByteArray) (r1 : (Int × Int × Int)) : Nat → Int → (List Event) → Int → Option ((List Event) × Int × Int)
  | 0, _, _, _ => none
  | m + 1, ii8, l9, i10 =>
    if decide (i10 < r1.1) then
      if 0 ≤ (ii8 : Int) ∧ (ii8 : Int) ≤ (a0.size : Int) then
        (F95 n (a0.extract ii8.toNat a0.size)).bind fun (r12 : (Event × Int × Int)) =>
        if r12.2.2 != 0 then
          some (([] : List Event), 0, r12.2.2)
        else
          if ((l9).length + 1) * 264 ≤ maxCells ∧ (l9).length + 1 ≤ maxCells then
            (F54_l11 n a0 r1 m) (IntKind.wrap .i64 (ii8 + r12.2.1)) (l9 ++ [r12.1]) (IntKind.wrap .u64 (i10 + 1))
          else none
      else none
    else
      some (l9, ii8, 0)
theorem F54_l11_ok (n : Nat) (a0 : ByteArray) (r1 : (Int × Int × Int)) : ∀ (m : Nat) (ii8 : Int) (l9 : (List Event)) (i10 : Int), SimL Try.prog D (n + 8) m pc54_c40 [(0, qs a0), (6, qj ii8), (8, .one (.osl 100008 0 0 (l9).length)), (25, .one (li .u64 r1.1)), (26, .one (li .u64 i10))] [(100008, some (.arr 67 Event.cod.sz 0 (l9).length (getOf Event.cod l9)))] (F54_l11 n a0 r1 m ii8 l9 i10) (QB 1 (QT Try.prog D (n + 8) pc54_c46 (QF false pc54_r 0 F54_e))) := by
  intro m_l11
  induction m_l11 with
  | zero => intro ii8 l9 i10; exact SimL.zero'  rfl
  | succ m_l11 ih_l11 =>
    intro ii8 l9 i10
    refine SimL.succ ?_
    unfold F54_l11
    refine Sim.seq (.rg [(0, qs a0), (6, qj ii8), (8, .one (.osl 100008 0 0 (l9).length)), (25, .one (li .u64 r1.1)), (26, .one (li .u64 i10))] [(100008, some (.arr 67 Event.cod.sz 0 (l9).length (getOf Event.cod l9)))] (.rd 1 [(27, qb (decide (i10 < r1.1)))] [] (.thenN (.seq (.cond (decide (i10 < r1.1)) (by kernel_rfl) ?_ ?_)))))
    · refine Sim.skip (.thenN (.seq (.block (.st 2 [(30, qj ii8), (29, qs a0)] [] (.guard (c := 0 ≤ (ii8 : Int) ∧ (ii8 : Int) ≤ (a0.size : Int)) ⟨some 31, POp.prim (Prim.slice 9 true false) [Operand.tmp 29, Operand.tmp 30], none, []⟩ [(31, qs (a0.extract ii8.toNat a0.size))] [] (by kernel_rfl) (fun hc => pOp_eff (by kernel_rfl) (by kernel_rfl) (eff_prim (by kernel_rfl) (pr_cutL (s := a0) (k := .i64) (a := ii8) Try.underlying9 hc))) (.cl 32 true [[]] 95 [Operand.tmp 31] none (fun r12 => .tup [.agg (Event.cells r12.1), qj r12.2.1, qj r12.2.2]) [qs (a0.extract ii8.toNat a0.size)] (F95_ok n (a0.extract ii8.toNat a0.size)) (fun r12 => ?_)))))))
      refine SimI.rd 8 [(11, qj r12.2.2), (10, qj r12.2.1), (9, qp 9 0), (35, qj r12.2.2), (34, qj r12.2.1), (33, .agg (Event.cells r12.1)), (28, .tup [.agg (Event.cells r12.1), qj r12.2.1, qj r12.2.2])] [(9, some (.cells (Event.cells r12.1))), (9, some (.cells [lj 0, lj 0, lj 0, lj 0, lj 0, lj 0, ls be, lj 0, ls be, lj 0, ls be, lj 0, ls be, lj 0, li .u8 0, lj 0, lj 0, lj 0, ls be, lj 0, ls be, lj 0, ls be, lj 0, ls be]))] (.thenN (.seq (.sr 2 [(37, qb (r12.2.2 != 0)), (36, qj r12.2.2)] [] (.cond (r12.2.2 != 0) (by kernel_rfl) ?_ ?_))))
      · exact Sim.sr 4 [(4, qj r12.2.2), (3, qj 0), (2, .one (lnil)), (38, qj r12.2.2)] [] (.ret (.thenR (.blockR (.thenR (.loopR (.blockR (.thenR .fn)))))))
      · refine Sim.skip (.thenN (.st 3 [(41, .one (vw Event.cod [r12.1])), (40, .agg (Event.cells r12.1)), (39, .one (.osl 100008 0 0 (l9).length))] [] (.guard (c := ((l9).length + 1) * 264 ≤ maxCells ∧ (l9).length + 1 ≤ maxCells) ⟨some 42, POp.app 100008 67 25 264 (Operand.tmp 39) (Operand.tmp 41), none, []⟩ [(42, .one (.osl 100008 (0 + 1) 0 ((l9 ++ [r12.1])).length))] [(100008, some (.arr 67 Event.cod.sz (0 + 1) ((l9 ++ [r12.1])).length (getOf Event.cod (l9 ++ [r12.1]))))] (by kernel_rfl) (fun hc => pOp_eff (by kernel_rfl) (by kernel_rfl) (eff_appO (c := Event.cod) (g := 0) (l := l9) (a := r12.1) (by kernel_rfl) (by kernel_rfl) (by kernel_rfl) (by kernel_rfl) hc)) (.rd 1 [(8, .one (.osl 100008 (0 + 1) 0 ((l9 ++ [r12.1])).length))] [] (.thenN (.region0 (.rd 4 [(6, qj (IntKind.wrap .i64 (ii8 + r12.2.1))), (45, qj (IntKind.wrap .i64 (ii8 + r12.2.1))), (44, qj r12.2.1), (43, qj ii8)] [] (.blockN (.thenN (.region0 (.rd 2 [(26, .one (li .u64 (IntKind.wrap .u64 (i10 + 1)))), (46, .one (li .u64 (IntKind.wrap .u64 (i10 + 1))))] [] (.loopN (.pr [0, 6, 8, 25, 26] [9, 100008] [(false, 8, 0, 100008, 67, 25)] [(0, qs a0), (6, qj (IntKind.wrap .i64 (ii8 + r12.2.1))), (8, .one (.osl 100008 0 0 ((l9 ++ [r12.1])).length)), (25, .one (li .u64 r1.1)), (26, .one (li .u64 (IntKind.wrap .u64 (i10 + 1))))] [(100008, some (.arr 67 Event.cod.sz 0 ((l9 ++ [r12.1])).length (getOf Event.cod (l9 ++ [r12.1]))))] ?_)))))))))))))
        exact ih_l11 (IntKind.wrap .i64 (ii8 + r12.2.1)) (l9 ++ [r12.1]) (IntKind.wrap .u64 (i10 + 1))
    · exact Sim.exit (.thenX (.loopX (.blockX (.thenN (.sr 5 [(4, qj 0), (3, qj ii8), (2, .one (.osl 100008 0 0 (l9).length)), (48, qj ii8), (47, .one (.osl 100008 0 0 (l9).length))] [] (.ret (.fin (out_of (os := []) (ress_cons (resOf_own (c := Event.cod) (k := 100008) (g := 0) (el := 67) (l := l9) (by kernel_rfl) (by kernel_rfl) (by kernel_rfl)) (ress_cons (v := qj ii8) (by kernel_rfl) (ress_cons (v := qj 0) (by kernel_rfl) (ress_nil)))) (by kernel_rfl) rfl (by kernel_rfl)))))))))

def F54 (n : Nat) (a0 : ByteArray) : Option ((List Event) × Int × Int) :=
  (F73 n a0).bind fun (r1 : (Int × Int × Int)) =>
  if r1.2.2 != 0 then
    some (([] : List Event), 0, r1.2.2)
  else
    if decide ((400 : Int) < r1.1) then
      some (([] : List Event), 0, 13)
    else
      F54_l11 n a0 r1 (n + 8) r1.2.1 ([] : List Event) 0
theorem F54_ok (n : Nat) (a0 : ByteArray) : ∀ r, F54 n a0 = some r → D 54 [.one (ls a0)] [] = some (F54_e r) := by
  refine fn_to (D := D) (n := n + 8) (nt := 49) (rs := pc54_r) (c := pc54_c51) (L := [(0, qs a0)]) (M := []) (k := 0) rfl rfl rfl rfl rfl rfl rfl ?_
  unfold F54
  refine Sim.sr 3 [(4, qj 0), (3, qj 0), (2, .one (lnil))] [] (.st 1 [(13, qs a0)] [] (.cl 14 true [[]] 73 [Operand.tmp 13] none (fun r1 => .tup [.one (li .u64 r1.1), qj r1.2.1, qj r1.2.2]) [qs a0] (F73_ok n a0) (fun r1 => ?_)))
  refine SimI.rd 7 [(7, qj r1.2.2), (6, qj r1.2.1), (5, .one (li .u64 r1.1)), (17, qj r1.2.2), (16, qj r1.2.1), (15, .one (li .u64 r1.1)), (12, .tup [.one (li .u64 r1.1), qj r1.2.1, qj r1.2.2])] [] (.thenN (.seq (.block (.sr 3 [(18, qb (r1.2.2 != 0)), (20, qb (r1.2.2 != 0)), (19, qj r1.2.2)] [] (.cond (r1.2.2 != 0) (by kernel_rfl) ?_ ?_)))))
  · exact Sim.sr 4 [(4, qj r1.2.2), (3, qj 0), (2, .one (lnil)), (21, qj r1.2.2)] [] (.ret (.blockR (.thenR .fn)))
  · refine Sim.sr 3 [(22, qb (decide ((400 : Int) < r1.1))), (24, qb (decide ((400 : Int) < r1.1))), (23, .one (li .u64 r1.1))] [] (.cond (decide ((400 : Int) < r1.1)) (by kernel_rfl) ?_ ?_)
    · exact Sim.sr 3 [(4, qj 13), (3, qj 0), (2, .one (lnil))] [] (.ret (.blockR (.thenR .fn)))
    · refine Sim.skip (.blockN (.thenN (.sr 1 [(8, .one (lnil))] [] (.seq (.sr 2 [(26, .one (li .u64 0)), (25, .one (li .u64 r1.1))] [] (.block (.loop (.pr [0, 6, 8, 25, 26] [9, 100008] [(false, 8, 0, 100008, 67, 25)] [(0, qs a0), (6, qj r1.2.1), (8, .one (.osl 100008 0 0 (([] : List Event)).length)), (25, .one (li .u64 r1.1)), (26, .one (li .u64 0))] [(100008, some (.arr 67 Event.cod.sz 0 (([] : List Event)).length (getOf Event.cod ([] : List Event))))] ?_))))))))
      exact F54_l11_ok n a0 r1 (n + 8) r1.2.1 ([] : List Event) 0


-- 42: vedette/vedettelaw15.known
theorem F42_ok (n : Nat) : ∀ r, (some true : Option Bool) = some r → D 42 [] [] = some (.one (lb r), []) := by
  rintro _ ⟨⟩
  exact all_of (N := 60) (by kernel_rfl)


-- 97: vedette/vedettelaw15.fewField
def F97_e : Bool → PV × List Ob := fun r => (.one (lb r), [])
def F97 (n : Nat) (a0 : Field) : Option Bool :=
  some (decide ((a0.Text.size : Int) ≤ 40))
theorem F97_ok (n : Nat) (a0 : Field) : ∀ r, F97 n a0 = some r → D 97 [.agg [li .i64 a0.N, ls a0.Text]] [] = some (F97_e r) := by
  refine fn_to (D := D) (n := n + 8) (nt := 7) (rs := pc97_r) (c := pc97_c5) (L := [(0, .agg [lj a0.N, ls a0.Text])]) (M := []) (k := 0) rfl rfl rfl rfl rfl rfl rfl ?_
  unfold F97
  exact Sim.sr 2 [(2, qb false), (1, qp 1 0)] [(1, some (.cells [lj a0.N, ls a0.Text]))] (.sr 5 [(2, qb (decide ((a0.Text.size : Int) ≤ 40))), (6, qb (decide ((a0.Text.size : Int) ≤ 40))), (5, qj (a0.Text.size : Int)), (4, qs a0.Text), (3, qp 1 1)] [] (.ret .fn))


-- 56: vedette/vedettelaw15.fewThing
def F56_e : Bool → PV × List Ob := fun r => (.one (lb r), [])
def F56 (n : Nat) (a0 : Thing) : Option Bool :=
  (F97 n a0.F.a0).bind fun (r1 : Bool) =>
  if !(r1) then
    some false
  else
    (F97 n a0.F.a1).bind fun (r2 : Bool) =>
    if !(r2) then
      some false
    else
      (F97 n a0.F.a2).bind fun (r3 : Bool) =>
      if !(r3) then
        some false
      else
        (F97 n a0.F.a3).bind fun (r4 : Bool) =>
        if !(r4) then
          some false
        else
          some true
theorem F56_ok (n : Nat) (a0 : Thing) : ∀ r, F56 n a0 = some r → D 56 [.agg (Thing.cells a0)] [] = some (F56_e r) := by
  refine fn_to (D := D) (n := n + 8) (nt := 14) (rs := pc56_r) (c := pc56_c26) (L := [(0, .agg (Thing.cells a0))]) (M := []) (k := 0) rfl rfl rfl rfl rfl rfl rfl ?_
  unfold F56
  refine Sim.sr 2 [(2, qb false), (1, qp 1 0)] [(1, some (.cells (Thing.cells a0)))] (.seq (.sr 1 [(3, qj 0)] [] (.block (.loop (.succ (.seq (.seq (.rg [(1, qp 1 0), (3, qj 0)] [(1, some (.cells (Thing.cells a0)))] (.rd 2 [(5, qb true), (4, qj 0)] [] (.thenN (.condT (by kernel_rfl) (.skip (.thenN (.seq (.block (.st 4 [(11, .agg [lj a0.F.a0.N, ls a0.F.a0.Text]), (10, qp 1 3), (9, qp 1 3), (8, qj 0)] [] (.cl 12 true [[]] 97 [Operand.tmp 11] none (fun r1 => qb r1) [.agg [lj a0.F.a0.N, ls a0.F.a0.Text]] (F97_ok n a0.F.a0) (fun r1 => ?_))))))))))))))))))
  refine SimI.rd 1 [(13, qb (!(r1)))] [] (.thenN (.cond (!(r1)) (by kernel_rfl) ?_ ?_))
  · exact Sim.sr 1 [(2, qb false)] [] (.ret (.blockR (.thenR (.loopR (.blockR (.thenR .fn))))))
  · refine Sim.skip (.blockN (.thenN (.region0 (.rd 3 [(3, qj 1), (7, qj 1), (6, qj 0)] [] (.loopN (.succ (.seq (.seq (.rg [(1, qp 1 0), (3, qj 1)] [(1, some (.cells (Thing.cells a0)))] (.rd 2 [(5, qb true), (4, qj 1)] [] (.thenN (.condT (by kernel_rfl) (.skip (.thenN (.seq (.block (.st 4 [(11, .agg [lj a0.F.a1.N, ls a0.F.a1.Text]), (10, qp 1 5), (9, qp 1 3), (8, qj 1)] [] (.cl 12 true [[]] 97 [Operand.tmp 11] none (fun r2 => qb r2) [.agg [lj a0.F.a1.N, ls a0.F.a1.Text]] (F97_ok n a0.F.a1) (fun r2 => ?_)))))))))))))))))))
    refine SimI.rd 1 [(13, qb (!(r2)))] [] (.thenN (.cond (!(r2)) (by kernel_rfl) ?_ ?_))
    · exact Sim.sr 1 [(2, qb false)] [] (.ret (.blockR (.thenR (.loopR (.blockR (.thenR .fn))))))
    · refine Sim.skip (.blockN (.thenN (.region0 (.rd 3 [(3, qj 2), (7, qj 2), (6, qj 1)] [] (.loopN (.succ (.seq (.seq (.rg [(1, qp 1 0), (3, qj 2)] [(1, some (.cells (Thing.cells a0)))] (.rd 2 [(5, qb true), (4, qj 2)] [] (.thenN (.condT (by kernel_rfl) (.skip (.thenN (.seq (.block (.st 4 [(11, .agg [lj a0.F.a2.N, ls a0.F.a2.Text]), (10, qp 1 7), (9, qp 1 3), (8, qj 2)] [] (.cl 12 true [[]] 97 [Operand.tmp 11] none (fun r3 => qb r3) [.agg [lj a0.F.a2.N, ls a0.F.a2.Text]] (F97_ok n a0.F.a2) (fun r3 => ?_)))))))))))))))))))
      refine SimI.rd 1 [(13, qb (!(r3)))] [] (.thenN (.cond (!(r3)) (by kernel_rfl) ?_ ?_))
      · exact Sim.sr 1 [(2, qb false)] [] (.ret (.blockR (.thenR (.loopR (.blockR (.thenR .fn))))))
      · refine Sim.skip (.blockN (.thenN (.region0 (.rd 3 [(3, qj 3), (7, qj 3), (6, qj 2)] [] (.loopN (.succ (.seq (.seq (.rg [(1, qp 1 0), (3, qj 3)] [(1, some (.cells (Thing.cells a0)))] (.rd 2 [(5, qb true), (4, qj 3)] [] (.thenN (.condT (by kernel_rfl) (.skip (.thenN (.seq (.block (.st 4 [(11, .agg [lj a0.F.a3.N, ls a0.F.a3.Text]), (10, qp 1 9), (9, qp 1 3), (8, qj 3)] [] (.cl 12 true [[]] 97 [Operand.tmp 11] none (fun r4 => qb r4) [.agg [lj a0.F.a3.N, ls a0.F.a3.Text]] (F97_ok n a0.F.a3) (fun r4 => ?_)))))))))))))))))))
        refine SimI.rd 1 [(13, qb (!(r4)))] [] (.thenN (.cond (!(r4)) (by kernel_rfl) ?_ ?_))
        · exact Sim.sr 1 [(2, qb false)] [] (.ret (.blockR (.thenR (.loopR (.blockR (.thenR .fn))))))
        · exact Sim.skip (.blockN (.thenN (.region0 (.rd 3 [(3, qj 4), (7, qj 4), (6, qj 3)] [] (.loopN (.succ (.seq (.seq (.rg [(1, qp 1 0), (3, qj 4)] [(1, some (.cells (Thing.cells a0)))] (.rd 2 [(5, qb false), (4, qj 4)] [] (.thenN (.condF (by kernel_rfl) (.exit (.thenX (.loopX (.blockX (.thenN (.sr 1 [(2, qb true)] [] (.ret .fn)))))))))))))))))))


-- 43: vedette/vedettelaw15.fewThings
def F43_e : Bool → PV × List Ob := fun r => (.one (lb r), [])
def F43_l4 (n : Nat) (a0 : (List Thing)) : Nat → Int → Option Bool
  | 0, _ => none
  | m + 1, i3 =>
    if decide (i3 < ((a0).length : Int)) then
      (ix a0 i3).bind fun (x5 : Thing) =>
      (F56 n x5).bind fun (r6 : Bool) =>
      if !(r6) then
        some false
      else
        (F43_l4 n a0 m) (IntKind.wrap .i64 (i3 + 1))
    else
      some (decide (((a0).length : Int) ≤ 30))
theorem F43_l4_ok (n : Nat) (a0 : (List Thing)) : ∀ (m : Nat) (i3 : Int), SimL Try.prog D (n + 8) m pc43_c18 [(0, .one (vw Thing.cod a0)), (3, qj i3)] [] (F43_l4 n a0 m i3) (QB 0 (QT Try.prog D (n + 8) pc43_c24 (QF false pc43_r 0 F43_e))) := by
  intro m_l4
  induction m_l4 with
  | zero => intro i3; exact SimL.zero'  rfl
  | succ m_l4 ih_l4 =>
    intro i3
    refine SimL.succ ?_
    unfold F43_l4
    refine Sim.seq (.seq (.rg [(0, .one (vw Thing.cod a0)), (3, qj i3)] [] (.rd 4 [(7, qb (decide (i3 < ((a0).length : Int)))), (6, qj ((a0).length : Int)), (5, .one (vw Thing.cod a0)), (4, qj i3)] [] (.thenN (.cond (decide (i3 < ((a0).length : Int))) (by kernel_rfl) ?_ ?_)))))
    · refine Sim.skip (.thenN (.seq (.block (.st 2 [(11, qj i3), (10, .one (vw Thing.cod a0))] [] (.bind (og := ix a0 i3) ⟨some 12, POp.iaddrS 11 (Operand.tmp 10) (Operand.tmp 11), none, []⟩ (fun x5 => [(12, .one (.eptr (Thing.cod.enc x5) 0))]) (fun x5 => []) (by kernel_rfl) (fun x5 hr => pOp_eff (by kernel_rfl) (by kernel_rfl) (eff_idx (c := Thing.cod) (l := a0) (k := .i64) (n := i3) (by kernel_rfl) (by kernel_rfl) (by kernel_rfl) hr)) (fun x5 => ?_))))))
      refine SimI.rn 1 [(13, .agg (Thing.cells x5))] [] (.cl 14 true [[]] 56 [Operand.tmp 13] none (fun r6 => qb r6) [.agg (Thing.cells x5)] (F56_ok n x5) (fun r6 => ?_))
      refine SimI.rd 1 [(15, qb (!(r6)))] [] (.thenN (.cond (!(r6)) (by kernel_rfl) ?_ ?_))
      · exact Sim.sr 1 [(2, qb false)] [] (.ret (.blockR (.thenR (.loopR (.blockR (.thenR .fn))))))
      · refine Sim.skip (.blockN (.thenN (.region0 (.rd 3 [(3, qj (IntKind.wrap .i64 (i3 + 1))), (9, qj (IntKind.wrap .i64 (i3 + 1))), (8, qj i3)] [] (.loopN (.pr [0, 3] [] [] [(0, .one (vw Thing.cod a0)), (3, qj (IntKind.wrap .i64 (i3 + 1)))] [] ?_))))))
        exact ih_l4 (IntKind.wrap .i64 (i3 + 1))
    · exact Sim.exit (.thenX (.loopX (.blockX (.thenN (.sr 4 [(2, qb (decide (((a0).length : Int) ≤ 30))), (18, qb (decide (((a0).length : Int) ≤ 30))), (17, qj ((a0).length : Int)), (16, .one (vw Thing.cod a0))] [] (.ret .fn))))))

def F43 (n : Nat) (a0 : (List Thing)) : Option Bool :=
  F43_l4 n a0 (n + 8) 0
theorem F43_ok (n : Nat) (a0 : (List Thing)) : ∀ r, F43 n a0 = some r → D 43 [.one (vw Thing.cod a0)] [] = some (F43_e r) := by
  refine fn_to (D := D) (n := n + 8) (nt := 19) (rs := pc43_r) (c := pc43_c26) (L := [(0, .one (vw Thing.cod a0))]) (M := []) (k := 0) rfl rfl rfl rfl rfl rfl rfl ?_
  unfold F43
  refine Sim.sr 1 [(2, qb false)] [] (.seq (.sr 1 [(3, qj 0)] [] (.block (.loop (.pr [0, 3] [] [] [(0, .one (vw Thing.cod a0)), (3, qj 0)] [] ?_)))))
  exact F43_l4_ok n a0 (n + 8) 0


-- 44: vedette/vedettelaw15.fewEvents
def F44_e : Bool → PV × List Ob := fun r => (.one (lb r), [])
def F44_l4 (n : Nat) (a0 : (List Event)) : Nat → Int → Option Bool
  | 0, _ => none
  | m + 1, i3 =>
    if decide (i3 < ((a0).length : Int)) then
      (ix a0 i3).bind fun (x5 : Event) =>
      (F56 n x5.Thing).bind fun (r6 : Bool) =>
      if !(r6) then
        some false
      else
        (ix a0 i3).bind fun (x7 : Event) =>
        (F56 n (Thing.mk 0 (Point.mk 0 0) x7.Delta.F)).bind fun (r8 : Bool) =>
        if !(r8) then
          some false
        else
          (F44_l4 n a0 m) (IntKind.wrap .i64 (i3 + 1))
    else
      some (decide (((a0).length : Int) ≤ 30))
theorem F44_l4_ok (n : Nat) (a0 : (List Event)) : ∀ (m : Nat) (i3 : Int), SimL Try.prog D (n + 8) m pc44_c18 [(0, .one (vw Event.cod a0)), (3, qj i3)] [] (F44_l4 n a0 m i3) (QB 0 (QT Try.prog D (n + 8) pc44_c24 (QF false pc44_r 0 F44_e))) := by
  intro m_l4
  induction m_l4 with
  | zero => intro i3; exact SimL.zero'  rfl
  | succ m_l4 ih_l4 =>
    intro i3
    refine SimL.succ ?_
    unfold F44_l4
    refine Sim.seq (.seq (.rg [(0, .one (vw Event.cod a0)), (3, qj i3)] [] (.rd 4 [(7, qb (decide (i3 < ((a0).length : Int)))), (6, qj ((a0).length : Int)), (5, .one (vw Event.cod a0)), (4, qj i3)] [] (.thenN (.cond (decide (i3 < ((a0).length : Int))) (by kernel_rfl) ?_ ?_)))))
    · refine Sim.skip (.thenN (.seq (.block (.st 2 [(11, qj i3), (10, .one (vw Event.cod a0))] [] (.bind (og := ix a0 i3) ⟨some 12, POp.iaddrS 25 (Operand.tmp 10) (Operand.tmp 11), none, []⟩ (fun x5 => [(12, .one (.eptr (Event.cod.enc x5) 0))]) (fun x5 => []) (by kernel_rfl) (fun x5 hr => pOp_eff (by kernel_rfl) (by kernel_rfl) (eff_idx (c := Event.cod) (l := a0) (k := .i64) (n := i3) (by kernel_rfl) (by kernel_rfl) (by kernel_rfl) hr)) (fun x5 => ?_))))))
      refine SimI.rn 2 [(14, .agg (Thing.cells x5.Thing)), (13, .one (.eptr (Event.cod.enc x5) 2))] [] (.cl 15 true [[]] 56 [Operand.tmp 14] none (fun r6 => qb r6) [.agg (Thing.cells x5.Thing)] (F56_ok n x5.Thing) (fun r6 => ?_))
      refine SimI.rn 2 [(17, qb (!(r6))), (16, qb (!(r6)))] [] (.split 17 (!(r6)) (by kernel_rfl) ?_ ?_)
      · exact SimI.rd 10 [(27, qb true), (26, .tup []), (25, .tup []), (24, .tup []), (23, .tup []), (22, .tup []), (21, .tup []), (20, .tup []), (19, .tup []), (18, .tup [])] [] (.thenN (.condT (by kernel_rfl) (.sr 1 [(2, qb false)] [] (.ret (.blockR (.thenR (.loopR (.blockR (.thenR .fn)))))))))
      · refine SimI.rn 2 [(19, qj i3), (18, .one (vw Event.cod a0))] [] (.bind (og := ix a0 i3) ⟨some 20, POp.iaddrS 25 (Operand.tmp 18) (Operand.tmp 19), some (17, false), []⟩ (fun x7 => [(20, .one (.eptr (Event.cod.enc x7) 0))]) (fun x7 => []) (by kernel_rfl) (fun x7 hr => pOp_eff (by kernel_rfl) (by kernel_rfl) (eff_idx (c := Event.cod) (l := a0) (k := .i64) (n := i3) (by kernel_rfl) (by kernel_rfl) (by kernel_rfl) hr)) (fun x7 => ?_))
        refine SimI.rn 4 [(24, .agg [lj 0, lj 0, lj 0, lj x7.Delta.F.a0.N, ls x7.Delta.F.a0.Text, lj x7.Delta.F.a1.N, ls x7.Delta.F.a1.Text, lj x7.Delta.F.a2.N, ls x7.Delta.F.a2.Text, lj x7.Delta.F.a3.N, ls x7.Delta.F.a3.Text]), (23, .agg (A4_Field.cells x7.Delta.F)), (22, .one (.eptr (Event.cod.enc x7) 17)), (21, .one (.eptr (Event.cod.enc x7) 13))] [] (.cl 25 true [[]] 56 [Operand.tmp 24] (some (17, false)) (fun r8 => qb r8) [.agg [lj 0, lj 0, lj 0, lj x7.Delta.F.a0.N, ls x7.Delta.F.a0.Text, lj x7.Delta.F.a1.N, ls x7.Delta.F.a1.Text, lj x7.Delta.F.a2.N, ls x7.Delta.F.a2.Text, lj x7.Delta.F.a3.N, ls x7.Delta.F.a3.Text]] (F56_ok n (Thing.mk 0 (Point.mk 0 0) x7.Delta.F)) (fun r8 => ?_))
        refine SimI.rd 2 [(27, qb (!(r8))), (26, qb (!(r8)))] [] (.thenN (.cond (!(r8)) (by kernel_rfl) ?_ ?_))
        · exact Sim.sr 1 [(2, qb false)] [] (.ret (.blockR (.thenR (.loopR (.blockR (.thenR .fn))))))
        · refine Sim.skip (.blockN (.thenN (.region0 (.rd 3 [(3, qj (IntKind.wrap .i64 (i3 + 1))), (9, qj (IntKind.wrap .i64 (i3 + 1))), (8, qj i3)] [] (.loopN (.pr [0, 3] [] [] [(0, .one (vw Event.cod a0)), (3, qj (IntKind.wrap .i64 (i3 + 1)))] [] ?_))))))
          exact ih_l4 (IntKind.wrap .i64 (i3 + 1))
    · exact Sim.exit (.thenX (.loopX (.blockX (.thenN (.sr 4 [(2, qb (decide (((a0).length : Int) ≤ 30))), (30, qb (decide (((a0).length : Int) ≤ 30))), (29, qj ((a0).length : Int)), (28, .one (vw Event.cod a0))] [] (.ret .fn))))))

def F44 (n : Nat) (a0 : (List Event)) : Option Bool :=
  F44_l4 n a0 (n + 8) 0
theorem F44_ok (n : Nat) (a0 : (List Event)) : ∀ r, F44 n a0 = some r → D 44 [.one (vw Event.cod a0)] [] = some (F44_e r) := by
  refine fn_to (D := D) (n := n + 8) (nt := 31) (rs := pc44_r) (c := pc44_c26) (L := [(0, .one (vw Event.cod a0))]) (M := []) (k := 0) rfl rfl rfl rfl rfl rfl rfl ?_
  unfold F44
  refine Sim.sr 1 [(2, qb false)] [] (.seq (.sr 1 [(3, qj 0)] [] (.block (.loop (.pr [0, 3] [] [] [(0, .one (vw Event.cod a0)), (3, qj 0)] [] ?_)))))
  exact F44_l4_ok n a0 (n + 8) 0


-- 58: vedette/vedetteref3.On
def F58_e : Bool → PV × List Ob := fun r => (.one (lb r), [])
def F58 (n : Nat) (a0 : Point) : Option Bool :=
  if decide ((0 : Int) ≤ a0.X) then
    if decide (a0.X < 64) then
      if decide ((0 : Int) ≤ a0.Y) then
        some (decide (a0.Y < 64))
      else
        some false
    else
      some false
  else
    some false
theorem F58_ok (n : Nat) (a0 : Point) : ∀ r, F58 n a0 = some r → D 58 [.agg [li .i64 a0.X, li .i64 a0.Y]] [] = some (F58_e r) := by
  refine fn_to (D := D) (n := n + 8) (nt := 21) (rs := pc58_r) (c := pc58_c5) (L := [(0, .agg [lj a0.X, lj a0.Y])]) (M := []) (k := 0) rfl rfl rfl rfl rfl rfl rfl ?_
  unfold F58
  refine Sim.sr 2 [(2, qb false), (1, qp 1 0)] [(1, some (.cells [lj a0.X, lj a0.Y]))] (.st 4 [(6, qb (decide ((0 : Int) ≤ a0.X))), (5, qb (decide ((0 : Int) ≤ a0.X))), (4, qj a0.X), (3, qp 1 0)] [] (.split 6 (decide ((0 : Int) ≤ a0.X)) (by kernel_rfl) ?_ ?_))
  · refine SimI.rn 5 [(11, qb (decide (a0.X < 64))), (10, qb (decide (a0.X < 64))), (9, qb (decide (a0.X < 64))), (8, qj a0.X), (7, qp 1 0)] [] (.split 11 (decide (a0.X < 64)) (by kernel_rfl) ?_ ?_)
    · refine SimI.rn 5 [(16, qb (decide ((0 : Int) ≤ a0.Y))), (15, qb (decide ((0 : Int) ≤ a0.Y))), (14, qb (decide ((0 : Int) ≤ a0.Y))), (13, qj a0.Y), (12, qp 1 1)] [] (.split 16 (decide ((0 : Int) ≤ a0.Y)) (by kernel_rfl) ?_ ?_)
      · exact SimI.rd 5 [(2, qb (decide (a0.Y < 64))), (20, qb (decide (a0.Y < 64))), (19, qb (decide (a0.Y < 64))), (18, qj a0.Y), (17, qp 1 1)] [] (.thenN (.ret .fn))
      · exact SimI.rd 5 [(2, qb false), (20, qb false), (19, .tup []), (18, .tup []), (17, .tup [])] [] (.thenN (.ret .fn))
    · exact SimI.rd 10 [(2, qb false), (20, qb false), (19, .tup []), (18, .tup []), (17, .tup []), (16, qb false), (15, qb false), (14, .tup []), (13, .tup []), (12, .tup [])] [] (.thenN (.ret .fn))
  · exact SimI.rd 15 [(2, qb false), (20, qb false), (19, .tup []), (18, .tup []), (17, .tup []), (16, qb false), (15, qb false), (14, .tup []), (13, .tup []), (12, .tup []), (11, qb false), (10, qb false), (9, .tup []), (8, .tup []), (7, .tup [])] [] (.thenN (.ret .fn))


-- 59: vedette/vedetteref6.IsField
def F59_e : Bool → PV × List Ob := fun r => (.one (lb r), [])
def F59 (n : Nat) (a0 : Field) : Option Bool :=
  if a0.N == 0 then
    some (decide ((a0.Text.size : Int) ≤ 12))
  else
    if a0.Text.toList == ByteArray.empty.toList then
      some (decide ((a0.Text.size : Int) ≤ 12))
    else
      some false
theorem F59_ok (n : Nat) (a0 : Field) : ∀ r, F59 n a0 = some r → D 59 [.agg [li .i64 a0.N, ls a0.Text]] [] = some (F59_e r) := by
  refine fn_to (D := D) (n := n + 8) (nt := 17) (rs := pc59_r) (c := pc59_c5) (L := [(0, .agg [lj a0.N, ls a0.Text])]) (M := []) (k := 0) rfl rfl rfl rfl rfl rfl rfl ?_
  unfold F59
  refine Sim.sr 2 [(2, qb false), (1, qp 1 0)] [(1, some (.cells [lj a0.N, ls a0.Text]))] (.st 4 [(6, qb (a0.N == 0)), (5, qb (a0.N == 0)), (4, qj a0.N), (3, qp 1 0)] [] (.split 6 (a0.N == 0) (by kernel_rfl) ?_ ?_))
  · exact SimI.rd 11 [(2, qb (decide ((a0.Text.size : Int) ≤ 12))), (16, qb (decide ((a0.Text.size : Int) ≤ 12))), (15, qb (decide ((a0.Text.size : Int) ≤ 12))), (14, qj (a0.Text.size : Int)), (13, qs a0.Text), (12, qp 1 1), (11, qb true), (10, qb true), (9, .tup []), (8, .tup []), (7, .tup [])] [] (.thenN (.ret .fn))
  · refine SimI.rn 5 [(11, qb (a0.Text.toList == be.toList)), (10, qb (a0.Text.toList == be.toList)), (9, qb (a0.Text.toList == be.toList)), (8, qs a0.Text), (7, qp 1 1)] [] (.split 11 (a0.Text.toList == be.toList) (by kernel_rfl) ?_ ?_)
    · exact SimI.rd 6 [(2, qb (decide ((a0.Text.size : Int) ≤ 12))), (16, qb (decide ((a0.Text.size : Int) ≤ 12))), (15, qb (decide ((a0.Text.size : Int) ≤ 12))), (14, qj (a0.Text.size : Int)), (13, qs a0.Text), (12, qp 1 1)] [] (.thenN (.ret .fn))
    · exact SimI.rd 6 [(2, qb false), (16, qb false), (15, .tup []), (14, .tup []), (13, .tup []), (12, .tup [])] [] (.thenN (.ret .fn))


-- 18: vedette/vedetteref6.Is
def F18_e : Bool → PV × List Ob := fun r => (.one (lb r), [])
def F18_u15 (n : Nat) (b14 : Bool) : Option Bool :=
    some b14
theorem F18_u15_ok (n : Nat) (a0 : Thing) (b14 : Bool) : SimL Try.prog D (n + 8) (n + 4) pc18_c13 [(1, qp 1 0), (3, qb b14), (4, qj 4)] [(1, some (.cells (Thing.cells a0)))] (F18_u15 n b14) (QB 0 (QT Try.prog D (n + 8) pc18_c19 (QF false pc18_r 0 F18_e))) := by
    unfold F18_u15
    exact SimL.succ (.seq (.seq (.rg [(1, qp 1 0), (3, qb b14), (4, qj 4)] [(1, some (.cells (Thing.cells a0)))] (.rd 2 [(19, qb false), (18, qj 4)] [] (.thenN (.condF (by kernel_rfl) (.exit (.thenX (.loopX (.blockX (.thenN (.sr 2 [(2, qb b14), (30, qb b14)] [] (.ret .fn)))))))))))))

def F18_u12 (n : Nat) (a0 : Thing) (b11 : Bool) : Option Bool :=
    if b11 then
      (F59 n a0.F.a3).bind fun (r13 : Bool) =>
      F18_u15 n r13
    else
      F18_u15 n false
theorem F18_u12_ok (n : Nat) (a0 : Thing) (b11 : Bool) : SimL Try.prog D (n + 8) (n + 5) pc18_c13 [(1, qp 1 0), (3, qb b11), (4, qj 3)] [(1, some (.cells (Thing.cells a0)))] (F18_u12 n a0 b11) (QB 0 (QT Try.prog D (n + 8) pc18_c19 (QF false pc18_r 0 F18_e))) := by
    unfold F18_u12
    refine SimL.succ (.seq (.seq (.rg [(1, qp 1 0), (3, qb b11), (4, qj 3)] [(1, some (.cells (Thing.cells a0)))] (.rd 2 [(19, qb true), (18, qj 3)] [] (.thenN (.condT (by kernel_rfl) (.skip (.thenN (.seq (.block (.region0 (.rn 2 [(23, qb b11), (22, qb b11)] [] (.split 23 b11 (by kernel_rfl) ?_ ?_)))))))))))))
    · refine SimI.rn 4 [(27, .agg [lj a0.F.a3.N, ls a0.F.a3.Text]), (26, qp 1 9), (25, qp 1 3), (24, qj 3)] [] (.cl 28 true [[]] 59 [Operand.tmp 27] (some (23, true)) (fun r13 => qb r13) [.agg [lj a0.F.a3.N, ls a0.F.a3.Text]] (F59_ok n a0.F.a3) (fun r13 => ?_))
      refine SimI.rd 2 [(3, qb r13), (29, qb r13)] [] (.blockN (.thenN (.region0 (.rd 3 [(4, qj 4), (21, qj 4), (20, qj 3)] [] (.loopN (.pr [1, 3, 4] [1] [] [(1, qp 1 0), (3, qb r13), (4, qj 4)] [(1, some (.cells (Thing.cells a0)))] ?_))))))
      exact F18_u15_ok n a0 r13
    · refine SimI.rd 7 [(3, qb false), (29, qb false), (28, .tup []), (27, .tup []), (26, .tup []), (25, .tup []), (24, .tup [])] [] (.blockN (.thenN (.region0 (.rd 3 [(4, qj 4), (21, qj 4), (20, qj 3)] [] (.loopN (.pr [1, 3, 4] [1] [] [(1, qp 1 0), (3, qb false), (4, qj 4)] [(1, some (.cells (Thing.cells a0)))] ?_))))))
      exact F18_u15_ok n a0 false

def F18_u9 (n : Nat) (a0 : Thing) (b8 : Bool) : Option Bool :=
    if b8 then
      (F59 n a0.F.a2).bind fun (r10 : Bool) =>
      F18_u12 n a0 r10
    else
      F18_u12 n a0 false
theorem F18_u9_ok (n : Nat) (a0 : Thing) (b8 : Bool) : SimL Try.prog D (n + 8) (n + 6) pc18_c13 [(1, qp 1 0), (3, qb b8), (4, qj 2)] [(1, some (.cells (Thing.cells a0)))] (F18_u9 n a0 b8) (QB 0 (QT Try.prog D (n + 8) pc18_c19 (QF false pc18_r 0 F18_e))) := by
    unfold F18_u9
    refine SimL.succ (.seq (.seq (.rg [(1, qp 1 0), (3, qb b8), (4, qj 2)] [(1, some (.cells (Thing.cells a0)))] (.rd 2 [(19, qb true), (18, qj 2)] [] (.thenN (.condT (by kernel_rfl) (.skip (.thenN (.seq (.block (.region0 (.rn 2 [(23, qb b8), (22, qb b8)] [] (.split 23 b8 (by kernel_rfl) ?_ ?_)))))))))))))
    · refine SimI.rn 4 [(27, .agg [lj a0.F.a2.N, ls a0.F.a2.Text]), (26, qp 1 7), (25, qp 1 3), (24, qj 2)] [] (.cl 28 true [[]] 59 [Operand.tmp 27] (some (23, true)) (fun r10 => qb r10) [.agg [lj a0.F.a2.N, ls a0.F.a2.Text]] (F59_ok n a0.F.a2) (fun r10 => ?_))
      refine SimI.rd 2 [(3, qb r10), (29, qb r10)] [] (.blockN (.thenN (.region0 (.rd 3 [(4, qj 3), (21, qj 3), (20, qj 2)] [] (.loopN (.pr [1, 3, 4] [1] [] [(1, qp 1 0), (3, qb r10), (4, qj 3)] [(1, some (.cells (Thing.cells a0)))] ?_))))))
      exact F18_u12_ok n a0 r10
    · refine SimI.rd 7 [(3, qb false), (29, qb false), (28, .tup []), (27, .tup []), (26, .tup []), (25, .tup []), (24, .tup [])] [] (.blockN (.thenN (.region0 (.rd 3 [(4, qj 3), (21, qj 3), (20, qj 2)] [] (.loopN (.pr [1, 3, 4] [1] [] [(1, qp 1 0), (3, qb false), (4, qj 3)] [(1, some (.cells (Thing.cells a0)))] ?_))))))
      exact F18_u12_ok n a0 false

def F18_u6 (n : Nat) (a0 : Thing) (b5 : Bool) : Option Bool :=
    if b5 then
      (F59 n a0.F.a1).bind fun (r7 : Bool) =>
      F18_u9 n a0 r7
    else
      F18_u9 n a0 false
theorem F18_u6_ok (n : Nat) (a0 : Thing) (b5 : Bool) : SimL Try.prog D (n + 8) (n + 7) pc18_c13 [(1, qp 1 0), (3, qb b5), (4, qj 1)] [(1, some (.cells (Thing.cells a0)))] (F18_u6 n a0 b5) (QB 0 (QT Try.prog D (n + 8) pc18_c19 (QF false pc18_r 0 F18_e))) := by
    unfold F18_u6
    refine SimL.succ (.seq (.seq (.rg [(1, qp 1 0), (3, qb b5), (4, qj 1)] [(1, some (.cells (Thing.cells a0)))] (.rd 2 [(19, qb true), (18, qj 1)] [] (.thenN (.condT (by kernel_rfl) (.skip (.thenN (.seq (.block (.region0 (.rn 2 [(23, qb b5), (22, qb b5)] [] (.split 23 b5 (by kernel_rfl) ?_ ?_)))))))))))))
    · refine SimI.rn 4 [(27, .agg [lj a0.F.a1.N, ls a0.F.a1.Text]), (26, qp 1 5), (25, qp 1 3), (24, qj 1)] [] (.cl 28 true [[]] 59 [Operand.tmp 27] (some (23, true)) (fun r7 => qb r7) [.agg [lj a0.F.a1.N, ls a0.F.a1.Text]] (F59_ok n a0.F.a1) (fun r7 => ?_))
      refine SimI.rd 2 [(3, qb r7), (29, qb r7)] [] (.blockN (.thenN (.region0 (.rd 3 [(4, qj 2), (21, qj 2), (20, qj 1)] [] (.loopN (.pr [1, 3, 4] [1] [] [(1, qp 1 0), (3, qb r7), (4, qj 2)] [(1, some (.cells (Thing.cells a0)))] ?_))))))
      exact F18_u9_ok n a0 r7
    · refine SimI.rd 7 [(3, qb false), (29, qb false), (28, .tup []), (27, .tup []), (26, .tup []), (25, .tup []), (24, .tup [])] [] (.blockN (.thenN (.region0 (.rd 3 [(4, qj 2), (21, qj 2), (20, qj 1)] [] (.loopN (.pr [1, 3, 4] [1] [] [(1, qp 1 0), (3, qb false), (4, qj 2)] [(1, some (.cells (Thing.cells a0)))] ?_))))))
      exact F18_u9_ok n a0 false

def F18_j3 (n : Nat) (a0 : Thing) (b2 : Bool) : Option Bool :=
    if b2 then
      (F59 n a0.F.a0).bind fun (r4 : Bool) =>
      F18_u6 n a0 r4
    else
      F18_u6 n a0 false
theorem F18_j3_ok (n : Nat) (a0 : Thing) (b2 : Bool) : Sim Try.prog D (n + 8) pc18_c20 [(1, qp 1 0), (3, qb b2)] [(1, some (.cells (Thing.cells a0)))] (F18_j3 n a0 b2) (QF false pc18_r 0 F18_e) := by
    unfold F18_j3
    refine Sim.seq (.seq (.rg [(1, qp 1 0), (3, qb b2)] [(1, some (.cells (Thing.cells a0)))] (.rd 1 [(4, qj 0)] [] (.thenN (.block (.loop (.succ (.seq (.seq (.rg [(1, qp 1 0), (3, qb b2), (4, qj 0)] [(1, some (.cells (Thing.cells a0)))] (.rd 2 [(19, qb true), (18, qj 0)] [] (.thenN (.condT (by kernel_rfl) (.skip (.thenN (.seq (.block (.region0 (.rn 2 [(23, qb b2), (22, qb b2)] [] (.split 23 b2 (by kernel_rfl) ?_ ?_))))))))))))))))))))
    · refine SimI.rn 4 [(27, .agg [lj a0.F.a0.N, ls a0.F.a0.Text]), (26, qp 1 3), (25, qp 1 3), (24, qj 0)] [] (.cl 28 true [[]] 59 [Operand.tmp 27] (some (23, true)) (fun r4 => qb r4) [.agg [lj a0.F.a0.N, ls a0.F.a0.Text]] (F59_ok n a0.F.a0) (fun r4 => ?_))
      refine SimI.rd 2 [(3, qb r4), (29, qb r4)] [] (.blockN (.thenN (.region0 (.rd 3 [(4, qj 1), (21, qj 1), (20, qj 0)] [] (.loopN (.pr [1, 3, 4] [1] [] [(1, qp 1 0), (3, qb r4), (4, qj 1)] [(1, some (.cells (Thing.cells a0)))] ?_))))))
      exact F18_u6_ok n a0 r4
    · refine SimI.rd 7 [(3, qb false), (29, qb false), (28, .tup []), (27, .tup []), (26, .tup []), (25, .tup []), (24, .tup [])] [] (.blockN (.thenN (.region0 (.rd 3 [(4, qj 1), (21, qj 1), (20, qj 0)] [] (.loopN (.pr [1, 3, 4] [1] [] [(1, qp 1 0), (3, qb false), (4, qj 1)] [(1, some (.cells (Thing.cells a0)))] ?_))))))
      exact F18_u6_ok n a0 false

def F18 (n : Nat) (a0 : Thing) : Option Bool :=
  if decide ((0 : Int) ≤ a0.ID) then
    if decide (a0.ID ≤ 1000000) then
      (F58 n a0.At).bind fun (r1 : Bool) =>
      F18_j3 n a0 r1
    else
      F18_j3 n a0 false
  else
    F18_j3 n a0 false
theorem F18_ok (n : Nat) (a0 : Thing) : ∀ r, F18 n a0 = some r → D 18 [.agg (Thing.cells a0)] [] = some (F18_e r) := by
  refine fn_to (D := D) (n := n + 8) (nt := 31) (rs := pc18_r) (c := pc18_c22) (L := [(0, .agg (Thing.cells a0))]) (M := []) (k := 0) rfl rfl rfl rfl rfl rfl rfl ?_
  unfold F18
  refine Sim.sr 2 [(2, qb false), (1, qp 1 0)] [(1, some (.cells (Thing.cells a0)))] (.st 4 [(8, qb (decide ((0 : Int) ≤ a0.ID))), (7, qb (decide ((0 : Int) ≤ a0.ID))), (6, qj a0.ID), (5, qp 1 0)] [] (.split 8 (decide ((0 : Int) ≤ a0.ID)) (by kernel_rfl) ?_ ?_))
  · refine SimI.rn 5 [(13, qb (decide (a0.ID ≤ 1000000))), (12, qb (decide (a0.ID ≤ 1000000))), (11, qb (decide (a0.ID ≤ 1000000))), (10, qj a0.ID), (9, qp 1 0)] [] (.split 13 (decide (a0.ID ≤ 1000000)) (by kernel_rfl) ?_ ?_)
    · refine SimI.rn 2 [(15, .agg [lj a0.At.X, lj a0.At.Y]), (14, qp 1 1)] [] (.cl 16 true [[]] 58 [Operand.tmp 15] (some (13, true)) (fun r1 => qb r1) [.agg [lj a0.At.X, lj a0.At.Y]] (F58_ok n a0.At) (fun r1 => ?_))
      refine SimI.rd 2 [(3, qb r1), (17, qb r1)] [] (.thenN (.pr [1, 3] [1] [] [(1, qp 1 0), (3, qb r1)] [(1, some (.cells (Thing.cells a0)))] ?_))
      exact F18_j3_ok n a0 r1
    · refine SimI.rd 5 [(3, qb false), (17, qb false), (16, .tup []), (15, .tup []), (14, .tup [])] [] (.thenN (.pr [1, 3] [1] [] [(1, qp 1 0), (3, qb false)] [(1, some (.cells (Thing.cells a0)))] ?_))
      exact F18_j3_ok n a0 false
  · refine SimI.rd 10 [(3, qb false), (17, qb false), (16, .tup []), (15, .tup []), (14, .tup []), (13, qb false), (12, qb false), (11, .tup []), (10, .tup []), (9, .tup [])] [] (.thenN (.pr [1, 3] [1] [] [(1, qp 1 0), (3, qb false)] [(1, some (.cells (Thing.cells a0)))] ?_))
    exact F18_j3_ok n a0 false


-- 45: vedette/vedettelaw15.rising
def F45_e : Bool → PV × List Ob := fun r => (.one (lb r), [])
def F45_l4 (n : Nat) (a0 : (List Thing)) : Nat → Int → Option Bool
  | 0, _ => none
  | m + 1, i3 =>
    if decide (i3 < ((a0).length : Int)) then
      (ix a0 i3).bind fun (x5 : Thing) =>
      (F18 n x5).bind fun (r6 : Bool) =>
      if !(r6) then
        some false
      else
        if decide ((0 : Int) < i3) then
          (ix a0 i3).bind fun (x7 : Thing) =>
          (ix a0 (IntKind.wrap .i64 (i3 - 1))).bind fun (x8 : Thing) =>
          if decide (x7.ID ≤ x8.ID) then
            some false
          else
            (F45_l4 n a0 m) (IntKind.wrap .i64 (i3 + 1))
        else
          (F45_l4 n a0 m) (IntKind.wrap .i64 (i3 + 1))
    else
      some true
theorem F45_l4_ok (n : Nat) (a0 : (List Thing)) : ∀ (m : Nat) (i3 : Int), SimL Try.prog D (n + 8) m pc45_c18 [(0, .one (vw Thing.cod a0)), (3, qj i3)] [] (F45_l4 n a0 m i3) (QB 0 (QT Try.prog D (n + 8) pc45_c24 (QF false pc45_r 0 F45_e))) := by
  intro m_l4
  induction m_l4 with
  | zero => intro i3; exact SimL.zero'  rfl
  | succ m_l4 ih_l4 =>
    intro i3
    refine SimL.succ ?_
    unfold F45_l4
    refine Sim.seq (.seq (.rg [(0, .one (vw Thing.cod a0)), (3, qj i3)] [] (.rd 4 [(7, qb (decide (i3 < ((a0).length : Int)))), (6, qj ((a0).length : Int)), (5, .one (vw Thing.cod a0)), (4, qj i3)] [] (.thenN (.cond (decide (i3 < ((a0).length : Int))) (by kernel_rfl) ?_ ?_)))))
    · refine Sim.skip (.thenN (.seq (.block (.st 2 [(11, qj i3), (10, .one (vw Thing.cod a0))] [] (.bind (og := ix a0 i3) ⟨some 12, POp.iaddrS 11 (Operand.tmp 10) (Operand.tmp 11), none, [(10, Hint.imm), (11, Hint.imm)]⟩ (fun x5 => [(12, .one (.eptr (Thing.cod.enc x5) 0))]) (fun x5 => []) (by kernel_rfl) (fun x5 hr => pOp_eff (by kernel_rfl) (by kernel_rfl) (eff_idx (c := Thing.cod) (l := a0) (k := .i64) (n := i3) (by kernel_rfl) (by kernel_rfl) (by kernel_rfl) hr)) (fun x5 => ?_))))))
      refine SimI.rn 1 [(13, .agg (Thing.cells x5))] [] (.bind (og := F18 n x5) ⟨some 14, POp.call false [[]] 18 [Operand.tmp 13], none, [(13, Hint.imm)]⟩ (fun r6 => [(14, qb r6)]) (fun r6 => []) (by kernel_rfl) (fun r6 hr => pOp_eff (by kernel_rfl) (by kernel_rfl) (eff_call (ARGS := [.agg (Thing.cells x5)]) (by kernel_rfl) (args_clean (by kernel_rfl) args_nil) (F18_ok n x5 r6 hr) (by kernel_rfl))) (fun r6 => ?_))
      refine SimI.rn 2 [(16, qb (!(r6))), (15, qb (!(r6)))] [] (.split 16 (!(r6)) (by kernel_rfl) ?_ ?_)
      · exact SimI.rd 17 [(33, qb true), (32, .tup []), (31, .tup []), (30, .tup []), (29, .tup []), (28, .tup []), (27, .tup []), (26, .tup []), (25, .tup []), (24, .tup []), (23, .tup []), (22, .tup []), (21, .tup []), (20, .tup []), (19, .tup []), (18, .tup []), (17, .tup [])] [] (.thenN (.condT (by kernel_rfl) (.sr 1 [(2, qb false)] [] (.ret (.blockR (.thenR (.loopR (.blockR (.thenR .fn)))))))))
      · refine SimI.rn 3 [(19, qb (decide ((0 : Int) < i3))), (18, qb (decide ((0 : Int) < i3))), (17, qj i3)] [] (.split 19 (decide ((0 : Int) < i3)) (by kernel_rfl) ?_ ?_)
        · refine SimI.rn 2 [(21, qj i3), (20, .one (vw Thing.cod a0))] [] (.bind (og := ix a0 i3) ⟨some 22, POp.iaddrS 11 (Operand.tmp 20) (Operand.tmp 21), some (19, true), [(20, Hint.imm), (21, Hint.imm)]⟩ (fun x7 => [(22, .one (.eptr (Thing.cod.enc x7) 0))]) (fun x7 => []) (by kernel_rfl) (fun x7 hr => pOp_eff (by kernel_rfl) (by kernel_rfl) (eff_idx (c := Thing.cod) (l := a0) (k := .i64) (n := i3) (by kernel_rfl) (by kernel_rfl) (by kernel_rfl) hr)) (fun x7 => ?_))
          refine SimI.rn 5 [(27, qj (IntKind.wrap .i64 (i3 - 1))), (26, qj i3), (25, .one (vw Thing.cod a0)), (24, qj x7.ID), (23, .one (.eptr (Thing.cod.enc x7) 0))] [] (.bind (og := ix a0 (IntKind.wrap .i64 (i3 - 1))) ⟨some 28, POp.iaddrS 11 (Operand.tmp 25) (Operand.tmp 27), some (19, true), [(25, Hint.imm), (27, Hint.imm)]⟩ (fun x8 => [(28, .one (.eptr (Thing.cod.enc x8) 0))]) (fun x8 => []) (by kernel_rfl) (fun x8 hr => pOp_eff (by kernel_rfl) (by kernel_rfl) (eff_idx (c := Thing.cod) (l := a0) (k := .i64) (n := IntKind.wrap .i64 (i3 - 1)) (by kernel_rfl) (by kernel_rfl) (by kernel_rfl) hr)) (fun x8 => ?_))
          refine SimI.rd 5 [(33, qb (decide (x7.ID ≤ x8.ID))), (32, qb (decide (x7.ID ≤ x8.ID))), (31, qb (decide (x7.ID ≤ x8.ID))), (30, qj x8.ID), (29, .one (.eptr (Thing.cod.enc x8) 0))] [] (.thenN (.cond (decide (x7.ID ≤ x8.ID)) (by kernel_rfl) ?_ ?_))
          · exact Sim.sr 1 [(2, qb false)] [] (.ret (.blockR (.thenR (.loopR (.blockR (.thenR .fn))))))
          · refine Sim.skip (.blockN (.thenN (.region0 (.rd 3 [(3, qj (IntKind.wrap .i64 (i3 + 1))), (9, qj (IntKind.wrap .i64 (i3 + 1))), (8, qj i3)] [] (.loopN (.pr [0, 3] [] [] [(0, .one (vw Thing.cod a0)), (3, qj (IntKind.wrap .i64 (i3 + 1)))] [] ?_))))))
            exact ih_l4 (IntKind.wrap .i64 (i3 + 1))
        · refine SimI.rd 14 [(33, qb false), (32, qb false), (31, .tup []), (30, .tup []), (29, .tup []), (28, .tup []), (27, .tup []), (26, .tup []), (25, .tup []), (24, .tup []), (23, .tup []), (22, .tup []), (21, .tup []), (20, .tup [])] [] (.thenN (.condF (by kernel_rfl) (.skip (.blockN (.thenN (.region0 (.rd 3 [(3, qj (IntKind.wrap .i64 (i3 + 1))), (9, qj (IntKind.wrap .i64 (i3 + 1))), (8, qj i3)] [] (.loopN (.pr [0, 3] [] [] [(0, .one (vw Thing.cod a0)), (3, qj (IntKind.wrap .i64 (i3 + 1)))] [] ?_)))))))))
          exact ih_l4 (IntKind.wrap .i64 (i3 + 1))
    · exact Sim.exit (.thenX (.loopX (.blockX (.thenN (.sr 1 [(2, qb true)] [] (.ret .fn))))))

def F45 (n : Nat) (a0 : (List Thing)) : Option Bool :=
  F45_l4 n a0 (n + 8) 0
theorem F45_ok (n : Nat) (a0 : (List Thing)) : ∀ r, F45 n a0 = some r → D 45 [.one (vw Thing.cod a0)] [] = some (F45_e r) := by
  refine fn_to (D := D) (n := n + 8) (nt := 34) (rs := pc45_r) (c := pc45_c26) (L := [(0, .one (vw Thing.cod a0))]) (M := []) (k := 0) rfl rfl rfl rfl rfl rfl rfl ?_
  unfold F45
  refine Sim.sr 1 [(2, qb false)] [] (.seq (.sr 1 [(3, qj 0)] [] (.block (.loop (.pr [0, 3] [] [] [(0, .one (vw Thing.cod a0)), (3, qj 0)] [] ?_)))))
  exact F45_l4_ok n a0 (n + 8) 0


-- 50: vedette/vedetteref15.Same
def F50_e : Bool → PV × List Ob := fun r => (.one (lb r), [])
def F50_l4 (n : Nat) (a0 : (List Event)) (a1 : (List Event)) : Nat → Int → Option Bool
  | 0, _ => none
  | m + 1, i3 =>
    if decide (i3 < ((a0).length : Int)) then
      (ix a0 i3).bind fun (x5 : Event) =>
      (ix a1 i3).bind fun (x6 : Event) =>
      if !(Event.eqb x5 x6) then
        some false
      else
        (F50_l4 n a0 a1 m) (IntKind.wrap .i64 (i3 + 1))
    else
      some true
theorem F50_l4_ok (n : Nat) (a0 : (List Event)) (a1 : (List Event)) : ∀ (m : Nat) (i3 : Int), SimL Try.prog D (n + 8) m pc50_c25 [(0, .one (vw Event.cod a0)), (1, .one (vw Event.cod a1)), (5, qj i3)] [] (F50_l4 n a0 a1 m i3) (QB 0 (QT Try.prog D (n + 8) pc50_c31 (QF false pc50_r 0 F50_e))) := by
  intro m_l4
  induction m_l4 with
  | zero => intro i3; exact SimL.zero'  rfl
  | succ m_l4 ih_l4 =>
    intro i3
    refine SimL.succ ?_
    unfold F50_l4
    refine Sim.seq (.seq (.rg [(0, .one (vw Event.cod a0)), (1, .one (vw Event.cod a1)), (5, qj i3)] [] (.rd 4 [(14, qb (decide (i3 < ((a0).length : Int)))), (13, qj ((a0).length : Int)), (12, .one (vw Event.cod a0)), (11, qj i3)] [] (.thenN (.cond (decide (i3 < ((a0).length : Int))) (by kernel_rfl) ?_ ?_)))))
    · refine Sim.skip (.thenN (.seq (.block (.st 2 [(18, qj i3), (17, .one (vw Event.cod a0))] [] (.bind (og := ix a0 i3) ⟨some 19, POp.iaddrS 25 (Operand.tmp 17) (Operand.tmp 18), none, [(17, Hint.imm), (18, Hint.imm)]⟩ (fun x5 => [(19, .one (.eptr (Event.cod.enc x5) 0))]) (fun x5 => []) (by kernel_rfl) (fun x5 hr => pOp_eff (by kernel_rfl) (by kernel_rfl) (eff_idx (c := Event.cod) (l := a0) (k := .i64) (n := i3) (by kernel_rfl) (by kernel_rfl) (by kernel_rfl) hr)) (fun x5 => ?_))))))
      refine SimI.rn 3 [(22, qj i3), (21, .one (vw Event.cod a1)), (20, .agg (Event.cells x5))] [] (.bind (og := ix a1 i3) ⟨some 23, POp.iaddrS 25 (Operand.tmp 21) (Operand.tmp 22), none, [(21, Hint.imm), (22, Hint.imm)]⟩ (fun x6 => [(23, .one (.eptr (Event.cod.enc x6) 0))]) (fun x6 => []) (by kernel_rfl) (fun x6 hr => pOp_eff (by kernel_rfl) (by kernel_rfl) (eff_idx (c := Event.cod) (l := a1) (k := .i64) (n := i3) (by kernel_rfl) (by kernel_rfl) (by kernel_rfl) hr)) (fun x6 => ?_))
      refine SimI.rn 1 [(24, .agg (Event.cells x6))] [] (.step ⟨some 25, POp.prim (Prim.bin BinOp.neq 67 false false) [Operand.tmp 20, Operand.tmp 24], none, [(20, Hint.imm), (24, Hint.imm)]⟩ [(25, qb (!(Event.eqb x5 x6)))] [] (by kernel_rfl) (pOp_eff (by kernel_rfl) (by kernel_rfl) (eff_prim (by kernel_rfl) (Event_eqn x5 x6 _ _))) (.dn (.thenN (.cond (!(Event.eqb x5 x6)) (by kernel_rfl) ?_ ?_))))
      · exact Sim.sr 1 [(4, qb false)] [] (.ret (.blockR (.thenR (.loopR (.blockR (.thenR .fn))))))
      · refine Sim.skip (.blockN (.thenN (.region0 (.rd 3 [(5, qj (IntKind.wrap .i64 (i3 + 1))), (16, qj (IntKind.wrap .i64 (i3 + 1))), (15, qj i3)] [] (.loopN (.pr [0, 1, 5] [] [] [(0, .one (vw Event.cod a0)), (1, .one (vw Event.cod a1)), (5, qj (IntKind.wrap .i64 (i3 + 1)))] [] ?_))))))
        exact ih_l4 (IntKind.wrap .i64 (i3 + 1))
    · exact Sim.exit (.thenX (.loopX (.blockX (.thenN (.sr 1 [(4, qb true)] [] (.ret .fn))))))

def F50 (n : Nat) (a0 : (List Event)) (a1 : (List Event)) : Option Bool :=
  if ((a0).length : Int) != ((a1).length : Int) then
    some false
  else
    F50_l4 n a0 a1 (n + 8) 0
theorem F50_ok (n : Nat) (a0 : (List Event)) (a1 : (List Event)) : ∀ r, F50 n a0 a1 = some r → D 50 [.one (vw Event.cod a0), .one (vw Event.cod a1)] [] = some (F50_e r) := by
  refine fn_to (D := D) (n := n + 8) (nt := 26) (rs := pc50_r) (c := pc50_c34) (L := [(0, .one (vw Event.cod a0)), (1, .one (vw Event.cod a1))]) (M := []) (k := 0) rfl rfl rfl rfl rfl rfl rfl ?_
  unfold F50
  refine Sim.sr 1 [(4, qb false)] [] (.seq (.sr 5 [(10, qb (((a0).length : Int) != ((a1).length : Int))), (9, qj ((a1).length : Int)), (8, .one (vw Event.cod a1)), (7, qj ((a0).length : Int)), (6, .one (vw Event.cod a0))] [] (.cond (((a0).length : Int) != ((a1).length : Int)) (by kernel_rfl) ?_ ?_)))
  · exact Sim.sr 1 [(4, qb false)] [] (.ret (.thenR .fn))
  · refine Sim.skip (.thenN (.seq (.sr 1 [(5, qj 0)] [] (.block (.loop (.pr [0, 1, 5] [] [] [(0, .one (vw Event.cod a0)), (1, .one (vw Event.cod a1)), (5, qj 0)] [] ?_))))))
    exact F50_l4_ok n a0 a1 (n + 8) 0


-- 12: vedette/vedettelaw15.EventBack
def F12_e : Bool → PV × List Ob := fun r => (.one (lb r), [])
def F12_j11 (n : Nat) (a1 : (List Event)) (a2 : ByteArray) : Option Bool :=
    (F46 n a1).bind fun (r12 : (ByteArray × Int)) =>
    if r12.2 != 0 then
      if r12.1.toList == ByteArray.empty.toList then
        some (r12.2 == 11)
      else
        some false
    else
      if r12.1.size + a2.size ≤ 9223372036854775807 then
        (F54 n (r12.1 ++ a2)).bind fun (r13 : ((List Event) × Int × Int)) =>
        if r13.2.2 == 0 then
          if r13.2.1 == (r12.1.size : Int) then
            (F50 n r13.1 a1).bind fun (r14 : Bool) =>
            some r14
          else
            some false
        else
          some false
      else none
theorem F12_j11_ok (n : Nat) (a1 : (List Event)) (a2 : ByteArray) : Sim Try.prog D (n + 8) pc12_c39 [(1, .one (vw Event.cod a1)), (2, qs a2)] [] (F12_j11 n a1 a2) (QF false pc12_r 0 F12_e) := by
    unfold F12_j11
    refine Sim.seq (.rg [(1, .one (vw Event.cod a1)), (2, qs a2)] [] (.rn 1 [(63, .one (vw Event.cod a1))] [] (.cl 64 true [[(0, 25)]] 46 [Operand.tmp 63] none (fun r12 => .tup [qs r12.1, qj r12.2]) [.one (vw Event.cod a1)] (F46_ok n a1) (fun r12 => ?_))))
    refine SimI.rd 5 [(11, qj r12.2), (10, qs r12.1), (66, qj r12.2), (65, qs r12.1), (62, .tup [qs r12.1, qj r12.2])] [] (.thenN (.seq (.sr 2 [(68, qb (r12.2 != 0)), (67, qj r12.2)] [] (.cond (r12.2 != 0) (by kernel_rfl) ?_ ?_))))
    · refine Sim.st 3 [(71, qb (r12.1.toList == be.toList)), (70, qb (r12.1.toList == be.toList)), (69, qs r12.1)] [] (.split 71 (r12.1.toList == be.toList) (by kernel_rfl) ?_ ?_)
      · exact SimI.rd 4 [(6, qb (r12.2 == 11)), (74, qb (r12.2 == 11)), (73, qb (r12.2 == 11)), (72, qj r12.2)] [] (.thenN (.ret (.thenR .fn)))
      · exact SimI.rd 4 [(6, qb false), (74, qb false), (73, .tup []), (72, .tup [])] [] (.thenN (.ret (.thenR .fn)))
    · refine Sim.skip (.thenN (.st 2 [(77, qs a2), (76, qs r12.1)] [] (.guard (c := r12.1.size + a2.size ≤ 9223372036854775807) ⟨some 78, POp.prim (Prim.bin BinOp.add 9 false false) [Operand.tmp 76, Operand.tmp 77], none, []⟩ [(78, qs (r12.1 ++ a2))] [] (by kernel_rfl) (fun hc => pOp_eff (by kernel_rfl) (by kernel_rfl) (eff_prim (by kernel_rfl) (pr_addS _ _ _ r12.1 a2 hc))) (.cl 79 true [[]] 54 [Operand.tmp 78] none (fun r13 => .tup [.one (vw Event.cod r13.1), qj r13.2.1, qj r13.2.2]) [qs (r12.1 ++ a2)] (F54_ok n (r12.1 ++ a2)) (fun r13 => ?_)))))
      refine SimI.rd 7 [(14, qj r13.2.2), (13, qj r13.2.1), (12, .one (vw Event.cod r13.1)), (82, qj r13.2.2), (81, qj r13.2.1), (80, .one (vw Event.cod r13.1)), (75, .tup [.one (vw Event.cod r13.1), qj r13.2.1, qj r13.2.2])] [] (.thenN (.st 3 [(85, qb (r13.2.2 == 0)), (84, qb (r13.2.2 == 0)), (83, qj r13.2.2)] [] (.split 85 (r13.2.2 == 0) (by kernel_rfl) ?_ ?_)))
      · refine SimI.rn 6 [(91, qb (r13.2.1 == (r12.1.size : Int))), (90, qb (r13.2.1 == (r12.1.size : Int))), (89, qb (r13.2.1 == (r12.1.size : Int))), (88, qj (r12.1.size : Int)), (87, qs r12.1), (86, qj r13.2.1)] [] (.split 91 (r13.2.1 == (r12.1.size : Int)) (by kernel_rfl) ?_ ?_)
        · refine SimI.rn 2 [(93, .one (vw Event.cod a1)), (92, .one (vw Event.cod r13.1))] [] (.cl 94 true [[(0, 25)], [(0, 25)]] 50 [Operand.tmp 92, Operand.tmp 93] (some (91, true)) (fun r14 => qb r14) [.one (vw Event.cod r13.1), .one (vw Event.cod a1)] (F50_ok n r13.1 a1) (fun r14 => ?_))
          exact SimI.rd 2 [(6, qb r14), (95, qb r14)] [] (.thenN (.ret .fn))
        · exact SimI.rd 5 [(6, qb false), (95, qb false), (94, .tup []), (93, .tup []), (92, .tup [])] [] (.thenN (.ret .fn))
      · exact SimI.rd 11 [(6, qb false), (95, qb false), (94, .tup []), (93, .tup []), (92, .tup []), (91, qb false), (90, qb false), (89, .tup []), (88, .tup []), (87, .tup []), (86, .tup [])] [] (.thenN (.ret .fn))

def F12 (n : Nat) (a0 : (List Thing)) (a1 : (List Event)) (a2 : ByteArray) : Option Bool :=
  ((some true)).bind fun (r1 : Bool) =>
  if !(r1) then
    some false
  else
    (F43 n a0).bind fun (r2 : Bool) =>
    if !(r2) then
      some true
    else
      (F44 n a1).bind fun (r3 : Bool) =>
      if !(r3) then
        some true
      else
        (F45 n a0).bind fun (r4 : Bool) =>
        if !(r4) then
          some true
        else
          if decide ((50 : Int) < (a2.size : Int)) then
            some true
          else
            if (a0).length * 120 ≤ maxCells ∧ (a0).length ≤ maxCells then
              (F40 n a0 a1).bind fun (r5 : ((List Thing) × Bool)) =>
              if !(r5.2) then
                (F34 n r5.1 a0).bind fun (r6 : Bool) =>
                if !(r6) then
                  some false
                else
                  (F34 n a0 a0).bind fun (r7 : Bool) =>
                  if !(r7) then
                    some false
                  else
                    (F45 n r5.1).bind fun (r8 : Bool) =>
                    if !(r8) then
                      some false
                    else
                      F12_j11 n a1 a2
              else
                (F34 n a0 a0).bind fun (r9 : Bool) =>
                if !(r9) then
                  some false
                else
                  (F45 n r5.1).bind fun (r10 : Bool) =>
                  if !(r10) then
                    some false
                  else
                    F12_j11 n a1 a2
            else none
theorem F12_ok (n : Nat) (a0 : (List Thing)) (a1 : (List Event)) (a2 : ByteArray) : ∀ r, F12 n a0 a1 a2 = some r → D 12 [.one (vw Thing.cod a0), .one (vw Event.cod a1), .one (ls a2)] [] = some (F12_e r) := by
  refine fn_to (D := D) (n := n + 8) (nt := 96) (rs := pc12_r) (c := pc12_c45) (L := [(0, .one (vw Thing.cod a0)), (1, .one (vw Event.cod a1)), (2, qs a2)]) (M := []) (k := 0) rfl rfl rfl rfl rfl rfl rfl ?_
  unfold F12
  refine Sim.sr 1 [(6, qb false)] [] (.seq (.seq (.region0 (.cl 15 true [] 42 [] none (fun r1 => qb r1) [] (F42_ok n) (fun r1 => ?_)))))
  refine SimI.rd 1 [(16, qb (!(r1)))] [] (.thenN (.cond (!(r1)) (by kernel_rfl) ?_ ?_))
  · exact Sim.sr 1 [(6, qb false)] [] (.ret (.thenR .fn))
  · refine Sim.skip (.thenN (.seq (.st 1 [(17, .one (vw Thing.cod a0))] [] (.cl 18 true [[(0, 11)]] 43 [Operand.tmp 17] none (fun r2 => qb r2) [.one (vw Thing.cod a0)] (F43_ok n a0) (fun r2 => ?_)))))
    refine SimI.rn 2 [(20, qb (!(r2))), (19, qb (!(r2)))] [] (.split 20 (!(r2)) (by kernel_rfl) ?_ ?_)
    · exact SimI.rd 14 [(34, qb true), (33, .tup []), (32, .tup []), (31, .tup []), (30, qb true), (29, qb true), (28, .tup []), (27, .tup []), (26, .tup []), (25, qb true), (24, qb true), (23, .tup []), (22, .tup []), (21, .tup [])] [] (.thenN (.condT (by kernel_rfl) (.sr 1 [(6, qb true)] [] (.ret (.thenR .fn)))))
    · refine SimI.rn 1 [(21, .one (vw Event.cod a1))] [] (.cl 22 true [[(0, 25)]] 44 [Operand.tmp 21] (some (20, false)) (fun r3 => qb r3) [.one (vw Event.cod a1)] (F44_ok n a1) (fun r3 => ?_))
      refine SimI.rn 3 [(25, qb (!(r3))), (24, qb (!(r3))), (23, qb (!(r3)))] [] (.split 25 (!(r3)) (by kernel_rfl) ?_ ?_)
      · exact SimI.rd 9 [(34, qb true), (33, .tup []), (32, .tup []), (31, .tup []), (30, qb true), (29, qb true), (28, .tup []), (27, .tup []), (26, .tup [])] [] (.thenN (.condT (by kernel_rfl) (.sr 1 [(6, qb true)] [] (.ret (.thenR .fn)))))
      · refine SimI.rn 1 [(26, .one (vw Thing.cod a0))] [] (.cl 27 true [[(0, 11)]] 45 [Operand.tmp 26] (some (25, false)) (fun r4 => qb r4) [.one (vw Thing.cod a0)] (F45_ok n a0) (fun r4 => ?_))
        refine SimI.rn 3 [(30, qb (!(r4))), (29, qb (!(r4))), (28, qb (!(r4)))] [] (.split 30 (!(r4)) (by kernel_rfl) ?_ ?_)
        · exact SimI.rd 4 [(34, qb true), (33, .tup []), (32, .tup []), (31, .tup [])] [] (.thenN (.condT (by kernel_rfl) (.sr 1 [(6, qb true)] [] (.ret (.thenR .fn)))))
        · refine SimI.rd 4 [(34, qb (decide ((50 : Int) < (a2.size : Int)))), (33, qb (decide ((50 : Int) < (a2.size : Int)))), (32, qj (a2.size : Int)), (31, qs a2)] [] (.thenN (.cond (decide ((50 : Int) < (a2.size : Int))) (by kernel_rfl) ?_ ?_))
          · exact Sim.sr 1 [(6, qb true)] [] (.ret (.thenR .fn))
          · refine Sim.skip (.thenN (.st 1 [(35, .one (vw Thing.cod a0))] [] (.guard (c := (a0).length * 120 ≤ maxCells ∧ (a0).length ≤ maxCells) ⟨some 36, POp.app 100036 28 11 120 (Operand.const (Value.slice none 0 0)) (Operand.tmp 35), none, []⟩ [(36, .one (.osl 100036 0 0 (a0).length))] [(100036, some (.arr 28 Thing.cod.sz 0 (a0).length (getOf Thing.cod a0)))] (by kernel_rfl) (fun hc => pOp_eff (by kernel_rfl) (by kernel_rfl) (eff_appNL (c := Thing.cod) (l := a0) (by kernel_rfl) (by kernel_rfl) (by kernel_rfl) (by kernel_rfl) (by kernel_rfl) hc)) (.rd 1 [(7, .one (.osl 100036 0 0 (a0).length))] [] (.thenN (.st 2 [(39, .one (vw Event.cod a1)), (38, .one (vw Thing.cod a0))] [] (.cl 40 true [[(0, 11)], [(0, 25)]] 40 [Operand.tmp 38, Operand.tmp 39] none (fun r5 => .tup [.one (vw Thing.cod r5.1), qb r5.2]) [.one (vw Thing.cod a0), .one (vw Event.cod a1)] (F40_ok n a0 a1) (fun r5 => ?_))))))))
            refine SimI.rd 5 [(9, qb r5.2), (8, .one (vw Thing.cod r5.1)), (42, qb r5.2), (41, .one (vw Thing.cod r5.1)), (37, .tup [.one (vw Thing.cod r5.1), qb r5.2])] [] (.thenN (.seq (.st 3 [(45, qb (!(r5.2))), (44, qb (!(r5.2))), (43, qb r5.2)] [] (.split 45 (!(r5.2)) (by kernel_rfl) ?_ ?_))))
            · refine SimI.rn 2 [(47, .one (vw Thing.cod a0)), (46, .one (vw Thing.cod r5.1))] [] (.cl 48 true [[(0, 11)], [(0, 11)]] 34 [Operand.tmp 46, Operand.tmp 47] (some (45, true)) (fun r6 => qb r6) [.one (vw Thing.cod r5.1), .one (vw Thing.cod a0)] (F34_ok n r5.1 a0) (fun r6 => ?_))
              refine SimI.rn 3 [(51, qb (!(r6))), (50, qb (!(r6))), (49, qb (!(r6)))] [] (.split 51 (!(r6)) (by kernel_rfl) ?_ ?_)
              · exact SimI.rd 10 [(61, qb true), (60, .tup []), (59, .tup []), (58, .tup []), (57, qb true), (56, qb true), (55, .tup []), (54, .tup []), (53, .tup []), (52, .tup [])] [] (.thenN (.condT (by kernel_rfl) (.sr 1 [(6, qb false)] [] (.ret (.thenR .fn)))))
              · refine SimI.rn 2 [(53, .one (vw Thing.cod a0)), (52, .one (.osl 100036 0 0 (a0).length))] [] (.bind (og := F34 n a0 a0) ⟨some 54, POp.call true [[(0, 11)], [(0, 11)]] 34 [Operand.tmp 52, Operand.tmp 53], some (51, false), []⟩ (fun r7 => [(54, qb r7)]) (fun r7 => []) (by kernel_rfl) (fun r7 hr => pOp_eff (by kernel_rfl) (by kernel_rfl) (eff_call (ARGS := [.one (.osl 100036 0 0 (a0).length), .one (vw Thing.cod a0)]) (by kernel_rfl) (args_own (c := Thing.cod) (k := 100036) (g := 0) (el := 28) (l := a0) (by kernel_rfl) (args_clean (by kernel_rfl) args_nil)) (F34_ok n a0 a0 r7 hr) (by kernel_rfl))) (fun r7 => ?_))
                refine SimI.rn 3 [(57, qb (!(r7))), (56, qb (!(r7))), (55, qb (!(r7)))] [] (.split 57 (!(r7)) (by kernel_rfl) ?_ ?_)
                · exact SimI.rd 4 [(61, qb true), (60, .tup []), (59, .tup []), (58, .tup [])] [] (.thenN (.condT (by kernel_rfl) (.sr 1 [(6, qb false)] [] (.ret (.thenR .fn)))))
                · refine SimI.rn 1 [(58, .one (vw Thing.cod r5.1))] [] (.cl 59 true [[(0, 11)]] 45 [Operand.tmp 58] (some (57, false)) (fun r8 => qb r8) [.one (vw Thing.cod r5.1)] (F45_ok n r5.1) (fun r8 => ?_))
                  refine SimI.rd 2 [(61, qb (!(r8))), (60, qb (!(r8)))] [] (.thenN (.cond (!(r8)) (by kernel_rfl) ?_ ?_))
                  · exact Sim.sr 1 [(6, qb false)] [] (.ret (.thenR .fn))
                  · refine Sim.skip (.thenN (.pr [1, 2] [100036] [] [(1, .one (vw Event.cod a1)), (2, qs a2)] [] ?_))
                    exact F12_j11_ok n a1 a2
            · refine SimI.rn 8 [(53, .one (vw Thing.cod a0)), (52, .one (.osl 100036 0 0 (a0).length)), (51, qb false), (50, qb false), (49, .tup []), (48, .tup []), (47, .tup []), (46, .tup [])] [] (.bind (og := F34 n a0 a0) ⟨some 54, POp.call true [[(0, 11)], [(0, 11)]] 34 [Operand.tmp 52, Operand.tmp 53], some (51, false), []⟩ (fun r9 => [(54, qb r9)]) (fun r9 => []) (by kernel_rfl) (fun r9 hr => pOp_eff (by kernel_rfl) (by kernel_rfl) (eff_call (ARGS := [.one (.osl 100036 0 0 (a0).length), .one (vw Thing.cod a0)]) (by kernel_rfl) (args_own (c := Thing.cod) (k := 100036) (g := 0) (el := 28) (l := a0) (by kernel_rfl) (args_clean (by kernel_rfl) args_nil)) (F34_ok n a0 a0 r9 hr) (by kernel_rfl))) (fun r9 => ?_))
              refine SimI.rn 3 [(57, qb (!(r9))), (56, qb (!(r9))), (55, qb (!(r9)))] [] (.split 57 (!(r9)) (by kernel_rfl) ?_ ?_)
              · exact SimI.rd 4 [(61, qb true), (60, .tup []), (59, .tup []), (58, .tup [])] [] (.thenN (.condT (by kernel_rfl) (.sr 1 [(6, qb false)] [] (.ret (.thenR .fn)))))
              · refine SimI.rn 1 [(58, .one (vw Thing.cod r5.1))] [] (.cl 59 true [[(0, 11)]] 45 [Operand.tmp 58] (some (57, false)) (fun r10 => qb r10) [.one (vw Thing.cod r5.1)] (F45_ok n r5.1) (fun r10 => ?_))
                refine SimI.rd 2 [(61, qb (!(r10))), (60, qb (!(r10)))] [] (.thenN (.cond (!(r10)) (by kernel_rfl) ?_ ?_))
                · exact Sim.sr 1 [(6, qb false)] [] (.ret (.thenR .fn))
                · refine Sim.skip (.thenN (.pr [1, 2] [100036] [] [(1, .one (vw Event.cod a1)), (2, qs a2)] [] ?_))
                  exact F12_j11_ok n a1 a2


end Go.Proofs.Ytobeamaaifgllaa
