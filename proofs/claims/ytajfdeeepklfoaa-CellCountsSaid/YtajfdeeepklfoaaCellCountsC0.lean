/-
  Code of functions, as the pure machine runs it. No condition.
-/
import Derived.Test.YtajfdeeepklfoaaCellCountsT
namespace Go.Proofs.Ytajfdeeepklfoaa
open Go Go.Rx
set_option maxRecDepth 100000
set_option linter.unusedVariables false
set_option linter.unusedSimpArgs false
-- 23: vedette/vedetteref3.In
def pc23_o1 : List POper := [{ dst := some 2, op := POp.box 24 (Operand.tmp 0), guard := none, hints := [] },
  { dst := some 3, op := POp.box 34 (Operand.tmp 1), guard := none, hints := [] },
  { dst := some 4, op := POp.mv (Operand.const (Value.bool false)), guard := none, hints := [] }]
def pc23_c1 : PCode := .region none false pc23_o1
def pc23_o2 : List POper := [{ dst := some 5, op := POp.faddr 0 (Operand.tmp 2), guard := none, hints := [] },
  { dst := some 6, op := POp.load false 1 (Operand.tmp 5), guard := none, hints := [] },
  { dst := some 7, op := POp.faddr 0 (Operand.tmp 3), guard := none, hints := [] },
  { dst := some 8, op := POp.load false 1 (Operand.tmp 7), guard := none, hints := [] },
  { dst := some 9, op := POp.prim (Prim.bin BinOp.leq 3 false false) [Operand.tmp 6, Operand.tmp 8], guard := none, hints := [] },
  { dst := some 10, op := POp.mv (Operand.tmp 9), guard := none, hints := [] },
  { dst := some 11, op := POp.faddr 0 (Operand.tmp 3), guard := some (10, true), hints := [] },
  { dst := some 12, op := POp.load false 1 (Operand.tmp 11), guard := some (10, true), hints := [] },
  { dst := some 13, op := POp.faddr 2 (Operand.tmp 2), guard := some (10, true), hints := [] },
  { dst := some 14, op := POp.load false 1 (Operand.tmp 13), guard := some (10, true), hints := [] },
  { dst := some 15, op := POp.prim (Prim.bin BinOp.lss 3 false false) [Operand.tmp 12, Operand.tmp 14], guard := some (10, true), hints := [] },
  { dst := some 16, op := POp.pick (Operand.tmp 10) (Operand.tmp 15) (Operand.const (Value.bool false)), guard := none, hints := [] },
  { dst := some 17, op := POp.mv (Operand.tmp 16), guard := none, hints := [] },
  { dst := some 18, op := POp.faddr 1 (Operand.tmp 2), guard := some (17, true), hints := [] },
  { dst := some 19, op := POp.load false 1 (Operand.tmp 18), guard := some (17, true), hints := [] },
  { dst := some 20, op := POp.faddr 1 (Operand.tmp 3), guard := some (17, true), hints := [] },
  { dst := some 21, op := POp.load false 1 (Operand.tmp 20), guard := some (17, true), hints := [] },
  { dst := some 22, op := POp.prim (Prim.bin BinOp.leq 3 false false) [Operand.tmp 19, Operand.tmp 21], guard := some (17, true), hints := [] },
  { dst := some 23, op := POp.pick (Operand.tmp 17) (Operand.tmp 22) (Operand.const (Value.bool false)), guard := none, hints := [] },
  { dst := some 24, op := POp.mv (Operand.tmp 23), guard := none, hints := [] },
  { dst := some 25, op := POp.faddr 1 (Operand.tmp 3), guard := some (24, true), hints := [] },
  { dst := some 26, op := POp.load false 1 (Operand.tmp 25), guard := some (24, true), hints := [] },
  { dst := some 27, op := POp.faddr 3 (Operand.tmp 2), guard := some (24, true), hints := [] },
  { dst := some 28, op := POp.load false 1 (Operand.tmp 27), guard := some (24, true), hints := [] },
  { dst := some 29, op := POp.prim (Prim.bin BinOp.lss 3 false false) [Operand.tmp 26, Operand.tmp 28], guard := some (24, true), hints := [] },
  { dst := some 30, op := POp.pick (Operand.tmp 24) (Operand.tmp 29) (Operand.const (Value.bool false)), guard := none, hints := [] },
  { dst := some 4, op := POp.mv (Operand.tmp 30), guard := none, hints := [] }]
def pc23_c2 : PCode := .region none false pc23_o2
def pc23_c3 : PCode := .ret
def pc23_c4 : PCode := .seq pc23_c2 pc23_c3
def pc23_c5 : PCode := .seq pc23_c1 pc23_c4
def pc23_r : List PRes := [PRes.tmp 4 []]
def pc23 : PFunc := ⟨31, pc23_r, pc23_c5⟩
def pc23_a : Ann := {
  kr := fun
    | _ => none
  ka := fun
    | _ => 0
  kh := fun
    | _ => none }
theorem pc23_ok : compFn Try.prog pc23_a Try.f23 = some pc23 := by kernel_rfl


-- 52: vedette/geom.On
def pc52_o1 : List POper := [{ dst := some 1, op := POp.box 34 (Operand.tmp 0), guard := none, hints := [] },
  { dst := some 2, op := POp.mv (Operand.const (Value.bool false)), guard := none, hints := [] }]
def pc52_c1 : PCode := .region none false pc52_o1
def pc52_o2 : List POper := [{ dst := some 3, op := POp.faddr 0 (Operand.tmp 1), guard := none, hints := [] },
  { dst := some 4, op := POp.load false 1 (Operand.tmp 3), guard := none, hints := [] },
  { dst := some 5, op := POp.prim (Prim.bin BinOp.geq 3 false true) [Operand.tmp 4, Operand.const (Value.int IntKind.i64 0)], guard := none, hints := [] },
  { dst := some 6, op := POp.mv (Operand.tmp 5), guard := none, hints := [] },
  { dst := some 7, op := POp.faddr 0 (Operand.tmp 1), guard := some (6, true), hints := [] },
  { dst := some 8, op := POp.load false 1 (Operand.tmp 7), guard := some (6, true), hints := [] },
  { dst := some 9, op := POp.prim (Prim.bin BinOp.lss 3 false true) [Operand.tmp 8, Operand.const (Value.int IntKind.i64 64)], guard := some (6, true), hints := [] },
  { dst := some 10, op := POp.pick (Operand.tmp 6) (Operand.tmp 9) (Operand.const (Value.bool false)), guard := none, hints := [] },
  { dst := some 11, op := POp.mv (Operand.tmp 10), guard := none, hints := [] },
  { dst := some 12, op := POp.faddr 1 (Operand.tmp 1), guard := some (11, true), hints := [] },
  { dst := some 13, op := POp.load false 1 (Operand.tmp 12), guard := some (11, true), hints := [] },
  { dst := some 14, op := POp.prim (Prim.bin BinOp.geq 3 false true) [Operand.tmp 13, Operand.const (Value.int IntKind.i64 0)], guard := some (11, true), hints := [] },
  { dst := some 15, op := POp.pick (Operand.tmp 11) (Operand.tmp 14) (Operand.const (Value.bool false)), guard := none, hints := [] },
  { dst := some 16, op := POp.mv (Operand.tmp 15), guard := none, hints := [] },
  { dst := some 17, op := POp.faddr 1 (Operand.tmp 1), guard := some (16, true), hints := [] },
  { dst := some 18, op := POp.load false 1 (Operand.tmp 17), guard := some (16, true), hints := [] },
  { dst := some 19, op := POp.prim (Prim.bin BinOp.lss 3 false true) [Operand.tmp 18, Operand.const (Value.int IntKind.i64 64)], guard := some (16, true), hints := [] },
  { dst := some 20, op := POp.pick (Operand.tmp 16) (Operand.tmp 19) (Operand.const (Value.bool false)), guard := none, hints := [] },
  { dst := some 2, op := POp.mv (Operand.tmp 20), guard := none, hints := [] }]
def pc52_c2 : PCode := .region none false pc52_o2
def pc52_c3 : PCode := .ret
def pc52_c4 : PCode := .seq pc52_c2 pc52_c3
def pc52_c5 : PCode := .seq pc52_c1 pc52_c4
def pc52_r : List PRes := [PRes.tmp 2 []]
def pc52 : PFunc := ⟨21, pc52_r, pc52_c5⟩
def pc52_a : Ann := {
  kr := fun
    | _ => none
  ka := fun
    | _ => 0
  kh := fun
    | _ => none }
theorem pc52_ok : compFn Try.prog pc52_a Try.f52 = some pc52 := by kernel_rfl


-- 81: vedette/morton.spread
def pc81_o1 : List POper := [{ dst := some 2, op := POp.mv (Operand.const (Value.int IntKind.u32 0)), guard := none, hints := [] }]
def pc81_c1 : PCode := .region none false pc81_o1
def pc81_o2 : List POper := [{ dst := some 5, op := POp.build (Value.agg { toList := [Value.int IntKind.u64 0, Value.int IntKind.u32 0] }) [(0, 1, Operand.const (Value.int IntKind.u64 8)), (1, 1, Operand.const (Value.int IntKind.u32 16711935))], guard := none, hints := [] },
  { dst := some 6, op := POp.build (Value.agg { toList := [Value.int IntKind.u64 0, Value.int IntKind.u32 0] }) [(0, 1, Operand.const (Value.int IntKind.u64 4)), (1, 1, Operand.const (Value.int IntKind.u32 252645135))], guard := none, hints := [] },
  { dst := some 7, op := POp.build (Value.agg { toList := [Value.int IntKind.u64 0, Value.int IntKind.u32 0] }) [(0, 1, Operand.const (Value.int IntKind.u64 2)), (1, 1, Operand.const (Value.int IntKind.u32 858993459))], guard := none, hints := [] },
  { dst := some 8, op := POp.build (Value.agg { toList := [Value.int IntKind.u64 0, Value.int IntKind.u32 0] }) [(0, 1, Operand.const (Value.int IntKind.u64 1)), (1, 1, Operand.const (Value.int IntKind.u32 1431655765))], guard := none, hints := [] },
  { dst := some 9, op := POp.build (Value.agg { toList := [Value.int IntKind.u64 0, Value.int IntKind.u32 0, Value.int IntKind.u64 0, Value.int IntKind.u32 0, Value.int IntKind.u64 0, Value.int IntKind.u32 0, Value.int IntKind.u64 0, Value.int IntKind.u32 0] }) [(0, 2, Operand.tmp 5), (2, 2, Operand.tmp 6), (4, 2, Operand.tmp 7), (6, 2, Operand.tmp 8)], guard := none, hints := [] },
  { dst := some 10, op := POp.mv (Operand.const (Value.int IntKind.i64 0)), guard := none, hints := [] }]
def pc81_c2 : PCode := .region none false pc81_o2
def pc81_o3 : List POper := [{ dst := some 11, op := POp.prim (Prim.bin BinOp.lss 3 false true) [Operand.tmp 10, Operand.const (Value.int IntKind.i64 4)], guard := none, hints := [] }]
def pc81_c3 : PCode := .region (some ([0, 9, 10], [4])) false pc81_o3
def pc81_c4 : PCode := .skip
def pc81_c5 : PCode := .exit 0
def pc81_c6 : PCode := .cond (Operand.tmp 11) pc81_c4 pc81_c5
def pc81_o7 : List POper := [{ dst := some 12, op := POp.idx true 2 4 (Operand.tmp 9) (Operand.tmp 10), guard := none, hints := [] },
  { dst := some 4, op := POp.alloc 112 (Value.agg { toList := [Value.int IntKind.u64 0, Value.int IntKind.u32 0] }), guard := none, hints := [] },
  { dst := none, op := POp.store 2 (Operand.tmp 4) (Operand.tmp 12), guard := none, hints := [] }]
def pc81_c7 : PCode := .region none false pc81_o7
def pc81_o8 : List POper := [{ dst := some 13, op := POp.mv (Operand.tmp 0), guard := none, hints := [] },
  { dst := some 14, op := POp.mv (Operand.tmp 0), guard := none, hints := [] },
  { dst := some 15, op := POp.faddr 0 (Operand.tmp 4), guard := none, hints := [] },
  { dst := some 16, op := POp.load false 1 (Operand.tmp 15), guard := none, hints := [] },
  { dst := some 17, op := POp.prim (Prim.bin BinOp.shl 91 false false) [Operand.tmp 14, Operand.tmp 16], guard := none, hints := [] },
  { dst := some 18, op := POp.prim (Prim.bin BinOp.or 91 false false) [Operand.tmp 13, Operand.tmp 17], guard := none, hints := [] },
  { dst := some 19, op := POp.faddr 1 (Operand.tmp 4), guard := none, hints := [] },
  { dst := some 20, op := POp.load false 1 (Operand.tmp 19), guard := none, hints := [] },
  { dst := some 21, op := POp.prim (Prim.bin BinOp.and 91 false false) [Operand.tmp 18, Operand.tmp 20], guard := none, hints := [] },
  { dst := some 0, op := POp.mv (Operand.tmp 21), guard := none, hints := [] }]
def pc81_c8 : PCode := .region none false pc81_o8
def pc81_c9 : PCode := .seq pc81_c7 pc81_c8
def pc81_c10 : PCode := .block 1 pc81_c9
def pc81_o11 : List POper := [{ dst := some 22, op := POp.prim (Prim.bin BinOp.add 3 false true) [Operand.tmp 10, Operand.const (Value.int IntKind.i64 1)], guard := none, hints := [] },
  { dst := some 10, op := POp.mv (Operand.tmp 22), guard := none, hints := [] }]
def pc81_c11 : PCode := .region none false pc81_o11
def pc81_c12 : PCode := .seq pc81_c10 pc81_c11
def pc81_c13 : PCode := .seq pc81_c6 pc81_c12
def pc81_c14 : PCode := .seq pc81_c3 pc81_c13
def pc81_c15 : PCode := .loop pc81_c14
def pc81_c16 : PCode := .block 0 pc81_c15
def pc81_c17 : PCode := .seq pc81_c2 pc81_c16
def pc81_o18 : List POper := [{ dst := some 23, op := POp.mv (Operand.tmp 0), guard := none, hints := [] },
  { dst := some 2, op := POp.mv (Operand.tmp 23), guard := none, hints := [] }]
def pc81_c18 : PCode := .region none false pc81_o18
def pc81_c19 : PCode := .ret
def pc81_c20 : PCode := .seq pc81_c18 pc81_c19
def pc81_c21 : PCode := .seq pc81_c17 pc81_c20
def pc81_c22 : PCode := .seq pc81_c1 pc81_c21
def pc81_r : List PRes := [PRes.tmp 2 []]
def pc81 : PFunc := ⟨24, pc81_r, pc81_c22⟩
def pc81_a : Ann := {
  kr := fun
    | 2 => some ([0, 9, 10], [4])
    | _ => none
  ka := fun
    | _ => 0
  kh := fun
    | _ => none }
theorem pc81_ok : compFn Try.prog pc81_a Try.f81 = some pc81 := by kernel_rfl


-- 71: vedette/morton.Weave
def pc71_o1 : List POper := [{ dst := some 4, op := POp.mv (Operand.const (Value.int IntKind.u32 0)), guard := none, hints := [] }]
def pc71_c1 : PCode := .region none false pc71_o1
def pc71_o2 : List POper := [{ dst := some 5, op := POp.mv (Operand.tmp 0), guard := none, hints := [] },
  { dst := some 6, op := POp.prim (Prim.conv 93 91) [Operand.tmp 5], guard := none, hints := [] },
  { dst := some 7, op := POp.call true [[]] 81 [Operand.tmp 6], guard := none, hints := [] },
  { dst := some 8, op := POp.mv (Operand.tmp 1), guard := none, hints := [] },
  { dst := some 9, op := POp.prim (Prim.conv 93 91) [Operand.tmp 8], guard := none, hints := [] },
  { dst := some 10, op := POp.call true [[]] 81 [Operand.tmp 9], guard := none, hints := [] },
  { dst := some 11, op := POp.prim (Prim.bin BinOp.shl 91 false true) [Operand.tmp 10, Operand.const (Value.int IntKind.u64 1)], guard := none, hints := [] },
  { dst := some 12, op := POp.prim (Prim.bin BinOp.or 91 false false) [Operand.tmp 7, Operand.tmp 11], guard := none, hints := [] },
  { dst := some 4, op := POp.mv (Operand.tmp 12), guard := none, hints := [] }]
def pc71_c2 : PCode := .region none false pc71_o2
def pc71_c3 : PCode := .ret
def pc71_c4 : PCode := .seq pc71_c2 pc71_c3
def pc71_c5 : PCode := .seq pc71_c1 pc71_c4
def pc71_r : List PRes := [PRes.tmp 4 []]
def pc71 : PFunc := ⟨13, pc71_r, pc71_c5⟩
def pc71_a : Ann := {
  kr := fun
    | _ => none
  ka := fun
    | _ => 0
  kh := fun
    | _ => none }
theorem pc71_ok : compFn Try.prog pc71_a Try.f71 = some pc71 := by kernel_rfl


-- 53: vedette/cells.at
def pc53_o1 : List POper := [{ dst := some 4, op := POp.mv (Operand.const (Value.int IntKind.i64 0)), guard := none, hints := [] }]
def pc53_c1 : PCode := .region none false pc53_o1
def pc53_o2 : List POper := [{ dst := some 5, op := POp.mv (Operand.tmp 0), guard := none, hints := [] },
  { dst := some 6, op := POp.prim (Prim.conv 3 93) [Operand.tmp 5], guard := none, hints := [] },
  { dst := some 7, op := POp.mv (Operand.tmp 1), guard := none, hints := [] },
  { dst := some 8, op := POp.prim (Prim.conv 3 93) [Operand.tmp 7], guard := none, hints := [] },
  { dst := some 9, op := POp.call true [[], []] 71 [Operand.tmp 6, Operand.tmp 8], guard := none, hints := [] },
  { dst := some 10, op := POp.prim (Prim.conv 91 3) [Operand.tmp 9], guard := none, hints := [] },
  { dst := some 4, op := POp.mv (Operand.tmp 10), guard := none, hints := [] }]
def pc53_c2 : PCode := .region none false pc53_o2
def pc53_c3 : PCode := .ret
def pc53_c4 : PCode := .seq pc53_c2 pc53_c3
def pc53_c5 : PCode := .seq pc53_c1 pc53_c4
def pc53_r : List PRes := [PRes.tmp 4 []]
def pc53 : PFunc := ⟨11, pc53_r, pc53_c5⟩
def pc53_a : Ann := {
  kr := fun
    | _ => none
  ka := fun
    | _ => 0
  kh := fun
    | _ => none }
theorem pc53_ok : compFn Try.prog pc53_a Try.f53 = some pc53 := by kernel_rfl


-- 25: vedette/cells.Of
def pc25_o1 : List POper := [{ dst := some 1, op := POp.box 34 (Operand.tmp 0), guard := none, hints := [] },
  { dst := some 2, op := POp.mv (Operand.const (Value.int IntKind.i64 0)), guard := none, hints := [] },
  { dst := some 3, op := POp.mv (Operand.const (Value.int IntKind.i64 0)), guard := none, hints := [] }]
def pc25_c1 : PCode := .region none false pc25_o1
def pc25_o2 : List POper := [{ dst := some 4, op := POp.load true 2 (Operand.tmp 1), guard := none, hints := [] },
  { dst := some 5, op := POp.call true [[]] 52 [Operand.tmp 4], guard := none, hints := [] },
  { dst := some 6, op := POp.prim (Prim.un UnOp.not) [Operand.tmp 5], guard := none, hints := [] }]
def pc25_c2 : PCode := .region none false pc25_o2
def pc25_o3 : List POper := [{ dst := some 2, op := POp.mv (Operand.const (Value.int IntKind.i64 0)), guard := none, hints := [] },
  { dst := some 3, op := POp.mv (Operand.const (Value.int IntKind.i64 14)), guard := none, hints := [] }]
def pc25_c3 : PCode := .region none false pc25_o3
def pc25_c4 : PCode := .ret
def pc25_c5 : PCode := .seq pc25_c3 pc25_c4
def pc25_c6 : PCode := .skip
def pc25_c7 : PCode := .cond (Operand.tmp 6) pc25_c5 pc25_c6
def pc25_c8 : PCode := .seq pc25_c2 pc25_c7
def pc25_o9 : List POper := [{ dst := some 7, op := POp.faddr 0 (Operand.tmp 1), guard := none, hints := [] },
  { dst := some 8, op := POp.load false 1 (Operand.tmp 7), guard := none, hints := [] },
  { dst := some 9, op := POp.prim (Prim.bin BinOp.quo 3 false true) [Operand.tmp 8, Operand.const (Value.int IntKind.i64 16)], guard := none, hints := [] },
  { dst := some 10, op := POp.faddr 1 (Operand.tmp 1), guard := none, hints := [] },
  { dst := some 11, op := POp.load false 1 (Operand.tmp 10), guard := none, hints := [] },
  { dst := some 12, op := POp.prim (Prim.bin BinOp.quo 3 false true) [Operand.tmp 11, Operand.const (Value.int IntKind.i64 16)], guard := none, hints := [] },
  { dst := some 13, op := POp.call true [[], []] 53 [Operand.tmp 9, Operand.tmp 12], guard := none, hints := [] },
  { dst := some 2, op := POp.mv (Operand.tmp 13), guard := none, hints := [] },
  { dst := some 3, op := POp.mv (Operand.const (Value.int IntKind.i64 0)), guard := none, hints := [] }]
def pc25_c9 : PCode := .region none false pc25_o9
def pc25_c10 : PCode := .ret
def pc25_c11 : PCode := .seq pc25_c9 pc25_c10
def pc25_c12 : PCode := .seq pc25_c8 pc25_c11
def pc25_c13 : PCode := .seq pc25_c1 pc25_c12
def pc25_r : List PRes := [PRes.tmp 2 [], PRes.tmp 3 []]
def pc25 : PFunc := ⟨14, pc25_r, pc25_c13⟩
def pc25_a : Ann := {
  kr := fun
    | _ => none
  ka := fun
    | _ => 0
  kh := fun
    | _ => none }
theorem pc25_ok : compFn Try.prog pc25_a Try.f25 = some pc25 := by kernel_rfl


-- 31: vedette/cells.Is
def pc31_o1 : List POper := [{ dst := some 2, op := POp.mv (Operand.const (Value.bool false)), guard := none, hints := [] }]
def pc31_c1 : PCode := .region none false pc31_o1
def pc31_o2 : List POper := [{ dst := some 3, op := POp.mv (Operand.tmp 0), guard := none, hints := [] },
  { dst := some 4, op := POp.prim (Prim.bin BinOp.geq 3 false true) [Operand.tmp 3, Operand.const (Value.int IntKind.i64 0)], guard := none, hints := [] },
  { dst := some 5, op := POp.mv (Operand.tmp 4), guard := none, hints := [] },
  { dst := some 6, op := POp.mv (Operand.tmp 0), guard := some (5, true), hints := [] },
  { dst := some 7, op := POp.prim (Prim.bin BinOp.lss 3 false true) [Operand.tmp 6, Operand.const (Value.int IntKind.i64 16)], guard := some (5, true), hints := [] },
  { dst := some 8, op := POp.pick (Operand.tmp 5) (Operand.tmp 7) (Operand.const (Value.bool false)), guard := none, hints := [] },
  { dst := some 2, op := POp.mv (Operand.tmp 8), guard := none, hints := [] }]
def pc31_c2 : PCode := .region none false pc31_o2
def pc31_c3 : PCode := .ret
def pc31_c4 : PCode := .seq pc31_c2 pc31_c3
def pc31_c5 : PCode := .seq pc31_c1 pc31_c4
def pc31_r : List PRes := [PRes.tmp 2 []]
def pc31 : PFunc := ⟨9, pc31_r, pc31_c5⟩
def pc31_a : Ann := {
  kr := fun
    | _ => none
  ka := fun
    | _ => 0
  kh := fun
    | _ => none }
theorem pc31_ok : compFn Try.prog pc31_a Try.f31 = some pc31 := by kernel_rfl


-- 82: vedette/morton.gather
def pc82_o1 : List POper := [{ dst := some 2, op := POp.mv (Operand.const (Value.int IntKind.u32 0)), guard := none, hints := [] }]
def pc82_c1 : PCode := .region none false pc82_o1
def pc82_o2 : List POper := [{ dst := some 5, op := POp.mv (Operand.tmp 0), guard := none, hints := [] },
  { dst := some 6, op := POp.prim (Prim.bin BinOp.and 91 false true) [Operand.tmp 5, Operand.const (Value.int IntKind.u32 1431655765)], guard := none, hints := [] },
  { dst := some 0, op := POp.mv (Operand.tmp 6), guard := none, hints := [] }]
def pc82_c2 : PCode := .region none false pc82_o2
def pc82_o3 : List POper := [{ dst := some 7, op := POp.build (Value.agg { toList := [Value.int IntKind.u64 0, Value.int IntKind.u32 0] }) [(0, 1, Operand.const (Value.int IntKind.u64 1)), (1, 1, Operand.const (Value.int IntKind.u32 858993459))], guard := none, hints := [] },
  { dst := some 8, op := POp.build (Value.agg { toList := [Value.int IntKind.u64 0, Value.int IntKind.u32 0] }) [(0, 1, Operand.const (Value.int IntKind.u64 2)), (1, 1, Operand.const (Value.int IntKind.u32 252645135))], guard := none, hints := [] },
  { dst := some 9, op := POp.build (Value.agg { toList := [Value.int IntKind.u64 0, Value.int IntKind.u32 0] }) [(0, 1, Operand.const (Value.int IntKind.u64 4)), (1, 1, Operand.const (Value.int IntKind.u32 16711935))], guard := none, hints := [] },
  { dst := some 10, op := POp.build (Value.agg { toList := [Value.int IntKind.u64 0, Value.int IntKind.u32 0] }) [(0, 1, Operand.const (Value.int IntKind.u64 8)), (1, 1, Operand.const (Value.int IntKind.u32 65535))], guard := none, hints := [] },
  { dst := some 11, op := POp.build (Value.agg { toList := [Value.int IntKind.u64 0, Value.int IntKind.u32 0, Value.int IntKind.u64 0, Value.int IntKind.u32 0, Value.int IntKind.u64 0, Value.int IntKind.u32 0, Value.int IntKind.u64 0, Value.int IntKind.u32 0] }) [(0, 2, Operand.tmp 7), (2, 2, Operand.tmp 8), (4, 2, Operand.tmp 9), (6, 2, Operand.tmp 10)], guard := none, hints := [] },
  { dst := some 12, op := POp.mv (Operand.const (Value.int IntKind.i64 0)), guard := none, hints := [] }]
def pc82_c3 : PCode := .region none false pc82_o3
def pc82_o4 : List POper := [{ dst := some 13, op := POp.prim (Prim.bin BinOp.lss 3 false true) [Operand.tmp 12, Operand.const (Value.int IntKind.i64 4)], guard := none, hints := [] }]
def pc82_c4 : PCode := .region (some ([0, 11, 12], [4])) false pc82_o4
def pc82_c5 : PCode := .skip
def pc82_c6 : PCode := .exit 0
def pc82_c7 : PCode := .cond (Operand.tmp 13) pc82_c5 pc82_c6
def pc82_o8 : List POper := [{ dst := some 14, op := POp.idx true 2 4 (Operand.tmp 11) (Operand.tmp 12), guard := none, hints := [] },
  { dst := some 4, op := POp.alloc 112 (Value.agg { toList := [Value.int IntKind.u64 0, Value.int IntKind.u32 0] }), guard := none, hints := [] },
  { dst := none, op := POp.store 2 (Operand.tmp 4) (Operand.tmp 14), guard := none, hints := [] }]
def pc82_c8 : PCode := .region none false pc82_o8
def pc82_o9 : List POper := [{ dst := some 15, op := POp.mv (Operand.tmp 0), guard := none, hints := [] },
  { dst := some 16, op := POp.mv (Operand.tmp 0), guard := none, hints := [] },
  { dst := some 17, op := POp.faddr 0 (Operand.tmp 4), guard := none, hints := [] },
  { dst := some 18, op := POp.load false 1 (Operand.tmp 17), guard := none, hints := [] },
  { dst := some 19, op := POp.prim (Prim.bin BinOp.shr 91 false false) [Operand.tmp 16, Operand.tmp 18], guard := none, hints := [] },
  { dst := some 20, op := POp.prim (Prim.bin BinOp.or 91 false false) [Operand.tmp 15, Operand.tmp 19], guard := none, hints := [] },
  { dst := some 21, op := POp.faddr 1 (Operand.tmp 4), guard := none, hints := [] },
  { dst := some 22, op := POp.load false 1 (Operand.tmp 21), guard := none, hints := [] },
  { dst := some 23, op := POp.prim (Prim.bin BinOp.and 91 false false) [Operand.tmp 20, Operand.tmp 22], guard := none, hints := [] },
  { dst := some 0, op := POp.mv (Operand.tmp 23), guard := none, hints := [] }]
def pc82_c9 : PCode := .region none false pc82_o9
def pc82_c10 : PCode := .seq pc82_c8 pc82_c9
def pc82_c11 : PCode := .block 1 pc82_c10
def pc82_o12 : List POper := [{ dst := some 24, op := POp.prim (Prim.bin BinOp.add 3 false true) [Operand.tmp 12, Operand.const (Value.int IntKind.i64 1)], guard := none, hints := [] },
  { dst := some 12, op := POp.mv (Operand.tmp 24), guard := none, hints := [] }]
def pc82_c12 : PCode := .region none false pc82_o12
def pc82_c13 : PCode := .seq pc82_c11 pc82_c12
def pc82_c14 : PCode := .seq pc82_c7 pc82_c13
def pc82_c15 : PCode := .seq pc82_c4 pc82_c14
def pc82_c16 : PCode := .loop pc82_c15
def pc82_c17 : PCode := .block 0 pc82_c16
def pc82_c18 : PCode := .seq pc82_c3 pc82_c17
def pc82_o19 : List POper := [{ dst := some 25, op := POp.mv (Operand.tmp 0), guard := none, hints := [] },
  { dst := some 2, op := POp.mv (Operand.tmp 25), guard := none, hints := [] }]
def pc82_c19 : PCode := .region none false pc82_o19
def pc82_c20 : PCode := .ret
def pc82_c21 : PCode := .seq pc82_c19 pc82_c20
def pc82_c22 : PCode := .seq pc82_c18 pc82_c21
def pc82_c23 : PCode := .seq pc82_c2 pc82_c22
def pc82_c24 : PCode := .seq pc82_c1 pc82_c23
def pc82_r : List PRes := [PRes.tmp 2 []]
def pc82 : PFunc := ⟨26, pc82_r, pc82_c24⟩
def pc82_a : Ann := {
  kr := fun
    | 3 => some ([0, 11, 12], [4])
    | _ => none
  ka := fun
    | _ => 0
  kh := fun
    | _ => none }
theorem pc82_ok : compFn Try.prog pc82_a Try.f82 = some pc82 := by kernel_rfl


-- 72: vedette/morton.Split
def pc72_o1 : List POper := [{ dst := some 2, op := POp.mv (Operand.const (Value.int IntKind.u16 0)), guard := none, hints := [] },
  { dst := some 3, op := POp.mv (Operand.const (Value.int IntKind.u16 0)), guard := none, hints := [] }]
def pc72_c1 : PCode := .region none false pc72_o1
def pc72_o2 : List POper := [{ dst := some 4, op := POp.mv (Operand.tmp 0), guard := none, hints := [] },
  { dst := some 5, op := POp.call true [[]] 82 [Operand.tmp 4], guard := none, hints := [] },
  { dst := some 6, op := POp.prim (Prim.conv 91 93) [Operand.tmp 5], guard := none, hints := [] },
  { dst := some 7, op := POp.mv (Operand.tmp 0), guard := none, hints := [] },
  { dst := some 8, op := POp.prim (Prim.bin BinOp.shr 91 false true) [Operand.tmp 7, Operand.const (Value.int IntKind.u64 1)], guard := none, hints := [] },
  { dst := some 9, op := POp.call true [[]] 82 [Operand.tmp 8], guard := none, hints := [] },
  { dst := some 10, op := POp.prim (Prim.conv 91 93) [Operand.tmp 9], guard := none, hints := [] },
  { dst := some 2, op := POp.mv (Operand.tmp 6), guard := none, hints := [] },
  { dst := some 3, op := POp.mv (Operand.tmp 10), guard := none, hints := [] }]
def pc72_c2 : PCode := .region none false pc72_o2
def pc72_c3 : PCode := .ret
def pc72_c4 : PCode := .seq pc72_c2 pc72_c3
def pc72_c5 : PCode := .seq pc72_c1 pc72_c4
def pc72_r : List PRes := [PRes.tmp 2 [], PRes.tmp 3 []]
def pc72 : PFunc := ⟨11, pc72_r, pc72_c5⟩
def pc72_a : Ann := {
  kr := fun
    | _ => none
  ka := fun
    | _ => 0
  kh := fun
    | _ => none }
theorem pc72_ok : compFn Try.prog pc72_a Try.f72 = some pc72 := by kernel_rfl


-- 56: vedette/cells.place
def pc56_o1 : List POper := [{ dst := some 2, op := POp.mv (Operand.const (Value.int IntKind.i64 0)), guard := none, hints := [] },
  { dst := some 3, op := POp.mv (Operand.const (Value.int IntKind.i64 0)), guard := none, hints := [] }]
def pc56_c1 : PCode := .region none false pc56_o1
def pc56_o2 : List POper := [{ dst := some 7, op := POp.mv (Operand.tmp 0), guard := none, hints := [] },
  { dst := some 8, op := POp.prim (Prim.conv 3 91) [Operand.tmp 7], guard := none, hints := [] },
  { dst := some 9, op := POp.call true [[]] 72 [Operand.tmp 8], guard := none, hints := [] },
  { dst := some 6, op := POp.mv (Operand.tmp 9), guard := none, hints := [] },
  { dst := some 10, op := POp.ext (Operand.tmp 6) 0, guard := none, hints := [] },
  { dst := some 11, op := POp.ext (Operand.tmp 6) 1, guard := none, hints := [] },
  { dst := some 4, op := POp.mv (Operand.tmp 10), guard := none, hints := [] },
  { dst := some 5, op := POp.mv (Operand.tmp 11), guard := none, hints := [] }]
def pc56_c2 : PCode := .region none false pc56_o2
def pc56_o3 : List POper := [{ dst := some 12, op := POp.mv (Operand.tmp 4), guard := none, hints := [] },
  { dst := some 13, op := POp.prim (Prim.conv 93 3) [Operand.tmp 12], guard := none, hints := [] },
  { dst := some 14, op := POp.mv (Operand.tmp 5), guard := none, hints := [] },
  { dst := some 15, op := POp.prim (Prim.conv 93 3) [Operand.tmp 14], guard := none, hints := [] },
  { dst := some 2, op := POp.mv (Operand.tmp 13), guard := none, hints := [] },
  { dst := some 3, op := POp.mv (Operand.tmp 15), guard := none, hints := [] }]
def pc56_c3 : PCode := .region none false pc56_o3
def pc56_c4 : PCode := .ret
def pc56_c5 : PCode := .seq pc56_c3 pc56_c4
def pc56_c6 : PCode := .seq pc56_c2 pc56_c5
def pc56_c7 : PCode := .seq pc56_c1 pc56_c6
def pc56_r : List PRes := [PRes.tmp 2 [], PRes.tmp 3 []]
def pc56 : PFunc := ⟨16, pc56_r, pc56_c7⟩
def pc56_a : Ann := {
  kr := fun
    | _ => none
  ka := fun
    | _ => 0
  kh := fun
    | _ => none }
theorem pc56_ok : compFn Try.prog pc56_a Try.f56 = some pc56 := by kernel_rfl


-- 27: vedette/cells.Rect
def pc27_o1 : List POper := [{ dst := some 2, op := POp.alloc 24 (Value.agg { toList := [Value.int IntKind.i64 0, Value.int IntKind.i64 0, Value.int IntKind.i64 0, Value.int IntKind.i64 0] }), guard := none, hints := [] },
  { dst := some 3, op := POp.mv (Operand.const (Value.bool false)), guard := none, hints := [] }]
def pc27_c1 : PCode := .region none false pc27_o1
def pc27_o2 : List POper := [{ dst := some 6, op := POp.mv (Operand.tmp 0), guard := none, hints := [] },
  { dst := some 7, op := POp.call true [[]] 31 [Operand.tmp 6], guard := none, hints := [] },
  { dst := some 8, op := POp.prim (Prim.un UnOp.not) [Operand.tmp 7], guard := none, hints := [] }]
def pc27_c2 : PCode := .region none false pc27_o2
def pc27_o3 : List POper := [{ dst := some 9, op := POp.build (Value.agg { toList := [Value.int IntKind.i64 0, Value.int IntKind.i64 0, Value.int IntKind.i64 0, Value.int IntKind.i64 0] }) [], guard := none, hints := [] },
  { dst := none, op := POp.store 4 (Operand.tmp 2) (Operand.tmp 9), guard := none, hints := [] },
  { dst := some 3, op := POp.mv (Operand.const (Value.bool false)), guard := none, hints := [] }]
def pc27_c3 : PCode := .region none false pc27_o3
def pc27_c4 : PCode := .ret
def pc27_c5 : PCode := .seq pc27_c3 pc27_c4
def pc27_c6 : PCode := .skip
def pc27_c7 : PCode := .cond (Operand.tmp 8) pc27_c5 pc27_c6
def pc27_c8 : PCode := .seq pc27_c2 pc27_c7
def pc27_o9 : List POper := [{ dst := some 11, op := POp.mv (Operand.tmp 0), guard := none, hints := [] },
  { dst := some 12, op := POp.call true [[]] 56 [Operand.tmp 11], guard := none, hints := [] },
  { dst := some 10, op := POp.mv (Operand.tmp 12), guard := none, hints := [] },
  { dst := some 13, op := POp.ext (Operand.tmp 10) 0, guard := none, hints := [] },
  { dst := some 14, op := POp.ext (Operand.tmp 10) 1, guard := none, hints := [] },
  { dst := some 4, op := POp.mv (Operand.tmp 13), guard := none, hints := [] },
  { dst := some 5, op := POp.mv (Operand.tmp 14), guard := none, hints := [] }]
def pc27_c9 : PCode := .region none false pc27_o9
def pc27_o10 : List POper := [{ dst := some 15, op := POp.mv (Operand.tmp 4), guard := none, hints := [] },
  { dst := some 16, op := POp.prim (Prim.bin BinOp.mul 3 false true) [Operand.tmp 15, Operand.const (Value.int IntKind.i64 16)], guard := none, hints := [] },
  { dst := some 17, op := POp.mv (Operand.tmp 5), guard := none, hints := [] },
  { dst := some 18, op := POp.prim (Prim.bin BinOp.mul 3 false true) [Operand.tmp 17, Operand.const (Value.int IntKind.i64 16)], guard := none, hints := [] },
  { dst := some 19, op := POp.mv (Operand.tmp 4), guard := none, hints := [] },
  { dst := some 20, op := POp.prim (Prim.bin BinOp.add 3 false true) [Operand.tmp 19, Operand.const (Value.int IntKind.i64 1)], guard := none, hints := [] },
  { dst := some 21, op := POp.prim (Prim.bin BinOp.mul 3 false true) [Operand.tmp 20, Operand.const (Value.int IntKind.i64 16)], guard := none, hints := [] },
  { dst := some 22, op := POp.mv (Operand.tmp 5), guard := none, hints := [] },
  { dst := some 23, op := POp.prim (Prim.bin BinOp.add 3 false true) [Operand.tmp 22, Operand.const (Value.int IntKind.i64 1)], guard := none, hints := [] },
  { dst := some 24, op := POp.prim (Prim.bin BinOp.mul 3 false true) [Operand.tmp 23, Operand.const (Value.int IntKind.i64 16)], guard := none, hints := [] },
  { dst := some 25, op := POp.build (Value.agg { toList := [Value.int IntKind.i64 0, Value.int IntKind.i64 0, Value.int IntKind.i64 0, Value.int IntKind.i64 0] }) [(0, 1, Operand.tmp 16), (1, 1, Operand.tmp 18), (2, 1, Operand.tmp 21), (3, 1, Operand.tmp 24)], guard := none, hints := [] },
  { dst := none, op := POp.store 4 (Operand.tmp 2) (Operand.tmp 25), guard := none, hints := [] },
  { dst := some 3, op := POp.mv (Operand.const (Value.bool true)), guard := none, hints := [] }]
def pc27_c10 : PCode := .region none false pc27_o10
def pc27_c11 : PCode := .ret
def pc27_c12 : PCode := .seq pc27_c10 pc27_c11
def pc27_c13 : PCode := .seq pc27_c9 pc27_c12
def pc27_c14 : PCode := .seq pc27_c8 pc27_c13
def pc27_c15 : PCode := .seq pc27_c1 pc27_c14
def pc27_r : List PRes := [PRes.cell 2 true 4 [], PRes.tmp 3 []]
def pc27 : PFunc := ⟨26, pc27_r, pc27_c15⟩
def pc27_a : Ann := {
  kr := fun
    | _ => none
  ka := fun
    | _ => 0
  kh := fun
    | _ => none }
theorem pc27_ok : compFn Try.prog pc27_a Try.f27 = some pc27 := by kernel_rfl


-- 58: vedette/geom.Empty
def pc58_o1 : List POper := [{ dst := some 1, op := POp.box 24 (Operand.tmp 0), guard := none, hints := [] },
  { dst := some 2, op := POp.mv (Operand.const (Value.bool false)), guard := none, hints := [] }]
def pc58_c1 : PCode := .region none false pc58_o1
def pc58_o2 : List POper := [{ dst := some 3, op := POp.faddr 0 (Operand.tmp 1), guard := none, hints := [] },
  { dst := some 4, op := POp.load false 1 (Operand.tmp 3), guard := none, hints := [] },
  { dst := some 5, op := POp.faddr 2 (Operand.tmp 1), guard := none, hints := [] },
  { dst := some 6, op := POp.load false 1 (Operand.tmp 5), guard := none, hints := [] },
  { dst := some 7, op := POp.prim (Prim.bin BinOp.geq 3 false false) [Operand.tmp 4, Operand.tmp 6], guard := none, hints := [] },
  { dst := some 8, op := POp.mv (Operand.tmp 7), guard := none, hints := [] },
  { dst := some 9, op := POp.faddr 1 (Operand.tmp 1), guard := some (8, false), hints := [] },
  { dst := some 10, op := POp.load false 1 (Operand.tmp 9), guard := some (8, false), hints := [] },
  { dst := some 11, op := POp.faddr 3 (Operand.tmp 1), guard := some (8, false), hints := [] },
  { dst := some 12, op := POp.load false 1 (Operand.tmp 11), guard := some (8, false), hints := [] },
  { dst := some 13, op := POp.prim (Prim.bin BinOp.geq 3 false false) [Operand.tmp 10, Operand.tmp 12], guard := some (8, false), hints := [] },
  { dst := some 14, op := POp.pick (Operand.tmp 8) (Operand.const (Value.bool true)) (Operand.tmp 13), guard := none, hints := [] },
  { dst := some 2, op := POp.mv (Operand.tmp 14), guard := none, hints := [] }]
def pc58_c2 : PCode := .region none false pc58_o2
def pc58_c3 : PCode := .ret
def pc58_c4 : PCode := .seq pc58_c2 pc58_c3
def pc58_c5 : PCode := .seq pc58_c1 pc58_c4
def pc58_r : List PRes := [PRes.tmp 2 []]
def pc58 : PFunc := ⟨15, pc58_r, pc58_c5⟩
def pc58_a : Ann := {
  kr := fun
    | _ => none
  ka := fun
    | _ => 0
  kh := fun
    | _ => none }
theorem pc58_ok : compFn Try.prog pc58_a Try.f58 = some pc58 := by kernel_rfl


-- 29: vedette/cells.Cover
def pc29_o1 : List POper := [{ dst := some 1, op := POp.box 24 (Operand.tmp 0), guard := none, hints := [] },
  { dst := some 2, op := POp.mv (Operand.const (Value.slice none 0 0)), guard := none, hints := [] }]
def pc29_c1 : PCode := .region none false pc29_o1
def pc29_o2 : List POper := [{ dst := some 3, op := POp.mv (Operand.const (Value.slice none 0 0)), guard := none, hints := [] }]
def pc29_c2 : PCode := .region none false pc29_o2
def pc29_c3 : PCode := .label
def pc29_o4 : List POper := [{ dst := some 9, op := POp.mv (Operand.const (Value.int IntKind.i64 0)), guard := none, hints := [] }]
def pc29_c4 : PCode := .region none false pc29_o4
def pc29_o5 : List POper := [{ dst := some 10, op := POp.prim (Prim.bin BinOp.lss 3 false true) [Operand.tmp 9, Operand.const (Value.int IntKind.i64 16)], guard := none, hints := [] }]
def pc29_c5 : PCode := .region (some ([1, 3, 9], [1, 100003])) false pc29_o5
def pc29_c6 : PCode := .skip
def pc29_c7 : PCode := .exit 0
def pc29_c8 : PCode := .cond (Operand.tmp 10) pc29_c6 pc29_c7
def pc29_o9 : List POper := [{ dst := some 11, op := POp.mv (Operand.tmp 9), guard := none, hints := [] },
  { dst := some 4, op := POp.mv (Operand.tmp 11), guard := none, hints := [] }]
def pc29_c9 : PCode := .region none false pc29_o9
def pc29_o10 : List POper := [{ dst := some 13, op := POp.mv (Operand.tmp 4), guard := none, hints := [] },
  { dst := some 14, op := POp.call true [[]] 27 [Operand.tmp 13], guard := none, hints := [] },
  { dst := some 12, op := POp.mv (Operand.tmp 14), guard := none, hints := [] },
  { dst := some 15, op := POp.ext (Operand.tmp 12) 0, guard := none, hints := [] },
  { dst := some 16, op := POp.ext (Operand.tmp 12) 1, guard := none, hints := [] },
  { dst := some 5, op := POp.alloc 24 (Value.agg { toList := [Value.int IntKind.i64 0, Value.int IntKind.i64 0, Value.int IntKind.i64 0, Value.int IntKind.i64 0] }), guard := none, hints := [] },
  { dst := none, op := POp.store 4 (Operand.tmp 5) (Operand.tmp 15), guard := none, hints := [] },
  { dst := some 6, op := POp.mv (Operand.tmp 16), guard := none, hints := [] }]
def pc29_c10 : PCode := .region none false pc29_o10
def pc29_o11 : List POper := [{ dst := some 17, op := POp.faddr 0 (Operand.tmp 5), guard := none, hints := [] },
  { dst := some 18, op := POp.load false 1 (Operand.tmp 17), guard := none, hints := [] },
  { dst := some 19, op := POp.faddr 2 (Operand.tmp 1), guard := none, hints := [] },
  { dst := some 20, op := POp.load false 1 (Operand.tmp 19), guard := none, hints := [] },
  { dst := some 21, op := POp.prim (Prim.bin BinOp.geq 3 false false) [Operand.tmp 18, Operand.tmp 20], guard := none, hints := [] },
  { dst := some 22, op := POp.faddr 2 (Operand.tmp 5), guard := none, hints := [] },
  { dst := some 23, op := POp.load false 1 (Operand.tmp 22), guard := none, hints := [] },
  { dst := some 24, op := POp.faddr 0 (Operand.tmp 1), guard := none, hints := [] },
  { dst := some 25, op := POp.load false 1 (Operand.tmp 24), guard := none, hints := [] },
  { dst := some 26, op := POp.prim (Prim.bin BinOp.leq 3 false false) [Operand.tmp 23, Operand.tmp 25], guard := none, hints := [] },
  { dst := some 27, op := POp.faddr 1 (Operand.tmp 5), guard := none, hints := [] },
  { dst := some 28, op := POp.load false 1 (Operand.tmp 27), guard := none, hints := [] },
  { dst := some 29, op := POp.faddr 3 (Operand.tmp 1), guard := none, hints := [] },
  { dst := some 30, op := POp.load false 1 (Operand.tmp 29), guard := none, hints := [] },
  { dst := some 31, op := POp.prim (Prim.bin BinOp.geq 3 false false) [Operand.tmp 28, Operand.tmp 30], guard := none, hints := [] },
  { dst := some 32, op := POp.faddr 3 (Operand.tmp 5), guard := none, hints := [] },
  { dst := some 33, op := POp.load false 1 (Operand.tmp 32), guard := none, hints := [] },
  { dst := some 34, op := POp.faddr 1 (Operand.tmp 1), guard := none, hints := [] },
  { dst := some 35, op := POp.load false 1 (Operand.tmp 34), guard := none, hints := [] },
  { dst := some 36, op := POp.prim (Prim.bin BinOp.leq 3 false false) [Operand.tmp 33, Operand.tmp 35], guard := none, hints := [] },
  { dst := some 37, op := POp.build (Value.agg { toList := [Value.bool false, Value.bool false, Value.bool false, Value.bool false] }) [(0, 1, Operand.tmp 21), (1, 1, Operand.tmp 26), (2, 1, Operand.tmp 31), (3, 1, Operand.tmp 36)], guard := none, hints := [] },
  { dst := some 38, op := POp.mv (Operand.const (Value.int IntKind.i64 0)), guard := none, hints := [] }]
def pc29_c11 : PCode := .region none false pc29_o11
def pc29_o12 : List POper := [{ dst := some 39, op := POp.prim (Prim.bin BinOp.lss 3 false true) [Operand.tmp 38, Operand.const (Value.int IntKind.i64 4)], guard := none, hints := [] }]
def pc29_c12 : PCode := .region (some ([1, 3, 4, 9, 37, 38], [1, 5, 100003])) false pc29_o12
def pc29_c13 : PCode := .skip
def pc29_c14 : PCode := .exit 2
def pc29_c15 : PCode := .cond (Operand.tmp 39) pc29_c13 pc29_c14
def pc29_o16 : List POper := [{ dst := some 40, op := POp.idx false 1 4 (Operand.tmp 37) (Operand.tmp 38), guard := none, hints := [] },
  { dst := some 8, op := POp.mv (Operand.tmp 40), guard := none, hints := [] }]
def pc29_c16 : PCode := .region none false pc29_o16
def pc29_o17 : List POper := [{ dst := some 41, op := POp.mv (Operand.tmp 8), guard := none, hints := [] },
  { dst := some 42, op := POp.mv (Operand.tmp 41), guard := none, hints := [] },
  { dst := some 43, op := POp.load true 4 (Operand.tmp 1), guard := some (42, false), hints := [] },
  { dst := some 44, op := POp.call true [[]] 58 [Operand.tmp 43], guard := some (42, false), hints := [] },
  { dst := some 45, op := POp.pick (Operand.tmp 42) (Operand.const (Value.bool true)) (Operand.tmp 44), guard := none, hints := [] }]
def pc29_c17 : PCode := .region none false pc29_o17
def pc29_c18 : PCode := .exit 1
def pc29_c19 : PCode := .skip
def pc29_c20 : PCode := .cond (Operand.tmp 45) pc29_c18 pc29_c19
def pc29_c21 : PCode := .seq pc29_c17 pc29_c20
def pc29_c22 : PCode := .seq pc29_c16 pc29_c21
def pc29_c23 : PCode := .block 3 pc29_c22
def pc29_o24 : List POper := [{ dst := some 46, op := POp.prim (Prim.bin BinOp.add 3 false true) [Operand.tmp 38, Operand.const (Value.int IntKind.i64 1)], guard := none, hints := [] },
  { dst := some 38, op := POp.mv (Operand.tmp 46), guard := none, hints := [] }]
def pc29_c24 : PCode := .region none false pc29_o24
def pc29_c25 : PCode := .seq pc29_c23 pc29_c24
def pc29_c26 : PCode := .seq pc29_c15 pc29_c25
def pc29_c27 : PCode := .seq pc29_c12 pc29_c26
def pc29_c28 : PCode := .loop pc29_c27
def pc29_c29 : PCode := .block 2 pc29_c28
def pc29_c30 : PCode := .seq pc29_c11 pc29_c29
def pc29_o31 : List POper := [{ dst := some 47, op := POp.mv (Operand.tmp 3), guard := none, hints := [] },
  { dst := some 48, op := POp.mv (Operand.tmp 4), guard := none, hints := [] },
  { dst := some 49, op := POp.bslice 3 1 [Operand.tmp 48], guard := none, hints := [] },
  { dst := some 50, op := POp.app 100003 3 1 8 (Operand.tmp 47) (Operand.tmp 49), guard := none, hints := [] },
  { dst := some 3, op := POp.mv (Operand.tmp 50), guard := none, hints := [] }]
def pc29_c31 : PCode := .region none false pc29_o31
def pc29_c32 : PCode := .seq pc29_c30 pc29_c31
def pc29_c33 : PCode := .seq pc29_c10 pc29_c32
def pc29_c34 : PCode := .seq pc29_c9 pc29_c33
def pc29_c35 : PCode := .block 1 pc29_c34
def pc29_o36 : List POper := [{ dst := some 51, op := POp.prim (Prim.bin BinOp.add 3 false true) [Operand.tmp 9, Operand.const (Value.int IntKind.i64 1)], guard := none, hints := [] },
  { dst := some 9, op := POp.mv (Operand.tmp 51), guard := none, hints := [] }]
def pc29_c36 : PCode := .region none false pc29_o36
def pc29_c37 : PCode := .seq pc29_c35 pc29_c36
def pc29_c38 : PCode := .seq pc29_c8 pc29_c37
def pc29_c39 : PCode := .seq pc29_c5 pc29_c38
def pc29_c40 : PCode := .loop pc29_c39
def pc29_c41 : PCode := .block 0 pc29_c40
def pc29_c42 : PCode := .seq pc29_c4 pc29_c41
def pc29_o43 : List POper := [{ dst := some 52, op := POp.mv (Operand.tmp 3), guard := none, hints := [] },
  { dst := some 2, op := POp.mv (Operand.tmp 52), guard := none, hints := [] }]
def pc29_c43 : PCode := .region none false pc29_o43
def pc29_c44 : PCode := .ret
def pc29_c45 : PCode := .seq pc29_c43 pc29_c44
def pc29_c46 : PCode := .seq pc29_c42 pc29_c45
def pc29_c47 : PCode := .seq pc29_c3 pc29_c46
def pc29_c48 : PCode := .seq pc29_c2 pc29_c47
def pc29_c49 : PCode := .scope pc29_c48
def pc29_c50 : PCode := .seq pc29_c1 pc29_c49
def pc29_r : List PRes := [PRes.tmp 2 [(0, 1)]]
def pc29 : PFunc := ⟨53, pc29_r, pc29_c50⟩
def pc29_a : Ann := {
  kr := fun
    | 3 => some ([1, 3, 9], [1, 100003])
    | 7 => some ([1, 3, 4, 9, 37, 38], [1, 5, 100003])
    | _ => none
  ka := fun
    | 50 => 100003
    | _ => 0
  kh := fun
    | _ => none }
theorem pc29_ok : compFn Try.prog pc29_a Try.f29 = some pc29 := by kernel_rfl


-- 61: vedette/cells.Beside$1
def pc61_o1 : List POper := [{ dst := some 4, op := POp.mv (Operand.const (Value.bool false)), guard := none, hints := [] }]
def pc61_c1 : PCode := .region none false pc61_o1
def pc61_o2 : List POper := [{ dst := some 5, op := POp.mv (Operand.tmp 0), guard := none, hints := [] },
  { dst := some 6, op := POp.mv (Operand.tmp 1), guard := none, hints := [] },
  { dst := some 7, op := POp.prim Prim.max [Operand.tmp 5, Operand.tmp 6], guard := none, hints := [] },
  { dst := some 8, op := POp.mv (Operand.tmp 0), guard := none, hints := [] },
  { dst := some 9, op := POp.mv (Operand.tmp 1), guard := none, hints := [] },
  { dst := some 10, op := POp.prim Prim.min [Operand.tmp 8, Operand.tmp 9], guard := none, hints := [] },
  { dst := some 11, op := POp.prim (Prim.bin BinOp.sub 3 false false) [Operand.tmp 7, Operand.tmp 10], guard := none, hints := [] },
  { dst := some 12, op := POp.prim (Prim.bin BinOp.leq 3 false true) [Operand.tmp 11, Operand.const (Value.int IntKind.i64 1)], guard := none, hints := [] },
  { dst := some 4, op := POp.mv (Operand.tmp 12), guard := none, hints := [] }]
def pc61_c2 : PCode := .region none false pc61_o2
def pc61_c3 : PCode := .ret
def pc61_c4 : PCode := .seq pc61_c2 pc61_c3
def pc61_c5 : PCode := .seq pc61_c1 pc61_c4
def pc61_r : List PRes := [PRes.tmp 4 []]
def pc61 : PFunc := ⟨13, pc61_r, pc61_c5⟩
def pc61_a : Ann := {
  kr := fun
    | _ => none
  ka := fun
    | _ => 0
  kh := fun
    | _ => none }
theorem pc61_ok : compFn Try.prog pc61_a Try.f61 = some pc61 := by kernel_rfl


-- 33: vedette/cells.Beside
def pc33_o1 : List POper := [{ dst := some 4, op := POp.mv (Operand.const (Value.bool false)), guard := none, hints := [] }]
def pc33_c1 : PCode := .region none false pc33_o1
def pc33_o2 : List POper := [{ dst := some 10, op := POp.mv (Operand.tmp 0), guard := none, hints := [] },
  { dst := some 11, op := POp.call true [[]] 31 [Operand.tmp 10], guard := none, hints := [] },
  { dst := some 12, op := POp.prim (Prim.un UnOp.not) [Operand.tmp 11], guard := none, hints := [] },
  { dst := some 13, op := POp.mv (Operand.tmp 12), guard := none, hints := [] },
  { dst := some 14, op := POp.mv (Operand.tmp 1), guard := some (13, false), hints := [] },
  { dst := some 15, op := POp.call true [[]] 31 [Operand.tmp 14], guard := some (13, false), hints := [] },
  { dst := some 16, op := POp.prim (Prim.un UnOp.not) [Operand.tmp 15], guard := some (13, false), hints := [] },
  { dst := some 17, op := POp.pick (Operand.tmp 13) (Operand.const (Value.bool true)) (Operand.tmp 16), guard := none, hints := [] },
  { dst := some 18, op := POp.mv (Operand.tmp 17), guard := none, hints := [] },
  { dst := some 19, op := POp.mv (Operand.tmp 0), guard := some (18, false), hints := [] },
  { dst := some 20, op := POp.mv (Operand.tmp 1), guard := some (18, false), hints := [] },
  { dst := some 21, op := POp.prim (Prim.bin BinOp.eql 3 false false) [Operand.tmp 19, Operand.tmp 20], guard := some (18, false), hints := [] },
  { dst := some 22, op := POp.pick (Operand.tmp 18) (Operand.const (Value.bool true)) (Operand.tmp 21), guard := none, hints := [] }]
def pc33_c2 : PCode := .region none false pc33_o2
def pc33_o3 : List POper := [{ dst := some 4, op := POp.mv (Operand.const (Value.bool false)), guard := none, hints := [] }]
def pc33_c3 : PCode := .region none false pc33_o3
def pc33_c4 : PCode := .ret
def pc33_c5 : PCode := .seq pc33_c3 pc33_c4
def pc33_c6 : PCode := .skip
def pc33_c7 : PCode := .cond (Operand.tmp 22) pc33_c5 pc33_c6
def pc33_c8 : PCode := .seq pc33_c2 pc33_c7
def pc33_o9 : List POper := [{ dst := some 24, op := POp.mv (Operand.tmp 0), guard := none, hints := [] },
  { dst := some 25, op := POp.call true [[]] 56 [Operand.tmp 24], guard := none, hints := [] },
  { dst := some 23, op := POp.mv (Operand.tmp 25), guard := none, hints := [] },
  { dst := some 26, op := POp.ext (Operand.tmp 23) 0, guard := none, hints := [] },
  { dst := some 27, op := POp.ext (Operand.tmp 23) 1, guard := none, hints := [] },
  { dst := some 5, op := POp.mv (Operand.tmp 26), guard := none, hints := [] },
  { dst := some 6, op := POp.mv (Operand.tmp 27), guard := none, hints := [] }]
def pc33_c9 : PCode := .region none false pc33_o9
def pc33_o10 : List POper := [{ dst := some 29, op := POp.mv (Operand.tmp 1), guard := none, hints := [] },
  { dst := some 30, op := POp.call true [[]] 56 [Operand.tmp 29], guard := none, hints := [] },
  { dst := some 28, op := POp.mv (Operand.tmp 30), guard := none, hints := [] },
  { dst := some 31, op := POp.ext (Operand.tmp 28) 0, guard := none, hints := [] },
  { dst := some 32, op := POp.ext (Operand.tmp 28) 1, guard := none, hints := [] },
  { dst := some 7, op := POp.mv (Operand.tmp 31), guard := none, hints := [] },
  { dst := some 8, op := POp.mv (Operand.tmp 32), guard := none, hints := [] }]
def pc33_c10 : PCode := .region none false pc33_o10
def pc33_o11 : List POper := [{ dst := some 9, op := POp.mv (Operand.func 61), guard := none, hints := [] }]
def pc33_c11 : PCode := .region none false pc33_o11
def pc33_o12 : List POper := [{ dst := some 33, op := POp.mv (Operand.tmp 9), guard := none, hints := [] },
  { dst := some 34, op := POp.mv (Operand.tmp 5), guard := none, hints := [] },
  { dst := some 35, op := POp.mv (Operand.tmp 7), guard := none, hints := [] },
  { dst := some 36, op := POp.callv true [[], []] (Operand.tmp 33) [Operand.tmp 34, Operand.tmp 35], guard := none, hints := [] },
  { dst := some 37, op := POp.mv (Operand.tmp 36), guard := none, hints := [] },
  { dst := some 38, op := POp.mv (Operand.tmp 9), guard := some (37, true), hints := [] },
  { dst := some 39, op := POp.mv (Operand.tmp 6), guard := some (37, true), hints := [] },
  { dst := some 40, op := POp.mv (Operand.tmp 8), guard := some (37, true), hints := [] },
  { dst := some 41, op := POp.callv true [[], []] (Operand.tmp 38) [Operand.tmp 39, Operand.tmp 40], guard := some (37, true), hints := [] },
  { dst := some 42, op := POp.pick (Operand.tmp 37) (Operand.tmp 41) (Operand.const (Value.bool false)), guard := none, hints := [] },
  { dst := some 4, op := POp.mv (Operand.tmp 42), guard := none, hints := [] }]
def pc33_c12 : PCode := .region none false pc33_o12
def pc33_c13 : PCode := .ret
def pc33_c14 : PCode := .seq pc33_c12 pc33_c13
def pc33_c15 : PCode := .seq pc33_c11 pc33_c14
def pc33_c16 : PCode := .seq pc33_c10 pc33_c15
def pc33_c17 : PCode := .seq pc33_c9 pc33_c16
def pc33_c18 : PCode := .seq pc33_c8 pc33_c17
def pc33_c19 : PCode := .seq pc33_c1 pc33_c18
def pc33_r : List PRes := [PRes.tmp 4 []]
def pc33 : PFunc := ⟨43, pc33_r, pc33_c19⟩
def pc33_a : Ann := {
  kr := fun
    | _ => none
  ka := fun
    | _ => 0
  kh := fun
    | _ => none }
theorem pc33_ok : compFn Try.prog pc33_a Try.f33 = some pc33 := by kernel_rfl


-- 24: vedette/vedettelaw5.known
def pc24_o1 : List POper := [{ dst := some 0, op := POp.mv (Operand.const (Value.bool false)), guard := none, hints := [] }]
def pc24_c1 : PCode := .region none false pc24_o1
def pc24_o2 : List POper := [{ dst := some 11, op := POp.build (Value.agg { toList := [Value.int IntKind.i64 0, Value.int IntKind.i64 0] }) [(0, 1, Operand.const (Value.int IntKind.i64 16))], guard := none, hints := [] },
  { dst := some 12, op := POp.call true [[]] 25 [Operand.tmp 11], guard := none, hints := [] },
  { dst := some 10, op := POp.mv (Operand.tmp 12), guard := none, hints := [] },
  { dst := some 13, op := POp.ext (Operand.tmp 10) 0, guard := none, hints := [] },
  { dst := some 14, op := POp.ext (Operand.tmp 10) 1, guard := none, hints := [] },
  { dst := some 1, op := POp.mv (Operand.tmp 13), guard := none, hints := [] },
  { dst := some 2, op := POp.mv (Operand.tmp 14), guard := none, hints := [] }]
def pc24_c2 : PCode := .region none false pc24_o2
def pc24_o3 : List POper := [{ dst := some 16, op := POp.build (Value.agg { toList := [Value.int IntKind.i64 0, Value.int IntKind.i64 0] }) [(0, 1, Operand.const (Value.int IntKind.i64 (-1)))], guard := none, hints := [] },
  { dst := some 17, op := POp.call true [[]] 25 [Operand.tmp 16], guard := none, hints := [] },
  { dst := some 15, op := POp.mv (Operand.tmp 17), guard := none, hints := [] },
  { dst := some 18, op := POp.ext (Operand.tmp 15) 0, guard := none, hints := [] },
  { dst := some 19, op := POp.ext (Operand.tmp 15) 1, guard := none, hints := [] },
  { dst := some 3, op := POp.mv (Operand.tmp 18), guard := none, hints := [] },
  { dst := some 4, op := POp.mv (Operand.tmp 19), guard := none, hints := [] }]
def pc24_c3 : PCode := .region none false pc24_o3
def pc24_o4 : List POper := [{ dst := some 21, op := POp.call true [[]] 27 [Operand.const (Value.int IntKind.i64 1)], guard := none, hints := [] },
  { dst := some 20, op := POp.mv (Operand.tmp 21), guard := none, hints := [] },
  { dst := some 22, op := POp.ext (Operand.tmp 20) 0, guard := none, hints := [] },
  { dst := some 23, op := POp.ext (Operand.tmp 20) 1, guard := none, hints := [] },
  { dst := some 5, op := POp.alloc 24 (Value.agg { toList := [Value.int IntKind.i64 0, Value.int IntKind.i64 0, Value.int IntKind.i64 0, Value.int IntKind.i64 0] }), guard := none, hints := [] },
  { dst := none, op := POp.store 4 (Operand.tmp 5) (Operand.tmp 22), guard := none, hints := [] },
  { dst := some 6, op := POp.mv (Operand.tmp 23), guard := none, hints := [] }]
def pc24_c4 : PCode := .region none false pc24_o4
def pc24_o5 : List POper := [{ dst := some 25, op := POp.call true [[]] 27 [Operand.const (Value.int IntKind.i64 16)], guard := none, hints := [] },
  { dst := some 24, op := POp.mv (Operand.tmp 25), guard := none, hints := [] },
  { dst := some 26, op := POp.ext (Operand.tmp 24) 0, guard := none, hints := [] },
  { dst := some 27, op := POp.ext (Operand.tmp 24) 1, guard := none, hints := [] },
  { dst := some 7, op := POp.alloc 24 (Value.agg { toList := [Value.int IntKind.i64 0, Value.int IntKind.i64 0, Value.int IntKind.i64 0, Value.int IntKind.i64 0] }), guard := none, hints := [] },
  { dst := none, op := POp.store 4 (Operand.tmp 7) (Operand.tmp 26), guard := none, hints := [] },
  { dst := some 8, op := POp.mv (Operand.tmp 27), guard := none, hints := [] }]
def pc24_c5 : PCode := .region none false pc24_o5
def pc24_o6 : List POper := [{ dst := some 28, op := POp.build (Value.agg { toList := [Value.int IntKind.i64 0, Value.int IntKind.i64 0, Value.int IntKind.i64 0, Value.int IntKind.i64 0] }) [(0, 1, Operand.const (Value.int IntKind.i64 15)), (1, 1, Operand.const (Value.int IntKind.i64 0)), (2, 1, Operand.const (Value.int IntKind.i64 17)), (3, 1, Operand.const (Value.int IntKind.i64 1))], guard := none, hints := [] },
  { dst := some 29, op := POp.call true [[]] 29 [Operand.tmp 28], guard := none, hints := [] },
  { dst := some 9, op := POp.mv (Operand.tmp 29), guard := none, hints := [] }]
def pc24_c6 : PCode := .region none false pc24_o6
def pc24_o7 : List POper := [{ dst := some 30, op := POp.mv (Operand.tmp 2), guard := none, hints := [] },
  { dst := some 31, op := POp.prim (Prim.bin BinOp.eql 48 false true) [Operand.tmp 30, Operand.const (Value.int IntKind.i64 0)], guard := none, hints := [] },
  { dst := some 32, op := POp.mv (Operand.tmp 31), guard := none, hints := [] },
  { dst := some 33, op := POp.mv (Operand.tmp 1), guard := some (32, true), hints := [] },
  { dst := some 34, op := POp.prim (Prim.bin BinOp.eql 3 false true) [Operand.tmp 33, Operand.const (Value.int IntKind.i64 1)], guard := some (32, true), hints := [] },
  { dst := some 35, op := POp.pick (Operand.tmp 32) (Operand.tmp 34) (Operand.const (Value.bool false)), guard := none, hints := [] },
  { dst := some 36, op := POp.mv (Operand.tmp 35), guard := none, hints := [] },
  { dst := some 37, op := POp.mv (Operand.tmp 4), guard := some (36, true), hints := [] },
  { dst := some 38, op := POp.prim (Prim.bin BinOp.eql 48 false true) [Operand.tmp 37, Operand.const (Value.int IntKind.i64 14)], guard := some (36, true), hints := [] },
  { dst := some 39, op := POp.pick (Operand.tmp 36) (Operand.tmp 38) (Operand.const (Value.bool false)), guard := none, hints := [] },
  { dst := some 40, op := POp.mv (Operand.tmp 39), guard := none, hints := [] },
  { dst := some 41, op := POp.mv (Operand.tmp 6), guard := some (40, true), hints := [] },
  { dst := some 42, op := POp.pick (Operand.tmp 40) (Operand.tmp 41) (Operand.const (Value.bool false)), guard := none, hints := [] },
  { dst := some 43, op := POp.mv (Operand.tmp 42), guard := none, hints := [] },
  { dst := some 44, op := POp.load true 4 (Operand.tmp 5), guard := some (43, true), hints := [] },
  { dst := some 45, op := POp.build (Value.agg { toList := [Value.int IntKind.i64 0, Value.int IntKind.i64 0, Value.int IntKind.i64 0, Value.int IntKind.i64 0] }) [(0, 1, Operand.const (Value.int IntKind.i64 16)), (2, 1, Operand.const (Value.int IntKind.i64 32)), (3, 1, Operand.const (Value.int IntKind.i64 16))], guard := some (43, true), hints := [] },
  { dst := some 46, op := POp.prim (Prim.bin BinOp.eql 24 false false) [Operand.tmp 44, Operand.tmp 45], guard := some (43, true), hints := [] },
  { dst := some 47, op := POp.pick (Operand.tmp 43) (Operand.tmp 46) (Operand.const (Value.bool false)), guard := none, hints := [] },
  { dst := some 48, op := POp.mv (Operand.tmp 47), guard := none, hints := [] },
  { dst := some 49, op := POp.mv (Operand.tmp 8), guard := some (48, true), hints := [] },
  { dst := some 50, op := POp.prim (Prim.un UnOp.not) [Operand.tmp 49], guard := some (48, true), hints := [] },
  { dst := some 51, op := POp.pick (Operand.tmp 48) (Operand.tmp 50) (Operand.const (Value.bool false)), guard := none, hints := [] },
  { dst := some 52, op := POp.mv (Operand.tmp 51), guard := none, hints := [] },
  { dst := some 53, op := POp.mv (Operand.tmp 9), guard := some (52, true), hints := [] },
  { dst := some 54, op := POp.lenS (Operand.tmp 53), guard := some (52, true), hints := [] },
  { dst := some 55, op := POp.prim (Prim.bin BinOp.eql 3 false true) [Operand.tmp 54, Operand.const (Value.int IntKind.i64 2)], guard := some (52, true), hints := [] },
  { dst := some 56, op := POp.pick (Operand.tmp 52) (Operand.tmp 55) (Operand.const (Value.bool false)), guard := none, hints := [] },
  { dst := some 57, op := POp.mv (Operand.tmp 56), guard := none, hints := [] },
  { dst := some 58, op := POp.mv (Operand.tmp 9), guard := some (57, true), hints := [] },
  { dst := some 59, op := POp.iaddrS 1 (Operand.tmp 58) (Operand.const (Value.int IntKind.i64 1)), guard := some (57, true), hints := [] },
  { dst := some 60, op := POp.load false 1 (Operand.tmp 59), guard := some (57, true), hints := [] },
  { dst := some 61, op := POp.prim (Prim.bin BinOp.eql 3 false true) [Operand.tmp 60, Operand.const (Value.int IntKind.i64 1)], guard := some (57, true), hints := [] },
  { dst := some 62, op := POp.pick (Operand.tmp 57) (Operand.tmp 61) (Operand.const (Value.bool false)), guard := none, hints := [] },
  { dst := some 63, op := POp.mv (Operand.tmp 62), guard := none, hints := [] },
  { dst := some 64, op := POp.call true [[]] 31 [Operand.const (Value.int IntKind.i64 15)], guard := some (63, true), hints := [] },
  { dst := some 65, op := POp.pick (Operand.tmp 63) (Operand.tmp 64) (Operand.const (Value.bool false)), guard := none, hints := [] },
  { dst := some 66, op := POp.mv (Operand.tmp 65), guard := none, hints := [] },
  { dst := some 67, op := POp.call true [[], []] 33 [Operand.const (Value.int IntKind.i64 0), Operand.const (Value.int IntKind.i64 3)], guard := some (66, true), hints := [] },
  { dst := some 68, op := POp.pick (Operand.tmp 66) (Operand.tmp 67) (Operand.const (Value.bool false)), guard := none, hints := [] },
  { dst := some 69, op := POp.mv (Operand.tmp 68), guard := none, hints := [] },
  { dst := some 70, op := POp.call true [[], []] 33 [Operand.const (Value.int IntKind.i64 0), Operand.const (Value.int IntKind.i64 0)], guard := some (69, true), hints := [] },
  { dst := some 71, op := POp.prim (Prim.un UnOp.not) [Operand.tmp 70], guard := some (69, true), hints := [] },
  { dst := some 72, op := POp.pick (Operand.tmp 69) (Operand.tmp 71) (Operand.const (Value.bool false)), guard := none, hints := [] },
  { dst := some 0, op := POp.mv (Operand.tmp 72), guard := none, hints := [] }]
def pc24_c7 : PCode := .region none false pc24_o7
def pc24_c8 : PCode := .ret
def pc24_c9 : PCode := .seq pc24_c7 pc24_c8
def pc24_c10 : PCode := .seq pc24_c6 pc24_c9
def pc24_c11 : PCode := .seq pc24_c5 pc24_c10
def pc24_c12 : PCode := .seq pc24_c4 pc24_c11
def pc24_c13 : PCode := .seq pc24_c3 pc24_c12
def pc24_c14 : PCode := .seq pc24_c2 pc24_c13
def pc24_c15 : PCode := .seq pc24_c1 pc24_c14
def pc24_r : List PRes := [PRes.tmp 0 []]
def pc24 : PFunc := ⟨73, pc24_r, pc24_c15⟩
def pc24_a : Ann := {
  kr := fun
    | _ => none
  ka := fun
    | _ => 0
  kh := fun
    | _ => none }
theorem pc24_ok : compFn Try.prog pc24_a Try.f24 = some pc24 := by kernel_rfl


-- 8: vedette/vedettelaw5.CellWhole
def pc8_o1 : List POper := [{ dst := some 2, op := POp.box 34 (Operand.tmp 0), guard := none, hints := [] },
  { dst := some 3, op := POp.box 24 (Operand.tmp 1), guard := none, hints := [] },
  { dst := some 4, op := POp.mv (Operand.const (Value.bool false)), guard := none, hints := [] }]
def pc8_c1 : PCode := .region none false pc8_o1
def pc8_o2 : List POper := [{ dst := some 14, op := POp.call true [] 24 [], guard := none, hints := [] },
  { dst := some 15, op := POp.prim (Prim.un UnOp.not) [Operand.tmp 14], guard := none, hints := [] }]
def pc8_c2 : PCode := .region none false pc8_o2
def pc8_o3 : List POper := [{ dst := some 4, op := POp.mv (Operand.const (Value.bool false)), guard := none, hints := [] }]
def pc8_c3 : PCode := .region none false pc8_o3
def pc8_c4 : PCode := .ret
def pc8_c5 : PCode := .seq pc8_c3 pc8_c4
def pc8_c6 : PCode := .skip
def pc8_c7 : PCode := .cond (Operand.tmp 15) pc8_c5 pc8_c6
def pc8_c8 : PCode := .seq pc8_c2 pc8_c7
def pc8_o9 : List POper := [{ dst := some 17, op := POp.load true 2 (Operand.tmp 2), guard := none, hints := [] },
  { dst := some 18, op := POp.call true [[]] 25 [Operand.tmp 17], guard := none, hints := [] },
  { dst := some 16, op := POp.mv (Operand.tmp 18), guard := none, hints := [] },
  { dst := some 19, op := POp.ext (Operand.tmp 16) 0, guard := none, hints := [] },
  { dst := some 20, op := POp.ext (Operand.tmp 16) 1, guard := none, hints := [] },
  { dst := some 5, op := POp.mv (Operand.tmp 19), guard := none, hints := [] },
  { dst := some 6, op := POp.mv (Operand.tmp 20), guard := none, hints := [] }]
def pc8_c9 : PCode := .region none false pc8_o9
def pc8_o10 : List POper := [{ dst := some 7, op := POp.mv (Operand.const (Value.int IntKind.i64 0)), guard := none, hints := [] }]
def pc8_c10 : PCode := .region none false pc8_o10
def pc8_o11 : List POper := [{ dst := some 8, op := POp.mv (Operand.const (Value.int IntKind.i64 0)), guard := none, hints := [] }]
def pc8_c11 : PCode := .region none false pc8_o11
def pc8_o12 : List POper := [{ dst := some 21, op := POp.mv (Operand.tmp 8), guard := none, hints := [] },
  { dst := some 22, op := POp.prim (Prim.bin BinOp.lss 3 false true) [Operand.tmp 21, Operand.const (Value.int IntKind.i64 16)], guard := none, hints := [] }]
def pc8_c12 : PCode := .region (some ([2, 3, 5, 6, 7, 8], [2, 3, 9])) false pc8_o12
def pc8_c13 : PCode := .skip
def pc8_c14 : PCode := .exit 0
def pc8_c15 : PCode := .cond (Operand.tmp 22) pc8_c13 pc8_c14
def pc8_c16 : PCode := .seq pc8_c12 pc8_c15
def pc8_o17 : List POper := [{ dst := some 26, op := POp.mv (Operand.tmp 8), guard := none, hints := [] },
  { dst := some 27, op := POp.call true [[]] 27 [Operand.tmp 26], guard := none, hints := [] },
  { dst := some 25, op := POp.mv (Operand.tmp 27), guard := none, hints := [] },
  { dst := some 28, op := POp.ext (Operand.tmp 25) 0, guard := none, hints := [] },
  { dst := some 29, op := POp.ext (Operand.tmp 25) 1, guard := none, hints := [] },
  { dst := some 9, op := POp.alloc 24 (Value.agg { toList := [Value.int IntKind.i64 0, Value.int IntKind.i64 0, Value.int IntKind.i64 0, Value.int IntKind.i64 0] }), guard := none, hints := [] },
  { dst := none, op := POp.store 4 (Operand.tmp 9) (Operand.tmp 28), guard := none, hints := [] },
  { dst := some 10, op := POp.mv (Operand.tmp 29), guard := none, hints := [] }]
def pc8_c17 : PCode := .region none false pc8_o17
def pc8_o18 : List POper := [{ dst := some 30, op := POp.mv (Operand.tmp 10), guard := none, hints := [] },
  { dst := some 31, op := POp.prim (Prim.un UnOp.not) [Operand.tmp 30], guard := none, hints := [] }]
def pc8_c18 : PCode := .region none false pc8_o18
def pc8_o19 : List POper := [{ dst := some 4, op := POp.mv (Operand.const (Value.bool false)), guard := none, hints := [] }]
def pc8_c19 : PCode := .region none false pc8_o19
def pc8_c20 : PCode := .ret
def pc8_c21 : PCode := .seq pc8_c19 pc8_c20
def pc8_c22 : PCode := .skip
def pc8_c23 : PCode := .cond (Operand.tmp 31) pc8_c21 pc8_c22
def pc8_c24 : PCode := .seq pc8_c18 pc8_c23
def pc8_o25 : List POper := [{ dst := some 32, op := POp.load true 4 (Operand.tmp 9), guard := none, hints := [] },
  { dst := some 33, op := POp.load true 2 (Operand.tmp 2), guard := none, hints := [] },
  { dst := some 34, op := POp.call true [[], []] 23 [Operand.tmp 32, Operand.tmp 33], guard := none, hints := [] }]
def pc8_c25 : PCode := .region none false pc8_o25
def pc8_o26 : List POper := [{ dst := some 35, op := POp.mv (Operand.tmp 7), guard := none, hints := [] },
  { dst := some 36, op := POp.prim (Prim.bin BinOp.add 3 false true) [Operand.tmp 35, Operand.const (Value.int IntKind.i64 1)], guard := none, hints := [] },
  { dst := some 7, op := POp.mv (Operand.tmp 36), guard := none, hints := [] }]
def pc8_c26 : PCode := .region none false pc8_o26
def pc8_o27 : List POper := [{ dst := some 37, op := POp.mv (Operand.tmp 8), guard := none, hints := [] },
  { dst := some 38, op := POp.mv (Operand.tmp 5), guard := none, hints := [] },
  { dst := some 39, op := POp.prim (Prim.bin BinOp.neq 3 false false) [Operand.tmp 37, Operand.tmp 38], guard := none, hints := [] }]
def pc8_c27 : PCode := .region none false pc8_o27
def pc8_o28 : List POper := [{ dst := some 4, op := POp.mv (Operand.const (Value.bool false)), guard := none, hints := [] }]
def pc8_c28 : PCode := .region none false pc8_o28
def pc8_c29 : PCode := .ret
def pc8_c30 : PCode := .seq pc8_c28 pc8_c29
def pc8_c31 : PCode := .skip
def pc8_c32 : PCode := .cond (Operand.tmp 39) pc8_c30 pc8_c31
def pc8_c33 : PCode := .seq pc8_c27 pc8_c32
def pc8_c34 : PCode := .seq pc8_c26 pc8_c33
def pc8_c35 : PCode := .skip
def pc8_c36 : PCode := .cond (Operand.tmp 34) pc8_c34 pc8_c35
def pc8_c37 : PCode := .seq pc8_c25 pc8_c36
def pc8_c38 : PCode := .seq pc8_c24 pc8_c37
def pc8_c39 : PCode := .seq pc8_c17 pc8_c38
def pc8_c40 : PCode := .block 1 pc8_c39
def pc8_o41 : List POper := [{ dst := some 23, op := POp.mv (Operand.tmp 8), guard := none, hints := [] },
  { dst := some 24, op := POp.prim (Prim.bin BinOp.add 3 false true) [Operand.tmp 23, Operand.const (Value.int IntKind.i64 1)], guard := none, hints := [] },
  { dst := some 8, op := POp.mv (Operand.tmp 24), guard := none, hints := [] }]
def pc8_c41 : PCode := .region none false pc8_o41
def pc8_c42 : PCode := .seq pc8_c40 pc8_c41
def pc8_c43 : PCode := .seq pc8_c16 pc8_c42
def pc8_c44 : PCode := .loop pc8_c43
def pc8_c45 : PCode := .block 0 pc8_c44
def pc8_c46 : PCode := .seq pc8_c11 pc8_c45
def pc8_o47 : List POper := [{ dst := some 40, op := POp.mv (Operand.tmp 6), guard := none, hints := [] },
  { dst := some 41, op := POp.prim (Prim.bin BinOp.neq 48 false true) [Operand.tmp 40, Operand.const (Value.int IntKind.i64 0)], guard := none, hints := [] }]
def pc8_c47 : PCode := .region none false pc8_o47
def pc8_o48 : List POper := [{ dst := some 42, op := POp.mv (Operand.tmp 7), guard := none, hints := [] },
  { dst := some 43, op := POp.prim (Prim.bin BinOp.eql 3 false true) [Operand.tmp 42, Operand.const (Value.int IntKind.i64 0)], guard := none, hints := [] },
  { dst := some 44, op := POp.mv (Operand.tmp 43), guard := none, hints := [] },
  { dst := some 45, op := POp.mv (Operand.tmp 6), guard := some (44, true), hints := [] },
  { dst := some 46, op := POp.prim (Prim.bin BinOp.eql 48 false true) [Operand.tmp 45, Operand.const (Value.int IntKind.i64 14)], guard := some (44, true), hints := [] },
  { dst := some 47, op := POp.pick (Operand.tmp 44) (Operand.tmp 46) (Operand.const (Value.bool false)), guard := none, hints := [] },
  { dst := some 4, op := POp.mv (Operand.tmp 47), guard := none, hints := [] }]
def pc8_c48 : PCode := .region none false pc8_o48
def pc8_c49 : PCode := .ret
def pc8_c50 : PCode := .seq pc8_c48 pc8_c49
def pc8_c51 : PCode := .skip
def pc8_c52 : PCode := .cond (Operand.tmp 41) pc8_c50 pc8_c51
def pc8_c53 : PCode := .seq pc8_c47 pc8_c52
def pc8_o54 : List POper := [{ dst := some 48, op := POp.load true 4 (Operand.tmp 3), guard := none, hints := [] },
  { dst := some 49, op := POp.call true [[]] 29 [Operand.tmp 48], guard := none, hints := [] },
  { dst := some 11, op := POp.mv (Operand.tmp 49), guard := none, hints := [] }]
def pc8_c54 : PCode := .region none false pc8_o54
def pc8_o55 : List POper := [{ dst := some 12, op := POp.mv (Operand.const (Value.bool false)), guard := none, hints := [] }]
def pc8_c55 : PCode := .region none false pc8_o55
def pc8_o56 : List POper := [{ dst := some 13, op := POp.mv (Operand.const (Value.int IntKind.i64 0)), guard := none, hints := [] }]
def pc8_c56 : PCode := .region none false pc8_o56
def pc8_o57 : List POper := [{ dst := some 50, op := POp.mv (Operand.tmp 13), guard := none, hints := [] },
  { dst := some 51, op := POp.mv (Operand.tmp 11), guard := none, hints := [] },
  { dst := some 52, op := POp.lenS (Operand.tmp 51), guard := none, hints := [] },
  { dst := some 53, op := POp.prim (Prim.bin BinOp.lss 3 false false) [Operand.tmp 50, Operand.tmp 52], guard := none, hints := [] }]
def pc8_c57 : PCode := .region (some ([2, 3, 5, 7, 11, 12, 13], [2, 3])) false pc8_o57
def pc8_c58 : PCode := .skip
def pc8_c59 : PCode := .exit 2
def pc8_c60 : PCode := .cond (Operand.tmp 53) pc8_c58 pc8_c59
def pc8_c61 : PCode := .seq pc8_c57 pc8_c60
def pc8_o62 : List POper := [{ dst := some 56, op := POp.mv (Operand.tmp 12), guard := none, hints := [] },
  { dst := some 57, op := POp.mv (Operand.tmp 56), guard := none, hints := [] },
  { dst := some 58, op := POp.mv (Operand.tmp 11), guard := some (57, false), hints := [] },
  { dst := some 59, op := POp.mv (Operand.tmp 13), guard := some (57, false), hints := [] },
  { dst := some 60, op := POp.iaddrS 1 (Operand.tmp 58) (Operand.tmp 59), guard := some (57, false), hints := [] },
  { dst := some 61, op := POp.load false 1 (Operand.tmp 60), guard := some (57, false), hints := [] },
  { dst := some 62, op := POp.mv (Operand.tmp 5), guard := some (57, false), hints := [] },
  { dst := some 63, op := POp.prim (Prim.bin BinOp.eql 3 false false) [Operand.tmp 61, Operand.tmp 62], guard := some (57, false), hints := [] },
  { dst := some 64, op := POp.pick (Operand.tmp 57) (Operand.const (Value.bool true)) (Operand.tmp 63), guard := none, hints := [] },
  { dst := some 12, op := POp.mv (Operand.tmp 64), guard := none, hints := [] }]
def pc8_c62 : PCode := .region none false pc8_o62
def pc8_c63 : PCode := .block 3 pc8_c62
def pc8_o64 : List POper := [{ dst := some 54, op := POp.mv (Operand.tmp 13), guard := none, hints := [] },
  { dst := some 55, op := POp.prim (Prim.bin BinOp.add 3 false true) [Operand.tmp 54, Operand.const (Value.int IntKind.i64 1)], guard := none, hints := [] },
  { dst := some 13, op := POp.mv (Operand.tmp 55), guard := none, hints := [] }]
def pc8_c64 : PCode := .region none false pc8_o64
def pc8_c65 : PCode := .seq pc8_c63 pc8_c64
def pc8_c66 : PCode := .seq pc8_c61 pc8_c65
def pc8_c67 : PCode := .loop pc8_c66
def pc8_c68 : PCode := .block 2 pc8_c67
def pc8_c69 : PCode := .seq pc8_c56 pc8_c68
def pc8_o70 : List POper := [{ dst := some 65, op := POp.mv (Operand.tmp 7), guard := none, hints := [] },
  { dst := some 66, op := POp.prim (Prim.bin BinOp.eql 3 false true) [Operand.tmp 65, Operand.const (Value.int IntKind.i64 1)], guard := none, hints := [] },
  { dst := some 67, op := POp.mv (Operand.tmp 66), guard := none, hints := [] },
  { dst := some 68, op := POp.load true 4 (Operand.tmp 3), guard := some (67, true), hints := [] },
  { dst := some 69, op := POp.load true 2 (Operand.tmp 2), guard := some (67, true), hints := [] },
  { dst := some 70, op := POp.call true [[], []] 23 [Operand.tmp 68, Operand.tmp 69], guard := some (67, true), hints := [] },
  { dst := some 71, op := POp.prim (Prim.un UnOp.not) [Operand.tmp 70], guard := some (67, true), hints := [] },
  { dst := some 72, op := POp.mv (Operand.tmp 71), guard := some (67, true), hints := [] },
  { dst := some 73, op := POp.mv (Operand.tmp 12), guard := some (72, false), hints := [] },
  { dst := some 74, op := POp.pick (Operand.tmp 72) (Operand.const (Value.bool true)) (Operand.tmp 73), guard := some (67, true), hints := [] },
  { dst := some 75, op := POp.pick (Operand.tmp 67) (Operand.tmp 74) (Operand.const (Value.bool false)), guard := none, hints := [] },
  { dst := some 4, op := POp.mv (Operand.tmp 75), guard := none, hints := [] }]
def pc8_c70 : PCode := .region none false pc8_o70
def pc8_c71 : PCode := .ret
def pc8_c72 : PCode := .seq pc8_c70 pc8_c71
def pc8_c73 : PCode := .seq pc8_c69 pc8_c72
def pc8_c74 : PCode := .seq pc8_c55 pc8_c73
def pc8_c75 : PCode := .seq pc8_c54 pc8_c74
def pc8_c76 : PCode := .seq pc8_c53 pc8_c75
def pc8_c77 : PCode := .seq pc8_c46 pc8_c76
def pc8_c78 : PCode := .seq pc8_c10 pc8_c77
def pc8_c79 : PCode := .seq pc8_c9 pc8_c78
def pc8_c80 : PCode := .seq pc8_c8 pc8_c79
def pc8_c81 : PCode := .seq pc8_c1 pc8_c80
def pc8_r : List PRes := [PRes.tmp 4 []]
def pc8 : PFunc := ⟨76, pc8_r, pc8_c81⟩
def pc8_a : Ann := {
  kr := fun
    | 6 => some ([2, 3, 5, 6, 7, 8], [2, 3, 9])
    | 20 => some ([2, 3, 5, 7, 11, 12, 13], [2, 3])
    | _ => none
  ka := fun
    | _ => 0
  kh := fun
    | _ => none }
theorem pc8_ok : compFn Try.prog pc8_a Try.f8 = some pc8 := by kernel_rfl


-- 9: vedette/vedettelaw5.CellNeighbours
def pc9_o1 : List POper := [{ dst := some 7, op := POp.box 34 (Operand.tmp 2), guard := none, hints := [] },
  { dst := some 10, op := POp.mv (Operand.const (Value.bool false)), guard := none, hints := [] }]
def pc9_c1 : PCode := .region none false pc9_o1
def pc9_o2 : List POper := [{ dst := some 20, op := POp.call true [] 24 [], guard := none, hints := [] },
  { dst := some 21, op := POp.prim (Prim.un UnOp.not) [Operand.tmp 20], guard := none, hints := [] }]
def pc9_c2 : PCode := .region none false pc9_o2
def pc9_o3 : List POper := [{ dst := some 10, op := POp.mv (Operand.const (Value.bool false)), guard := none, hints := [] }]
def pc9_c3 : PCode := .region none false pc9_o3
def pc9_c4 : PCode := .ret
def pc9_c5 : PCode := .seq pc9_c3 pc9_c4
def pc9_c6 : PCode := .skip
def pc9_c7 : PCode := .cond (Operand.tmp 21) pc9_c5 pc9_c6
def pc9_c8 : PCode := .seq pc9_c2 pc9_c7
def pc9_o9 : List POper := [{ dst := some 22, op := POp.mv (Operand.tmp 0), guard := none, hints := [] },
  { dst := some 23, op := POp.prim (Prim.bin BinOp.rem 5 false true) [Operand.tmp 22, Operand.const (Value.int IntKind.u8 16)], guard := none, hints := [] },
  { dst := some 24, op := POp.prim (Prim.conv 5 3) [Operand.tmp 23], guard := none, hints := [] },
  { dst := some 25, op := POp.mv (Operand.tmp 1), guard := none, hints := [] },
  { dst := some 26, op := POp.prim (Prim.bin BinOp.rem 5 false true) [Operand.tmp 25, Operand.const (Value.int IntKind.u8 16)], guard := none, hints := [] },
  { dst := some 27, op := POp.prim (Prim.conv 5 3) [Operand.tmp 26], guard := none, hints := [] },
  { dst := some 11, op := POp.mv (Operand.tmp 24), guard := none, hints := [] },
  { dst := some 12, op := POp.mv (Operand.tmp 27), guard := none, hints := [] }]
def pc9_c9 : PCode := .region none false pc9_o9
def pc9_o10 : List POper := [{ dst := some 13, op := POp.mv (Operand.const (Value.int IntKind.i64 0)), guard := none, hints := [] }]
def pc9_c10 : PCode := .region none false pc9_o10
def pc9_o11 : List POper := [{ dst := some 14, op := POp.mv (Operand.const (Value.int IntKind.i64 0)), guard := none, hints := [] }]
def pc9_c11 : PCode := .region none false pc9_o11
def pc9_o12 : List POper := [{ dst := some 28, op := POp.mv (Operand.tmp 14), guard := none, hints := [] },
  { dst := some 29, op := POp.prim (Prim.bin BinOp.lss 3 false true) [Operand.tmp 28, Operand.const (Value.int IntKind.i64 16)], guard := none, hints := [] }]
def pc9_c12 : PCode := .region (some ([3, 4, 7, 11, 12, 13, 14], [7])) false pc9_o12
def pc9_c13 : PCode := .skip
def pc9_c14 : PCode := .exit 0
def pc9_c15 : PCode := .cond (Operand.tmp 29) pc9_c13 pc9_c14
def pc9_c16 : PCode := .seq pc9_c12 pc9_c15
def pc9_o17 : List POper := [{ dst := some 32, op := POp.mv (Operand.tmp 11), guard := none, hints := [] },
  { dst := some 33, op := POp.mv (Operand.tmp 14), guard := none, hints := [] },
  { dst := some 34, op := POp.call true [[], []] 33 [Operand.tmp 32, Operand.tmp 33], guard := none, hints := [] }]
def pc9_c17 : PCode := .region none false pc9_o17
def pc9_o18 : List POper := [{ dst := some 35, op := POp.mv (Operand.tmp 13), guard := none, hints := [] },
  { dst := some 36, op := POp.prim (Prim.bin BinOp.add 3 false true) [Operand.tmp 35, Operand.const (Value.int IntKind.i64 1)], guard := none, hints := [] },
  { dst := some 13, op := POp.mv (Operand.tmp 36), guard := none, hints := [] }]
def pc9_c18 : PCode := .region none false pc9_o18
def pc9_c19 : PCode := .skip
def pc9_c20 : PCode := .cond (Operand.tmp 34) pc9_c18 pc9_c19
def pc9_c21 : PCode := .seq pc9_c17 pc9_c20
def pc9_c22 : PCode := .block 1 pc9_c21
def pc9_o23 : List POper := [{ dst := some 30, op := POp.mv (Operand.tmp 14), guard := none, hints := [] },
  { dst := some 31, op := POp.prim (Prim.bin BinOp.add 3 false true) [Operand.tmp 30, Operand.const (Value.int IntKind.i64 1)], guard := none, hints := [] },
  { dst := some 14, op := POp.mv (Operand.tmp 31), guard := none, hints := [] }]
def pc9_c23 : PCode := .region none false pc9_o23
def pc9_c24 : PCode := .seq pc9_c22 pc9_c23
def pc9_c25 : PCode := .seq pc9_c16 pc9_c24
def pc9_c26 : PCode := .loop pc9_c25
def pc9_c27 : PCode := .block 0 pc9_c26
def pc9_c28 : PCode := .seq pc9_c11 pc9_c27
def pc9_o29 : List POper := [{ dst := some 37, op := POp.faddr 0 (Operand.tmp 7), guard := none, hints := [] },
  { dst := some 38, op := POp.load false 1 (Operand.tmp 37), guard := none, hints := [] },
  { dst := some 39, op := POp.mv (Operand.tmp 3), guard := none, hints := [] },
  { dst := some 40, op := POp.prim (Prim.bin BinOp.rem 5 false true) [Operand.tmp 39, Operand.const (Value.int IntKind.u8 3)], guard := none, hints := [] },
  { dst := some 41, op := POp.prim (Prim.conv 5 3) [Operand.tmp 40], guard := none, hints := [] },
  { dst := some 42, op := POp.prim (Prim.bin BinOp.add 3 false false) [Operand.tmp 38, Operand.tmp 41], guard := none, hints := [] },
  { dst := some 43, op := POp.prim (Prim.bin BinOp.sub 3 false true) [Operand.tmp 42, Operand.const (Value.int IntKind.i64 1)], guard := none, hints := [] },
  { dst := some 44, op := POp.faddr 1 (Operand.tmp 7), guard := none, hints := [] },
  { dst := some 45, op := POp.load false 1 (Operand.tmp 44), guard := none, hints := [] },
  { dst := some 46, op := POp.mv (Operand.tmp 4), guard := none, hints := [] },
  { dst := some 47, op := POp.prim (Prim.bin BinOp.rem 5 false true) [Operand.tmp 46, Operand.const (Value.int IntKind.u8 3)], guard := none, hints := [] },
  { dst := some 48, op := POp.prim (Prim.conv 5 3) [Operand.tmp 47], guard := none, hints := [] },
  { dst := some 49, op := POp.prim (Prim.bin BinOp.add 3 false false) [Operand.tmp 45, Operand.tmp 48], guard := none, hints := [] },
  { dst := some 50, op := POp.prim (Prim.bin BinOp.sub 3 false true) [Operand.tmp 49, Operand.const (Value.int IntKind.i64 1)], guard := none, hints := [] },
  { dst := some 51, op := POp.build (Value.agg { toList := [Value.int IntKind.i64 0, Value.int IntKind.i64 0] }) [(0, 1, Operand.tmp 43), (1, 1, Operand.tmp 50)], guard := none, hints := [] },
  { dst := some 15, op := POp.alloc 34 (Value.agg { toList := [Value.int IntKind.i64 0, Value.int IntKind.i64 0] }), guard := none, hints := [] },
  { dst := none, op := POp.store 2 (Operand.tmp 15) (Operand.tmp 51), guard := none, hints := [] }]
def pc9_c29 : PCode := .region none false pc9_o29
def pc9_o30 : List POper := [{ dst := some 52, op := POp.faddr 0 (Operand.tmp 7), guard := none, hints := [] },
  { dst := some 53, op := POp.load false 1 (Operand.tmp 52), guard := none, hints := [] },
  { dst := some 54, op := POp.prim (Prim.bin BinOp.lss 3 false true) [Operand.tmp 53, Operand.const (Value.int IntKind.i64 0)], guard := none, hints := [] },
  { dst := some 55, op := POp.mv (Operand.tmp 54), guard := none, hints := [] },
  { dst := some 56, op := POp.faddr 0 (Operand.tmp 7), guard := some (55, false), hints := [] },
  { dst := some 57, op := POp.load false 1 (Operand.tmp 56), guard := some (55, false), hints := [] },
  { dst := some 58, op := POp.prim (Prim.bin BinOp.geq 3 false true) [Operand.tmp 57, Operand.const (Value.int IntKind.i64 64)], guard := some (55, false), hints := [] },
  { dst := some 59, op := POp.pick (Operand.tmp 55) (Operand.const (Value.bool true)) (Operand.tmp 58), guard := none, hints := [] },
  { dst := some 60, op := POp.mv (Operand.tmp 59), guard := none, hints := [] },
  { dst := some 61, op := POp.faddr 1 (Operand.tmp 7), guard := some (60, false), hints := [] },
  { dst := some 62, op := POp.load false 1 (Operand.tmp 61), guard := some (60, false), hints := [] },
  { dst := some 63, op := POp.prim (Prim.bin BinOp.lss 3 false true) [Operand.tmp 62, Operand.const (Value.int IntKind.i64 0)], guard := some (60, false), hints := [] },
  { dst := some 64, op := POp.pick (Operand.tmp 60) (Operand.const (Value.bool true)) (Operand.tmp 63), guard := none, hints := [] },
  { dst := some 65, op := POp.mv (Operand.tmp 64), guard := none, hints := [] },
  { dst := some 66, op := POp.faddr 1 (Operand.tmp 7), guard := some (65, false), hints := [] },
  { dst := some 67, op := POp.load false 1 (Operand.tmp 66), guard := some (65, false), hints := [] },
  { dst := some 68, op := POp.prim (Prim.bin BinOp.geq 3 false true) [Operand.tmp 67, Operand.const (Value.int IntKind.i64 64)], guard := some (65, false), hints := [] },
  { dst := some 69, op := POp.pick (Operand.tmp 65) (Operand.const (Value.bool true)) (Operand.tmp 68), guard := none, hints := [] }]
def pc9_c30 : PCode := .region none false pc9_o30
def pc9_o31 : List POper := [{ dst := some 70, op := POp.load true 2 (Operand.tmp 7), guard := none, hints := [] },
  { dst := none, op := POp.store 2 (Operand.tmp 15) (Operand.tmp 70), guard := none, hints := [] }]
def pc9_c31 : PCode := .region none false pc9_o31
def pc9_c32 : PCode := .skip
def pc9_c33 : PCode := .cond (Operand.tmp 69) pc9_c31 pc9_c32
def pc9_c34 : PCode := .seq pc9_c30 pc9_c33
def pc9_o35 : List POper := [{ dst := some 72, op := POp.load true 2 (Operand.tmp 7), guard := none, hints := [] },
  { dst := some 73, op := POp.call true [[]] 25 [Operand.tmp 72], guard := none, hints := [] },
  { dst := some 71, op := POp.mv (Operand.tmp 73), guard := none, hints := [] },
  { dst := some 74, op := POp.ext (Operand.tmp 71) 0, guard := none, hints := [] },
  { dst := some 75, op := POp.ext (Operand.tmp 71) 1, guard := none, hints := [] },
  { dst := some 16, op := POp.mv (Operand.tmp 74), guard := none, hints := [] },
  { dst := some 17, op := POp.mv (Operand.tmp 75), guard := none, hints := [] }]
def pc9_c35 : PCode := .region (some ([7, 11, 12, 13, 15], [7, 15])) false pc9_o35
def pc9_o36 : List POper := [{ dst := some 77, op := POp.load true 2 (Operand.tmp 15), guard := none, hints := [] },
  { dst := some 78, op := POp.call true [[]] 25 [Operand.tmp 77], guard := none, hints := [] },
  { dst := some 76, op := POp.mv (Operand.tmp 78), guard := none, hints := [] },
  { dst := some 79, op := POp.ext (Operand.tmp 76) 0, guard := none, hints := [] },
  { dst := some 80, op := POp.ext (Operand.tmp 76) 1, guard := none, hints := [] },
  { dst := some 18, op := POp.mv (Operand.tmp 79), guard := none, hints := [] },
  { dst := some 19, op := POp.mv (Operand.tmp 80), guard := none, hints := [] }]
def pc9_c36 : PCode := .region none false pc9_o36
def pc9_o37 : List POper := [{ dst := some 81, op := POp.mv (Operand.tmp 11), guard := none, hints := [] },
  { dst := some 82, op := POp.mv (Operand.tmp 12), guard := none, hints := [] },
  { dst := some 83, op := POp.call true [[], []] 33 [Operand.tmp 81, Operand.tmp 82], guard := none, hints := [] },
  { dst := some 84, op := POp.mv (Operand.tmp 12), guard := none, hints := [] },
  { dst := some 85, op := POp.mv (Operand.tmp 11), guard := none, hints := [] },
  { dst := some 86, op := POp.call true [[], []] 33 [Operand.tmp 84, Operand.tmp 85], guard := none, hints := [] },
  { dst := some 87, op := POp.prim (Prim.bin BinOp.eql 4 false false) [Operand.tmp 83, Operand.tmp 86], guard := none, hints := [] },
  { dst := some 88, op := POp.mv (Operand.tmp 87), guard := none, hints := [] },
  { dst := some 89, op := POp.mv (Operand.tmp 13), guard := some (88, true), hints := [] },
  { dst := some 90, op := POp.prim (Prim.bin BinOp.eql 3 false true) [Operand.tmp 89, Operand.const (Value.int IntKind.i64 3)], guard := some (88, true), hints := [] },
  { dst := some 91, op := POp.mv (Operand.tmp 90), guard := some (88, true), hints := [] },
  { dst := some 92, op := POp.mv (Operand.tmp 13), guard := some (91, false), hints := [] },
  { dst := some 93, op := POp.prim (Prim.bin BinOp.eql 3 false true) [Operand.tmp 92, Operand.const (Value.int IntKind.i64 5)], guard := some (91, false), hints := [] },
  { dst := some 94, op := POp.pick (Operand.tmp 91) (Operand.const (Value.bool true)) (Operand.tmp 93), guard := some (88, true), hints := [] },
  { dst := some 95, op := POp.mv (Operand.tmp 94), guard := some (88, true), hints := [] },
  { dst := some 96, op := POp.mv (Operand.tmp 13), guard := some (95, false), hints := [] },
  { dst := some 97, op := POp.prim (Prim.bin BinOp.eql 3 false true) [Operand.tmp 96, Operand.const (Value.int IntKind.i64 8)], guard := some (95, false), hints := [] },
  { dst := some 98, op := POp.pick (Operand.tmp 95) (Operand.const (Value.bool true)) (Operand.tmp 97), guard := some (88, true), hints := [] },
  { dst := some 99, op := POp.pick (Operand.tmp 88) (Operand.tmp 98) (Operand.const (Value.bool false)), guard := none, hints := [] },
  { dst := some 100, op := POp.mv (Operand.tmp 99), guard := none, hints := [] },
  { dst := some 101, op := POp.mv (Operand.tmp 17), guard := some (100, true), hints := [] },
  { dst := some 102, op := POp.prim (Prim.bin BinOp.neq 48 false true) [Operand.tmp 101, Operand.const (Value.int IntKind.i64 0)], guard := some (100, true), hints := [] },
  { dst := some 103, op := POp.mv (Operand.tmp 102), guard := some (100, true), hints := [] },
  { dst := some 104, op := POp.mv (Operand.tmp 19), guard := some (103, false), hints := [] },
  { dst := some 105, op := POp.prim (Prim.bin BinOp.neq 48 false true) [Operand.tmp 104, Operand.const (Value.int IntKind.i64 0)], guard := some (103, false), hints := [] },
  { dst := some 106, op := POp.pick (Operand.tmp 103) (Operand.const (Value.bool true)) (Operand.tmp 105), guard := some (100, true), hints := [] },
  { dst := some 107, op := POp.mv (Operand.tmp 106), guard := some (100, true), hints := [] },
  { dst := some 108, op := POp.mv (Operand.tmp 16), guard := some (107, false), hints := [] },
  { dst := some 109, op := POp.mv (Operand.tmp 18), guard := some (107, false), hints := [] },
  { dst := some 110, op := POp.prim (Prim.bin BinOp.eql 3 false false) [Operand.tmp 108, Operand.tmp 109], guard := some (107, false), hints := [] },
  { dst := some 111, op := POp.pick (Operand.tmp 107) (Operand.const (Value.bool true)) (Operand.tmp 110), guard := some (100, true), hints := [] },
  { dst := some 112, op := POp.mv (Operand.tmp 111), guard := some (100, true), hints := [] },
  { dst := some 113, op := POp.mv (Operand.tmp 16), guard := some (112, false), hints := [] },
  { dst := some 114, op := POp.mv (Operand.tmp 18), guard := some (112, false), hints := [] },
  { dst := some 115, op := POp.call true [[], []] 33 [Operand.tmp 113, Operand.tmp 114], guard := some (112, false), hints := [] },
  { dst := some 116, op := POp.pick (Operand.tmp 112) (Operand.const (Value.bool true)) (Operand.tmp 115), guard := some (100, true), hints := [] },
  { dst := some 117, op := POp.pick (Operand.tmp 100) (Operand.tmp 116) (Operand.const (Value.bool false)), guard := none, hints := [] },
  { dst := some 10, op := POp.mv (Operand.tmp 117), guard := none, hints := [] }]
def pc9_c37 : PCode := .region none false pc9_o37
def pc9_c38 : PCode := .ret
def pc9_c39 : PCode := .seq pc9_c37 pc9_c38
def pc9_c40 : PCode := .seq pc9_c36 pc9_c39
def pc9_c41 : PCode := .seq pc9_c35 pc9_c40
def pc9_c42 : PCode := .seq pc9_c34 pc9_c41
def pc9_c43 : PCode := .seq pc9_c29 pc9_c42
def pc9_c44 : PCode := .seq pc9_c28 pc9_c43
def pc9_c45 : PCode := .seq pc9_c10 pc9_c44
def pc9_c46 : PCode := .seq pc9_c9 pc9_c45
def pc9_c47 : PCode := .seq pc9_c8 pc9_c46
def pc9_c48 : PCode := .seq pc9_c1 pc9_c47
def pc9_r : List PRes := [PRes.tmp 10 []]
def pc9 : PFunc := ⟨118, pc9_r, pc9_c48⟩
def pc9_a : Ann := {
  kr := fun
    | 6 => some ([3, 4, 7, 11, 12, 13, 14], [7])
    | 13 => some ([7, 11, 12, 13, 15], [7, 15])
    | _ => none
  ka := fun
    | _ => 0
  kh := fun
    | _ => none }
theorem pc9_ok : compFn Try.prog pc9_a Try.f9 = some pc9 := by kernel_rfl


-- 10: vedette/vedettelaw5.CellCounts
def pc10_o1 : List POper := [{ dst := some 8, op := POp.mv (Operand.const (Value.bool false)), guard := none, hints := [] }]
def pc10_c1 : PCode := .region none false pc10_o1
def pc10_o2 : List POper := [{ dst := some 14, op := POp.call true [] 24 [], guard := none, hints := [] },
  { dst := some 15, op := POp.prim (Prim.un UnOp.not) [Operand.tmp 14], guard := none, hints := [] }]
def pc10_c2 : PCode := .region none false pc10_o2
def pc10_o3 : List POper := [{ dst := some 8, op := POp.mv (Operand.const (Value.bool false)), guard := none, hints := [] }]
def pc10_c3 : PCode := .region none false pc10_o3
def pc10_c4 : PCode := .ret
def pc10_c5 : PCode := .seq pc10_c3 pc10_c4
def pc10_c6 : PCode := .skip
def pc10_c7 : PCode := .cond (Operand.tmp 15) pc10_c5 pc10_c6
def pc10_c8 : PCode := .seq pc10_c2 pc10_c7
def pc10_o9 : List POper := [{ dst := some 16, op := POp.mv (Operand.tmp 0), guard := none, hints := [] },
  { dst := some 17, op := POp.prim (Prim.bin BinOp.rem 5 false true) [Operand.tmp 16, Operand.const (Value.int IntKind.u8 64)], guard := none, hints := [] },
  { dst := some 18, op := POp.prim (Prim.conv 5 3) [Operand.tmp 17], guard := none, hints := [] },
  { dst := some 19, op := POp.mv (Operand.tmp 1), guard := none, hints := [] },
  { dst := some 20, op := POp.prim (Prim.bin BinOp.rem 5 false true) [Operand.tmp 19, Operand.const (Value.int IntKind.u8 64)], guard := none, hints := [] },
  { dst := some 21, op := POp.prim (Prim.conv 5 3) [Operand.tmp 20], guard := none, hints := [] },
  { dst := some 22, op := POp.build (Value.agg { toList := [Value.int IntKind.i64 0, Value.int IntKind.i64 0, Value.int IntKind.i64 0, Value.int IntKind.i64 0] }) [(0, 1, Operand.tmp 18), (1, 1, Operand.tmp 21)], guard := none, hints := [] },
  { dst := some 9, op := POp.alloc 24 (Value.agg { toList := [Value.int IntKind.i64 0, Value.int IntKind.i64 0, Value.int IntKind.i64 0, Value.int IntKind.i64 0] }), guard := none, hints := [] },
  { dst := none, op := POp.store 4 (Operand.tmp 9) (Operand.tmp 22), guard := none, hints := [] }]
def pc10_c9 : PCode := .region none false pc10_o9
def pc10_o10 : List POper := [{ dst := some 23, op := POp.faddr 0 (Operand.tmp 9), guard := none, hints := [] },
  { dst := some 24, op := POp.load false 1 (Operand.tmp 23), guard := none, hints := [] },
  { dst := some 25, op := POp.mv (Operand.tmp 2), guard := none, hints := [] },
  { dst := some 26, op := POp.prim (Prim.bin BinOp.rem 5 false true) [Operand.tmp 25, Operand.const (Value.int IntKind.u8 64)], guard := none, hints := [] },
  { dst := some 27, op := POp.prim (Prim.conv 5 3) [Operand.tmp 26], guard := none, hints := [] },
  { dst := some 28, op := POp.prim (Prim.bin BinOp.add 3 false false) [Operand.tmp 24, Operand.tmp 27], guard := none, hints := [] },
  { dst := some 29, op := POp.prim (Prim.bin BinOp.add 3 false true) [Operand.tmp 28, Operand.const (Value.int IntKind.i64 1)], guard := none, hints := [] },
  { dst := some 30, op := POp.prim Prim.min [Operand.tmp 29, Operand.const (Value.int IntKind.i64 64)], guard := none, hints := [] },
  { dst := some 31, op := POp.faddr 1 (Operand.tmp 9), guard := none, hints := [] },
  { dst := some 32, op := POp.load false 1 (Operand.tmp 31), guard := none, hints := [] },
  { dst := some 33, op := POp.mv (Operand.tmp 3), guard := none, hints := [] },
  { dst := some 34, op := POp.prim (Prim.bin BinOp.rem 5 false true) [Operand.tmp 33, Operand.const (Value.int IntKind.u8 64)], guard := none, hints := [] },
  { dst := some 35, op := POp.prim (Prim.conv 5 3) [Operand.tmp 34], guard := none, hints := [] },
  { dst := some 36, op := POp.prim (Prim.bin BinOp.add 3 false false) [Operand.tmp 32, Operand.tmp 35], guard := none, hints := [] },
  { dst := some 37, op := POp.prim (Prim.bin BinOp.add 3 false true) [Operand.tmp 36, Operand.const (Value.int IntKind.i64 1)], guard := none, hints := [] },
  { dst := some 38, op := POp.prim Prim.min [Operand.tmp 37, Operand.const (Value.int IntKind.i64 64)], guard := none, hints := [] },
  { dst := some 39, op := POp.faddr 2 (Operand.tmp 9), guard := none, hints := [] },
  { dst := none, op := POp.store 1 (Operand.tmp 39) (Operand.tmp 30), guard := none, hints := [] },
  { dst := some 40, op := POp.faddr 3 (Operand.tmp 9), guard := none, hints := [] },
  { dst := none, op := POp.store 1 (Operand.tmp 40) (Operand.tmp 38), guard := none, hints := [] }]
def pc10_c10 : PCode := .region none false pc10_o10
def pc10_o11 : List POper := [{ dst := some 41, op := POp.faddr 2 (Operand.tmp 9), guard := none, hints := [] },
  { dst := some 42, op := POp.load false 1 (Operand.tmp 41), guard := none, hints := [] },
  { dst := some 43, op := POp.prim (Prim.bin BinOp.sub 3 false true) [Operand.tmp 42, Operand.const (Value.int IntKind.i64 1)], guard := none, hints := [] },
  { dst := some 44, op := POp.prim (Prim.bin BinOp.quo 3 false true) [Operand.tmp 43, Operand.const (Value.int IntKind.i64 16)], guard := none, hints := [] },
  { dst := some 45, op := POp.faddr 0 (Operand.tmp 9), guard := none, hints := [] },
  { dst := some 46, op := POp.load false 1 (Operand.tmp 45), guard := none, hints := [] },
  { dst := some 47, op := POp.prim (Prim.bin BinOp.quo 3 false true) [Operand.tmp 46, Operand.const (Value.int IntKind.i64 16)], guard := none, hints := [] },
  { dst := some 48, op := POp.prim (Prim.bin BinOp.sub 3 false false) [Operand.tmp 44, Operand.tmp 47], guard := none, hints := [] },
  { dst := some 49, op := POp.prim (Prim.bin BinOp.add 3 false true) [Operand.tmp 48, Operand.const (Value.int IntKind.i64 1)], guard := none, hints := [] },
  { dst := some 10, op := POp.mv (Operand.tmp 49), guard := none, hints := [] }]
def pc10_c11 : PCode := .region none false pc10_o11
def pc10_o12 : List POper := [{ dst := some 50, op := POp.faddr 3 (Operand.tmp 9), guard := none, hints := [] },
  { dst := some 51, op := POp.load false 1 (Operand.tmp 50), guard := none, hints := [] },
  { dst := some 52, op := POp.prim (Prim.bin BinOp.sub 3 false true) [Operand.tmp 51, Operand.const (Value.int IntKind.i64 1)], guard := none, hints := [] },
  { dst := some 53, op := POp.prim (Prim.bin BinOp.quo 3 false true) [Operand.tmp 52, Operand.const (Value.int IntKind.i64 16)], guard := none, hints := [] },
  { dst := some 54, op := POp.faddr 1 (Operand.tmp 9), guard := none, hints := [] },
  { dst := some 55, op := POp.load false 1 (Operand.tmp 54), guard := none, hints := [] },
  { dst := some 56, op := POp.prim (Prim.bin BinOp.quo 3 false true) [Operand.tmp 55, Operand.const (Value.int IntKind.i64 16)], guard := none, hints := [] },
  { dst := some 57, op := POp.prim (Prim.bin BinOp.sub 3 false false) [Operand.tmp 53, Operand.tmp 56], guard := none, hints := [] },
  { dst := some 58, op := POp.prim (Prim.bin BinOp.add 3 false true) [Operand.tmp 57, Operand.const (Value.int IntKind.i64 1)], guard := none, hints := [] },
  { dst := some 11, op := POp.mv (Operand.tmp 58), guard := none, hints := [] }]
def pc10_c12 : PCode := .region none false pc10_o12
def pc10_o13 : List POper := [{ dst := some 59, op := POp.load true 4 (Operand.tmp 9), guard := none, hints := [] },
  { dst := some 60, op := POp.call true [[]] 29 [Operand.tmp 59], guard := none, hints := [] },
  { dst := some 12, op := POp.mv (Operand.tmp 60), guard := none, hints := [] }]
def pc10_c13 : PCode := .region none false pc10_o13
def pc10_o14 : List POper := [{ dst := some 13, op := POp.mv (Operand.const (Value.int IntKind.i64 1)), guard := none, hints := [] }]
def pc10_c14 : PCode := .region none false pc10_o14
def pc10_o15 : List POper := [{ dst := some 61, op := POp.mv (Operand.tmp 13), guard := none, hints := [] },
  { dst := some 62, op := POp.mv (Operand.tmp 12), guard := none, hints := [] },
  { dst := some 63, op := POp.lenS (Operand.tmp 62), guard := none, hints := [] },
  { dst := some 64, op := POp.prim (Prim.bin BinOp.lss 3 false false) [Operand.tmp 61, Operand.tmp 63], guard := none, hints := [] }]
def pc10_c15 : PCode := .region (some ([9, 10, 11, 12, 13], [9])) false pc10_o15
def pc10_c16 : PCode := .skip
def pc10_c17 : PCode := .exit 0
def pc10_c18 : PCode := .cond (Operand.tmp 64) pc10_c16 pc10_c17
def pc10_c19 : PCode := .seq pc10_c15 pc10_c18
def pc10_o20 : List POper := [{ dst := some 67, op := POp.mv (Operand.tmp 12), guard := none, hints := [(12, Hint.imm)] },
  { dst := some 68, op := POp.mv (Operand.tmp 13), guard := none, hints := [(13, Hint.imm)] },
  { dst := some 69, op := POp.prim (Prim.bin BinOp.sub 3 false true) [Operand.tmp 68, Operand.const (Value.int IntKind.i64 1)], guard := none, hints := [(68, Hint.imm)] },
  { dst := some 70, op := POp.iaddrS 1 (Operand.tmp 67) (Operand.tmp 69), guard := none, hints := [(67, Hint.imm), (69, Hint.imm)] },
  { dst := some 71, op := POp.load false 1 (Operand.tmp 70), guard := none, hints := [(70, Hint.imm)] },
  { dst := some 72, op := POp.mv (Operand.tmp 12), guard := none, hints := [(12, Hint.imm)] },
  { dst := some 73, op := POp.mv (Operand.tmp 13), guard := none, hints := [(13, Hint.imm)] },
  { dst := some 74, op := POp.iaddrS 1 (Operand.tmp 72) (Operand.tmp 73), guard := none, hints := [(72, Hint.imm), (73, Hint.imm)] },
  { dst := some 75, op := POp.load false 1 (Operand.tmp 74), guard := none, hints := [(74, Hint.imm)] },
  { dst := some 76, op := POp.prim (Prim.bin BinOp.geq 3 false false) [Operand.tmp 71, Operand.tmp 75], guard := none, hints := [(71, Hint.imm), (75, Hint.imm)] }]
def pc10_c20 : PCode := .region none true pc10_o20
def pc10_o21 : List POper := [{ dst := some 8, op := POp.mv (Operand.const (Value.bool false)), guard := none, hints := [] }]
def pc10_c21 : PCode := .region none false pc10_o21
def pc10_c22 : PCode := .ret
def pc10_c23 : PCode := .seq pc10_c21 pc10_c22
def pc10_c24 : PCode := .skip
def pc10_c25 : PCode := .cond (Operand.tmp 76) pc10_c23 pc10_c24
def pc10_c26 : PCode := .seq pc10_c20 pc10_c25
def pc10_c27 : PCode := .block 1 pc10_c26
def pc10_o28 : List POper := [{ dst := some 65, op := POp.mv (Operand.tmp 13), guard := none, hints := [] },
  { dst := some 66, op := POp.prim (Prim.bin BinOp.add 3 false true) [Operand.tmp 65, Operand.const (Value.int IntKind.i64 1)], guard := none, hints := [] },
  { dst := some 13, op := POp.mv (Operand.tmp 66), guard := none, hints := [] }]
def pc10_c28 : PCode := .region none false pc10_o28
def pc10_c29 : PCode := .seq pc10_c27 pc10_c28
def pc10_c30 : PCode := .seq pc10_c19 pc10_c29
def pc10_c31 : PCode := .loop pc10_c30
def pc10_c32 : PCode := .block 0 pc10_c31
def pc10_c33 : PCode := .seq pc10_c14 pc10_c32
def pc10_o34 : List POper := [{ dst := some 77, op := POp.mv (Operand.tmp 12), guard := none, hints := [] },
  { dst := some 78, op := POp.lenS (Operand.tmp 77), guard := none, hints := [] },
  { dst := some 79, op := POp.mv (Operand.tmp 10), guard := none, hints := [] },
  { dst := some 80, op := POp.mv (Operand.tmp 11), guard := none, hints := [] },
  { dst := some 81, op := POp.prim (Prim.bin BinOp.mul 3 false false) [Operand.tmp 79, Operand.tmp 80], guard := none, hints := [] },
  { dst := some 82, op := POp.prim (Prim.bin BinOp.eql 3 false false) [Operand.tmp 78, Operand.tmp 81], guard := none, hints := [] },
  { dst := some 83, op := POp.mv (Operand.tmp 82), guard := none, hints := [] },
  { dst := some 84, op := POp.faddr 0 (Operand.tmp 9), guard := some (83, true), hints := [] },
  { dst := some 85, op := POp.load false 1 (Operand.tmp 84), guard := some (83, true), hints := [] },
  { dst := some 86, op := POp.faddr 0 (Operand.tmp 9), guard := some (83, true), hints := [] },
  { dst := some 87, op := POp.load false 1 (Operand.tmp 86), guard := some (83, true), hints := [] },
  { dst := some 88, op := POp.build (Value.agg { toList := [Value.int IntKind.i64 0, Value.int IntKind.i64 0, Value.int IntKind.i64 0, Value.int IntKind.i64 0] }) [(0, 1, Operand.tmp 85), (2, 1, Operand.tmp 87), (1, 1, Operand.const (Value.int IntKind.i64 0)), (3, 1, Operand.const (Value.int IntKind.i64 64))], guard := some (83, true), hints := [] },
  { dst := some 89, op := POp.call true [[]] 29 [Operand.tmp 88], guard := some (83, true), hints := [] },
  { dst := some 90, op := POp.lenS (Operand.tmp 89), guard := some (83, true), hints := [] },
  { dst := some 91, op := POp.prim (Prim.bin BinOp.eql 3 false true) [Operand.tmp 90, Operand.const (Value.int IntKind.i64 0)], guard := some (83, true), hints := [] },
  { dst := some 92, op := POp.pick (Operand.tmp 83) (Operand.tmp 91) (Operand.const (Value.bool false)), guard := none, hints := [] },
  { dst := some 8, op := POp.mv (Operand.tmp 92), guard := none, hints := [] }]
def pc10_c34 : PCode := .region none false pc10_o34
def pc10_c35 : PCode := .ret
def pc10_c36 : PCode := .seq pc10_c34 pc10_c35
def pc10_c37 : PCode := .seq pc10_c33 pc10_c36
def pc10_c38 : PCode := .seq pc10_c13 pc10_c37
def pc10_c39 : PCode := .seq pc10_c12 pc10_c38
def pc10_c40 : PCode := .seq pc10_c11 pc10_c39
def pc10_c41 : PCode := .seq pc10_c10 pc10_c40
def pc10_c42 : PCode := .seq pc10_c9 pc10_c41
def pc10_c43 : PCode := .seq pc10_c8 pc10_c42
def pc10_c44 : PCode := .seq pc10_c1 pc10_c43
def pc10_r : List PRes := [PRes.tmp 8 []]
def pc10 : PFunc := ⟨93, pc10_r, pc10_c44⟩
def pc10_a : Ann := {
  kr := fun
    | 9 => some ([9, 10, 11, 12, 13], [9])
    | _ => none
  ka := fun
    | _ => 0
  kh := fun
    | 12 => some (Hint.imm)
    | 13 => some (Hint.imm)
    | 67 => some (Hint.imm)
    | 68 => some (Hint.imm)
    | 69 => some (Hint.imm)
    | 70 => some (Hint.imm)
    | 71 => some (Hint.imm)
    | 72 => some (Hint.imm)
    | 73 => some (Hint.imm)
    | 74 => some (Hint.imm)
    | 75 => some (Hint.imm)
    | _ => none }
theorem pc10_ok : compFn Try.prog pc10_a Try.f10 = some pc10 := by kernel_rfl


end Go.Proofs.Ytajfdeeepklfoaa
