/-
  Code of functions, as the pure machine runs it. No condition.
-/
import Derived.Test.YtajfdeeepklfoaaCellTellsT
namespace Go.Proofs.Ytajfdeeepklfoaa
open Go Go.Rx
set_option maxRecDepth 100000
set_option linter.unusedVariables false
set_option linter.unusedSimpArgs false
-- 52: vedette/geom.On
def pc52_o1 : List POper := [{ dst := some 1, op := POp.box 34 (Operand.tmp 0), guard := none, hints := [] },
  { dst := some 2, op := POp.mv (Operand.const (Value.bool false)), guard := none, hints := [] }]
def pc52_c1 : PCode := .region none false pc52_o1
def pc52_o2 : List POper := [{ dst := some 3, op := POp.faddr 0 (Operand.tmp 1), guard := none, hints := [] },
  { dst := some 4, op := POp.load false 1 (Operand.tmp 3), guard := none, hints := [] },
  { dst := some 5, op := POp.prim (Prim.bin BinOp.geq 3 false true) [Operand.tmp 4, Operand.const (Value.int IntKind.i64 0)], guard := none, hints := [] },
  { dst := some 6, op := POp.mv (Operand.tmp 5), guard := none, hints := [] },
  { dst := some 7, op := POp.faddr 0 (Operand.tmp 1), guard := some (6, true), hints := [] },
  { dst := some 8, op := POp.load false 1 (Operand.tmp 7), guard := some (6, true), hints := [] },
  { dst := some 9, op := POp.prim (Prim.bin BinOp.lss 3 false true) [Operand.tmp 8, Operand.const (Value.int IntKind.i64 64)], guard := some (6, true), hints := [] },
  { dst := some 10, op := POp.pick (Operand.tmp 6) (Operand.tmp 9) (Operand.const (Value.bool false)), guard := none, hints := [] },
  { dst := some 11, op := POp.mv (Operand.tmp 10), guard := none, hints := [] },
  { dst := some 12, op := POp.faddr 1 (Operand.tmp 1), guard := some (11, true), hints := [] },
  { dst := some 13, op := POp.load false 1 (Operand.tmp 12), guard := some (11, true), hints := [] },
  { dst := some 14, op := POp.prim (Prim.bin BinOp.geq 3 false true) [Operand.tmp 13, Operand.const (Value.int IntKind.i64 0)], guard := some (11, true), hints := [] },
  { dst := some 15, op := POp.pick (Operand.tmp 11) (Operand.tmp 14) (Operand.const (Value.bool false)), guard := none, hints := [] },
  { dst := some 16, op := POp.mv (Operand.tmp 15), guard := none, hints := [] },
  { dst := some 17, op := POp.faddr 1 (Operand.tmp 1), guard := some (16, true), hints := [] },
  { dst := some 18, op := POp.load false 1 (Operand.tmp 17), guard := some (16, true), hints := [] },
  { dst := some 19, op := POp.prim (Prim.bin BinOp.lss 3 false true) [Operand.tmp 18, Operand.const (Value.int IntKind.i64 64)], guard := some (16, true), hints := [] },
  { dst := some 20, op := POp.pick (Operand.tmp 16) (Operand.tmp 19) (Operand.const (Value.bool false)), guard := none, hints := [] },
  { dst := some 2, op := POp.mv (Operand.tmp 20), guard := none, hints := [] }]
def pc52_c2 : PCode := .region none false pc52_o2
def pc52_c3 : PCode := .ret
def pc52_c4 : PCode := .seq pc52_c2 pc52_c3
def pc52_c5 : PCode := .seq pc52_c1 pc52_c4
def pc52_r : List PRes := [PRes.tmp 2 []]
def pc52 : PFunc := ⟨21, pc52_r, pc52_c5⟩
def pc52_a : Ann := {
  kr := fun
    | _ => none
  ka := fun
    | _ => 0
  kh := fun
    | _ => none }
theorem pc52_ok : compFn Try.prog pc52_a Try.f52 = some pc52 := by kernel_rfl


-- 81: vedette/morton.spread
def pc81_o1 : List POper := [{ dst := some 2, op := POp.mv (Operand.const (Value.int IntKind.u32 0)), guard := none, hints := [] }]
def pc81_c1 : PCode := .region none false pc81_o1
def pc81_o2 : List POper := [{ dst := some 5, op := POp.build (Value.agg { toList := [Value.int IntKind.u64 0, Value.int IntKind.u32 0] }) [(0, 1, Operand.const (Value.int IntKind.u64 8)), (1, 1, Operand.const (Value.int IntKind.u32 16711935))], guard := none, hints := [] },
  { dst := some 6, op := POp.build (Value.agg { toList := [Value.int IntKind.u64 0, Value.int IntKind.u32 0] }) [(0, 1, Operand.const (Value.int IntKind.u64 4)), (1, 1, Operand.const (Value.int IntKind.u32 252645135))], guard := none, hints := [] },
  { dst := some 7, op := POp.build (Value.agg { toList := [Value.int IntKind.u64 0, Value.int IntKind.u32 0] }) [(0, 1, Operand.const (Value.int IntKind.u64 2)), (1, 1, Operand.const (Value.int IntKind.u32 858993459))], guard := none, hints := [] },
  { dst := some 8, op := POp.build (Value.agg { toList := [Value.int IntKind.u64 0, Value.int IntKind.u32 0] }) [(0, 1, Operand.const (Value.int IntKind.u64 1)), (1, 1, Operand.const (Value.int IntKind.u32 1431655765))], guard := none, hints := [] },
  { dst := some 9, op := POp.build (Value.agg { toList := [Value.int IntKind.u64 0, Value.int IntKind.u32 0, Value.int IntKind.u64 0, Value.int IntKind.u32 0, Value.int IntKind.u64 0, Value.int IntKind.u32 0, Value.int IntKind.u64 0, Value.int IntKind.u32 0] }) [(0, 2, Operand.tmp 5), (2, 2, Operand.tmp 6), (4, 2, Operand.tmp 7), (6, 2, Operand.tmp 8)], guard := none, hints := [] },
  { dst := some 10, op := POp.mv (Operand.const (Value.int IntKind.i64 0)), guard := none, hints := [] }]
def pc81_c2 : PCode := .region none false pc81_o2
def pc81_o3 : List POper := [{ dst := some 11, op := POp.prim (Prim.bin BinOp.lss 3 false true) [Operand.tmp 10, Operand.const (Value.int IntKind.i64 4)], guard := none, hints := [] }]
def pc81_c3 : PCode := .region (some ([0, 9, 10], [4])) false pc81_o3
def pc81_c4 : PCode := .skip
def pc81_c5 : PCode := .exit 0
def pc81_c6 : PCode := .cond (Operand.tmp 11) pc81_c4 pc81_c5
def pc81_o7 : List POper := [{ dst := some 12, op := POp.idx true 2 4 (Operand.tmp 9) (Operand.tmp 10), guard := none, hints := [] },
  { dst := some 4, op := POp.alloc 112 (Value.agg { toList := [Value.int IntKind.u64 0, Value.int IntKind.u32 0] }), guard := none, hints := [] },
  { dst := none, op := POp.store 2 (Operand.tmp 4) (Operand.tmp 12), guard := none, hints := [] }]
def pc81_c7 : PCode := .region none false pc81_o7
def pc81_o8 : List POper := [{ dst := some 13, op := POp.mv (Operand.tmp 0), guard := none, hints := [] },
  { dst := some 14, op := POp.mv (Operand.tmp 0), guard := none, hints := [] },
  { dst := some 15, op := POp.faddr 0 (Operand.tmp 4), guard := none, hints := [] },
  { dst := some 16, op := POp.load false 1 (Operand.tmp 15), guard := none, hints := [] },
  { dst := some 17, op := POp.prim (Prim.bin BinOp.shl 91 false false) [Operand.tmp 14, Operand.tmp 16], guard := none, hints := [] },
  { dst := some 18, op := POp.prim (Prim.bin BinOp.or 91 false false) [Operand.tmp 13, Operand.tmp 17], guard := none, hints := [] },
  { dst := some 19, op := POp.faddr 1 (Operand.tmp 4), guard := none, hints := [] },
  { dst := some 20, op := POp.load false 1 (Operand.tmp 19), guard := none, hints := [] },
  { dst := some 21, op := POp.prim (Prim.bin BinOp.and 91 false false) [Operand.tmp 18, Operand.tmp 20], guard := none, hints := [] },
  { dst := some 0, op := POp.mv (Operand.tmp 21), guard := none, hints := [] }]
def pc81_c8 : PCode := .region none false pc81_o8
def pc81_c9 : PCode := .seq pc81_c7 pc81_c8
def pc81_c10 : PCode := .block 1 pc81_c9
def pc81_o11 : List POper := [{ dst := some 22, op := POp.prim (Prim.bin BinOp.add 3 false true) [Operand.tmp 10, Operand.const (Value.int IntKind.i64 1)], guard := none, hints := [] },
  { dst := some 10, op := POp.mv (Operand.tmp 22), guard := none, hints := [] }]
def pc81_c11 : PCode := .region none false pc81_o11
def pc81_c12 : PCode := .seq pc81_c10 pc81_c11
def pc81_c13 : PCode := .seq pc81_c6 pc81_c12
def pc81_c14 : PCode := .seq pc81_c3 pc81_c13
def pc81_c15 : PCode := .loop pc81_c14
def pc81_c16 : PCode := .block 0 pc81_c15
def pc81_c17 : PCode := .seq pc81_c2 pc81_c16
def pc81_o18 : List POper := [{ dst := some 23, op := POp.mv (Operand.tmp 0), guard := none, hints := [] },
  { dst := some 2, op := POp.mv (Operand.tmp 23), guard := none, hints := [] }]
def pc81_c18 : PCode := .region none false pc81_o18
def pc81_c19 : PCode := .ret
def pc81_c20 : PCode := .seq pc81_c18 pc81_c19
def pc81_c21 : PCode := .seq pc81_c17 pc81_c20
def pc81_c22 : PCode := .seq pc81_c1 pc81_c21
def pc81_r : List PRes := [PRes.tmp 2 []]
def pc81 : PFunc := ⟨24, pc81_r, pc81_c22⟩
def pc81_a : Ann := {
  kr := fun
    | 2 => some ([0, 9, 10], [4])
    | _ => none
  ka := fun
    | _ => 0
  kh := fun
    | _ => none }
theorem pc81_ok : compFn Try.prog pc81_a Try.f81 = some pc81 := by kernel_rfl


-- 71: vedette/morton.Weave
def pc71_o1 : List POper := [{ dst := some 4, op := POp.mv (Operand.const (Value.int IntKind.u32 0)), guard := none, hints := [] }]
def pc71_c1 : PCode := .region none false pc71_o1
def pc71_o2 : List POper := [{ dst := some 5, op := POp.mv (Operand.tmp 0), guard := none, hints := [] },
  { dst := some 6, op := POp.prim (Prim.conv 93 91) [Operand.tmp 5], guard := none, hints := [] },
  { dst := some 7, op := POp.call true [[]] 81 [Operand.tmp 6], guard := none, hints := [] },
  { dst := some 8, op := POp.mv (Operand.tmp 1), guard := none, hints := [] },
  { dst := some 9, op := POp.prim (Prim.conv 93 91) [Operand.tmp 8], guard := none, hints := [] },
  { dst := some 10, op := POp.call true [[]] 81 [Operand.tmp 9], guard := none, hints := [] },
  { dst := some 11, op := POp.prim (Prim.bin BinOp.shl 91 false true) [Operand.tmp 10, Operand.const (Value.int IntKind.u64 1)], guard := none, hints := [] },
  { dst := some 12, op := POp.prim (Prim.bin BinOp.or 91 false false) [Operand.tmp 7, Operand.tmp 11], guard := none, hints := [] },
  { dst := some 4, op := POp.mv (Operand.tmp 12), guard := none, hints := [] }]
def pc71_c2 : PCode := .region none false pc71_o2
def pc71_c3 : PCode := .ret
def pc71_c4 : PCode := .seq pc71_c2 pc71_c3
def pc71_c5 : PCode := .seq pc71_c1 pc71_c4
def pc71_r : List PRes := [PRes.tmp 4 []]
def pc71 : PFunc := ⟨13, pc71_r, pc71_c5⟩
def pc71_a : Ann := {
  kr := fun
    | _ => none
  ka := fun
    | _ => 0
  kh := fun
    | _ => none }
theorem pc71_ok : compFn Try.prog pc71_a Try.f71 = some pc71 := by kernel_rfl


-- 53: vedette/cells.at
def pc53_o1 : List POper := [{ dst := some 4, op := POp.mv (Operand.const (Value.int IntKind.i64 0)), guard := none, hints := [] }]
def pc53_c1 : PCode := .region none false pc53_o1
def pc53_o2 : List POper := [{ dst := some 5, op := POp.mv (Operand.tmp 0), guard := none, hints := [] },
  { dst := some 6, op := POp.prim (Prim.conv 3 93) [Operand.tmp 5], guard := none, hints := [] },
  { dst := some 7, op := POp.mv (Operand.tmp 1), guard := none, hints := [] },
  { dst := some 8, op := POp.prim (Prim.conv 3 93) [Operand.tmp 7], guard := none, hints := [] },
  { dst := some 9, op := POp.call true [[], []] 71 [Operand.tmp 6, Operand.tmp 8], guard := none, hints := [] },
  { dst := some 10, op := POp.prim (Prim.conv 91 3) [Operand.tmp 9], guard := none, hints := [] },
  { dst := some 4, op := POp.mv (Operand.tmp 10), guard := none, hints := [] }]
def pc53_c2 : PCode := .region none false pc53_o2
def pc53_c3 : PCode := .ret
def pc53_c4 : PCode := .seq pc53_c2 pc53_c3
def pc53_c5 : PCode := .seq pc53_c1 pc53_c4
def pc53_r : List PRes := [PRes.tmp 4 []]
def pc53 : PFunc := ⟨11, pc53_r, pc53_c5⟩
def pc53_a : Ann := {
  kr := fun
    | _ => none
  ka := fun
    | _ => 0
  kh := fun
    | _ => none }
theorem pc53_ok : compFn Try.prog pc53_a Try.f53 = some pc53 := by kernel_rfl


-- 25: vedette/cells.Of
def pc25_o1 : List POper := [{ dst := some 1, op := POp.box 34 (Operand.tmp 0), guard := none, hints := [] },
  { dst := some 2, op := POp.mv (Operand.const (Value.int IntKind.i64 0)), guard := none, hints := [] },
  { dst := some 3, op := POp.mv (Operand.const (Value.int IntKind.i64 0)), guard := none, hints := [] }]
def pc25_c1 : PCode := .region none false pc25_o1
def pc25_o2 : List POper := [{ dst := some 4, op := POp.load true 2 (Operand.tmp 1), guard := none, hints := [] },
  { dst := some 5, op := POp.call true [[]] 52 [Operand.tmp 4], guard := none, hints := [] },
  { dst := some 6, op := POp.prim (Prim.un UnOp.not) [Operand.tmp 5], guard := none, hints := [] }]
def pc25_c2 : PCode := .region none false pc25_o2
def pc25_o3 : List POper := [{ dst := some 2, op := POp.mv (Operand.const (Value.int IntKind.i64 0)), guard := none, hints := [] },
  { dst := some 3, op := POp.mv (Operand.const (Value.int IntKind.i64 14)), guard := none, hints := [] }]
def pc25_c3 : PCode := .region none false pc25_o3
def pc25_c4 : PCode := .ret
def pc25_c5 : PCode := .seq pc25_c3 pc25_c4
def pc25_c6 : PCode := .skip
def pc25_c7 : PCode := .cond (Operand.tmp 6) pc25_c5 pc25_c6
def pc25_c8 : PCode := .seq pc25_c2 pc25_c7
def pc25_o9 : List POper := [{ dst := some 7, op := POp.faddr 0 (Operand.tmp 1), guard := none, hints := [] },
  { dst := some 8, op := POp.load false 1 (Operand.tmp 7), guard := none, hints := [] },
  { dst := some 9, op := POp.prim (Prim.bin BinOp.quo 3 false true) [Operand.tmp 8, Operand.const (Value.int IntKind.i64 16)], guard := none, hints := [] },
  { dst := some 10, op := POp.faddr 1 (Operand.tmp 1), guard := none, hints := [] },
  { dst := some 11, op := POp.load false 1 (Operand.tmp 10), guard := none, hints := [] },
  { dst := some 12, op := POp.prim (Prim.bin BinOp.quo 3 false true) [Operand.tmp 11, Operand.const (Value.int IntKind.i64 16)], guard := none, hints := [] },
  { dst := some 13, op := POp.call true [[], []] 53 [Operand.tmp 9, Operand.tmp 12], guard := none, hints := [] },
  { dst := some 2, op := POp.mv (Operand.tmp 13), guard := none, hints := [] },
  { dst := some 3, op := POp.mv (Operand.const (Value.int IntKind.i64 0)), guard := none, hints := [] }]
def pc25_c9 : PCode := .region none false pc25_o9
def pc25_c10 : PCode := .ret
def pc25_c11 : PCode := .seq pc25_c9 pc25_c10
def pc25_c12 : PCode := .seq pc25_c8 pc25_c11
def pc25_c13 : PCode := .seq pc25_c1 pc25_c12
def pc25_r : List PRes := [PRes.tmp 2 [], PRes.tmp 3 []]
def pc25 : PFunc := ⟨14, pc25_r, pc25_c13⟩
def pc25_a : Ann := {
  kr := fun
    | _ => none
  ka := fun
    | _ => 0
  kh := fun
    | _ => none }
theorem pc25_ok : compFn Try.prog pc25_a Try.f25 = some pc25 := by kernel_rfl


-- 31: vedette/cells.Is
def pc31_o1 : List POper := [{ dst := some 2, op := POp.mv (Operand.const (Value.bool false)), guard := none, hints := [] }]
def pc31_c1 : PCode := .region none false pc31_o1
def pc31_o2 : List POper := [{ dst := some 3, op := POp.mv (Operand.tmp 0), guard := none, hints := [] },
  { dst := some 4, op := POp.prim (Prim.bin BinOp.geq 3 false true) [Operand.tmp 3, Operand.const (Value.int IntKind.i64 0)], guard := none, hints := [] },
  { dst := some 5, op := POp.mv (Operand.tmp 4), guard := none, hints := [] },
  { dst := some 6, op := POp.mv (Operand.tmp 0), guard := some (5, true), hints := [] },
  { dst := some 7, op := POp.prim (Prim.bin BinOp.lss 3 false true) [Operand.tmp 6, Operand.const (Value.int IntKind.i64 16)], guard := some (5, true), hints := [] },
  { dst := some 8, op := POp.pick (Operand.tmp 5) (Operand.tmp 7) (Operand.const (Value.bool false)), guard := none, hints := [] },
  { dst := some 2, op := POp.mv (Operand.tmp 8), guard := none, hints := [] }]
def pc31_c2 : PCode := .region none false pc31_o2
def pc31_c3 : PCode := .ret
def pc31_c4 : PCode := .seq pc31_c2 pc31_c3
def pc31_c5 : PCode := .seq pc31_c1 pc31_c4
def pc31_r : List PRes := [PRes.tmp 2 []]
def pc31 : PFunc := ⟨9, pc31_r, pc31_c5⟩
def pc31_a : Ann := {
  kr := fun
    | _ => none
  ka := fun
    | _ => 0
  kh := fun
    | _ => none }
theorem pc31_ok : compFn Try.prog pc31_a Try.f31 = some pc31 := by kernel_rfl


-- 82: vedette/morton.gather
def pc82_o1 : List POper := [{ dst := some 2, op := POp.mv (Operand.const (Value.int IntKind.u32 0)), guard := none, hints := [] }]
def pc82_c1 : PCode := .region none false pc82_o1
def pc82_o2 : List POper := [{ dst := some 5, op := POp.mv (Operand.tmp 0), guard := none, hints := [] },
  { dst := some 6, op := POp.prim (Prim.bin BinOp.and 91 false true) [Operand.tmp 5, Operand.const (Value.int IntKind.u32 1431655765)], guard := none, hints := [] },
  { dst := some 0, op := POp.mv (Operand.tmp 6), guard := none, hints := [] }]
def pc82_c2 : PCode := .region none false pc82_o2
def pc82_o3 : List POper := [{ dst := some 7, op := POp.build (Value.agg { toList := [Value.int IntKind.u64 0, Value.int IntKind.u32 0] }) [(0, 1, Operand.const (Value.int IntKind.u64 1)), (1, 1, Operand.const (Value.int IntKind.u32 858993459))], guard := none, hints := [] },
  { dst := some 8, op := POp.build (Value.agg { toList := [Value.int IntKind.u64 0, Value.int IntKind.u32 0] }) [(0, 1, Operand.const (Value.int IntKind.u64 2)), (1, 1, Operand.const (Value.int IntKind.u32 252645135))], guard := none, hints := [] },
  { dst := some 9, op := POp.build (Value.agg { toList := [Value.int IntKind.u64 0, Value.int IntKind.u32 0] }) [(0, 1, Operand.const (Value.int IntKind.u64 4)), (1, 1, Operand.const (Value.int IntKind.u32 16711935))], guard := none, hints := [] },
  { dst := some 10, op := POp.build (Value.agg { toList := [Value.int IntKind.u64 0, Value.int IntKind.u32 0] }) [(0, 1, Operand.const (Value.int IntKind.u64 8)), (1, 1, Operand.const (Value.int IntKind.u32 65535))], guard := none, hints := [] },
  { dst := some 11, op := POp.build (Value.agg { toList := [Value.int IntKind.u64 0, Value.int IntKind.u32 0, Value.int IntKind.u64 0, Value.int IntKind.u32 0, Value.int IntKind.u64 0, Value.int IntKind.u32 0, Value.int IntKind.u64 0, Value.int IntKind.u32 0] }) [(0, 2, Operand.tmp 7), (2, 2, Operand.tmp 8), (4, 2, Operand.tmp 9), (6, 2, Operand.tmp 10)], guard := none, hints := [] },
  { dst := some 12, op := POp.mv (Operand.const (Value.int IntKind.i64 0)), guard := none, hints := [] }]
def pc82_c3 : PCode := .region none false pc82_o3
def pc82_o4 : List POper := [{ dst := some 13, op := POp.prim (Prim.bin BinOp.lss 3 false true) [Operand.tmp 12, Operand.const (Value.int IntKind.i64 4)], guard := none, hints := [] }]
def pc82_c4 : PCode := .region (some ([0, 11, 12], [4])) false pc82_o4
def pc82_c5 : PCode := .skip
def pc82_c6 : PCode := .exit 0
def pc82_c7 : PCode := .cond (Operand.tmp 13) pc82_c5 pc82_c6
def pc82_o8 : List POper := [{ dst := some 14, op := POp.idx true 2 4 (Operand.tmp 11) (Operand.tmp 12), guard := none, hints := [] },
  { dst := some 4, op := POp.alloc 112 (Value.agg { toList := [Value.int IntKind.u64 0, Value.int IntKind.u32 0] }), guard := none, hints := [] },
  { dst := none, op := POp.store 2 (Operand.tmp 4) (Operand.tmp 14), guard := none, hints := [] }]
def pc82_c8 : PCode := .region none false pc82_o8
def pc82_o9 : List POper := [{ dst := some 15, op := POp.mv (Operand.tmp 0), guard := none, hints := [] },
  { dst := some 16, op := POp.mv (Operand.tmp 0), guard := none, hints := [] },
  { dst := some 17, op := POp.faddr 0 (Operand.tmp 4), guard := none, hints := [] },
  { dst := some 18, op := POp.load false 1 (Operand.tmp 17), guard := none, hints := [] },
  { dst := some 19, op := POp.prim (Prim.bin BinOp.shr 91 false false) [Operand.tmp 16, Operand.tmp 18], guard := none, hints := [] },
  { dst := some 20, op := POp.prim (Prim.bin BinOp.or 91 false false) [Operand.tmp 15, Operand.tmp 19], guard := none, hints := [] },
  { dst := some 21, op := POp.faddr 1 (Operand.tmp 4), guard := none, hints := [] },
  { dst := some 22, op := POp.load false 1 (Operand.tmp 21), guard := none, hints := [] },
  { dst := some 23, op := POp.prim (Prim.bin BinOp.and 91 false false) [Operand.tmp 20, Operand.tmp 22], guard := none, hints := [] },
  { dst := some 0, op := POp.mv (Operand.tmp 23), guard := none, hints := [] }]
def pc82_c9 : PCode := .region none false pc82_o9
def pc82_c10 : PCode := .seq pc82_c8 pc82_c9
def pc82_c11 : PCode := .block 1 pc82_c10
def pc82_o12 : List POper := [{ dst := some 24, op := POp.prim (Prim.bin BinOp.add 3 false true) [Operand.tmp 12, Operand.const (Value.int IntKind.i64 1)], guard := none, hints := [] },
  { dst := some 12, op := POp.mv (Operand.tmp 24), guard := none, hints := [] }]
def pc82_c12 : PCode := .region none false pc82_o12
def pc82_c13 : PCode := .seq pc82_c11 pc82_c12
def pc82_c14 : PCode := .seq pc82_c7 pc82_c13
def pc82_c15 : PCode := .seq pc82_c4 pc82_c14
def pc82_c16 : PCode := .loop pc82_c15
def pc82_c17 : PCode := .block 0 pc82_c16
def pc82_c18 : PCode := .seq pc82_c3 pc82_c17
def pc82_o19 : List POper := [{ dst := some 25, op := POp.mv (Operand.tmp 0), guard := none, hints := [] },
  { dst := some 2, op := POp.mv (Operand.tmp 25), guard := none, hints := [] }]
def pc82_c19 : PCode := .region none false pc82_o19
def pc82_c20 : PCode := .ret
def pc82_c21 : PCode := .seq pc82_c19 pc82_c20
def pc82_c22 : PCode := .seq pc82_c18 pc82_c21
def pc82_c23 : PCode := .seq pc82_c2 pc82_c22
def pc82_c24 : PCode := .seq pc82_c1 pc82_c23
def pc82_r : List PRes := [PRes.tmp 2 []]
def pc82 : PFunc := ⟨26, pc82_r, pc82_c24⟩
def pc82_a : Ann := {
  kr := fun
    | 3 => some ([0, 11, 12], [4])
    | _ => none
  ka := fun
    | _ => 0
  kh := fun
    | _ => none }
theorem pc82_ok : compFn Try.prog pc82_a Try.f82 = some pc82 := by kernel_rfl


-- 72: vedette/morton.Split
def pc72_o1 : List POper := [{ dst := some 2, op := POp.mv (Operand.const (Value.int IntKind.u16 0)), guard := none, hints := [] },
  { dst := some 3, op := POp.mv (Operand.const (Value.int IntKind.u16 0)), guard := none, hints := [] }]
def pc72_c1 : PCode := .region none false pc72_o1
def pc72_o2 : List POper := [{ dst := some 4, op := POp.mv (Operand.tmp 0), guard := none, hints := [] },
  { dst := some 5, op := POp.call true [[]] 82 [Operand.tmp 4], guard := none, hints := [] },
  { dst := some 6, op := POp.prim (Prim.conv 91 93) [Operand.tmp 5], guard := none, hints := [] },
  { dst := some 7, op := POp.mv (Operand.tmp 0), guard := none, hints := [] },
  { dst := some 8, op := POp.prim (Prim.bin BinOp.shr 91 false true) [Operand.tmp 7, Operand.const (Value.int IntKind.u64 1)], guard := none, hints := [] },
  { dst := some 9, op := POp.call true [[]] 82 [Operand.tmp 8], guard := none, hints := [] },
  { dst := some 10, op := POp.prim (Prim.conv 91 93) [Operand.tmp 9], guard := none, hints := [] },
  { dst := some 2, op := POp.mv (Operand.tmp 6), guard := none, hints := [] },
  { dst := some 3, op := POp.mv (Operand.tmp 10), guard := none, hints := [] }]
def pc72_c2 : PCode := .region none false pc72_o2
def pc72_c3 : PCode := .ret
def pc72_c4 : PCode := .seq pc72_c2 pc72_c3
def pc72_c5 : PCode := .seq pc72_c1 pc72_c4
def pc72_r : List PRes := [PRes.tmp 2 [], PRes.tmp 3 []]
def pc72 : PFunc := ⟨11, pc72_r, pc72_c5⟩
def pc72_a : Ann := {
  kr := fun
    | _ => none
  ka := fun
    | _ => 0
  kh := fun
    | _ => none }
theorem pc72_ok : compFn Try.prog pc72_a Try.f72 = some pc72 := by kernel_rfl


-- 56: vedette/cells.place
def pc56_o1 : List POper := [{ dst := some 2, op := POp.mv (Operand.const (Value.int IntKind.i64 0)), guard := none, hints := [] },
  { dst := some 3, op := POp.mv (Operand.const (Value.int IntKind.i64 0)), guard := none, hints := [] }]
def pc56_c1 : PCode := .region none false pc56_o1
def pc56_o2 : List POper := [{ dst := some 7, op := POp.mv (Operand.tmp 0), guard := none, hints := [] },
  { dst := some 8, op := POp.prim (Prim.conv 3 91) [Operand.tmp 7], guard := none, hints := [] },
  { dst := some 9, op := POp.call true [[]] 72 [Operand.tmp 8], guard := none, hints := [] },
  { dst := some 6, op := POp.mv (Operand.tmp 9), guard := none, hints := [] },
  { dst := some 10, op := POp.ext (Operand.tmp 6) 0, guard := none, hints := [] },
  { dst := some 11, op := POp.ext (Operand.tmp 6) 1, guard := none, hints := [] },
  { dst := some 4, op := POp.mv (Operand.tmp 10), guard := none, hints := [] },
  { dst := some 5, op := POp.mv (Operand.tmp 11), guard := none, hints := [] }]
def pc56_c2 : PCode := .region none false pc56_o2
def pc56_o3 : List POper := [{ dst := some 12, op := POp.mv (Operand.tmp 4), guard := none, hints := [] },
  { dst := some 13, op := POp.prim (Prim.conv 93 3) [Operand.tmp 12], guard := none, hints := [] },
  { dst := some 14, op := POp.mv (Operand.tmp 5), guard := none, hints := [] },
  { dst := some 15, op := POp.prim (Prim.conv 93 3) [Operand.tmp 14], guard := none, hints := [] },
  { dst := some 2, op := POp.mv (Operand.tmp 13), guard := none, hints := [] },
  { dst := some 3, op := POp.mv (Operand.tmp 15), guard := none, hints := [] }]
def pc56_c3 : PCode := .region none false pc56_o3
def pc56_c4 : PCode := .ret
def pc56_c5 : PCode := .seq pc56_c3 pc56_c4
def pc56_c6 : PCode := .seq pc56_c2 pc56_c5
def pc56_c7 : PCode := .seq pc56_c1 pc56_c6
def pc56_r : List PRes := [PRes.tmp 2 [], PRes.tmp 3 []]
def pc56 : PFunc := ⟨16, pc56_r, pc56_c7⟩
def pc56_a : Ann := {
  kr := fun
    | _ => none
  ka := fun
    | _ => 0
  kh := fun
    | _ => none }
theorem pc56_ok : compFn Try.prog pc56_a Try.f56 = some pc56 := by kernel_rfl


-- 27: vedette/cells.Rect
def pc27_o1 : List POper := [{ dst := some 2, op := POp.alloc 24 (Value.agg { toList := [Value.int IntKind.i64 0, Value.int IntKind.i64 0, Value.int IntKind.i64 0, Value.int IntKind.i64 0] }), guard := none, hints := [] },
  { dst := some 3, op := POp.mv (Operand.const (Value.bool false)), guard := none, hints := [] }]
def pc27_c1 : PCode := .region none false pc27_o1
def pc27_o2 : List POper := [{ dst := some 6, op := POp.mv (Operand.tmp 0), guard := none, hints := [] },
  { dst := some 7, op := POp.call true [[]] 31 [Operand.tmp 6], guard := none, hints := [] },
  { dst := some 8, op := POp.prim (Prim.un UnOp.not) [Operand.tmp 7], guard := none, hints := [] }]
def pc27_c2 : PCode := .region none false pc27_o2
def pc27_o3 : List POper := [{ dst := some 9, op := POp.build (Value.agg { toList := [Value.int IntKind.i64 0, Value.int IntKind.i64 0, Value.int IntKind.i64 0, Value.int IntKind.i64 0] }) [], guard := none, hints := [] },
  { dst := none, op := POp.store 4 (Operand.tmp 2) (Operand.tmp 9), guard := none, hints := [] },
  { dst := some 3, op := POp.mv (Operand.const (Value.bool false)), guard := none, hints := [] }]
def pc27_c3 : PCode := .region none false pc27_o3
def pc27_c4 : PCode := .ret
def pc27_c5 : PCode := .seq pc27_c3 pc27_c4
def pc27_c6 : PCode := .skip
def pc27_c7 : PCode := .cond (Operand.tmp 8) pc27_c5 pc27_c6
def pc27_c8 : PCode := .seq pc27_c2 pc27_c7
def pc27_o9 : List POper := [{ dst := some 11, op := POp.mv (Operand.tmp 0), guard := none, hints := [] },
  { dst := some 12, op := POp.call true [[]] 56 [Operand.tmp 11], guard := none, hints := [] },
  { dst := some 10, op := POp.mv (Operand.tmp 12), guard := none, hints := [] },
  { dst := some 13, op := POp.ext (Operand.tmp 10) 0, guard := none, hints := [] },
  { dst := some 14, op := POp.ext (Operand.tmp 10) 1, guard := none, hints := [] },
  { dst := some 4, op := POp.mv (Operand.tmp 13), guard := none, hints := [] },
  { dst := some 5, op := POp.mv (Operand.tmp 14), guard := none, hints := [] }]
def pc27_c9 : PCode := .region none false pc27_o9
def pc27_o10 : List POper := [{ dst := some 15, op := POp.mv (Operand.tmp 4), guard := none, hints := [] },
  { dst := some 16, op := POp.prim (Prim.bin BinOp.mul 3 false true) [Operand.tmp 15, Operand.const (Value.int IntKind.i64 16)], guard := none, hints := [] },
  { dst := some 17, op := POp.mv (Operand.tmp 5), guard := none, hints := [] },
  { dst := some 18, op := POp.prim (Prim.bin BinOp.mul 3 false true) [Operand.tmp 17, Operand.const (Value.int IntKind.i64 16)], guard := none, hints := [] },
  { dst := some 19, op := POp.mv (Operand.tmp 4), guard := none, hints := [] },
  { dst := some 20, op := POp.prim (Prim.bin BinOp.add 3 false true) [Operand.tmp 19, Operand.const (Value.int IntKind.i64 1)], guard := none, hints := [] },
  { dst := some 21, op := POp.prim (Prim.bin BinOp.mul 3 false true) [Operand.tmp 20, Operand.const (Value.int IntKind.i64 16)], guard := none, hints := [] },
  { dst := some 22, op := POp.mv (Operand.tmp 5), guard := none, hints := [] },
  { dst := some 23, op := POp.prim (Prim.bin BinOp.add 3 false true) [Operand.tmp 22, Operand.const (Value.int IntKind.i64 1)], guard := none, hints := [] },
  { dst := some 24, op := POp.prim (Prim.bin BinOp.mul 3 false true) [Operand.tmp 23, Operand.const (Value.int IntKind.i64 16)], guard := none, hints := [] },
  { dst := some 25, op := POp.build (Value.agg { toList := [Value.int IntKind.i64 0, Value.int IntKind.i64 0, Value.int IntKind.i64 0, Value.int IntKind.i64 0] }) [(0, 1, Operand.tmp 16), (1, 1, Operand.tmp 18), (2, 1, Operand.tmp 21), (3, 1, Operand.tmp 24)], guard := none, hints := [] },
  { dst := none, op := POp.store 4 (Operand.tmp 2) (Operand.tmp 25), guard := none, hints := [] },
  { dst := some 3, op := POp.mv (Operand.const (Value.bool true)), guard := none, hints := [] }]
def pc27_c10 : PCode := .region none false pc27_o10
def pc27_c11 : PCode := .ret
def pc27_c12 : PCode := .seq pc27_c10 pc27_c11
def pc27_c13 : PCode := .seq pc27_c9 pc27_c12
def pc27_c14 : PCode := .seq pc27_c8 pc27_c13
def pc27_c15 : PCode := .seq pc27_c1 pc27_c14
def pc27_r : List PRes := [PRes.cell 2 true 4 [], PRes.tmp 3 []]
def pc27 : PFunc := ⟨26, pc27_r, pc27_c15⟩
def pc27_a : Ann := {
  kr := fun
    | _ => none
  ka := fun
    | _ => 0
  kh := fun
    | _ => none }
theorem pc27_ok : compFn Try.prog pc27_a Try.f27 = some pc27 := by kernel_rfl


-- 58: vedette/geom.Empty
def pc58_o1 : List POper := [{ dst := some 1, op := POp.box 24 (Operand.tmp 0), guard := none, hints := [] },
  { dst := some 2, op := POp.mv (Operand.const (Value.bool false)), guard := none, hints := [] }]
def pc58_c1 : PCode := .region none false pc58_o1
def pc58_o2 : List POper := [{ dst := some 3, op := POp.faddr 0 (Operand.tmp 1), guard := none, hints := [] },
  { dst := some 4, op := POp.load false 1 (Operand.tmp 3), guard := none, hints := [] },
  { dst := some 5, op := POp.faddr 2 (Operand.tmp 1), guard := none, hints := [] },
  { dst := some 6, op := POp.load false 1 (Operand.tmp 5), guard := none, hints := [] },
  { dst := some 7, op := POp.prim (Prim.bin BinOp.geq 3 false false) [Operand.tmp 4, Operand.tmp 6], guard := none, hints := [] },
  { dst := some 8, op := POp.mv (Operand.tmp 7), guard := none, hints := [] },
  { dst := some 9, op := POp.faddr 1 (Operand.tmp 1), guard := some (8, false), hints := [] },
  { dst := some 10, op := POp.load false 1 (Operand.tmp 9), guard := some (8, false), hints := [] },
  { dst := some 11, op := POp.faddr 3 (Operand.tmp 1), guard := some (8, false), hints := [] },
  { dst := some 12, op := POp.load false 1 (Operand.tmp 11), guard := some (8, false), hints := [] },
  { dst := some 13, op := POp.prim (Prim.bin BinOp.geq 3 false false) [Operand.tmp 10, Operand.tmp 12], guard := some (8, false), hints := [] },
  { dst := some 14, op := POp.pick (Operand.tmp 8) (Operand.const (Value.bool true)) (Operand.tmp 13), guard := none, hints := [] },
  { dst := some 2, op := POp.mv (Operand.tmp 14), guard := none, hints := [] }]
def pc58_c2 : PCode := .region none false pc58_o2
def pc58_c3 : PCode := .ret
def pc58_c4 : PCode := .seq pc58_c2 pc58_c3
def pc58_c5 : PCode := .seq pc58_c1 pc58_c4
def pc58_r : List PRes := [PRes.tmp 2 []]
def pc58 : PFunc := ⟨15, pc58_r, pc58_c5⟩
def pc58_a : Ann := {
  kr := fun
    | _ => none
  ka := fun
    | _ => 0
  kh := fun
    | _ => none }
theorem pc58_ok : compFn Try.prog pc58_a Try.f58 = some pc58 := by kernel_rfl


-- 29: vedette/cells.Cover
def pc29_o1 : List POper := [{ dst := some 1, op := POp.box 24 (Operand.tmp 0), guard := none, hints := [] },
  { dst := some 2, op := POp.mv (Operand.const (Value.slice none 0 0)), guard := none, hints := [] }]
def pc29_c1 : PCode := .region none false pc29_o1
def pc29_o2 : List POper := [{ dst := some 3, op := POp.mv (Operand.const (Value.slice none 0 0)), guard := none, hints := [] }]
def pc29_c2 : PCode := .region none false pc29_o2
def pc29_c3 : PCode := .label
def pc29_o4 : List POper := [{ dst := some 9, op := POp.mv (Operand.const (Value.int IntKind.i64 0)), guard := none, hints := [] }]
def pc29_c4 : PCode := .region none false pc29_o4
def pc29_o5 : List POper := [{ dst := some 10, op := POp.prim (Prim.bin BinOp.lss 3 false true) [Operand.tmp 9, Operand.const (Value.int IntKind.i64 16)], guard := none, hints := [] }]
def pc29_c5 : PCode := .region (some ([1, 3, 9], [1, 100003])) false pc29_o5
def pc29_c6 : PCode := .skip
def pc29_c7 : PCode := .exit 0
def pc29_c8 : PCode := .cond (Operand.tmp 10) pc29_c6 pc29_c7
def pc29_o9 : List POper := [{ dst := some 11, op := POp.mv (Operand.tmp 9), guard := none, hints := [] },
  { dst := some 4, op := POp.mv (Operand.tmp 11), guard := none, hints := [] }]
def pc29_c9 : PCode := .region none false pc29_o9
def pc29_o10 : List POper := [{ dst := some 13, op := POp.mv (Operand.tmp 4), guard := none, hints := [] },
  { dst := some 14, op := POp.call true [[]] 27 [Operand.tmp 13], guard := none, hints := [] },
  { dst := some 12, op := POp.mv (Operand.tmp 14), guard := none, hints := [] },
  { dst := some 15, op := POp.ext (Operand.tmp 12) 0, guard := none, hints := [] },
  { dst := some 16, op := POp.ext (Operand.tmp 12) 1, guard := none, hints := [] },
  { dst := some 5, op := POp.alloc 24 (Value.agg { toList := [Value.int IntKind.i64 0, Value.int IntKind.i64 0, Value.int IntKind.i64 0, Value.int IntKind.i64 0] }), guard := none, hints := [] },
  { dst := none, op := POp.store 4 (Operand.tmp 5) (Operand.tmp 15), guard := none, hints := [] },
  { dst := some 6, op := POp.mv (Operand.tmp 16), guard := none, hints := [] }]
def pc29_c10 : PCode := .region none false pc29_o10
def pc29_o11 : List POper := [{ dst := some 17, op := POp.faddr 0 (Operand.tmp 5), guard := none, hints := [] },
  { dst := some 18, op := POp.load false 1 (Operand.tmp 17), guard := none, hints := [] },
  { dst := some 19, op := POp.faddr 2 (Operand.tmp 1), guard := none, hints := [] },
  { dst := some 20, op := POp.load false 1 (Operand.tmp 19), guard := none, hints := [] },
  { dst := some 21, op := POp.prim (Prim.bin BinOp.geq 3 false false) [Operand.tmp 18, Operand.tmp 20], guard := none, hints := [] },
  { dst := some 22, op := POp.faddr 2 (Operand.tmp 5), guard := none, hints := [] },
  { dst := some 23, op := POp.load false 1 (Operand.tmp 22), guard := none, hints := [] },
  { dst := some 24, op := POp.faddr 0 (Operand.tmp 1), guard := none, hints := [] },
  { dst := some 25, op := POp.load false 1 (Operand.tmp 24), guard := none, hints := [] },
  { dst := some 26, op := POp.prim (Prim.bin BinOp.leq 3 false false) [Operand.tmp 23, Operand.tmp 25], guard := none, hints := [] },
  { dst := some 27, op := POp.faddr 1 (Operand.tmp 5), guard := none, hints := [] },
  { dst := some 28, op := POp.load false 1 (Operand.tmp 27), guard := none, hints := [] },
  { dst := some 29, op := POp.faddr 3 (Operand.tmp 1), guard := none, hints := [] },
  { dst := some 30, op := POp.load false 1 (Operand.tmp 29), guard := none, hints := [] },
  { dst := some 31, op := POp.prim (Prim.bin BinOp.geq 3 false false) [Operand.tmp 28, Operand.tmp 30], guard := none, hints := [] },
  { dst := some 32, op := POp.faddr 3 (Operand.tmp 5), guard := none, hints := [] },
  { dst := some 33, op := POp.load false 1 (Operand.tmp 32), guard := none, hints := [] },
  { dst := some 34, op := POp.faddr 1 (Operand.tmp 1), guard := none, hints := [] },
  { dst := some 35, op := POp.load false 1 (Operand.tmp 34), guard := none, hints := [] },
  { dst := some 36, op := POp.prim (Prim.bin BinOp.leq 3 false false) [Operand.tmp 33, Operand.tmp 35], guard := none, hints := [] },
  { dst := some 37, op := POp.build (Value.agg { toList := [Value.bool false, Value.bool false, Value.bool false, Value.bool false] }) [(0, 1, Operand.tmp 21), (1, 1, Operand.tmp 26), (2, 1, Operand.tmp 31), (3, 1, Operand.tmp 36)], guard := none, hints := [] },
  { dst := some 38, op := POp.mv (Operand.const (Value.int IntKind.i64 0)), guard := none, hints := [] }]
def pc29_c11 : PCode := .region none false pc29_o11
def pc29_o12 : List POper := [{ dst := some 39, op := POp.prim (Prim.bin BinOp.lss 3 false true) [Operand.tmp 38, Operand.const (Value.int IntKind.i64 4)], guard := none, hints := [] }]
def pc29_c12 : PCode := .region (some ([1, 3, 4, 9, 37, 38], [1, 5, 100003])) false pc29_o12
def pc29_c13 : PCode := .skip
def pc29_c14 : PCode := .exit 2
def pc29_c15 : PCode := .cond (Operand.tmp 39) pc29_c13 pc29_c14
def pc29_o16 : List POper := [{ dst := some 40, op := POp.idx false 1 4 (Operand.tmp 37) (Operand.tmp 38), guard := none, hints := [] },
  { dst := some 8, op := POp.mv (Operand.tmp 40), guard := none, hints := [] }]
def pc29_c16 : PCode := .region none false pc29_o16
def pc29_o17 : List POper := [{ dst := some 41, op := POp.mv (Operand.tmp 8), guard := none, hints := [] },
  { dst := some 42, op := POp.mv (Operand.tmp 41), guard := none, hints := [] },
  { dst := some 43, op := POp.load true 4 (Operand.tmp 1), guard := some (42, false), hints := [] },
  { dst := some 44, op := POp.call true [[]] 58 [Operand.tmp 43], guard := some (42, false), hints := [] },
  { dst := some 45, op := POp.pick (Operand.tmp 42) (Operand.const (Value.bool true)) (Operand.tmp 44), guard := none, hints := [] }]
def pc29_c17 : PCode := .region none false pc29_o17
def pc29_c18 : PCode := .exit 1
def pc29_c19 : PCode := .skip
def pc29_c20 : PCode := .cond (Operand.tmp 45) pc29_c18 pc29_c19
def pc29_c21 : PCode := .seq pc29_c17 pc29_c20
def pc29_c22 : PCode := .seq pc29_c16 pc29_c21
def pc29_c23 : PCode := .block 3 pc29_c22
def pc29_o24 : List POper := [{ dst := some 46, op := POp.prim (Prim.bin BinOp.add 3 false true) [Operand.tmp 38, Operand.const (Value.int IntKind.i64 1)], guard := none, hints := [] },
  { dst := some 38, op := POp.mv (Operand.tmp 46), guard := none, hints := [] }]
def pc29_c24 : PCode := .region none false pc29_o24
def pc29_c25 : PCode := .seq pc29_c23 pc29_c24
def pc29_c26 : PCode := .seq pc29_c15 pc29_c25
def pc29_c27 : PCode := .seq pc29_c12 pc29_c26
def pc29_c28 : PCode := .loop pc29_c27
def pc29_c29 : PCode := .block 2 pc29_c28
def pc29_c30 : PCode := .seq pc29_c11 pc29_c29
def pc29_o31 : List POper := [{ dst := some 47, op := POp.mv (Operand.tmp 3), guard := none, hints := [] },
  { dst := some 48, op := POp.mv (Operand.tmp 4), guard := none, hints := [] },
  { dst := some 49, op := POp.bslice 3 1 [Operand.tmp 48], guard := none, hints := [] },
  { dst := some 50, op := POp.app 100003 3 1 8 (Operand.tmp 47) (Operand.tmp 49), guard := none, hints := [] },
  { dst := some 3, op := POp.mv (Operand.tmp 50), guard := none, hints := [] }]
def pc29_c31 : PCode := .region none false pc29_o31
def pc29_c32 : PCode := .seq pc29_c30 pc29_c31
def pc29_c33 : PCode := .seq pc29_c10 pc29_c32
def pc29_c34 : PCode := .seq pc29_c9 pc29_c33
def pc29_c35 : PCode := .block 1 pc29_c34
def pc29_o36 : List POper := [{ dst := some 51, op := POp.prim (Prim.bin BinOp.add 3 false true) [Operand.tmp 9, Operand.const (Value.int IntKind.i64 1)], guard := none, hints := [] },
  { dst := some 9, op := POp.mv (Operand.tmp 51), guard := none, hints := [] }]
def pc29_c36 : PCode := .region none false pc29_o36
def pc29_c37 : PCode := .seq pc29_c35 pc29_c36
def pc29_c38 : PCode := .seq pc29_c8 pc29_c37
def pc29_c39 : PCode := .seq pc29_c5 pc29_c38
def pc29_c40 : PCode := .loop pc29_c39
def pc29_c41 : PCode := .block 0 pc29_c40
def pc29_c42 : PCode := .seq pc29_c4 pc29_c41
def pc29_o43 : List POper := [{ dst := some 52, op := POp.mv (Operand.tmp 3), guard := none, hints := [] },
  { dst := some 2, op := POp.mv (Operand.tmp 52), guard := none, hints := [] }]
def pc29_c43 : PCode := .region none false pc29_o43
def pc29_c44 : PCode := .ret
def pc29_c45 : PCode := .seq pc29_c43 pc29_c44
def pc29_c46 : PCode := .seq pc29_c42 pc29_c45
def pc29_c47 : PCode := .seq pc29_c3 pc29_c46
def pc29_c48 : PCode := .seq pc29_c2 pc29_c47
def pc29_c49 : PCode := .scope pc29_c48
def pc29_c50 : PCode := .seq pc29_c1 pc29_c49
def pc29_r : List PRes := [PRes.tmp 2 [(0, 1)]]
def pc29 : PFunc := ⟨53, pc29_r, pc29_c50⟩
def pc29_a : Ann := {
  kr := fun
    | 3 => some ([1, 3, 9], [1, 100003])
    | 7 => some ([1, 3, 4, 9, 37, 38], [1, 5, 100003])
    | _ => none
  ka := fun
    | 50 => 100003
    | _ => 0
  kh := fun
    | _ => none }
theorem pc29_ok : compFn Try.prog pc29_a Try.f29 = some pc29 := by kernel_rfl


-- 61: vedette/cells.Beside$1
def pc61_o1 : List POper := [{ dst := some 4, op := POp.mv (Operand.const (Value.bool false)), guard := none, hints := [] }]
def pc61_c1 : PCode := .region none false pc61_o1
def pc61_o2 : List POper := [{ dst := some 5, op := POp.mv (Operand.tmp 0), guard := none, hints := [] },
  { dst := some 6, op := POp.mv (Operand.tmp 1), guard := none, hints := [] },
  { dst := some 7, op := POp.prim Prim.max [Operand.tmp 5, Operand.tmp 6], guard := none, hints := [] },
  { dst := some 8, op := POp.mv (Operand.tmp 0), guard := none, hints := [] },
  { dst := some 9, op := POp.mv (Operand.tmp 1), guard := none, hints := [] },
  { dst := some 10, op := POp.prim Prim.min [Operand.tmp 8, Operand.tmp 9], guard := none, hints := [] },
  { dst := some 11, op := POp.prim (Prim.bin BinOp.sub 3 false false) [Operand.tmp 7, Operand.tmp 10], guard := none, hints := [] },
  { dst := some 12, op := POp.prim (Prim.bin BinOp.leq 3 false true) [Operand.tmp 11, Operand.const (Value.int IntKind.i64 1)], guard := none, hints := [] },
  { dst := some 4, op := POp.mv (Operand.tmp 12), guard := none, hints := [] }]
def pc61_c2 : PCode := .region none false pc61_o2
def pc61_c3 : PCode := .ret
def pc61_c4 : PCode := .seq pc61_c2 pc61_c3
def pc61_c5 : PCode := .seq pc61_c1 pc61_c4
def pc61_r : List PRes := [PRes.tmp 4 []]
def pc61 : PFunc := ⟨13, pc61_r, pc61_c5⟩
def pc61_a : Ann := {
  kr := fun
    | _ => none
  ka := fun
    | _ => 0
  kh := fun
    | _ => none }
theorem pc61_ok : compFn Try.prog pc61_a Try.f61 = some pc61 := by kernel_rfl


-- 33: vedette/cells.Beside
def pc33_o1 : List POper := [{ dst := some 4, op := POp.mv (Operand.const (Value.bool false)), guard := none, hints := [] }]
def pc33_c1 : PCode := .region none false pc33_o1
def pc33_o2 : List POper := [{ dst := some 10, op := POp.mv (Operand.tmp 0), guard := none, hints := [] },
  { dst := some 11, op := POp.call true [[]] 31 [Operand.tmp 10], guard := none, hints := [] },
  { dst := some 12, op := POp.prim (Prim.un UnOp.not) [Operand.tmp 11], guard := none, hints := [] },
  { dst := some 13, op := POp.mv (Operand.tmp 12), guard := none, hints := [] },
  { dst := some 14, op := POp.mv (Operand.tmp 1), guard := some (13, false), hints := [] },
  { dst := some 15, op := POp.call true [[]] 31 [Operand.tmp 14], guard := some (13, false), hints := [] },
  { dst := some 16, op := POp.prim (Prim.un UnOp.not) [Operand.tmp 15], guard := some (13, false), hints := [] },
  { dst := some 17, op := POp.pick (Operand.tmp 13) (Operand.const (Value.bool true)) (Operand.tmp 16), guard := none, hints := [] },
  { dst := some 18, op := POp.mv (Operand.tmp 17), guard := none, hints := [] },
  { dst := some 19, op := POp.mv (Operand.tmp 0), guard := some (18, false), hints := [] },
  { dst := some 20, op := POp.mv (Operand.tmp 1), guard := some (18, false), hints := [] },
  { dst := some 21, op := POp.prim (Prim.bin BinOp.eql 3 false false) [Operand.tmp 19, Operand.tmp 20], guard := some (18, false), hints := [] },
  { dst := some 22, op := POp.pick (Operand.tmp 18) (Operand.const (Value.bool true)) (Operand.tmp 21), guard := none, hints := [] }]
def pc33_c2 : PCode := .region none false pc33_o2
def pc33_o3 : List POper := [{ dst := some 4, op := POp.mv (Operand.const (Value.bool false)), guard := none, hints := [] }]
def pc33_c3 : PCode := .region none false pc33_o3
def pc33_c4 : PCode := .ret
def pc33_c5 : PCode := .seq pc33_c3 pc33_c4
def pc33_c6 : PCode := .skip
def pc33_c7 : PCode := .cond (Operand.tmp 22) pc33_c5 pc33_c6
def pc33_c8 : PCode := .seq pc33_c2 pc33_c7
def pc33_o9 : List POper := [{ dst := some 24, op := POp.mv (Operand.tmp 0), guard := none, hints := [] },
  { dst := some 25, op := POp.call true [[]] 56 [Operand.tmp 24], guard := none, hints := [] },
  { dst := some 23, op := POp.mv (Operand.tmp 25), guard := none, hints := [] },
  { dst := some 26, op := POp.ext (Operand.tmp 23) 0, guard := none, hints := [] },
  { dst := some 27, op := POp.ext (Operand.tmp 23) 1, guard := none, hints := [] },
  { dst := some 5, op := POp.mv (Operand.tmp 26), guard := none, hints := [] },
  { dst := some 6, op := POp.mv (Operand.tmp 27), guard := none, hints := [] }]
def pc33_c9 : PCode := .region none false pc33_o9
def pc33_o10 : List POper := [{ dst := some 29, op := POp.mv (Operand.tmp 1), guard := none, hints := [] },
  { dst := some 30, op := POp.call true [[]] 56 [Operand.tmp 29], guard := none, hints := [] },
  { dst := some 28, op := POp.mv (Operand.tmp 30), guard := none, hints := [] },
  { dst := some 31, op := POp.ext (Operand.tmp 28) 0, guard := none, hints := [] },
  { dst := some 32, op := POp.ext (Operand.tmp 28) 1, guard := none, hints := [] },
  { dst := some 7, op := POp.mv (Operand.tmp 31), guard := none, hints := [] },
  { dst := some 8, op := POp.mv (Operand.tmp 32), guard := none, hints := [] }]
def pc33_c10 : PCode := .region none false pc33_o10
def pc33_o11 : List POper := [{ dst := some 9, op := POp.mv (Operand.func 61), guard := none, hints := [] }]
def pc33_c11 : PCode := .region none false pc33_o11
def pc33_o12 : List POper := [{ dst := some 33, op := POp.mv (Operand.tmp 9), guard := none, hints := [] },
  { dst := some 34, op := POp.mv (Operand.tmp 5), guard := none, hints := [] },
  { dst := some 35, op := POp.mv (Operand.tmp 7), guard := none, hints := [] },
  { dst := some 36, op := POp.callv true [[], []] (Operand.tmp 33) [Operand.tmp 34, Operand.tmp 35], guard := none, hints := [] },
  { dst := some 37, op := POp.mv (Operand.tmp 36), guard := none, hints := [] },
  { dst := some 38, op := POp.mv (Operand.tmp 9), guard := some (37, true), hints := [] },
  { dst := some 39, op := POp.mv (Operand.tmp 6), guard := some (37, true), hints := [] },
  { dst := some 40, op := POp.mv (Operand.tmp 8), guard := some (37, true), hints := [] },
  { dst := some 41, op := POp.callv true [[], []] (Operand.tmp 38) [Operand.tmp 39, Operand.tmp 40], guard := some (37, true), hints := [] },
  { dst := some 42, op := POp.pick (Operand.tmp 37) (Operand.tmp 41) (Operand.const (Value.bool false)), guard := none, hints := [] },
  { dst := some 4, op := POp.mv (Operand.tmp 42), guard := none, hints := [] }]
def pc33_c12 : PCode := .region none false pc33_o12
def pc33_c13 : PCode := .ret
def pc33_c14 : PCode := .seq pc33_c12 pc33_c13
def pc33_c15 : PCode := .seq pc33_c11 pc33_c14
def pc33_c16 : PCode := .seq pc33_c10 pc33_c15
def pc33_c17 : PCode := .seq pc33_c9 pc33_c16
def pc33_c18 : PCode := .seq pc33_c8 pc33_c17
def pc33_c19 : PCode := .seq pc33_c1 pc33_c18
def pc33_r : List PRes := [PRes.tmp 4 []]
def pc33 : PFunc := ⟨43, pc33_r, pc33_c19⟩
def pc33_a : Ann := {
  kr := fun
    | _ => none
  ka := fun
    | _ => 0
  kh := fun
    | _ => none }
theorem pc33_ok : compFn Try.prog pc33_a Try.f33 = some pc33 := by kernel_rfl


-- 24: vedette/vedettelaw5.known
def pc24_o1 : List POper := [{ dst := some 0, op := POp.mv (Operand.const (Value.bool false)), guard := none, hints := [] }]
def pc24_c1 : PCode := .region none false pc24_o1
def pc24_o2 : List POper := [{ dst := some 11, op := POp.build (Value.agg { toList := [Value.int IntKind.i64 0, Value.int IntKind.i64 0] }) [(0, 1, Operand.const (Value.int IntKind.i64 16))], guard := none, hints := [] },
  { dst := some 12, op := POp.call true [[]] 25 [Operand.tmp 11], guard := none, hints := [] },
  { dst := some 10, op := POp.mv (Operand.tmp 12), guard := none, hints := [] },
  { dst := some 13, op := POp.ext (Operand.tmp 10) 0, guard := none, hints := [] },
  { dst := some 14, op := POp.ext (Operand.tmp 10) 1, guard := none, hints := [] },
  { dst := some 1, op := POp.mv (Operand.tmp 13), guard := none, hints := [] },
  { dst := some 2, op := POp.mv (Operand.tmp 14), guard := none, hints := [] }]
def pc24_c2 : PCode := .region none false pc24_o2
def pc24_o3 : List POper := [{ dst := some 16, op := POp.build (Value.agg { toList := [Value.int IntKind.i64 0, Value.int IntKind.i64 0] }) [(0, 1, Operand.const (Value.int IntKind.i64 (-1)))], guard := none, hints := [] },
  { dst := some 17, op := POp.call true [[]] 25 [Operand.tmp 16], guard := none, hints := [] },
  { dst := some 15, op := POp.mv (Operand.tmp 17), guard := none, hints := [] },
  { dst := some 18, op := POp.ext (Operand.tmp 15) 0, guard := none, hints := [] },
  { dst := some 19, op := POp.ext (Operand.tmp 15) 1, guard := none, hints := [] },
  { dst := some 3, op := POp.mv (Operand.tmp 18), guard := none, hints := [] },
  { dst := some 4, op := POp.mv (Operand.tmp 19), guard := none, hints := [] }]
def pc24_c3 : PCode := .region none false pc24_o3
def pc24_o4 : List POper := [{ dst := some 21, op := POp.call true [[]] 27 [Operand.const (Value.int IntKind.i64 1)], guard := none, hints := [] },
  { dst := some 20, op := POp.mv (Operand.tmp 21), guard := none, hints := [] },
  { dst := some 22, op := POp.ext (Operand.tmp 20) 0, guard := none, hints := [] },
  { dst := some 23, op := POp.ext (Operand.tmp 20) 1, guard := none, hints := [] },
  { dst := some 5, op := POp.alloc 24 (Value.agg { toList := [Value.int IntKind.i64 0, Value.int IntKind.i64 0, Value.int IntKind.i64 0, Value.int IntKind.i64 0] }), guard := none, hints := [] },
  { dst := none, op := POp.store 4 (Operand.tmp 5) (Operand.tmp 22), guard := none, hints := [] },
  { dst := some 6, op := POp.mv (Operand.tmp 23), guard := none, hints := [] }]
def pc24_c4 : PCode := .region none false pc24_o4
def pc24_o5 : List POper := [{ dst := some 25, op := POp.call true [[]] 27 [Operand.const (Value.int IntKind.i64 16)], guard := none, hints := [] },
  { dst := some 24, op := POp.mv (Operand.tmp 25), guard := none, hints := [] },
  { dst := some 26, op := POp.ext (Operand.tmp 24) 0, guard := none, hints := [] },
  { dst := some 27, op := POp.ext (Operand.tmp 24) 1, guard := none, hints := [] },
  { dst := some 7, op := POp.alloc 24 (Value.agg { toList := [Value.int IntKind.i64 0, Value.int IntKind.i64 0, Value.int IntKind.i64 0, Value.int IntKind.i64 0] }), guard := none, hints := [] },
  { dst := none, op := POp.store 4 (Operand.tmp 7) (Operand.tmp 26), guard := none, hints := [] },
  { dst := some 8, op := POp.mv (Operand.tmp 27), guard := none, hints := [] }]
def pc24_c5 : PCode := .region none false pc24_o5
def pc24_o6 : List POper := [{ dst := some 28, op := POp.build (Value.agg { toList := [Value.int IntKind.i64 0, Value.int IntKind.i64 0, Value.int IntKind.i64 0, Value.int IntKind.i64 0] }) [(0, 1, Operand.const (Value.int IntKind.i64 15)), (1, 1, Operand.const (Value.int IntKind.i64 0)), (2, 1, Operand.const (Value.int IntKind.i64 17)), (3, 1, Operand.const (Value.int IntKind.i64 1))], guard := none, hints := [] },
  { dst := some 29, op := POp.call true [[]] 29 [Operand.tmp 28], guard := none, hints := [] },
  { dst := some 9, op := POp.mv (Operand.tmp 29), guard := none, hints := [] }]
def pc24_c6 : PCode := .region none false pc24_o6
def pc24_o7 : List POper := [{ dst := some 30, op := POp.mv (Operand.tmp 2), guard := none, hints := [] },
  { dst := some 31, op := POp.prim (Prim.bin BinOp.eql 48 false true) [Operand.tmp 30, Operand.const (Value.int IntKind.i64 0)], guard := none, hints := [] },
  { dst := some 32, op := POp.mv (Operand.tmp 31), guard := none, hints := [] },
  { dst := some 33, op := POp.mv (Operand.tmp 1), guard := some (32, true), hints := [] },
  { dst := some 34, op := POp.prim (Prim.bin BinOp.eql 3 false true) [Operand.tmp 33, Operand.const (Value.int IntKind.i64 1)], guard := some (32, true), hints := [] },
  { dst := some 35, op := POp.pick (Operand.tmp 32) (Operand.tmp 34) (Operand.const (Value.bool false)), guard := none, hints := [] },
  { dst := some 36, op := POp.mv (Operand.tmp 35), guard := none, hints := [] },
  { dst := some 37, op := POp.mv (Operand.tmp 4), guard := some (36, true), hints := [] },
  { dst := some 38, op := POp.prim (Prim.bin BinOp.eql 48 false true) [Operand.tmp 37, Operand.const (Value.int IntKind.i64 14)], guard := some (36, true), hints := [] },
  { dst := some 39, op := POp.pick (Operand.tmp 36) (Operand.tmp 38) (Operand.const (Value.bool false)), guard := none, hints := [] },
  { dst := some 40, op := POp.mv (Operand.tmp 39), guard := none, hints := [] },
  { dst := some 41, op := POp.mv (Operand.tmp 6), guard := some (40, true), hints := [] },
  { dst := some 42, op := POp.pick (Operand.tmp 40) (Operand.tmp 41) (Operand.const (Value.bool false)), guard := none, hints := [] },
  { dst := some 43, op := POp.mv (Operand.tmp 42), guard := none, hints := [] },
  { dst := some 44, op := POp.load true 4 (Operand.tmp 5), guard := some (43, true), hints := [] },
  { dst := some 45, op := POp.build (Value.agg { toList := [Value.int IntKind.i64 0, Value.int IntKind.i64 0, Value.int IntKind.i64 0, Value.int IntKind.i64 0] }) [(0, 1, Operand.const (Value.int IntKind.i64 16)), (2, 1, Operand.const (Value.int IntKind.i64 32)), (3, 1, Operand.const (Value.int IntKind.i64 16))], guard := some (43, true), hints := [] },
  { dst := some 46, op := POp.prim (Prim.bin BinOp.eql 24 false false) [Operand.tmp 44, Operand.tmp 45], guard := some (43, true), hints := [] },
  { dst := some 47, op := POp.pick (Operand.tmp 43) (Operand.tmp 46) (Operand.const (Value.bool false)), guard := none, hints := [] },
  { dst := some 48, op := POp.mv (Operand.tmp 47), guard := none, hints := [] },
  { dst := some 49, op := POp.mv (Operand.tmp 8), guard := some (48, true), hints := [] },
  { dst := some 50, op := POp.prim (Prim.un UnOp.not) [Operand.tmp 49], guard := some (48, true), hints := [] },
  { dst := some 51, op := POp.pick (Operand.tmp 48) (Operand.tmp 50) (Operand.const (Value.bool false)), guard := none, hints := [] },
  { dst := some 52, op := POp.mv (Operand.tmp 51), guard := none, hints := [] },
  { dst := some 53, op := POp.mv (Operand.tmp 9), guard := some (52, true), hints := [] },
  { dst := some 54, op := POp.lenS (Operand.tmp 53), guard := some (52, true), hints := [] },
  { dst := some 55, op := POp.prim (Prim.bin BinOp.eql 3 false true) [Operand.tmp 54, Operand.const (Value.int IntKind.i64 2)], guard := some (52, true), hints := [] },
  { dst := some 56, op := POp.pick (Operand.tmp 52) (Operand.tmp 55) (Operand.const (Value.bool false)), guard := none, hints := [] },
  { dst := some 57, op := POp.mv (Operand.tmp 56), guard := none, hints := [] },
  { dst := some 58, op := POp.mv (Operand.tmp 9), guard := some (57, true), hints := [] },
  { dst := some 59, op := POp.iaddrS 1 (Operand.tmp 58) (Operand.const (Value.int IntKind.i64 1)), guard := some (57, true), hints := [] },
  { dst := some 60, op := POp.load false 1 (Operand.tmp 59), guard := some (57, true), hints := [] },
  { dst := some 61, op := POp.prim (Prim.bin BinOp.eql 3 false true) [Operand.tmp 60, Operand.const (Value.int IntKind.i64 1)], guard := some (57, true), hints := [] },
  { dst := some 62, op := POp.pick (Operand.tmp 57) (Operand.tmp 61) (Operand.const (Value.bool false)), guard := none, hints := [] },
  { dst := some 63, op := POp.mv (Operand.tmp 62), guard := none, hints := [] },
  { dst := some 64, op := POp.call true [[]] 31 [Operand.const (Value.int IntKind.i64 15)], guard := some (63, true), hints := [] },
  { dst := some 65, op := POp.pick (Operand.tmp 63) (Operand.tmp 64) (Operand.const (Value.bool false)), guard := none, hints := [] },
  { dst := some 66, op := POp.mv (Operand.tmp 65), guard := none, hints := [] },
  { dst := some 67, op := POp.call true [[], []] 33 [Operand.const (Value.int IntKind.i64 0), Operand.const (Value.int IntKind.i64 3)], guard := some (66, true), hints := [] },
  { dst := some 68, op := POp.pick (Operand.tmp 66) (Operand.tmp 67) (Operand.const (Value.bool false)), guard := none, hints := [] },
  { dst := some 69, op := POp.mv (Operand.tmp 68), guard := none, hints := [] },
  { dst := some 70, op := POp.call true [[], []] 33 [Operand.const (Value.int IntKind.i64 0), Operand.const (Value.int IntKind.i64 0)], guard := some (69, true), hints := [] },
  { dst := some 71, op := POp.prim (Prim.un UnOp.not) [Operand.tmp 70], guard := some (69, true), hints := [] },
  { dst := some 72, op := POp.pick (Operand.tmp 69) (Operand.tmp 71) (Operand.const (Value.bool false)), guard := none, hints := [] },
  { dst := some 0, op := POp.mv (Operand.tmp 72), guard := none, hints := [] }]
def pc24_c7 : PCode := .region none false pc24_o7
def pc24_c8 : PCode := .ret
def pc24_c9 : PCode := .seq pc24_c7 pc24_c8
def pc24_c10 : PCode := .seq pc24_c6 pc24_c9
def pc24_c11 : PCode := .seq pc24_c5 pc24_c10
def pc24_c12 : PCode := .seq pc24_c4 pc24_c11
def pc24_c13 : PCode := .seq pc24_c3 pc24_c12
def pc24_c14 : PCode := .seq pc24_c2 pc24_c13
def pc24_c15 : PCode := .seq pc24_c1 pc24_c14
def pc24_r : List PRes := [PRes.tmp 0 []]
def pc24 : PFunc := ⟨73, pc24_r, pc24_c15⟩
def pc24_a : Ann := {
  kr := fun
    | _ => none
  ka := fun
    | _ => 0
  kh := fun
    | _ => none }
theorem pc24_ok : compFn Try.prog pc24_a Try.f24 = some pc24 := by kernel_rfl


-- 54: vedette/vedetteref3.On
def pc54_o1 : List POper := [{ dst := some 1, op := POp.box 34 (Operand.tmp 0), guard := none, hints := [] },
  { dst := some 2, op := POp.mv (Operand.const (Value.bool false)), guard := none, hints := [] }]
def pc54_c1 : PCode := .region none false pc54_o1
def pc54_o2 : List POper := [{ dst := some 3, op := POp.faddr 0 (Operand.tmp 1), guard := none, hints := [] },
  { dst := some 4, op := POp.load false 1 (Operand.tmp 3), guard := none, hints := [] },
  { dst := some 5, op := POp.prim (Prim.bin BinOp.geq 3 false true) [Operand.tmp 4, Operand.const (Value.int IntKind.i64 0)], guard := none, hints := [] },
  { dst := some 6, op := POp.mv (Operand.tmp 5), guard := none, hints := [] },
  { dst := some 7, op := POp.faddr 0 (Operand.tmp 1), guard := some (6, true), hints := [] },
  { dst := some 8, op := POp.load false 1 (Operand.tmp 7), guard := some (6, true), hints := [] },
  { dst := some 9, op := POp.prim (Prim.bin BinOp.lss 3 false true) [Operand.tmp 8, Operand.const (Value.int IntKind.i64 64)], guard := some (6, true), hints := [] },
  { dst := some 10, op := POp.pick (Operand.tmp 6) (Operand.tmp 9) (Operand.const (Value.bool false)), guard := none, hints := [] },
  { dst := some 11, op := POp.mv (Operand.tmp 10), guard := none, hints := [] },
  { dst := some 12, op := POp.faddr 1 (Operand.tmp 1), guard := some (11, true), hints := [] },
  { dst := some 13, op := POp.load false 1 (Operand.tmp 12), guard := some (11, true), hints := [] },
  { dst := some 14, op := POp.prim (Prim.bin BinOp.geq 3 false true) [Operand.tmp 13, Operand.const (Value.int IntKind.i64 0)], guard := some (11, true), hints := [] },
  { dst := some 15, op := POp.pick (Operand.tmp 11) (Operand.tmp 14) (Operand.const (Value.bool false)), guard := none, hints := [] },
  { dst := some 16, op := POp.mv (Operand.tmp 15), guard := none, hints := [] },
  { dst := some 17, op := POp.faddr 1 (Operand.tmp 1), guard := some (16, true), hints := [] },
  { dst := some 18, op := POp.load false 1 (Operand.tmp 17), guard := some (16, true), hints := [] },
  { dst := some 19, op := POp.prim (Prim.bin BinOp.lss 3 false true) [Operand.tmp 18, Operand.const (Value.int IntKind.i64 64)], guard := some (16, true), hints := [] },
  { dst := some 20, op := POp.pick (Operand.tmp 16) (Operand.tmp 19) (Operand.const (Value.bool false)), guard := none, hints := [] },
  { dst := some 2, op := POp.mv (Operand.tmp 20), guard := none, hints := [] }]
def pc54_c2 : PCode := .region none false pc54_o2
def pc54_c3 : PCode := .ret
def pc54_c4 : PCode := .seq pc54_c2 pc54_c3
def pc54_c5 : PCode := .seq pc54_c1 pc54_c4
def pc54_r : List PRes := [PRes.tmp 2 []]
def pc54 : PFunc := ⟨21, pc54_r, pc54_c5⟩
def pc54_a : Ann := {
  kr := fun
    | _ => none
  ka := fun
    | _ => 0
  kh := fun
    | _ => none }
theorem pc54_ok : compFn Try.prog pc54_a Try.f54 = some pc54 := by kernel_rfl


-- 55: vedette/vedetteref3.Weave
def pc55_o1 : List POper := [{ dst := some 4, op := POp.mv (Operand.const (Value.int IntKind.u32 0)), guard := none, hints := [] }]
def pc55_c1 : PCode := .region none false pc55_o1
def pc55_o2 : List POper := [{ dst := some 5, op := POp.mv (Operand.const (Value.int IntKind.u32 0)), guard := none, hints := [] }]
def pc55_c2 : PCode := .region none false pc55_o2
def pc55_o3 : List POper := [{ dst := some 6, op := POp.mv (Operand.const (Value.int IntKind.i64 0)), guard := none, hints := [] }]
def pc55_c3 : PCode := .region none false pc55_o3
def pc55_o4 : List POper := [{ dst := some 7, op := POp.mv (Operand.tmp 6), guard := none, hints := [] },
  { dst := some 8, op := POp.prim (Prim.bin BinOp.lss 3 false true) [Operand.tmp 7, Operand.const (Value.int IntKind.i64 16)], guard := none, hints := [] }]
def pc55_c4 : PCode := .region (some ([0, 1, 5, 6], [])) false pc55_o4
def pc55_c5 : PCode := .skip
def pc55_c6 : PCode := .exit 0
def pc55_c7 : PCode := .cond (Operand.tmp 8) pc55_c5 pc55_c6
def pc55_c8 : PCode := .seq pc55_c4 pc55_c7
def pc55_o9 : List POper := [{ dst := some 11, op := POp.mv (Operand.tmp 5), guard := none, hints := [] },
  { dst := some 12, op := POp.mv (Operand.tmp 0), guard := none, hints := [] },
  { dst := some 13, op := POp.mv (Operand.tmp 6), guard := none, hints := [] },
  { dst := some 14, op := POp.prim (Prim.conv 3 106) [Operand.tmp 13], guard := none, hints := [] },
  { dst := some 15, op := POp.prim (Prim.bin BinOp.shr 93 false false) [Operand.tmp 12, Operand.tmp 14], guard := none, hints := [] },
  { dst := some 16, op := POp.prim (Prim.bin BinOp.and 93 false true) [Operand.tmp 15, Operand.const (Value.int IntKind.u16 1)], guard := none, hints := [] },
  { dst := some 17, op := POp.prim (Prim.conv 93 91) [Operand.tmp 16], guard := none, hints := [] },
  { dst := some 18, op := POp.mv (Operand.tmp 6), guard := none, hints := [] },
  { dst := some 19, op := POp.prim (Prim.bin BinOp.mul 3 true false) [Operand.const (Value.int IntKind.i64 2), Operand.tmp 18], guard := none, hints := [] },
  { dst := some 20, op := POp.prim (Prim.conv 3 106) [Operand.tmp 19], guard := none, hints := [] },
  { dst := some 21, op := POp.prim (Prim.bin BinOp.shl 91 false false) [Operand.tmp 17, Operand.tmp 20], guard := none, hints := [] },
  { dst := some 22, op := POp.prim (Prim.bin BinOp.or 91 false false) [Operand.tmp 11, Operand.tmp 21], guard := none, hints := [] },
  { dst := some 23, op := POp.mv (Operand.tmp 1), guard := none, hints := [] },
  { dst := some 24, op := POp.mv (Operand.tmp 6), guard := none, hints := [] },
  { dst := some 25, op := POp.prim (Prim.conv 3 106) [Operand.tmp 24], guard := none, hints := [] },
  { dst := some 26, op := POp.prim (Prim.bin BinOp.shr 93 false false) [Operand.tmp 23, Operand.tmp 25], guard := none, hints := [] },
  { dst := some 27, op := POp.prim (Prim.bin BinOp.and 93 false true) [Operand.tmp 26, Operand.const (Value.int IntKind.u16 1)], guard := none, hints := [] },
  { dst := some 28, op := POp.prim (Prim.conv 93 91) [Operand.tmp 27], guard := none, hints := [] },
  { dst := some 29, op := POp.mv (Operand.tmp 6), guard := none, hints := [] },
  { dst := some 30, op := POp.prim (Prim.bin BinOp.mul 3 true false) [Operand.const (Value.int IntKind.i64 2), Operand.tmp 29], guard := none, hints := [] },
  { dst := some 31, op := POp.prim (Prim.bin BinOp.add 3 false true) [Operand.tmp 30, Operand.const (Value.int IntKind.i64 1)], guard := none, hints := [] },
  { dst := some 32, op := POp.prim (Prim.conv 3 106) [Operand.tmp 31], guard := none, hints := [] },
  { dst := some 33, op := POp.prim (Prim.bin BinOp.shl 91 false false) [Operand.tmp 28, Operand.tmp 32], guard := none, hints := [] },
  { dst := some 34, op := POp.prim (Prim.bin BinOp.or 91 false false) [Operand.tmp 22, Operand.tmp 33], guard := none, hints := [] },
  { dst := some 5, op := POp.mv (Operand.tmp 34), guard := none, hints := [] }]
def pc55_c9 : PCode := .region none false pc55_o9
def pc55_c10 : PCode := .block 1 pc55_c9
def pc55_o11 : List POper := [{ dst := some 9, op := POp.mv (Operand.tmp 6), guard := none, hints := [] },
  { dst := some 10, op := POp.prim (Prim.bin BinOp.add 3 false true) [Operand.tmp 9, Operand.const (Value.int IntKind.i64 1)], guard := none, hints := [] },
  { dst := some 6, op := POp.mv (Operand.tmp 10), guard := none, hints := [] }]
def pc55_c11 : PCode := .region none false pc55_o11
def pc55_c12 : PCode := .seq pc55_c10 pc55_c11
def pc55_c13 : PCode := .seq pc55_c8 pc55_c12
def pc55_c14 : PCode := .loop pc55_c13
def pc55_c15 : PCode := .block 0 pc55_c14
def pc55_c16 : PCode := .seq pc55_c3 pc55_c15
def pc55_o17 : List POper := [{ dst := some 35, op := POp.mv (Operand.tmp 5), guard := none, hints := [] },
  { dst := some 4, op := POp.mv (Operand.tmp 35), guard := none, hints := [] }]
def pc55_c17 : PCode := .region none false pc55_o17
def pc55_c18 : PCode := .ret
def pc55_c19 : PCode := .seq pc55_c17 pc55_c18
def pc55_c20 : PCode := .seq pc55_c16 pc55_c19
def pc55_c21 : PCode := .seq pc55_c2 pc55_c20
def pc55_c22 : PCode := .seq pc55_c1 pc55_c21
def pc55_r : List PRes := [PRes.tmp 4 []]
def pc55 : PFunc := ⟨36, pc55_r, pc55_c22⟩
def pc55_a : Ann := {
  kr := fun
    | 3 => some ([0, 1, 5, 6], [])
    | _ => none
  ka := fun
    | _ => 0
  kh := fun
    | _ => none }
theorem pc55_ok : compFn Try.prog pc55_a Try.f55 = some pc55 := by kernel_rfl


-- 26: vedette/vedetteref3.Cell
def pc26_o1 : List POper := [{ dst := some 1, op := POp.box 34 (Operand.tmp 0), guard := none, hints := [] },
  { dst := some 2, op := POp.mv (Operand.const (Value.int IntKind.i64 0)), guard := none, hints := [] },
  { dst := some 3, op := POp.mv (Operand.const (Value.int IntKind.i64 0)), guard := none, hints := [] }]
def pc26_c1 : PCode := .region none false pc26_o1
def pc26_o2 : List POper := [{ dst := some 4, op := POp.load true 2 (Operand.tmp 1), guard := none, hints := [] },
  { dst := some 5, op := POp.call true [[]] 54 [Operand.tmp 4], guard := none, hints := [] },
  { dst := some 6, op := POp.prim (Prim.un UnOp.not) [Operand.tmp 5], guard := none, hints := [] }]
def pc26_c2 : PCode := .region none false pc26_o2
def pc26_o3 : List POper := [{ dst := some 2, op := POp.mv (Operand.const (Value.int IntKind.i64 0)), guard := none, hints := [] },
  { dst := some 3, op := POp.mv (Operand.const (Value.int IntKind.i64 14)), guard := none, hints := [] }]
def pc26_c3 : PCode := .region none false pc26_o3
def pc26_c4 : PCode := .ret
def pc26_c5 : PCode := .seq pc26_c3 pc26_c4
def pc26_c6 : PCode := .skip
def pc26_c7 : PCode := .cond (Operand.tmp 6) pc26_c5 pc26_c6
def pc26_c8 : PCode := .seq pc26_c2 pc26_c7
def pc26_o9 : List POper := [{ dst := some 7, op := POp.faddr 0 (Operand.tmp 1), guard := none, hints := [] },
  { dst := some 8, op := POp.load false 1 (Operand.tmp 7), guard := none, hints := [] },
  { dst := some 9, op := POp.prim (Prim.bin BinOp.quo 3 false true) [Operand.tmp 8, Operand.const (Value.int IntKind.i64 16)], guard := none, hints := [] },
  { dst := some 10, op := POp.prim (Prim.conv 3 93) [Operand.tmp 9], guard := none, hints := [] },
  { dst := some 11, op := POp.faddr 1 (Operand.tmp 1), guard := none, hints := [] },
  { dst := some 12, op := POp.load false 1 (Operand.tmp 11), guard := none, hints := [] },
  { dst := some 13, op := POp.prim (Prim.bin BinOp.quo 3 false true) [Operand.tmp 12, Operand.const (Value.int IntKind.i64 16)], guard := none, hints := [] },
  { dst := some 14, op := POp.prim (Prim.conv 3 93) [Operand.tmp 13], guard := none, hints := [] },
  { dst := some 15, op := POp.call true [[], []] 55 [Operand.tmp 10, Operand.tmp 14], guard := none, hints := [] },
  { dst := some 16, op := POp.prim (Prim.conv 91 3) [Operand.tmp 15], guard := none, hints := [] },
  { dst := some 2, op := POp.mv (Operand.tmp 16), guard := none, hints := [] },
  { dst := some 3, op := POp.mv (Operand.const (Value.int IntKind.i64 0)), guard := none, hints := [] }]
def pc26_c9 : PCode := .region none false pc26_o9
def pc26_c10 : PCode := .ret
def pc26_c11 : PCode := .seq pc26_c9 pc26_c10
def pc26_c12 : PCode := .seq pc26_c8 pc26_c11
def pc26_c13 : PCode := .seq pc26_c1 pc26_c12
def pc26_r : List PRes := [PRes.tmp 2 [], PRes.tmp 3 []]
def pc26 : PFunc := ⟨17, pc26_r, pc26_c13⟩
def pc26_a : Ann := {
  kr := fun
    | _ => none
  ka := fun
    | _ => 0
  kh := fun
    | _ => none }
theorem pc26_ok : compFn Try.prog pc26_a Try.f26 = some pc26 := by kernel_rfl


-- 32: vedette/vedetteref3.IsCell
def pc32_o1 : List POper := [{ dst := some 2, op := POp.mv (Operand.const (Value.bool false)), guard := none, hints := [] }]
def pc32_c1 : PCode := .region none false pc32_o1
def pc32_o2 : List POper := [{ dst := some 3, op := POp.mv (Operand.tmp 0), guard := none, hints := [] },
  { dst := some 4, op := POp.prim (Prim.bin BinOp.geq 3 false true) [Operand.tmp 3, Operand.const (Value.int IntKind.i64 0)], guard := none, hints := [] },
  { dst := some 5, op := POp.mv (Operand.tmp 4), guard := none, hints := [] },
  { dst := some 6, op := POp.mv (Operand.tmp 0), guard := some (5, true), hints := [] },
  { dst := some 7, op := POp.prim (Prim.bin BinOp.lss 3 false true) [Operand.tmp 6, Operand.const (Value.int IntKind.i64 16)], guard := some (5, true), hints := [] },
  { dst := some 8, op := POp.pick (Operand.tmp 5) (Operand.tmp 7) (Operand.const (Value.bool false)), guard := none, hints := [] },
  { dst := some 2, op := POp.mv (Operand.tmp 8), guard := none, hints := [] }]
def pc32_c2 : PCode := .region none false pc32_o2
def pc32_c3 : PCode := .ret
def pc32_c4 : PCode := .seq pc32_c2 pc32_c3
def pc32_c5 : PCode := .seq pc32_c1 pc32_c4
def pc32_r : List PRes := [PRes.tmp 2 []]
def pc32 : PFunc := ⟨9, pc32_r, pc32_c5⟩
def pc32_a : Ann := {
  kr := fun
    | _ => none
  ka := fun
    | _ => 0
  kh := fun
    | _ => none }
theorem pc32_ok : compFn Try.prog pc32_a Try.f32 = some pc32 := by kernel_rfl


-- 57: vedette/vedetteref3.Split
def pc57_o1 : List POper := [{ dst := some 2, op := POp.mv (Operand.const (Value.int IntKind.u16 0)), guard := none, hints := [] },
  { dst := some 3, op := POp.mv (Operand.const (Value.int IntKind.u16 0)), guard := none, hints := [] }]
def pc57_c1 : PCode := .region none false pc57_o1
def pc57_o2 : List POper := [{ dst := some 4, op := POp.mv (Operand.const (Value.int IntKind.u16 0)), guard := none, hints := [] },
  { dst := some 5, op := POp.mv (Operand.const (Value.int IntKind.u16 0)), guard := none, hints := [] }]
def pc57_c2 : PCode := .region none false pc57_o2
def pc57_o3 : List POper := [{ dst := some 6, op := POp.mv (Operand.const (Value.int IntKind.i64 0)), guard := none, hints := [] }]
def pc57_c3 : PCode := .region none false pc57_o3
def pc57_o4 : List POper := [{ dst := some 7, op := POp.mv (Operand.tmp 6), guard := none, hints := [] },
  { dst := some 8, op := POp.prim (Prim.bin BinOp.lss 3 false true) [Operand.tmp 7, Operand.const (Value.int IntKind.i64 16)], guard := none, hints := [] }]
def pc57_c4 : PCode := .region (some ([0, 4, 5, 6], [])) false pc57_o4
def pc57_c5 : PCode := .skip
def pc57_c6 : PCode := .exit 0
def pc57_c7 : PCode := .cond (Operand.tmp 8) pc57_c5 pc57_c6
def pc57_c8 : PCode := .seq pc57_c4 pc57_c7
def pc57_o9 : List POper := [{ dst := some 11, op := POp.mv (Operand.tmp 4), guard := none, hints := [] },
  { dst := some 12, op := POp.mv (Operand.tmp 0), guard := none, hints := [] },
  { dst := some 13, op := POp.mv (Operand.tmp 6), guard := none, hints := [] },
  { dst := some 14, op := POp.prim (Prim.bin BinOp.mul 3 true false) [Operand.const (Value.int IntKind.i64 2), Operand.tmp 13], guard := none, hints := [] },
  { dst := some 15, op := POp.prim (Prim.conv 3 106) [Operand.tmp 14], guard := none, hints := [] },
  { dst := some 16, op := POp.prim (Prim.bin BinOp.shr 91 false false) [Operand.tmp 12, Operand.tmp 15], guard := none, hints := [] },
  { dst := some 17, op := POp.prim (Prim.bin BinOp.and 91 false true) [Operand.tmp 16, Operand.const (Value.int IntKind.u32 1)], guard := none, hints := [] },
  { dst := some 18, op := POp.prim (Prim.conv 91 93) [Operand.tmp 17], guard := none, hints := [] },
  { dst := some 19, op := POp.mv (Operand.tmp 6), guard := none, hints := [] },
  { dst := some 20, op := POp.prim (Prim.conv 3 106) [Operand.tmp 19], guard := none, hints := [] },
  { dst := some 21, op := POp.prim (Prim.bin BinOp.shl 93 false false) [Operand.tmp 18, Operand.tmp 20], guard := none, hints := [] },
  { dst := some 22, op := POp.prim (Prim.bin BinOp.or 93 false false) [Operand.tmp 11, Operand.tmp 21], guard := none, hints := [] },
  { dst := some 4, op := POp.mv (Operand.tmp 22), guard := none, hints := [] }]
def pc57_c9 : PCode := .region none false pc57_o9
def pc57_o10 : List POper := [{ dst := some 23, op := POp.mv (Operand.tmp 5), guard := none, hints := [] },
  { dst := some 24, op := POp.mv (Operand.tmp 0), guard := none, hints := [] },
  { dst := some 25, op := POp.mv (Operand.tmp 6), guard := none, hints := [] },
  { dst := some 26, op := POp.prim (Prim.bin BinOp.mul 3 true false) [Operand.const (Value.int IntKind.i64 2), Operand.tmp 25], guard := none, hints := [] },
  { dst := some 27, op := POp.prim (Prim.bin BinOp.add 3 false true) [Operand.tmp 26, Operand.const (Value.int IntKind.i64 1)], guard := none, hints := [] },
  { dst := some 28, op := POp.prim (Prim.conv 3 106) [Operand.tmp 27], guard := none, hints := [] },
  { dst := some 29, op := POp.prim (Prim.bin BinOp.shr 91 false false) [Operand.tmp 24, Operand.tmp 28], guard := none, hints := [] },
  { dst := some 30, op := POp.prim (Prim.bin BinOp.and 91 false true) [Operand.tmp 29, Operand.const (Value.int IntKind.u32 1)], guard := none, hints := [] },
  { dst := some 31, op := POp.prim (Prim.conv 91 93) [Operand.tmp 30], guard := none, hints := [] },
  { dst := some 32, op := POp.mv (Operand.tmp 6), guard := none, hints := [] },
  { dst := some 33, op := POp.prim (Prim.conv 3 106) [Operand.tmp 32], guard := none, hints := [] },
  { dst := some 34, op := POp.prim (Prim.bin BinOp.shl 93 false false) [Operand.tmp 31, Operand.tmp 33], guard := none, hints := [] },
  { dst := some 35, op := POp.prim (Prim.bin BinOp.or 93 false false) [Operand.tmp 23, Operand.tmp 34], guard := none, hints := [] },
  { dst := some 5, op := POp.mv (Operand.tmp 35), guard := none, hints := [] }]
def pc57_c10 : PCode := .region none false pc57_o10
def pc57_c11 : PCode := .seq pc57_c9 pc57_c10
def pc57_c12 : PCode := .block 1 pc57_c11
def pc57_o13 : List POper := [{ dst := some 9, op := POp.mv (Operand.tmp 6), guard := none, hints := [] },
  { dst := some 10, op := POp.prim (Prim.bin BinOp.add 3 false true) [Operand.tmp 9, Operand.const (Value.int IntKind.i64 1)], guard := none, hints := [] },
  { dst := some 6, op := POp.mv (Operand.tmp 10), guard := none, hints := [] }]
def pc57_c13 : PCode := .region none false pc57_o13
def pc57_c14 : PCode := .seq pc57_c12 pc57_c13
def pc57_c15 : PCode := .seq pc57_c8 pc57_c14
def pc57_c16 : PCode := .loop pc57_c15
def pc57_c17 : PCode := .block 0 pc57_c16
def pc57_c18 : PCode := .seq pc57_c3 pc57_c17
def pc57_o19 : List POper := [{ dst := some 36, op := POp.mv (Operand.tmp 4), guard := none, hints := [] },
  { dst := some 37, op := POp.mv (Operand.tmp 5), guard := none, hints := [] },
  { dst := some 2, op := POp.mv (Operand.tmp 36), guard := none, hints := [] },
  { dst := some 3, op := POp.mv (Operand.tmp 37), guard := none, hints := [] }]
def pc57_c19 : PCode := .region none false pc57_o19
def pc57_c20 : PCode := .ret
def pc57_c21 : PCode := .seq pc57_c19 pc57_c20
def pc57_c22 : PCode := .seq pc57_c18 pc57_c21
def pc57_c23 : PCode := .seq pc57_c2 pc57_c22
def pc57_c24 : PCode := .seq pc57_c1 pc57_c23
def pc57_r : List PRes := [PRes.tmp 2 [], PRes.tmp 3 []]
def pc57 : PFunc := ⟨38, pc57_r, pc57_c24⟩
def pc57_a : Ann := {
  kr := fun
    | 3 => some ([0, 4, 5, 6], [])
    | _ => none
  ka := fun
    | _ => 0
  kh := fun
    | _ => none }
theorem pc57_ok : compFn Try.prog pc57_a Try.f57 = some pc57 := by kernel_rfl


-- 28: vedette/vedetteref3.Rect
def pc28_o1 : List POper := [{ dst := some 2, op := POp.alloc 24 (Value.agg { toList := [Value.int IntKind.i64 0, Value.int IntKind.i64 0, Value.int IntKind.i64 0, Value.int IntKind.i64 0] }), guard := none, hints := [] },
  { dst := some 3, op := POp.mv (Operand.const (Value.bool false)), guard := none, hints := [] }]
def pc28_c1 : PCode := .region none false pc28_o1
def pc28_o2 : List POper := [{ dst := some 6, op := POp.mv (Operand.tmp 0), guard := none, hints := [] },
  { dst := some 7, op := POp.call true [[]] 32 [Operand.tmp 6], guard := none, hints := [] },
  { dst := some 8, op := POp.prim (Prim.un UnOp.not) [Operand.tmp 7], guard := none, hints := [] }]
def pc28_c2 : PCode := .region none false pc28_o2
def pc28_o3 : List POper := [{ dst := some 9, op := POp.build (Value.agg { toList := [Value.int IntKind.i64 0, Value.int IntKind.i64 0, Value.int IntKind.i64 0, Value.int IntKind.i64 0] }) [], guard := none, hints := [] },
  { dst := none, op := POp.store 4 (Operand.tmp 2) (Operand.tmp 9), guard := none, hints := [] },
  { dst := some 3, op := POp.mv (Operand.const (Value.bool false)), guard := none, hints := [] }]
def pc28_c3 : PCode := .region none false pc28_o3
def pc28_c4 : PCode := .ret
def pc28_c5 : PCode := .seq pc28_c3 pc28_c4
def pc28_c6 : PCode := .skip
def pc28_c7 : PCode := .cond (Operand.tmp 8) pc28_c5 pc28_c6
def pc28_c8 : PCode := .seq pc28_c2 pc28_c7
def pc28_o9 : List POper := [{ dst := some 11, op := POp.mv (Operand.tmp 0), guard := none, hints := [] },
  { dst := some 12, op := POp.prim (Prim.conv 3 91) [Operand.tmp 11], guard := none, hints := [] },
  { dst := some 13, op := POp.call true [[]] 57 [Operand.tmp 12], guard := none, hints := [] },
  { dst := some 10, op := POp.mv (Operand.tmp 13), guard := none, hints := [] },
  { dst := some 14, op := POp.ext (Operand.tmp 10) 0, guard := none, hints := [] },
  { dst := some 15, op := POp.ext (Operand.tmp 10) 1, guard := none, hints := [] },
  { dst := some 4, op := POp.mv (Operand.tmp 14), guard := none, hints := [] },
  { dst := some 5, op := POp.mv (Operand.tmp 15), guard := none, hints := [] }]
def pc28_c9 : PCode := .region none false pc28_o9
def pc28_o10 : List POper := [{ dst := some 16, op := POp.mv (Operand.tmp 4), guard := none, hints := [] },
  { dst := some 17, op := POp.prim (Prim.conv 93 3) [Operand.tmp 16], guard := none, hints := [] },
  { dst := some 18, op := POp.prim (Prim.bin BinOp.mul 3 false true) [Operand.tmp 17, Operand.const (Value.int IntKind.i64 16)], guard := none, hints := [] },
  { dst := some 19, op := POp.mv (Operand.tmp 5), guard := none, hints := [] },
  { dst := some 20, op := POp.prim (Prim.conv 93 3) [Operand.tmp 19], guard := none, hints := [] },
  { dst := some 21, op := POp.prim (Prim.bin BinOp.mul 3 false true) [Operand.tmp 20, Operand.const (Value.int IntKind.i64 16)], guard := none, hints := [] },
  { dst := some 22, op := POp.mv (Operand.tmp 4), guard := none, hints := [] },
  { dst := some 23, op := POp.prim (Prim.conv 93 3) [Operand.tmp 22], guard := none, hints := [] },
  { dst := some 24, op := POp.prim (Prim.bin BinOp.mul 3 false true) [Operand.tmp 23, Operand.const (Value.int IntKind.i64 16)], guard := none, hints := [] },
  { dst := some 25, op := POp.prim (Prim.bin BinOp.add 3 false true) [Operand.tmp 24, Operand.const (Value.int IntKind.i64 16)], guard := none, hints := [] },
  { dst := some 26, op := POp.mv (Operand.tmp 5), guard := none, hints := [] },
  { dst := some 27, op := POp.prim (Prim.conv 93 3) [Operand.tmp 26], guard := none, hints := [] },
  { dst := some 28, op := POp.prim (Prim.bin BinOp.mul 3 false true) [Operand.tmp 27, Operand.const (Value.int IntKind.i64 16)], guard := none, hints := [] },
  { dst := some 29, op := POp.prim (Prim.bin BinOp.add 3 false true) [Operand.tmp 28, Operand.const (Value.int IntKind.i64 16)], guard := none, hints := [] },
  { dst := some 30, op := POp.build (Value.agg { toList := [Value.int IntKind.i64 0, Value.int IntKind.i64 0, Value.int IntKind.i64 0, Value.int IntKind.i64 0] }) [(0, 1, Operand.tmp 18), (1, 1, Operand.tmp 21), (2, 1, Operand.tmp 25), (3, 1, Operand.tmp 29)], guard := none, hints := [] },
  { dst := none, op := POp.store 4 (Operand.tmp 2) (Operand.tmp 30), guard := none, hints := [] },
  { dst := some 3, op := POp.mv (Operand.const (Value.bool true)), guard := none, hints := [] }]
def pc28_c10 : PCode := .region none false pc28_o10
def pc28_c11 : PCode := .ret
def pc28_c12 : PCode := .seq pc28_c10 pc28_c11
def pc28_c13 : PCode := .seq pc28_c9 pc28_c12
def pc28_c14 : PCode := .seq pc28_c8 pc28_c13
def pc28_c15 : PCode := .seq pc28_c1 pc28_c14
def pc28_r : List PRes := [PRes.cell 2 true 4 [], PRes.tmp 3 []]
def pc28 : PFunc := ⟨31, pc28_r, pc28_c15⟩
def pc28_a : Ann := {
  kr := fun
    | _ => none
  ka := fun
    | _ => 0
  kh := fun
    | _ => none }
theorem pc28_ok : compFn Try.prog pc28_a Try.f28 = some pc28 := by kernel_rfl


-- 59: vedette/vedetteref3.Empty
def pc59_o1 : List POper := [{ dst := some 1, op := POp.box 24 (Operand.tmp 0), guard := none, hints := [] },
  { dst := some 2, op := POp.mv (Operand.const (Value.bool false)), guard := none, hints := [] }]
def pc59_c1 : PCode := .region none false pc59_o1
def pc59_o2 : List POper := [{ dst := some 3, op := POp.faddr 0 (Operand.tmp 1), guard := none, hints := [] },
  { dst := some 4, op := POp.load false 1 (Operand.tmp 3), guard := none, hints := [] },
  { dst := some 5, op := POp.faddr 2 (Operand.tmp 1), guard := none, hints := [] },
  { dst := some 6, op := POp.load false 1 (Operand.tmp 5), guard := none, hints := [] },
  { dst := some 7, op := POp.prim (Prim.bin BinOp.geq 3 false false) [Operand.tmp 4, Operand.tmp 6], guard := none, hints := [] },
  { dst := some 8, op := POp.mv (Operand.tmp 7), guard := none, hints := [] },
  { dst := some 9, op := POp.faddr 1 (Operand.tmp 1), guard := some (8, false), hints := [] },
  { dst := some 10, op := POp.load false 1 (Operand.tmp 9), guard := some (8, false), hints := [] },
  { dst := some 11, op := POp.faddr 3 (Operand.tmp 1), guard := some (8, false), hints := [] },
  { dst := some 12, op := POp.load false 1 (Operand.tmp 11), guard := some (8, false), hints := [] },
  { dst := some 13, op := POp.prim (Prim.bin BinOp.geq 3 false false) [Operand.tmp 10, Operand.tmp 12], guard := some (8, false), hints := [] },
  { dst := some 14, op := POp.pick (Operand.tmp 8) (Operand.const (Value.bool true)) (Operand.tmp 13), guard := none, hints := [] },
  { dst := some 2, op := POp.mv (Operand.tmp 14), guard := none, hints := [] }]
def pc59_c2 : PCode := .region none false pc59_o2
def pc59_c3 : PCode := .ret
def pc59_c4 : PCode := .seq pc59_c2 pc59_c3
def pc59_c5 : PCode := .seq pc59_c1 pc59_c4
def pc59_r : List PRes := [PRes.tmp 2 []]
def pc59 : PFunc := ⟨15, pc59_r, pc59_c5⟩
def pc59_a : Ann := {
  kr := fun
    | _ => none
  ka := fun
    | _ => 0
  kh := fun
    | _ => none }
theorem pc59_ok : compFn Try.prog pc59_a Try.f59 = some pc59 := by kernel_rfl


-- 60: vedette/vedetteref3.Meet
def pc60_o1 : List POper := [{ dst := some 2, op := POp.box 24 (Operand.tmp 0), guard := none, hints := [] },
  { dst := some 3, op := POp.box 24 (Operand.tmp 1), guard := none, hints := [] },
  { dst := some 4, op := POp.alloc 24 (Value.agg { toList := [Value.int IntKind.i64 0, Value.int IntKind.i64 0, Value.int IntKind.i64 0, Value.int IntKind.i64 0] }), guard := none, hints := [] }]
def pc60_c1 : PCode := .region none false pc60_o1
def pc60_o2 : List POper := [{ dst := some 6, op := POp.faddr 0 (Operand.tmp 2), guard := none, hints := [] },
  { dst := some 7, op := POp.load false 1 (Operand.tmp 6), guard := none, hints := [] },
  { dst := some 8, op := POp.faddr 0 (Operand.tmp 3), guard := none, hints := [] },
  { dst := some 9, op := POp.load false 1 (Operand.tmp 8), guard := none, hints := [] },
  { dst := some 10, op := POp.prim Prim.max [Operand.tmp 7, Operand.tmp 9], guard := none, hints := [] },
  { dst := some 11, op := POp.faddr 1 (Operand.tmp 2), guard := none, hints := [] },
  { dst := some 12, op := POp.load false 1 (Operand.tmp 11), guard := none, hints := [] },
  { dst := some 13, op := POp.faddr 1 (Operand.tmp 3), guard := none, hints := [] },
  { dst := some 14, op := POp.load false 1 (Operand.tmp 13), guard := none, hints := [] },
  { dst := some 15, op := POp.prim Prim.max [Operand.tmp 12, Operand.tmp 14], guard := none, hints := [] },
  { dst := some 16, op := POp.faddr 2 (Operand.tmp 2), guard := none, hints := [] },
  { dst := some 17, op := POp.load false 1 (Operand.tmp 16), guard := none, hints := [] },
  { dst := some 18, op := POp.faddr 2 (Operand.tmp 3), guard := none, hints := [] },
  { dst := some 19, op := POp.load false 1 (Operand.tmp 18), guard := none, hints := [] },
  { dst := some 20, op := POp.prim Prim.min [Operand.tmp 17, Operand.tmp 19], guard := none, hints := [] },
  { dst := some 21, op := POp.faddr 3 (Operand.tmp 2), guard := none, hints := [] },
  { dst := some 22, op := POp.load false 1 (Operand.tmp 21), guard := none, hints := [] },
  { dst := some 23, op := POp.faddr 3 (Operand.tmp 3), guard := none, hints := [] },
  { dst := some 24, op := POp.load false 1 (Operand.tmp 23), guard := none, hints := [] },
  { dst := some 25, op := POp.prim Prim.min [Operand.tmp 22, Operand.tmp 24], guard := none, hints := [] },
  { dst := some 26, op := POp.build (Value.agg { toList := [Value.int IntKind.i64 0, Value.int IntKind.i64 0, Value.int IntKind.i64 0, Value.int IntKind.i64 0] }) [(0, 1, Operand.tmp 10), (1, 1, Operand.tmp 15), (2, 1, Operand.tmp 20), (3, 1, Operand.tmp 25)], guard := none, hints := [] },
  { dst := some 5, op := POp.alloc 24 (Value.agg { toList := [Value.int IntKind.i64 0, Value.int IntKind.i64 0, Value.int IntKind.i64 0, Value.int IntKind.i64 0] }), guard := none, hints := [] },
  { dst := none, op := POp.store 4 (Operand.tmp 5) (Operand.tmp 26), guard := none, hints := [] }]
def pc60_c2 : PCode := .region none false pc60_o2
def pc60_o3 : List POper := [{ dst := some 27, op := POp.load true 4 (Operand.tmp 5), guard := none, hints := [] },
  { dst := some 28, op := POp.call true [[]] 59 [Operand.tmp 27], guard := none, hints := [] }]
def pc60_c3 : PCode := .region none false pc60_o3
def pc60_o4 : List POper := [{ dst := some 29, op := POp.build (Value.agg { toList := [Value.int IntKind.i64 0, Value.int IntKind.i64 0, Value.int IntKind.i64 0, Value.int IntKind.i64 0] }) [], guard := none, hints := [] },
  { dst := none, op := POp.store 4 (Operand.tmp 4) (Operand.tmp 29), guard := none, hints := [] }]
def pc60_c4 : PCode := .region none false pc60_o4
def pc60_c5 : PCode := .ret
def pc60_c6 : PCode := .seq pc60_c4 pc60_c5
def pc60_c7 : PCode := .skip
def pc60_c8 : PCode := .cond (Operand.tmp 28) pc60_c6 pc60_c7
def pc60_c9 : PCode := .seq pc60_c3 pc60_c8
def pc60_o10 : List POper := [{ dst := some 30, op := POp.load true 4 (Operand.tmp 5), guard := none, hints := [] },
  { dst := none, op := POp.store 4 (Operand.tmp 4) (Operand.tmp 30), guard := none, hints := [] }]
def pc60_c10 : PCode := .region none false pc60_o10
def pc60_c11 : PCode := .ret
def pc60_c12 : PCode := .seq pc60_c10 pc60_c11
def pc60_c13 : PCode := .seq pc60_c9 pc60_c12
def pc60_c14 : PCode := .seq pc60_c2 pc60_c13
def pc60_c15 : PCode := .seq pc60_c1 pc60_c14
def pc60_r : List PRes := [PRes.cell 4 true 4 []]
def pc60 : PFunc := ⟨31, pc60_r, pc60_c15⟩
def pc60_a : Ann := {
  kr := fun
    | _ => none
  ka := fun
    | _ => 0
  kh := fun
    | _ => none }
theorem pc60_ok : compFn Try.prog pc60_a Try.f60 = some pc60 := by kernel_rfl


-- 30: vedette/vedetteref3.Cover
def pc30_o1 : List POper := [{ dst := some 1, op := POp.box 24 (Operand.tmp 0), guard := none, hints := [] },
  { dst := some 2, op := POp.mv (Operand.const (Value.slice none 0 0)), guard := none, hints := [] }]
def pc30_c1 : PCode := .region none false pc30_o1
def pc30_o2 : List POper := [{ dst := some 3, op := POp.mv (Operand.const (Value.slice none 0 0)), guard := none, hints := [] }]
def pc30_c2 : PCode := .region none false pc30_o2
def pc30_o3 : List POper := [{ dst := some 4, op := POp.mv (Operand.const (Value.int IntKind.i64 0)), guard := none, hints := [] }]
def pc30_c3 : PCode := .region none false pc30_o3
def pc30_o4 : List POper := [{ dst := some 7, op := POp.mv (Operand.tmp 4), guard := none, hints := [] },
  { dst := some 8, op := POp.prim (Prim.bin BinOp.lss 3 false true) [Operand.tmp 7, Operand.const (Value.int IntKind.i64 16)], guard := none, hints := [] }]
def pc30_c4 : PCode := .region (some ([1, 3, 4], [1, 5, 100003])) false pc30_o4
def pc30_c5 : PCode := .skip
def pc30_c6 : PCode := .exit 0
def pc30_c7 : PCode := .cond (Operand.tmp 8) pc30_c5 pc30_c6
def pc30_c8 : PCode := .seq pc30_c4 pc30_c7
def pc30_o9 : List POper := [{ dst := some 12, op := POp.mv (Operand.tmp 4), guard := none, hints := [] },
  { dst := some 13, op := POp.call true [[]] 28 [Operand.tmp 12], guard := none, hints := [] },
  { dst := some 11, op := POp.mv (Operand.tmp 13), guard := none, hints := [] },
  { dst := some 14, op := POp.ext (Operand.tmp 11) 0, guard := none, hints := [] },
  { dst := some 15, op := POp.ext (Operand.tmp 11) 1, guard := none, hints := [] },
  { dst := some 5, op := POp.alloc 24 (Value.agg { toList := [Value.int IntKind.i64 0, Value.int IntKind.i64 0, Value.int IntKind.i64 0, Value.int IntKind.i64 0] }), guard := none, hints := [] },
  { dst := none, op := POp.store 4 (Operand.tmp 5) (Operand.tmp 14), guard := none, hints := [] },
  { dst := some 6, op := POp.mv (Operand.tmp 15), guard := none, hints := [] }]
def pc30_c9 : PCode := .region none false pc30_o9
def pc30_o10 : List POper := [{ dst := some 16, op := POp.load true 4 (Operand.tmp 5), guard := none, hints := [] },
  { dst := some 17, op := POp.load true 4 (Operand.tmp 1), guard := none, hints := [] },
  { dst := some 18, op := POp.call true [[], []] 60 [Operand.tmp 16, Operand.tmp 17], guard := none, hints := [] },
  { dst := some 19, op := POp.call true [[]] 59 [Operand.tmp 18], guard := none, hints := [] },
  { dst := some 20, op := POp.prim (Prim.un UnOp.not) [Operand.tmp 19], guard := none, hints := [] }]
def pc30_c10 : PCode := .region none false pc30_o10
def pc30_o11 : List POper := [{ dst := some 21, op := POp.mv (Operand.tmp 3), guard := none, hints := [] },
  { dst := some 22, op := POp.mv (Operand.tmp 4), guard := none, hints := [] },
  { dst := some 23, op := POp.bslice 3 1 [Operand.tmp 22], guard := none, hints := [] },
  { dst := some 24, op := POp.app 100003 3 1 8 (Operand.tmp 21) (Operand.tmp 23), guard := none, hints := [] },
  { dst := some 3, op := POp.mv (Operand.tmp 24), guard := none, hints := [] }]
def pc30_c11 : PCode := .region none false pc30_o11
def pc30_c12 : PCode := .skip
def pc30_c13 : PCode := .cond (Operand.tmp 20) pc30_c11 pc30_c12
def pc30_c14 : PCode := .seq pc30_c10 pc30_c13
def pc30_c15 : PCode := .seq pc30_c9 pc30_c14
def pc30_c16 : PCode := .block 1 pc30_c15
def pc30_o17 : List POper := [{ dst := some 9, op := POp.mv (Operand.tmp 4), guard := none, hints := [] },
  { dst := some 10, op := POp.prim (Prim.bin BinOp.add 3 false true) [Operand.tmp 9, Operand.const (Value.int IntKind.i64 1)], guard := none, hints := [] },
  { dst := some 4, op := POp.mv (Operand.tmp 10), guard := none, hints := [] }]
def pc30_c17 : PCode := .region none false pc30_o17
def pc30_c18 : PCode := .seq pc30_c16 pc30_c17
def pc30_c19 : PCode := .seq pc30_c8 pc30_c18
def pc30_c20 : PCode := .loop pc30_c19
def pc30_c21 : PCode := .block 0 pc30_c20
def pc30_c22 : PCode := .seq pc30_c3 pc30_c21
def pc30_o23 : List POper := [{ dst := some 25, op := POp.mv (Operand.tmp 3), guard := none, hints := [] },
  { dst := some 2, op := POp.mv (Operand.tmp 25), guard := none, hints := [] }]
def pc30_c23 : PCode := .region none false pc30_o23
def pc30_c24 : PCode := .ret
def pc30_c25 : PCode := .seq pc30_c23 pc30_c24
def pc30_c26 : PCode := .seq pc30_c22 pc30_c25
def pc30_c27 : PCode := .seq pc30_c2 pc30_c26
def pc30_c28 : PCode := .seq pc30_c1 pc30_c27
def pc30_r : List PRes := [PRes.tmp 2 [(0, 1)]]
def pc30 : PFunc := ⟨26, pc30_r, pc30_c28⟩
def pc30_a : Ann := {
  kr := fun
    | 3 => some ([1, 3, 4], [1, 5, 100003])
    | _ => none
  ka := fun
    | 24 => 100003
    | _ => 0
  kh := fun
    | _ => none }
theorem pc30_ok : compFn Try.prog pc30_a Try.f30 = some pc30 := by kernel_rfl


-- 34: vedette/vedetteref3.Beside
def pc34_o1 : List POper := [{ dst := some 4, op := POp.mv (Operand.const (Value.bool false)), guard := none, hints := [] }]
def pc34_c1 : PCode := .region none false pc34_o1
def pc34_o2 : List POper := [{ dst := some 11, op := POp.mv (Operand.tmp 0), guard := none, hints := [] },
  { dst := some 12, op := POp.call true [[]] 32 [Operand.tmp 11], guard := none, hints := [] },
  { dst := some 13, op := POp.prim (Prim.un UnOp.not) [Operand.tmp 12], guard := none, hints := [] },
  { dst := some 14, op := POp.mv (Operand.tmp 13), guard := none, hints := [] },
  { dst := some 15, op := POp.mv (Operand.tmp 1), guard := some (14, false), hints := [] },
  { dst := some 16, op := POp.call true [[]] 32 [Operand.tmp 15], guard := some (14, false), hints := [] },
  { dst := some 17, op := POp.prim (Prim.un UnOp.not) [Operand.tmp 16], guard := some (14, false), hints := [] },
  { dst := some 18, op := POp.pick (Operand.tmp 14) (Operand.const (Value.bool true)) (Operand.tmp 17), guard := none, hints := [] },
  { dst := some 19, op := POp.mv (Operand.tmp 18), guard := none, hints := [] },
  { dst := some 20, op := POp.mv (Operand.tmp 0), guard := some (19, false), hints := [] },
  { dst := some 21, op := POp.mv (Operand.tmp 1), guard := some (19, false), hints := [] },
  { dst := some 22, op := POp.prim (Prim.bin BinOp.eql 3 false false) [Operand.tmp 20, Operand.tmp 21], guard := some (19, false), hints := [] },
  { dst := some 23, op := POp.pick (Operand.tmp 19) (Operand.const (Value.bool true)) (Operand.tmp 22), guard := none, hints := [] }]
def pc34_c2 : PCode := .region none false pc34_o2
def pc34_o3 : List POper := [{ dst := some 4, op := POp.mv (Operand.const (Value.bool false)), guard := none, hints := [] }]
def pc34_c3 : PCode := .region none false pc34_o3
def pc34_c4 : PCode := .ret
def pc34_c5 : PCode := .seq pc34_c3 pc34_c4
def pc34_c6 : PCode := .skip
def pc34_c7 : PCode := .cond (Operand.tmp 23) pc34_c5 pc34_c6
def pc34_c8 : PCode := .seq pc34_c2 pc34_c7
def pc34_o9 : List POper := [{ dst := some 25, op := POp.mv (Operand.tmp 0), guard := none, hints := [] },
  { dst := some 26, op := POp.prim (Prim.conv 3 91) [Operand.tmp 25], guard := none, hints := [] },
  { dst := some 27, op := POp.call true [[]] 57 [Operand.tmp 26], guard := none, hints := [] },
  { dst := some 24, op := POp.mv (Operand.tmp 27), guard := none, hints := [] },
  { dst := some 28, op := POp.ext (Operand.tmp 24) 0, guard := none, hints := [] },
  { dst := some 29, op := POp.ext (Operand.tmp 24) 1, guard := none, hints := [] },
  { dst := some 5, op := POp.mv (Operand.tmp 28), guard := none, hints := [] },
  { dst := some 6, op := POp.mv (Operand.tmp 29), guard := none, hints := [] }]
def pc34_c9 : PCode := .region none false pc34_o9
def pc34_o10 : List POper := [{ dst := some 31, op := POp.mv (Operand.tmp 1), guard := none, hints := [] },
  { dst := some 32, op := POp.prim (Prim.conv 3 91) [Operand.tmp 31], guard := none, hints := [] },
  { dst := some 33, op := POp.call true [[]] 57 [Operand.tmp 32], guard := none, hints := [] },
  { dst := some 30, op := POp.mv (Operand.tmp 33), guard := none, hints := [] },
  { dst := some 34, op := POp.ext (Operand.tmp 30) 0, guard := none, hints := [] },
  { dst := some 35, op := POp.ext (Operand.tmp 30) 1, guard := none, hints := [] },
  { dst := some 7, op := POp.mv (Operand.tmp 34), guard := none, hints := [] },
  { dst := some 8, op := POp.mv (Operand.tmp 35), guard := none, hints := [] }]
def pc34_c10 : PCode := .region none false pc34_o10
def pc34_o11 : List POper := [{ dst := some 36, op := POp.mv (Operand.tmp 5), guard := none, hints := [] },
  { dst := some 37, op := POp.prim (Prim.conv 93 3) [Operand.tmp 36], guard := none, hints := [] },
  { dst := some 38, op := POp.mv (Operand.tmp 7), guard := none, hints := [] },
  { dst := some 39, op := POp.prim (Prim.conv 93 3) [Operand.tmp 38], guard := none, hints := [] },
  { dst := some 40, op := POp.prim (Prim.bin BinOp.sub 3 false false) [Operand.tmp 37, Operand.tmp 39], guard := none, hints := [] },
  { dst := some 41, op := POp.mv (Operand.tmp 6), guard := none, hints := [] },
  { dst := some 42, op := POp.prim (Prim.conv 93 3) [Operand.tmp 41], guard := none, hints := [] },
  { dst := some 43, op := POp.mv (Operand.tmp 8), guard := none, hints := [] },
  { dst := some 44, op := POp.prim (Prim.conv 93 3) [Operand.tmp 43], guard := none, hints := [] },
  { dst := some 45, op := POp.prim (Prim.bin BinOp.sub 3 false false) [Operand.tmp 42, Operand.tmp 44], guard := none, hints := [] },
  { dst := some 9, op := POp.mv (Operand.tmp 40), guard := none, hints := [] },
  { dst := some 10, op := POp.mv (Operand.tmp 45), guard := none, hints := [] }]
def pc34_c11 : PCode := .region none false pc34_o11
def pc34_o12 : List POper := [{ dst := some 46, op := POp.mv (Operand.tmp 9), guard := none, hints := [] },
  { dst := some 47, op := POp.prim (Prim.bin BinOp.geq 3 false true) [Operand.tmp 46, Operand.const (Value.int IntKind.i64 (-1))], guard := none, hints := [] },
  { dst := some 48, op := POp.mv (Operand.tmp 47), guard := none, hints := [] },
  { dst := some 49, op := POp.mv (Operand.tmp 9), guard := some (48, true), hints := [] },
  { dst := some 50, op := POp.prim (Prim.bin BinOp.leq 3 false true) [Operand.tmp 49, Operand.const (Value.int IntKind.i64 1)], guard := some (48, true), hints := [] },
  { dst := some 51, op := POp.pick (Operand.tmp 48) (Operand.tmp 50) (Operand.const (Value.bool false)), guard := none, hints := [] },
  { dst := some 52, op := POp.mv (Operand.tmp 51), guard := none, hints := [] },
  { dst := some 53, op := POp.mv (Operand.tmp 10), guard := some (52, true), hints := [] },
  { dst := some 54, op := POp.prim (Prim.bin BinOp.geq 3 false true) [Operand.tmp 53, Operand.const (Value.int IntKind.i64 (-1))], guard := some (52, true), hints := [] },
  { dst := some 55, op := POp.pick (Operand.tmp 52) (Operand.tmp 54) (Operand.const (Value.bool false)), guard := none, hints := [] },
  { dst := some 56, op := POp.mv (Operand.tmp 55), guard := none, hints := [] },
  { dst := some 57, op := POp.mv (Operand.tmp 10), guard := some (56, true), hints := [] },
  { dst := some 58, op := POp.prim (Prim.bin BinOp.leq 3 false true) [Operand.tmp 57, Operand.const (Value.int IntKind.i64 1)], guard := some (56, true), hints := [] },
  { dst := some 59, op := POp.pick (Operand.tmp 56) (Operand.tmp 58) (Operand.const (Value.bool false)), guard := none, hints := [] },
  { dst := some 4, op := POp.mv (Operand.tmp 59), guard := none, hints := [] }]
def pc34_c12 : PCode := .region none false pc34_o12
def pc34_c13 : PCode := .ret
def pc34_c14 : PCode := .seq pc34_c12 pc34_c13
def pc34_c15 : PCode := .seq pc34_c11 pc34_c14
def pc34_c16 : PCode := .seq pc34_c10 pc34_c15
def pc34_c17 : PCode := .seq pc34_c9 pc34_c16
def pc34_c18 : PCode := .seq pc34_c8 pc34_c17
def pc34_c19 : PCode := .seq pc34_c1 pc34_c18
def pc34_r : List PRes := [PRes.tmp 4 []]
def pc34 : PFunc := ⟨60, pc34_r, pc34_c19⟩
def pc34_a : Ann := {
  kr := fun
    | _ => none
  ka := fun
    | _ => 0
  kh := fun
    | _ => none }
theorem pc34_ok : compFn Try.prog pc34_a Try.f34 = some pc34 := by kernel_rfl


-- 7: vedette/vedettelaw5.CellTells
def pc7_o1 : List POper := [{ dst := some 4, op := POp.box 34 (Operand.tmp 0), guard := none, hints := [] },
  { dst := some 5, op := POp.box 24 (Operand.tmp 1), guard := none, hints := [] },
  { dst := some 8, op := POp.mv (Operand.const (Value.bool false)), guard := none, hints := [] }]
def pc7_c1 : PCode := .region none false pc7_o1
def pc7_o2 : List POper := [{ dst := some 20, op := POp.call true [] 24 [], guard := none, hints := [] },
  { dst := some 21, op := POp.prim (Prim.un UnOp.not) [Operand.tmp 20], guard := none, hints := [] }]
def pc7_c2 : PCode := .region none false pc7_o2
def pc7_o3 : List POper := [{ dst := some 8, op := POp.mv (Operand.const (Value.bool false)), guard := none, hints := [] }]
def pc7_c3 : PCode := .region none false pc7_o3
def pc7_c4 : PCode := .ret
def pc7_c5 : PCode := .seq pc7_c3 pc7_c4
def pc7_c6 : PCode := .skip
def pc7_c7 : PCode := .cond (Operand.tmp 21) pc7_c5 pc7_c6
def pc7_c8 : PCode := .seq pc7_c2 pc7_c7
def pc7_o9 : List POper := [{ dst := some 23, op := POp.load true 2 (Operand.tmp 4), guard := none, hints := [] },
  { dst := some 24, op := POp.call true [[]] 25 [Operand.tmp 23], guard := none, hints := [] },
  { dst := some 22, op := POp.mv (Operand.tmp 24), guard := none, hints := [] },
  { dst := some 25, op := POp.ext (Operand.tmp 22) 0, guard := none, hints := [] },
  { dst := some 26, op := POp.ext (Operand.tmp 22) 1, guard := none, hints := [] },
  { dst := some 9, op := POp.mv (Operand.tmp 25), guard := none, hints := [] },
  { dst := some 10, op := POp.mv (Operand.tmp 26), guard := none, hints := [] }]
def pc7_c9 : PCode := .region none false pc7_o9
def pc7_o10 : List POper := [{ dst := some 28, op := POp.load true 2 (Operand.tmp 4), guard := none, hints := [] },
  { dst := some 29, op := POp.call true [[]] 26 [Operand.tmp 28], guard := none, hints := [] },
  { dst := some 27, op := POp.mv (Operand.tmp 29), guard := none, hints := [] },
  { dst := some 30, op := POp.ext (Operand.tmp 27) 0, guard := none, hints := [] },
  { dst := some 31, op := POp.ext (Operand.tmp 27) 1, guard := none, hints := [] },
  { dst := some 11, op := POp.mv (Operand.tmp 30), guard := none, hints := [] },
  { dst := some 12, op := POp.mv (Operand.tmp 31), guard := none, hints := [] }]
def pc7_c10 : PCode := .region none false pc7_o10
def pc7_o11 : List POper := [{ dst := some 33, op := POp.mv (Operand.tmp 2), guard := none, hints := [] },
  { dst := some 34, op := POp.call true [[]] 27 [Operand.tmp 33], guard := none, hints := [] },
  { dst := some 32, op := POp.mv (Operand.tmp 34), guard := none, hints := [] },
  { dst := some 35, op := POp.ext (Operand.tmp 32) 0, guard := none, hints := [] },
  { dst := some 36, op := POp.ext (Operand.tmp 32) 1, guard := none, hints := [] },
  { dst := some 13, op := POp.alloc 24 (Value.agg { toList := [Value.int IntKind.i64 0, Value.int IntKind.i64 0, Value.int IntKind.i64 0, Value.int IntKind.i64 0] }), guard := none, hints := [] },
  { dst := none, op := POp.store 4 (Operand.tmp 13) (Operand.tmp 35), guard := none, hints := [] },
  { dst := some 14, op := POp.mv (Operand.tmp 36), guard := none, hints := [] }]
def pc7_c11 : PCode := .region none false pc7_o11
def pc7_o12 : List POper := [{ dst := some 38, op := POp.mv (Operand.tmp 2), guard := none, hints := [] },
  { dst := some 39, op := POp.call true [[]] 28 [Operand.tmp 38], guard := none, hints := [] },
  { dst := some 37, op := POp.mv (Operand.tmp 39), guard := none, hints := [] },
  { dst := some 40, op := POp.ext (Operand.tmp 37) 0, guard := none, hints := [] },
  { dst := some 41, op := POp.ext (Operand.tmp 37) 1, guard := none, hints := [] },
  { dst := some 15, op := POp.alloc 24 (Value.agg { toList := [Value.int IntKind.i64 0, Value.int IntKind.i64 0, Value.int IntKind.i64 0, Value.int IntKind.i64 0] }), guard := none, hints := [] },
  { dst := none, op := POp.store 4 (Operand.tmp 15) (Operand.tmp 40), guard := none, hints := [] },
  { dst := some 16, op := POp.mv (Operand.tmp 41), guard := none, hints := [] }]
def pc7_c12 : PCode := .region none false pc7_o12
def pc7_o13 : List POper := [{ dst := some 42, op := POp.load true 4 (Operand.tmp 5), guard := none, hints := [(5, Hint.at_ 5 0)] },
  { dst := some 43, op := POp.call false [[]] 29 [Operand.tmp 42], guard := none, hints := [(42, Hint.imm)] },
  { dst := some 44, op := POp.load true 4 (Operand.tmp 5), guard := none, hints := [(5, Hint.at_ 5 0)] },
  { dst := some 45, op := POp.call false [[]] 30 [Operand.tmp 44], guard := none, hints := [(44, Hint.imm)] },
  { dst := some 17, op := POp.mv (Operand.tmp 43), guard := none, hints := [(43, Hint.imm)] },
  { dst := some 18, op := POp.mv (Operand.tmp 45), guard := none, hints := [(45, Hint.imm)] }]
def pc7_c13 : PCode := .region none true pc7_o13
def pc7_o14 : List POper := [{ dst := some 46, op := POp.mv (Operand.tmp 17), guard := none, hints := [] },
  { dst := some 47, op := POp.lenS (Operand.tmp 46), guard := none, hints := [] },
  { dst := some 48, op := POp.mv (Operand.tmp 18), guard := none, hints := [] },
  { dst := some 49, op := POp.lenS (Operand.tmp 48), guard := none, hints := [] },
  { dst := some 50, op := POp.prim (Prim.bin BinOp.neq 3 false false) [Operand.tmp 47, Operand.tmp 49], guard := none, hints := [] }]
def pc7_c14 : PCode := .region none false pc7_o14
def pc7_o15 : List POper := [{ dst := some 8, op := POp.mv (Operand.const (Value.bool false)), guard := none, hints := [] }]
def pc7_c15 : PCode := .region none false pc7_o15
def pc7_c16 : PCode := .ret
def pc7_c17 : PCode := .seq pc7_c15 pc7_c16
def pc7_c18 : PCode := .skip
def pc7_c19 : PCode := .cond (Operand.tmp 50) pc7_c17 pc7_c18
def pc7_c20 : PCode := .seq pc7_c14 pc7_c19
def pc7_o21 : List POper := [{ dst := some 19, op := POp.mv (Operand.const (Value.int IntKind.i64 0)), guard := none, hints := [] }]
def pc7_c21 : PCode := .region none false pc7_o21
def pc7_o22 : List POper := [{ dst := some 51, op := POp.mv (Operand.tmp 19), guard := none, hints := [] },
  { dst := some 52, op := POp.mv (Operand.tmp 17), guard := none, hints := [] },
  { dst := some 53, op := POp.lenS (Operand.tmp 52), guard := none, hints := [] },
  { dst := some 54, op := POp.prim (Prim.bin BinOp.lss 3 false false) [Operand.tmp 51, Operand.tmp 53], guard := none, hints := [] }]
def pc7_c22 : PCode := .region (some ([2, 3, 9, 10, 11, 12, 13, 14, 15, 16, 17, 18, 19], [4, 5, 13, 15])) false pc7_o22
def pc7_c23 : PCode := .skip
def pc7_c24 : PCode := .exit 0
def pc7_c25 : PCode := .cond (Operand.tmp 54) pc7_c23 pc7_c24
def pc7_c26 : PCode := .seq pc7_c22 pc7_c25
def pc7_o27 : List POper := [{ dst := some 57, op := POp.mv (Operand.tmp 17), guard := none, hints := [(17, Hint.imm)] },
  { dst := some 58, op := POp.mv (Operand.tmp 19), guard := none, hints := [(19, Hint.imm)] },
  { dst := some 59, op := POp.iaddrS 1 (Operand.tmp 57) (Operand.tmp 58), guard := none, hints := [(57, Hint.imm), (58, Hint.imm)] },
  { dst := some 60, op := POp.load false 1 (Operand.tmp 59), guard := none, hints := [(59, Hint.imm)] },
  { dst := some 61, op := POp.mv (Operand.tmp 18), guard := none, hints := [(18, Hint.imm)] },
  { dst := some 62, op := POp.mv (Operand.tmp 19), guard := none, hints := [(19, Hint.imm)] },
  { dst := some 63, op := POp.iaddrS 1 (Operand.tmp 61) (Operand.tmp 62), guard := none, hints := [(61, Hint.imm), (62, Hint.imm)] },
  { dst := some 64, op := POp.load false 1 (Operand.tmp 63), guard := none, hints := [(63, Hint.imm)] },
  { dst := some 65, op := POp.prim (Prim.bin BinOp.neq 3 false false) [Operand.tmp 60, Operand.tmp 64], guard := none, hints := [(60, Hint.imm), (64, Hint.imm)] }]
def pc7_c27 : PCode := .region none true pc7_o27
def pc7_o28 : List POper := [{ dst := some 8, op := POp.mv (Operand.const (Value.bool false)), guard := none, hints := [] }]
def pc7_c28 : PCode := .region none false pc7_o28
def pc7_c29 : PCode := .ret
def pc7_c30 : PCode := .seq pc7_c28 pc7_c29
def pc7_c31 : PCode := .skip
def pc7_c32 : PCode := .cond (Operand.tmp 65) pc7_c30 pc7_c31
def pc7_c33 : PCode := .seq pc7_c27 pc7_c32
def pc7_c34 : PCode := .block 1 pc7_c33
def pc7_o35 : List POper := [{ dst := some 55, op := POp.mv (Operand.tmp 19), guard := none, hints := [] },
  { dst := some 56, op := POp.prim (Prim.bin BinOp.add 3 false true) [Operand.tmp 55, Operand.const (Value.int IntKind.i64 1)], guard := none, hints := [] },
  { dst := some 19, op := POp.mv (Operand.tmp 56), guard := none, hints := [] }]
def pc7_c35 : PCode := .region none false pc7_o35
def pc7_c36 : PCode := .seq pc7_c34 pc7_c35
def pc7_c37 : PCode := .seq pc7_c26 pc7_c36
def pc7_c38 : PCode := .loop pc7_c37
def pc7_c39 : PCode := .block 0 pc7_c38
def pc7_c40 : PCode := .seq pc7_c21 pc7_c39
def pc7_o41 : List POper := [{ dst := some 66, op := POp.mv (Operand.tmp 9), guard := none, hints := [] },
  { dst := some 67, op := POp.mv (Operand.tmp 11), guard := none, hints := [] },
  { dst := some 68, op := POp.prim (Prim.bin BinOp.eql 3 false false) [Operand.tmp 66, Operand.tmp 67], guard := none, hints := [] },
  { dst := some 69, op := POp.mv (Operand.tmp 68), guard := none, hints := [] },
  { dst := some 70, op := POp.mv (Operand.tmp 10), guard := some (69, true), hints := [] },
  { dst := some 71, op := POp.mv (Operand.tmp 12), guard := some (69, true), hints := [] },
  { dst := some 72, op := POp.prim (Prim.bin BinOp.eql 3 false false) [Operand.tmp 70, Operand.tmp 71], guard := some (69, true), hints := [] },
  { dst := some 73, op := POp.pick (Operand.tmp 69) (Operand.tmp 72) (Operand.const (Value.bool false)), guard := none, hints := [] },
  { dst := some 74, op := POp.mv (Operand.tmp 73), guard := none, hints := [] },
  { dst := some 75, op := POp.load true 4 (Operand.tmp 13), guard := some (74, true), hints := [] },
  { dst := some 76, op := POp.load true 4 (Operand.tmp 15), guard := some (74, true), hints := [] },
  { dst := some 77, op := POp.prim (Prim.bin BinOp.eql 24 false false) [Operand.tmp 75, Operand.tmp 76], guard := some (74, true), hints := [] },
  { dst := some 78, op := POp.pick (Operand.tmp 74) (Operand.tmp 77) (Operand.const (Value.bool false)), guard := none, hints := [] },
  { dst := some 79, op := POp.mv (Operand.tmp 78), guard := none, hints := [] },
  { dst := some 80, op := POp.mv (Operand.tmp 14), guard := some (79, true), hints := [] },
  { dst := some 81, op := POp.mv (Operand.tmp 16), guard := some (79, true), hints := [] },
  { dst := some 82, op := POp.prim (Prim.bin BinOp.eql 4 false false) [Operand.tmp 80, Operand.tmp 81], guard := some (79, true), hints := [] },
  { dst := some 83, op := POp.pick (Operand.tmp 79) (Operand.tmp 82) (Operand.const (Value.bool false)), guard := none, hints := [] },
  { dst := some 84, op := POp.mv (Operand.tmp 83), guard := none, hints := [] },
  { dst := some 85, op := POp.mv (Operand.tmp 2), guard := some (84, true), hints := [] },
  { dst := some 86, op := POp.call true [[]] 31 [Operand.tmp 85], guard := some (84, true), hints := [] },
  { dst := some 87, op := POp.mv (Operand.tmp 2), guard := some (84, true), hints := [] },
  { dst := some 88, op := POp.call true [[]] 32 [Operand.tmp 87], guard := some (84, true), hints := [] },
  { dst := some 89, op := POp.prim (Prim.bin BinOp.eql 4 false false) [Operand.tmp 86, Operand.tmp 88], guard := some (84, true), hints := [] },
  { dst := some 90, op := POp.pick (Operand.tmp 84) (Operand.tmp 89) (Operand.const (Value.bool false)), guard := none, hints := [] },
  { dst := some 91, op := POp.mv (Operand.tmp 90), guard := none, hints := [] },
  { dst := some 92, op := POp.mv (Operand.tmp 2), guard := some (91, true), hints := [] },
  { dst := some 93, op := POp.mv (Operand.tmp 3), guard := some (91, true), hints := [] },
  { dst := some 94, op := POp.call true [[], []] 33 [Operand.tmp 92, Operand.tmp 93], guard := some (91, true), hints := [] },
  { dst := some 95, op := POp.mv (Operand.tmp 2), guard := some (91, true), hints := [] },
  { dst := some 96, op := POp.mv (Operand.tmp 3), guard := some (91, true), hints := [] },
  { dst := some 97, op := POp.call true [[], []] 34 [Operand.tmp 95, Operand.tmp 96], guard := some (91, true), hints := [] },
  { dst := some 98, op := POp.prim (Prim.bin BinOp.eql 4 false false) [Operand.tmp 94, Operand.tmp 97], guard := some (91, true), hints := [] },
  { dst := some 99, op := POp.pick (Operand.tmp 91) (Operand.tmp 98) (Operand.const (Value.bool false)), guard := none, hints := [] },
  { dst := some 8, op := POp.mv (Operand.tmp 99), guard := none, hints := [] }]
def pc7_c41 : PCode := .region none false pc7_o41
def pc7_c42 : PCode := .ret
def pc7_c43 : PCode := .seq pc7_c41 pc7_c42
def pc7_c44 : PCode := .seq pc7_c40 pc7_c43
def pc7_c45 : PCode := .seq pc7_c20 pc7_c44
def pc7_c46 : PCode := .seq pc7_c13 pc7_c45
def pc7_c47 : PCode := .seq pc7_c12 pc7_c46
def pc7_c48 : PCode := .seq pc7_c11 pc7_c47
def pc7_c49 : PCode := .seq pc7_c10 pc7_c48
def pc7_c50 : PCode := .seq pc7_c9 pc7_c49
def pc7_c51 : PCode := .seq pc7_c8 pc7_c50
def pc7_c52 : PCode := .seq pc7_c1 pc7_c51
def pc7_r : List PRes := [PRes.tmp 8 []]
def pc7 : PFunc := ⟨100, pc7_r, pc7_c52⟩
def pc7_a : Ann := {
  kr := fun
    | 11 => some ([2, 3, 9, 10, 11, 12, 13, 14, 15, 16, 17, 18, 19], [4, 5, 13, 15])
    | _ => none
  ka := fun
    | _ => 0
  kh := fun
    | 5 => some (Hint.at_ 5 0)
    | 17 => some (Hint.imm)
    | 18 => some (Hint.imm)
    | 19 => some (Hint.imm)
    | 42 => some (Hint.imm)
    | 43 => some (Hint.imm)
    | 44 => some (Hint.imm)
    | 45 => some (Hint.imm)
    | 57 => some (Hint.imm)
    | 58 => some (Hint.imm)
    | 59 => some (Hint.imm)
    | 60 => some (Hint.imm)
    | 61 => some (Hint.imm)
    | 62 => some (Hint.imm)
    | 63 => some (Hint.imm)
    | 64 => some (Hint.imm)
    | _ => none }
theorem pc7_ok : compFn Try.prog pc7_a Try.f7 = some pc7 := by kernel_rfl


end Go.Proofs.Ytajfdeeepklfoaa
