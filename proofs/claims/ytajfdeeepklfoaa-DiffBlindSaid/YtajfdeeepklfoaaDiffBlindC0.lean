/-
  Code of functions, as the pure machine runs it. No condition.
-/
import Derived.Test.YtajfdeeepklfoaaDiffBlindT
namespace Go.Proofs.Ytajfdeeepklfoaa
open Go Go.Rx
set_option maxRecDepth 100000
set_option linter.unusedVariables false
set_option linter.unusedSimpArgs false
set_option linter.unnecessarySimpa false
-- 51: vedette/geom.In
def pc51_o1 : List POper := [{ dst := some 2, op := POp.box 24 (Operand.tmp 0), guard := none, hints := [] },
  { dst := some 3, op := POp.box 34 (Operand.tmp 1), guard := none, hints := [] },
  { dst := some 4, op := POp.mv (Operand.const (Value.bool false)), guard := none, hints := [] }]
def pc51_c1 : PCode := .region none false pc51_o1
def pc51_o2 : List POper := [{ dst := some 5, op := POp.faddr 0 (Operand.tmp 3), guard := none, hints := [] },
  { dst := some 6, op := POp.load false 1 (Operand.tmp 5), guard := none, hints := [] },
  { dst := some 7, op := POp.faddr 0 (Operand.tmp 2), guard := none, hints := [] },
  { dst := some 8, op := POp.load false 1 (Operand.tmp 7), guard := none, hints := [] },
  { dst := some 9, op := POp.prim (Prim.bin BinOp.geq 3 false false) [Operand.tmp 6, Operand.tmp 8], guard := none, hints := [] },
  { dst := some 10, op := POp.mv (Operand.tmp 9), guard := none, hints := [] },
  { dst := some 11, op := POp.faddr 0 (Operand.tmp 3), guard := some (10, true), hints := [] },
  { dst := some 12, op := POp.load false 1 (Operand.tmp 11), guard := some (10, true), hints := [] },
  { dst := some 13, op := POp.faddr 2 (Operand.tmp 2), guard := some (10, true), hints := [] },
  { dst := some 14, op := POp.load false 1 (Operand.tmp 13), guard := some (10, true), hints := [] },
  { dst := some 15, op := POp.prim (Prim.bin BinOp.lss 3 false false) [Operand.tmp 12, Operand.tmp 14], guard := some (10, true), hints := [] },
  { dst := some 16, op := POp.pick (Operand.tmp 10) (Operand.tmp 15) (Operand.const (Value.bool false)), guard := none, hints := [] },
  { dst := some 17, op := POp.mv (Operand.tmp 16), guard := none, hints := [] },
  { dst := some 18, op := POp.faddr 1 (Operand.tmp 3), guard := some (17, true), hints := [] },
  { dst := some 19, op := POp.load false 1 (Operand.tmp 18), guard := some (17, true), hints := [] },
  { dst := some 20, op := POp.faddr 1 (Operand.tmp 2), guard := some (17, true), hints := [] },
  { dst := some 21, op := POp.load false 1 (Operand.tmp 20), guard := some (17, true), hints := [] },
  { dst := some 22, op := POp.prim (Prim.bin BinOp.geq 3 false false) [Operand.tmp 19, Operand.tmp 21], guard := some (17, true), hints := [] },
  { dst := some 23, op := POp.pick (Operand.tmp 17) (Operand.tmp 22) (Operand.const (Value.bool false)), guard := none, hints := [] },
  { dst := some 24, op := POp.mv (Operand.tmp 23), guard := none, hints := [] },
  { dst := some 25, op := POp.faddr 1 (Operand.tmp 3), guard := some (24, true), hints := [] },
  { dst := some 26, op := POp.load false 1 (Operand.tmp 25), guard := some (24, true), hints := [] },
  { dst := some 27, op := POp.faddr 3 (Operand.tmp 2), guard := some (24, true), hints := [] },
  { dst := some 28, op := POp.load false 1 (Operand.tmp 27), guard := some (24, true), hints := [] },
  { dst := some 29, op := POp.prim (Prim.bin BinOp.lss 3 false false) [Operand.tmp 26, Operand.tmp 28], guard := some (24, true), hints := [] },
  { dst := some 30, op := POp.pick (Operand.tmp 24) (Operand.tmp 29) (Operand.const (Value.bool false)), guard := none, hints := [] },
  { dst := some 4, op := POp.mv (Operand.tmp 30), guard := none, hints := [] }]
def pc51_c2 : PCode := .region none false pc51_o2
def pc51_c3 : PCode := .ret
def pc51_c4 : PCode := .seq pc51_c2 pc51_c3
def pc51_c5 : PCode := .seq pc51_c1 pc51_c4
def pc51_r : List PRes := [PRes.tmp 4 []]
def pc51 : PFunc := ⟨31, pc51_r, pc51_c5⟩
def pc51_a : Ann := {
  kr := fun
    | _ => none
  ka := fun
    | _ => 0
  kh := fun
    | _ => none }
theorem pc51_ok : compFn Try.prog pc51_a Try.f51 = some pc51 := by kernel_rfl


-- 21: vedette/diff.Seen
def pc21_o1 : List POper := [{ dst := some 3, op := POp.box 24 (Operand.tmp 1), guard := none, hints := [] },
  { dst := some 4, op := POp.mv (Operand.const (Value.slice none 0 0)), guard := none, hints := [] }]
def pc21_c1 : PCode := .region none false pc21_o1
def pc21_o2 : List POper := [{ dst := some 5, op := POp.mv (Operand.const (Value.slice none 0 0)), guard := none, hints := [] }]
def pc21_c2 : PCode := .region none false pc21_o2
def pc21_o3 : List POper := [{ dst := some 8, op := POp.mv (Operand.tmp 0), guard := none, hints := [] },
  { dst := some 9, op := POp.lenS (Operand.tmp 8), guard := none, hints := [] },
  { dst := some 10, op := POp.mv (Operand.const (Value.int IntKind.i64 0)), guard := none, hints := [] }]
def pc21_c3 : PCode := .region none false pc21_o3
def pc21_o4 : List POper := [{ dst := some 11, op := POp.prim (Prim.bin BinOp.lss 3 false false) [Operand.tmp 10, Operand.tmp 9], guard := none, hints := [] }]
def pc21_c4 : PCode := .region (some ([3, 5, 8, 9, 10], [3, 7, 100005])) false pc21_o4
def pc21_c5 : PCode := .skip
def pc21_c6 : PCode := .exit 0
def pc21_c7 : PCode := .cond (Operand.tmp 11) pc21_c5 pc21_c6
def pc21_o8 : List POper := [{ dst := some 12, op := POp.iaddrS 11 (Operand.tmp 8) (Operand.tmp 10), guard := none, hints := [] },
  { dst := some 13, op := POp.load true 11 (Operand.tmp 12), guard := none, hints := [] },
  { dst := some 7, op := POp.alloc 39 (Value.agg { toList := [Value.int IntKind.i64 0, Value.int IntKind.i64 0, Value.int IntKind.i64 0, Value.int IntKind.i64 0, Value.string { data := { toList := [] } }, Value.int IntKind.i64 0, Value.string { data := { toList := [] } }, Value.int IntKind.i64 0, Value.string { data := { toList := [] } }, Value.int IntKind.i64 0, Value.string { data := { toList := [] } }] }), guard := none, hints := [] },
  { dst := none, op := POp.store 11 (Operand.tmp 7) (Operand.tmp 13), guard := none, hints := [] }]
def pc21_c8 : PCode := .region none false pc21_o8
def pc21_o9 : List POper := [{ dst := some 14, op := POp.load true 4 (Operand.tmp 3), guard := none, hints := [] },
  { dst := some 15, op := POp.faddr 1 (Operand.tmp 7), guard := none, hints := [] },
  { dst := some 16, op := POp.load true 2 (Operand.tmp 15), guard := none, hints := [] },
  { dst := some 17, op := POp.call true [[], []] 51 [Operand.tmp 14, Operand.tmp 16], guard := none, hints := [] }]
def pc21_c9 : PCode := .region none false pc21_o9
def pc21_o10 : List POper := [{ dst := some 18, op := POp.mv (Operand.tmp 5), guard := none, hints := [] },
  { dst := some 19, op := POp.load true 11 (Operand.tmp 7), guard := none, hints := [] },
  { dst := some 20, op := POp.bslice 39 11 [Operand.tmp 19], guard := none, hints := [] },
  { dst := some 21, op := POp.app 100005 39 11 120 (Operand.tmp 18) (Operand.tmp 20), guard := none, hints := [] },
  { dst := some 5, op := POp.mv (Operand.tmp 21), guard := none, hints := [] }]
def pc21_c10 : PCode := .region none false pc21_o10
def pc21_c11 : PCode := .skip
def pc21_c12 : PCode := .cond (Operand.tmp 17) pc21_c10 pc21_c11
def pc21_c13 : PCode := .seq pc21_c9 pc21_c12
def pc21_c14 : PCode := .seq pc21_c8 pc21_c13
def pc21_c15 : PCode := .block 1 pc21_c14
def pc21_o16 : List POper := [{ dst := some 22, op := POp.prim (Prim.bin BinOp.add 3 false true) [Operand.tmp 10, Operand.const (Value.int IntKind.i64 1)], guard := none, hints := [] },
  { dst := some 10, op := POp.mv (Operand.tmp 22), guard := none, hints := [] }]
def pc21_c16 : PCode := .region none false pc21_o16
def pc21_c17 : PCode := .seq pc21_c15 pc21_c16
def pc21_c18 : PCode := .seq pc21_c7 pc21_c17
def pc21_c19 : PCode := .seq pc21_c4 pc21_c18
def pc21_c20 : PCode := .loop pc21_c19
def pc21_c21 : PCode := .block 0 pc21_c20
def pc21_c22 : PCode := .seq pc21_c3 pc21_c21
def pc21_o23 : List POper := [{ dst := some 23, op := POp.mv (Operand.tmp 5), guard := none, hints := [] },
  { dst := some 4, op := POp.mv (Operand.tmp 23), guard := none, hints := [] }]
def pc21_c23 : PCode := .region none false pc21_o23
def pc21_c24 : PCode := .ret
def pc21_c25 : PCode := .seq pc21_c23 pc21_c24
def pc21_c26 : PCode := .seq pc21_c22 pc21_c25
def pc21_c27 : PCode := .seq pc21_c2 pc21_c26
def pc21_c28 : PCode := .seq pc21_c1 pc21_c27
def pc21_r : List PRes := [PRes.tmp 4 [(0, 11)]]
def pc21 : PFunc := ⟨24, pc21_r, pc21_c28⟩
def pc21_a : Ann := {
  kr := fun
    | 3 => some ([3, 5, 8, 9, 10], [3, 7, 100005])
    | _ => none
  ka := fun
    | 21 => 100005
    | _ => 0
  kh := fun
    | _ => none }
theorem pc21_ok : compFn Try.prog pc21_a Try.f21 = some pc21 := by kernel_rfl


-- 49: vedette/fields.Diff
def pc49_o1 : List POper := [{ dst := some 2, op := POp.box 39 (Operand.tmp 0), guard := none, hints := [] },
  { dst := some 3, op := POp.box 39 (Operand.tmp 1), guard := none, hints := [] },
  { dst := some 4, op := POp.alloc 43 (Value.agg { toList := [Value.int IntKind.i64 0, Value.int IntKind.u8 0, Value.int IntKind.i64 0, Value.int IntKind.i64 0, Value.int IntKind.i64 0, Value.string { data := { toList := [] } }, Value.int IntKind.i64 0, Value.string { data := { toList := [] } }, Value.int IntKind.i64 0, Value.string { data := { toList := [] } }, Value.int IntKind.i64 0, Value.string { data := { toList := [] } }] }), guard := none, hints := [] },
  { dst := some 5, op := POp.mv (Operand.const (Value.bool false)), guard := none, hints := [] }]
def pc49_c1 : PCode := .region none false pc49_o1
def pc49_o2 : List POper := [{ dst := some 9, op := POp.faddr 0 (Operand.tmp 3), guard := none, hints := [] },
  { dst := some 10, op := POp.load false 1 (Operand.tmp 9), guard := none, hints := [] },
  { dst := some 11, op := POp.build (Value.agg { toList := [Value.int IntKind.i64 0, Value.int IntKind.u8 0, Value.int IntKind.i64 0, Value.int IntKind.i64 0, Value.int IntKind.i64 0, Value.string { data := { toList := [] } }, Value.int IntKind.i64 0, Value.string { data := { toList := [] } }, Value.int IntKind.i64 0, Value.string { data := { toList := [] } }, Value.int IntKind.i64 0, Value.string { data := { toList := [] } }] }) [(0, 1, Operand.tmp 10)], guard := none, hints := [] },
  { dst := some 6, op := POp.alloc 43 (Value.agg { toList := [Value.int IntKind.i64 0, Value.int IntKind.u8 0, Value.int IntKind.i64 0, Value.int IntKind.i64 0, Value.int IntKind.i64 0, Value.string { data := { toList := [] } }, Value.int IntKind.i64 0, Value.string { data := { toList := [] } }, Value.int IntKind.i64 0, Value.string { data := { toList := [] } }, Value.int IntKind.i64 0, Value.string { data := { toList := [] } }] }), guard := none, hints := [] },
  { dst := none, op := POp.store 12 (Operand.tmp 6) (Operand.tmp 11), guard := none, hints := [] }]
def pc49_c2 : PCode := .region none false pc49_o2
def pc49_o3 : List POper := [{ dst := some 12, op := POp.faddr 1 (Operand.tmp 2), guard := none, hints := [] },
  { dst := some 13, op := POp.load true 2 (Operand.tmp 12), guard := none, hints := [] },
  { dst := some 14, op := POp.faddr 1 (Operand.tmp 3), guard := none, hints := [] },
  { dst := some 15, op := POp.load true 2 (Operand.tmp 14), guard := none, hints := [] },
  { dst := some 16, op := POp.prim (Prim.bin BinOp.neq 34 false false) [Operand.tmp 13, Operand.tmp 15], guard := none, hints := [] }]
def pc49_c3 : PCode := .region none false pc49_o3
def pc49_o4 : List POper := [{ dst := some 17, op := POp.faddr 1 (Operand.tmp 3), guard := none, hints := [(3, Hint.at_ 3 0)] },
  { dst := some 18, op := POp.load true 2 (Operand.tmp 17), guard := none, hints := [(17, Hint.at_ 3 1)] },
  { dst := some 19, op := POp.faddr 1 (Operand.tmp 6), guard := none, hints := [(6, Hint.at_ 6 0)] },
  { dst := none, op := POp.store 1 (Operand.tmp 19) (Operand.const (Value.int IntKind.u8 1)), guard := none, hints := [(19, Hint.at_ 6 1)] },
  { dst := some 20, op := POp.faddr 2 (Operand.tmp 6), guard := none, hints := [(6, Hint.at_ 6 0)] },
  { dst := none, op := POp.store 2 (Operand.tmp 20) (Operand.tmp 18), guard := none, hints := [(20, Hint.at_ 6 2), (18, Hint.imm)] }]
def pc49_c4 : PCode := .region none true pc49_o4
def pc49_c5 : PCode := .skip
def pc49_c6 : PCode := .cond (Operand.tmp 16) pc49_c4 pc49_c5
def pc49_c7 : PCode := .seq pc49_c3 pc49_c6
def pc49_o8 : List POper := [{ dst := some 21, op := POp.faddr 3 (Operand.tmp 3), guard := none, hints := [] },
  { dst := some 22, op := POp.load true 8 (Operand.tmp 21), guard := none, hints := [] },
  { dst := some 23, op := POp.mv (Operand.const (Value.int IntKind.i64 0)), guard := none, hints := [] }]
def pc49_c8 : PCode := .region (some ([2, 3, 4, 6], [2, 3, 4, 6])) false pc49_o8
def pc49_o9 : List POper := [{ dst := some 24, op := POp.prim (Prim.bin BinOp.lss 3 false true) [Operand.tmp 23, Operand.const (Value.int IntKind.i64 4)], guard := none, hints := [] }]
def pc49_c9 : PCode := .region (some ([2, 4, 6, 22, 23], [2, 3, 4, 6, 8])) false pc49_o9
def pc49_c10 : PCode := .skip
def pc49_c11 : PCode := .exit 0
def pc49_c12 : PCode := .cond (Operand.tmp 24) pc49_c10 pc49_c11
def pc49_o13 : List POper := [{ dst := some 25, op := POp.mv (Operand.tmp 23), guard := none, hints := [] },
  { dst := some 26, op := POp.idx true 2 4 (Operand.tmp 22) (Operand.tmp 23), guard := none, hints := [] },
  { dst := some 8, op := POp.alloc 36 (Value.agg { toList := [Value.int IntKind.i64 0, Value.string { data := { toList := [] } }] }), guard := none, hints := [] },
  { dst := some 7, op := POp.mv (Operand.tmp 25), guard := none, hints := [] },
  { dst := none, op := POp.store 2 (Operand.tmp 8) (Operand.tmp 26), guard := none, hints := [] }]
def pc49_c13 : PCode := .region none false pc49_o13
def pc49_o14 : List POper := [{ dst := some 27, op := POp.mv (Operand.tmp 7), guard := none, hints := [(7, Hint.imm)] },
  { dst := some 28, op := POp.faddr 3 (Operand.tmp 2), guard := none, hints := [(2, Hint.at_ 2 0)] },
  { dst := some 29, op := POp.iaddrA 4 2 (Operand.tmp 28) (Operand.tmp 27), guard := none, hints := [(28, Hint.at_ 2 3), (27, Hint.imm)] },
  { dst := some 30, op := POp.load true 2 (Operand.tmp 29), guard := none, hints := [(29, Hint.obj 2)] },
  { dst := some 31, op := POp.load true 2 (Operand.tmp 8), guard := none, hints := [(8, Hint.at_ 8 0)] },
  { dst := some 32, op := POp.prim (Prim.bin BinOp.neq 36 false false) [Operand.tmp 30, Operand.tmp 31], guard := none, hints := [(30, Hint.imm), (31, Hint.imm)] }]
def pc49_c14 : PCode := .region none true pc49_o14
def pc49_o15 : List POper := [{ dst := some 33, op := POp.faddr 1 (Operand.tmp 6), guard := none, hints := [(6, Hint.at_ 6 0)] },
  { dst := some 34, op := POp.load false 1 (Operand.tmp 33), guard := none, hints := [(33, Hint.at_ 6 1)] },
  { dst := some 35, op := POp.mv (Operand.tmp 7), guard := none, hints := [(7, Hint.imm)] },
  { dst := some 36, op := POp.prim (Prim.bin BinOp.shl 5 true false) [Operand.const (Value.int IntKind.u8 2), Operand.tmp 35], guard := none, hints := [(35, Hint.imm)] },
  { dst := some 37, op := POp.prim (Prim.bin BinOp.or 5 false false) [Operand.tmp 34, Operand.tmp 36], guard := none, hints := [(34, Hint.imm), (36, Hint.imm)] },
  { dst := some 38, op := POp.faddr 1 (Operand.tmp 6), guard := none, hints := [(6, Hint.at_ 6 0)] },
  { dst := none, op := POp.store 1 (Operand.tmp 38) (Operand.tmp 37), guard := none, hints := [(38, Hint.at_ 6 1), (37, Hint.imm)] }]
def pc49_c15 : PCode := .region none true pc49_o15
def pc49_o16 : List POper := [{ dst := some 39, op := POp.mv (Operand.tmp 7), guard := none, hints := [] },
  { dst := some 40, op := POp.load true 2 (Operand.tmp 8), guard := none, hints := [] },
  { dst := some 41, op := POp.faddr 4 (Operand.tmp 6), guard := none, hints := [] },
  { dst := some 42, op := POp.iaddrA 4 2 (Operand.tmp 41) (Operand.tmp 39), guard := none, hints := [] },
  { dst := none, op := POp.store 2 (Operand.tmp 42) (Operand.tmp 40), guard := none, hints := [] }]
def pc49_c16 : PCode := .region none false pc49_o16
def pc49_c17 : PCode := .seq pc49_c15 pc49_c16
def pc49_c18 : PCode := .skip
def pc49_c19 : PCode := .cond (Operand.tmp 32) pc49_c17 pc49_c18
def pc49_c20 : PCode := .seq pc49_c14 pc49_c19
def pc49_c21 : PCode := .seq pc49_c13 pc49_c20
def pc49_c22 : PCode := .block 1 pc49_c21
def pc49_o23 : List POper := [{ dst := some 43, op := POp.prim (Prim.bin BinOp.add 3 false true) [Operand.tmp 23, Operand.const (Value.int IntKind.i64 1)], guard := none, hints := [] },
  { dst := some 23, op := POp.mv (Operand.tmp 43), guard := none, hints := [] }]
def pc49_c23 : PCode := .region none false pc49_o23
def pc49_c24 : PCode := .seq pc49_c22 pc49_c23
def pc49_c25 : PCode := .seq pc49_c12 pc49_c24
def pc49_c26 : PCode := .seq pc49_c9 pc49_c25
def pc49_c27 : PCode := .loop pc49_c26
def pc49_c28 : PCode := .block 0 pc49_c27
def pc49_c29 : PCode := .seq pc49_c8 pc49_c28
def pc49_o30 : List POper := [{ dst := some 44, op := POp.load true 12 (Operand.tmp 6), guard := none, hints := [(6, Hint.at_ 6 0)] },
  { dst := some 45, op := POp.faddr 1 (Operand.tmp 6), guard := none, hints := [(6, Hint.at_ 6 0)] },
  { dst := some 46, op := POp.load false 1 (Operand.tmp 45), guard := none, hints := [(45, Hint.at_ 6 1)] },
  { dst := some 47, op := POp.prim (Prim.bin BinOp.neq 5 false true) [Operand.tmp 46, Operand.const (Value.int IntKind.u8 0)], guard := none, hints := [(46, Hint.imm)] },
  { dst := none, op := POp.store 12 (Operand.tmp 4) (Operand.tmp 44), guard := none, hints := [(4, Hint.at_ 4 0), (44, Hint.imm)] },
  { dst := some 5, op := POp.mv (Operand.tmp 47), guard := none, hints := [(47, Hint.imm)] }]
def pc49_c30 : PCode := .region none true pc49_o30
def pc49_c31 : PCode := .ret
def pc49_c32 : PCode := .seq pc49_c30 pc49_c31
def pc49_c33 : PCode := .seq pc49_c29 pc49_c32
def pc49_c34 : PCode := .seq pc49_c7 pc49_c33
def pc49_c35 : PCode := .seq pc49_c2 pc49_c34
def pc49_c36 : PCode := .seq pc49_c1 pc49_c35
def pc49_r : List PRes := [PRes.cell 4 true 12 [], PRes.tmp 5 []]
def pc49 : PFunc := ⟨48, pc49_r, pc49_c36⟩
def pc49_a : Ann := {
  kr := fun
    | 4 => some ([2, 3, 4, 6], [2, 3, 4, 6])
    | 5 => some ([2, 4, 6, 22, 23], [2, 3, 4, 6, 8])
    | _ => none
  ka := fun
    | _ => 0
  kh := fun
    | 2 => some (Hint.at_ 2 0)
    | 3 => some (Hint.at_ 3 0)
    | 4 => some (Hint.at_ 4 0)
    | 6 => some (Hint.at_ 6 0)
    | 7 => some (Hint.imm)
    | 8 => some (Hint.at_ 8 0)
    | 17 => some (Hint.at_ 3 1)
    | 18 => some (Hint.imm)
    | 19 => some (Hint.at_ 6 1)
    | 20 => some (Hint.at_ 6 2)
    | 27 => some (Hint.imm)
    | 28 => some (Hint.at_ 2 3)
    | 29 => some (Hint.obj 2)
    | 30 => some (Hint.imm)
    | 31 => some (Hint.imm)
    | 33 => some (Hint.at_ 6 1)
    | 34 => some (Hint.imm)
    | 35 => some (Hint.imm)
    | 36 => some (Hint.imm)
    | 37 => some (Hint.imm)
    | 38 => some (Hint.at_ 6 1)
    | 44 => some (Hint.imm)
    | 45 => some (Hint.at_ 6 1)
    | 46 => some (Hint.imm)
    | 47 => some (Hint.imm)
    | _ => none }
theorem pc49_ok : compFn Try.prog pc49_a Try.f49 = some pc49 := by kernel_rfl


-- 18: vedette/diff.Of
def pc18_o1 : List POper := [{ dst := some 5, op := POp.box 24 (Operand.tmp 1), guard := none, hints := [] },
  { dst := some 7, op := POp.box 24 (Operand.tmp 3), guard := none, hints := [] },
  { dst := some 8, op := POp.mv (Operand.const (Value.slice none 0 0)), guard := none, hints := [] }]
def pc18_c1 : PCode := .region none false pc18_o1
def pc18_o2 : List POper := [{ dst := some 14, op := POp.mv (Operand.tmp 0), guard := none, hints := [(0, Hint.imm)] },
  { dst := some 15, op := POp.load true 4 (Operand.tmp 5), guard := none, hints := [(5, Hint.at_ 5 0)] },
  { dst := some 16, op := POp.call false [[(0, 11)], []] 21 [Operand.tmp 14, Operand.tmp 15], guard := none, hints := [(14, Hint.imm), (15, Hint.imm)] },
  { dst := some 17, op := POp.mv (Operand.tmp 2), guard := none, hints := [(2, Hint.imm)] },
  { dst := some 18, op := POp.load true 4 (Operand.tmp 7), guard := none, hints := [(7, Hint.at_ 7 0)] },
  { dst := some 19, op := POp.call false [[(0, 11)], []] 21 [Operand.tmp 17, Operand.tmp 18], guard := none, hints := [(17, Hint.imm), (18, Hint.imm)] },
  { dst := some 9, op := POp.mv (Operand.tmp 16), guard := none, hints := [(16, Hint.imm)] },
  { dst := some 10, op := POp.mv (Operand.tmp 19), guard := none, hints := [(19, Hint.imm)] }]
def pc18_c2 : PCode := .region none true pc18_o2
def pc18_o3 : List POper := [{ dst := some 11, op := POp.mv (Operand.const (Value.slice none 0 0)), guard := none, hints := [] }]
def pc18_c3 : PCode := .region none false pc18_o3
def pc18_c4 : PCode := .label
def pc18_o5 : List POper := [{ dst := some 43, op := POp.mv (Operand.tmp 9), guard := none, hints := [] },
  { dst := some 44, op := POp.lenS (Operand.tmp 43), guard := none, hints := [] },
  { dst := some 45, op := POp.prim (Prim.bin BinOp.eql 3 false true) [Operand.tmp 44, Operand.const (Value.int IntKind.i64 0)], guard := none, hints := [] },
  { dst := some 46, op := POp.mv (Operand.tmp 45), guard := none, hints := [] },
  { dst := some 47, op := POp.mv (Operand.tmp 10), guard := some (46, true), hints := [] },
  { dst := some 48, op := POp.lenS (Operand.tmp 47), guard := some (46, true), hints := [] },
  { dst := some 49, op := POp.prim (Prim.bin BinOp.eql 3 false true) [Operand.tmp 48, Operand.const (Value.int IntKind.i64 0)], guard := some (46, true), hints := [] },
  { dst := some 50, op := POp.pick (Operand.tmp 46) (Operand.tmp 49) (Operand.const (Value.bool false)), guard := none, hints := [] },
  { dst := some 42, op := POp.mv (Operand.tmp 50), guard := none, hints := [] }]
def pc18_c5 : PCode := .region (some ([9, 10, 11], [5, 7, 100011])) false pc18_o5
def pc18_c6 : PCode := .exit 0
def pc18_o7 : List POper := [{ dst := some 52, op := POp.mv (Operand.tmp 9), guard := none, hints := [(9, Hint.imm)] },
  { dst := some 53, op := POp.lenS (Operand.tmp 52), guard := none, hints := [(52, Hint.imm)] },
  { dst := some 54, op := POp.prim (Prim.bin BinOp.eql 3 false true) [Operand.tmp 53, Operand.const (Value.int IntKind.i64 0)], guard := none, hints := [(53, Hint.imm)] },
  { dst := some 55, op := POp.mv (Operand.tmp 54), guard := none, hints := [(54, Hint.imm)] },
  { dst := some 56, op := POp.mv (Operand.tmp 10), guard := some (55, false), hints := [(10, Hint.imm)] },
  { dst := some 57, op := POp.lenS (Operand.tmp 56), guard := some (55, false), hints := [(56, Hint.imm)] },
  { dst := some 58, op := POp.prim (Prim.bin BinOp.gtr 3 false true) [Operand.tmp 57, Operand.const (Value.int IntKind.i64 0)], guard := some (55, false), hints := [(57, Hint.imm)] },
  { dst := some 59, op := POp.mv (Operand.tmp 58), guard := some (55, false), hints := [(58, Hint.imm)] },
  { dst := some 60, op := POp.mv (Operand.tmp 10), guard := some (59, true), hints := [(10, Hint.imm)] },
  { dst := some 61, op := POp.iaddrS 11 (Operand.tmp 60) (Operand.const (Value.int IntKind.i64 0)), guard := some (59, true), hints := [(60, Hint.imm)] },
  { dst := some 62, op := POp.faddr 0 (Operand.tmp 61), guard := some (59, true), hints := [(61, Hint.imm)] },
  { dst := some 63, op := POp.load false 1 (Operand.tmp 62), guard := some (59, true), hints := [(62, Hint.imm)] },
  { dst := some 64, op := POp.mv (Operand.tmp 9), guard := some (59, true), hints := [(9, Hint.imm)] },
  { dst := some 65, op := POp.iaddrS 11 (Operand.tmp 64) (Operand.const (Value.int IntKind.i64 0)), guard := some (59, true), hints := [(64, Hint.imm)] },
  { dst := some 66, op := POp.faddr 0 (Operand.tmp 65), guard := some (59, true), hints := [(65, Hint.imm)] },
  { dst := some 67, op := POp.load false 1 (Operand.tmp 66), guard := some (59, true), hints := [(66, Hint.imm)] },
  { dst := some 68, op := POp.prim (Prim.bin BinOp.lss 3 false false) [Operand.tmp 63, Operand.tmp 67], guard := some (59, true), hints := [(63, Hint.imm), (67, Hint.imm)] },
  { dst := some 69, op := POp.pick (Operand.tmp 59) (Operand.tmp 68) (Operand.const (Value.bool false)), guard := some (55, false), hints := [(59, Hint.imm), (68, Hint.imm)] },
  { dst := some 70, op := POp.pick (Operand.tmp 55) (Operand.const (Value.bool true)) (Operand.tmp 69), guard := none, hints := [(55, Hint.imm), (69, Hint.imm)] },
  { dst := some 51, op := POp.mv (Operand.tmp 70), guard := none, hints := [(70, Hint.imm)] }]
def pc18_c7 : PCode := .region (some ([9, 10, 11], [100011])) true pc18_o7
def pc18_o8 : List POper := [{ dst := some 71, op := POp.mv (Operand.tmp 11), guard := none, hints := [(11, Hint.obj 100011)] },
  { dst := some 72, op := POp.mv (Operand.tmp 10), guard := none, hints := [(10, Hint.imm)] },
  { dst := some 73, op := POp.iaddrS 11 (Operand.tmp 72) (Operand.const (Value.int IntKind.i64 0)), guard := none, hints := [(72, Hint.imm)] },
  { dst := some 74, op := POp.faddr 0 (Operand.tmp 73), guard := none, hints := [(73, Hint.imm)] },
  { dst := some 75, op := POp.load false 1 (Operand.tmp 74), guard := none, hints := [(74, Hint.imm)] },
  { dst := some 76, op := POp.mv (Operand.tmp 10), guard := none, hints := [(10, Hint.imm)] },
  { dst := some 77, op := POp.iaddrS 11 (Operand.tmp 76) (Operand.const (Value.int IntKind.i64 0)), guard := none, hints := [(76, Hint.imm)] },
  { dst := some 78, op := POp.load true 11 (Operand.tmp 77), guard := none, hints := [(77, Hint.imm)] },
  { dst := some 79, op := POp.build (Value.agg { toList := [Value.int IntKind.i64 0, Value.int IntKind.i64 0, Value.int IntKind.i64 0, Value.int IntKind.i64 0, Value.int IntKind.i64 0, Value.int IntKind.i64 0, Value.string { data := { toList := [] } }, Value.int IntKind.i64 0, Value.string { data := { toList := [] } }, Value.int IntKind.i64 0, Value.string { data := { toList := [] } }, Value.int IntKind.i64 0, Value.string { data := { toList := [] } }, Value.int IntKind.i64 0, Value.int IntKind.u8 0, Value.int IntKind.i64 0, Value.int IntKind.i64 0, Value.int IntKind.i64 0, Value.string { data := { toList := [] } }, Value.int IntKind.i64 0, Value.string { data := { toList := [] } }, Value.int IntKind.i64 0, Value.string { data := { toList := [] } }, Value.int IntKind.i64 0, Value.string { data := { toList := [] } }] }) [(0, 1, Operand.const (Value.int IntKind.i64 1)), (1, 1, Operand.tmp 75), (2, 11, Operand.tmp 78)], guard := none, hints := [(75, Hint.imm), (78, Hint.imm)] },
  { dst := some 80, op := POp.bslice 45 25 [Operand.tmp 79], guard := none, hints := [(79, Hint.imm)] },
  { dst := some 81, op := POp.app 100011 45 25 264 (Operand.tmp 71) (Operand.tmp 80), guard := none, hints := [(71, Hint.obj 100011), (80, Hint.imm)] },
  { dst := some 11, op := POp.mv (Operand.tmp 81), guard := none, hints := [(81, Hint.obj 100011)] }]
def pc18_c8 : PCode := .region (some ([9, 10, 11], [100011])) true pc18_o8
def pc18_o9 : List POper := [{ dst := some 82, op := POp.mv (Operand.tmp 10), guard := none, hints := [] },
  { dst := some 83, op := POp.slc 11 (Operand.tmp 82) (some (Operand.const (Value.int IntKind.i64 1))) none, guard := none, hints := [] },
  { dst := some 10, op := POp.mv (Operand.tmp 83), guard := none, hints := [] }]
def pc18_c9 : PCode := .region none false pc18_o9
def pc18_c10 : PCode := .seq pc18_c8 pc18_c9
def pc18_o11 : List POper := [{ dst := some 85, op := POp.mv (Operand.tmp 10), guard := none, hints := [(10, Hint.imm)] },
  { dst := some 86, op := POp.lenS (Operand.tmp 85), guard := none, hints := [(85, Hint.imm)] },
  { dst := some 87, op := POp.prim (Prim.bin BinOp.eql 3 false true) [Operand.tmp 86, Operand.const (Value.int IntKind.i64 0)], guard := none, hints := [(86, Hint.imm)] },
  { dst := some 88, op := POp.mv (Operand.tmp 87), guard := none, hints := [(87, Hint.imm)] },
  { dst := some 89, op := POp.mv (Operand.tmp 9), guard := some (88, false), hints := [(9, Hint.imm)] },
  { dst := some 90, op := POp.iaddrS 11 (Operand.tmp 89) (Operand.const (Value.int IntKind.i64 0)), guard := some (88, false), hints := [(89, Hint.imm)] },
  { dst := some 91, op := POp.faddr 0 (Operand.tmp 90), guard := some (88, false), hints := [(90, Hint.imm)] },
  { dst := some 92, op := POp.load false 1 (Operand.tmp 91), guard := some (88, false), hints := [(91, Hint.imm)] },
  { dst := some 93, op := POp.mv (Operand.tmp 10), guard := some (88, false), hints := [(10, Hint.imm)] },
  { dst := some 94, op := POp.iaddrS 11 (Operand.tmp 93) (Operand.const (Value.int IntKind.i64 0)), guard := some (88, false), hints := [(93, Hint.imm)] },
  { dst := some 95, op := POp.faddr 0 (Operand.tmp 94), guard := some (88, false), hints := [(94, Hint.imm)] },
  { dst := some 96, op := POp.load false 1 (Operand.tmp 95), guard := some (88, false), hints := [(95, Hint.imm)] },
  { dst := some 97, op := POp.prim (Prim.bin BinOp.lss 3 false false) [Operand.tmp 92, Operand.tmp 96], guard := some (88, false), hints := [(92, Hint.imm), (96, Hint.imm)] },
  { dst := some 98, op := POp.pick (Operand.tmp 88) (Operand.const (Value.bool true)) (Operand.tmp 97), guard := none, hints := [(88, Hint.imm), (97, Hint.imm)] },
  { dst := some 84, op := POp.mv (Operand.tmp 98), guard := none, hints := [(98, Hint.imm)] }]
def pc18_c11 : PCode := .region (some ([9, 10, 11], [100011])) true pc18_o11
def pc18_o12 : List POper := [{ dst := some 99, op := POp.mv (Operand.tmp 11), guard := none, hints := [] },
  { dst := some 100, op := POp.mv (Operand.tmp 9), guard := none, hints := [] },
  { dst := some 101, op := POp.iaddrS 11 (Operand.tmp 100) (Operand.const (Value.int IntKind.i64 0)), guard := none, hints := [] },
  { dst := some 102, op := POp.faddr 0 (Operand.tmp 101), guard := none, hints := [] },
  { dst := some 103, op := POp.load false 1 (Operand.tmp 102), guard := none, hints := [] },
  { dst := some 104, op := POp.build (Value.agg { toList := [Value.int IntKind.i64 0, Value.int IntKind.i64 0, Value.int IntKind.i64 0, Value.int IntKind.i64 0, Value.int IntKind.i64 0, Value.int IntKind.i64 0, Value.string { data := { toList := [] } }, Value.int IntKind.i64 0, Value.string { data := { toList := [] } }, Value.int IntKind.i64 0, Value.string { data := { toList := [] } }, Value.int IntKind.i64 0, Value.string { data := { toList := [] } }, Value.int IntKind.i64 0, Value.int IntKind.u8 0, Value.int IntKind.i64 0, Value.int IntKind.i64 0, Value.int IntKind.i64 0, Value.string { data := { toList := [] } }, Value.int IntKind.i64 0, Value.string { data := { toList := [] } }, Value.int IntKind.i64 0, Value.string { data := { toList := [] } }, Value.int IntKind.i64 0, Value.string { data := { toList := [] } }] }) [(0, 1, Operand.const (Value.int IntKind.i64 3)), (1, 1, Operand.tmp 103)], guard := none, hints := [] },
  { dst := some 105, op := POp.bslice 45 25 [Operand.tmp 104], guard := none, hints := [] },
  { dst := some 106, op := POp.app 100011 45 25 264 (Operand.tmp 99) (Operand.tmp 105), guard := none, hints := [] },
  { dst := some 11, op := POp.mv (Operand.tmp 106), guard := none, hints := [] }]
def pc18_c12 : PCode := .region (some ([9, 10, 11], [100011])) false pc18_o12
def pc18_o13 : List POper := [{ dst := some 107, op := POp.mv (Operand.tmp 9), guard := none, hints := [] },
  { dst := some 108, op := POp.slc 11 (Operand.tmp 107) (some (Operand.const (Value.int IntKind.i64 1))) none, guard := none, hints := [] },
  { dst := some 9, op := POp.mv (Operand.tmp 108), guard := none, hints := [] }]
def pc18_c13 : PCode := .region none false pc18_o13
def pc18_c14 : PCode := .seq pc18_c12 pc18_c13
def pc18_o15 : List POper := [{ dst := some 21, op := POp.mv (Operand.tmp 9), guard := none, hints := [(9, Hint.imm)] },
  { dst := some 22, op := POp.iaddrS 11 (Operand.tmp 21) (Operand.const (Value.int IntKind.i64 0)), guard := none, hints := [(21, Hint.imm)] },
  { dst := some 23, op := POp.load true 11 (Operand.tmp 22), guard := none, hints := [(22, Hint.imm)] },
  { dst := some 24, op := POp.mv (Operand.tmp 10), guard := none, hints := [(10, Hint.imm)] },
  { dst := some 25, op := POp.iaddrS 11 (Operand.tmp 24) (Operand.const (Value.int IntKind.i64 0)), guard := none, hints := [(24, Hint.imm)] },
  { dst := some 26, op := POp.load true 11 (Operand.tmp 25), guard := none, hints := [(25, Hint.imm)] },
  { dst := some 27, op := POp.call false [[], []] 49 [Operand.tmp 23, Operand.tmp 26], guard := none, hints := [(23, Hint.imm), (26, Hint.imm)] },
  { dst := some 20, op := POp.mv (Operand.tmp 27), guard := none, hints := [] },
  { dst := some 28, op := POp.ext (Operand.tmp 20) 0, guard := none, hints := [] },
  { dst := some 29, op := POp.ext (Operand.tmp 20) 1, guard := none, hints := [] },
  { dst := some 12, op := POp.alloc 43 (Value.agg { toList := [Value.int IntKind.i64 0, Value.int IntKind.u8 0, Value.int IntKind.i64 0, Value.int IntKind.i64 0, Value.int IntKind.i64 0, Value.string { data := { toList := [] } }, Value.int IntKind.i64 0, Value.string { data := { toList := [] } }, Value.int IntKind.i64 0, Value.string { data := { toList := [] } }, Value.int IntKind.i64 0, Value.string { data := { toList := [] } }] }), guard := none, hints := [] },
  { dst := none, op := POp.store 12 (Operand.tmp 12) (Operand.tmp 28), guard := none, hints := [(12, Hint.at_ 12 0), (28, Hint.imm)] },
  { dst := some 13, op := POp.mv (Operand.tmp 29), guard := none, hints := [(29, Hint.imm)] }]
def pc18_c15 : PCode := .region none true pc18_o15
def pc18_o16 : List POper := [{ dst := some 30, op := POp.mv (Operand.tmp 13), guard := none, hints := [] }]
def pc18_c16 : PCode := .region none false pc18_o16
def pc18_o17 : List POper := [{ dst := some 31, op := POp.mv (Operand.tmp 11), guard := none, hints := [] },
  { dst := some 32, op := POp.faddr 0 (Operand.tmp 12), guard := none, hints := [] },
  { dst := some 33, op := POp.load false 1 (Operand.tmp 32), guard := none, hints := [] },
  { dst := some 34, op := POp.load true 12 (Operand.tmp 12), guard := none, hints := [] },
  { dst := some 35, op := POp.build (Value.agg { toList := [Value.int IntKind.i64 0, Value.int IntKind.i64 0, Value.int IntKind.i64 0, Value.int IntKind.i64 0, Value.int IntKind.i64 0, Value.int IntKind.i64 0, Value.string { data := { toList := [] } }, Value.int IntKind.i64 0, Value.string { data := { toList := [] } }, Value.int IntKind.i64 0, Value.string { data := { toList := [] } }, Value.int IntKind.i64 0, Value.string { data := { toList := [] } }, Value.int IntKind.i64 0, Value.int IntKind.u8 0, Value.int IntKind.i64 0, Value.int IntKind.i64 0, Value.int IntKind.i64 0, Value.string { data := { toList := [] } }, Value.int IntKind.i64 0, Value.string { data := { toList := [] } }, Value.int IntKind.i64 0, Value.string { data := { toList := [] } }, Value.int IntKind.i64 0, Value.string { data := { toList := [] } }] }) [(0, 1, Operand.const (Value.int IntKind.i64 2)), (1, 1, Operand.tmp 33), (13, 12, Operand.tmp 34)], guard := none, hints := [] },
  { dst := some 36, op := POp.bslice 45 25 [Operand.tmp 35], guard := none, hints := [] },
  { dst := some 37, op := POp.app 100011 45 25 264 (Operand.tmp 31) (Operand.tmp 36), guard := none, hints := [] },
  { dst := some 11, op := POp.mv (Operand.tmp 37), guard := none, hints := [] }]
def pc18_c17 : PCode := .region none false pc18_o17
def pc18_c18 : PCode := .skip
def pc18_c19 : PCode := .cond (Operand.tmp 30) pc18_c17 pc18_c18
def pc18_c20 : PCode := .seq pc18_c16 pc18_c19
def pc18_c21 : PCode := .seq pc18_c15 pc18_c20
def pc18_o22 : List POper := [{ dst := some 38, op := POp.mv (Operand.tmp 9), guard := none, hints := [(9, Hint.imm)] },
  { dst := some 39, op := POp.slc 11 (Operand.tmp 38) (some (Operand.const (Value.int IntKind.i64 1))) none, guard := none, hints := [(38, Hint.imm)] },
  { dst := some 40, op := POp.mv (Operand.tmp 10), guard := none, hints := [(10, Hint.imm)] },
  { dst := some 41, op := POp.slc 11 (Operand.tmp 40) (some (Operand.const (Value.int IntKind.i64 1))) none, guard := none, hints := [(40, Hint.imm)] },
  { dst := some 9, op := POp.mv (Operand.tmp 39), guard := none, hints := [(39, Hint.imm)] },
  { dst := some 10, op := POp.mv (Operand.tmp 41), guard := none, hints := [(41, Hint.imm)] }]
def pc18_c22 : PCode := .region (some ([9, 10, 11], [12, 100011])) true pc18_o22
def pc18_c23 : PCode := .seq pc18_c21 pc18_c22
def pc18_c24 : PCode := .cond (Operand.tmp 84) pc18_c14 pc18_c23
def pc18_c25 : PCode := .seq pc18_c11 pc18_c24
def pc18_c26 : PCode := .cond (Operand.tmp 51) pc18_c10 pc18_c25
def pc18_c27 : PCode := .seq pc18_c7 pc18_c26
def pc18_c28 : PCode := .cond (Operand.tmp 42) pc18_c6 pc18_c27
def pc18_c29 : PCode := .seq pc18_c5 pc18_c28
def pc18_c30 : PCode := .block 2 pc18_c29
def pc18_c31 : PCode := .block 1 pc18_c30
def pc18_c32 : PCode := .loop pc18_c31
def pc18_c33 : PCode := .block 0 pc18_c32
def pc18_o34 : List POper := [{ dst := some 109, op := POp.mv (Operand.tmp 11), guard := none, hints := [] },
  { dst := some 8, op := POp.mv (Operand.tmp 109), guard := none, hints := [] }]
def pc18_c34 : PCode := .region none false pc18_o34
def pc18_c35 : PCode := .ret
def pc18_c36 : PCode := .seq pc18_c34 pc18_c35
def pc18_c37 : PCode := .seq pc18_c33 pc18_c36
def pc18_c38 : PCode := .seq pc18_c4 pc18_c37
def pc18_c39 : PCode := .seq pc18_c3 pc18_c38
def pc18_c40 : PCode := .seq pc18_c2 pc18_c39
def pc18_c41 : PCode := .scope pc18_c40
def pc18_c42 : PCode := .seq pc18_c1 pc18_c41
def pc18_r : List PRes := [PRes.tmp 8 [(0, 25)]]
def pc18 : PFunc := ⟨110, pc18_r, pc18_c42⟩
def pc18_a : Ann := {
  kr := fun
    | 6 => some ([9, 10, 11], [12, 100011])
    | 7 => some ([9, 10, 11], [5, 7, 100011])
    | 8 => some ([9, 10, 11], [100011])
    | 9 => some ([9, 10, 11], [100011])
    | 11 => some ([9, 10, 11], [100011])
    | 12 => some ([9, 10, 11], [100011])
    | _ => none
  ka := fun
    | 37 => 100011
    | 81 => 100011
    | 106 => 100011
    | _ => 0
  kh := fun
    | 0 => some (Hint.imm)
    | 2 => some (Hint.imm)
    | 5 => some (Hint.at_ 5 0)
    | 7 => some (Hint.at_ 7 0)
    | 9 => some (Hint.imm)
    | 10 => some (Hint.imm)
    | 11 => some (Hint.obj 100011)
    | 12 => some (Hint.at_ 12 0)
    | 14 => some (Hint.imm)
    | 15 => some (Hint.imm)
    | 16 => some (Hint.imm)
    | 17 => some (Hint.imm)
    | 18 => some (Hint.imm)
    | 19 => some (Hint.imm)
    | 21 => some (Hint.imm)
    | 22 => some (Hint.imm)
    | 23 => some (Hint.imm)
    | 24 => some (Hint.imm)
    | 25 => some (Hint.imm)
    | 26 => some (Hint.imm)
    | 28 => some (Hint.imm)
    | 29 => some (Hint.imm)
    | 38 => some (Hint.imm)
    | 39 => some (Hint.imm)
    | 40 => some (Hint.imm)
    | 41 => some (Hint.imm)
    | 52 => some (Hint.imm)
    | 53 => some (Hint.imm)
    | 54 => some (Hint.imm)
    | 55 => some (Hint.imm)
    | 56 => some (Hint.imm)
    | 57 => some (Hint.imm)
    | 58 => some (Hint.imm)
    | 59 => some (Hint.imm)
    | 60 => some (Hint.imm)
    | 61 => some (Hint.imm)
    | 62 => some (Hint.imm)
    | 63 => some (Hint.imm)
    | 64 => some (Hint.imm)
    | 65 => some (Hint.imm)
    | 66 => some (Hint.imm)
    | 67 => some (Hint.imm)
    | 68 => some (Hint.imm)
    | 69 => some (Hint.imm)
    | 70 => some (Hint.imm)
    | 71 => some (Hint.obj 100011)
    | 72 => some (Hint.imm)
    | 73 => some (Hint.imm)
    | 74 => some (Hint.imm)
    | 75 => some (Hint.imm)
    | 76 => some (Hint.imm)
    | 77 => some (Hint.imm)
    | 78 => some (Hint.imm)
    | 79 => some (Hint.imm)
    | 80 => some (Hint.imm)
    | 81 => some (Hint.obj 100011)
    | 85 => some (Hint.imm)
    | 86 => some (Hint.imm)
    | 87 => some (Hint.imm)
    | 88 => some (Hint.imm)
    | 89 => some (Hint.imm)
    | 90 => some (Hint.imm)
    | 91 => some (Hint.imm)
    | 92 => some (Hint.imm)
    | 93 => some (Hint.imm)
    | 94 => some (Hint.imm)
    | 95 => some (Hint.imm)
    | 96 => some (Hint.imm)
    | 97 => some (Hint.imm)
    | 98 => some (Hint.imm)
    | _ => none }
theorem pc18_ok : compFn Try.prog pc18_a Try.f18 = some pc18 := by kernel_rfl


-- 14: vedette/vedettelaw16.known
def pc14_o1 : List POper := [{ dst := some 0, op := POp.mv (Operand.const (Value.bool false)), guard := none, hints := [] }]
def pc14_c1 : PCode := .region none false pc14_o1
def pc14_o2 : List POper := [{ dst := some 5, op := POp.build (Value.agg { toList := [Value.int IntKind.i64 0, Value.int IntKind.i64 0] }) [(0, 1, Operand.const (Value.int IntKind.i64 1))], guard := none, hints := [] },
  { dst := some 6, op := POp.build (Value.agg { toList := [Value.int IntKind.i64 0, Value.int IntKind.i64 0, Value.int IntKind.i64 0, Value.int IntKind.i64 0, Value.string { data := { toList := [] } }, Value.int IntKind.i64 0, Value.string { data := { toList := [] } }, Value.int IntKind.i64 0, Value.string { data := { toList := [] } }, Value.int IntKind.i64 0, Value.string { data := { toList := [] } }] }) [(0, 1, Operand.const (Value.int IntKind.i64 1)), (1, 2, Operand.tmp 5)], guard := none, hints := [] },
  { dst := some 7, op := POp.build (Value.agg { toList := [Value.int IntKind.i64 0, Value.int IntKind.i64 0] }) [(0, 1, Operand.const (Value.int IntKind.i64 9))], guard := none, hints := [] },
  { dst := some 8, op := POp.build (Value.agg { toList := [Value.int IntKind.i64 0, Value.int IntKind.i64 0, Value.int IntKind.i64 0, Value.int IntKind.i64 0, Value.string { data := { toList := [] } }, Value.int IntKind.i64 0, Value.string { data := { toList := [] } }, Value.int IntKind.i64 0, Value.string { data := { toList := [] } }, Value.int IntKind.i64 0, Value.string { data := { toList := [] } }] }) [(0, 1, Operand.const (Value.int IntKind.i64 2)), (1, 2, Operand.tmp 7)], guard := none, hints := [] },
  { dst := some 9, op := POp.bslice 39 11 [Operand.tmp 6, Operand.tmp 8], guard := none, hints := [] },
  { dst := some 1, op := POp.mv (Operand.tmp 9), guard := none, hints := [] }]
def pc14_c2 : PCode := .region none false pc14_o2
def pc14_o3 : List POper := [{ dst := some 10, op := POp.build (Value.agg { toList := [Value.int IntKind.i64 0, Value.int IntKind.i64 0] }) [(0, 1, Operand.const (Value.int IntKind.i64 2))], guard := none, hints := [] },
  { dst := some 11, op := POp.build (Value.agg { toList := [Value.int IntKind.i64 0, Value.int IntKind.i64 0, Value.int IntKind.i64 0, Value.int IntKind.i64 0, Value.string { data := { toList := [] } }, Value.int IntKind.i64 0, Value.string { data := { toList := [] } }, Value.int IntKind.i64 0, Value.string { data := { toList := [] } }, Value.int IntKind.i64 0, Value.string { data := { toList := [] } }] }) [(0, 1, Operand.const (Value.int IntKind.i64 2)), (1, 2, Operand.tmp 10)], guard := none, hints := [] },
  { dst := some 12, op := POp.bslice 39 11 [Operand.tmp 11], guard := none, hints := [] },
  { dst := some 2, op := POp.mv (Operand.tmp 12), guard := none, hints := [] }]
def pc14_c3 : PCode := .region none false pc14_o3
def pc14_o4 : List POper := [{ dst := some 13, op := POp.build (Value.agg { toList := [Value.int IntKind.i64 0, Value.int IntKind.i64 0, Value.int IntKind.i64 0, Value.int IntKind.i64 0] }) [(2, 1, Operand.const (Value.int IntKind.i64 5)), (3, 1, Operand.const (Value.int IntKind.i64 5))], guard := none, hints := [] },
  { dst := some 3, op := POp.alloc 24 (Value.agg { toList := [Value.int IntKind.i64 0, Value.int IntKind.i64 0, Value.int IntKind.i64 0, Value.int IntKind.i64 0] }), guard := none, hints := [] },
  { dst := none, op := POp.store 4 (Operand.tmp 3) (Operand.tmp 13), guard := none, hints := [] }]
def pc14_c4 : PCode := .region none false pc14_o4
def pc14_o5 : List POper := [{ dst := some 14, op := POp.mv (Operand.tmp 1), guard := none, hints := [] },
  { dst := some 15, op := POp.load true 4 (Operand.tmp 3), guard := none, hints := [] },
  { dst := some 16, op := POp.mv (Operand.tmp 2), guard := none, hints := [] },
  { dst := some 17, op := POp.load true 4 (Operand.tmp 3), guard := none, hints := [] },
  { dst := some 18, op := POp.call true [[(0, 11)], [], [(0, 11)], []] 18 [Operand.tmp 14, Operand.tmp 15, Operand.tmp 16, Operand.tmp 17], guard := none, hints := [] },
  { dst := some 4, op := POp.mv (Operand.tmp 18), guard := none, hints := [] }]
def pc14_c5 : PCode := .region none false pc14_o5
def pc14_o6 : List POper := [{ dst := some 19, op := POp.mv (Operand.tmp 4), guard := none, hints := [(4, Hint.imm)] },
  { dst := some 20, op := POp.lenS (Operand.tmp 19), guard := none, hints := [(19, Hint.imm)] },
  { dst := some 21, op := POp.prim (Prim.bin BinOp.eql 3 false true) [Operand.tmp 20, Operand.const (Value.int IntKind.i64 2)], guard := none, hints := [(20, Hint.imm)] },
  { dst := some 22, op := POp.mv (Operand.tmp 21), guard := none, hints := [(21, Hint.imm)] },
  { dst := some 23, op := POp.mv (Operand.tmp 4), guard := some (22, true), hints := [(4, Hint.imm)] },
  { dst := some 24, op := POp.iaddrS 25 (Operand.tmp 23) (Operand.const (Value.int IntKind.i64 0)), guard := some (22, true), hints := [(23, Hint.imm)] },
  { dst := some 25, op := POp.faddr 0 (Operand.tmp 24), guard := some (22, true), hints := [(24, Hint.imm)] },
  { dst := some 26, op := POp.load false 1 (Operand.tmp 25), guard := some (22, true), hints := [(25, Hint.imm)] },
  { dst := some 27, op := POp.prim (Prim.bin BinOp.eql 3 false true) [Operand.tmp 26, Operand.const (Value.int IntKind.i64 3)], guard := some (22, true), hints := [(26, Hint.imm)] },
  { dst := some 28, op := POp.pick (Operand.tmp 22) (Operand.tmp 27) (Operand.const (Value.bool false)), guard := none, hints := [(22, Hint.imm), (27, Hint.imm)] },
  { dst := some 29, op := POp.mv (Operand.tmp 28), guard := none, hints := [(28, Hint.imm)] },
  { dst := some 30, op := POp.mv (Operand.tmp 4), guard := some (29, true), hints := [(4, Hint.imm)] },
  { dst := some 31, op := POp.iaddrS 25 (Operand.tmp 30) (Operand.const (Value.int IntKind.i64 0)), guard := some (29, true), hints := [(30, Hint.imm)] },
  { dst := some 32, op := POp.faddr 1 (Operand.tmp 31), guard := some (29, true), hints := [(31, Hint.imm)] },
  { dst := some 33, op := POp.load false 1 (Operand.tmp 32), guard := some (29, true), hints := [(32, Hint.imm)] },
  { dst := some 34, op := POp.prim (Prim.bin BinOp.eql 3 false true) [Operand.tmp 33, Operand.const (Value.int IntKind.i64 1)], guard := some (29, true), hints := [(33, Hint.imm)] },
  { dst := some 35, op := POp.pick (Operand.tmp 29) (Operand.tmp 34) (Operand.const (Value.bool false)), guard := none, hints := [(29, Hint.imm), (34, Hint.imm)] },
  { dst := some 36, op := POp.mv (Operand.tmp 35), guard := none, hints := [(35, Hint.imm)] },
  { dst := some 37, op := POp.mv (Operand.tmp 4), guard := some (36, true), hints := [(4, Hint.imm)] },
  { dst := some 38, op := POp.iaddrS 25 (Operand.tmp 37) (Operand.const (Value.int IntKind.i64 1)), guard := some (36, true), hints := [(37, Hint.imm)] },
  { dst := some 39, op := POp.faddr 0 (Operand.tmp 38), guard := some (36, true), hints := [(38, Hint.imm)] },
  { dst := some 40, op := POp.load false 1 (Operand.tmp 39), guard := some (36, true), hints := [(39, Hint.imm)] },
  { dst := some 41, op := POp.prim (Prim.bin BinOp.eql 3 false true) [Operand.tmp 40, Operand.const (Value.int IntKind.i64 1)], guard := some (36, true), hints := [(40, Hint.imm)] },
  { dst := some 42, op := POp.pick (Operand.tmp 36) (Operand.tmp 41) (Operand.const (Value.bool false)), guard := none, hints := [(36, Hint.imm), (41, Hint.imm)] },
  { dst := some 43, op := POp.mv (Operand.tmp 42), guard := none, hints := [(42, Hint.imm)] },
  { dst := some 44, op := POp.mv (Operand.tmp 4), guard := some (43, true), hints := [(4, Hint.imm)] },
  { dst := some 45, op := POp.iaddrS 25 (Operand.tmp 44) (Operand.const (Value.int IntKind.i64 1)), guard := some (43, true), hints := [(44, Hint.imm)] },
  { dst := some 46, op := POp.faddr 2 (Operand.tmp 45), guard := some (43, true), hints := [(45, Hint.imm)] },
  { dst := some 47, op := POp.load true 11 (Operand.tmp 46), guard := some (43, true), hints := [(46, Hint.imm)] },
  { dst := some 48, op := POp.mv (Operand.tmp 2), guard := some (43, true), hints := [(2, Hint.imm)] },
  { dst := some 49, op := POp.iaddrS 11 (Operand.tmp 48) (Operand.const (Value.int IntKind.i64 0)), guard := some (43, true), hints := [(48, Hint.imm)] },
  { dst := some 50, op := POp.load true 11 (Operand.tmp 49), guard := some (43, true), hints := [(49, Hint.imm)] },
  { dst := some 51, op := POp.prim (Prim.bin BinOp.eql 39 false false) [Operand.tmp 47, Operand.tmp 50], guard := some (43, true), hints := [(47, Hint.imm), (50, Hint.imm)] },
  { dst := some 52, op := POp.pick (Operand.tmp 43) (Operand.tmp 51) (Operand.const (Value.bool false)), guard := none, hints := [(43, Hint.imm), (51, Hint.imm)] },
  { dst := some 53, op := POp.mv (Operand.tmp 52), guard := none, hints := [(52, Hint.imm)] },
  { dst := some 54, op := POp.mv (Operand.tmp 1), guard := some (53, true), hints := [(1, Hint.imm)] },
  { dst := some 55, op := POp.load true 4 (Operand.tmp 3), guard := some (53, true), hints := [(3, Hint.at_ 3 0)] },
  { dst := some 56, op := POp.call false [[(0, 11)], []] 21 [Operand.tmp 54, Operand.tmp 55], guard := some (53, true), hints := [(54, Hint.imm), (55, Hint.imm)] },
  { dst := some 57, op := POp.lenS (Operand.tmp 56), guard := some (53, true), hints := [(56, Hint.imm)] },
  { dst := some 58, op := POp.prim (Prim.bin BinOp.eql 3 false true) [Operand.tmp 57, Operand.const (Value.int IntKind.i64 1)], guard := some (53, true), hints := [(57, Hint.imm)] },
  { dst := some 59, op := POp.pick (Operand.tmp 53) (Operand.tmp 58) (Operand.const (Value.bool false)), guard := none, hints := [(53, Hint.imm), (58, Hint.imm)] },
  { dst := some 60, op := POp.mv (Operand.tmp 59), guard := none, hints := [(59, Hint.imm)] },
  { dst := some 61, op := POp.mv (Operand.tmp 1), guard := some (60, true), hints := [(1, Hint.imm)] },
  { dst := some 62, op := POp.load true 4 (Operand.tmp 3), guard := some (60, true), hints := [(3, Hint.at_ 3 0)] },
  { dst := some 63, op := POp.mv (Operand.tmp 1), guard := some (60, true), hints := [(1, Hint.imm)] },
  { dst := some 64, op := POp.load true 4 (Operand.tmp 3), guard := some (60, true), hints := [(3, Hint.at_ 3 0)] },
  { dst := some 65, op := POp.call false [[(0, 11)], [], [(0, 11)], []] 18 [Operand.tmp 61, Operand.tmp 62, Operand.tmp 63, Operand.tmp 64], guard := some (60, true), hints := [(61, Hint.imm), (62, Hint.imm), (63, Hint.imm), (64, Hint.imm)] },
  { dst := some 66, op := POp.lenS (Operand.tmp 65), guard := some (60, true), hints := [(65, Hint.imm)] },
  { dst := some 67, op := POp.prim (Prim.bin BinOp.eql 3 false true) [Operand.tmp 66, Operand.const (Value.int IntKind.i64 0)], guard := some (60, true), hints := [(66, Hint.imm)] },
  { dst := some 68, op := POp.pick (Operand.tmp 60) (Operand.tmp 67) (Operand.const (Value.bool false)), guard := none, hints := [(60, Hint.imm), (67, Hint.imm)] },
  { dst := some 0, op := POp.mv (Operand.tmp 68), guard := none, hints := [(68, Hint.imm)] }]
def pc14_c6 : PCode := .region none true pc14_o6
def pc14_c7 : PCode := .ret
def pc14_c8 : PCode := .seq pc14_c6 pc14_c7
def pc14_c9 : PCode := .seq pc14_c5 pc14_c8
def pc14_c10 : PCode := .seq pc14_c4 pc14_c9
def pc14_c11 : PCode := .seq pc14_c3 pc14_c10
def pc14_c12 : PCode := .seq pc14_c2 pc14_c11
def pc14_c13 : PCode := .seq pc14_c1 pc14_c12
def pc14_r : List PRes := [PRes.tmp 0 []]
def pc14 : PFunc := ⟨69, pc14_r, pc14_c13⟩
def pc14_a : Ann := {
  kr := fun
    | _ => none
  ka := fun
    | _ => 0
  kh := fun
    | 1 => some (Hint.imm)
    | 2 => some (Hint.imm)
    | 3 => some (Hint.at_ 3 0)
    | 4 => some (Hint.imm)
    | 19 => some (Hint.imm)
    | 20 => some (Hint.imm)
    | 21 => some (Hint.imm)
    | 22 => some (Hint.imm)
    | 23 => some (Hint.imm)
    | 24 => some (Hint.imm)
    | 25 => some (Hint.imm)
    | 26 => some (Hint.imm)
    | 27 => some (Hint.imm)
    | 28 => some (Hint.imm)
    | 29 => some (Hint.imm)
    | 30 => some (Hint.imm)
    | 31 => some (Hint.imm)
    | 32 => some (Hint.imm)
    | 33 => some (Hint.imm)
    | 34 => some (Hint.imm)
    | 35 => some (Hint.imm)
    | 36 => some (Hint.imm)
    | 37 => some (Hint.imm)
    | 38 => some (Hint.imm)
    | 39 => some (Hint.imm)
    | 40 => some (Hint.imm)
    | 41 => some (Hint.imm)
    | 42 => some (Hint.imm)
    | 43 => some (Hint.imm)
    | 44 => some (Hint.imm)
    | 45 => some (Hint.imm)
    | 46 => some (Hint.imm)
    | 47 => some (Hint.imm)
    | 48 => some (Hint.imm)
    | 49 => some (Hint.imm)
    | 50 => some (Hint.imm)
    | 51 => some (Hint.imm)
    | 52 => some (Hint.imm)
    | 53 => some (Hint.imm)
    | 54 => some (Hint.imm)
    | 55 => some (Hint.imm)
    | 56 => some (Hint.imm)
    | 57 => some (Hint.imm)
    | 58 => some (Hint.imm)
    | 59 => some (Hint.imm)
    | 60 => some (Hint.imm)
    | 61 => some (Hint.imm)
    | 62 => some (Hint.imm)
    | 63 => some (Hint.imm)
    | 64 => some (Hint.imm)
    | 65 => some (Hint.imm)
    | 66 => some (Hint.imm)
    | 67 => some (Hint.imm)
    | 68 => some (Hint.imm)
    | _ => none }
theorem pc14_ok : compFn Try.prog pc14_a Try.f14 = some pc14 := by kernel_rfl


-- 69: vedette/vedettelaw16.fewField
def pc69_o1 : List POper := [{ dst := some 1, op := POp.box 36 (Operand.tmp 0), guard := none, hints := [] },
  { dst := some 2, op := POp.mv (Operand.const (Value.bool false)), guard := none, hints := [] }]
def pc69_c1 : PCode := .region none false pc69_o1
def pc69_o2 : List POper := [{ dst := some 3, op := POp.faddr 1 (Operand.tmp 1), guard := none, hints := [] },
  { dst := some 4, op := POp.load false 1 (Operand.tmp 3), guard := none, hints := [] },
  { dst := some 5, op := POp.prim (Prim.len 9) [Operand.tmp 4], guard := none, hints := [] },
  { dst := some 6, op := POp.prim (Prim.bin BinOp.leq 3 false true) [Operand.tmp 5, Operand.const (Value.int IntKind.i64 40)], guard := none, hints := [] },
  { dst := some 2, op := POp.mv (Operand.tmp 6), guard := none, hints := [] }]
def pc69_c2 : PCode := .region none false pc69_o2
def pc69_c3 : PCode := .ret
def pc69_c4 : PCode := .seq pc69_c2 pc69_c3
def pc69_c5 : PCode := .seq pc69_c1 pc69_c4
def pc69_r : List PRes := [PRes.tmp 2 []]
def pc69 : PFunc := ⟨7, pc69_r, pc69_c5⟩
def pc69_a : Ann := {
  kr := fun
    | _ => none
  ka := fun
    | _ => 0
  kh := fun
    | _ => none }
theorem pc69_ok : compFn Try.prog pc69_a Try.f69 = some pc69 := by kernel_rfl


-- 47: vedette/vedettelaw16.fewThing
def pc47_o1 : List POper := [{ dst := some 1, op := POp.box 39 (Operand.tmp 0), guard := none, hints := [] },
  { dst := some 2, op := POp.mv (Operand.const (Value.bool false)), guard := none, hints := [] }]
def pc47_c1 : PCode := .region none false pc47_o1
def pc47_o2 : List POper := [{ dst := some 3, op := POp.mv (Operand.const (Value.int IntKind.i64 0)), guard := none, hints := [] }]
def pc47_c2 : PCode := .region none false pc47_o2
def pc47_o3 : List POper := [{ dst := some 4, op := POp.mv (Operand.tmp 3), guard := none, hints := [] },
  { dst := some 5, op := POp.prim (Prim.bin BinOp.lss 3 false true) [Operand.tmp 4, Operand.const (Value.int IntKind.i64 4)], guard := none, hints := [] }]
def pc47_c3 : PCode := .region (some ([1, 3], [1])) false pc47_o3
def pc47_c4 : PCode := .skip
def pc47_c5 : PCode := .exit 0
def pc47_c6 : PCode := .cond (Operand.tmp 5) pc47_c4 pc47_c5
def pc47_c7 : PCode := .seq pc47_c3 pc47_c6
def pc47_o8 : List POper := [{ dst := some 8, op := POp.mv (Operand.tmp 3), guard := none, hints := [] },
  { dst := some 9, op := POp.faddr 3 (Operand.tmp 1), guard := none, hints := [] },
  { dst := some 10, op := POp.iaddrA 4 2 (Operand.tmp 9) (Operand.tmp 8), guard := none, hints := [] },
  { dst := some 11, op := POp.load true 2 (Operand.tmp 10), guard := none, hints := [] },
  { dst := some 12, op := POp.call true [[]] 69 [Operand.tmp 11], guard := none, hints := [] },
  { dst := some 13, op := POp.prim (Prim.un UnOp.not) [Operand.tmp 12], guard := none, hints := [] }]
def pc47_c8 : PCode := .region none false pc47_o8
def pc47_o9 : List POper := [{ dst := some 2, op := POp.mv (Operand.const (Value.bool false)), guard := none, hints := [] }]
def pc47_c9 : PCode := .region none false pc47_o9
def pc47_c10 : PCode := .ret
def pc47_c11 : PCode := .seq pc47_c9 pc47_c10
def pc47_c12 : PCode := .skip
def pc47_c13 : PCode := .cond (Operand.tmp 13) pc47_c11 pc47_c12
def pc47_c14 : PCode := .seq pc47_c8 pc47_c13
def pc47_c15 : PCode := .block 1 pc47_c14
def pc47_o16 : List POper := [{ dst := some 6, op := POp.mv (Operand.tmp 3), guard := none, hints := [] },
  { dst := some 7, op := POp.prim (Prim.bin BinOp.add 3 false true) [Operand.tmp 6, Operand.const (Value.int IntKind.i64 1)], guard := none, hints := [] },
  { dst := some 3, op := POp.mv (Operand.tmp 7), guard := none, hints := [] }]
def pc47_c16 : PCode := .region none false pc47_o16
def pc47_c17 : PCode := .seq pc47_c15 pc47_c16
def pc47_c18 : PCode := .seq pc47_c7 pc47_c17
def pc47_c19 : PCode := .loop pc47_c18
def pc47_c20 : PCode := .block 0 pc47_c19
def pc47_c21 : PCode := .seq pc47_c2 pc47_c20
def pc47_o22 : List POper := [{ dst := some 2, op := POp.mv (Operand.const (Value.bool true)), guard := none, hints := [] }]
def pc47_c22 : PCode := .region none false pc47_o22
def pc47_c23 : PCode := .ret
def pc47_c24 : PCode := .seq pc47_c22 pc47_c23
def pc47_c25 : PCode := .seq pc47_c21 pc47_c24
def pc47_c26 : PCode := .seq pc47_c1 pc47_c25
def pc47_r : List PRes := [PRes.tmp 2 []]
def pc47 : PFunc := ⟨14, pc47_r, pc47_c26⟩
def pc47_a : Ann := {
  kr := fun
    | 2 => some ([1, 3], [1])
    | _ => none
  ka := fun
    | _ => 0
  kh := fun
    | _ => none }
theorem pc47_ok : compFn Try.prog pc47_a Try.f47 = some pc47 := by kernel_rfl


-- 15: vedette/vedettelaw16.fewThings
def pc15_o1 : List POper := [{ dst := some 2, op := POp.mv (Operand.const (Value.bool false)), guard := none, hints := [] }]
def pc15_c1 : PCode := .region none false pc15_o1
def pc15_o2 : List POper := [{ dst := some 3, op := POp.mv (Operand.const (Value.int IntKind.i64 0)), guard := none, hints := [] }]
def pc15_c2 : PCode := .region none false pc15_o2
def pc15_o3 : List POper := [{ dst := some 4, op := POp.mv (Operand.tmp 3), guard := none, hints := [] },
  { dst := some 5, op := POp.mv (Operand.tmp 0), guard := none, hints := [] },
  { dst := some 6, op := POp.lenS (Operand.tmp 5), guard := none, hints := [] },
  { dst := some 7, op := POp.prim (Prim.bin BinOp.lss 3 false false) [Operand.tmp 4, Operand.tmp 6], guard := none, hints := [] }]
def pc15_c3 : PCode := .region (some ([0, 3], [])) false pc15_o3
def pc15_c4 : PCode := .skip
def pc15_c5 : PCode := .exit 0
def pc15_c6 : PCode := .cond (Operand.tmp 7) pc15_c4 pc15_c5
def pc15_c7 : PCode := .seq pc15_c3 pc15_c6
def pc15_o8 : List POper := [{ dst := some 10, op := POp.mv (Operand.tmp 0), guard := none, hints := [] },
  { dst := some 11, op := POp.mv (Operand.tmp 3), guard := none, hints := [] },
  { dst := some 12, op := POp.iaddrS 11 (Operand.tmp 10) (Operand.tmp 11), guard := none, hints := [] },
  { dst := some 13, op := POp.load true 11 (Operand.tmp 12), guard := none, hints := [] },
  { dst := some 14, op := POp.call true [[]] 47 [Operand.tmp 13], guard := none, hints := [] },
  { dst := some 15, op := POp.prim (Prim.un UnOp.not) [Operand.tmp 14], guard := none, hints := [] }]
def pc15_c8 : PCode := .region none false pc15_o8
def pc15_o9 : List POper := [{ dst := some 2, op := POp.mv (Operand.const (Value.bool false)), guard := none, hints := [] }]
def pc15_c9 : PCode := .region none false pc15_o9
def pc15_c10 : PCode := .ret
def pc15_c11 : PCode := .seq pc15_c9 pc15_c10
def pc15_c12 : PCode := .skip
def pc15_c13 : PCode := .cond (Operand.tmp 15) pc15_c11 pc15_c12
def pc15_c14 : PCode := .seq pc15_c8 pc15_c13
def pc15_c15 : PCode := .block 1 pc15_c14
def pc15_o16 : List POper := [{ dst := some 8, op := POp.mv (Operand.tmp 3), guard := none, hints := [] },
  { dst := some 9, op := POp.prim (Prim.bin BinOp.add 3 false true) [Operand.tmp 8, Operand.const (Value.int IntKind.i64 1)], guard := none, hints := [] },
  { dst := some 3, op := POp.mv (Operand.tmp 9), guard := none, hints := [] }]
def pc15_c16 : PCode := .region none false pc15_o16
def pc15_c17 : PCode := .seq pc15_c15 pc15_c16
def pc15_c18 : PCode := .seq pc15_c7 pc15_c17
def pc15_c19 : PCode := .loop pc15_c18
def pc15_c20 : PCode := .block 0 pc15_c19
def pc15_c21 : PCode := .seq pc15_c2 pc15_c20
def pc15_o22 : List POper := [{ dst := some 16, op := POp.mv (Operand.tmp 0), guard := none, hints := [] },
  { dst := some 17, op := POp.lenS (Operand.tmp 16), guard := none, hints := [] },
  { dst := some 18, op := POp.prim (Prim.bin BinOp.leq 3 false true) [Operand.tmp 17, Operand.const (Value.int IntKind.i64 30)], guard := none, hints := [] },
  { dst := some 2, op := POp.mv (Operand.tmp 18), guard := none, hints := [] }]
def pc15_c22 : PCode := .region none false pc15_o22
def pc15_c23 : PCode := .ret
def pc15_c24 : PCode := .seq pc15_c22 pc15_c23
def pc15_c25 : PCode := .seq pc15_c21 pc15_c24
def pc15_c26 : PCode := .seq pc15_c1 pc15_c25
def pc15_r : List PRes := [PRes.tmp 2 []]
def pc15 : PFunc := ⟨19, pc15_r, pc15_c26⟩
def pc15_a : Ann := {
  kr := fun
    | 2 => some ([0, 3], [])
    | _ => none
  ka := fun
    | _ => 0
  kh := fun
    | _ => none }
theorem pc15_ok : compFn Try.prog pc15_a Try.f15 = some pc15 := by kernel_rfl


-- 54: vedette/vedetteref3.On
def pc54_o1 : List POper := [{ dst := some 1, op := POp.box 34 (Operand.tmp 0), guard := none, hints := [] },
  { dst := some 2, op := POp.mv (Operand.const (Value.bool false)), guard := none, hints := [] }]
def pc54_c1 : PCode := .region none false pc54_o1
def pc54_o2 : List POper := [{ dst := some 3, op := POp.faddr 0 (Operand.tmp 1), guard := none, hints := [] },
  { dst := some 4, op := POp.load false 1 (Operand.tmp 3), guard := none, hints := [] },
  { dst := some 5, op := POp.prim (Prim.bin BinOp.geq 3 false true) [Operand.tmp 4, Operand.const (Value.int IntKind.i64 0)], guard := none, hints := [] },
  { dst := some 6, op := POp.mv (Operand.tmp 5), guard := none, hints := [] },
  { dst := some 7, op := POp.faddr 0 (Operand.tmp 1), guard := some (6, true), hints := [] },
  { dst := some 8, op := POp.load false 1 (Operand.tmp 7), guard := some (6, true), hints := [] },
  { dst := some 9, op := POp.prim (Prim.bin BinOp.lss 3 false true) [Operand.tmp 8, Operand.const (Value.int IntKind.i64 64)], guard := some (6, true), hints := [] },
  { dst := some 10, op := POp.pick (Operand.tmp 6) (Operand.tmp 9) (Operand.const (Value.bool false)), guard := none, hints := [] },
  { dst := some 11, op := POp.mv (Operand.tmp 10), guard := none, hints := [] },
  { dst := some 12, op := POp.faddr 1 (Operand.tmp 1), guard := some (11, true), hints := [] },
  { dst := some 13, op := POp.load false 1 (Operand.tmp 12), guard := some (11, true), hints := [] },
  { dst := some 14, op := POp.prim (Prim.bin BinOp.geq 3 false true) [Operand.tmp 13, Operand.const (Value.int IntKind.i64 0)], guard := some (11, true), hints := [] },
  { dst := some 15, op := POp.pick (Operand.tmp 11) (Operand.tmp 14) (Operand.const (Value.bool false)), guard := none, hints := [] },
  { dst := some 16, op := POp.mv (Operand.tmp 15), guard := none, hints := [] },
  { dst := some 17, op := POp.faddr 1 (Operand.tmp 1), guard := some (16, true), hints := [] },
  { dst := some 18, op := POp.load false 1 (Operand.tmp 17), guard := some (16, true), hints := [] },
  { dst := some 19, op := POp.prim (Prim.bin BinOp.lss 3 false true) [Operand.tmp 18, Operand.const (Value.int IntKind.i64 64)], guard := some (16, true), hints := [] },
  { dst := some 20, op := POp.pick (Operand.tmp 16) (Operand.tmp 19) (Operand.const (Value.bool false)), guard := none, hints := [] },
  { dst := some 2, op := POp.mv (Operand.tmp 20), guard := none, hints := [] }]
def pc54_c2 : PCode := .region none false pc54_o2
def pc54_c3 : PCode := .ret
def pc54_c4 : PCode := .seq pc54_c2 pc54_c3
def pc54_c5 : PCode := .seq pc54_c1 pc54_c4
def pc54_r : List PRes := [PRes.tmp 2 []]
def pc54 : PFunc := ⟨21, pc54_r, pc54_c5⟩
def pc54_a : Ann := {
  kr := fun
    | _ => none
  ka := fun
    | _ => 0
  kh := fun
    | _ => none }
theorem pc54_ok : compFn Try.prog pc54_a Try.f54 = some pc54 := by kernel_rfl


-- 70: vedette/vedetteref6.IsField
def pc70_o1 : List POper := [{ dst := some 1, op := POp.box 36 (Operand.tmp 0), guard := none, hints := [] },
  { dst := some 2, op := POp.mv (Operand.const (Value.bool false)), guard := none, hints := [] }]
def pc70_c1 : PCode := .region none false pc70_o1
def pc70_o2 : List POper := [{ dst := some 3, op := POp.faddr 0 (Operand.tmp 1), guard := none, hints := [] },
  { dst := some 4, op := POp.load false 1 (Operand.tmp 3), guard := none, hints := [] },
  { dst := some 5, op := POp.prim (Prim.bin BinOp.eql 2 false true) [Operand.tmp 4, Operand.const (Value.int IntKind.i64 0)], guard := none, hints := [] },
  { dst := some 6, op := POp.mv (Operand.tmp 5), guard := none, hints := [] },
  { dst := some 7, op := POp.faddr 1 (Operand.tmp 1), guard := some (6, false), hints := [] },
  { dst := some 8, op := POp.load false 1 (Operand.tmp 7), guard := some (6, false), hints := [] },
  { dst := some 9, op := POp.prim (Prim.bin BinOp.eql 9 false true) [Operand.tmp 8, Operand.const (Value.string { data := { toList := [] } })], guard := some (6, false), hints := [] },
  { dst := some 10, op := POp.pick (Operand.tmp 6) (Operand.const (Value.bool true)) (Operand.tmp 9), guard := none, hints := [] },
  { dst := some 11, op := POp.mv (Operand.tmp 10), guard := none, hints := [] },
  { dst := some 12, op := POp.faddr 1 (Operand.tmp 1), guard := some (11, true), hints := [] },
  { dst := some 13, op := POp.load false 1 (Operand.tmp 12), guard := some (11, true), hints := [] },
  { dst := some 14, op := POp.prim (Prim.len 9) [Operand.tmp 13], guard := some (11, true), hints := [] },
  { dst := some 15, op := POp.prim (Prim.bin BinOp.leq 3 false true) [Operand.tmp 14, Operand.const (Value.int IntKind.i64 12)], guard := some (11, true), hints := [] },
  { dst := some 16, op := POp.pick (Operand.tmp 11) (Operand.tmp 15) (Operand.const (Value.bool false)), guard := none, hints := [] },
  { dst := some 2, op := POp.mv (Operand.tmp 16), guard := none, hints := [] }]
def pc70_c2 : PCode := .region none false pc70_o2
def pc70_c3 : PCode := .ret
def pc70_c4 : PCode := .seq pc70_c2 pc70_c3
def pc70_c5 : PCode := .seq pc70_c1 pc70_c4
def pc70_r : List PRes := [PRes.tmp 2 []]
def pc70 : PFunc := ⟨17, pc70_r, pc70_c5⟩
def pc70_a : Ann := {
  kr := fun
    | _ => none
  ka := fun
    | _ => 0
  kh := fun
    | _ => none }
theorem pc70_ok : compFn Try.prog pc70_a Try.f70 = some pc70 := by kernel_rfl


-- 48: vedette/vedetteref6.Is
def pc48_o1 : List POper := [{ dst := some 1, op := POp.box 39 (Operand.tmp 0), guard := none, hints := [] },
  { dst := some 2, op := POp.mv (Operand.const (Value.bool false)), guard := none, hints := [] }]
def pc48_c1 : PCode := .region none false pc48_o1
def pc48_o2 : List POper := [{ dst := some 5, op := POp.faddr 0 (Operand.tmp 1), guard := none, hints := [] },
  { dst := some 6, op := POp.load false 1 (Operand.tmp 5), guard := none, hints := [] },
  { dst := some 7, op := POp.prim (Prim.bin BinOp.geq 3 false true) [Operand.tmp 6, Operand.const (Value.int IntKind.i64 0)], guard := none, hints := [] },
  { dst := some 8, op := POp.mv (Operand.tmp 7), guard := none, hints := [] },
  { dst := some 9, op := POp.faddr 0 (Operand.tmp 1), guard := some (8, true), hints := [] },
  { dst := some 10, op := POp.load false 1 (Operand.tmp 9), guard := some (8, true), hints := [] },
  { dst := some 11, op := POp.prim (Prim.bin BinOp.leq 3 false true) [Operand.tmp 10, Operand.const (Value.int IntKind.i64 1000000)], guard := some (8, true), hints := [] },
  { dst := some 12, op := POp.pick (Operand.tmp 8) (Operand.tmp 11) (Operand.const (Value.bool false)), guard := none, hints := [] },
  { dst := some 13, op := POp.mv (Operand.tmp 12), guard := none, hints := [] },
  { dst := some 14, op := POp.faddr 1 (Operand.tmp 1), guard := some (13, true), hints := [] },
  { dst := some 15, op := POp.load true 2 (Operand.tmp 14), guard := some (13, true), hints := [] },
  { dst := some 16, op := POp.call true [[]] 54 [Operand.tmp 15], guard := some (13, true), hints := [] },
  { dst := some 17, op := POp.pick (Operand.tmp 13) (Operand.tmp 16) (Operand.const (Value.bool false)), guard := none, hints := [] },
  { dst := some 3, op := POp.mv (Operand.tmp 17), guard := none, hints := [] }]
def pc48_c2 : PCode := .region none false pc48_o2
def pc48_o3 : List POper := [{ dst := some 4, op := POp.mv (Operand.const (Value.int IntKind.i64 0)), guard := none, hints := [] }]
def pc48_c3 : PCode := .region (some ([1, 3], [1])) false pc48_o3
def pc48_o4 : List POper := [{ dst := some 18, op := POp.mv (Operand.tmp 4), guard := none, hints := [] },
  { dst := some 19, op := POp.prim (Prim.bin BinOp.lss 3 false true) [Operand.tmp 18, Operand.const (Value.int IntKind.i64 4)], guard := none, hints := [] }]
def pc48_c4 : PCode := .region (some ([1, 3, 4], [1])) false pc48_o4
def pc48_c5 : PCode := .skip
def pc48_c6 : PCode := .exit 0
def pc48_c7 : PCode := .cond (Operand.tmp 19) pc48_c5 pc48_c6
def pc48_c8 : PCode := .seq pc48_c4 pc48_c7
def pc48_o9 : List POper := [{ dst := some 22, op := POp.mv (Operand.tmp 3), guard := none, hints := [] },
  { dst := some 23, op := POp.mv (Operand.tmp 22), guard := none, hints := [] },
  { dst := some 24, op := POp.mv (Operand.tmp 4), guard := some (23, true), hints := [] },
  { dst := some 25, op := POp.faddr 3 (Operand.tmp 1), guard := some (23, true), hints := [] },
  { dst := some 26, op := POp.iaddrA 4 2 (Operand.tmp 25) (Operand.tmp 24), guard := some (23, true), hints := [] },
  { dst := some 27, op := POp.load true 2 (Operand.tmp 26), guard := some (23, true), hints := [] },
  { dst := some 28, op := POp.call true [[]] 70 [Operand.tmp 27], guard := some (23, true), hints := [] },
  { dst := some 29, op := POp.pick (Operand.tmp 23) (Operand.tmp 28) (Operand.const (Value.bool false)), guard := none, hints := [] },
  { dst := some 3, op := POp.mv (Operand.tmp 29), guard := none, hints := [] }]
def pc48_c9 : PCode := .region none false pc48_o9
def pc48_c10 : PCode := .block 1 pc48_c9
def pc48_o11 : List POper := [{ dst := some 20, op := POp.mv (Operand.tmp 4), guard := none, hints := [] },
  { dst := some 21, op := POp.prim (Prim.bin BinOp.add 3 false true) [Operand.tmp 20, Operand.const (Value.int IntKind.i64 1)], guard := none, hints := [] },
  { dst := some 4, op := POp.mv (Operand.tmp 21), guard := none, hints := [] }]
def pc48_c11 : PCode := .region none false pc48_o11
def pc48_c12 : PCode := .seq pc48_c10 pc48_c11
def pc48_c13 : PCode := .seq pc48_c8 pc48_c12
def pc48_c14 : PCode := .loop pc48_c13
def pc48_c15 : PCode := .block 0 pc48_c14
def pc48_c16 : PCode := .seq pc48_c3 pc48_c15
def pc48_o17 : List POper := [{ dst := some 30, op := POp.mv (Operand.tmp 3), guard := none, hints := [] },
  { dst := some 2, op := POp.mv (Operand.tmp 30), guard := none, hints := [] }]
def pc48_c17 : PCode := .region none false pc48_o17
def pc48_c18 : PCode := .ret
def pc48_c19 : PCode := .seq pc48_c17 pc48_c18
def pc48_c20 : PCode := .seq pc48_c16 pc48_c19
def pc48_c21 : PCode := .seq pc48_c2 pc48_c20
def pc48_c22 : PCode := .seq pc48_c1 pc48_c21
def pc48_r : List PRes := [PRes.tmp 2 []]
def pc48 : PFunc := ⟨31, pc48_r, pc48_c22⟩
def pc48_a : Ann := {
  kr := fun
    | 2 => some ([1, 3], [1])
    | 3 => some ([1, 3, 4], [1])
    | _ => none
  ka := fun
    | _ => 0
  kh := fun
    | _ => none }
theorem pc48_ok : compFn Try.prog pc48_a Try.f48 = some pc48 := by kernel_rfl


-- 16: vedette/vedettelaw16.rising
def pc16_o1 : List POper := [{ dst := some 2, op := POp.mv (Operand.const (Value.bool false)), guard := none, hints := [] }]
def pc16_c1 : PCode := .region none false pc16_o1
def pc16_o2 : List POper := [{ dst := some 3, op := POp.mv (Operand.const (Value.int IntKind.i64 0)), guard := none, hints := [] }]
def pc16_c2 : PCode := .region none false pc16_o2
def pc16_o3 : List POper := [{ dst := some 4, op := POp.mv (Operand.tmp 3), guard := none, hints := [] },
  { dst := some 5, op := POp.mv (Operand.tmp 0), guard := none, hints := [] },
  { dst := some 6, op := POp.lenS (Operand.tmp 5), guard := none, hints := [] },
  { dst := some 7, op := POp.prim (Prim.bin BinOp.lss 3 false false) [Operand.tmp 4, Operand.tmp 6], guard := none, hints := [] }]
def pc16_c3 : PCode := .region (some ([0, 3], [])) false pc16_o3
def pc16_c4 : PCode := .skip
def pc16_c5 : PCode := .exit 0
def pc16_c6 : PCode := .cond (Operand.tmp 7) pc16_c4 pc16_c5
def pc16_c7 : PCode := .seq pc16_c3 pc16_c6
def pc16_o8 : List POper := [{ dst := some 10, op := POp.mv (Operand.tmp 0), guard := none, hints := [(0, Hint.imm)] },
  { dst := some 11, op := POp.mv (Operand.tmp 3), guard := none, hints := [(3, Hint.imm)] },
  { dst := some 12, op := POp.iaddrS 11 (Operand.tmp 10) (Operand.tmp 11), guard := none, hints := [(10, Hint.imm), (11, Hint.imm)] },
  { dst := some 13, op := POp.load true 11 (Operand.tmp 12), guard := none, hints := [(12, Hint.imm)] },
  { dst := some 14, op := POp.call false [[]] 48 [Operand.tmp 13], guard := none, hints := [(13, Hint.imm)] },
  { dst := some 15, op := POp.prim (Prim.un UnOp.not) [Operand.tmp 14], guard := none, hints := [(14, Hint.imm)] },
  { dst := some 16, op := POp.mv (Operand.tmp 15), guard := none, hints := [(15, Hint.imm)] },
  { dst := some 17, op := POp.mv (Operand.tmp 3), guard := some (16, false), hints := [(3, Hint.imm)] },
  { dst := some 18, op := POp.prim (Prim.bin BinOp.gtr 3 false true) [Operand.tmp 17, Operand.const (Value.int IntKind.i64 0)], guard := some (16, false), hints := [(17, Hint.imm)] },
  { dst := some 19, op := POp.mv (Operand.tmp 18), guard := some (16, false), hints := [(18, Hint.imm)] },
  { dst := some 20, op := POp.mv (Operand.tmp 0), guard := some (19, true), hints := [(0, Hint.imm)] },
  { dst := some 21, op := POp.mv (Operand.tmp 3), guard := some (19, true), hints := [(3, Hint.imm)] },
  { dst := some 22, op := POp.iaddrS 11 (Operand.tmp 20) (Operand.tmp 21), guard := some (19, true), hints := [(20, Hint.imm), (21, Hint.imm)] },
  { dst := some 23, op := POp.faddr 0 (Operand.tmp 22), guard := some (19, true), hints := [(22, Hint.imm)] },
  { dst := some 24, op := POp.load false 1 (Operand.tmp 23), guard := some (19, true), hints := [(23, Hint.imm)] },
  { dst := some 25, op := POp.mv (Operand.tmp 0), guard := some (19, true), hints := [(0, Hint.imm)] },
  { dst := some 26, op := POp.mv (Operand.tmp 3), guard := some (19, true), hints := [(3, Hint.imm)] },
  { dst := some 27, op := POp.prim (Prim.bin BinOp.sub 3 false true) [Operand.tmp 26, Operand.const (Value.int IntKind.i64 1)], guard := some (19, true), hints := [(26, Hint.imm)] },
  { dst := some 28, op := POp.iaddrS 11 (Operand.tmp 25) (Operand.tmp 27), guard := some (19, true), hints := [(25, Hint.imm), (27, Hint.imm)] },
  { dst := some 29, op := POp.faddr 0 (Operand.tmp 28), guard := some (19, true), hints := [(28, Hint.imm)] },
  { dst := some 30, op := POp.load false 1 (Operand.tmp 29), guard := some (19, true), hints := [(29, Hint.imm)] },
  { dst := some 31, op := POp.prim (Prim.bin BinOp.leq 3 false false) [Operand.tmp 24, Operand.tmp 30], guard := some (19, true), hints := [(24, Hint.imm), (30, Hint.imm)] },
  { dst := some 32, op := POp.pick (Operand.tmp 19) (Operand.tmp 31) (Operand.const (Value.bool false)), guard := some (16, false), hints := [(19, Hint.imm), (31, Hint.imm)] },
  { dst := some 33, op := POp.pick (Operand.tmp 16) (Operand.const (Value.bool true)) (Operand.tmp 32), guard := none, hints := [(16, Hint.imm), (32, Hint.imm)] }]
def pc16_c8 : PCode := .region none true pc16_o8
def pc16_o9 : List POper := [{ dst := some 2, op := POp.mv (Operand.const (Value.bool false)), guard := none, hints := [] }]
def pc16_c9 : PCode := .region none false pc16_o9
def pc16_c10 : PCode := .ret
def pc16_c11 : PCode := .seq pc16_c9 pc16_c10
def pc16_c12 : PCode := .skip
def pc16_c13 : PCode := .cond (Operand.tmp 33) pc16_c11 pc16_c12
def pc16_c14 : PCode := .seq pc16_c8 pc16_c13
def pc16_c15 : PCode := .block 1 pc16_c14
def pc16_o16 : List POper := [{ dst := some 8, op := POp.mv (Operand.tmp 3), guard := none, hints := [] },
  { dst := some 9, op := POp.prim (Prim.bin BinOp.add 3 false true) [Operand.tmp 8, Operand.const (Value.int IntKind.i64 1)], guard := none, hints := [] },
  { dst := some 3, op := POp.mv (Operand.tmp 9), guard := none, hints := [] }]
def pc16_c16 : PCode := .region none false pc16_o16
def pc16_c17 : PCode := .seq pc16_c15 pc16_c16
def pc16_c18 : PCode := .seq pc16_c7 pc16_c17
def pc16_c19 : PCode := .loop pc16_c18
def pc16_c20 : PCode := .block 0 pc16_c19
def pc16_c21 : PCode := .seq pc16_c2 pc16_c20
def pc16_o22 : List POper := [{ dst := some 2, op := POp.mv (Operand.const (Value.bool true)), guard := none, hints := [] }]
def pc16_c22 : PCode := .region none false pc16_o22
def pc16_c23 : PCode := .ret
def pc16_c24 : PCode := .seq pc16_c22 pc16_c23
def pc16_c25 : PCode := .seq pc16_c21 pc16_c24
def pc16_c26 : PCode := .seq pc16_c1 pc16_c25
def pc16_r : List PRes := [PRes.tmp 2 []]
def pc16 : PFunc := ⟨34, pc16_r, pc16_c26⟩
def pc16_a : Ann := {
  kr := fun
    | 2 => some ([0, 3], [])
    | _ => none
  ka := fun
    | _ => 0
  kh := fun
    | 0 => some (Hint.imm)
    | 3 => some (Hint.imm)
    | 10 => some (Hint.imm)
    | 11 => some (Hint.imm)
    | 12 => some (Hint.imm)
    | 13 => some (Hint.imm)
    | 14 => some (Hint.imm)
    | 15 => some (Hint.imm)
    | 16 => some (Hint.imm)
    | 17 => some (Hint.imm)
    | 18 => some (Hint.imm)
    | 19 => some (Hint.imm)
    | 20 => some (Hint.imm)
    | 21 => some (Hint.imm)
    | 22 => some (Hint.imm)
    | 23 => some (Hint.imm)
    | 24 => some (Hint.imm)
    | 25 => some (Hint.imm)
    | 26 => some (Hint.imm)
    | 27 => some (Hint.imm)
    | 28 => some (Hint.imm)
    | 29 => some (Hint.imm)
    | 30 => some (Hint.imm)
    | 31 => some (Hint.imm)
    | 32 => some (Hint.imm)
    | _ => none }
theorem pc16_ok : compFn Try.prog pc16_a Try.f16 = some pc16 := by kernel_rfl


-- 17: vedette/vedetteref15.Same
def pc17_o1 : List POper := [{ dst := some 4, op := POp.mv (Operand.const (Value.bool false)), guard := none, hints := [] }]
def pc17_c1 : PCode := .region none false pc17_o1
def pc17_o2 : List POper := [{ dst := some 6, op := POp.mv (Operand.tmp 0), guard := none, hints := [] },
  { dst := some 7, op := POp.lenS (Operand.tmp 6), guard := none, hints := [] },
  { dst := some 8, op := POp.mv (Operand.tmp 1), guard := none, hints := [] },
  { dst := some 9, op := POp.lenS (Operand.tmp 8), guard := none, hints := [] },
  { dst := some 10, op := POp.prim (Prim.bin BinOp.neq 3 false false) [Operand.tmp 7, Operand.tmp 9], guard := none, hints := [] }]
def pc17_c2 : PCode := .region none false pc17_o2
def pc17_o3 : List POper := [{ dst := some 4, op := POp.mv (Operand.const (Value.bool false)), guard := none, hints := [] }]
def pc17_c3 : PCode := .region none false pc17_o3
def pc17_c4 : PCode := .ret
def pc17_c5 : PCode := .seq pc17_c3 pc17_c4
def pc17_c6 : PCode := .skip
def pc17_c7 : PCode := .cond (Operand.tmp 10) pc17_c5 pc17_c6
def pc17_c8 : PCode := .seq pc17_c2 pc17_c7
def pc17_o9 : List POper := [{ dst := some 5, op := POp.mv (Operand.const (Value.int IntKind.i64 0)), guard := none, hints := [] }]
def pc17_c9 : PCode := .region none false pc17_o9
def pc17_o10 : List POper := [{ dst := some 11, op := POp.mv (Operand.tmp 5), guard := none, hints := [] },
  { dst := some 12, op := POp.mv (Operand.tmp 0), guard := none, hints := [] },
  { dst := some 13, op := POp.lenS (Operand.tmp 12), guard := none, hints := [] },
  { dst := some 14, op := POp.prim (Prim.bin BinOp.lss 3 false false) [Operand.tmp 11, Operand.tmp 13], guard := none, hints := [] }]
def pc17_c10 : PCode := .region (some ([0, 1, 5], [])) false pc17_o10
def pc17_c11 : PCode := .skip
def pc17_c12 : PCode := .exit 0
def pc17_c13 : PCode := .cond (Operand.tmp 14) pc17_c11 pc17_c12
def pc17_c14 : PCode := .seq pc17_c10 pc17_c13
def pc17_o15 : List POper := [{ dst := some 17, op := POp.mv (Operand.tmp 0), guard := none, hints := [(0, Hint.imm)] },
  { dst := some 18, op := POp.mv (Operand.tmp 5), guard := none, hints := [(5, Hint.imm)] },
  { dst := some 19, op := POp.iaddrS 25 (Operand.tmp 17) (Operand.tmp 18), guard := none, hints := [(17, Hint.imm), (18, Hint.imm)] },
  { dst := some 20, op := POp.load true 25 (Operand.tmp 19), guard := none, hints := [(19, Hint.imm)] },
  { dst := some 21, op := POp.mv (Operand.tmp 1), guard := none, hints := [(1, Hint.imm)] },
  { dst := some 22, op := POp.mv (Operand.tmp 5), guard := none, hints := [(5, Hint.imm)] },
  { dst := some 23, op := POp.iaddrS 25 (Operand.tmp 21) (Operand.tmp 22), guard := none, hints := [(21, Hint.imm), (22, Hint.imm)] },
  { dst := some 24, op := POp.load true 25 (Operand.tmp 23), guard := none, hints := [(23, Hint.imm)] },
  { dst := some 25, op := POp.prim (Prim.bin BinOp.neq 45 false false) [Operand.tmp 20, Operand.tmp 24], guard := none, hints := [(20, Hint.imm), (24, Hint.imm)] }]
def pc17_c15 : PCode := .region none true pc17_o15
def pc17_o16 : List POper := [{ dst := some 4, op := POp.mv (Operand.const (Value.bool false)), guard := none, hints := [] }]
def pc17_c16 : PCode := .region none false pc17_o16
def pc17_c17 : PCode := .ret
def pc17_c18 : PCode := .seq pc17_c16 pc17_c17
def pc17_c19 : PCode := .skip
def pc17_c20 : PCode := .cond (Operand.tmp 25) pc17_c18 pc17_c19
def pc17_c21 : PCode := .seq pc17_c15 pc17_c20
def pc17_c22 : PCode := .block 1 pc17_c21
def pc17_o23 : List POper := [{ dst := some 15, op := POp.mv (Operand.tmp 5), guard := none, hints := [] },
  { dst := some 16, op := POp.prim (Prim.bin BinOp.add 3 false true) [Operand.tmp 15, Operand.const (Value.int IntKind.i64 1)], guard := none, hints := [] },
  { dst := some 5, op := POp.mv (Operand.tmp 16), guard := none, hints := [] }]
def pc17_c23 : PCode := .region none false pc17_o23
def pc17_c24 : PCode := .seq pc17_c22 pc17_c23
def pc17_c25 : PCode := .seq pc17_c14 pc17_c24
def pc17_c26 : PCode := .loop pc17_c25
def pc17_c27 : PCode := .block 0 pc17_c26
def pc17_c28 : PCode := .seq pc17_c9 pc17_c27
def pc17_o29 : List POper := [{ dst := some 4, op := POp.mv (Operand.const (Value.bool true)), guard := none, hints := [] }]
def pc17_c29 : PCode := .region none false pc17_o29
def pc17_c30 : PCode := .ret
def pc17_c31 : PCode := .seq pc17_c29 pc17_c30
def pc17_c32 : PCode := .seq pc17_c28 pc17_c31
def pc17_c33 : PCode := .seq pc17_c8 pc17_c32
def pc17_c34 : PCode := .seq pc17_c1 pc17_c33
def pc17_r : List PRes := [PRes.tmp 4 []]
def pc17 : PFunc := ⟨26, pc17_r, pc17_c34⟩
def pc17_a : Ann := {
  kr := fun
    | 4 => some ([0, 1, 5], [])
    | _ => none
  ka := fun
    | _ => 0
  kh := fun
    | 0 => some (Hint.imm)
    | 1 => some (Hint.imm)
    | 5 => some (Hint.imm)
    | 17 => some (Hint.imm)
    | 18 => some (Hint.imm)
    | 19 => some (Hint.imm)
    | 20 => some (Hint.imm)
    | 21 => some (Hint.imm)
    | 22 => some (Hint.imm)
    | 23 => some (Hint.imm)
    | 24 => some (Hint.imm)
    | _ => none }
theorem pc17_ok : compFn Try.prog pc17_a Try.f17 = some pc17 := by kernel_rfl


-- 23: vedette/vedetteref3.In
def pc23_o1 : List POper := [{ dst := some 2, op := POp.box 24 (Operand.tmp 0), guard := none, hints := [] },
  { dst := some 3, op := POp.box 34 (Operand.tmp 1), guard := none, hints := [] },
  { dst := some 4, op := POp.mv (Operand.const (Value.bool false)), guard := none, hints := [] }]
def pc23_c1 : PCode := .region none false pc23_o1
def pc23_o2 : List POper := [{ dst := some 5, op := POp.faddr 0 (Operand.tmp 2), guard := none, hints := [] },
  { dst := some 6, op := POp.load false 1 (Operand.tmp 5), guard := none, hints := [] },
  { dst := some 7, op := POp.faddr 0 (Operand.tmp 3), guard := none, hints := [] },
  { dst := some 8, op := POp.load false 1 (Operand.tmp 7), guard := none, hints := [] },
  { dst := some 9, op := POp.prim (Prim.bin BinOp.leq 3 false false) [Operand.tmp 6, Operand.tmp 8], guard := none, hints := [] },
  { dst := some 10, op := POp.mv (Operand.tmp 9), guard := none, hints := [] },
  { dst := some 11, op := POp.faddr 0 (Operand.tmp 3), guard := some (10, true), hints := [] },
  { dst := some 12, op := POp.load false 1 (Operand.tmp 11), guard := some (10, true), hints := [] },
  { dst := some 13, op := POp.faddr 2 (Operand.tmp 2), guard := some (10, true), hints := [] },
  { dst := some 14, op := POp.load false 1 (Operand.tmp 13), guard := some (10, true), hints := [] },
  { dst := some 15, op := POp.prim (Prim.bin BinOp.lss 3 false false) [Operand.tmp 12, Operand.tmp 14], guard := some (10, true), hints := [] },
  { dst := some 16, op := POp.pick (Operand.tmp 10) (Operand.tmp 15) (Operand.const (Value.bool false)), guard := none, hints := [] },
  { dst := some 17, op := POp.mv (Operand.tmp 16), guard := none, hints := [] },
  { dst := some 18, op := POp.faddr 1 (Operand.tmp 2), guard := some (17, true), hints := [] },
  { dst := some 19, op := POp.load false 1 (Operand.tmp 18), guard := some (17, true), hints := [] },
  { dst := some 20, op := POp.faddr 1 (Operand.tmp 3), guard := some (17, true), hints := [] },
  { dst := some 21, op := POp.load false 1 (Operand.tmp 20), guard := some (17, true), hints := [] },
  { dst := some 22, op := POp.prim (Prim.bin BinOp.leq 3 false false) [Operand.tmp 19, Operand.tmp 21], guard := some (17, true), hints := [] },
  { dst := some 23, op := POp.pick (Operand.tmp 17) (Operand.tmp 22) (Operand.const (Value.bool false)), guard := none, hints := [] },
  { dst := some 24, op := POp.mv (Operand.tmp 23), guard := none, hints := [] },
  { dst := some 25, op := POp.faddr 1 (Operand.tmp 3), guard := some (24, true), hints := [] },
  { dst := some 26, op := POp.load false 1 (Operand.tmp 25), guard := some (24, true), hints := [] },
  { dst := some 27, op := POp.faddr 3 (Operand.tmp 2), guard := some (24, true), hints := [] },
  { dst := some 28, op := POp.load false 1 (Operand.tmp 27), guard := some (24, true), hints := [] },
  { dst := some 29, op := POp.prim (Prim.bin BinOp.lss 3 false false) [Operand.tmp 26, Operand.tmp 28], guard := some (24, true), hints := [] },
  { dst := some 30, op := POp.pick (Operand.tmp 24) (Operand.tmp 29) (Operand.const (Value.bool false)), guard := none, hints := [] },
  { dst := some 4, op := POp.mv (Operand.tmp 30), guard := none, hints := [] }]
def pc23_c2 : PCode := .region none false pc23_o2
def pc23_c3 : PCode := .ret
def pc23_c4 : PCode := .seq pc23_c2 pc23_c3
def pc23_c5 : PCode := .seq pc23_c1 pc23_c4
def pc23_r : List PRes := [PRes.tmp 4 []]
def pc23 : PFunc := ⟨31, pc23_r, pc23_c5⟩
def pc23_a : Ann := {
  kr := fun
    | _ => none
  ka := fun
    | _ => 0
  kh := fun
    | _ => none }
theorem pc23_ok : compFn Try.prog pc23_a Try.f23 = some pc23 := by kernel_rfl


-- 22: vedette/vedetteref6.Seen
def pc22_o1 : List POper := [{ dst := some 3, op := POp.box 24 (Operand.tmp 1), guard := none, hints := [] },
  { dst := some 4, op := POp.mv (Operand.const (Value.slice none 0 0)), guard := none, hints := [] }]
def pc22_c1 : PCode := .region none false pc22_o1
def pc22_o2 : List POper := [{ dst := some 5, op := POp.mv (Operand.const (Value.slice none 0 0)), guard := none, hints := [] }]
def pc22_c2 : PCode := .region none false pc22_o2
def pc22_o3 : List POper := [{ dst := some 6, op := POp.mv (Operand.const (Value.int IntKind.i64 0)), guard := none, hints := [] }]
def pc22_c3 : PCode := .region none false pc22_o3
def pc22_o4 : List POper := [{ dst := some 7, op := POp.mv (Operand.tmp 6), guard := none, hints := [] },
  { dst := some 8, op := POp.mv (Operand.tmp 0), guard := none, hints := [] },
  { dst := some 9, op := POp.lenS (Operand.tmp 8), guard := none, hints := [] },
  { dst := some 10, op := POp.prim (Prim.bin BinOp.lss 3 false false) [Operand.tmp 7, Operand.tmp 9], guard := none, hints := [] }]
def pc22_c4 : PCode := .region (some ([0, 3, 5, 6], [3, 100005])) false pc22_o4
def pc22_c5 : PCode := .skip
def pc22_c6 : PCode := .exit 0
def pc22_c7 : PCode := .cond (Operand.tmp 10) pc22_c5 pc22_c6
def pc22_c8 : PCode := .seq pc22_c4 pc22_c7
def pc22_o9 : List POper := [{ dst := some 13, op := POp.load true 4 (Operand.tmp 3), guard := none, hints := [(3, Hint.at_ 3 0)] },
  { dst := some 14, op := POp.mv (Operand.tmp 0), guard := none, hints := [(0, Hint.imm)] },
  { dst := some 15, op := POp.mv (Operand.tmp 6), guard := none, hints := [(6, Hint.imm)] },
  { dst := some 16, op := POp.iaddrS 11 (Operand.tmp 14) (Operand.tmp 15), guard := none, hints := [(14, Hint.imm), (15, Hint.imm)] },
  { dst := some 17, op := POp.faddr 1 (Operand.tmp 16), guard := none, hints := [(16, Hint.imm)] },
  { dst := some 18, op := POp.load true 2 (Operand.tmp 17), guard := none, hints := [(17, Hint.imm)] },
  { dst := some 19, op := POp.call false [[], []] 23 [Operand.tmp 13, Operand.tmp 18], guard := none, hints := [(13, Hint.imm), (18, Hint.imm)] }]
def pc22_c9 : PCode := .region none true pc22_o9
def pc22_o10 : List POper := [{ dst := some 20, op := POp.mv (Operand.tmp 5), guard := none, hints := [] },
  { dst := some 21, op := POp.mv (Operand.tmp 0), guard := none, hints := [] },
  { dst := some 22, op := POp.mv (Operand.tmp 6), guard := none, hints := [] },
  { dst := some 23, op := POp.iaddrS 11 (Operand.tmp 21) (Operand.tmp 22), guard := none, hints := [] },
  { dst := some 24, op := POp.load true 11 (Operand.tmp 23), guard := none, hints := [] },
  { dst := some 25, op := POp.bslice 39 11 [Operand.tmp 24], guard := none, hints := [] },
  { dst := some 26, op := POp.app 100005 39 11 120 (Operand.tmp 20) (Operand.tmp 25), guard := none, hints := [] },
  { dst := some 5, op := POp.mv (Operand.tmp 26), guard := none, hints := [] }]
def pc22_c10 : PCode := .region none false pc22_o10
def pc22_c11 : PCode := .skip
def pc22_c12 : PCode := .cond (Operand.tmp 19) pc22_c10 pc22_c11
def pc22_c13 : PCode := .seq pc22_c9 pc22_c12
def pc22_c14 : PCode := .block 1 pc22_c13
def pc22_o15 : List POper := [{ dst := some 11, op := POp.mv (Operand.tmp 6), guard := none, hints := [] },
  { dst := some 12, op := POp.prim (Prim.bin BinOp.add 3 false true) [Operand.tmp 11, Operand.const (Value.int IntKind.i64 1)], guard := none, hints := [] },
  { dst := some 6, op := POp.mv (Operand.tmp 12), guard := none, hints := [] }]
def pc22_c15 : PCode := .region none false pc22_o15
def pc22_c16 : PCode := .seq pc22_c14 pc22_c15
def pc22_c17 : PCode := .seq pc22_c8 pc22_c16
def pc22_c18 : PCode := .loop pc22_c17
def pc22_c19 : PCode := .block 0 pc22_c18
def pc22_c20 : PCode := .seq pc22_c3 pc22_c19
def pc22_o21 : List POper := [{ dst := some 27, op := POp.mv (Operand.tmp 5), guard := none, hints := [] },
  { dst := some 4, op := POp.mv (Operand.tmp 27), guard := none, hints := [] }]
def pc22_c21 : PCode := .region none false pc22_o21
def pc22_c22 : PCode := .ret
def pc22_c23 : PCode := .seq pc22_c21 pc22_c22
def pc22_c24 : PCode := .seq pc22_c20 pc22_c23
def pc22_c25 : PCode := .seq pc22_c2 pc22_c24
def pc22_c26 : PCode := .seq pc22_c1 pc22_c25
def pc22_r : List PRes := [PRes.tmp 4 [(0, 11)]]
def pc22 : PFunc := ⟨28, pc22_r, pc22_c26⟩
def pc22_a : Ann := {
  kr := fun
    | 3 => some ([0, 3, 5, 6], [3, 100005])
    | _ => none
  ka := fun
    | 26 => 100005
    | _ => 0
  kh := fun
    | 0 => some (Hint.imm)
    | 3 => some (Hint.at_ 3 0)
    | 6 => some (Hint.imm)
    | 13 => some (Hint.imm)
    | 14 => some (Hint.imm)
    | 15 => some (Hint.imm)
    | 16 => some (Hint.imm)
    | 17 => some (Hint.imm)
    | 18 => some (Hint.imm)
    | _ => none }
theorem pc22_ok : compFn Try.prog pc22_a Try.f22 = some pc22 := by kernel_rfl


-- 50: vedette/vedetteref6.Diff
def pc50_o1 : List POper := [{ dst := some 2, op := POp.box 39 (Operand.tmp 0), guard := none, hints := [] },
  { dst := some 3, op := POp.box 39 (Operand.tmp 1), guard := none, hints := [] },
  { dst := some 4, op := POp.alloc 43 (Value.agg { toList := [Value.int IntKind.i64 0, Value.int IntKind.u8 0, Value.int IntKind.i64 0, Value.int IntKind.i64 0, Value.int IntKind.i64 0, Value.string { data := { toList := [] } }, Value.int IntKind.i64 0, Value.string { data := { toList := [] } }, Value.int IntKind.i64 0, Value.string { data := { toList := [] } }, Value.int IntKind.i64 0, Value.string { data := { toList := [] } }] }), guard := none, hints := [] },
  { dst := some 5, op := POp.mv (Operand.const (Value.bool false)), guard := none, hints := [] }]
def pc50_c1 : PCode := .region none false pc50_o1
def pc50_o2 : List POper := [{ dst := some 8, op := POp.faddr 0 (Operand.tmp 3), guard := none, hints := [] },
  { dst := some 9, op := POp.load false 1 (Operand.tmp 8), guard := none, hints := [] },
  { dst := some 10, op := POp.build (Value.agg { toList := [Value.int IntKind.i64 0, Value.int IntKind.u8 0, Value.int IntKind.i64 0, Value.int IntKind.i64 0, Value.int IntKind.i64 0, Value.string { data := { toList := [] } }, Value.int IntKind.i64 0, Value.string { data := { toList := [] } }, Value.int IntKind.i64 0, Value.string { data := { toList := [] } }, Value.int IntKind.i64 0, Value.string { data := { toList := [] } }] }) [(0, 1, Operand.tmp 9)], guard := none, hints := [] },
  { dst := some 6, op := POp.alloc 43 (Value.agg { toList := [Value.int IntKind.i64 0, Value.int IntKind.u8 0, Value.int IntKind.i64 0, Value.int IntKind.i64 0, Value.int IntKind.i64 0, Value.string { data := { toList := [] } }, Value.int IntKind.i64 0, Value.string { data := { toList := [] } }, Value.int IntKind.i64 0, Value.string { data := { toList := [] } }, Value.int IntKind.i64 0, Value.string { data := { toList := [] } }] }), guard := none, hints := [] },
  { dst := none, op := POp.store 12 (Operand.tmp 6) (Operand.tmp 10), guard := none, hints := [] }]
def pc50_c2 : PCode := .region none false pc50_o2
def pc50_o3 : List POper := [{ dst := some 11, op := POp.faddr 1 (Operand.tmp 2), guard := none, hints := [] },
  { dst := some 12, op := POp.load true 2 (Operand.tmp 11), guard := none, hints := [] },
  { dst := some 13, op := POp.faddr 1 (Operand.tmp 3), guard := none, hints := [] },
  { dst := some 14, op := POp.load true 2 (Operand.tmp 13), guard := none, hints := [] },
  { dst := some 15, op := POp.prim (Prim.bin BinOp.neq 34 false false) [Operand.tmp 12, Operand.tmp 14], guard := none, hints := [] }]
def pc50_c3 : PCode := .region none false pc50_o3
def pc50_o4 : List POper := [{ dst := some 16, op := POp.faddr 1 (Operand.tmp 3), guard := none, hints := [(3, Hint.at_ 3 0)] },
  { dst := some 17, op := POp.load true 2 (Operand.tmp 16), guard := none, hints := [(16, Hint.at_ 3 1)] },
  { dst := some 18, op := POp.faddr 1 (Operand.tmp 6), guard := none, hints := [(6, Hint.at_ 6 0)] },
  { dst := none, op := POp.store 1 (Operand.tmp 18) (Operand.const (Value.int IntKind.u8 1)), guard := none, hints := [(18, Hint.at_ 6 1)] },
  { dst := some 19, op := POp.faddr 2 (Operand.tmp 6), guard := none, hints := [(6, Hint.at_ 6 0)] },
  { dst := none, op := POp.store 2 (Operand.tmp 19) (Operand.tmp 17), guard := none, hints := [(19, Hint.at_ 6 2), (17, Hint.imm)] }]
def pc50_c4 : PCode := .region none true pc50_o4
def pc50_c5 : PCode := .skip
def pc50_c6 : PCode := .cond (Operand.tmp 15) pc50_c4 pc50_c5
def pc50_c7 : PCode := .seq pc50_c3 pc50_c6
def pc50_o8 : List POper := [{ dst := some 7, op := POp.mv (Operand.const (Value.int IntKind.i64 0)), guard := none, hints := [] }]
def pc50_c8 : PCode := .region (some ([2, 3, 4, 6], [2, 3, 4, 6])) false pc50_o8
def pc50_o9 : List POper := [{ dst := some 20, op := POp.mv (Operand.tmp 7), guard := none, hints := [] },
  { dst := some 21, op := POp.prim (Prim.bin BinOp.lss 3 false true) [Operand.tmp 20, Operand.const (Value.int IntKind.i64 4)], guard := none, hints := [] }]
def pc50_c9 : PCode := .region (some ([2, 3, 4, 6, 7], [2, 3, 4, 6])) false pc50_o9
def pc50_c10 : PCode := .skip
def pc50_c11 : PCode := .exit 0
def pc50_c12 : PCode := .cond (Operand.tmp 21) pc50_c10 pc50_c11
def pc50_c13 : PCode := .seq pc50_c9 pc50_c12
def pc50_o14 : List POper := [{ dst := some 24, op := POp.mv (Operand.tmp 7), guard := none, hints := [(7, Hint.imm)] },
  { dst := some 25, op := POp.faddr 3 (Operand.tmp 2), guard := none, hints := [(2, Hint.at_ 2 0)] },
  { dst := some 26, op := POp.iaddrA 4 2 (Operand.tmp 25) (Operand.tmp 24), guard := none, hints := [(25, Hint.at_ 2 3), (24, Hint.imm)] },
  { dst := some 27, op := POp.load true 2 (Operand.tmp 26), guard := none, hints := [(26, Hint.obj 2)] },
  { dst := some 28, op := POp.mv (Operand.tmp 7), guard := none, hints := [(7, Hint.imm)] },
  { dst := some 29, op := POp.faddr 3 (Operand.tmp 3), guard := none, hints := [(3, Hint.at_ 3 0)] },
  { dst := some 30, op := POp.iaddrA 4 2 (Operand.tmp 29) (Operand.tmp 28), guard := none, hints := [(29, Hint.at_ 3 3), (28, Hint.imm)] },
  { dst := some 31, op := POp.load true 2 (Operand.tmp 30), guard := none, hints := [(30, Hint.obj 3)] },
  { dst := some 32, op := POp.prim (Prim.bin BinOp.neq 36 false false) [Operand.tmp 27, Operand.tmp 31], guard := none, hints := [(27, Hint.imm), (31, Hint.imm)] }]
def pc50_c14 : PCode := .region none true pc50_o14
def pc50_o15 : List POper := [{ dst := some 33, op := POp.faddr 1 (Operand.tmp 6), guard := none, hints := [] },
  { dst := some 34, op := POp.load false 1 (Operand.tmp 33), guard := none, hints := [] },
  { dst := some 35, op := POp.mv (Operand.tmp 7), guard := none, hints := [] },
  { dst := some 36, op := POp.prim (Prim.conv 3 106) [Operand.tmp 35], guard := none, hints := [] },
  { dst := some 37, op := POp.prim (Prim.bin BinOp.shl 5 true false) [Operand.const (Value.int IntKind.u8 2), Operand.tmp 36], guard := none, hints := [] },
  { dst := some 38, op := POp.prim (Prim.bin BinOp.or 5 false false) [Operand.tmp 34, Operand.tmp 37], guard := none, hints := [] },
  { dst := some 39, op := POp.faddr 1 (Operand.tmp 6), guard := none, hints := [] },
  { dst := none, op := POp.store 1 (Operand.tmp 39) (Operand.tmp 38), guard := none, hints := [] }]
def pc50_c15 : PCode := .region none false pc50_o15
def pc50_o16 : List POper := [{ dst := some 40, op := POp.mv (Operand.tmp 7), guard := none, hints := [] },
  { dst := some 41, op := POp.mv (Operand.tmp 7), guard := none, hints := [] },
  { dst := some 42, op := POp.faddr 3 (Operand.tmp 3), guard := none, hints := [] },
  { dst := some 43, op := POp.iaddrA 4 2 (Operand.tmp 42) (Operand.tmp 41), guard := none, hints := [] },
  { dst := some 44, op := POp.load true 2 (Operand.tmp 43), guard := none, hints := [] },
  { dst := some 45, op := POp.faddr 4 (Operand.tmp 6), guard := none, hints := [] },
  { dst := some 46, op := POp.iaddrA 4 2 (Operand.tmp 45) (Operand.tmp 40), guard := none, hints := [] },
  { dst := none, op := POp.store 2 (Operand.tmp 46) (Operand.tmp 44), guard := none, hints := [] }]
def pc50_c16 : PCode := .region none false pc50_o16
def pc50_c17 : PCode := .seq pc50_c15 pc50_c16
def pc50_c18 : PCode := .skip
def pc50_c19 : PCode := .cond (Operand.tmp 32) pc50_c17 pc50_c18
def pc50_c20 : PCode := .seq pc50_c14 pc50_c19
def pc50_c21 : PCode := .block 1 pc50_c20
def pc50_o22 : List POper := [{ dst := some 22, op := POp.mv (Operand.tmp 7), guard := none, hints := [] },
  { dst := some 23, op := POp.prim (Prim.bin BinOp.add 3 false true) [Operand.tmp 22, Operand.const (Value.int IntKind.i64 1)], guard := none, hints := [] },
  { dst := some 7, op := POp.mv (Operand.tmp 23), guard := none, hints := [] }]
def pc50_c22 : PCode := .region none false pc50_o22
def pc50_c23 : PCode := .seq pc50_c21 pc50_c22
def pc50_c24 : PCode := .seq pc50_c13 pc50_c23
def pc50_c25 : PCode := .loop pc50_c24
def pc50_c26 : PCode := .block 0 pc50_c25
def pc50_c27 : PCode := .seq pc50_c8 pc50_c26
def pc50_o28 : List POper := [{ dst := some 47, op := POp.load true 12 (Operand.tmp 6), guard := none, hints := [(6, Hint.at_ 6 0)] },
  { dst := some 48, op := POp.faddr 1 (Operand.tmp 6), guard := none, hints := [(6, Hint.at_ 6 0)] },
  { dst := some 49, op := POp.load false 1 (Operand.tmp 48), guard := none, hints := [(48, Hint.at_ 6 1)] },
  { dst := some 50, op := POp.prim (Prim.bin BinOp.neq 5 false true) [Operand.tmp 49, Operand.const (Value.int IntKind.u8 0)], guard := none, hints := [(49, Hint.imm)] },
  { dst := none, op := POp.store 12 (Operand.tmp 4) (Operand.tmp 47), guard := none, hints := [(4, Hint.at_ 4 0), (47, Hint.imm)] },
  { dst := some 5, op := POp.mv (Operand.tmp 50), guard := none, hints := [(50, Hint.imm)] }]
def pc50_c28 : PCode := .region none true pc50_o28
def pc50_c29 : PCode := .ret
def pc50_c30 : PCode := .seq pc50_c28 pc50_c29
def pc50_c31 : PCode := .seq pc50_c27 pc50_c30
def pc50_c32 : PCode := .seq pc50_c7 pc50_c31
def pc50_c33 : PCode := .seq pc50_c2 pc50_c32
def pc50_c34 : PCode := .seq pc50_c1 pc50_c33
def pc50_r : List PRes := [PRes.cell 4 true 12 [], PRes.tmp 5 []]
def pc50 : PFunc := ⟨51, pc50_r, pc50_c34⟩
def pc50_a : Ann := {
  kr := fun
    | 4 => some ([2, 3, 4, 6], [2, 3, 4, 6])
    | 5 => some ([2, 3, 4, 6, 7], [2, 3, 4, 6])
    | _ => none
  ka := fun
    | _ => 0
  kh := fun
    | 2 => some (Hint.at_ 2 0)
    | 3 => some (Hint.at_ 3 0)
    | 4 => some (Hint.at_ 4 0)
    | 6 => some (Hint.at_ 6 0)
    | 7 => some (Hint.imm)
    | 16 => some (Hint.at_ 3 1)
    | 17 => some (Hint.imm)
    | 18 => some (Hint.at_ 6 1)
    | 19 => some (Hint.at_ 6 2)
    | 24 => some (Hint.imm)
    | 25 => some (Hint.at_ 2 3)
    | 26 => some (Hint.obj 2)
    | 27 => some (Hint.imm)
    | 28 => some (Hint.imm)
    | 29 => some (Hint.at_ 3 3)
    | 30 => some (Hint.obj 3)
    | 31 => some (Hint.imm)
    | 47 => some (Hint.imm)
    | 48 => some (Hint.at_ 6 1)
    | 49 => some (Hint.imm)
    | 50 => some (Hint.imm)
    | _ => none }
theorem pc50_ok : compFn Try.prog pc50_a Try.f50 = some pc50 := by kernel_rfl


-- 19: vedette/vedetteref15.Diff
def pc19_o1 : List POper := [{ dst := some 5, op := POp.box 24 (Operand.tmp 1), guard := none, hints := [] },
  { dst := some 7, op := POp.box 24 (Operand.tmp 3), guard := none, hints := [] },
  { dst := some 8, op := POp.mv (Operand.const (Value.slice none 0 0)), guard := none, hints := [] }]
def pc19_c1 : PCode := .region none false pc19_o1
def pc19_o2 : List POper := [{ dst := some 16, op := POp.mv (Operand.tmp 0), guard := none, hints := [(0, Hint.imm)] },
  { dst := some 17, op := POp.load true 4 (Operand.tmp 5), guard := none, hints := [(5, Hint.at_ 5 0)] },
  { dst := some 18, op := POp.call false [[(0, 11)], []] 22 [Operand.tmp 16, Operand.tmp 17], guard := none, hints := [(16, Hint.imm), (17, Hint.imm)] },
  { dst := some 19, op := POp.mv (Operand.tmp 2), guard := none, hints := [(2, Hint.imm)] },
  { dst := some 20, op := POp.load true 4 (Operand.tmp 7), guard := none, hints := [(7, Hint.at_ 7 0)] },
  { dst := some 21, op := POp.call false [[(0, 11)], []] 22 [Operand.tmp 19, Operand.tmp 20], guard := none, hints := [(19, Hint.imm), (20, Hint.imm)] },
  { dst := some 9, op := POp.mv (Operand.tmp 18), guard := none, hints := [(18, Hint.imm)] },
  { dst := some 10, op := POp.mv (Operand.tmp 21), guard := none, hints := [(21, Hint.imm)] }]
def pc19_c2 : PCode := .region none true pc19_o2
def pc19_o3 : List POper := [{ dst := some 11, op := POp.mv (Operand.const (Value.slice none 0 0)), guard := none, hints := [] }]
def pc19_c3 : PCode := .region none false pc19_o3
def pc19_o4 : List POper := [{ dst := some 12, op := POp.mv (Operand.const (Value.int IntKind.i64 0)), guard := none, hints := [] },
  { dst := some 13, op := POp.mv (Operand.const (Value.int IntKind.i64 0)), guard := none, hints := [] }]
def pc19_c4 : PCode := .region none false pc19_o4
def pc19_o5 : List POper := [{ dst := some 22, op := POp.mv (Operand.tmp 12), guard := none, hints := [] },
  { dst := some 23, op := POp.mv (Operand.tmp 9), guard := none, hints := [] },
  { dst := some 24, op := POp.lenS (Operand.tmp 23), guard := none, hints := [] },
  { dst := some 25, op := POp.prim (Prim.bin BinOp.lss 3 false false) [Operand.tmp 22, Operand.tmp 24], guard := none, hints := [] },
  { dst := some 26, op := POp.mv (Operand.tmp 25), guard := none, hints := [] },
  { dst := some 27, op := POp.mv (Operand.tmp 13), guard := some (26, false), hints := [] },
  { dst := some 28, op := POp.mv (Operand.tmp 10), guard := some (26, false), hints := [] },
  { dst := some 29, op := POp.lenS (Operand.tmp 28), guard := some (26, false), hints := [] },
  { dst := some 30, op := POp.prim (Prim.bin BinOp.lss 3 false false) [Operand.tmp 27, Operand.tmp 29], guard := some (26, false), hints := [] },
  { dst := some 31, op := POp.pick (Operand.tmp 26) (Operand.const (Value.bool true)) (Operand.tmp 30), guard := none, hints := [] }]
def pc19_c5 : PCode := .region (some ([9, 10, 11, 12, 13], [5, 7, 100011])) false pc19_o5
def pc19_c6 : PCode := .skip
def pc19_c7 : PCode := .exit 0
def pc19_c8 : PCode := .cond (Operand.tmp 31) pc19_c6 pc19_c7
def pc19_c9 : PCode := .seq pc19_c5 pc19_c8
def pc19_o10 : List POper := [{ dst := some 57, op := POp.mv (Operand.tmp 13), guard := none, hints := [(13, Hint.imm)] },
  { dst := some 58, op := POp.mv (Operand.tmp 10), guard := none, hints := [(10, Hint.imm)] },
  { dst := some 59, op := POp.lenS (Operand.tmp 58), guard := none, hints := [(58, Hint.imm)] },
  { dst := some 60, op := POp.prim (Prim.bin BinOp.eql 3 false false) [Operand.tmp 57, Operand.tmp 59], guard := none, hints := [(57, Hint.imm), (59, Hint.imm)] },
  { dst := some 61, op := POp.mv (Operand.tmp 60), guard := none, hints := [(60, Hint.imm)] },
  { dst := some 62, op := POp.mv (Operand.tmp 12), guard := some (61, false), hints := [(12, Hint.imm)] },
  { dst := some 63, op := POp.mv (Operand.tmp 9), guard := some (61, false), hints := [(9, Hint.imm)] },
  { dst := some 64, op := POp.lenS (Operand.tmp 63), guard := some (61, false), hints := [(63, Hint.imm)] },
  { dst := some 65, op := POp.prim (Prim.bin BinOp.lss 3 false false) [Operand.tmp 62, Operand.tmp 64], guard := some (61, false), hints := [(62, Hint.imm), (64, Hint.imm)] },
  { dst := some 66, op := POp.mv (Operand.tmp 65), guard := some (61, false), hints := [(65, Hint.imm)] },
  { dst := some 67, op := POp.mv (Operand.tmp 9), guard := some (66, true), hints := [(9, Hint.imm)] },
  { dst := some 68, op := POp.mv (Operand.tmp 12), guard := some (66, true), hints := [(12, Hint.imm)] },
  { dst := some 69, op := POp.iaddrS 11 (Operand.tmp 67) (Operand.tmp 68), guard := some (66, true), hints := [(67, Hint.imm), (68, Hint.imm)] },
  { dst := some 70, op := POp.faddr 0 (Operand.tmp 69), guard := some (66, true), hints := [(69, Hint.imm)] },
  { dst := some 71, op := POp.load false 1 (Operand.tmp 70), guard := some (66, true), hints := [(70, Hint.imm)] },
  { dst := some 72, op := POp.mv (Operand.tmp 10), guard := some (66, true), hints := [(10, Hint.imm)] },
  { dst := some 73, op := POp.mv (Operand.tmp 13), guard := some (66, true), hints := [(13, Hint.imm)] },
  { dst := some 74, op := POp.iaddrS 11 (Operand.tmp 72) (Operand.tmp 73), guard := some (66, true), hints := [(72, Hint.imm), (73, Hint.imm)] },
  { dst := some 75, op := POp.faddr 0 (Operand.tmp 74), guard := some (66, true), hints := [(74, Hint.imm)] },
  { dst := some 76, op := POp.load false 1 (Operand.tmp 75), guard := some (66, true), hints := [(75, Hint.imm)] },
  { dst := some 77, op := POp.prim (Prim.bin BinOp.lss 3 false false) [Operand.tmp 71, Operand.tmp 76], guard := some (66, true), hints := [(71, Hint.imm), (76, Hint.imm)] },
  { dst := some 78, op := POp.pick (Operand.tmp 66) (Operand.tmp 77) (Operand.const (Value.bool false)), guard := some (61, false), hints := [(66, Hint.imm), (77, Hint.imm)] },
  { dst := some 79, op := POp.pick (Operand.tmp 61) (Operand.const (Value.bool true)) (Operand.tmp 78), guard := none, hints := [(61, Hint.imm), (78, Hint.imm)] },
  { dst := some 56, op := POp.mv (Operand.tmp 79), guard := none, hints := [(79, Hint.imm)] }]
def pc19_c10 : PCode := .region (some ([9, 10, 11, 12, 13], [100011])) true pc19_o10
def pc19_o11 : List POper := [{ dst := some 80, op := POp.mv (Operand.tmp 11), guard := none, hints := [] },
  { dst := some 81, op := POp.mv (Operand.tmp 9), guard := none, hints := [] },
  { dst := some 82, op := POp.mv (Operand.tmp 12), guard := none, hints := [] },
  { dst := some 83, op := POp.iaddrS 11 (Operand.tmp 81) (Operand.tmp 82), guard := none, hints := [] },
  { dst := some 84, op := POp.faddr 0 (Operand.tmp 83), guard := none, hints := [] },
  { dst := some 85, op := POp.load false 1 (Operand.tmp 84), guard := none, hints := [] },
  { dst := some 86, op := POp.build (Value.agg { toList := [Value.int IntKind.i64 0, Value.int IntKind.i64 0, Value.int IntKind.i64 0, Value.int IntKind.i64 0, Value.int IntKind.i64 0, Value.int IntKind.i64 0, Value.string { data := { toList := [] } }, Value.int IntKind.i64 0, Value.string { data := { toList := [] } }, Value.int IntKind.i64 0, Value.string { data := { toList := [] } }, Value.int IntKind.i64 0, Value.string { data := { toList := [] } }, Value.int IntKind.i64 0, Value.int IntKind.u8 0, Value.int IntKind.i64 0, Value.int IntKind.i64 0, Value.int IntKind.i64 0, Value.string { data := { toList := [] } }, Value.int IntKind.i64 0, Value.string { data := { toList := [] } }, Value.int IntKind.i64 0, Value.string { data := { toList := [] } }, Value.int IntKind.i64 0, Value.string { data := { toList := [] } }] }) [(0, 1, Operand.const (Value.int IntKind.i64 3)), (1, 1, Operand.tmp 85)], guard := none, hints := [] },
  { dst := some 87, op := POp.bslice 45 25 [Operand.tmp 86], guard := none, hints := [] },
  { dst := some 88, op := POp.app 100011 45 25 264 (Operand.tmp 80) (Operand.tmp 87), guard := none, hints := [] },
  { dst := some 11, op := POp.mv (Operand.tmp 88), guard := none, hints := [] }]
def pc19_c11 : PCode := .region (some ([9, 10, 11, 12, 13], [100011])) false pc19_o11
def pc19_o12 : List POper := [{ dst := some 89, op := POp.mv (Operand.tmp 12), guard := none, hints := [] },
  { dst := some 90, op := POp.prim (Prim.bin BinOp.add 3 false true) [Operand.tmp 89, Operand.const (Value.int IntKind.i64 1)], guard := none, hints := [] },
  { dst := some 12, op := POp.mv (Operand.tmp 90), guard := none, hints := [] }]
def pc19_c12 : PCode := .region none false pc19_o12
def pc19_c13 : PCode := .seq pc19_c11 pc19_c12
def pc19_o14 : List POper := [{ dst := some 92, op := POp.mv (Operand.tmp 12), guard := none, hints := [(12, Hint.imm)] },
  { dst := some 93, op := POp.mv (Operand.tmp 9), guard := none, hints := [(9, Hint.imm)] },
  { dst := some 94, op := POp.lenS (Operand.tmp 93), guard := none, hints := [(93, Hint.imm)] },
  { dst := some 95, op := POp.prim (Prim.bin BinOp.eql 3 false false) [Operand.tmp 92, Operand.tmp 94], guard := none, hints := [(92, Hint.imm), (94, Hint.imm)] },
  { dst := some 96, op := POp.mv (Operand.tmp 95), guard := none, hints := [(95, Hint.imm)] },
  { dst := some 97, op := POp.mv (Operand.tmp 10), guard := some (96, false), hints := [(10, Hint.imm)] },
  { dst := some 98, op := POp.mv (Operand.tmp 13), guard := some (96, false), hints := [(13, Hint.imm)] },
  { dst := some 99, op := POp.iaddrS 11 (Operand.tmp 97) (Operand.tmp 98), guard := some (96, false), hints := [(97, Hint.imm), (98, Hint.imm)] },
  { dst := some 100, op := POp.faddr 0 (Operand.tmp 99), guard := some (96, false), hints := [(99, Hint.imm)] },
  { dst := some 101, op := POp.load false 1 (Operand.tmp 100), guard := some (96, false), hints := [(100, Hint.imm)] },
  { dst := some 102, op := POp.mv (Operand.tmp 9), guard := some (96, false), hints := [(9, Hint.imm)] },
  { dst := some 103, op := POp.mv (Operand.tmp 12), guard := some (96, false), hints := [(12, Hint.imm)] },
  { dst := some 104, op := POp.iaddrS 11 (Operand.tmp 102) (Operand.tmp 103), guard := some (96, false), hints := [(102, Hint.imm), (103, Hint.imm)] },
  { dst := some 105, op := POp.faddr 0 (Operand.tmp 104), guard := some (96, false), hints := [(104, Hint.imm)] },
  { dst := some 106, op := POp.load false 1 (Operand.tmp 105), guard := some (96, false), hints := [(105, Hint.imm)] },
  { dst := some 107, op := POp.prim (Prim.bin BinOp.lss 3 false false) [Operand.tmp 101, Operand.tmp 106], guard := some (96, false), hints := [(101, Hint.imm), (106, Hint.imm)] },
  { dst := some 108, op := POp.pick (Operand.tmp 96) (Operand.const (Value.bool true)) (Operand.tmp 107), guard := none, hints := [(96, Hint.imm), (107, Hint.imm)] },
  { dst := some 91, op := POp.mv (Operand.tmp 108), guard := none, hints := [(108, Hint.imm)] }]
def pc19_c14 : PCode := .region (some ([9, 10, 11, 12, 13], [100011])) true pc19_o14
def pc19_o15 : List POper := [{ dst := some 109, op := POp.mv (Operand.tmp 11), guard := none, hints := [(11, Hint.obj 100011)] },
  { dst := some 110, op := POp.mv (Operand.tmp 10), guard := none, hints := [(10, Hint.imm)] },
  { dst := some 111, op := POp.mv (Operand.tmp 13), guard := none, hints := [(13, Hint.imm)] },
  { dst := some 112, op := POp.iaddrS 11 (Operand.tmp 110) (Operand.tmp 111), guard := none, hints := [(110, Hint.imm), (111, Hint.imm)] },
  { dst := some 113, op := POp.faddr 0 (Operand.tmp 112), guard := none, hints := [(112, Hint.imm)] },
  { dst := some 114, op := POp.load false 1 (Operand.tmp 113), guard := none, hints := [(113, Hint.imm)] },
  { dst := some 115, op := POp.mv (Operand.tmp 10), guard := none, hints := [(10, Hint.imm)] },
  { dst := some 116, op := POp.mv (Operand.tmp 13), guard := none, hints := [(13, Hint.imm)] },
  { dst := some 117, op := POp.iaddrS 11 (Operand.tmp 115) (Operand.tmp 116), guard := none, hints := [(115, Hint.imm), (116, Hint.imm)] },
  { dst := some 118, op := POp.load true 11 (Operand.tmp 117), guard := none, hints := [(117, Hint.imm)] },
  { dst := some 119, op := POp.build (Value.agg { toList := [Value.int IntKind.i64 0, Value.int IntKind.i64 0, Value.int IntKind.i64 0, Value.int IntKind.i64 0, Value.int IntKind.i64 0, Value.int IntKind.i64 0, Value.string { data := { toList := [] } }, Value.int IntKind.i64 0, Value.string { data := { toList := [] } }, Value.int IntKind.i64 0, Value.string { data := { toList := [] } }, Value.int IntKind.i64 0, Value.string { data := { toList := [] } }, Value.int IntKind.i64 0, Value.int IntKind.u8 0, Value.int IntKind.i64 0, Value.int IntKind.i64 0, Value.int IntKind.i64 0, Value.string { data := { toList := [] } }, Value.int IntKind.i64 0, Value.string { data := { toList := [] } }, Value.int IntKind.i64 0, Value.string { data := { toList := [] } }, Value.int IntKind.i64 0, Value.string { data := { toList := [] } }] }) [(0, 1, Operand.const (Value.int IntKind.i64 1)), (1, 1, Operand.tmp 114), (2, 11, Operand.tmp 118)], guard := none, hints := [(114, Hint.imm), (118, Hint.imm)] },
  { dst := some 120, op := POp.bslice 45 25 [Operand.tmp 119], guard := none, hints := [(119, Hint.imm)] },
  { dst := some 121, op := POp.app 100011 45 25 264 (Operand.tmp 109) (Operand.tmp 120), guard := none, hints := [(109, Hint.obj 100011), (120, Hint.imm)] },
  { dst := some 11, op := POp.mv (Operand.tmp 121), guard := none, hints := [(121, Hint.obj 100011)] }]
def pc19_c15 : PCode := .region (some ([9, 10, 11, 12, 13], [100011])) true pc19_o15
def pc19_o16 : List POper := [{ dst := some 122, op := POp.mv (Operand.tmp 13), guard := none, hints := [] },
  { dst := some 123, op := POp.prim (Prim.bin BinOp.add 3 false true) [Operand.tmp 122, Operand.const (Value.int IntKind.i64 1)], guard := none, hints := [] },
  { dst := some 13, op := POp.mv (Operand.tmp 123), guard := none, hints := [] }]
def pc19_c16 : PCode := .region none false pc19_o16
def pc19_c17 : PCode := .seq pc19_c15 pc19_c16
def pc19_o18 : List POper := [{ dst := some 33, op := POp.mv (Operand.tmp 9), guard := none, hints := [(9, Hint.imm)] },
  { dst := some 34, op := POp.mv (Operand.tmp 12), guard := none, hints := [(12, Hint.imm)] },
  { dst := some 35, op := POp.iaddrS 11 (Operand.tmp 33) (Operand.tmp 34), guard := none, hints := [(33, Hint.imm), (34, Hint.imm)] },
  { dst := some 36, op := POp.load true 11 (Operand.tmp 35), guard := none, hints := [(35, Hint.imm)] },
  { dst := some 37, op := POp.mv (Operand.tmp 10), guard := none, hints := [(10, Hint.imm)] },
  { dst := some 38, op := POp.mv (Operand.tmp 13), guard := none, hints := [(13, Hint.imm)] },
  { dst := some 39, op := POp.iaddrS 11 (Operand.tmp 37) (Operand.tmp 38), guard := none, hints := [(37, Hint.imm), (38, Hint.imm)] },
  { dst := some 40, op := POp.load true 11 (Operand.tmp 39), guard := none, hints := [(39, Hint.imm)] },
  { dst := some 41, op := POp.call false [[], []] 50 [Operand.tmp 36, Operand.tmp 40], guard := none, hints := [(36, Hint.imm), (40, Hint.imm)] },
  { dst := some 32, op := POp.mv (Operand.tmp 41), guard := none, hints := [] },
  { dst := some 42, op := POp.ext (Operand.tmp 32) 0, guard := none, hints := [] },
  { dst := some 43, op := POp.ext (Operand.tmp 32) 1, guard := none, hints := [] },
  { dst := some 14, op := POp.alloc 43 (Value.agg { toList := [Value.int IntKind.i64 0, Value.int IntKind.u8 0, Value.int IntKind.i64 0, Value.int IntKind.i64 0, Value.int IntKind.i64 0, Value.string { data := { toList := [] } }, Value.int IntKind.i64 0, Value.string { data := { toList := [] } }, Value.int IntKind.i64 0, Value.string { data := { toList := [] } }, Value.int IntKind.i64 0, Value.string { data := { toList := [] } }] }), guard := none, hints := [] },
  { dst := none, op := POp.store 12 (Operand.tmp 14) (Operand.tmp 42), guard := none, hints := [(14, Hint.at_ 14 0), (42, Hint.imm)] },
  { dst := some 15, op := POp.mv (Operand.tmp 43), guard := none, hints := [(43, Hint.imm)] }]
def pc19_c18 : PCode := .region none true pc19_o18
def pc19_o19 : List POper := [{ dst := some 44, op := POp.mv (Operand.tmp 15), guard := none, hints := [] }]
def pc19_c19 : PCode := .region none false pc19_o19
def pc19_o20 : List POper := [{ dst := some 45, op := POp.mv (Operand.tmp 11), guard := none, hints := [] },
  { dst := some 46, op := POp.faddr 0 (Operand.tmp 14), guard := none, hints := [] },
  { dst := some 47, op := POp.load false 1 (Operand.tmp 46), guard := none, hints := [] },
  { dst := some 48, op := POp.load true 12 (Operand.tmp 14), guard := none, hints := [] },
  { dst := some 49, op := POp.build (Value.agg { toList := [Value.int IntKind.i64 0, Value.int IntKind.i64 0, Value.int IntKind.i64 0, Value.int IntKind.i64 0, Value.int IntKind.i64 0, Value.int IntKind.i64 0, Value.string { data := { toList := [] } }, Value.int IntKind.i64 0, Value.string { data := { toList := [] } }, Value.int IntKind.i64 0, Value.string { data := { toList := [] } }, Value.int IntKind.i64 0, Value.string { data := { toList := [] } }, Value.int IntKind.i64 0, Value.int IntKind.u8 0, Value.int IntKind.i64 0, Value.int IntKind.i64 0, Value.int IntKind.i64 0, Value.string { data := { toList := [] } }, Value.int IntKind.i64 0, Value.string { data := { toList := [] } }, Value.int IntKind.i64 0, Value.string { data := { toList := [] } }, Value.int IntKind.i64 0, Value.string { data := { toList := [] } }] }) [(0, 1, Operand.const (Value.int IntKind.i64 2)), (1, 1, Operand.tmp 47), (13, 12, Operand.tmp 48)], guard := none, hints := [] },
  { dst := some 50, op := POp.bslice 45 25 [Operand.tmp 49], guard := none, hints := [] },
  { dst := some 51, op := POp.app 100011 45 25 264 (Operand.tmp 45) (Operand.tmp 50), guard := none, hints := [] },
  { dst := some 11, op := POp.mv (Operand.tmp 51), guard := none, hints := [] }]
def pc19_c20 : PCode := .region none false pc19_o20
def pc19_c21 : PCode := .skip
def pc19_c22 : PCode := .cond (Operand.tmp 44) pc19_c20 pc19_c21
def pc19_c23 : PCode := .seq pc19_c19 pc19_c22
def pc19_o24 : List POper := [{ dst := some 52, op := POp.mv (Operand.tmp 12), guard := none, hints := [] },
  { dst := some 53, op := POp.prim (Prim.bin BinOp.add 3 false true) [Operand.tmp 52, Operand.const (Value.int IntKind.i64 1)], guard := none, hints := [] },
  { dst := some 12, op := POp.mv (Operand.tmp 53), guard := none, hints := [] }]
def pc19_c24 : PCode := .region (some ([9, 10, 11, 12, 13], [14, 100011])) false pc19_o24
def pc19_o25 : List POper := [{ dst := some 54, op := POp.mv (Operand.tmp 13), guard := none, hints := [] },
  { dst := some 55, op := POp.prim (Prim.bin BinOp.add 3 false true) [Operand.tmp 54, Operand.const (Value.int IntKind.i64 1)], guard := none, hints := [] },
  { dst := some 13, op := POp.mv (Operand.tmp 55), guard := none, hints := [] }]
def pc19_c25 : PCode := .region none false pc19_o25
def pc19_c26 : PCode := .seq pc19_c24 pc19_c25
def pc19_c27 : PCode := .seq pc19_c23 pc19_c26
def pc19_c28 : PCode := .seq pc19_c18 pc19_c27
def pc19_c29 : PCode := .cond (Operand.tmp 91) pc19_c17 pc19_c28
def pc19_c30 : PCode := .seq pc19_c14 pc19_c29
def pc19_c31 : PCode := .cond (Operand.tmp 56) pc19_c13 pc19_c30
def pc19_c32 : PCode := .seq pc19_c10 pc19_c31
def pc19_c33 : PCode := .block 2 pc19_c32
def pc19_c34 : PCode := .block 1 pc19_c33
def pc19_c35 : PCode := .seq pc19_c9 pc19_c34
def pc19_c36 : PCode := .loop pc19_c35
def pc19_c37 : PCode := .block 0 pc19_c36
def pc19_o38 : List POper := [{ dst := some 124, op := POp.mv (Operand.tmp 11), guard := none, hints := [] },
  { dst := some 8, op := POp.mv (Operand.tmp 124), guard := none, hints := [] }]
def pc19_c38 : PCode := .region none false pc19_o38
def pc19_c39 : PCode := .ret
def pc19_c40 : PCode := .seq pc19_c38 pc19_c39
def pc19_c41 : PCode := .seq pc19_c37 pc19_c40
def pc19_c42 : PCode := .seq pc19_c4 pc19_c41
def pc19_c43 : PCode := .seq pc19_c3 pc19_c42
def pc19_c44 : PCode := .seq pc19_c2 pc19_c43
def pc19_c45 : PCode := .seq pc19_c1 pc19_c44
def pc19_r : List PRes := [PRes.tmp 8 [(0, 25)]]
def pc19 : PFunc := ⟨125, pc19_r, pc19_c45⟩
def pc19_a : Ann := {
  kr := fun
    | 4 => some ([9, 10, 11, 12, 13], [5, 7, 100011])
    | 8 => some ([9, 10, 11, 12, 13], [14, 100011])
    | 10 => some ([9, 10, 11, 12, 13], [100011])
    | 11 => some ([9, 10, 11, 12, 13], [100011])
    | 13 => some ([9, 10, 11, 12, 13], [100011])
    | 14 => some ([9, 10, 11, 12, 13], [100011])
    | _ => none
  ka := fun
    | 51 => 100011
    | 88 => 100011
    | 121 => 100011
    | _ => 0
  kh := fun
    | 0 => some (Hint.imm)
    | 2 => some (Hint.imm)
    | 5 => some (Hint.at_ 5 0)
    | 7 => some (Hint.at_ 7 0)
    | 9 => some (Hint.imm)
    | 10 => some (Hint.imm)
    | 11 => some (Hint.obj 100011)
    | 12 => some (Hint.imm)
    | 13 => some (Hint.imm)
    | 14 => some (Hint.at_ 14 0)
    | 16 => some (Hint.imm)
    | 17 => some (Hint.imm)
    | 18 => some (Hint.imm)
    | 19 => some (Hint.imm)
    | 20 => some (Hint.imm)
    | 21 => some (Hint.imm)
    | 33 => some (Hint.imm)
    | 34 => some (Hint.imm)
    | 35 => some (Hint.imm)
    | 36 => some (Hint.imm)
    | 37 => some (Hint.imm)
    | 38 => some (Hint.imm)
    | 39 => some (Hint.imm)
    | 40 => some (Hint.imm)
    | 42 => some (Hint.imm)
    | 43 => some (Hint.imm)
    | 57 => some (Hint.imm)
    | 58 => some (Hint.imm)
    | 59 => some (Hint.imm)
    | 60 => some (Hint.imm)
    | 61 => some (Hint.imm)
    | 62 => some (Hint.imm)
    | 63 => some (Hint.imm)
    | 64 => some (Hint.imm)
    | 65 => some (Hint.imm)
    | 66 => some (Hint.imm)
    | 67 => some (Hint.imm)
    | 68 => some (Hint.imm)
    | 69 => some (Hint.imm)
    | 70 => some (Hint.imm)
    | 71 => some (Hint.imm)
    | 72 => some (Hint.imm)
    | 73 => some (Hint.imm)
    | 74 => some (Hint.imm)
    | 75 => some (Hint.imm)
    | 76 => some (Hint.imm)
    | 77 => some (Hint.imm)
    | 78 => some (Hint.imm)
    | 79 => some (Hint.imm)
    | 92 => some (Hint.imm)
    | 93 => some (Hint.imm)
    | 94 => some (Hint.imm)
    | 95 => some (Hint.imm)
    | 96 => some (Hint.imm)
    | 97 => some (Hint.imm)
    | 98 => some (Hint.imm)
    | 99 => some (Hint.imm)
    | 100 => some (Hint.imm)
    | 101 => some (Hint.imm)
    | 102 => some (Hint.imm)
    | 103 => some (Hint.imm)
    | 104 => some (Hint.imm)
    | 105 => some (Hint.imm)
    | 106 => some (Hint.imm)
    | 107 => some (Hint.imm)
    | 108 => some (Hint.imm)
    | 109 => some (Hint.obj 100011)
    | 110 => some (Hint.imm)
    | 111 => some (Hint.imm)
    | 112 => some (Hint.imm)
    | 113 => some (Hint.imm)
    | 114 => some (Hint.imm)
    | 115 => some (Hint.imm)
    | 116 => some (Hint.imm)
    | 117 => some (Hint.imm)
    | 118 => some (Hint.imm)
    | 119 => some (Hint.imm)
    | 120 => some (Hint.imm)
    | 121 => some (Hint.obj 100011)
    | _ => none }
theorem pc19_ok : compFn Try.prog pc19_a Try.f19 = some pc19 := by kernel_rfl


-- 20: vedette/vedetteref6.SameAll
def pc20_o1 : List POper := [{ dst := some 4, op := POp.mv (Operand.const (Value.bool false)), guard := none, hints := [] }]
def pc20_c1 : PCode := .region none false pc20_o1
def pc20_o2 : List POper := [{ dst := some 6, op := POp.mv (Operand.tmp 0), guard := none, hints := [] },
  { dst := some 7, op := POp.lenS (Operand.tmp 6), guard := none, hints := [] },
  { dst := some 8, op := POp.mv (Operand.tmp 1), guard := none, hints := [] },
  { dst := some 9, op := POp.lenS (Operand.tmp 8), guard := none, hints := [] },
  { dst := some 10, op := POp.prim (Prim.bin BinOp.neq 3 false false) [Operand.tmp 7, Operand.tmp 9], guard := none, hints := [] }]
def pc20_c2 : PCode := .region none false pc20_o2
def pc20_o3 : List POper := [{ dst := some 4, op := POp.mv (Operand.const (Value.bool false)), guard := none, hints := [] }]
def pc20_c3 : PCode := .region none false pc20_o3
def pc20_c4 : PCode := .ret
def pc20_c5 : PCode := .seq pc20_c3 pc20_c4
def pc20_c6 : PCode := .skip
def pc20_c7 : PCode := .cond (Operand.tmp 10) pc20_c5 pc20_c6
def pc20_c8 : PCode := .seq pc20_c2 pc20_c7
def pc20_o9 : List POper := [{ dst := some 5, op := POp.mv (Operand.const (Value.int IntKind.i64 0)), guard := none, hints := [] }]
def pc20_c9 : PCode := .region none false pc20_o9
def pc20_o10 : List POper := [{ dst := some 11, op := POp.mv (Operand.tmp 5), guard := none, hints := [] },
  { dst := some 12, op := POp.mv (Operand.tmp 0), guard := none, hints := [] },
  { dst := some 13, op := POp.lenS (Operand.tmp 12), guard := none, hints := [] },
  { dst := some 14, op := POp.prim (Prim.bin BinOp.lss 3 false false) [Operand.tmp 11, Operand.tmp 13], guard := none, hints := [] }]
def pc20_c10 : PCode := .region (some ([0, 1, 5], [])) false pc20_o10
def pc20_c11 : PCode := .skip
def pc20_c12 : PCode := .exit 0
def pc20_c13 : PCode := .cond (Operand.tmp 14) pc20_c11 pc20_c12
def pc20_c14 : PCode := .seq pc20_c10 pc20_c13
def pc20_o15 : List POper := [{ dst := some 17, op := POp.mv (Operand.tmp 0), guard := none, hints := [(0, Hint.imm)] },
  { dst := some 18, op := POp.mv (Operand.tmp 5), guard := none, hints := [(5, Hint.imm)] },
  { dst := some 19, op := POp.iaddrS 11 (Operand.tmp 17) (Operand.tmp 18), guard := none, hints := [(17, Hint.imm), (18, Hint.imm)] },
  { dst := some 20, op := POp.load true 11 (Operand.tmp 19), guard := none, hints := [(19, Hint.imm)] },
  { dst := some 21, op := POp.mv (Operand.tmp 1), guard := none, hints := [(1, Hint.imm)] },
  { dst := some 22, op := POp.mv (Operand.tmp 5), guard := none, hints := [(5, Hint.imm)] },
  { dst := some 23, op := POp.iaddrS 11 (Operand.tmp 21) (Operand.tmp 22), guard := none, hints := [(21, Hint.imm), (22, Hint.imm)] },
  { dst := some 24, op := POp.load true 11 (Operand.tmp 23), guard := none, hints := [(23, Hint.imm)] },
  { dst := some 25, op := POp.prim (Prim.bin BinOp.neq 39 false false) [Operand.tmp 20, Operand.tmp 24], guard := none, hints := [(20, Hint.imm), (24, Hint.imm)] }]
def pc20_c15 : PCode := .region none true pc20_o15
def pc20_o16 : List POper := [{ dst := some 4, op := POp.mv (Operand.const (Value.bool false)), guard := none, hints := [] }]
def pc20_c16 : PCode := .region none false pc20_o16
def pc20_c17 : PCode := .ret
def pc20_c18 : PCode := .seq pc20_c16 pc20_c17
def pc20_c19 : PCode := .skip
def pc20_c20 : PCode := .cond (Operand.tmp 25) pc20_c18 pc20_c19
def pc20_c21 : PCode := .seq pc20_c15 pc20_c20
def pc20_c22 : PCode := .block 1 pc20_c21
def pc20_o23 : List POper := [{ dst := some 15, op := POp.mv (Operand.tmp 5), guard := none, hints := [] },
  { dst := some 16, op := POp.prim (Prim.bin BinOp.add 3 false true) [Operand.tmp 15, Operand.const (Value.int IntKind.i64 1)], guard := none, hints := [] },
  { dst := some 5, op := POp.mv (Operand.tmp 16), guard := none, hints := [] }]
def pc20_c23 : PCode := .region none false pc20_o23
def pc20_c24 : PCode := .seq pc20_c22 pc20_c23
def pc20_c25 : PCode := .seq pc20_c14 pc20_c24
def pc20_c26 : PCode := .loop pc20_c25
def pc20_c27 : PCode := .block 0 pc20_c26
def pc20_c28 : PCode := .seq pc20_c9 pc20_c27
def pc20_o29 : List POper := [{ dst := some 4, op := POp.mv (Operand.const (Value.bool true)), guard := none, hints := [] }]
def pc20_c29 : PCode := .region none false pc20_o29
def pc20_c30 : PCode := .ret
def pc20_c31 : PCode := .seq pc20_c29 pc20_c30
def pc20_c32 : PCode := .seq pc20_c28 pc20_c31
def pc20_c33 : PCode := .seq pc20_c8 pc20_c32
def pc20_c34 : PCode := .seq pc20_c1 pc20_c33
def pc20_r : List PRes := [PRes.tmp 4 []]
def pc20 : PFunc := ⟨26, pc20_r, pc20_c34⟩
def pc20_a : Ann := {
  kr := fun
    | 4 => some ([0, 1, 5], [])
    | _ => none
  ka := fun
    | _ => 0
  kh := fun
    | 0 => some (Hint.imm)
    | 1 => some (Hint.imm)
    | 5 => some (Hint.imm)
    | 17 => some (Hint.imm)
    | 18 => some (Hint.imm)
    | 19 => some (Hint.imm)
    | 20 => some (Hint.imm)
    | 21 => some (Hint.imm)
    | 22 => some (Hint.imm)
    | 23 => some (Hint.imm)
    | 24 => some (Hint.imm)
    | _ => none }
theorem pc20_ok : compFn Try.prog pc20_a Try.f20 = some pc20 := by kernel_rfl


-- 3: vedette/vedettelaw16.DiffTells
def pc3_o1 : List POper := [{ dst := some 6, op := POp.box 24 (Operand.tmp 2), guard := none, hints := [] },
  { dst := some 7, op := POp.box 24 (Operand.tmp 3), guard := none, hints := [] },
  { dst := some 8, op := POp.mv (Operand.const (Value.bool false)), guard := none, hints := [] }]
def pc3_c1 : PCode := .region none false pc3_o1
def pc3_o2 : List POper := [{ dst := some 9, op := POp.call true [] 14 [], guard := none, hints := [] },
  { dst := some 10, op := POp.prim (Prim.un UnOp.not) [Operand.tmp 9], guard := none, hints := [] }]
def pc3_c2 : PCode := .region none false pc3_o2
def pc3_o3 : List POper := [{ dst := some 8, op := POp.mv (Operand.const (Value.bool false)), guard := none, hints := [] }]
def pc3_c3 : PCode := .region none false pc3_o3
def pc3_c4 : PCode := .ret
def pc3_c5 : PCode := .seq pc3_c3 pc3_c4
def pc3_c6 : PCode := .skip
def pc3_c7 : PCode := .cond (Operand.tmp 10) pc3_c5 pc3_c6
def pc3_c8 : PCode := .seq pc3_c2 pc3_c7
def pc3_o9 : List POper := [{ dst := some 11, op := POp.mv (Operand.tmp 0), guard := none, hints := [] },
  { dst := some 12, op := POp.call true [[(0, 11)]] 15 [Operand.tmp 11], guard := none, hints := [] },
  { dst := some 13, op := POp.prim (Prim.un UnOp.not) [Operand.tmp 12], guard := none, hints := [] },
  { dst := some 14, op := POp.mv (Operand.tmp 13), guard := none, hints := [] },
  { dst := some 15, op := POp.mv (Operand.tmp 1), guard := some (14, false), hints := [] },
  { dst := some 16, op := POp.call true [[(0, 11)]] 15 [Operand.tmp 15], guard := some (14, false), hints := [] },
  { dst := some 17, op := POp.prim (Prim.un UnOp.not) [Operand.tmp 16], guard := some (14, false), hints := [] },
  { dst := some 18, op := POp.pick (Operand.tmp 14) (Operand.const (Value.bool true)) (Operand.tmp 17), guard := none, hints := [] },
  { dst := some 19, op := POp.mv (Operand.tmp 18), guard := none, hints := [] },
  { dst := some 20, op := POp.mv (Operand.tmp 0), guard := some (19, false), hints := [] },
  { dst := some 21, op := POp.call true [[(0, 11)]] 16 [Operand.tmp 20], guard := some (19, false), hints := [] },
  { dst := some 22, op := POp.prim (Prim.un UnOp.not) [Operand.tmp 21], guard := some (19, false), hints := [] },
  { dst := some 23, op := POp.pick (Operand.tmp 19) (Operand.const (Value.bool true)) (Operand.tmp 22), guard := none, hints := [] },
  { dst := some 24, op := POp.mv (Operand.tmp 23), guard := none, hints := [] },
  { dst := some 25, op := POp.mv (Operand.tmp 1), guard := some (24, false), hints := [] },
  { dst := some 26, op := POp.call true [[(0, 11)]] 16 [Operand.tmp 25], guard := some (24, false), hints := [] },
  { dst := some 27, op := POp.prim (Prim.un UnOp.not) [Operand.tmp 26], guard := some (24, false), hints := [] },
  { dst := some 28, op := POp.pick (Operand.tmp 24) (Operand.const (Value.bool true)) (Operand.tmp 27), guard := none, hints := [] }]
def pc3_c9 : PCode := .region none false pc3_o9
def pc3_o10 : List POper := [{ dst := some 8, op := POp.mv (Operand.const (Value.bool true)), guard := none, hints := [] }]
def pc3_c10 : PCode := .region none false pc3_o10
def pc3_c11 : PCode := .ret
def pc3_c12 : PCode := .seq pc3_c10 pc3_c11
def pc3_c13 : PCode := .skip
def pc3_c14 : PCode := .cond (Operand.tmp 28) pc3_c12 pc3_c13
def pc3_c15 : PCode := .seq pc3_c9 pc3_c14
def pc3_o16 : List POper := [{ dst := some 29, op := POp.mv (Operand.tmp 0), guard := none, hints := [(0, Hint.imm)] },
  { dst := some 30, op := POp.load true 4 (Operand.tmp 6), guard := none, hints := [(6, Hint.at_ 6 0)] },
  { dst := some 31, op := POp.mv (Operand.tmp 1), guard := none, hints := [(1, Hint.imm)] },
  { dst := some 32, op := POp.load true 4 (Operand.tmp 7), guard := none, hints := [(7, Hint.at_ 7 0)] },
  { dst := some 33, op := POp.call false [[(0, 11)], [], [(0, 11)], []] 18 [Operand.tmp 29, Operand.tmp 30, Operand.tmp 31, Operand.tmp 32], guard := none, hints := [(29, Hint.imm), (30, Hint.imm), (31, Hint.imm), (32, Hint.imm)] },
  { dst := some 34, op := POp.mv (Operand.tmp 0), guard := none, hints := [(0, Hint.imm)] },
  { dst := some 35, op := POp.load true 4 (Operand.tmp 6), guard := none, hints := [(6, Hint.at_ 6 0)] },
  { dst := some 36, op := POp.mv (Operand.tmp 1), guard := none, hints := [(1, Hint.imm)] },
  { dst := some 37, op := POp.load true 4 (Operand.tmp 7), guard := none, hints := [(7, Hint.at_ 7 0)] },
  { dst := some 38, op := POp.call false [[(0, 11)], [], [(0, 11)], []] 19 [Operand.tmp 34, Operand.tmp 35, Operand.tmp 36, Operand.tmp 37], guard := none, hints := [(34, Hint.imm), (35, Hint.imm), (36, Hint.imm), (37, Hint.imm)] },
  { dst := some 39, op := POp.call false [[(0, 25)], [(0, 25)]] 17 [Operand.tmp 33, Operand.tmp 38], guard := none, hints := [(33, Hint.imm), (38, Hint.imm)] },
  { dst := some 40, op := POp.mv (Operand.tmp 39), guard := none, hints := [(39, Hint.imm)] },
  { dst := some 41, op := POp.mv (Operand.tmp 0), guard := some (40, true), hints := [(0, Hint.imm)] },
  { dst := some 42, op := POp.load true 4 (Operand.tmp 6), guard := some (40, true), hints := [(6, Hint.at_ 6 0)] },
  { dst := some 43, op := POp.call false [[(0, 11)], []] 21 [Operand.tmp 41, Operand.tmp 42], guard := some (40, true), hints := [(41, Hint.imm), (42, Hint.imm)] },
  { dst := some 44, op := POp.mv (Operand.tmp 0), guard := some (40, true), hints := [(0, Hint.imm)] },
  { dst := some 45, op := POp.load true 4 (Operand.tmp 6), guard := some (40, true), hints := [(6, Hint.at_ 6 0)] },
  { dst := some 46, op := POp.call false [[(0, 11)], []] 22 [Operand.tmp 44, Operand.tmp 45], guard := some (40, true), hints := [(44, Hint.imm), (45, Hint.imm)] },
  { dst := some 47, op := POp.call false [[(0, 11)], [(0, 11)]] 20 [Operand.tmp 43, Operand.tmp 46], guard := some (40, true), hints := [(43, Hint.imm), (46, Hint.imm)] },
  { dst := some 48, op := POp.pick (Operand.tmp 40) (Operand.tmp 47) (Operand.const (Value.bool false)), guard := none, hints := [(40, Hint.imm), (47, Hint.imm)] },
  { dst := some 8, op := POp.mv (Operand.tmp 48), guard := none, hints := [(48, Hint.imm)] }]
def pc3_c16 : PCode := .region none true pc3_o16
def pc3_c17 : PCode := .ret
def pc3_c18 : PCode := .seq pc3_c16 pc3_c17
def pc3_c19 : PCode := .seq pc3_c15 pc3_c18
def pc3_c20 : PCode := .seq pc3_c8 pc3_c19
def pc3_c21 : PCode := .seq pc3_c1 pc3_c20
def pc3_r : List PRes := [PRes.tmp 8 []]
def pc3 : PFunc := ⟨49, pc3_r, pc3_c21⟩
def pc3_a : Ann := {
  kr := fun
    | _ => none
  ka := fun
    | _ => 0
  kh := fun
    | 0 => some (Hint.imm)
    | 1 => some (Hint.imm)
    | 6 => some (Hint.at_ 6 0)
    | 7 => some (Hint.at_ 7 0)
    | 29 => some (Hint.imm)
    | 30 => some (Hint.imm)
    | 31 => some (Hint.imm)
    | 32 => some (Hint.imm)
    | 33 => some (Hint.imm)
    | 34 => some (Hint.imm)
    | 35 => some (Hint.imm)
    | 36 => some (Hint.imm)
    | 37 => some (Hint.imm)
    | 38 => some (Hint.imm)
    | 39 => some (Hint.imm)
    | 40 => some (Hint.imm)
    | 41 => some (Hint.imm)
    | 42 => some (Hint.imm)
    | 43 => some (Hint.imm)
    | 44 => some (Hint.imm)
    | 45 => some (Hint.imm)
    | 46 => some (Hint.imm)
    | 47 => some (Hint.imm)
    | 48 => some (Hint.imm)
    | _ => none }
theorem pc3_ok : compFn Try.prog pc3_a Try.f3 = some pc3 := by kernel_rfl


-- 4: vedette/vedettelaw16.DiffParts
def pc4_o1 : List POper := [{ dst := some 7, op := POp.box 24 (Operand.tmp 2), guard := none, hints := [] },
  { dst := some 8, op := POp.box 24 (Operand.tmp 3), guard := none, hints := [] },
  { dst := some 10, op := POp.mv (Operand.const (Value.bool false)), guard := none, hints := [] }]
def pc4_c1 : PCode := .region none false pc4_o1
def pc4_o2 : List POper := [{ dst := some 15, op := POp.call true [] 14 [], guard := none, hints := [] },
  { dst := some 16, op := POp.prim (Prim.un UnOp.not) [Operand.tmp 15], guard := none, hints := [] }]
def pc4_c2 : PCode := .region none false pc4_o2
def pc4_o3 : List POper := [{ dst := some 10, op := POp.mv (Operand.const (Value.bool false)), guard := none, hints := [] }]
def pc4_c3 : PCode := .region none false pc4_o3
def pc4_c4 : PCode := .ret
def pc4_c5 : PCode := .seq pc4_c3 pc4_c4
def pc4_c6 : PCode := .skip
def pc4_c7 : PCode := .cond (Operand.tmp 16) pc4_c5 pc4_c6
def pc4_c8 : PCode := .seq pc4_c2 pc4_c7
def pc4_o9 : List POper := [{ dst := some 17, op := POp.mv (Operand.tmp 0), guard := none, hints := [] },
  { dst := some 18, op := POp.call true [[(0, 11)]] 15 [Operand.tmp 17], guard := none, hints := [] },
  { dst := some 19, op := POp.prim (Prim.un UnOp.not) [Operand.tmp 18], guard := none, hints := [] },
  { dst := some 20, op := POp.mv (Operand.tmp 19), guard := none, hints := [] },
  { dst := some 21, op := POp.mv (Operand.tmp 1), guard := some (20, false), hints := [] },
  { dst := some 22, op := POp.call true [[(0, 11)]] 15 [Operand.tmp 21], guard := some (20, false), hints := [] },
  { dst := some 23, op := POp.prim (Prim.un UnOp.not) [Operand.tmp 22], guard := some (20, false), hints := [] },
  { dst := some 24, op := POp.pick (Operand.tmp 20) (Operand.const (Value.bool true)) (Operand.tmp 23), guard := none, hints := [] },
  { dst := some 25, op := POp.mv (Operand.tmp 24), guard := none, hints := [] },
  { dst := some 26, op := POp.mv (Operand.tmp 0), guard := some (25, false), hints := [] },
  { dst := some 27, op := POp.call true [[(0, 11)]] 16 [Operand.tmp 26], guard := some (25, false), hints := [] },
  { dst := some 28, op := POp.prim (Prim.un UnOp.not) [Operand.tmp 27], guard := some (25, false), hints := [] },
  { dst := some 29, op := POp.pick (Operand.tmp 25) (Operand.const (Value.bool true)) (Operand.tmp 28), guard := none, hints := [] },
  { dst := some 30, op := POp.mv (Operand.tmp 29), guard := none, hints := [] },
  { dst := some 31, op := POp.mv (Operand.tmp 1), guard := some (30, false), hints := [] },
  { dst := some 32, op := POp.call true [[(0, 11)]] 16 [Operand.tmp 31], guard := some (30, false), hints := [] },
  { dst := some 33, op := POp.prim (Prim.un UnOp.not) [Operand.tmp 32], guard := some (30, false), hints := [] },
  { dst := some 34, op := POp.pick (Operand.tmp 30) (Operand.const (Value.bool true)) (Operand.tmp 33), guard := none, hints := [] }]
def pc4_c9 : PCode := .region none false pc4_o9
def pc4_o10 : List POper := [{ dst := some 10, op := POp.mv (Operand.const (Value.bool true)), guard := none, hints := [] }]
def pc4_c10 : PCode := .region none false pc4_o10
def pc4_c11 : PCode := .ret
def pc4_c12 : PCode := .seq pc4_c10 pc4_c11
def pc4_c13 : PCode := .skip
def pc4_c14 : PCode := .cond (Operand.tmp 34) pc4_c12 pc4_c13
def pc4_c15 : PCode := .seq pc4_c9 pc4_c14
def pc4_o16 : List POper := [{ dst := some 35, op := POp.mv (Operand.tmp 4), guard := none, hints := [] },
  { dst := some 36, op := POp.prim (Prim.conv 5 3) [Operand.tmp 35], guard := none, hints := [] },
  { dst := some 11, op := POp.mv (Operand.tmp 36), guard := none, hints := [] }]
def pc4_c16 : PCode := .region none false pc4_o16
def pc4_o17 : List POper := [{ dst := some 12, op := POp.mv (Operand.const (Value.int IntKind.i64 0)), guard := none, hints := [] },
  { dst := some 13, op := POp.mv (Operand.const (Value.int IntKind.i64 0)), guard := none, hints := [] }]
def pc4_c17 : PCode := .region none false pc4_o17
def pc4_o18 : List POper := [{ dst := some 37, op := POp.mv (Operand.tmp 12), guard := none, hints := [] },
  { dst := some 38, op := POp.mv (Operand.tmp 0), guard := none, hints := [] },
  { dst := some 39, op := POp.lenS (Operand.tmp 38), guard := none, hints := [] },
  { dst := some 40, op := POp.prim (Prim.bin BinOp.lss 3 false false) [Operand.tmp 37, Operand.tmp 39], guard := none, hints := [] },
  { dst := some 41, op := POp.mv (Operand.tmp 40), guard := none, hints := [] },
  { dst := some 42, op := POp.mv (Operand.tmp 0), guard := some (41, true), hints := [] },
  { dst := some 43, op := POp.mv (Operand.tmp 12), guard := some (41, true), hints := [] },
  { dst := some 44, op := POp.iaddrS 11 (Operand.tmp 42) (Operand.tmp 43), guard := some (41, true), hints := [] },
  { dst := some 45, op := POp.faddr 0 (Operand.tmp 44), guard := some (41, true), hints := [] },
  { dst := some 46, op := POp.load false 1 (Operand.tmp 45), guard := some (41, true), hints := [] },
  { dst := some 47, op := POp.mv (Operand.tmp 11), guard := some (41, true), hints := [] },
  { dst := some 48, op := POp.prim (Prim.bin BinOp.lss 3 false false) [Operand.tmp 46, Operand.tmp 47], guard := some (41, true), hints := [] },
  { dst := some 49, op := POp.pick (Operand.tmp 41) (Operand.tmp 48) (Operand.const (Value.bool false)), guard := none, hints := [] }]
def pc4_c18 : PCode := .region (some ([0, 1, 7, 8, 11, 12, 13], [7, 8])) false pc4_o18
def pc4_c19 : PCode := .skip
def pc4_c20 : PCode := .exit 0
def pc4_c21 : PCode := .cond (Operand.tmp 49) pc4_c19 pc4_c20
def pc4_c22 : PCode := .seq pc4_c18 pc4_c21
def pc4_o23 : List POper := [{ dst := some 50, op := POp.mv (Operand.tmp 12), guard := none, hints := [] },
  { dst := some 51, op := POp.prim (Prim.bin BinOp.add 3 false true) [Operand.tmp 50, Operand.const (Value.int IntKind.i64 1)], guard := none, hints := [] },
  { dst := some 12, op := POp.mv (Operand.tmp 51), guard := none, hints := [] }]
def pc4_c23 : PCode := .region none false pc4_o23
def pc4_c24 : PCode := .block 1 pc4_c23
def pc4_c25 : PCode := .seq pc4_c22 pc4_c24
def pc4_c26 : PCode := .loop pc4_c25
def pc4_c27 : PCode := .block 0 pc4_c26
def pc4_o28 : List POper := [{ dst := some 52, op := POp.mv (Operand.tmp 13), guard := none, hints := [] },
  { dst := some 53, op := POp.mv (Operand.tmp 1), guard := none, hints := [] },
  { dst := some 54, op := POp.lenS (Operand.tmp 53), guard := none, hints := [] },
  { dst := some 55, op := POp.prim (Prim.bin BinOp.lss 3 false false) [Operand.tmp 52, Operand.tmp 54], guard := none, hints := [] },
  { dst := some 56, op := POp.mv (Operand.tmp 55), guard := none, hints := [] },
  { dst := some 57, op := POp.mv (Operand.tmp 1), guard := some (56, true), hints := [] },
  { dst := some 58, op := POp.mv (Operand.tmp 13), guard := some (56, true), hints := [] },
  { dst := some 59, op := POp.iaddrS 11 (Operand.tmp 57) (Operand.tmp 58), guard := some (56, true), hints := [] },
  { dst := some 60, op := POp.faddr 0 (Operand.tmp 59), guard := some (56, true), hints := [] },
  { dst := some 61, op := POp.load false 1 (Operand.tmp 60), guard := some (56, true), hints := [] },
  { dst := some 62, op := POp.mv (Operand.tmp 11), guard := some (56, true), hints := [] },
  { dst := some 63, op := POp.prim (Prim.bin BinOp.lss 3 false false) [Operand.tmp 61, Operand.tmp 62], guard := some (56, true), hints := [] },
  { dst := some 64, op := POp.pick (Operand.tmp 56) (Operand.tmp 63) (Operand.const (Value.bool false)), guard := none, hints := [] }]
def pc4_c28 : PCode := .region (some ([0, 1, 7, 8, 11, 12, 13], [7, 8])) false pc4_o28
def pc4_c29 : PCode := .skip
def pc4_c30 : PCode := .exit 2
def pc4_c31 : PCode := .cond (Operand.tmp 64) pc4_c29 pc4_c30
def pc4_c32 : PCode := .seq pc4_c28 pc4_c31
def pc4_o33 : List POper := [{ dst := some 65, op := POp.mv (Operand.tmp 13), guard := none, hints := [] },
  { dst := some 66, op := POp.prim (Prim.bin BinOp.add 3 false true) [Operand.tmp 65, Operand.const (Value.int IntKind.i64 1)], guard := none, hints := [] },
  { dst := some 13, op := POp.mv (Operand.tmp 66), guard := none, hints := [] }]
def pc4_c33 : PCode := .region none false pc4_o33
def pc4_c34 : PCode := .block 3 pc4_c33
def pc4_c35 : PCode := .seq pc4_c32 pc4_c34
def pc4_c36 : PCode := .loop pc4_c35
def pc4_c37 : PCode := .block 2 pc4_c36
def pc4_o38 : List POper := [{ dst := some 67, op := POp.mv (Operand.tmp 0), guard := none, hints := [(0, Hint.imm)] },
  { dst := some 68, op := POp.mv (Operand.tmp 12), guard := none, hints := [(12, Hint.imm)] },
  { dst := some 69, op := POp.slc 11 (Operand.tmp 67) none (some (Operand.tmp 68)), guard := none, hints := [(67, Hint.imm), (68, Hint.imm)] },
  { dst := some 70, op := POp.load true 4 (Operand.tmp 7), guard := none, hints := [(7, Hint.at_ 7 0)] },
  { dst := some 71, op := POp.mv (Operand.tmp 1), guard := none, hints := [(1, Hint.imm)] },
  { dst := some 72, op := POp.mv (Operand.tmp 13), guard := none, hints := [(13, Hint.imm)] },
  { dst := some 73, op := POp.slc 11 (Operand.tmp 71) none (some (Operand.tmp 72)), guard := none, hints := [(71, Hint.imm), (72, Hint.imm)] },
  { dst := some 74, op := POp.load true 4 (Operand.tmp 8), guard := none, hints := [(8, Hint.at_ 8 0)] },
  { dst := some 75, op := POp.call false [[(0, 11)], [], [(0, 11)], []] 18 [Operand.tmp 69, Operand.tmp 70, Operand.tmp 73, Operand.tmp 74], guard := none, hints := [(69, Hint.imm), (70, Hint.imm), (73, Hint.imm), (74, Hint.imm)] },
  { dst := some 76, op := POp.app 100076 45 25 264 (Operand.const (Value.slice none 0 0)) (Operand.tmp 75), guard := none, hints := [(75, Hint.imm)] },
  { dst := some 77, op := POp.mv (Operand.tmp 0), guard := none, hints := [(0, Hint.imm)] },
  { dst := some 78, op := POp.mv (Operand.tmp 12), guard := none, hints := [(12, Hint.imm)] },
  { dst := some 79, op := POp.slc 11 (Operand.tmp 77) (some (Operand.tmp 78)) none, guard := none, hints := [(77, Hint.imm), (78, Hint.imm)] },
  { dst := some 80, op := POp.load true 4 (Operand.tmp 7), guard := none, hints := [(7, Hint.at_ 7 0)] },
  { dst := some 81, op := POp.mv (Operand.tmp 1), guard := none, hints := [(1, Hint.imm)] },
  { dst := some 82, op := POp.mv (Operand.tmp 13), guard := none, hints := [(13, Hint.imm)] },
  { dst := some 83, op := POp.slc 11 (Operand.tmp 81) (some (Operand.tmp 82)) none, guard := none, hints := [(81, Hint.imm), (82, Hint.imm)] },
  { dst := some 84, op := POp.load true 4 (Operand.tmp 8), guard := none, hints := [(8, Hint.at_ 8 0)] },
  { dst := some 85, op := POp.call false [[(0, 11)], [], [(0, 11)], []] 18 [Operand.tmp 79, Operand.tmp 80, Operand.tmp 83, Operand.tmp 84], guard := none, hints := [(79, Hint.imm), (80, Hint.imm), (83, Hint.imm), (84, Hint.imm)] },
  { dst := some 86, op := POp.app 100076 45 25 264 (Operand.tmp 76) (Operand.tmp 85), guard := none, hints := [(76, Hint.obj 100076), (85, Hint.imm)] },
  { dst := some 14, op := POp.mv (Operand.tmp 86), guard := none, hints := [(86, Hint.obj 100076)] }]
def pc4_c38 : PCode := .region (some ([0, 1, 7, 8, 12, 13], [7, 8])) true pc4_o38
def pc4_o39 : List POper := [{ dst := some 87, op := POp.mv (Operand.tmp 14), guard := none, hints := [] },
  { dst := some 88, op := POp.mv (Operand.tmp 0), guard := none, hints := [] },
  { dst := some 89, op := POp.load true 4 (Operand.tmp 7), guard := none, hints := [] },
  { dst := some 90, op := POp.mv (Operand.tmp 1), guard := none, hints := [] },
  { dst := some 91, op := POp.load true 4 (Operand.tmp 8), guard := none, hints := [] },
  { dst := some 92, op := POp.call true [[(0, 11)], [], [(0, 11)], []] 18 [Operand.tmp 88, Operand.tmp 89, Operand.tmp 90, Operand.tmp 91], guard := none, hints := [] },
  { dst := some 93, op := POp.call true [[(0, 25)], [(0, 25)]] 17 [Operand.tmp 87, Operand.tmp 92], guard := none, hints := [] },
  { dst := some 10, op := POp.mv (Operand.tmp 93), guard := none, hints := [] }]
def pc4_c39 : PCode := .region (some ([0, 1, 7, 8, 14], [7, 8, 100076])) false pc4_o39
def pc4_c40 : PCode := .ret
def pc4_c41 : PCode := .seq pc4_c39 pc4_c40
def pc4_c42 : PCode := .seq pc4_c38 pc4_c41
def pc4_c43 : PCode := .seq pc4_c37 pc4_c42
def pc4_c44 : PCode := .seq pc4_c27 pc4_c43
def pc4_c45 : PCode := .seq pc4_c17 pc4_c44
def pc4_c46 : PCode := .seq pc4_c16 pc4_c45
def pc4_c47 : PCode := .seq pc4_c15 pc4_c46
def pc4_c48 : PCode := .seq pc4_c8 pc4_c47
def pc4_c49 : PCode := .seq pc4_c1 pc4_c48
def pc4_r : List PRes := [PRes.tmp 10 []]
def pc4 : PFunc := ⟨94, pc4_r, pc4_c49⟩
def pc4_a : Ann := {
  kr := fun
    | 7 => some ([0, 1, 7, 8, 11, 12, 13], [7, 8])
    | 9 => some ([0, 1, 7, 8, 11, 12, 13], [7, 8])
    | 11 => some ([0, 1, 7, 8, 12, 13], [7, 8])
    | 12 => some ([0, 1, 7, 8, 14], [7, 8, 100076])
    | _ => none
  ka := fun
    | 76 => 100076
    | 86 => 100076
    | _ => 0
  kh := fun
    | 0 => some (Hint.imm)
    | 1 => some (Hint.imm)
    | 7 => some (Hint.at_ 7 0)
    | 8 => some (Hint.at_ 8 0)
    | 12 => some (Hint.imm)
    | 13 => some (Hint.imm)
    | 67 => some (Hint.imm)
    | 68 => some (Hint.imm)
    | 69 => some (Hint.imm)
    | 70 => some (Hint.imm)
    | 71 => some (Hint.imm)
    | 72 => some (Hint.imm)
    | 73 => some (Hint.imm)
    | 74 => some (Hint.imm)
    | 75 => some (Hint.imm)
    | 76 => some (Hint.obj 100076)
    | 77 => some (Hint.imm)
    | 78 => some (Hint.imm)
    | 79 => some (Hint.imm)
    | 80 => some (Hint.imm)
    | 81 => some (Hint.imm)
    | 82 => some (Hint.imm)
    | 83 => some (Hint.imm)
    | 84 => some (Hint.imm)
    | 85 => some (Hint.imm)
    | 86 => some (Hint.obj 100076)
    | _ => none }
theorem pc4_ok : compFn Try.prog pc4_a Try.f4 = some pc4 := by kernel_rfl


-- 5: vedette/vedettelaw16.DiffRects
def pc5_o1 : List POper := [{ dst := some 4, op := POp.box 24 (Operand.tmp 1), guard := none, hints := [] },
  { dst := some 5, op := POp.box 24 (Operand.tmp 2), guard := none, hints := [] },
  { dst := some 6, op := POp.mv (Operand.const (Value.bool false)), guard := none, hints := [] }]
def pc5_c1 : PCode := .region none false pc5_o1
def pc5_o2 : List POper := [{ dst := some 13, op := POp.call true [] 14 [], guard := none, hints := [] },
  { dst := some 14, op := POp.prim (Prim.un UnOp.not) [Operand.tmp 13], guard := none, hints := [] }]
def pc5_c2 : PCode := .region none false pc5_o2
def pc5_o3 : List POper := [{ dst := some 6, op := POp.mv (Operand.const (Value.bool false)), guard := none, hints := [] }]
def pc5_c3 : PCode := .region none false pc5_o3
def pc5_c4 : PCode := .ret
def pc5_c5 : PCode := .seq pc5_c3 pc5_c4
def pc5_c6 : PCode := .skip
def pc5_c7 : PCode := .cond (Operand.tmp 14) pc5_c5 pc5_c6
def pc5_c8 : PCode := .seq pc5_c2 pc5_c7
def pc5_o9 : List POper := [{ dst := some 15, op := POp.mv (Operand.tmp 0), guard := none, hints := [] },
  { dst := some 16, op := POp.call true [[(0, 11)]] 15 [Operand.tmp 15], guard := none, hints := [] },
  { dst := some 17, op := POp.prim (Prim.un UnOp.not) [Operand.tmp 16], guard := none, hints := [] },
  { dst := some 18, op := POp.mv (Operand.tmp 17), guard := none, hints := [] },
  { dst := some 19, op := POp.mv (Operand.tmp 0), guard := some (18, false), hints := [] },
  { dst := some 20, op := POp.call true [[(0, 11)]] 16 [Operand.tmp 19], guard := some (18, false), hints := [] },
  { dst := some 21, op := POp.prim (Prim.un UnOp.not) [Operand.tmp 20], guard := some (18, false), hints := [] },
  { dst := some 22, op := POp.pick (Operand.tmp 18) (Operand.const (Value.bool true)) (Operand.tmp 21), guard := none, hints := [] },
  { dst := some 23, op := POp.mv (Operand.tmp 22), guard := none, hints := [] },
  { dst := some 24, op := POp.faddr 0 (Operand.tmp 4), guard := some (23, false), hints := [] },
  { dst := some 25, op := POp.load false 1 (Operand.tmp 24), guard := some (23, false), hints := [] },
  { dst := some 26, op := POp.faddr 1 (Operand.tmp 4), guard := some (23, false), hints := [] },
  { dst := some 27, op := POp.load false 1 (Operand.tmp 26), guard := some (23, false), hints := [] },
  { dst := some 28, op := POp.faddr 0 (Operand.tmp 5), guard := some (23, false), hints := [] },
  { dst := some 29, op := POp.load false 1 (Operand.tmp 28), guard := some (23, false), hints := [] },
  { dst := some 30, op := POp.faddr 1 (Operand.tmp 5), guard := some (23, false), hints := [] },
  { dst := some 31, op := POp.load false 1 (Operand.tmp 30), guard := some (23, false), hints := [] },
  { dst := some 32, op := POp.prim Prim.min [Operand.tmp 25, Operand.tmp 27, Operand.tmp 29, Operand.tmp 31], guard := some (23, false), hints := [] },
  { dst := some 33, op := POp.prim (Prim.bin BinOp.lss 3 false true) [Operand.tmp 32, Operand.const (Value.int IntKind.i64 (-10000))], guard := some (23, false), hints := [] },
  { dst := some 34, op := POp.pick (Operand.tmp 23) (Operand.const (Value.bool true)) (Operand.tmp 33), guard := none, hints := [] },
  { dst := some 35, op := POp.mv (Operand.tmp 34), guard := none, hints := [] },
  { dst := some 36, op := POp.faddr 2 (Operand.tmp 4), guard := some (35, false), hints := [] },
  { dst := some 37, op := POp.load false 1 (Operand.tmp 36), guard := some (35, false), hints := [] },
  { dst := some 38, op := POp.faddr 3 (Operand.tmp 4), guard := some (35, false), hints := [] },
  { dst := some 39, op := POp.load false 1 (Operand.tmp 38), guard := some (35, false), hints := [] },
  { dst := some 40, op := POp.faddr 2 (Operand.tmp 5), guard := some (35, false), hints := [] },
  { dst := some 41, op := POp.load false 1 (Operand.tmp 40), guard := some (35, false), hints := [] },
  { dst := some 42, op := POp.faddr 3 (Operand.tmp 5), guard := some (35, false), hints := [] },
  { dst := some 43, op := POp.load false 1 (Operand.tmp 42), guard := some (35, false), hints := [] },
  { dst := some 44, op := POp.prim Prim.max [Operand.tmp 37, Operand.tmp 39, Operand.tmp 41, Operand.tmp 43], guard := some (35, false), hints := [] },
  { dst := some 45, op := POp.prim (Prim.bin BinOp.gtr 3 false true) [Operand.tmp 44, Operand.const (Value.int IntKind.i64 10000)], guard := some (35, false), hints := [] },
  { dst := some 46, op := POp.pick (Operand.tmp 35) (Operand.const (Value.bool true)) (Operand.tmp 45), guard := none, hints := [] }]
def pc5_c9 : PCode := .region none false pc5_o9
def pc5_o10 : List POper := [{ dst := some 6, op := POp.mv (Operand.const (Value.bool true)), guard := none, hints := [] }]
def pc5_c10 : PCode := .region none false pc5_o10
def pc5_c11 : PCode := .ret
def pc5_c12 : PCode := .seq pc5_c10 pc5_c11
def pc5_c13 : PCode := .skip
def pc5_c14 : PCode := .cond (Operand.tmp 46) pc5_c12 pc5_c13
def pc5_c15 : PCode := .seq pc5_c9 pc5_c14
def pc5_o16 : List POper := [{ dst := some 47, op := POp.mv (Operand.tmp 0), guard := none, hints := [] },
  { dst := some 48, op := POp.load true 4 (Operand.tmp 4), guard := none, hints := [] },
  { dst := some 49, op := POp.mv (Operand.tmp 0), guard := none, hints := [] },
  { dst := some 50, op := POp.load true 4 (Operand.tmp 5), guard := none, hints := [] },
  { dst := some 51, op := POp.call true [[(0, 11)], [], [(0, 11)], []] 18 [Operand.tmp 47, Operand.tmp 48, Operand.tmp 49, Operand.tmp 50], guard := none, hints := [] },
  { dst := some 7, op := POp.mv (Operand.tmp 51), guard := none, hints := [] }]
def pc5_c16 : PCode := .region none false pc5_o16
def pc5_o17 : List POper := [{ dst := some 8, op := POp.mv (Operand.const (Value.int IntKind.i64 0)), guard := none, hints := [] }]
def pc5_c17 : PCode := .region none false pc5_o17
def pc5_o18 : List POper := [{ dst := some 9, op := POp.mv (Operand.const (Value.int IntKind.i64 0)), guard := none, hints := [] }]
def pc5_c18 : PCode := .region none false pc5_o18
def pc5_o19 : List POper := [{ dst := some 52, op := POp.mv (Operand.tmp 9), guard := none, hints := [] },
  { dst := some 53, op := POp.mv (Operand.tmp 0), guard := none, hints := [] },
  { dst := some 54, op := POp.lenS (Operand.tmp 53), guard := none, hints := [] },
  { dst := some 55, op := POp.prim (Prim.bin BinOp.lss 3 false false) [Operand.tmp 52, Operand.tmp 54], guard := none, hints := [] }]
def pc5_c19 : PCode := .region (some ([0, 4, 5, 7, 8, 9], [4, 5])) false pc5_o19
def pc5_c20 : PCode := .skip
def pc5_c21 : PCode := .exit 0
def pc5_c22 : PCode := .cond (Operand.tmp 55) pc5_c20 pc5_c21
def pc5_c23 : PCode := .seq pc5_c19 pc5_c22
def pc5_o24 : List POper := [{ dst := some 58, op := POp.load true 4 (Operand.tmp 4), guard := none, hints := [(4, Hint.at_ 4 0)] },
  { dst := some 59, op := POp.mv (Operand.tmp 0), guard := none, hints := [(0, Hint.imm)] },
  { dst := some 60, op := POp.mv (Operand.tmp 9), guard := none, hints := [(9, Hint.imm)] },
  { dst := some 61, op := POp.iaddrS 11 (Operand.tmp 59) (Operand.tmp 60), guard := none, hints := [(59, Hint.imm), (60, Hint.imm)] },
  { dst := some 62, op := POp.faddr 1 (Operand.tmp 61), guard := none, hints := [(61, Hint.imm)] },
  { dst := some 63, op := POp.load true 2 (Operand.tmp 62), guard := none, hints := [(62, Hint.imm)] },
  { dst := some 64, op := POp.call false [[], []] 23 [Operand.tmp 58, Operand.tmp 63], guard := none, hints := [(58, Hint.imm), (63, Hint.imm)] },
  { dst := some 65, op := POp.load true 4 (Operand.tmp 5), guard := none, hints := [(5, Hint.at_ 5 0)] },
  { dst := some 66, op := POp.mv (Operand.tmp 0), guard := none, hints := [(0, Hint.imm)] },
  { dst := some 67, op := POp.mv (Operand.tmp 9), guard := none, hints := [(9, Hint.imm)] },
  { dst := some 68, op := POp.iaddrS 11 (Operand.tmp 66) (Operand.tmp 67), guard := none, hints := [(66, Hint.imm), (67, Hint.imm)] },
  { dst := some 69, op := POp.faddr 1 (Operand.tmp 68), guard := none, hints := [(68, Hint.imm)] },
  { dst := some 70, op := POp.load true 2 (Operand.tmp 69), guard := none, hints := [(69, Hint.imm)] },
  { dst := some 71, op := POp.call false [[], []] 23 [Operand.tmp 65, Operand.tmp 70], guard := none, hints := [(65, Hint.imm), (70, Hint.imm)] },
  { dst := some 10, op := POp.mv (Operand.tmp 64), guard := none, hints := [(64, Hint.imm)] },
  { dst := some 11, op := POp.mv (Operand.tmp 71), guard := none, hints := [(71, Hint.imm)] }]
def pc5_c24 : PCode := .region none true pc5_o24
def pc5_o25 : List POper := [{ dst := some 72, op := POp.mv (Operand.tmp 10), guard := none, hints := [] },
  { dst := some 73, op := POp.mv (Operand.tmp 11), guard := none, hints := [] },
  { dst := some 74, op := POp.prim (Prim.bin BinOp.neq 4 false false) [Operand.tmp 72, Operand.tmp 73], guard := none, hints := [] }]
def pc5_c25 : PCode := .region none false pc5_o25
def pc5_o26 : List POper := [{ dst := some 12, op := POp.mv (Operand.const (Value.int IntKind.i64 1)), guard := none, hints := [] }]
def pc5_c26 : PCode := .region none false pc5_o26
def pc5_o27 : List POper := [{ dst := some 75, op := POp.mv (Operand.tmp 10), guard := none, hints := [] }]
def pc5_c27 : PCode := .region none false pc5_o27
def pc5_o28 : List POper := [{ dst := some 12, op := POp.mv (Operand.const (Value.int IntKind.i64 3)), guard := none, hints := [] }]
def pc5_c28 : PCode := .region none false pc5_o28
def pc5_c29 : PCode := .skip
def pc5_c30 : PCode := .cond (Operand.tmp 75) pc5_c28 pc5_c29
def pc5_c31 : PCode := .seq pc5_c27 pc5_c30
def pc5_o32 : List POper := [{ dst := some 76, op := POp.mv (Operand.tmp 8), guard := none, hints := [(8, Hint.imm)] },
  { dst := some 77, op := POp.mv (Operand.tmp 7), guard := none, hints := [(7, Hint.imm)] },
  { dst := some 78, op := POp.lenS (Operand.tmp 77), guard := none, hints := [(77, Hint.imm)] },
  { dst := some 79, op := POp.prim (Prim.bin BinOp.geq 3 false false) [Operand.tmp 76, Operand.tmp 78], guard := none, hints := [(76, Hint.imm), (78, Hint.imm)] },
  { dst := some 80, op := POp.mv (Operand.tmp 79), guard := none, hints := [(79, Hint.imm)] },
  { dst := some 81, op := POp.mv (Operand.tmp 7), guard := some (80, false), hints := [(7, Hint.imm)] },
  { dst := some 82, op := POp.mv (Operand.tmp 8), guard := some (80, false), hints := [(8, Hint.imm)] },
  { dst := some 83, op := POp.iaddrS 25 (Operand.tmp 81) (Operand.tmp 82), guard := some (80, false), hints := [(81, Hint.imm), (82, Hint.imm)] },
  { dst := some 84, op := POp.faddr 1 (Operand.tmp 83), guard := some (80, false), hints := [(83, Hint.imm)] },
  { dst := some 85, op := POp.load false 1 (Operand.tmp 84), guard := some (80, false), hints := [(84, Hint.imm)] },
  { dst := some 86, op := POp.mv (Operand.tmp 0), guard := some (80, false), hints := [(0, Hint.imm)] },
  { dst := some 87, op := POp.mv (Operand.tmp 9), guard := some (80, false), hints := [(9, Hint.imm)] },
  { dst := some 88, op := POp.iaddrS 11 (Operand.tmp 86) (Operand.tmp 87), guard := some (80, false), hints := [(86, Hint.imm), (87, Hint.imm)] },
  { dst := some 89, op := POp.faddr 0 (Operand.tmp 88), guard := some (80, false), hints := [(88, Hint.imm)] },
  { dst := some 90, op := POp.load false 1 (Operand.tmp 89), guard := some (80, false), hints := [(89, Hint.imm)] },
  { dst := some 91, op := POp.prim (Prim.bin BinOp.neq 3 false false) [Operand.tmp 85, Operand.tmp 90], guard := some (80, false), hints := [(85, Hint.imm), (90, Hint.imm)] },
  { dst := some 92, op := POp.pick (Operand.tmp 80) (Operand.const (Value.bool true)) (Operand.tmp 91), guard := none, hints := [(80, Hint.imm), (91, Hint.imm)] },
  { dst := some 93, op := POp.mv (Operand.tmp 92), guard := none, hints := [(92, Hint.imm)] },
  { dst := some 94, op := POp.mv (Operand.tmp 7), guard := some (93, false), hints := [(7, Hint.imm)] },
  { dst := some 95, op := POp.mv (Operand.tmp 8), guard := some (93, false), hints := [(8, Hint.imm)] },
  { dst := some 96, op := POp.iaddrS 25 (Operand.tmp 94) (Operand.tmp 95), guard := some (93, false), hints := [(94, Hint.imm), (95, Hint.imm)] },
  { dst := some 97, op := POp.faddr 0 (Operand.tmp 96), guard := some (93, false), hints := [(96, Hint.imm)] },
  { dst := some 98, op := POp.load false 1 (Operand.tmp 97), guard := some (93, false), hints := [(97, Hint.imm)] },
  { dst := some 99, op := POp.mv (Operand.tmp 12), guard := some (93, false), hints := [(12, Hint.imm)] },
  { dst := some 100, op := POp.prim (Prim.bin BinOp.neq 3 false false) [Operand.tmp 98, Operand.tmp 99], guard := some (93, false), hints := [(98, Hint.imm), (99, Hint.imm)] },
  { dst := some 101, op := POp.pick (Operand.tmp 93) (Operand.const (Value.bool true)) (Operand.tmp 100), guard := none, hints := [(93, Hint.imm), (100, Hint.imm)] }]
def pc5_c32 : PCode := .region (some ([0, 4, 5, 7, 8, 9, 12], [4, 5])) true pc5_o32
def pc5_o33 : List POper := [{ dst := some 6, op := POp.mv (Operand.const (Value.bool false)), guard := none, hints := [] }]
def pc5_c33 : PCode := .region none false pc5_o33
def pc5_c34 : PCode := .ret
def pc5_c35 : PCode := .seq pc5_c33 pc5_c34
def pc5_c36 : PCode := .skip
def pc5_c37 : PCode := .cond (Operand.tmp 101) pc5_c35 pc5_c36
def pc5_c38 : PCode := .seq pc5_c32 pc5_c37
def pc5_o39 : List POper := [{ dst := some 102, op := POp.mv (Operand.tmp 8), guard := none, hints := [] },
  { dst := some 103, op := POp.prim (Prim.bin BinOp.add 3 false true) [Operand.tmp 102, Operand.const (Value.int IntKind.i64 1)], guard := none, hints := [] },
  { dst := some 8, op := POp.mv (Operand.tmp 103), guard := none, hints := [] }]
def pc5_c39 : PCode := .region none false pc5_o39
def pc5_c40 : PCode := .seq pc5_c38 pc5_c39
def pc5_c41 : PCode := .seq pc5_c31 pc5_c40
def pc5_c42 : PCode := .seq pc5_c26 pc5_c41
def pc5_c43 : PCode := .skip
def pc5_c44 : PCode := .cond (Operand.tmp 74) pc5_c42 pc5_c43
def pc5_c45 : PCode := .seq pc5_c25 pc5_c44
def pc5_c46 : PCode := .seq pc5_c24 pc5_c45
def pc5_c47 : PCode := .block 1 pc5_c46
def pc5_o48 : List POper := [{ dst := some 56, op := POp.mv (Operand.tmp 9), guard := none, hints := [] },
  { dst := some 57, op := POp.prim (Prim.bin BinOp.add 3 false true) [Operand.tmp 56, Operand.const (Value.int IntKind.i64 1)], guard := none, hints := [] },
  { dst := some 9, op := POp.mv (Operand.tmp 57), guard := none, hints := [] }]
def pc5_c48 : PCode := .region none false pc5_o48
def pc5_c49 : PCode := .seq pc5_c47 pc5_c48
def pc5_c50 : PCode := .seq pc5_c23 pc5_c49
def pc5_c51 : PCode := .loop pc5_c50
def pc5_c52 : PCode := .block 0 pc5_c51
def pc5_c53 : PCode := .seq pc5_c18 pc5_c52
def pc5_o54 : List POper := [{ dst := some 104, op := POp.mv (Operand.tmp 8), guard := none, hints := [] },
  { dst := some 105, op := POp.mv (Operand.tmp 7), guard := none, hints := [] },
  { dst := some 106, op := POp.lenS (Operand.tmp 105), guard := none, hints := [] },
  { dst := some 107, op := POp.prim (Prim.bin BinOp.eql 3 false false) [Operand.tmp 104, Operand.tmp 106], guard := none, hints := [] },
  { dst := some 6, op := POp.mv (Operand.tmp 107), guard := none, hints := [] }]
def pc5_c54 : PCode := .region none false pc5_o54
def pc5_c55 : PCode := .ret
def pc5_c56 : PCode := .seq pc5_c54 pc5_c55
def pc5_c57 : PCode := .seq pc5_c53 pc5_c56
def pc5_c58 : PCode := .seq pc5_c17 pc5_c57
def pc5_c59 : PCode := .seq pc5_c16 pc5_c58
def pc5_c60 : PCode := .seq pc5_c15 pc5_c59
def pc5_c61 : PCode := .seq pc5_c8 pc5_c60
def pc5_c62 : PCode := .seq pc5_c1 pc5_c61
def pc5_r : List PRes := [PRes.tmp 6 []]
def pc5 : PFunc := ⟨108, pc5_r, pc5_c62⟩
def pc5_a : Ann := {
  kr := fun
    | 8 => some ([0, 4, 5, 7, 8, 9], [4, 5])
    | 15 => some ([0, 4, 5, 7, 8, 9, 12], [4, 5])
    | _ => none
  ka := fun
    | _ => 0
  kh := fun
    | 0 => some (Hint.imm)
    | 4 => some (Hint.at_ 4 0)
    | 5 => some (Hint.at_ 5 0)
    | 7 => some (Hint.imm)
    | 8 => some (Hint.imm)
    | 9 => some (Hint.imm)
    | 12 => some (Hint.imm)
    | 58 => some (Hint.imm)
    | 59 => some (Hint.imm)
    | 60 => some (Hint.imm)
    | 61 => some (Hint.imm)
    | 62 => some (Hint.imm)
    | 63 => some (Hint.imm)
    | 64 => some (Hint.imm)
    | 65 => some (Hint.imm)
    | 66 => some (Hint.imm)
    | 67 => some (Hint.imm)
    | 68 => some (Hint.imm)
    | 69 => some (Hint.imm)
    | 70 => some (Hint.imm)
    | 71 => some (Hint.imm)
    | 76 => some (Hint.imm)
    | 77 => some (Hint.imm)
    | 78 => some (Hint.imm)
    | 79 => some (Hint.imm)
    | 80 => some (Hint.imm)
    | 81 => some (Hint.imm)
    | 82 => some (Hint.imm)
    | 83 => some (Hint.imm)
    | 84 => some (Hint.imm)
    | 85 => some (Hint.imm)
    | 86 => some (Hint.imm)
    | 87 => some (Hint.imm)
    | 88 => some (Hint.imm)
    | 89 => some (Hint.imm)
    | 90 => some (Hint.imm)
    | 91 => some (Hint.imm)
    | 92 => some (Hint.imm)
    | 93 => some (Hint.imm)
    | 94 => some (Hint.imm)
    | 95 => some (Hint.imm)
    | 96 => some (Hint.imm)
    | 97 => some (Hint.imm)
    | 98 => some (Hint.imm)
    | 99 => some (Hint.imm)
    | 100 => some (Hint.imm)
    | _ => none }
theorem pc5_ok : compFn Try.prog pc5_a Try.f5 = some pc5 := by kernel_rfl


-- 6: vedette/vedettelaw16.DiffBlind
def pc6_o1 : List POper := [{ dst := some 5, op := POp.box 24 (Operand.tmp 2), guard := none, hints := [] },
  { dst := some 6, op := POp.mv (Operand.const (Value.bool false)), guard := none, hints := [] }]
def pc6_c1 : PCode := .region none false pc6_o1
def pc6_o2 : List POper := [{ dst := some 12, op := POp.call true [] 14 [], guard := none, hints := [] },
  { dst := some 13, op := POp.prim (Prim.un UnOp.not) [Operand.tmp 12], guard := none, hints := [] }]
def pc6_c2 : PCode := .region none false pc6_o2
def pc6_o3 : List POper := [{ dst := some 6, op := POp.mv (Operand.const (Value.bool false)), guard := none, hints := [] }]
def pc6_c3 : PCode := .region none false pc6_o3
def pc6_c4 : PCode := .ret
def pc6_c5 : PCode := .seq pc6_c3 pc6_c4
def pc6_c6 : PCode := .skip
def pc6_c7 : PCode := .cond (Operand.tmp 13) pc6_c5 pc6_c6
def pc6_c8 : PCode := .seq pc6_c2 pc6_c7
def pc6_o9 : List POper := [{ dst := some 14, op := POp.mv (Operand.tmp 0), guard := none, hints := [] },
  { dst := some 15, op := POp.call true [[(0, 11)]] 15 [Operand.tmp 14], guard := none, hints := [] },
  { dst := some 16, op := POp.prim (Prim.un UnOp.not) [Operand.tmp 15], guard := none, hints := [] },
  { dst := some 17, op := POp.mv (Operand.tmp 16), guard := none, hints := [] },
  { dst := some 18, op := POp.mv (Operand.tmp 1), guard := some (17, false), hints := [] },
  { dst := some 19, op := POp.call true [[(0, 11)]] 15 [Operand.tmp 18], guard := some (17, false), hints := [] },
  { dst := some 20, op := POp.prim (Prim.un UnOp.not) [Operand.tmp 19], guard := some (17, false), hints := [] },
  { dst := some 21, op := POp.pick (Operand.tmp 17) (Operand.const (Value.bool true)) (Operand.tmp 20), guard := none, hints := [] },
  { dst := some 22, op := POp.mv (Operand.tmp 21), guard := none, hints := [] },
  { dst := some 23, op := POp.mv (Operand.tmp 0), guard := some (22, false), hints := [] },
  { dst := some 24, op := POp.call true [[(0, 11)]] 16 [Operand.tmp 23], guard := some (22, false), hints := [] },
  { dst := some 25, op := POp.prim (Prim.un UnOp.not) [Operand.tmp 24], guard := some (22, false), hints := [] },
  { dst := some 26, op := POp.pick (Operand.tmp 22) (Operand.const (Value.bool true)) (Operand.tmp 25), guard := none, hints := [] },
  { dst := some 27, op := POp.mv (Operand.tmp 26), guard := none, hints := [] },
  { dst := some 28, op := POp.mv (Operand.tmp 1), guard := some (27, false), hints := [] },
  { dst := some 29, op := POp.call true [[(0, 11)]] 16 [Operand.tmp 28], guard := some (27, false), hints := [] },
  { dst := some 30, op := POp.prim (Prim.un UnOp.not) [Operand.tmp 29], guard := some (27, false), hints := [] },
  { dst := some 31, op := POp.pick (Operand.tmp 27) (Operand.const (Value.bool true)) (Operand.tmp 30), guard := none, hints := [] }]
def pc6_c9 : PCode := .region none false pc6_o9
def pc6_o10 : List POper := [{ dst := some 6, op := POp.mv (Operand.const (Value.bool true)), guard := none, hints := [] }]
def pc6_c10 : PCode := .region none false pc6_o10
def pc6_c11 : PCode := .ret
def pc6_c12 : PCode := .seq pc6_c10 pc6_c11
def pc6_c13 : PCode := .skip
def pc6_c14 : PCode := .cond (Operand.tmp 31) pc6_c12 pc6_c13
def pc6_c15 : PCode := .seq pc6_c9 pc6_c14
def pc6_o16 : List POper := [{ dst := some 32, op := POp.build (Value.agg { toList := [Value.int IntKind.i64 0, Value.int IntKind.i64 0, Value.int IntKind.i64 0, Value.int IntKind.i64 0] }) [(2, 1, Operand.const (Value.int IntKind.i64 64)), (3, 1, Operand.const (Value.int IntKind.i64 64))], guard := none, hints := [] },
  { dst := some 7, op := POp.alloc 24 (Value.agg { toList := [Value.int IntKind.i64 0, Value.int IntKind.i64 0, Value.int IntKind.i64 0, Value.int IntKind.i64 0] }), guard := none, hints := [] },
  { dst := none, op := POp.store 4 (Operand.tmp 7) (Operand.tmp 32), guard := none, hints := [] }]
def pc6_c16 : PCode := .region none false pc6_o16
def pc6_o17 : List POper := [{ dst := some 33, op := POp.mv (Operand.tmp 0), guard := none, hints := [] },
  { dst := some 34, op := POp.build (Value.agg { toList := [Value.int IntKind.i64 0, Value.int IntKind.i64 0, Value.int IntKind.i64 0, Value.int IntKind.i64 0] }) [], guard := none, hints := [] },
  { dst := some 35, op := POp.mv (Operand.tmp 1), guard := none, hints := [] },
  { dst := some 36, op := POp.load true 4 (Operand.tmp 7), guard := none, hints := [] },
  { dst := some 37, op := POp.call true [[(0, 11)], [], [(0, 11)], []] 18 [Operand.tmp 33, Operand.tmp 34, Operand.tmp 35, Operand.tmp 36], guard := none, hints := [] },
  { dst := some 8, op := POp.mv (Operand.tmp 37), guard := none, hints := [] }]
def pc6_c17 : PCode := .region none false pc6_o17
def pc6_o18 : List POper := [{ dst := some 38, op := POp.mv (Operand.tmp 0), guard := none, hints := [] },
  { dst := some 39, op := POp.load true 4 (Operand.tmp 7), guard := none, hints := [] },
  { dst := some 40, op := POp.mv (Operand.tmp 1), guard := none, hints := [] },
  { dst := some 41, op := POp.build (Value.agg { toList := [Value.int IntKind.i64 0, Value.int IntKind.i64 0, Value.int IntKind.i64 0, Value.int IntKind.i64 0] }) [], guard := none, hints := [] },
  { dst := some 42, op := POp.call true [[(0, 11)], [], [(0, 11)], []] 18 [Operand.tmp 38, Operand.tmp 39, Operand.tmp 40, Operand.tmp 41], guard := none, hints := [] },
  { dst := some 9, op := POp.mv (Operand.tmp 42), guard := none, hints := [] }]
def pc6_c18 : PCode := .region none false pc6_o18
def pc6_o19 : List POper := [{ dst := some 43, op := POp.mv (Operand.tmp 8), guard := none, hints := [] },
  { dst := some 44, op := POp.lenS (Operand.tmp 43), guard := none, hints := [] },
  { dst := some 45, op := POp.mv (Operand.tmp 1), guard := none, hints := [] },
  { dst := some 46, op := POp.lenS (Operand.tmp 45), guard := none, hints := [] },
  { dst := some 47, op := POp.prim (Prim.bin BinOp.neq 3 false false) [Operand.tmp 44, Operand.tmp 46], guard := none, hints := [] },
  { dst := some 48, op := POp.mv (Operand.tmp 47), guard := none, hints := [] },
  { dst := some 49, op := POp.mv (Operand.tmp 9), guard := some (48, false), hints := [] },
  { dst := some 50, op := POp.lenS (Operand.tmp 49), guard := some (48, false), hints := [] },
  { dst := some 51, op := POp.mv (Operand.tmp 0), guard := some (48, false), hints := [] },
  { dst := some 52, op := POp.lenS (Operand.tmp 51), guard := some (48, false), hints := [] },
  { dst := some 53, op := POp.prim (Prim.bin BinOp.neq 3 false false) [Operand.tmp 50, Operand.tmp 52], guard := some (48, false), hints := [] },
  { dst := some 54, op := POp.pick (Operand.tmp 48) (Operand.const (Value.bool true)) (Operand.tmp 53), guard := none, hints := [] },
  { dst := some 55, op := POp.mv (Operand.tmp 54), guard := none, hints := [] },
  { dst := some 56, op := POp.mv (Operand.tmp 0), guard := some (55, false), hints := [] },
  { dst := some 57, op := POp.build (Value.agg { toList := [Value.int IntKind.i64 0, Value.int IntKind.i64 0, Value.int IntKind.i64 0, Value.int IntKind.i64 0] }) [], guard := some (55, false), hints := [] },
  { dst := some 58, op := POp.mv (Operand.tmp 1), guard := some (55, false), hints := [] },
  { dst := some 59, op := POp.build (Value.agg { toList := [Value.int IntKind.i64 0, Value.int IntKind.i64 0, Value.int IntKind.i64 0, Value.int IntKind.i64 0] }) [], guard := some (55, false), hints := [] },
  { dst := some 60, op := POp.call true [[(0, 11)], [], [(0, 11)], []] 18 [Operand.tmp 56, Operand.tmp 57, Operand.tmp 58, Operand.tmp 59], guard := some (55, false), hints := [] },
  { dst := some 61, op := POp.lenS (Operand.tmp 60), guard := some (55, false), hints := [] },
  { dst := some 62, op := POp.prim (Prim.bin BinOp.neq 3 false true) [Operand.tmp 61, Operand.const (Value.int IntKind.i64 0)], guard := some (55, false), hints := [] },
  { dst := some 63, op := POp.pick (Operand.tmp 55) (Operand.const (Value.bool true)) (Operand.tmp 62), guard := none, hints := [] }]
def pc6_c19 : PCode := .region none false pc6_o19
def pc6_o20 : List POper := [{ dst := some 6, op := POp.mv (Operand.const (Value.bool false)), guard := none, hints := [] }]
def pc6_c20 : PCode := .region none false pc6_o20
def pc6_c21 : PCode := .ret
def pc6_c22 : PCode := .seq pc6_c20 pc6_c21
def pc6_c23 : PCode := .skip
def pc6_c24 : PCode := .cond (Operand.tmp 63) pc6_c22 pc6_c23
def pc6_c25 : PCode := .seq pc6_c19 pc6_c24
def pc6_o26 : List POper := [{ dst := some 10, op := POp.mv (Operand.const (Value.int IntKind.i64 0)), guard := none, hints := [] }]
def pc6_c26 : PCode := .region none false pc6_o26
def pc6_o27 : List POper := [{ dst := some 64, op := POp.mv (Operand.tmp 10), guard := none, hints := [] },
  { dst := some 65, op := POp.mv (Operand.tmp 8), guard := none, hints := [] },
  { dst := some 66, op := POp.lenS (Operand.tmp 65), guard := none, hints := [] },
  { dst := some 67, op := POp.prim (Prim.bin BinOp.lss 3 false false) [Operand.tmp 64, Operand.tmp 66], guard := none, hints := [] }]
def pc6_c27 : PCode := .region (some ([0, 1, 7, 8, 9, 10], [5, 7])) false pc6_o27
def pc6_c28 : PCode := .skip
def pc6_c29 : PCode := .exit 0
def pc6_c30 : PCode := .cond (Operand.tmp 67) pc6_c28 pc6_c29
def pc6_c31 : PCode := .seq pc6_c27 pc6_c30
def pc6_o32 : List POper := [{ dst := some 70, op := POp.mv (Operand.tmp 8), guard := none, hints := [(8, Hint.imm)] },
  { dst := some 71, op := POp.mv (Operand.tmp 10), guard := none, hints := [(10, Hint.imm)] },
  { dst := some 72, op := POp.iaddrS 25 (Operand.tmp 70) (Operand.tmp 71), guard := none, hints := [(70, Hint.imm), (71, Hint.imm)] },
  { dst := some 73, op := POp.faddr 0 (Operand.tmp 72), guard := none, hints := [(72, Hint.imm)] },
  { dst := some 74, op := POp.load false 1 (Operand.tmp 73), guard := none, hints := [(73, Hint.imm)] },
  { dst := some 75, op := POp.prim (Prim.bin BinOp.neq 3 false true) [Operand.tmp 74, Operand.const (Value.int IntKind.i64 1)], guard := none, hints := [(74, Hint.imm)] },
  { dst := some 76, op := POp.mv (Operand.tmp 75), guard := none, hints := [(75, Hint.imm)] },
  { dst := some 77, op := POp.mv (Operand.tmp 8), guard := some (76, false), hints := [(8, Hint.imm)] },
  { dst := some 78, op := POp.mv (Operand.tmp 10), guard := some (76, false), hints := [(10, Hint.imm)] },
  { dst := some 79, op := POp.iaddrS 25 (Operand.tmp 77) (Operand.tmp 78), guard := some (76, false), hints := [(77, Hint.imm), (78, Hint.imm)] },
  { dst := some 80, op := POp.faddr 2 (Operand.tmp 79), guard := some (76, false), hints := [(79, Hint.imm)] },
  { dst := some 81, op := POp.load true 11 (Operand.tmp 80), guard := some (76, false), hints := [(80, Hint.imm)] },
  { dst := some 82, op := POp.mv (Operand.tmp 1), guard := some (76, false), hints := [(1, Hint.imm)] },
  { dst := some 83, op := POp.mv (Operand.tmp 10), guard := some (76, false), hints := [(10, Hint.imm)] },
  { dst := some 84, op := POp.iaddrS 11 (Operand.tmp 82) (Operand.tmp 83), guard := some (76, false), hints := [(82, Hint.imm), (83, Hint.imm)] },
  { dst := some 85, op := POp.load true 11 (Operand.tmp 84), guard := some (76, false), hints := [(84, Hint.imm)] },
  { dst := some 86, op := POp.prim (Prim.bin BinOp.neq 39 false false) [Operand.tmp 81, Operand.tmp 85], guard := some (76, false), hints := [(81, Hint.imm), (85, Hint.imm)] },
  { dst := some 87, op := POp.pick (Operand.tmp 76) (Operand.const (Value.bool true)) (Operand.tmp 86), guard := none, hints := [(76, Hint.imm), (86, Hint.imm)] }]
def pc6_c32 : PCode := .region none true pc6_o32
def pc6_o33 : List POper := [{ dst := some 6, op := POp.mv (Operand.const (Value.bool false)), guard := none, hints := [] }]
def pc6_c33 : PCode := .region none false pc6_o33
def pc6_c34 : PCode := .ret
def pc6_c35 : PCode := .seq pc6_c33 pc6_c34
def pc6_c36 : PCode := .skip
def pc6_c37 : PCode := .cond (Operand.tmp 87) pc6_c35 pc6_c36
def pc6_c38 : PCode := .seq pc6_c32 pc6_c37
def pc6_c39 : PCode := .block 1 pc6_c38
def pc6_o40 : List POper := [{ dst := some 68, op := POp.mv (Operand.tmp 10), guard := none, hints := [] },
  { dst := some 69, op := POp.prim (Prim.bin BinOp.add 3 false true) [Operand.tmp 68, Operand.const (Value.int IntKind.i64 1)], guard := none, hints := [] },
  { dst := some 10, op := POp.mv (Operand.tmp 69), guard := none, hints := [] }]
def pc6_c40 : PCode := .region none false pc6_o40
def pc6_c41 : PCode := .seq pc6_c39 pc6_c40
def pc6_c42 : PCode := .seq pc6_c31 pc6_c41
def pc6_c43 : PCode := .loop pc6_c42
def pc6_c44 : PCode := .block 0 pc6_c43
def pc6_c45 : PCode := .seq pc6_c26 pc6_c44
def pc6_o46 : List POper := [{ dst := some 11, op := POp.mv (Operand.const (Value.int IntKind.i64 0)), guard := none, hints := [] }]
def pc6_c46 : PCode := .region none false pc6_o46
def pc6_o47 : List POper := [{ dst := some 88, op := POp.mv (Operand.tmp 11), guard := none, hints := [] },
  { dst := some 89, op := POp.mv (Operand.tmp 9), guard := none, hints := [] },
  { dst := some 90, op := POp.lenS (Operand.tmp 89), guard := none, hints := [] },
  { dst := some 91, op := POp.prim (Prim.bin BinOp.lss 3 false false) [Operand.tmp 88, Operand.tmp 90], guard := none, hints := [] }]
def pc6_c47 : PCode := .region (some ([0, 7, 9, 11], [7])) false pc6_o47
def pc6_c48 : PCode := .skip
def pc6_c49 : PCode := .exit 2
def pc6_c50 : PCode := .cond (Operand.tmp 91) pc6_c48 pc6_c49
def pc6_c51 : PCode := .seq pc6_c47 pc6_c50
def pc6_o52 : List POper := [{ dst := some 94, op := POp.mv (Operand.tmp 9), guard := none, hints := [(9, Hint.imm)] },
  { dst := some 95, op := POp.mv (Operand.tmp 11), guard := none, hints := [(11, Hint.imm)] },
  { dst := some 96, op := POp.iaddrS 25 (Operand.tmp 94) (Operand.tmp 95), guard := none, hints := [(94, Hint.imm), (95, Hint.imm)] },
  { dst := some 97, op := POp.faddr 0 (Operand.tmp 96), guard := none, hints := [(96, Hint.imm)] },
  { dst := some 98, op := POp.load false 1 (Operand.tmp 97), guard := none, hints := [(97, Hint.imm)] },
  { dst := some 99, op := POp.prim (Prim.bin BinOp.neq 3 false true) [Operand.tmp 98, Operand.const (Value.int IntKind.i64 3)], guard := none, hints := [(98, Hint.imm)] },
  { dst := some 100, op := POp.mv (Operand.tmp 99), guard := none, hints := [(99, Hint.imm)] },
  { dst := some 101, op := POp.mv (Operand.tmp 9), guard := some (100, false), hints := [(9, Hint.imm)] },
  { dst := some 102, op := POp.mv (Operand.tmp 11), guard := some (100, false), hints := [(11, Hint.imm)] },
  { dst := some 103, op := POp.iaddrS 25 (Operand.tmp 101) (Operand.tmp 102), guard := some (100, false), hints := [(101, Hint.imm), (102, Hint.imm)] },
  { dst := some 104, op := POp.faddr 1 (Operand.tmp 103), guard := some (100, false), hints := [(103, Hint.imm)] },
  { dst := some 105, op := POp.load false 1 (Operand.tmp 104), guard := some (100, false), hints := [(104, Hint.imm)] },
  { dst := some 106, op := POp.mv (Operand.tmp 0), guard := some (100, false), hints := [(0, Hint.imm)] },
  { dst := some 107, op := POp.mv (Operand.tmp 11), guard := some (100, false), hints := [(11, Hint.imm)] },
  { dst := some 108, op := POp.iaddrS 11 (Operand.tmp 106) (Operand.tmp 107), guard := some (100, false), hints := [(106, Hint.imm), (107, Hint.imm)] },
  { dst := some 109, op := POp.faddr 0 (Operand.tmp 108), guard := some (100, false), hints := [(108, Hint.imm)] },
  { dst := some 110, op := POp.load false 1 (Operand.tmp 109), guard := some (100, false), hints := [(109, Hint.imm)] },
  { dst := some 111, op := POp.prim (Prim.bin BinOp.neq 3 false false) [Operand.tmp 105, Operand.tmp 110], guard := some (100, false), hints := [(105, Hint.imm), (110, Hint.imm)] },
  { dst := some 112, op := POp.pick (Operand.tmp 100) (Operand.const (Value.bool true)) (Operand.tmp 111), guard := none, hints := [(100, Hint.imm), (111, Hint.imm)] }]
def pc6_c52 : PCode := .region none true pc6_o52
def pc6_o53 : List POper := [{ dst := some 6, op := POp.mv (Operand.const (Value.bool false)), guard := none, hints := [] }]
def pc6_c53 : PCode := .region none false pc6_o53
def pc6_c54 : PCode := .ret
def pc6_c55 : PCode := .seq pc6_c53 pc6_c54
def pc6_c56 : PCode := .skip
def pc6_c57 : PCode := .cond (Operand.tmp 112) pc6_c55 pc6_c56
def pc6_c58 : PCode := .seq pc6_c52 pc6_c57
def pc6_c59 : PCode := .block 3 pc6_c58
def pc6_o60 : List POper := [{ dst := some 92, op := POp.mv (Operand.tmp 11), guard := none, hints := [] },
  { dst := some 93, op := POp.prim (Prim.bin BinOp.add 3 false true) [Operand.tmp 92, Operand.const (Value.int IntKind.i64 1)], guard := none, hints := [] },
  { dst := some 11, op := POp.mv (Operand.tmp 93), guard := none, hints := [] }]
def pc6_c60 : PCode := .region none false pc6_o60
def pc6_c61 : PCode := .seq pc6_c59 pc6_c60
def pc6_c62 : PCode := .seq pc6_c51 pc6_c61
def pc6_c63 : PCode := .loop pc6_c62
def pc6_c64 : PCode := .block 2 pc6_c63
def pc6_c65 : PCode := .seq pc6_c46 pc6_c64
def pc6_o66 : List POper := [{ dst := some 113, op := POp.mv (Operand.tmp 0), guard := none, hints := [] },
  { dst := some 114, op := POp.load true 4 (Operand.tmp 7), guard := none, hints := [] },
  { dst := some 115, op := POp.call true [[(0, 11)], []] 21 [Operand.tmp 113, Operand.tmp 114], guard := none, hints := [] },
  { dst := some 116, op := POp.lenS (Operand.tmp 115), guard := none, hints := [] },
  { dst := some 117, op := POp.mv (Operand.tmp 0), guard := none, hints := [] },
  { dst := some 118, op := POp.lenS (Operand.tmp 117), guard := none, hints := [] },
  { dst := some 119, op := POp.prim (Prim.bin BinOp.eql 3 false false) [Operand.tmp 116, Operand.tmp 118], guard := none, hints := [] },
  { dst := some 6, op := POp.mv (Operand.tmp 119), guard := none, hints := [] }]
def pc6_c66 : PCode := .region none false pc6_o66
def pc6_c67 : PCode := .ret
def pc6_c68 : PCode := .seq pc6_c66 pc6_c67
def pc6_c69 : PCode := .seq pc6_c65 pc6_c68
def pc6_c70 : PCode := .seq pc6_c45 pc6_c69
def pc6_c71 : PCode := .seq pc6_c25 pc6_c70
def pc6_c72 : PCode := .seq pc6_c18 pc6_c71
def pc6_c73 : PCode := .seq pc6_c17 pc6_c72
def pc6_c74 : PCode := .seq pc6_c16 pc6_c73
def pc6_c75 : PCode := .seq pc6_c15 pc6_c74
def pc6_c76 : PCode := .seq pc6_c8 pc6_c75
def pc6_c77 : PCode := .seq pc6_c1 pc6_c76
def pc6_r : List PRes := [PRes.tmp 6 []]
def pc6 : PFunc := ⟨120, pc6_r, pc6_c77⟩
def pc6_a : Ann := {
  kr := fun
    | 11 => some ([0, 1, 7, 8, 9, 10], [5, 7])
    | 16 => some ([0, 7, 9, 11], [7])
    | _ => none
  ka := fun
    | _ => 0
  kh := fun
    | 0 => some (Hint.imm)
    | 1 => some (Hint.imm)
    | 8 => some (Hint.imm)
    | 9 => some (Hint.imm)
    | 10 => some (Hint.imm)
    | 11 => some (Hint.imm)
    | 70 => some (Hint.imm)
    | 71 => some (Hint.imm)
    | 72 => some (Hint.imm)
    | 73 => some (Hint.imm)
    | 74 => some (Hint.imm)
    | 75 => some (Hint.imm)
    | 76 => some (Hint.imm)
    | 77 => some (Hint.imm)
    | 78 => some (Hint.imm)
    | 79 => some (Hint.imm)
    | 80 => some (Hint.imm)
    | 81 => some (Hint.imm)
    | 82 => some (Hint.imm)
    | 83 => some (Hint.imm)
    | 84 => some (Hint.imm)
    | 85 => some (Hint.imm)
    | 86 => some (Hint.imm)
    | 94 => some (Hint.imm)
    | 95 => some (Hint.imm)
    | 96 => some (Hint.imm)
    | 97 => some (Hint.imm)
    | 98 => some (Hint.imm)
    | 99 => some (Hint.imm)
    | 100 => some (Hint.imm)
    | 101 => some (Hint.imm)
    | 102 => some (Hint.imm)
    | 103 => some (Hint.imm)
    | 104 => some (Hint.imm)
    | 105 => some (Hint.imm)
    | 106 => some (Hint.imm)
    | 107 => some (Hint.imm)
    | 108 => some (Hint.imm)
    | 109 => some (Hint.imm)
    | 110 => some (Hint.imm)
    | 111 => some (Hint.imm)
    | _ => none }
theorem pc6_ok : compFn Try.prog pc6_a Try.f6 = some pc6 := by kernel_rfl


end Go.Proofs.Ytajfdeeepklfoaa
