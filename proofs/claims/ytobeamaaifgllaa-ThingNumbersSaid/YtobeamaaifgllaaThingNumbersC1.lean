/-
  Code of functions, as the pure machine runs it. No condition.
-/
import Derived.Test.YtobeamaaifgllaaThingNumbersT
namespace Go.Proofs.Ytobeamaaifgllaa
open Go Go.Rx
set_option maxRecDepth 100000
set_option linter.unusedVariables false
set_option linter.unusedSimpArgs false
set_option linter.unnecessarySimpa false
-- 76: vedette/fields.Diff
def pc76_o1 : List POper := [{ dst := some 2, op := POp.box 28 (Operand.tmp 0) [], guard := none, hints := [] },
  { dst := some 3, op := POp.box 28 (Operand.tmp 1) [], guard := none, hints := [] },
  { dst := some 4, op := POp.alloc 35 (Value.agg { toList := [Value.int IntKind.i64 0, Value.int IntKind.u8 0, Value.int IntKind.i64 0, Value.int IntKind.i64 0, Value.int IntKind.i64 0, Value.string { data := { toList := [] } }, Value.int IntKind.i64 0, Value.string { data := { toList := [] } }, Value.int IntKind.i64 0, Value.string { data := { toList := [] } }, Value.int IntKind.i64 0, Value.string { data := { toList := [] } }] }) [], guard := none, hints := [] },
  { dst := some 5, op := POp.mv (Operand.const (Value.bool false)), guard := none, hints := [] }]
def pc76_c1 : PCode := .region none false pc76_o1
def pc76_o2 : List POper := [{ dst := some 9, op := POp.faddr 0 (Operand.tmp 3), guard := none, hints := [] },
  { dst := some 10, op := POp.load false 1 (Operand.tmp 9), guard := none, hints := [] },
  { dst := some 11, op := POp.build (Value.agg { toList := [Value.int IntKind.i64 0, Value.int IntKind.u8 0, Value.int IntKind.i64 0, Value.int IntKind.i64 0, Value.int IntKind.i64 0, Value.string { data := { toList := [] } }, Value.int IntKind.i64 0, Value.string { data := { toList := [] } }, Value.int IntKind.i64 0, Value.string { data := { toList := [] } }, Value.int IntKind.i64 0, Value.string { data := { toList := [] } }] }) [(0, 1, Operand.tmp 10)], guard := none, hints := [] },
  { dst := some 6, op := POp.alloc 35 (Value.agg { toList := [Value.int IntKind.i64 0, Value.int IntKind.u8 0, Value.int IntKind.i64 0, Value.int IntKind.i64 0, Value.int IntKind.i64 0, Value.string { data := { toList := [] } }, Value.int IntKind.i64 0, Value.string { data := { toList := [] } }, Value.int IntKind.i64 0, Value.string { data := { toList := [] } }, Value.int IntKind.i64 0, Value.string { data := { toList := [] } }] }) [], guard := none, hints := [] },
  { dst := none, op := POp.store 12 (Operand.tmp 6) (Operand.tmp 11), guard := none, hints := [] }]
def pc76_c2 : PCode := .region none false pc76_o2
def pc76_o3 : List POper := [{ dst := some 12, op := POp.faddr 1 (Operand.tmp 2), guard := none, hints := [] },
  { dst := some 13, op := POp.load true 2 (Operand.tmp 12), guard := none, hints := [] },
  { dst := some 14, op := POp.faddr 1 (Operand.tmp 3), guard := none, hints := [] },
  { dst := some 15, op := POp.load true 2 (Operand.tmp 14), guard := none, hints := [] },
  { dst := some 16, op := POp.prim (Prim.bin BinOp.neq 23 false false) [Operand.tmp 13, Operand.tmp 15], guard := none, hints := [] }]
def pc76_c3 : PCode := .region none false pc76_o3
def pc76_o4 : List POper := [{ dst := some 17, op := POp.faddr 1 (Operand.tmp 3), guard := none, hints := [(3, Hint.at_ 3 0)] },
  { dst := some 18, op := POp.load true 2 (Operand.tmp 17), guard := none, hints := [(17, Hint.at_ 3 1)] },
  { dst := some 19, op := POp.faddr 1 (Operand.tmp 6), guard := none, hints := [(6, Hint.at_ 6 0)] },
  { dst := none, op := POp.store 1 (Operand.tmp 19) (Operand.const (Value.int IntKind.u8 1)), guard := none, hints := [(19, Hint.at_ 6 1)] },
  { dst := some 20, op := POp.faddr 2 (Operand.tmp 6), guard := none, hints := [(6, Hint.at_ 6 0)] },
  { dst := none, op := POp.store 2 (Operand.tmp 20) (Operand.tmp 18), guard := none, hints := [(20, Hint.at_ 6 2), (18, Hint.imm)] }]
def pc76_c4 : PCode := .region none true pc76_o4
def pc76_c5 : PCode := .skip
def pc76_c6 : PCode := .cond (Operand.tmp 16) pc76_c4 pc76_c5
def pc76_c7 : PCode := .seq pc76_c3 pc76_c6
def pc76_o8 : List POper := [{ dst := some 21, op := POp.faddr 3 (Operand.tmp 3), guard := none, hints := [] },
  { dst := some 22, op := POp.load true 8 (Operand.tmp 21), guard := none, hints := [] },
  { dst := some 23, op := POp.mv (Operand.const (Value.int IntKind.i64 0)), guard := none, hints := [] }]
def pc76_c8 : PCode := .region (some ([2, 3, 4, 6], [2, 3, 4, 6], [])) false pc76_o8
def pc76_o9 : List POper := [{ dst := some 24, op := POp.prim (Prim.bin BinOp.lss 3 false true) [Operand.tmp 23, Operand.const (Value.int IntKind.i64 4)], guard := none, hints := [] }]
def pc76_c9 : PCode := .region (some ([2, 4, 6, 22, 23], [2, 3, 4, 6, 8], [])) false pc76_o9
def pc76_c10 : PCode := .skip
def pc76_c11 : PCode := .exit 0
def pc76_c12 : PCode := .cond (Operand.tmp 24) pc76_c10 pc76_c11
def pc76_o13 : List POper := [{ dst := some 25, op := POp.mv (Operand.tmp 23), guard := none, hints := [] },
  { dst := some 26, op := POp.idx true 2 4 (Operand.tmp 22) (Operand.tmp 23), guard := none, hints := [] },
  { dst := some 8, op := POp.alloc 25 (Value.agg { toList := [Value.int IntKind.i64 0, Value.string { data := { toList := [] } }] }) [], guard := none, hints := [] },
  { dst := some 7, op := POp.mv (Operand.tmp 25), guard := none, hints := [] },
  { dst := none, op := POp.store 2 (Operand.tmp 8) (Operand.tmp 26), guard := none, hints := [] }]
def pc76_c13 : PCode := .region none false pc76_o13
def pc76_o14 : List POper := [{ dst := some 27, op := POp.mv (Operand.tmp 7), guard := none, hints := [(7, Hint.imm)] },
  { dst := some 28, op := POp.faddr 3 (Operand.tmp 2), guard := none, hints := [(2, Hint.at_ 2 0)] },
  { dst := some 29, op := POp.iaddrA 4 2 (Operand.tmp 28) (Operand.tmp 27), guard := none, hints := [(28, Hint.at_ 2 3), (27, Hint.imm)] },
  { dst := some 30, op := POp.load true 2 (Operand.tmp 29), guard := none, hints := [(29, Hint.obj 2)] },
  { dst := some 31, op := POp.load true 2 (Operand.tmp 8), guard := none, hints := [(8, Hint.at_ 8 0)] },
  { dst := some 32, op := POp.prim (Prim.bin BinOp.neq 25 false false) [Operand.tmp 30, Operand.tmp 31], guard := none, hints := [(30, Hint.imm), (31, Hint.imm)] }]
def pc76_c14 : PCode := .region none true pc76_o14
def pc76_o15 : List POper := [{ dst := some 33, op := POp.faddr 1 (Operand.tmp 6), guard := none, hints := [(6, Hint.at_ 6 0)] },
  { dst := some 34, op := POp.load false 1 (Operand.tmp 33), guard := none, hints := [(33, Hint.at_ 6 1)] },
  { dst := some 35, op := POp.mv (Operand.tmp 7), guard := none, hints := [(7, Hint.imm)] },
  { dst := some 36, op := POp.prim (Prim.bin BinOp.shl 5 true false) [Operand.const (Value.int IntKind.u8 2), Operand.tmp 35], guard := none, hints := [(35, Hint.imm)] },
  { dst := some 37, op := POp.prim (Prim.bin BinOp.or 5 false false) [Operand.tmp 34, Operand.tmp 36], guard := none, hints := [(34, Hint.imm), (36, Hint.imm)] },
  { dst := some 38, op := POp.faddr 1 (Operand.tmp 6), guard := none, hints := [(6, Hint.at_ 6 0)] },
  { dst := none, op := POp.store 1 (Operand.tmp 38) (Operand.tmp 37), guard := none, hints := [(38, Hint.at_ 6 1), (37, Hint.imm)] }]
def pc76_c15 : PCode := .region none true pc76_o15
def pc76_o16 : List POper := [{ dst := some 39, op := POp.mv (Operand.tmp 7), guard := none, hints := [] },
  { dst := some 40, op := POp.load true 2 (Operand.tmp 8), guard := none, hints := [] },
  { dst := some 41, op := POp.faddr 4 (Operand.tmp 6), guard := none, hints := [] },
  { dst := some 42, op := POp.iaddrA 4 2 (Operand.tmp 41) (Operand.tmp 39), guard := none, hints := [] },
  { dst := none, op := POp.store 2 (Operand.tmp 42) (Operand.tmp 40), guard := none, hints := [] }]
def pc76_c16 : PCode := .region none false pc76_o16
def pc76_c17 : PCode := .seq pc76_c15 pc76_c16
def pc76_c18 : PCode := .skip
def pc76_c19 : PCode := .cond (Operand.tmp 32) pc76_c17 pc76_c18
def pc76_c20 : PCode := .seq pc76_c14 pc76_c19
def pc76_c21 : PCode := .seq pc76_c13 pc76_c20
def pc76_c22 : PCode := .block 1 pc76_c21
def pc76_o23 : List POper := [{ dst := some 43, op := POp.prim (Prim.bin BinOp.add 3 false true) [Operand.tmp 23, Operand.const (Value.int IntKind.i64 1)], guard := none, hints := [] },
  { dst := some 23, op := POp.mv (Operand.tmp 43), guard := none, hints := [] }]
def pc76_c23 : PCode := .region none false pc76_o23
def pc76_c24 : PCode := .seq pc76_c22 pc76_c23
def pc76_c25 : PCode := .seq pc76_c12 pc76_c24
def pc76_c26 : PCode := .seq pc76_c9 pc76_c25
def pc76_c27 : PCode := .loop pc76_c26
def pc76_c28 : PCode := .block 0 pc76_c27
def pc76_c29 : PCode := .seq pc76_c8 pc76_c28
def pc76_o30 : List POper := [{ dst := some 44, op := POp.load true 12 (Operand.tmp 6), guard := none, hints := [(6, Hint.at_ 6 0)] },
  { dst := some 45, op := POp.faddr 1 (Operand.tmp 6), guard := none, hints := [(6, Hint.at_ 6 0)] },
  { dst := some 46, op := POp.load false 1 (Operand.tmp 45), guard := none, hints := [(45, Hint.at_ 6 1)] },
  { dst := some 47, op := POp.prim (Prim.bin BinOp.neq 5 false true) [Operand.tmp 46, Operand.const (Value.int IntKind.u8 0)], guard := none, hints := [(46, Hint.imm)] },
  { dst := none, op := POp.store 12 (Operand.tmp 4) (Operand.tmp 44), guard := none, hints := [(4, Hint.at_ 4 0), (44, Hint.imm)] },
  { dst := some 5, op := POp.mv (Operand.tmp 47), guard := none, hints := [(47, Hint.imm)] }]
def pc76_c30 : PCode := .region none true pc76_o30
def pc76_c31 : PCode := .ret
def pc76_c32 : PCode := .seq pc76_c30 pc76_c31
def pc76_c33 : PCode := .seq pc76_c29 pc76_c32
def pc76_c34 : PCode := .seq pc76_c7 pc76_c33
def pc76_c35 : PCode := .seq pc76_c2 pc76_c34
def pc76_c36 : PCode := .seq pc76_c1 pc76_c35
def pc76_r : List PRes := [PRes.cell 4 true 12 [], PRes.tmp 5 []]
def pc76 : PFunc := ⟨48, pc76_r, pc76_c36, false⟩
def pc76_a : Ann := {
  kr := fun
    | 4 => some ([2, 3, 4, 6], [2, 3, 4, 6], [])
    | 5 => some ([2, 4, 6, 22, 23], [2, 3, 4, 6, 8], [])
    | _ => none
  ka := fun
    | _ => 0
  kh := fun
    | 2 => some (Hint.at_ 2 0)
    | 3 => some (Hint.at_ 3 0)
    | 4 => some (Hint.at_ 4 0)
    | 6 => some (Hint.at_ 6 0)
    | 7 => some (Hint.imm)
    | 8 => some (Hint.at_ 8 0)
    | 17 => some (Hint.at_ 3 1)
    | 18 => some (Hint.imm)
    | 19 => some (Hint.at_ 6 1)
    | 20 => some (Hint.at_ 6 2)
    | 27 => some (Hint.imm)
    | 28 => some (Hint.at_ 2 3)
    | 29 => some (Hint.obj 2)
    | 30 => some (Hint.imm)
    | 31 => some (Hint.imm)
    | 33 => some (Hint.at_ 6 1)
    | 34 => some (Hint.imm)
    | 35 => some (Hint.imm)
    | 36 => some (Hint.imm)
    | 37 => some (Hint.imm)
    | 38 => some (Hint.at_ 6 1)
    | 44 => some (Hint.imm)
    | 45 => some (Hint.at_ 6 1)
    | 46 => some (Hint.imm)
    | 47 => some (Hint.imm)
    | _ => none
  ow := fun t => match t with
    | 96 => [(1, 5, 1)]
    | _ => []
  tc := fun t => match t with
    | 96 => true
    | _ => false }
theorem pc76_ok : compFn Try.prog pc76_a Try.f76 = some pc76 := by kernel_rfl


-- 88: vedette/fields.Apply
def pc88_o1 : List POper := [{ dst := some 2, op := POp.box 28 (Operand.tmp 0) [], guard := none, hints := [] },
  { dst := some 3, op := POp.box 35 (Operand.tmp 1) [], guard := none, hints := [] },
  { dst := some 4, op := POp.alloc 28 (Value.agg { toList := [Value.int IntKind.i64 0, Value.int IntKind.i64 0, Value.int IntKind.i64 0, Value.int IntKind.i64 0, Value.string { data := { toList := [] } }, Value.int IntKind.i64 0, Value.string { data := { toList := [] } }, Value.int IntKind.i64 0, Value.string { data := { toList := [] } }, Value.int IntKind.i64 0, Value.string { data := { toList := [] } }] }) [], guard := none, hints := [] }]
def pc88_c1 : PCode := .region none false pc88_o1
def pc88_o2 : List POper := [{ dst := some 7, op := POp.faddr 1 (Operand.tmp 3), guard := none, hints := [] },
  { dst := some 8, op := POp.load false 1 (Operand.tmp 7), guard := none, hints := [] },
  { dst := some 9, op := POp.prim (Prim.bin BinOp.and 5 false true) [Operand.tmp 8, Operand.const (Value.int IntKind.u8 1)], guard := none, hints := [] },
  { dst := some 10, op := POp.prim (Prim.bin BinOp.neq 5 false true) [Operand.tmp 9, Operand.const (Value.int IntKind.u8 0)], guard := none, hints := [] }]
def pc88_c2 : PCode := .region none false pc88_o2
def pc88_o3 : List POper := [{ dst := some 11, op := POp.faddr 2 (Operand.tmp 3), guard := none, hints := [] },
  { dst := some 12, op := POp.load true 2 (Operand.tmp 11), guard := none, hints := [] },
  { dst := some 13, op := POp.faddr 1 (Operand.tmp 2), guard := none, hints := [] },
  { dst := none, op := POp.store 2 (Operand.tmp 13) (Operand.tmp 12), guard := none, hints := [] }]
def pc88_c3 : PCode := .region none false pc88_o3
def pc88_c4 : PCode := .skip
def pc88_c5 : PCode := .cond (Operand.tmp 10) pc88_c3 pc88_c4
def pc88_c6 : PCode := .seq pc88_c2 pc88_c5
def pc88_o7 : List POper := [{ dst := some 14, op := POp.faddr 4 (Operand.tmp 3), guard := none, hints := [] },
  { dst := some 15, op := POp.load true 8 (Operand.tmp 14), guard := none, hints := [] },
  { dst := some 16, op := POp.mv (Operand.const (Value.int IntKind.i64 0)), guard := none, hints := [] }]
def pc88_c7 : PCode := .region (some ([2, 3, 4], [2, 3, 4], [])) false pc88_o7
def pc88_o8 : List POper := [{ dst := some 17, op := POp.prim (Prim.bin BinOp.lss 3 false true) [Operand.tmp 16, Operand.const (Value.int IntKind.i64 4)], guard := none, hints := [] }]
def pc88_c8 : PCode := .region (some ([2, 3, 4, 15, 16], [2, 3, 4, 6], [])) false pc88_o8
def pc88_c9 : PCode := .skip
def pc88_c10 : PCode := .exit 0
def pc88_c11 : PCode := .cond (Operand.tmp 17) pc88_c9 pc88_c10
def pc88_o12 : List POper := [{ dst := some 18, op := POp.mv (Operand.tmp 16), guard := none, hints := [] },
  { dst := some 19, op := POp.idx true 2 4 (Operand.tmp 15) (Operand.tmp 16), guard := none, hints := [] },
  { dst := some 6, op := POp.alloc 25 (Value.agg { toList := [Value.int IntKind.i64 0, Value.string { data := { toList := [] } }] }) [], guard := none, hints := [] },
  { dst := some 5, op := POp.mv (Operand.tmp 18), guard := none, hints := [] },
  { dst := none, op := POp.store 2 (Operand.tmp 6) (Operand.tmp 19), guard := none, hints := [] }]
def pc88_c12 : PCode := .region none false pc88_o12
def pc88_o13 : List POper := [{ dst := some 20, op := POp.faddr 1 (Operand.tmp 3), guard := none, hints := [] },
  { dst := some 21, op := POp.load false 1 (Operand.tmp 20), guard := none, hints := [] },
  { dst := some 22, op := POp.mv (Operand.tmp 5), guard := none, hints := [] },
  { dst := some 23, op := POp.call true [[], []] 99 [Operand.tmp 21, Operand.tmp 22], guard := none, hints := [] }]
def pc88_c13 : PCode := .region none false pc88_o13
def pc88_o14 : List POper := [{ dst := some 24, op := POp.mv (Operand.tmp 5), guard := none, hints := [] },
  { dst := some 25, op := POp.load true 2 (Operand.tmp 6), guard := none, hints := [] },
  { dst := some 26, op := POp.faddr 3 (Operand.tmp 2), guard := none, hints := [] },
  { dst := some 27, op := POp.iaddrA 4 2 (Operand.tmp 26) (Operand.tmp 24), guard := none, hints := [] },
  { dst := none, op := POp.store 2 (Operand.tmp 27) (Operand.tmp 25), guard := none, hints := [] }]
def pc88_c14 : PCode := .region none false pc88_o14
def pc88_c15 : PCode := .skip
def pc88_c16 : PCode := .cond (Operand.tmp 23) pc88_c14 pc88_c15
def pc88_c17 : PCode := .seq pc88_c13 pc88_c16
def pc88_c18 : PCode := .seq pc88_c12 pc88_c17
def pc88_c19 : PCode := .block 1 pc88_c18
def pc88_o20 : List POper := [{ dst := some 28, op := POp.prim (Prim.bin BinOp.add 3 false true) [Operand.tmp 16, Operand.const (Value.int IntKind.i64 1)], guard := none, hints := [] },
  { dst := some 16, op := POp.mv (Operand.tmp 28), guard := none, hints := [] }]
def pc88_c20 : PCode := .region none false pc88_o20
def pc88_c21 : PCode := .seq pc88_c19 pc88_c20
def pc88_c22 : PCode := .seq pc88_c11 pc88_c21
def pc88_c23 : PCode := .seq pc88_c8 pc88_c22
def pc88_c24 : PCode := .loop pc88_c23
def pc88_c25 : PCode := .block 0 pc88_c24
def pc88_c26 : PCode := .seq pc88_c7 pc88_c25
def pc88_o27 : List POper := [{ dst := some 29, op := POp.load true 11 (Operand.tmp 2), guard := none, hints := [] },
  { dst := none, op := POp.store 11 (Operand.tmp 4) (Operand.tmp 29), guard := none, hints := [] }]
def pc88_c27 : PCode := .region none false pc88_o27
def pc88_c28 : PCode := .ret
def pc88_c29 : PCode := .seq pc88_c27 pc88_c28
def pc88_c30 : PCode := .seq pc88_c26 pc88_c29
def pc88_c31 : PCode := .seq pc88_c6 pc88_c30
def pc88_c32 : PCode := .seq pc88_c1 pc88_c31
def pc88_r : List PRes := [PRes.cell 4 true 11 []]
def pc88 : PFunc := ⟨30, pc88_r, pc88_c32, false⟩
def pc88_a : Ann := {
  kr := fun
    | 3 => some ([2, 3, 4], [2, 3, 4], [])
    | 4 => some ([2, 3, 4, 15, 16], [2, 3, 4, 6], [])
    | _ => none
  ka := fun
    | _ => 0
  kh := fun
    | _ => none
  ow := fun t => match t with
    | 96 => [(1, 5, 1)]
    | _ => []
  tc := fun t => match t with
    | 96 => true
    | _ => false }
theorem pc88_ok : compFn Try.prog pc88_a Try.f88 = some pc88 := by kernel_rfl


-- 94: vedette/vedetteref6.IsDelta
def pc94_o1 : List POper := [{ dst := some 1, op := POp.box 35 (Operand.tmp 0) [], guard := none, hints := [] },
  { dst := some 2, op := POp.mv (Operand.const (Value.bool false)), guard := none, hints := [] }]
def pc94_c1 : PCode := .region none false pc94_o1
def pc94_o2 : List POper := [{ dst := some 4, op := POp.faddr 0 (Operand.tmp 1), guard := none, hints := [] },
  { dst := some 5, op := POp.load false 1 (Operand.tmp 4), guard := none, hints := [] },
  { dst := some 6, op := POp.prim (Prim.bin BinOp.lss 3 false true) [Operand.tmp 5, Operand.const (Value.int IntKind.i64 0)], guard := none, hints := [] },
  { dst := some 7, op := POp.mv (Operand.tmp 6), guard := none, hints := [] },
  { dst := some 8, op := POp.faddr 0 (Operand.tmp 1), guard := some (7, false), hints := [] },
  { dst := some 9, op := POp.load false 1 (Operand.tmp 8), guard := some (7, false), hints := [] },
  { dst := some 10, op := POp.prim (Prim.bin BinOp.gtr 3 false true) [Operand.tmp 9, Operand.const (Value.int IntKind.i64 1000000)], guard := some (7, false), hints := [] },
  { dst := some 11, op := POp.pick (Operand.tmp 7) (Operand.const (Value.bool true)) (Operand.tmp 10), guard := none, hints := [] },
  { dst := some 12, op := POp.mv (Operand.tmp 11), guard := none, hints := [] },
  { dst := some 13, op := POp.faddr 1 (Operand.tmp 1), guard := some (12, false), hints := [] },
  { dst := some 14, op := POp.load false 1 (Operand.tmp 13), guard := some (12, false), hints := [] },
  { dst := some 15, op := POp.prim (Prim.bin BinOp.lss 5 false true) [Operand.tmp 14, Operand.const (Value.int IntKind.u8 1)], guard := some (12, false), hints := [] },
  { dst := some 16, op := POp.pick (Operand.tmp 12) (Operand.const (Value.bool true)) (Operand.tmp 15), guard := none, hints := [] },
  { dst := some 17, op := POp.mv (Operand.tmp 16), guard := none, hints := [] },
  { dst := some 18, op := POp.faddr 1 (Operand.tmp 1), guard := some (17, false), hints := [] },
  { dst := some 19, op := POp.load false 1 (Operand.tmp 18), guard := some (17, false), hints := [] },
  { dst := some 20, op := POp.prim (Prim.bin BinOp.gtr 5 false true) [Operand.tmp 19, Operand.const (Value.int IntKind.u8 31)], guard := some (17, false), hints := [] },
  { dst := some 21, op := POp.pick (Operand.tmp 17) (Operand.const (Value.bool true)) (Operand.tmp 20), guard := none, hints := [] }]
def pc94_c2 : PCode := .region none false pc94_o2
def pc94_o3 : List POper := [{ dst := some 2, op := POp.mv (Operand.const (Value.bool false)), guard := none, hints := [] }]
def pc94_c3 : PCode := .region none false pc94_o3
def pc94_c4 : PCode := .ret
def pc94_c5 : PCode := .seq pc94_c3 pc94_c4
def pc94_c6 : PCode := .skip
def pc94_c7 : PCode := .cond (Operand.tmp 21) pc94_c5 pc94_c6
def pc94_c8 : PCode := .seq pc94_c2 pc94_c7
def pc94_o9 : List POper := [{ dst := some 22, op := POp.faddr 1 (Operand.tmp 1), guard := none, hints := [] },
  { dst := some 23, op := POp.load false 1 (Operand.tmp 22), guard := none, hints := [] },
  { dst := some 24, op := POp.prim (Prim.bin BinOp.and 5 false true) [Operand.tmp 23, Operand.const (Value.int IntKind.u8 1)], guard := none, hints := [] },
  { dst := some 25, op := POp.prim (Prim.bin BinOp.neq 5 false true) [Operand.tmp 24, Operand.const (Value.int IntKind.u8 0)], guard := none, hints := [] },
  { dst := some 26, op := POp.mv (Operand.tmp 25), guard := none, hints := [] },
  { dst := some 27, op := POp.faddr 2 (Operand.tmp 1), guard := some (26, true), hints := [] },
  { dst := some 28, op := POp.load true 2 (Operand.tmp 27), guard := some (26, true), hints := [] },
  { dst := some 29, op := POp.call true [[]] 58 [Operand.tmp 28], guard := some (26, true), hints := [] },
  { dst := some 30, op := POp.prim (Prim.un UnOp.not) [Operand.tmp 29], guard := some (26, true), hints := [] },
  { dst := some 31, op := POp.pick (Operand.tmp 26) (Operand.tmp 30) (Operand.const (Value.bool false)), guard := none, hints := [] },
  { dst := some 32, op := POp.mv (Operand.tmp 31), guard := none, hints := [] },
  { dst := some 33, op := POp.faddr 1 (Operand.tmp 1), guard := some (32, false), hints := [] },
  { dst := some 34, op := POp.load false 1 (Operand.tmp 33), guard := some (32, false), hints := [] },
  { dst := some 35, op := POp.prim (Prim.bin BinOp.and 5 false true) [Operand.tmp 34, Operand.const (Value.int IntKind.u8 1)], guard := some (32, false), hints := [] },
  { dst := some 36, op := POp.prim (Prim.bin BinOp.eql 5 false true) [Operand.tmp 35, Operand.const (Value.int IntKind.u8 0)], guard := some (32, false), hints := [] },
  { dst := some 37, op := POp.mv (Operand.tmp 36), guard := some (32, false), hints := [] },
  { dst := some 38, op := POp.faddr 2 (Operand.tmp 1), guard := some (37, true), hints := [] },
  { dst := some 39, op := POp.load true 2 (Operand.tmp 38), guard := some (37, true), hints := [] },
  { dst := some 40, op := POp.build (Value.agg { toList := [Value.int IntKind.i64 0, Value.int IntKind.i64 0] }) [], guard := some (37, true), hints := [] },
  { dst := some 41, op := POp.prim (Prim.bin BinOp.neq 23 false false) [Operand.tmp 39, Operand.tmp 40], guard := some (37, true), hints := [] },
  { dst := some 42, op := POp.pick (Operand.tmp 37) (Operand.tmp 41) (Operand.const (Value.bool false)), guard := some (32, false), hints := [] },
  { dst := some 43, op := POp.pick (Operand.tmp 32) (Operand.const (Value.bool true)) (Operand.tmp 42), guard := none, hints := [] }]
def pc94_c9 : PCode := .region none false pc94_o9
def pc94_o10 : List POper := [{ dst := some 2, op := POp.mv (Operand.const (Value.bool false)), guard := none, hints := [] }]
def pc94_c10 : PCode := .region none false pc94_o10
def pc94_c11 : PCode := .ret
def pc94_c12 : PCode := .seq pc94_c10 pc94_c11
def pc94_c13 : PCode := .skip
def pc94_c14 : PCode := .cond (Operand.tmp 43) pc94_c12 pc94_c13
def pc94_c15 : PCode := .seq pc94_c9 pc94_c14
def pc94_o16 : List POper := [{ dst := some 3, op := POp.mv (Operand.const (Value.int IntKind.i64 0)), guard := none, hints := [] }]
def pc94_c16 : PCode := .region (some ([1], [1], [])) false pc94_o16
def pc94_o17 : List POper := [{ dst := some 44, op := POp.mv (Operand.tmp 3), guard := none, hints := [] },
  { dst := some 45, op := POp.prim (Prim.bin BinOp.lss 3 false true) [Operand.tmp 44, Operand.const (Value.int IntKind.i64 4)], guard := none, hints := [] }]
def pc94_c17 : PCode := .region (some ([1, 3], [1], [])) false pc94_o17
def pc94_c18 : PCode := .skip
def pc94_c19 : PCode := .exit 0
def pc94_c20 : PCode := .cond (Operand.tmp 45) pc94_c18 pc94_c19
def pc94_c21 : PCode := .seq pc94_c17 pc94_c20
def pc94_o22 : List POper := [{ dst := some 48, op := POp.mv (Operand.tmp 3), guard := none, hints := [] },
  { dst := some 49, op := POp.faddr 4 (Operand.tmp 1), guard := none, hints := [] },
  { dst := some 50, op := POp.iaddrA 4 2 (Operand.tmp 49) (Operand.tmp 48), guard := none, hints := [] },
  { dst := some 51, op := POp.load true 2 (Operand.tmp 50), guard := none, hints := [] },
  { dst := some 52, op := POp.call true [[]] 59 [Operand.tmp 51], guard := none, hints := [] },
  { dst := some 53, op := POp.prim (Prim.un UnOp.not) [Operand.tmp 52], guard := none, hints := [] },
  { dst := some 54, op := POp.mv (Operand.tmp 53), guard := none, hints := [] },
  { dst := some 55, op := POp.faddr 1 (Operand.tmp 1), guard := some (54, false), hints := [] },
  { dst := some 56, op := POp.load false 1 (Operand.tmp 55), guard := some (54, false), hints := [] },
  { dst := some 57, op := POp.mv (Operand.tmp 3), guard := some (54, false), hints := [] },
  { dst := some 58, op := POp.prim (Prim.bin BinOp.add 3 false true) [Operand.tmp 57, Operand.const (Value.int IntKind.i64 1)], guard := some (54, false), hints := [] },
  { dst := some 59, op := POp.prim (Prim.conv 3 90) [Operand.tmp 58], guard := some (54, false), hints := [] },
  { dst := some 60, op := POp.prim (Prim.bin BinOp.shr 5 false false) [Operand.tmp 56, Operand.tmp 59], guard := some (54, false), hints := [] },
  { dst := some 61, op := POp.prim (Prim.bin BinOp.and 5 false true) [Operand.tmp 60, Operand.const (Value.int IntKind.u8 1)], guard := some (54, false), hints := [] },
  { dst := some 62, op := POp.prim (Prim.bin BinOp.eql 5 false true) [Operand.tmp 61, Operand.const (Value.int IntKind.u8 0)], guard := some (54, false), hints := [] },
  { dst := some 63, op := POp.mv (Operand.tmp 62), guard := some (54, false), hints := [] },
  { dst := some 64, op := POp.mv (Operand.tmp 3), guard := some (63, true), hints := [] },
  { dst := some 65, op := POp.faddr 4 (Operand.tmp 1), guard := some (63, true), hints := [] },
  { dst := some 66, op := POp.iaddrA 4 2 (Operand.tmp 65) (Operand.tmp 64), guard := some (63, true), hints := [] },
  { dst := some 67, op := POp.load true 2 (Operand.tmp 66), guard := some (63, true), hints := [] },
  { dst := some 68, op := POp.build (Value.agg { toList := [Value.int IntKind.i64 0, Value.string { data := { toList := [] } }] }) [], guard := some (63, true), hints := [] },
  { dst := some 69, op := POp.prim (Prim.bin BinOp.neq 25 false false) [Operand.tmp 67, Operand.tmp 68], guard := some (63, true), hints := [] },
  { dst := some 70, op := POp.pick (Operand.tmp 63) (Operand.tmp 69) (Operand.const (Value.bool false)), guard := some (54, false), hints := [] },
  { dst := some 71, op := POp.pick (Operand.tmp 54) (Operand.const (Value.bool true)) (Operand.tmp 70), guard := none, hints := [] }]
def pc94_c22 : PCode := .region none false pc94_o22
def pc94_o23 : List POper := [{ dst := some 2, op := POp.mv (Operand.const (Value.bool false)), guard := none, hints := [] }]
def pc94_c23 : PCode := .region none false pc94_o23
def pc94_c24 : PCode := .ret
def pc94_c25 : PCode := .seq pc94_c23 pc94_c24
def pc94_c26 : PCode := .skip
def pc94_c27 : PCode := .cond (Operand.tmp 71) pc94_c25 pc94_c26
def pc94_c28 : PCode := .seq pc94_c22 pc94_c27
def pc94_c29 : PCode := .block 1 pc94_c28
def pc94_o30 : List POper := [{ dst := some 46, op := POp.mv (Operand.tmp 3), guard := none, hints := [] },
  { dst := some 47, op := POp.prim (Prim.bin BinOp.add 3 false true) [Operand.tmp 46, Operand.const (Value.int IntKind.i64 1)], guard := none, hints := [] },
  { dst := some 3, op := POp.mv (Operand.tmp 47), guard := none, hints := [] }]
def pc94_c30 : PCode := .region none false pc94_o30
def pc94_c31 : PCode := .seq pc94_c29 pc94_c30
def pc94_c32 : PCode := .seq pc94_c21 pc94_c31
def pc94_c33 : PCode := .loop pc94_c32
def pc94_c34 : PCode := .block 0 pc94_c33
def pc94_c35 : PCode := .seq pc94_c16 pc94_c34
def pc94_o36 : List POper := [{ dst := some 2, op := POp.mv (Operand.const (Value.bool true)), guard := none, hints := [] }]
def pc94_c36 : PCode := .region none false pc94_o36
def pc94_c37 : PCode := .ret
def pc94_c38 : PCode := .seq pc94_c36 pc94_c37
def pc94_c39 : PCode := .seq pc94_c35 pc94_c38
def pc94_c40 : PCode := .seq pc94_c15 pc94_c39
def pc94_c41 : PCode := .seq pc94_c8 pc94_c40
def pc94_c42 : PCode := .seq pc94_c1 pc94_c41
def pc94_r : List PRes := [PRes.tmp 2 []]
def pc94 : PFunc := ⟨72, pc94_r, pc94_c42, false⟩
def pc94_a : Ann := {
  kr := fun
    | 5 => some ([1], [1], [])
    | 6 => some ([1, 3], [1], [])
    | _ => none
  ka := fun
    | _ => 0
  kh := fun
    | _ => none
  ow := fun t => match t with
    | 96 => [(1, 5, 1)]
    | _ => []
  tc := fun t => match t with
    | 96 => true
    | _ => false }
theorem pc94_ok : compFn Try.prog pc94_a Try.f94 = some pc94 := by kernel_rfl


end Go.Proofs.Ytobeamaaifgllaa
