/-
  Code of functions, as the pure machine runs it. No condition.
-/
import Derived.Test.YthmbegagkgdopaaFieldsBackT
namespace Go.Proofs.Ythmbegagkgdopaa
open Go Go.Rx
set_option maxRecDepth 100000
set_option linter.unusedVariables false
set_option linter.unusedSimpArgs false
set_option linter.unnecessarySimpa false
-- 18: vedette/fields.Diff
def pc18_o1 : List POper := [{ dst := some 2, op := POp.box 28 (Operand.tmp 0), guard := none, hints := [] },
  { dst := some 3, op := POp.box 28 (Operand.tmp 1), guard := none, hints := [] },
  { dst := some 4, op := POp.alloc 30 (Value.agg { toList := [Value.int IntKind.i64 0, Value.int IntKind.u8 0, Value.int IntKind.i64 0, Value.int IntKind.i64 0, Value.int IntKind.i64 0, Value.string { data := { toList := [] } }, Value.int IntKind.i64 0, Value.string { data := { toList := [] } }, Value.int IntKind.i64 0, Value.string { data := { toList := [] } }, Value.int IntKind.i64 0, Value.string { data := { toList := [] } }] }), guard := none, hints := [] },
  { dst := some 5, op := POp.mv (Operand.const (Value.bool false)), guard := none, hints := [] }]
def pc18_c1 : PCode := .region none false pc18_o1
def pc18_o2 : List POper := [{ dst := some 9, op := POp.faddr 0 (Operand.tmp 3), guard := none, hints := [] },
  { dst := some 10, op := POp.load false 1 (Operand.tmp 9), guard := none, hints := [] },
  { dst := some 11, op := POp.build (Value.agg { toList := [Value.int IntKind.i64 0, Value.int IntKind.u8 0, Value.int IntKind.i64 0, Value.int IntKind.i64 0, Value.int IntKind.i64 0, Value.string { data := { toList := [] } }, Value.int IntKind.i64 0, Value.string { data := { toList := [] } }, Value.int IntKind.i64 0, Value.string { data := { toList := [] } }, Value.int IntKind.i64 0, Value.string { data := { toList := [] } }] }) [(0, 1, Operand.tmp 10)], guard := none, hints := [] },
  { dst := some 6, op := POp.alloc 30 (Value.agg { toList := [Value.int IntKind.i64 0, Value.int IntKind.u8 0, Value.int IntKind.i64 0, Value.int IntKind.i64 0, Value.int IntKind.i64 0, Value.string { data := { toList := [] } }, Value.int IntKind.i64 0, Value.string { data := { toList := [] } }, Value.int IntKind.i64 0, Value.string { data := { toList := [] } }, Value.int IntKind.i64 0, Value.string { data := { toList := [] } }] }), guard := none, hints := [] },
  { dst := none, op := POp.store 12 (Operand.tmp 6) (Operand.tmp 11), guard := none, hints := [] }]
def pc18_c2 : PCode := .region none false pc18_o2
def pc18_o3 : List POper := [{ dst := some 12, op := POp.faddr 1 (Operand.tmp 2), guard := none, hints := [] },
  { dst := some 13, op := POp.load true 2 (Operand.tmp 12), guard := none, hints := [] },
  { dst := some 14, op := POp.faddr 1 (Operand.tmp 3), guard := none, hints := [] },
  { dst := some 15, op := POp.load true 2 (Operand.tmp 14), guard := none, hints := [] },
  { dst := some 16, op := POp.prim (Prim.bin BinOp.neq 23 false false) [Operand.tmp 13, Operand.tmp 15], guard := none, hints := [] }]
def pc18_c3 : PCode := .region none false pc18_o3
def pc18_o4 : List POper := [{ dst := some 17, op := POp.faddr 1 (Operand.tmp 3), guard := none, hints := [(3, Hint.at_ 3 0)] },
  { dst := some 18, op := POp.load true 2 (Operand.tmp 17), guard := none, hints := [(17, Hint.at_ 3 1)] },
  { dst := some 19, op := POp.faddr 1 (Operand.tmp 6), guard := none, hints := [(6, Hint.at_ 6 0)] },
  { dst := none, op := POp.store 1 (Operand.tmp 19) (Operand.const (Value.int IntKind.u8 1)), guard := none, hints := [(19, Hint.at_ 6 1)] },
  { dst := some 20, op := POp.faddr 2 (Operand.tmp 6), guard := none, hints := [(6, Hint.at_ 6 0)] },
  { dst := none, op := POp.store 2 (Operand.tmp 20) (Operand.tmp 18), guard := none, hints := [(20, Hint.at_ 6 2), (18, Hint.imm)] }]
def pc18_c4 : PCode := .region none true pc18_o4
def pc18_c5 : PCode := .skip
def pc18_c6 : PCode := .cond (Operand.tmp 16) pc18_c4 pc18_c5
def pc18_c7 : PCode := .seq pc18_c3 pc18_c6
def pc18_o8 : List POper := [{ dst := some 21, op := POp.faddr 3 (Operand.tmp 3), guard := none, hints := [] },
  { dst := some 22, op := POp.load true 8 (Operand.tmp 21), guard := none, hints := [] },
  { dst := some 23, op := POp.mv (Operand.const (Value.int IntKind.i64 0)), guard := none, hints := [] }]
def pc18_c8 : PCode := .region (some ([2, 3, 4, 6], [2, 3, 4, 6])) false pc18_o8
def pc18_o9 : List POper := [{ dst := some 24, op := POp.prim (Prim.bin BinOp.lss 3 false true) [Operand.tmp 23, Operand.const (Value.int IntKind.i64 4)], guard := none, hints := [] }]
def pc18_c9 : PCode := .region (some ([2, 4, 6, 22, 23], [2, 3, 4, 6, 8])) false pc18_o9
def pc18_c10 : PCode := .skip
def pc18_c11 : PCode := .exit 0
def pc18_c12 : PCode := .cond (Operand.tmp 24) pc18_c10 pc18_c11
def pc18_o13 : List POper := [{ dst := some 25, op := POp.mv (Operand.tmp 23), guard := none, hints := [] },
  { dst := some 26, op := POp.idx true 2 4 (Operand.tmp 22) (Operand.tmp 23), guard := none, hints := [] },
  { dst := some 8, op := POp.alloc 25 (Value.agg { toList := [Value.int IntKind.i64 0, Value.string { data := { toList := [] } }] }), guard := none, hints := [] },
  { dst := some 7, op := POp.mv (Operand.tmp 25), guard := none, hints := [] },
  { dst := none, op := POp.store 2 (Operand.tmp 8) (Operand.tmp 26), guard := none, hints := [] }]
def pc18_c13 : PCode := .region none false pc18_o13
def pc18_o14 : List POper := [{ dst := some 27, op := POp.mv (Operand.tmp 7), guard := none, hints := [(7, Hint.imm)] },
  { dst := some 28, op := POp.faddr 3 (Operand.tmp 2), guard := none, hints := [(2, Hint.at_ 2 0)] },
  { dst := some 29, op := POp.iaddrA 4 2 (Operand.tmp 28) (Operand.tmp 27), guard := none, hints := [(28, Hint.at_ 2 3), (27, Hint.imm)] },
  { dst := some 30, op := POp.load true 2 (Operand.tmp 29), guard := none, hints := [(29, Hint.obj 2)] },
  { dst := some 31, op := POp.load true 2 (Operand.tmp 8), guard := none, hints := [(8, Hint.at_ 8 0)] },
  { dst := some 32, op := POp.prim (Prim.bin BinOp.neq 25 false false) [Operand.tmp 30, Operand.tmp 31], guard := none, hints := [(30, Hint.imm), (31, Hint.imm)] }]
def pc18_c14 : PCode := .region none true pc18_o14
def pc18_o15 : List POper := [{ dst := some 33, op := POp.faddr 1 (Operand.tmp 6), guard := none, hints := [(6, Hint.at_ 6 0)] },
  { dst := some 34, op := POp.load false 1 (Operand.tmp 33), guard := none, hints := [(33, Hint.at_ 6 1)] },
  { dst := some 35, op := POp.mv (Operand.tmp 7), guard := none, hints := [(7, Hint.imm)] },
  { dst := some 36, op := POp.prim (Prim.bin BinOp.shl 5 true false) [Operand.const (Value.int IntKind.u8 2), Operand.tmp 35], guard := none, hints := [(35, Hint.imm)] },
  { dst := some 37, op := POp.prim (Prim.bin BinOp.or 5 false false) [Operand.tmp 34, Operand.tmp 36], guard := none, hints := [(34, Hint.imm), (36, Hint.imm)] },
  { dst := some 38, op := POp.faddr 1 (Operand.tmp 6), guard := none, hints := [(6, Hint.at_ 6 0)] },
  { dst := none, op := POp.store 1 (Operand.tmp 38) (Operand.tmp 37), guard := none, hints := [(38, Hint.at_ 6 1), (37, Hint.imm)] }]
def pc18_c15 : PCode := .region none true pc18_o15
def pc18_o16 : List POper := [{ dst := some 39, op := POp.mv (Operand.tmp 7), guard := none, hints := [] },
  { dst := some 40, op := POp.load true 2 (Operand.tmp 8), guard := none, hints := [] },
  { dst := some 41, op := POp.faddr 4 (Operand.tmp 6), guard := none, hints := [] },
  { dst := some 42, op := POp.iaddrA 4 2 (Operand.tmp 41) (Operand.tmp 39), guard := none, hints := [] },
  { dst := none, op := POp.store 2 (Operand.tmp 42) (Operand.tmp 40), guard := none, hints := [] }]
def pc18_c16 : PCode := .region none false pc18_o16
def pc18_c17 : PCode := .seq pc18_c15 pc18_c16
def pc18_c18 : PCode := .skip
def pc18_c19 : PCode := .cond (Operand.tmp 32) pc18_c17 pc18_c18
def pc18_c20 : PCode := .seq pc18_c14 pc18_c19
def pc18_c21 : PCode := .seq pc18_c13 pc18_c20
def pc18_c22 : PCode := .block 1 pc18_c21
def pc18_o23 : List POper := [{ dst := some 43, op := POp.prim (Prim.bin BinOp.add 3 false true) [Operand.tmp 23, Operand.const (Value.int IntKind.i64 1)], guard := none, hints := [] },
  { dst := some 23, op := POp.mv (Operand.tmp 43), guard := none, hints := [] }]
def pc18_c23 : PCode := .region none false pc18_o23
def pc18_c24 : PCode := .seq pc18_c22 pc18_c23
def pc18_c25 : PCode := .seq pc18_c12 pc18_c24
def pc18_c26 : PCode := .seq pc18_c9 pc18_c25
def pc18_c27 : PCode := .loop pc18_c26
def pc18_c28 : PCode := .block 0 pc18_c27
def pc18_c29 : PCode := .seq pc18_c8 pc18_c28
def pc18_o30 : List POper := [{ dst := some 44, op := POp.load true 12 (Operand.tmp 6), guard := none, hints := [(6, Hint.at_ 6 0)] },
  { dst := some 45, op := POp.faddr 1 (Operand.tmp 6), guard := none, hints := [(6, Hint.at_ 6 0)] },
  { dst := some 46, op := POp.load false 1 (Operand.tmp 45), guard := none, hints := [(45, Hint.at_ 6 1)] },
  { dst := some 47, op := POp.prim (Prim.bin BinOp.neq 5 false true) [Operand.tmp 46, Operand.const (Value.int IntKind.u8 0)], guard := none, hints := [(46, Hint.imm)] },
  { dst := none, op := POp.store 12 (Operand.tmp 4) (Operand.tmp 44), guard := none, hints := [(4, Hint.at_ 4 0), (44, Hint.imm)] },
  { dst := some 5, op := POp.mv (Operand.tmp 47), guard := none, hints := [(47, Hint.imm)] }]
def pc18_c30 : PCode := .region none true pc18_o30
def pc18_c31 : PCode := .ret
def pc18_c32 : PCode := .seq pc18_c30 pc18_c31
def pc18_c33 : PCode := .seq pc18_c29 pc18_c32
def pc18_c34 : PCode := .seq pc18_c7 pc18_c33
def pc18_c35 : PCode := .seq pc18_c2 pc18_c34
def pc18_c36 : PCode := .seq pc18_c1 pc18_c35
def pc18_r : List PRes := [PRes.cell 4 true 12 [], PRes.tmp 5 []]
def pc18 : PFunc := ⟨48, pc18_r, pc18_c36⟩
def pc18_a : Ann := {
  kr := fun
    | 4 => some ([2, 3, 4, 6], [2, 3, 4, 6])
    | 5 => some ([2, 4, 6, 22, 23], [2, 3, 4, 6, 8])
    | _ => none
  ka := fun
    | _ => 0
  kh := fun
    | 2 => some (Hint.at_ 2 0)
    | 3 => some (Hint.at_ 3 0)
    | 4 => some (Hint.at_ 4 0)
    | 6 => some (Hint.at_ 6 0)
    | 7 => some (Hint.imm)
    | 8 => some (Hint.at_ 8 0)
    | 17 => some (Hint.at_ 3 1)
    | 18 => some (Hint.imm)
    | 19 => some (Hint.at_ 6 1)
    | 20 => some (Hint.at_ 6 2)
    | 27 => some (Hint.imm)
    | 28 => some (Hint.at_ 2 3)
    | 29 => some (Hint.obj 2)
    | 30 => some (Hint.imm)
    | 31 => some (Hint.imm)
    | 33 => some (Hint.at_ 6 1)
    | 34 => some (Hint.imm)
    | 35 => some (Hint.imm)
    | 36 => some (Hint.imm)
    | 37 => some (Hint.imm)
    | 38 => some (Hint.at_ 6 1)
    | 44 => some (Hint.imm)
    | 45 => some (Hint.at_ 6 1)
    | 46 => some (Hint.imm)
    | 47 => some (Hint.imm)
    | _ => none }
theorem pc18_ok : compFn Try.prog pc18_a Try.f18 = some pc18 := by kernel_rfl


-- 26: vedette/fields.IsField
def pc26_o1 : List POper := [{ dst := some 1, op := POp.box 25 (Operand.tmp 0), guard := none, hints := [] },
  { dst := some 2, op := POp.mv (Operand.const (Value.bool false)), guard := none, hints := [] }]
def pc26_c1 : PCode := .region none false pc26_o1
def pc26_o2 : List POper := [{ dst := some 3, op := POp.faddr 0 (Operand.tmp 1), guard := none, hints := [] },
  { dst := some 4, op := POp.load false 1 (Operand.tmp 3), guard := none, hints := [] },
  { dst := some 5, op := POp.prim (Prim.bin BinOp.eql 2 false true) [Operand.tmp 4, Operand.const (Value.int IntKind.i64 0)], guard := none, hints := [] },
  { dst := some 6, op := POp.mv (Operand.tmp 5), guard := none, hints := [] },
  { dst := some 7, op := POp.faddr 1 (Operand.tmp 1), guard := some (6, false), hints := [] },
  { dst := some 8, op := POp.load false 1 (Operand.tmp 7), guard := some (6, false), hints := [] },
  { dst := some 9, op := POp.prim (Prim.bin BinOp.eql 9 false true) [Operand.tmp 8, Operand.const (Value.string { data := { toList := [] } })], guard := some (6, false), hints := [] },
  { dst := some 10, op := POp.pick (Operand.tmp 6) (Operand.const (Value.bool true)) (Operand.tmp 9), guard := none, hints := [] },
  { dst := some 11, op := POp.mv (Operand.tmp 10), guard := none, hints := [] },
  { dst := some 12, op := POp.faddr 1 (Operand.tmp 1), guard := some (11, true), hints := [] },
  { dst := some 13, op := POp.load false 1 (Operand.tmp 12), guard := some (11, true), hints := [] },
  { dst := some 14, op := POp.prim (Prim.len 9) [Operand.tmp 13], guard := some (11, true), hints := [] },
  { dst := some 15, op := POp.prim (Prim.bin BinOp.leq 3 false true) [Operand.tmp 14, Operand.const (Value.int IntKind.i64 12)], guard := some (11, true), hints := [] },
  { dst := some 16, op := POp.pick (Operand.tmp 11) (Operand.tmp 15) (Operand.const (Value.bool false)), guard := none, hints := [] },
  { dst := some 2, op := POp.mv (Operand.tmp 16), guard := none, hints := [] }]
def pc26_c2 : PCode := .region none false pc26_o2
def pc26_c3 : PCode := .ret
def pc26_c4 : PCode := .seq pc26_c2 pc26_c3
def pc26_c5 : PCode := .seq pc26_c1 pc26_c4
def pc26_r : List PRes := [PRes.tmp 2 []]
def pc26 : PFunc := ⟨17, pc26_r, pc26_c5⟩
def pc26_a : Ann := {
  kr := fun
    | _ => none
  ka := fun
    | _ => 0
  kh := fun
    | _ => none }
theorem pc26_ok : compFn Try.prog pc26_a Try.f26 = some pc26 := by kernel_rfl


-- 43: vedette/fields.has
def pc43_o1 : List POper := [{ dst := some 4, op := POp.mv (Operand.const (Value.bool false)), guard := none, hints := [] }]
def pc43_c1 : PCode := .region none false pc43_o1
def pc43_o2 : List POper := [{ dst := some 5, op := POp.mv (Operand.tmp 0), guard := none, hints := [] },
  { dst := some 6, op := POp.mv (Operand.tmp 1), guard := none, hints := [] },
  { dst := some 7, op := POp.prim (Prim.bin BinOp.add 3 false true) [Operand.tmp 6, Operand.const (Value.int IntKind.i64 1)], guard := none, hints := [] },
  { dst := some 8, op := POp.prim (Prim.bin BinOp.shr 5 false false) [Operand.tmp 5, Operand.tmp 7], guard := none, hints := [] },
  { dst := some 9, op := POp.prim (Prim.bin BinOp.and 5 false true) [Operand.tmp 8, Operand.const (Value.int IntKind.u8 1)], guard := none, hints := [] },
  { dst := some 10, op := POp.prim (Prim.bin BinOp.eql 5 false true) [Operand.tmp 9, Operand.const (Value.int IntKind.u8 1)], guard := none, hints := [] },
  { dst := some 4, op := POp.mv (Operand.tmp 10), guard := none, hints := [] }]
def pc43_c2 : PCode := .region none false pc43_o2
def pc43_c3 : PCode := .ret
def pc43_c4 : PCode := .seq pc43_c2 pc43_c3
def pc43_c5 : PCode := .seq pc43_c1 pc43_c4
def pc43_r : List PRes := [PRes.tmp 4 []]
def pc43 : PFunc := ⟨11, pc43_r, pc43_c5⟩
def pc43_a : Ann := {
  kr := fun
    | _ => none
  ka := fun
    | _ => 0
  kh := fun
    | _ => none }
theorem pc43_ok : compFn Try.prog pc43_a Try.f43 = some pc43 := by kernel_rfl


-- 50: vedette/geom.On
def pc50_o1 : List POper := [{ dst := some 1, op := POp.box 23 (Operand.tmp 0), guard := none, hints := [] },
  { dst := some 2, op := POp.mv (Operand.const (Value.bool false)), guard := none, hints := [] }]
def pc50_c1 : PCode := .region none false pc50_o1
def pc50_o2 : List POper := [{ dst := some 3, op := POp.faddr 0 (Operand.tmp 1), guard := none, hints := [] },
  { dst := some 4, op := POp.load false 1 (Operand.tmp 3), guard := none, hints := [] },
  { dst := some 5, op := POp.prim (Prim.bin BinOp.geq 3 false true) [Operand.tmp 4, Operand.const (Value.int IntKind.i64 0)], guard := none, hints := [] },
  { dst := some 6, op := POp.mv (Operand.tmp 5), guard := none, hints := [] },
  { dst := some 7, op := POp.faddr 0 (Operand.tmp 1), guard := some (6, true), hints := [] },
  { dst := some 8, op := POp.load false 1 (Operand.tmp 7), guard := some (6, true), hints := [] },
  { dst := some 9, op := POp.prim (Prim.bin BinOp.lss 3 false true) [Operand.tmp 8, Operand.const (Value.int IntKind.i64 64)], guard := some (6, true), hints := [] },
  { dst := some 10, op := POp.pick (Operand.tmp 6) (Operand.tmp 9) (Operand.const (Value.bool false)), guard := none, hints := [] },
  { dst := some 11, op := POp.mv (Operand.tmp 10), guard := none, hints := [] },
  { dst := some 12, op := POp.faddr 1 (Operand.tmp 1), guard := some (11, true), hints := [] },
  { dst := some 13, op := POp.load false 1 (Operand.tmp 12), guard := some (11, true), hints := [] },
  { dst := some 14, op := POp.prim (Prim.bin BinOp.geq 3 false true) [Operand.tmp 13, Operand.const (Value.int IntKind.i64 0)], guard := some (11, true), hints := [] },
  { dst := some 15, op := POp.pick (Operand.tmp 11) (Operand.tmp 14) (Operand.const (Value.bool false)), guard := none, hints := [] },
  { dst := some 16, op := POp.mv (Operand.tmp 15), guard := none, hints := [] },
  { dst := some 17, op := POp.faddr 1 (Operand.tmp 1), guard := some (16, true), hints := [] },
  { dst := some 18, op := POp.load false 1 (Operand.tmp 17), guard := some (16, true), hints := [] },
  { dst := some 19, op := POp.prim (Prim.bin BinOp.lss 3 false true) [Operand.tmp 18, Operand.const (Value.int IntKind.i64 64)], guard := some (16, true), hints := [] },
  { dst := some 20, op := POp.pick (Operand.tmp 16) (Operand.tmp 19) (Operand.const (Value.bool false)), guard := none, hints := [] },
  { dst := some 2, op := POp.mv (Operand.tmp 20), guard := none, hints := [] }]
def pc50_c2 : PCode := .region none false pc50_o2
def pc50_c3 : PCode := .ret
def pc50_c4 : PCode := .seq pc50_c2 pc50_c3
def pc50_c5 : PCode := .seq pc50_c1 pc50_c4
def pc50_r : List PRes := [PRes.tmp 2 []]
def pc50 : PFunc := ⟨21, pc50_r, pc50_c5⟩
def pc50_a : Ann := {
  kr := fun
    | _ => none
  ka := fun
    | _ => 0
  kh := fun
    | _ => none }
theorem pc50_ok : compFn Try.prog pc50_a Try.f50 = some pc50 := by kernel_rfl


-- 25: vedette/fields.IsDelta
def pc25_o1 : List POper := [{ dst := some 1, op := POp.box 30 (Operand.tmp 0), guard := none, hints := [] },
  { dst := some 2, op := POp.mv (Operand.const (Value.bool false)), guard := none, hints := [] }]
def pc25_c1 : PCode := .region none false pc25_o1
def pc25_o2 : List POper := [{ dst := some 5, op := POp.faddr 0 (Operand.tmp 1), guard := none, hints := [] },
  { dst := some 6, op := POp.load false 1 (Operand.tmp 5), guard := none, hints := [] },
  { dst := some 7, op := POp.prim (Prim.bin BinOp.lss 3 false true) [Operand.tmp 6, Operand.const (Value.int IntKind.i64 0)], guard := none, hints := [] },
  { dst := some 8, op := POp.mv (Operand.tmp 7), guard := none, hints := [] },
  { dst := some 9, op := POp.faddr 0 (Operand.tmp 1), guard := some (8, false), hints := [] },
  { dst := some 10, op := POp.load false 1 (Operand.tmp 9), guard := some (8, false), hints := [] },
  { dst := some 11, op := POp.prim (Prim.bin BinOp.gtr 3 false true) [Operand.tmp 10, Operand.const (Value.int IntKind.i64 1000000)], guard := some (8, false), hints := [] },
  { dst := some 12, op := POp.pick (Operand.tmp 8) (Operand.const (Value.bool true)) (Operand.tmp 11), guard := none, hints := [] },
  { dst := some 13, op := POp.mv (Operand.tmp 12), guard := none, hints := [] },
  { dst := some 14, op := POp.faddr 1 (Operand.tmp 1), guard := some (13, false), hints := [] },
  { dst := some 15, op := POp.load false 1 (Operand.tmp 14), guard := some (13, false), hints := [] },
  { dst := some 16, op := POp.prim (Prim.bin BinOp.eql 5 false true) [Operand.tmp 15, Operand.const (Value.int IntKind.u8 0)], guard := some (13, false), hints := [] },
  { dst := some 17, op := POp.pick (Operand.tmp 13) (Operand.const (Value.bool true)) (Operand.tmp 16), guard := none, hints := [] },
  { dst := some 18, op := POp.mv (Operand.tmp 17), guard := none, hints := [] },
  { dst := some 19, op := POp.faddr 1 (Operand.tmp 1), guard := some (18, false), hints := [] },
  { dst := some 20, op := POp.load false 1 (Operand.tmp 19), guard := some (18, false), hints := [] },
  { dst := some 21, op := POp.prim (Prim.bin BinOp.gtr 5 false true) [Operand.tmp 20, Operand.const (Value.int IntKind.u8 31)], guard := some (18, false), hints := [] },
  { dst := some 22, op := POp.pick (Operand.tmp 18) (Operand.const (Value.bool true)) (Operand.tmp 21), guard := none, hints := [] }]
def pc25_c2 : PCode := .region none false pc25_o2
def pc25_o3 : List POper := [{ dst := some 2, op := POp.mv (Operand.const (Value.bool false)), guard := none, hints := [] }]
def pc25_c3 : PCode := .region none false pc25_o3
def pc25_c4 : PCode := .ret
def pc25_c5 : PCode := .seq pc25_c3 pc25_c4
def pc25_c6 : PCode := .skip
def pc25_c7 : PCode := .cond (Operand.tmp 22) pc25_c5 pc25_c6
def pc25_c8 : PCode := .seq pc25_c2 pc25_c7
def pc25_o9 : List POper := [{ dst := some 23, op := POp.faddr 1 (Operand.tmp 1), guard := none, hints := [] },
  { dst := some 24, op := POp.load false 1 (Operand.tmp 23), guard := none, hints := [] },
  { dst := some 25, op := POp.prim (Prim.bin BinOp.and 5 false true) [Operand.tmp 24, Operand.const (Value.int IntKind.u8 1)], guard := none, hints := [] },
  { dst := some 26, op := POp.prim (Prim.bin BinOp.eql 5 false true) [Operand.tmp 25, Operand.const (Value.int IntKind.u8 0)], guard := none, hints := [] },
  { dst := some 27, op := POp.mv (Operand.tmp 26), guard := none, hints := [] },
  { dst := some 28, op := POp.faddr 2 (Operand.tmp 1), guard := some (27, true), hints := [] },
  { dst := some 29, op := POp.load true 2 (Operand.tmp 28), guard := some (27, true), hints := [] },
  { dst := some 30, op := POp.build (Value.agg { toList := [Value.int IntKind.i64 0, Value.int IntKind.i64 0] }) [], guard := some (27, true), hints := [] },
  { dst := some 31, op := POp.prim (Prim.bin BinOp.neq 23 false false) [Operand.tmp 29, Operand.tmp 30], guard := some (27, true), hints := [] },
  { dst := some 32, op := POp.pick (Operand.tmp 27) (Operand.tmp 31) (Operand.const (Value.bool false)), guard := none, hints := [] },
  { dst := some 33, op := POp.mv (Operand.tmp 32), guard := none, hints := [] },
  { dst := some 34, op := POp.faddr 2 (Operand.tmp 1), guard := some (33, false), hints := [] },
  { dst := some 35, op := POp.load true 2 (Operand.tmp 34), guard := some (33, false), hints := [] },
  { dst := some 36, op := POp.call true [[]] 50 [Operand.tmp 35], guard := some (33, false), hints := [] },
  { dst := some 37, op := POp.prim (Prim.un UnOp.not) [Operand.tmp 36], guard := some (33, false), hints := [] },
  { dst := some 38, op := POp.pick (Operand.tmp 33) (Operand.const (Value.bool true)) (Operand.tmp 37), guard := none, hints := [] }]
def pc25_c9 : PCode := .region none false pc25_o9
def pc25_o10 : List POper := [{ dst := some 2, op := POp.mv (Operand.const (Value.bool false)), guard := none, hints := [] }]
def pc25_c10 : PCode := .region none false pc25_o10
def pc25_c11 : PCode := .ret
def pc25_c12 : PCode := .seq pc25_c10 pc25_c11
def pc25_c13 : PCode := .skip
def pc25_c14 : PCode := .cond (Operand.tmp 38) pc25_c12 pc25_c13
def pc25_c15 : PCode := .seq pc25_c9 pc25_c14
def pc25_o16 : List POper := [{ dst := some 39, op := POp.faddr 4 (Operand.tmp 1), guard := none, hints := [] },
  { dst := some 40, op := POp.load true 8 (Operand.tmp 39), guard := none, hints := [] },
  { dst := some 41, op := POp.mv (Operand.const (Value.int IntKind.i64 0)), guard := none, hints := [] }]
def pc25_c16 : PCode := .region (some ([1], [1])) false pc25_o16
def pc25_o17 : List POper := [{ dst := some 42, op := POp.prim (Prim.bin BinOp.lss 3 false true) [Operand.tmp 41, Operand.const (Value.int IntKind.i64 4)], guard := none, hints := [] }]
def pc25_c17 : PCode := .region (some ([1, 40, 41], [1, 4])) false pc25_o17
def pc25_c18 : PCode := .skip
def pc25_c19 : PCode := .exit 0
def pc25_c20 : PCode := .cond (Operand.tmp 42) pc25_c18 pc25_c19
def pc25_o21 : List POper := [{ dst := some 43, op := POp.mv (Operand.tmp 41), guard := none, hints := [] },
  { dst := some 44, op := POp.idx true 2 4 (Operand.tmp 40) (Operand.tmp 41), guard := none, hints := [] },
  { dst := some 4, op := POp.alloc 25 (Value.agg { toList := [Value.int IntKind.i64 0, Value.string { data := { toList := [] } }] }), guard := none, hints := [] },
  { dst := some 3, op := POp.mv (Operand.tmp 43), guard := none, hints := [] },
  { dst := none, op := POp.store 2 (Operand.tmp 4) (Operand.tmp 44), guard := none, hints := [] }]
def pc25_c21 : PCode := .region none false pc25_o21
def pc25_o22 : List POper := [{ dst := some 45, op := POp.load true 2 (Operand.tmp 4), guard := none, hints := [] },
  { dst := some 46, op := POp.call true [[]] 26 [Operand.tmp 45], guard := none, hints := [] },
  { dst := some 47, op := POp.prim (Prim.un UnOp.not) [Operand.tmp 46], guard := none, hints := [] },
  { dst := some 48, op := POp.mv (Operand.tmp 47), guard := none, hints := [] },
  { dst := some 49, op := POp.faddr 1 (Operand.tmp 1), guard := some (48, false), hints := [] },
  { dst := some 50, op := POp.load false 1 (Operand.tmp 49), guard := some (48, false), hints := [] },
  { dst := some 51, op := POp.mv (Operand.tmp 3), guard := some (48, false), hints := [] },
  { dst := some 52, op := POp.call true [[], []] 43 [Operand.tmp 50, Operand.tmp 51], guard := some (48, false), hints := [] },
  { dst := some 53, op := POp.prim (Prim.un UnOp.not) [Operand.tmp 52], guard := some (48, false), hints := [] },
  { dst := some 54, op := POp.mv (Operand.tmp 53), guard := some (48, false), hints := [] },
  { dst := some 55, op := POp.load true 2 (Operand.tmp 4), guard := some (54, true), hints := [] },
  { dst := some 56, op := POp.build (Value.agg { toList := [Value.int IntKind.i64 0, Value.string { data := { toList := [] } }] }) [], guard := some (54, true), hints := [] },
  { dst := some 57, op := POp.prim (Prim.bin BinOp.neq 25 false false) [Operand.tmp 55, Operand.tmp 56], guard := some (54, true), hints := [] },
  { dst := some 58, op := POp.pick (Operand.tmp 54) (Operand.tmp 57) (Operand.const (Value.bool false)), guard := some (48, false), hints := [] },
  { dst := some 59, op := POp.pick (Operand.tmp 48) (Operand.const (Value.bool true)) (Operand.tmp 58), guard := none, hints := [] }]
def pc25_c22 : PCode := .region none false pc25_o22
def pc25_o23 : List POper := [{ dst := some 2, op := POp.mv (Operand.const (Value.bool false)), guard := none, hints := [] }]
def pc25_c23 : PCode := .region none false pc25_o23
def pc25_c24 : PCode := .ret
def pc25_c25 : PCode := .seq pc25_c23 pc25_c24
def pc25_c26 : PCode := .skip
def pc25_c27 : PCode := .cond (Operand.tmp 59) pc25_c25 pc25_c26
def pc25_c28 : PCode := .seq pc25_c22 pc25_c27
def pc25_c29 : PCode := .seq pc25_c21 pc25_c28
def pc25_c30 : PCode := .block 1 pc25_c29
def pc25_o31 : List POper := [{ dst := some 60, op := POp.prim (Prim.bin BinOp.add 3 false true) [Operand.tmp 41, Operand.const (Value.int IntKind.i64 1)], guard := none, hints := [] },
  { dst := some 41, op := POp.mv (Operand.tmp 60), guard := none, hints := [] }]
def pc25_c31 : PCode := .region none false pc25_o31
def pc25_c32 : PCode := .seq pc25_c30 pc25_c31
def pc25_c33 : PCode := .seq pc25_c20 pc25_c32
def pc25_c34 : PCode := .seq pc25_c17 pc25_c33
def pc25_c35 : PCode := .loop pc25_c34
def pc25_c36 : PCode := .block 0 pc25_c35
def pc25_c37 : PCode := .seq pc25_c16 pc25_c36
def pc25_o38 : List POper := [{ dst := some 2, op := POp.mv (Operand.const (Value.bool true)), guard := none, hints := [] }]
def pc25_c38 : PCode := .region none false pc25_o38
def pc25_c39 : PCode := .ret
def pc25_c40 : PCode := .seq pc25_c38 pc25_c39
def pc25_c41 : PCode := .seq pc25_c37 pc25_c40
def pc25_c42 : PCode := .seq pc25_c15 pc25_c41
def pc25_c43 : PCode := .seq pc25_c8 pc25_c42
def pc25_c44 : PCode := .seq pc25_c1 pc25_c43
def pc25_r : List PRes := [PRes.tmp 2 []]
def pc25 : PFunc := ⟨61, pc25_r, pc25_c44⟩
def pc25_a : Ann := {
  kr := fun
    | 5 => some ([1], [1])
    | 6 => some ([1, 40, 41], [1, 4])
    | _ => none
  ka := fun
    | _ => 0
  kh := fun
    | _ => none }
theorem pc25_ok : compFn Try.prog pc25_a Try.f25 = some pc25 := by kernel_rfl


-- 42: vedette/num.Put
def pc42_o1 : List POper := [{ dst := some 2, op := POp.mv (Operand.const (Value.string { data := { toList := [] } })), guard := none, hints := [] }]
def pc42_c1 : PCode := .region none false pc42_o1
def pc42_o2 : List POper := [{ dst := some 3, op := POp.mv (Operand.const (Value.slice none 0 0)), guard := none, hints := [] }]
def pc42_c2 : PCode := .region none false pc42_o2
def pc42_o3 : List POper := [{ dst := some 4, op := POp.mv (Operand.tmp 0), guard := none, hints := [] },
  { dst := some 5, op := POp.prim (Prim.bin BinOp.geq 70 false true) [Operand.tmp 4, Operand.const (Value.int IntKind.u64 128)], guard := none, hints := [] }]
def pc42_c3 : PCode := .region (some ([0, 3], [100003])) false pc42_o3
def pc42_c4 : PCode := .skip
def pc42_c5 : PCode := .exit 0
def pc42_c6 : PCode := .cond (Operand.tmp 5) pc42_c4 pc42_c5
def pc42_c7 : PCode := .seq pc42_c3 pc42_c6
def pc42_o8 : List POper := [{ dst := some 6, op := POp.mv (Operand.tmp 3), guard := none, hints := [] },
  { dst := some 7, op := POp.mv (Operand.tmp 0), guard := none, hints := [] },
  { dst := some 8, op := POp.prim (Prim.conv 70 5) [Operand.tmp 7], guard := none, hints := [] },
  { dst := some 9, op := POp.prim (Prim.bin BinOp.or 5 false true) [Operand.tmp 8, Operand.const (Value.int IntKind.u8 128)], guard := none, hints := [] },
  { dst := some 10, op := POp.bslice 5 1 [Operand.tmp 9], guard := none, hints := [] },
  { dst := some 11, op := POp.app 100003 5 1 1 (Operand.tmp 6) (Operand.tmp 10), guard := none, hints := [] },
  { dst := some 3, op := POp.mv (Operand.tmp 11), guard := none, hints := [] }]
def pc42_c8 : PCode := .region none false pc42_o8
def pc42_o9 : List POper := [{ dst := some 12, op := POp.mv (Operand.tmp 0), guard := none, hints := [] },
  { dst := some 13, op := POp.prim (Prim.bin BinOp.shr 70 false true) [Operand.tmp 12, Operand.const (Value.int IntKind.u64 7)], guard := none, hints := [] },
  { dst := some 0, op := POp.mv (Operand.tmp 13), guard := none, hints := [] }]
def pc42_c9 : PCode := .region none false pc42_o9
def pc42_c10 : PCode := .seq pc42_c8 pc42_c9
def pc42_c11 : PCode := .block 1 pc42_c10
def pc42_c12 : PCode := .seq pc42_c7 pc42_c11
def pc42_c13 : PCode := .loop pc42_c12
def pc42_c14 : PCode := .block 0 pc42_c13
def pc42_o15 : List POper := [{ dst := some 14, op := POp.mv (Operand.tmp 3), guard := none, hints := [] },
  { dst := some 15, op := POp.mv (Operand.tmp 0), guard := none, hints := [] },
  { dst := some 16, op := POp.prim (Prim.conv 70 5) [Operand.tmp 15], guard := none, hints := [] },
  { dst := some 17, op := POp.bslice 5 1 [Operand.tmp 16], guard := none, hints := [] },
  { dst := some 18, op := POp.app 100003 5 1 1 (Operand.tmp 14) (Operand.tmp 17), guard := none, hints := [] },
  { dst := some 19, op := POp.b2s (Operand.tmp 18), guard := none, hints := [] },
  { dst := some 2, op := POp.mv (Operand.tmp 19), guard := none, hints := [] }]
def pc42_c15 : PCode := .region (some ([0, 3], [100003])) false pc42_o15
def pc42_c16 : PCode := .ret
def pc42_c17 : PCode := .seq pc42_c15 pc42_c16
def pc42_c18 : PCode := .seq pc42_c14 pc42_c17
def pc42_c19 : PCode := .seq pc42_c2 pc42_c18
def pc42_c20 : PCode := .seq pc42_c1 pc42_c19
def pc42_r : List PRes := [PRes.tmp 2 []]
def pc42 : PFunc := ⟨20, pc42_r, pc42_c20⟩
def pc42_a : Ann := {
  kr := fun
    | 2 => some ([0, 3], [100003])
    | 5 => some ([0, 3], [100003])
    | _ => none
  ka := fun
    | 11 => 100003
    | 18 => 100003
    | _ => 0
  kh := fun
    | _ => none }
theorem pc42_ok : compFn Try.prog pc42_a Try.f42 = some pc42 := by kernel_rfl


-- 44: vedette/num.Text
def pc44_o1 : List POper := [{ dst := some 2, op := POp.mv (Operand.const (Value.string { data := { toList := [] } })), guard := none, hints := [] }]
def pc44_c1 : PCode := .region none false pc44_o1
def pc44_o2 : List POper := [{ dst := some 3, op := POp.mv (Operand.tmp 0), guard := none, hints := [] },
  { dst := some 4, op := POp.prim (Prim.len 9) [Operand.tmp 3], guard := none, hints := [] },
  { dst := some 5, op := POp.prim (Prim.conv 3 70) [Operand.tmp 4], guard := none, hints := [] },
  { dst := some 6, op := POp.call true [[]] 42 [Operand.tmp 5], guard := none, hints := [] },
  { dst := some 7, op := POp.mv (Operand.tmp 0), guard := none, hints := [] },
  { dst := some 8, op := POp.prim (Prim.bin BinOp.add 9 false false) [Operand.tmp 6, Operand.tmp 7], guard := none, hints := [] },
  { dst := some 2, op := POp.mv (Operand.tmp 8), guard := none, hints := [] }]
def pc44_c2 : PCode := .region none false pc44_o2
def pc44_c3 : PCode := .ret
def pc44_c4 : PCode := .seq pc44_c2 pc44_c3
def pc44_c5 : PCode := .seq pc44_c1 pc44_c4
def pc44_r : List PRes := [PRes.tmp 2 []]
def pc44 : PFunc := ⟨9, pc44_r, pc44_c5⟩
def pc44_a : Ann := {
  kr := fun
    | _ => none
  ka := fun
    | _ => 0
  kh := fun
    | _ => none }
theorem pc44_ok : compFn Try.prog pc44_a Try.f44 = some pc44 := by kernel_rfl


-- 68: vedette/num.Zig
def pc68_o1 : List POper := [{ dst := some 2, op := POp.mv (Operand.const (Value.int IntKind.u64 0)), guard := none, hints := [] }]
def pc68_c1 : PCode := .region none false pc68_o1
def pc68_o2 : List POper := [{ dst := some 3, op := POp.mv (Operand.tmp 0), guard := none, hints := [] },
  { dst := some 4, op := POp.prim (Prim.conv 2 70) [Operand.tmp 3], guard := none, hints := [] },
  { dst := some 5, op := POp.prim (Prim.bin BinOp.shl 70 false true) [Operand.tmp 4, Operand.const (Value.int IntKind.u64 1)], guard := none, hints := [] },
  { dst := some 6, op := POp.mv (Operand.tmp 0), guard := none, hints := [] },
  { dst := some 7, op := POp.prim (Prim.bin BinOp.shr 2 false true) [Operand.tmp 6, Operand.const (Value.int IntKind.u64 63)], guard := none, hints := [] },
  { dst := some 8, op := POp.prim (Prim.conv 2 70) [Operand.tmp 7], guard := none, hints := [] },
  { dst := some 9, op := POp.prim (Prim.bin BinOp.xor 70 false false) [Operand.tmp 5, Operand.tmp 8], guard := none, hints := [] },
  { dst := some 2, op := POp.mv (Operand.tmp 9), guard := none, hints := [] }]
def pc68_c2 : PCode := .region none false pc68_o2
def pc68_c3 : PCode := .ret
def pc68_c4 : PCode := .seq pc68_c2 pc68_c3
def pc68_c5 : PCode := .seq pc68_c1 pc68_c4
def pc68_r : List PRes := [PRes.tmp 2 []]
def pc68 : PFunc := ⟨10, pc68_r, pc68_c5⟩
def pc68_a : Ann := {
  kr := fun
    | _ => none
  ka := fun
    | _ => 0
  kh := fun
    | _ => none }
theorem pc68_ok : compFn Try.prog pc68_a Try.f68 = some pc68 := by kernel_rfl


-- 45: vedette/num.Int
def pc45_o1 : List POper := [{ dst := some 2, op := POp.mv (Operand.const (Value.string { data := { toList := [] } })), guard := none, hints := [] }]
def pc45_c1 : PCode := .region none false pc45_o1
def pc45_o2 : List POper := [{ dst := some 3, op := POp.mv (Operand.tmp 0), guard := none, hints := [] },
  { dst := some 4, op := POp.call true [[]] 68 [Operand.tmp 3], guard := none, hints := [] },
  { dst := some 5, op := POp.call true [[]] 42 [Operand.tmp 4], guard := none, hints := [] },
  { dst := some 2, op := POp.mv (Operand.tmp 5), guard := none, hints := [] }]
def pc45_c2 : PCode := .region none false pc45_o2
def pc45_c3 : PCode := .ret
def pc45_c4 : PCode := .seq pc45_c2 pc45_c3
def pc45_c5 : PCode := .seq pc45_c1 pc45_c4
def pc45_r : List PRes := [PRes.tmp 2 []]
def pc45 : PFunc := ⟨6, pc45_r, pc45_c5⟩
def pc45_a : Ann := {
  kr := fun
    | _ => none
  ka := fun
    | _ => 0
  kh := fun
    | _ => none }
theorem pc45_ok : compFn Try.prog pc45_a Try.f45 = some pc45 := by kernel_rfl


-- 20: vedette/fields.Bytes
def pc20_o1 : List POper := [{ dst := some 1, op := POp.box 30 (Operand.tmp 0), guard := none, hints := [] },
  { dst := some 2, op := POp.mv (Operand.const (Value.string { data := { toList := [] } })), guard := none, hints := [] },
  { dst := some 3, op := POp.mv (Operand.const (Value.int IntKind.i64 0)), guard := none, hints := [] }]
def pc20_c1 : PCode := .region none false pc20_o1
def pc20_o2 : List POper := [{ dst := some 7, op := POp.load true 12 (Operand.tmp 1), guard := none, hints := [] },
  { dst := some 8, op := POp.call true [[]] 25 [Operand.tmp 7], guard := none, hints := [] },
  { dst := some 9, op := POp.prim (Prim.un UnOp.not) [Operand.tmp 8], guard := none, hints := [] }]
def pc20_c2 : PCode := .region none false pc20_o2
def pc20_o3 : List POper := [{ dst := some 2, op := POp.mv (Operand.const (Value.string { data := { toList := [] } })), guard := none, hints := [] },
  { dst := some 3, op := POp.mv (Operand.const (Value.int IntKind.i64 11)), guard := none, hints := [] }]
def pc20_c3 : PCode := .region none false pc20_o3
def pc20_c4 : PCode := .ret
def pc20_c5 : PCode := .seq pc20_c3 pc20_c4
def pc20_c6 : PCode := .skip
def pc20_c7 : PCode := .cond (Operand.tmp 9) pc20_c5 pc20_c6
def pc20_c8 : PCode := .seq pc20_c2 pc20_c7
def pc20_o9 : List POper := [{ dst := some 10, op := POp.faddr 0 (Operand.tmp 1), guard := none, hints := [(1, Hint.at_ 1 0)] },
  { dst := some 11, op := POp.load false 1 (Operand.tmp 10), guard := none, hints := [(10, Hint.at_ 1 0)] },
  { dst := some 12, op := POp.prim (Prim.conv 3 70) [Operand.tmp 11], guard := none, hints := [(11, Hint.imm)] },
  { dst := some 13, op := POp.call false [[]] 42 [Operand.tmp 12], guard := none, hints := [(12, Hint.imm)] },
  { dst := some 14, op := POp.faddr 1 (Operand.tmp 1), guard := none, hints := [(1, Hint.at_ 1 0)] },
  { dst := some 15, op := POp.load false 1 (Operand.tmp 14), guard := none, hints := [(14, Hint.at_ 1 1)] },
  { dst := some 16, op := POp.prim (Prim.conv 5 70) [Operand.tmp 15], guard := none, hints := [(15, Hint.imm)] },
  { dst := some 17, op := POp.call false [[]] 42 [Operand.tmp 16], guard := none, hints := [(16, Hint.imm)] },
  { dst := some 18, op := POp.prim (Prim.bin BinOp.add 9 false false) [Operand.tmp 13, Operand.tmp 17], guard := none, hints := [(13, Hint.imm), (17, Hint.imm)] },
  { dst := some 4, op := POp.mv (Operand.tmp 18), guard := none, hints := [(18, Hint.imm)] }]
def pc20_c9 : PCode := .region none true pc20_o9
def pc20_o10 : List POper := [{ dst := some 19, op := POp.faddr 1 (Operand.tmp 1), guard := none, hints := [] },
  { dst := some 20, op := POp.load false 1 (Operand.tmp 19), guard := none, hints := [] },
  { dst := some 21, op := POp.prim (Prim.bin BinOp.and 5 false true) [Operand.tmp 20, Operand.const (Value.int IntKind.u8 1)], guard := none, hints := [] },
  { dst := some 22, op := POp.prim (Prim.bin BinOp.neq 5 false true) [Operand.tmp 21, Operand.const (Value.int IntKind.u8 0)], guard := none, hints := [] }]
def pc20_c10 : PCode := .region none false pc20_o10
def pc20_o11 : List POper := [{ dst := some 23, op := POp.mv (Operand.tmp 4), guard := none, hints := [(4, Hint.imm)] },
  { dst := some 24, op := POp.faddr 2 (Operand.tmp 1), guard := none, hints := [(1, Hint.at_ 1 0)] },
  { dst := some 25, op := POp.faddr 0 (Operand.tmp 24), guard := none, hints := [(24, Hint.at_ 1 2)] },
  { dst := some 26, op := POp.load false 1 (Operand.tmp 25), guard := none, hints := [(25, Hint.at_ 1 2)] },
  { dst := some 27, op := POp.prim (Prim.conv 3 70) [Operand.tmp 26], guard := none, hints := [(26, Hint.imm)] },
  { dst := some 28, op := POp.call false [[]] 42 [Operand.tmp 27], guard := none, hints := [(27, Hint.imm)] },
  { dst := some 29, op := POp.faddr 2 (Operand.tmp 1), guard := none, hints := [(1, Hint.at_ 1 0)] },
  { dst := some 30, op := POp.faddr 1 (Operand.tmp 29), guard := none, hints := [(29, Hint.at_ 1 2)] },
  { dst := some 31, op := POp.load false 1 (Operand.tmp 30), guard := none, hints := [(30, Hint.at_ 1 3)] },
  { dst := some 32, op := POp.prim (Prim.conv 3 70) [Operand.tmp 31], guard := none, hints := [(31, Hint.imm)] },
  { dst := some 33, op := POp.call false [[]] 42 [Operand.tmp 32], guard := none, hints := [(32, Hint.imm)] },
  { dst := some 34, op := POp.prim (Prim.bin BinOp.add 9 false false) [Operand.tmp 28, Operand.tmp 33], guard := none, hints := [(28, Hint.imm), (33, Hint.imm)] },
  { dst := some 35, op := POp.prim (Prim.bin BinOp.add 9 false false) [Operand.tmp 23, Operand.tmp 34], guard := none, hints := [(23, Hint.imm), (34, Hint.imm)] },
  { dst := some 4, op := POp.mv (Operand.tmp 35), guard := none, hints := [(35, Hint.imm)] }]
def pc20_c11 : PCode := .region none true pc20_o11
def pc20_c12 : PCode := .skip
def pc20_c13 : PCode := .cond (Operand.tmp 22) pc20_c11 pc20_c12
def pc20_c14 : PCode := .seq pc20_c10 pc20_c13
def pc20_o15 : List POper := [{ dst := some 36, op := POp.faddr 4 (Operand.tmp 1), guard := none, hints := [] },
  { dst := some 37, op := POp.load true 8 (Operand.tmp 36), guard := none, hints := [] },
  { dst := some 38, op := POp.mv (Operand.const (Value.int IntKind.i64 0)), guard := none, hints := [] }]
def pc20_c15 : PCode := .region (some ([1, 4], [1])) false pc20_o15
def pc20_o16 : List POper := [{ dst := some 39, op := POp.prim (Prim.bin BinOp.lss 3 false true) [Operand.tmp 38, Operand.const (Value.int IntKind.i64 4)], guard := none, hints := [] }]
def pc20_c16 : PCode := .region (some ([1, 4, 37, 38], [1, 6])) false pc20_o16
def pc20_c17 : PCode := .skip
def pc20_c18 : PCode := .exit 0
def pc20_c19 : PCode := .cond (Operand.tmp 39) pc20_c17 pc20_c18
def pc20_o20 : List POper := [{ dst := some 40, op := POp.mv (Operand.tmp 38), guard := none, hints := [] },
  { dst := some 41, op := POp.idx true 2 4 (Operand.tmp 37) (Operand.tmp 38), guard := none, hints := [] },
  { dst := some 6, op := POp.alloc 25 (Value.agg { toList := [Value.int IntKind.i64 0, Value.string { data := { toList := [] } }] }), guard := none, hints := [] },
  { dst := some 5, op := POp.mv (Operand.tmp 40), guard := none, hints := [] },
  { dst := none, op := POp.store 2 (Operand.tmp 6) (Operand.tmp 41), guard := none, hints := [] }]
def pc20_c20 : PCode := .region none false pc20_o20
def pc20_o21 : List POper := [{ dst := some 42, op := POp.faddr 1 (Operand.tmp 1), guard := none, hints := [] },
  { dst := some 43, op := POp.load false 1 (Operand.tmp 42), guard := none, hints := [] },
  { dst := some 44, op := POp.mv (Operand.tmp 5), guard := none, hints := [] },
  { dst := some 45, op := POp.call true [[], []] 43 [Operand.tmp 43, Operand.tmp 44], guard := none, hints := [] },
  { dst := some 46, op := POp.prim (Prim.un UnOp.not) [Operand.tmp 45], guard := none, hints := [] }]
def pc20_c21 : PCode := .region none false pc20_o21
def pc20_c22 : PCode := .exit 1
def pc20_c23 : PCode := .skip
def pc20_c24 : PCode := .cond (Operand.tmp 46) pc20_c22 pc20_c23
def pc20_c25 : PCode := .seq pc20_c21 pc20_c24
def pc20_o26 : List POper := [{ dst := some 47, op := POp.mv (Operand.tmp 4), guard := none, hints := [] },
  { dst := some 48, op := POp.faddr 1 (Operand.tmp 6), guard := none, hints := [] },
  { dst := some 49, op := POp.load false 1 (Operand.tmp 48), guard := none, hints := [] },
  { dst := some 50, op := POp.call true [[]] 44 [Operand.tmp 49], guard := none, hints := [] },
  { dst := some 51, op := POp.prim (Prim.bin BinOp.add 9 false false) [Operand.tmp 47, Operand.tmp 50], guard := none, hints := [] },
  { dst := some 4, op := POp.mv (Operand.tmp 51), guard := none, hints := [] }]
def pc20_c26 : PCode := .region none false pc20_o26
def pc20_o27 : List POper := [{ dst := some 52, op := POp.faddr 1 (Operand.tmp 6), guard := none, hints := [] },
  { dst := some 53, op := POp.load false 1 (Operand.tmp 52), guard := none, hints := [] },
  { dst := some 54, op := POp.prim (Prim.bin BinOp.eql 9 false true) [Operand.tmp 53, Operand.const (Value.string { data := { toList := [] } })], guard := none, hints := [] }]
def pc20_c27 : PCode := .region none false pc20_o27
def pc20_o28 : List POper := [{ dst := some 55, op := POp.mv (Operand.tmp 4), guard := none, hints := [] },
  { dst := some 56, op := POp.faddr 0 (Operand.tmp 6), guard := none, hints := [] },
  { dst := some 57, op := POp.load false 1 (Operand.tmp 56), guard := none, hints := [] },
  { dst := some 58, op := POp.call true [[]] 45 [Operand.tmp 57], guard := none, hints := [] },
  { dst := some 59, op := POp.prim (Prim.bin BinOp.add 9 false false) [Operand.tmp 55, Operand.tmp 58], guard := none, hints := [] },
  { dst := some 4, op := POp.mv (Operand.tmp 59), guard := none, hints := [] }]
def pc20_c28 : PCode := .region none false pc20_o28
def pc20_c29 : PCode := .skip
def pc20_c30 : PCode := .cond (Operand.tmp 54) pc20_c28 pc20_c29
def pc20_c31 : PCode := .seq pc20_c27 pc20_c30
def pc20_c32 : PCode := .seq pc20_c26 pc20_c31
def pc20_c33 : PCode := .seq pc20_c25 pc20_c32
def pc20_c34 : PCode := .seq pc20_c20 pc20_c33
def pc20_c35 : PCode := .block 1 pc20_c34
def pc20_o36 : List POper := [{ dst := some 60, op := POp.prim (Prim.bin BinOp.add 3 false true) [Operand.tmp 38, Operand.const (Value.int IntKind.i64 1)], guard := none, hints := [] },
  { dst := some 38, op := POp.mv (Operand.tmp 60), guard := none, hints := [] }]
def pc20_c36 : PCode := .region none false pc20_o36
def pc20_c37 : PCode := .seq pc20_c35 pc20_c36
def pc20_c38 : PCode := .seq pc20_c19 pc20_c37
def pc20_c39 : PCode := .seq pc20_c16 pc20_c38
def pc20_c40 : PCode := .loop pc20_c39
def pc20_c41 : PCode := .block 0 pc20_c40
def pc20_c42 : PCode := .seq pc20_c15 pc20_c41
def pc20_o43 : List POper := [{ dst := some 61, op := POp.mv (Operand.tmp 4), guard := none, hints := [] },
  { dst := some 2, op := POp.mv (Operand.tmp 61), guard := none, hints := [] },
  { dst := some 3, op := POp.mv (Operand.const (Value.int IntKind.i64 0)), guard := none, hints := [] }]
def pc20_c43 : PCode := .region none false pc20_o43
def pc20_c44 : PCode := .ret
def pc20_c45 : PCode := .seq pc20_c43 pc20_c44
def pc20_c46 : PCode := .seq pc20_c42 pc20_c45
def pc20_c47 : PCode := .seq pc20_c14 pc20_c46
def pc20_c48 : PCode := .seq pc20_c9 pc20_c47
def pc20_c49 : PCode := .seq pc20_c8 pc20_c48
def pc20_c50 : PCode := .seq pc20_c1 pc20_c49
def pc20_r : List PRes := [PRes.tmp 2 [], PRes.tmp 3 []]
def pc20 : PFunc := ⟨62, pc20_r, pc20_c50⟩
def pc20_a : Ann := {
  kr := fun
    | 6 => some ([1, 4], [1])
    | 7 => some ([1, 4, 37, 38], [1, 6])
    | _ => none
  ka := fun
    | _ => 0
  kh := fun
    | 1 => some (Hint.at_ 1 0)
    | 4 => some (Hint.imm)
    | 10 => some (Hint.at_ 1 0)
    | 11 => some (Hint.imm)
    | 12 => some (Hint.imm)
    | 13 => some (Hint.imm)
    | 14 => some (Hint.at_ 1 1)
    | 15 => some (Hint.imm)
    | 16 => some (Hint.imm)
    | 17 => some (Hint.imm)
    | 18 => some (Hint.imm)
    | 23 => some (Hint.imm)
    | 24 => some (Hint.at_ 1 2)
    | 25 => some (Hint.at_ 1 2)
    | 26 => some (Hint.imm)
    | 27 => some (Hint.imm)
    | 28 => some (Hint.imm)
    | 29 => some (Hint.at_ 1 2)
    | 30 => some (Hint.at_ 1 3)
    | 31 => some (Hint.imm)
    | 32 => some (Hint.imm)
    | 33 => some (Hint.imm)
    | 34 => some (Hint.imm)
    | 35 => some (Hint.imm)
    | _ => none }
theorem pc20_ok : compFn Try.prog pc20_a Try.f20 = some pc20 := by kernel_rfl


-- 23: vedette/fields.Apply
def pc23_o1 : List POper := [{ dst := some 2, op := POp.box 28 (Operand.tmp 0), guard := none, hints := [] },
  { dst := some 3, op := POp.box 30 (Operand.tmp 1), guard := none, hints := [] },
  { dst := some 4, op := POp.alloc 28 (Value.agg { toList := [Value.int IntKind.i64 0, Value.int IntKind.i64 0, Value.int IntKind.i64 0, Value.int IntKind.i64 0, Value.string { data := { toList := [] } }, Value.int IntKind.i64 0, Value.string { data := { toList := [] } }, Value.int IntKind.i64 0, Value.string { data := { toList := [] } }, Value.int IntKind.i64 0, Value.string { data := { toList := [] } }] }), guard := none, hints := [] }]
def pc23_c1 : PCode := .region none false pc23_o1
def pc23_o2 : List POper := [{ dst := some 7, op := POp.faddr 1 (Operand.tmp 3), guard := none, hints := [] },
  { dst := some 8, op := POp.load false 1 (Operand.tmp 7), guard := none, hints := [] },
  { dst := some 9, op := POp.prim (Prim.bin BinOp.and 5 false true) [Operand.tmp 8, Operand.const (Value.int IntKind.u8 1)], guard := none, hints := [] },
  { dst := some 10, op := POp.prim (Prim.bin BinOp.neq 5 false true) [Operand.tmp 9, Operand.const (Value.int IntKind.u8 0)], guard := none, hints := [] }]
def pc23_c2 : PCode := .region none false pc23_o2
def pc23_o3 : List POper := [{ dst := some 11, op := POp.faddr 2 (Operand.tmp 3), guard := none, hints := [] },
  { dst := some 12, op := POp.load true 2 (Operand.tmp 11), guard := none, hints := [] },
  { dst := some 13, op := POp.faddr 1 (Operand.tmp 2), guard := none, hints := [] },
  { dst := none, op := POp.store 2 (Operand.tmp 13) (Operand.tmp 12), guard := none, hints := [] }]
def pc23_c3 : PCode := .region none false pc23_o3
def pc23_c4 : PCode := .skip
def pc23_c5 : PCode := .cond (Operand.tmp 10) pc23_c3 pc23_c4
def pc23_c6 : PCode := .seq pc23_c2 pc23_c5
def pc23_o7 : List POper := [{ dst := some 14, op := POp.faddr 4 (Operand.tmp 3), guard := none, hints := [] },
  { dst := some 15, op := POp.load true 8 (Operand.tmp 14), guard := none, hints := [] },
  { dst := some 16, op := POp.mv (Operand.const (Value.int IntKind.i64 0)), guard := none, hints := [] }]
def pc23_c7 : PCode := .region (some ([2, 3, 4], [2, 3, 4])) false pc23_o7
def pc23_o8 : List POper := [{ dst := some 17, op := POp.prim (Prim.bin BinOp.lss 3 false true) [Operand.tmp 16, Operand.const (Value.int IntKind.i64 4)], guard := none, hints := [] }]
def pc23_c8 : PCode := .region (some ([2, 3, 4, 15, 16], [2, 3, 4, 6])) false pc23_o8
def pc23_c9 : PCode := .skip
def pc23_c10 : PCode := .exit 0
def pc23_c11 : PCode := .cond (Operand.tmp 17) pc23_c9 pc23_c10
def pc23_o12 : List POper := [{ dst := some 18, op := POp.mv (Operand.tmp 16), guard := none, hints := [] },
  { dst := some 19, op := POp.idx true 2 4 (Operand.tmp 15) (Operand.tmp 16), guard := none, hints := [] },
  { dst := some 6, op := POp.alloc 25 (Value.agg { toList := [Value.int IntKind.i64 0, Value.string { data := { toList := [] } }] }), guard := none, hints := [] },
  { dst := some 5, op := POp.mv (Operand.tmp 18), guard := none, hints := [] },
  { dst := none, op := POp.store 2 (Operand.tmp 6) (Operand.tmp 19), guard := none, hints := [] }]
def pc23_c12 : PCode := .region none false pc23_o12
def pc23_o13 : List POper := [{ dst := some 20, op := POp.faddr 1 (Operand.tmp 3), guard := none, hints := [] },
  { dst := some 21, op := POp.load false 1 (Operand.tmp 20), guard := none, hints := [] },
  { dst := some 22, op := POp.mv (Operand.tmp 5), guard := none, hints := [] },
  { dst := some 23, op := POp.call true [[], []] 43 [Operand.tmp 21, Operand.tmp 22], guard := none, hints := [] }]
def pc23_c13 : PCode := .region none false pc23_o13
def pc23_o14 : List POper := [{ dst := some 24, op := POp.mv (Operand.tmp 5), guard := none, hints := [] },
  { dst := some 25, op := POp.load true 2 (Operand.tmp 6), guard := none, hints := [] },
  { dst := some 26, op := POp.faddr 3 (Operand.tmp 2), guard := none, hints := [] },
  { dst := some 27, op := POp.iaddrA 4 2 (Operand.tmp 26) (Operand.tmp 24), guard := none, hints := [] },
  { dst := none, op := POp.store 2 (Operand.tmp 27) (Operand.tmp 25), guard := none, hints := [] }]
def pc23_c14 : PCode := .region none false pc23_o14
def pc23_c15 : PCode := .skip
def pc23_c16 : PCode := .cond (Operand.tmp 23) pc23_c14 pc23_c15
def pc23_c17 : PCode := .seq pc23_c13 pc23_c16
def pc23_c18 : PCode := .seq pc23_c12 pc23_c17
def pc23_c19 : PCode := .block 1 pc23_c18
def pc23_o20 : List POper := [{ dst := some 28, op := POp.prim (Prim.bin BinOp.add 3 false true) [Operand.tmp 16, Operand.const (Value.int IntKind.i64 1)], guard := none, hints := [] },
  { dst := some 16, op := POp.mv (Operand.tmp 28), guard := none, hints := [] }]
def pc23_c20 : PCode := .region none false pc23_o20
def pc23_c21 : PCode := .seq pc23_c19 pc23_c20
def pc23_c22 : PCode := .seq pc23_c11 pc23_c21
def pc23_c23 : PCode := .seq pc23_c8 pc23_c22
def pc23_c24 : PCode := .loop pc23_c23
def pc23_c25 : PCode := .block 0 pc23_c24
def pc23_c26 : PCode := .seq pc23_c7 pc23_c25
def pc23_o27 : List POper := [{ dst := some 29, op := POp.load true 11 (Operand.tmp 2), guard := none, hints := [] },
  { dst := none, op := POp.store 11 (Operand.tmp 4) (Operand.tmp 29), guard := none, hints := [] }]
def pc23_c27 : PCode := .region none false pc23_o27
def pc23_c28 : PCode := .ret
def pc23_c29 : PCode := .seq pc23_c27 pc23_c28
def pc23_c30 : PCode := .seq pc23_c26 pc23_c29
def pc23_c31 : PCode := .seq pc23_c6 pc23_c30
def pc23_c32 : PCode := .seq pc23_c1 pc23_c31
def pc23_r : List PRes := [PRes.cell 4 true 11 []]
def pc23 : PFunc := ⟨30, pc23_r, pc23_c32⟩
def pc23_a : Ann := {
  kr := fun
    | 3 => some ([2, 3, 4], [2, 3, 4])
    | 4 => some ([2, 3, 4, 15, 16], [2, 3, 4, 6])
    | _ => none
  ka := fun
    | _ => 0
  kh := fun
    | _ => none }
theorem pc23_ok : compFn Try.prog pc23_a Try.f23 = some pc23 := by kernel_rfl


-- 28: vedette/fields.Same
def pc28_o1 : List POper := [{ dst := some 2, op := POp.box 30 (Operand.tmp 0), guard := none, hints := [] },
  { dst := some 3, op := POp.box 30 (Operand.tmp 1), guard := none, hints := [] },
  { dst := some 4, op := POp.mv (Operand.const (Value.bool false)), guard := none, hints := [] }]
def pc28_c1 : PCode := .region none false pc28_o1
def pc28_o2 : List POper := [{ dst := some 5, op := POp.load true 12 (Operand.tmp 2), guard := none, hints := [] },
  { dst := some 6, op := POp.load true 12 (Operand.tmp 3), guard := none, hints := [] },
  { dst := some 7, op := POp.prim (Prim.bin BinOp.eql 30 false false) [Operand.tmp 5, Operand.tmp 6], guard := none, hints := [] },
  { dst := some 4, op := POp.mv (Operand.tmp 7), guard := none, hints := [] }]
def pc28_c2 : PCode := .region none false pc28_o2
def pc28_c3 : PCode := .ret
def pc28_c4 : PCode := .seq pc28_c2 pc28_c3
def pc28_c5 : PCode := .seq pc28_c1 pc28_c4
def pc28_r : List PRes := [PRes.tmp 4 []]
def pc28 : PFunc := ⟨8, pc28_r, pc28_c5⟩
def pc28_a : Ann := {
  kr := fun
    | _ => none
  ka := fun
    | _ => 0
  kh := fun
    | _ => none }
theorem pc28_ok : compFn Try.prog pc28_a Try.f28 = some pc28 := by kernel_rfl


-- 70: vedette/num.Get
def pc70_o1 : List POper := [{ dst := some 2, op := POp.mv (Operand.const (Value.int IntKind.u64 0)), guard := none, hints := [] },
  { dst := some 3, op := POp.mv (Operand.const (Value.int IntKind.i64 0)), guard := none, hints := [] },
  { dst := some 4, op := POp.mv (Operand.const (Value.int IntKind.i64 0)), guard := none, hints := [] }]
def pc70_c1 : PCode := .region none false pc70_o1
def pc70_o2 : List POper := [{ dst := some 5, op := POp.mv (Operand.const (Value.int IntKind.u64 0)), guard := none, hints := [] },
  { dst := some 6, op := POp.mv (Operand.const (Value.int IntKind.i64 0)), guard := none, hints := [] }]
def pc70_c2 : PCode := .region none false pc70_o2
def pc70_c3 : PCode := .label
def pc70_o4 : List POper := [{ dst := some 9, op := POp.mv (Operand.tmp 0), guard := none, hints := [] },
  { dst := some 10, op := POp.s2b 5 (Operand.tmp 9), guard := none, hints := [] },
  { dst := some 11, op := POp.lenS (Operand.tmp 10), guard := none, hints := [] },
  { dst := some 12, op := POp.mv (Operand.const (Value.int IntKind.i64 0)), guard := none, hints := [] }]
def pc70_c4 : PCode := .region none false pc70_o4
def pc70_o5 : List POper := [{ dst := some 13, op := POp.prim (Prim.bin BinOp.lss 3 false false) [Operand.tmp 12, Operand.tmp 11], guard := none, hints := [] }]
def pc70_c5 : PCode := .region (some ([5, 6, 10, 11, 12], [])) false pc70_o5
def pc70_c6 : PCode := .skip
def pc70_c7 : PCode := .exit 0
def pc70_c8 : PCode := .cond (Operand.tmp 13) pc70_c6 pc70_c7
def pc70_o9 : List POper := [{ dst := some 14, op := POp.mv (Operand.tmp 12), guard := none, hints := [] },
  { dst := some 15, op := POp.iaddrS 1 (Operand.tmp 10) (Operand.tmp 12), guard := none, hints := [] },
  { dst := some 16, op := POp.load false 1 (Operand.tmp 15), guard := none, hints := [] },
  { dst := some 7, op := POp.mv (Operand.tmp 14), guard := none, hints := [] },
  { dst := some 8, op := POp.mv (Operand.tmp 16), guard := none, hints := [] }]
def pc70_c9 : PCode := .region none false pc70_o9
def pc70_o10 : List POper := [{ dst := some 18, op := POp.mv (Operand.tmp 7), guard := none, hints := [] },
  { dst := some 19, op := POp.prim (Prim.bin BinOp.eql 3 false true) [Operand.tmp 18, Operand.const (Value.int IntKind.i64 9)], guard := none, hints := [] },
  { dst := some 20, op := POp.mv (Operand.tmp 19), guard := none, hints := [] },
  { dst := some 21, op := POp.mv (Operand.tmp 8), guard := some (20, true), hints := [] },
  { dst := some 22, op := POp.prim (Prim.bin BinOp.gtr 5 false true) [Operand.tmp 21, Operand.const (Value.int IntKind.u8 1)], guard := some (20, true), hints := [] },
  { dst := some 23, op := POp.pick (Operand.tmp 20) (Operand.tmp 22) (Operand.const (Value.bool false)), guard := none, hints := [] },
  { dst := some 17, op := POp.mv (Operand.tmp 23), guard := none, hints := [] }]
def pc70_c10 : PCode := .region none false pc70_o10
def pc70_c11 : PCode := .skip
def pc70_o12 : List POper := [{ dst := some 24, op := POp.mv (Operand.tmp 7), guard := none, hints := [] },
  { dst := some 25, op := POp.prim (Prim.bin BinOp.gtr 3 false true) [Operand.tmp 24, Operand.const (Value.int IntKind.i64 0)], guard := none, hints := [] },
  { dst := some 26, op := POp.mv (Operand.tmp 25), guard := none, hints := [] },
  { dst := some 27, op := POp.mv (Operand.tmp 8), guard := some (26, true), hints := [] },
  { dst := some 28, op := POp.prim (Prim.bin BinOp.eql 5 false true) [Operand.tmp 27, Operand.const (Value.int IntKind.u8 0)], guard := some (26, true), hints := [] },
  { dst := some 29, op := POp.pick (Operand.tmp 26) (Operand.tmp 28) (Operand.const (Value.bool false)), guard := none, hints := [] },
  { dst := some 17, op := POp.mv (Operand.tmp 29), guard := none, hints := [] }]
def pc70_c12 : PCode := .region (some ([5, 6, 7, 8, 10, 11, 12], [])) false pc70_o12
def pc70_c13 : PCode := .cond (Operand.tmp 17) pc70_c11 pc70_c12
def pc70_c14 : PCode := .seq pc70_c10 pc70_c13
def pc70_o15 : List POper := [{ dst := some 2, op := POp.mv (Operand.const (Value.int IntKind.u64 0)), guard := none, hints := [] },
  { dst := some 3, op := POp.mv (Operand.const (Value.int IntKind.i64 0)), guard := none, hints := [] },
  { dst := some 4, op := POp.mv (Operand.const (Value.int IntKind.i64 11)), guard := none, hints := [] }]
def pc70_c15 : PCode := .region none false pc70_o15
def pc70_c16 : PCode := .ret
def pc70_c17 : PCode := .seq pc70_c15 pc70_c16
def pc70_o18 : List POper := [{ dst := some 31, op := POp.mv (Operand.tmp 8), guard := none, hints := [] },
  { dst := some 32, op := POp.prim (Prim.bin BinOp.lss 5 false true) [Operand.tmp 31, Operand.const (Value.int IntKind.u8 128)], guard := none, hints := [] },
  { dst := some 30, op := POp.mv (Operand.tmp 32), guard := none, hints := [] }]
def pc70_c18 : PCode := .region (some ([5, 6, 7, 8, 10, 11, 12], [])) false pc70_o18
def pc70_o19 : List POper := [{ dst := some 33, op := POp.mv (Operand.tmp 5), guard := none, hints := [] },
  { dst := some 34, op := POp.mv (Operand.tmp 8), guard := none, hints := [] },
  { dst := some 35, op := POp.prim (Prim.conv 5 70) [Operand.tmp 34], guard := none, hints := [] },
  { dst := some 36, op := POp.mv (Operand.tmp 7), guard := none, hints := [] },
  { dst := some 37, op := POp.prim (Prim.bin BinOp.mul 3 true false) [Operand.const (Value.int IntKind.i64 7), Operand.tmp 36], guard := none, hints := [] },
  { dst := some 38, op := POp.prim (Prim.bin BinOp.shl 70 false false) [Operand.tmp 35, Operand.tmp 37], guard := none, hints := [] },
  { dst := some 39, op := POp.prim (Prim.bin BinOp.or 70 false false) [Operand.tmp 33, Operand.tmp 38], guard := none, hints := [] },
  { dst := some 5, op := POp.mv (Operand.tmp 39), guard := none, hints := [] }]
def pc70_c19 : PCode := .region none false pc70_o19
def pc70_o20 : List POper := [{ dst := some 40, op := POp.mv (Operand.tmp 7), guard := none, hints := [] },
  { dst := some 41, op := POp.prim (Prim.bin BinOp.add 3 false true) [Operand.tmp 40, Operand.const (Value.int IntKind.i64 1)], guard := none, hints := [] },
  { dst := some 6, op := POp.mv (Operand.tmp 41), guard := none, hints := [] }]
def pc70_c20 : PCode := .region none false pc70_o20
def pc70_c21 : PCode := .exit 0
def pc70_c22 : PCode := .seq pc70_c20 pc70_c21
def pc70_c23 : PCode := .seq pc70_c19 pc70_c22
def pc70_c24 : PCode := .skip
def pc70_c25 : PCode := .cond (Operand.tmp 30) pc70_c23 pc70_c24
def pc70_c26 : PCode := .seq pc70_c18 pc70_c25
def pc70_c27 : PCode := .cond (Operand.tmp 17) pc70_c17 pc70_c26
def pc70_c28 : PCode := .seq pc70_c14 pc70_c27
def pc70_c29 : PCode := .block 2 pc70_c28
def pc70_o30 : List POper := [{ dst := some 42, op := POp.mv (Operand.tmp 5), guard := none, hints := [] },
  { dst := some 43, op := POp.mv (Operand.tmp 8), guard := none, hints := [] },
  { dst := some 44, op := POp.prim (Prim.bin BinOp.andNot 5 false true) [Operand.tmp 43, Operand.const (Value.int IntKind.u8 128)], guard := none, hints := [] },
  { dst := some 45, op := POp.prim (Prim.conv 5 70) [Operand.tmp 44], guard := none, hints := [] },
  { dst := some 46, op := POp.mv (Operand.tmp 7), guard := none, hints := [] },
  { dst := some 47, op := POp.prim (Prim.bin BinOp.mul 3 true false) [Operand.const (Value.int IntKind.i64 7), Operand.tmp 46], guard := none, hints := [] },
  { dst := some 48, op := POp.prim (Prim.bin BinOp.shl 70 false false) [Operand.tmp 45, Operand.tmp 47], guard := none, hints := [] },
  { dst := some 49, op := POp.prim (Prim.bin BinOp.or 70 false false) [Operand.tmp 42, Operand.tmp 48], guard := none, hints := [] },
  { dst := some 5, op := POp.mv (Operand.tmp 49), guard := none, hints := [] }]
def pc70_c30 : PCode := .region none false pc70_o30
def pc70_c31 : PCode := .seq pc70_c29 pc70_c30
def pc70_c32 : PCode := .seq pc70_c9 pc70_c31
def pc70_c33 : PCode := .block 1 pc70_c32
def pc70_o34 : List POper := [{ dst := some 50, op := POp.prim (Prim.bin BinOp.add 3 false true) [Operand.tmp 12, Operand.const (Value.int IntKind.i64 1)], guard := none, hints := [] },
  { dst := some 12, op := POp.mv (Operand.tmp 50), guard := none, hints := [] }]
def pc70_c34 : PCode := .region none false pc70_o34
def pc70_c35 : PCode := .seq pc70_c33 pc70_c34
def pc70_c36 : PCode := .seq pc70_c8 pc70_c35
def pc70_c37 : PCode := .seq pc70_c5 pc70_c36
def pc70_c38 : PCode := .loop pc70_c37
def pc70_c39 : PCode := .block 0 pc70_c38
def pc70_c40 : PCode := .seq pc70_c4 pc70_c39
def pc70_o41 : List POper := [{ dst := some 51, op := POp.mv (Operand.tmp 6), guard := none, hints := [] },
  { dst := some 52, op := POp.prim (Prim.bin BinOp.eql 3 false true) [Operand.tmp 51, Operand.const (Value.int IntKind.i64 0)], guard := none, hints := [] }]
def pc70_c41 : PCode := .region (some ([5, 6], [])) false pc70_o41
def pc70_o42 : List POper := [{ dst := some 2, op := POp.mv (Operand.const (Value.int IntKind.u64 0)), guard := none, hints := [] },
  { dst := some 3, op := POp.mv (Operand.const (Value.int IntKind.i64 0)), guard := none, hints := [] },
  { dst := some 4, op := POp.mv (Operand.const (Value.int IntKind.i64 10)), guard := none, hints := [] }]
def pc70_c42 : PCode := .region none false pc70_o42
def pc70_c43 : PCode := .ret
def pc70_c44 : PCode := .seq pc70_c42 pc70_c43
def pc70_c45 : PCode := .skip
def pc70_c46 : PCode := .cond (Operand.tmp 52) pc70_c44 pc70_c45
def pc70_c47 : PCode := .seq pc70_c41 pc70_c46
def pc70_o48 : List POper := [{ dst := some 53, op := POp.mv (Operand.tmp 5), guard := none, hints := [] },
  { dst := some 54, op := POp.mv (Operand.tmp 6), guard := none, hints := [] },
  { dst := some 2, op := POp.mv (Operand.tmp 53), guard := none, hints := [] },
  { dst := some 3, op := POp.mv (Operand.tmp 54), guard := none, hints := [] },
  { dst := some 4, op := POp.mv (Operand.const (Value.int IntKind.i64 0)), guard := none, hints := [] }]
def pc70_c48 : PCode := .region none false pc70_o48
def pc70_c49 : PCode := .ret
def pc70_c50 : PCode := .seq pc70_c48 pc70_c49
def pc70_c51 : PCode := .seq pc70_c47 pc70_c50
def pc70_c52 : PCode := .seq pc70_c40 pc70_c51
def pc70_c53 : PCode := .seq pc70_c3 pc70_c52
def pc70_c54 : PCode := .seq pc70_c2 pc70_c53
def pc70_c55 : PCode := .scope pc70_c54
def pc70_c56 : PCode := .seq pc70_c1 pc70_c55
def pc70_r : List PRes := [PRes.tmp 2 [], PRes.tmp 3 [], PRes.tmp 4 []]
def pc70 : PFunc := ⟨55, pc70_r, pc70_c56⟩
def pc70_a : Ann := {
  kr := fun
    | 3 => some ([5, 6, 10, 11, 12], [])
    | 6 => some ([5, 6, 7, 8, 10, 11, 12], [])
    | 8 => some ([5, 6, 7, 8, 10, 11, 12], [])
    | 13 => some ([5, 6], [])
    | _ => none
  ka := fun
    | _ => 0
  kh := fun
    | _ => none }
theorem pc70_ok : compFn Try.prog pc70_a Try.f70 = some pc70 := by kernel_rfl


-- 71: (*vedette/fields.reader).took
def pc71_o1 : List POper := [{ dst := some 6, op := POp.mv (Operand.tmp 0), guard := none, hints := [] },
  { dst := some 7, op := POp.nilc (Operand.tmp 6), guard := none, hints := [] },
  { dst := some 8, op := POp.faddr 1 (Operand.tmp 7), guard := none, hints := [] },
  { dst := some 9, op := POp.load false 1 (Operand.tmp 8), guard := none, hints := [] },
  { dst := some 10, op := POp.mv (Operand.tmp 1), guard := none, hints := [] },
  { dst := some 11, op := POp.prim (Prim.bin BinOp.add 3 false false) [Operand.tmp 9, Operand.tmp 10], guard := none, hints := [] },
  { dst := some 12, op := POp.nilc (Operand.tmp 6), guard := none, hints := [] },
  { dst := some 13, op := POp.faddr 1 (Operand.tmp 12), guard := none, hints := [] },
  { dst := none, op := POp.store 1 (Operand.tmp 13) (Operand.tmp 11), guard := none, hints := [] }]
def pc71_c1 : PCode := .region none false pc71_o1
def pc71_o2 : List POper := [{ dst := some 14, op := POp.mv (Operand.tmp 0), guard := none, hints := [] },
  { dst := some 15, op := POp.mv (Operand.tmp 2), guard := none, hints := [] },
  { dst := some 16, op := POp.nilc (Operand.tmp 14), guard := none, hints := [] },
  { dst := some 17, op := POp.faddr 2 (Operand.tmp 16), guard := none, hints := [] },
  { dst := none, op := POp.store 1 (Operand.tmp 17) (Operand.tmp 15), guard := none, hints := [] }]
def pc71_c2 : PCode := .region none false pc71_o2
def pc71_c3 : PCode := .seq pc71_c1 pc71_c2
def pc71_r : List PRes := []
def pc71 : PFunc := ⟨18, pc71_r, pc71_c3⟩
def pc71_a : Ann := {
  kr := fun
    | _ => none
  ka := fun
    | _ => 0
  kh := fun
    | _ => none }
theorem pc71_ok : compFn Try.prog pc71_a Try.f71 = some pc71 := by kernel_rfl


-- 51: (*vedette/fields.reader).number
def pc51_o1 : List POper := [{ dst := some 2, op := POp.mv (Operand.const (Value.int IntKind.i64 0)), guard := none, hints := [] }]
def pc51_c1 : PCode := .region none false pc51_o1
def pc51_o2 : List POper := [{ dst := some 6, op := POp.mv (Operand.tmp 0), guard := none, hints := [] },
  { dst := some 7, op := POp.nilc (Operand.tmp 6), guard := none, hints := [] },
  { dst := some 8, op := POp.faddr 2 (Operand.tmp 7), guard := none, hints := [] },
  { dst := some 9, op := POp.load false 1 (Operand.tmp 8), guard := none, hints := [] },
  { dst := some 10, op := POp.prim (Prim.bin BinOp.neq 37 false true) [Operand.tmp 9, Operand.const (Value.int IntKind.i64 0)], guard := none, hints := [] }]
def pc51_c2 : PCode := .region none false pc51_o2
def pc51_o3 : List POper := [{ dst := some 2, op := POp.mv (Operand.const (Value.int IntKind.i64 0)), guard := none, hints := [] }]
def pc51_c3 : PCode := .region none false pc51_o3
def pc51_c4 : PCode := .ret
def pc51_c5 : PCode := .seq pc51_c3 pc51_c4
def pc51_c6 : PCode := .skip
def pc51_c7 : PCode := .cond (Operand.tmp 10) pc51_c5 pc51_c6
def pc51_c8 : PCode := .seq pc51_c2 pc51_c7
def pc51_o9 : List POper := [{ dst := some 12, op := POp.mv (Operand.tmp 0), guard := none, hints := [(0, Hint.at_ 1000000 0)] },
  { dst := some 13, op := POp.nilc (Operand.tmp 12), guard := none, hints := [(12, Hint.at_ 1000000 0)] },
  { dst := some 14, op := POp.faddr 0 (Operand.tmp 13), guard := none, hints := [(13, Hint.at_ 1000000 0)] },
  { dst := some 15, op := POp.load false 1 (Operand.tmp 14), guard := none, hints := [(14, Hint.at_ 1000000 0)] },
  { dst := some 16, op := POp.mv (Operand.tmp 0), guard := none, hints := [(0, Hint.at_ 1000000 0)] },
  { dst := some 17, op := POp.nilc (Operand.tmp 16), guard := none, hints := [(16, Hint.at_ 1000000 0)] },
  { dst := some 18, op := POp.faddr 1 (Operand.tmp 17), guard := none, hints := [(17, Hint.at_ 1000000 0)] },
  { dst := some 19, op := POp.load false 1 (Operand.tmp 18), guard := none, hints := [(18, Hint.at_ 1000000 1)] },
  { dst := some 20, op := POp.prim (Prim.slice 9 true false) [Operand.tmp 15, Operand.tmp 19], guard := none, hints := [(15, Hint.imm), (19, Hint.imm)] },
  { dst := some 21, op := POp.call false [[]] 70 [Operand.tmp 20], guard := none, hints := [(20, Hint.imm)] },
  { dst := some 11, op := POp.mv (Operand.tmp 21), guard := none, hints := [] },
  { dst := some 22, op := POp.ext (Operand.tmp 11) 0, guard := none, hints := [] },
  { dst := some 23, op := POp.ext (Operand.tmp 11) 1, guard := none, hints := [] },
  { dst := some 24, op := POp.ext (Operand.tmp 11) 2, guard := none, hints := [] },
  { dst := some 3, op := POp.mv (Operand.tmp 22), guard := none, hints := [(22, Hint.imm)] },
  { dst := some 4, op := POp.mv (Operand.tmp 23), guard := none, hints := [(23, Hint.imm)] },
  { dst := some 5, op := POp.mv (Operand.tmp 24), guard := none, hints := [(24, Hint.imm)] }]
def pc51_c9 : PCode := .region none true pc51_o9
def pc51_o10 : List POper := [{ dst := some 25, op := POp.mv (Operand.tmp 0), guard := none, hints := [] },
  { dst := some 26, op := POp.mv (Operand.tmp 4), guard := none, hints := [] },
  { dst := some 27, op := POp.mv (Operand.tmp 5), guard := none, hints := [] },
  { dst := some 28, op := POp.call true [[], [], []] 71 [Operand.tmp 25, Operand.tmp 26, Operand.tmp 27], guard := none, hints := [] }]
def pc51_c10 : PCode := .region none false pc51_o10
def pc51_o11 : List POper := [{ dst := some 29, op := POp.mv (Operand.tmp 3), guard := none, hints := [] },
  { dst := some 30, op := POp.prim Prim.min [Operand.tmp 29, Operand.const (Value.int IntKind.u64 1000001)], guard := none, hints := [] },
  { dst := some 31, op := POp.prim (Prim.conv 70 3) [Operand.tmp 30], guard := none, hints := [] },
  { dst := some 2, op := POp.mv (Operand.tmp 31), guard := none, hints := [] }]
def pc51_c11 : PCode := .region none false pc51_o11
def pc51_c12 : PCode := .ret
def pc51_c13 : PCode := .seq pc51_c11 pc51_c12
def pc51_c14 : PCode := .seq pc51_c10 pc51_c13
def pc51_c15 : PCode := .seq pc51_c9 pc51_c14
def pc51_c16 : PCode := .seq pc51_c8 pc51_c15
def pc51_c17 : PCode := .seq pc51_c1 pc51_c16
def pc51_r : List PRes := [PRes.tmp 2 []]
def pc51 : PFunc := ⟨32, pc51_r, pc51_c17⟩
def pc51_a : Ann := {
  kr := fun
    | _ => none
  ka := fun
    | _ => 0
  kh := fun
    | 0 => some (Hint.at_ 1000000 0)
    | 12 => some (Hint.at_ 1000000 0)
    | 13 => some (Hint.at_ 1000000 0)
    | 14 => some (Hint.at_ 1000000 0)
    | 15 => some (Hint.imm)
    | 16 => some (Hint.at_ 1000000 0)
    | 17 => some (Hint.at_ 1000000 0)
    | 18 => some (Hint.at_ 1000000 1)
    | 19 => some (Hint.imm)
    | 20 => some (Hint.imm)
    | 22 => some (Hint.imm)
    | 23 => some (Hint.imm)
    | 24 => some (Hint.imm)
    | _ => none }
theorem pc51_ok : compFn Try.prog pc51_a Try.f51 = some pc51 := by kernel_rfl


-- 74: vedette/num.Zag
def pc74_o1 : List POper := [{ dst := some 2, op := POp.mv (Operand.const (Value.int IntKind.i64 0)), guard := none, hints := [] }]
def pc74_c1 : PCode := .region none false pc74_o1
def pc74_o2 : List POper := [{ dst := some 3, op := POp.mv (Operand.tmp 0), guard := none, hints := [] },
  { dst := some 4, op := POp.prim (Prim.bin BinOp.shr 70 false true) [Operand.tmp 3, Operand.const (Value.int IntKind.u64 1)], guard := none, hints := [] },
  { dst := some 5, op := POp.prim (Prim.conv 70 2) [Operand.tmp 4], guard := none, hints := [] },
  { dst := some 6, op := POp.mv (Operand.tmp 0), guard := none, hints := [] },
  { dst := some 7, op := POp.prim (Prim.bin BinOp.and 70 false true) [Operand.tmp 6, Operand.const (Value.int IntKind.u64 1)], guard := none, hints := [] },
  { dst := some 8, op := POp.prim (Prim.conv 70 2) [Operand.tmp 7], guard := none, hints := [] },
  { dst := some 9, op := POp.prim (Prim.un UnOp.neg) [Operand.tmp 8], guard := none, hints := [] },
  { dst := some 10, op := POp.prim (Prim.bin BinOp.xor 2 false false) [Operand.tmp 5, Operand.tmp 9], guard := none, hints := [] },
  { dst := some 2, op := POp.mv (Operand.tmp 10), guard := none, hints := [] }]
def pc74_c2 : PCode := .region none false pc74_o2
def pc74_c3 : PCode := .ret
def pc74_c4 : PCode := .seq pc74_c2 pc74_c3
def pc74_c5 : PCode := .seq pc74_c1 pc74_c4
def pc74_r : List PRes := [PRes.tmp 2 []]
def pc74 : PFunc := ⟨11, pc74_r, pc74_c5⟩
def pc74_a : Ann := {
  kr := fun
    | _ => none
  ka := fun
    | _ => 0
  kh := fun
    | _ => none }
theorem pc74_ok : compFn Try.prog pc74_a Try.f74 = some pc74 := by kernel_rfl


-- 65: vedette/num.Ints
def pc65_o1 : List POper := [{ dst := some 2, op := POp.mv (Operand.const (Value.int IntKind.i64 0)), guard := none, hints := [] },
  { dst := some 3, op := POp.mv (Operand.const (Value.int IntKind.i64 0)), guard := none, hints := [] },
  { dst := some 4, op := POp.mv (Operand.const (Value.int IntKind.i64 0)), guard := none, hints := [] }]
def pc65_c1 : PCode := .region none false pc65_o1
def pc65_o2 : List POper := [{ dst := some 9, op := POp.mv (Operand.tmp 0), guard := none, hints := [] },
  { dst := some 10, op := POp.call true [[]] 70 [Operand.tmp 9], guard := none, hints := [] },
  { dst := some 8, op := POp.mv (Operand.tmp 10), guard := none, hints := [] },
  { dst := some 11, op := POp.ext (Operand.tmp 8) 0, guard := none, hints := [] },
  { dst := some 12, op := POp.ext (Operand.tmp 8) 1, guard := none, hints := [] },
  { dst := some 13, op := POp.ext (Operand.tmp 8) 2, guard := none, hints := [] },
  { dst := some 5, op := POp.mv (Operand.tmp 11), guard := none, hints := [] },
  { dst := some 6, op := POp.mv (Operand.tmp 12), guard := none, hints := [] },
  { dst := some 7, op := POp.mv (Operand.tmp 13), guard := none, hints := [] }]
def pc65_c2 : PCode := .region none false pc65_o2
def pc65_o3 : List POper := [{ dst := some 14, op := POp.mv (Operand.tmp 5), guard := none, hints := [] },
  { dst := some 15, op := POp.call true [[]] 74 [Operand.tmp 14], guard := none, hints := [] },
  { dst := some 16, op := POp.mv (Operand.tmp 6), guard := none, hints := [] },
  { dst := some 17, op := POp.mv (Operand.tmp 7), guard := none, hints := [] },
  { dst := some 2, op := POp.mv (Operand.tmp 15), guard := none, hints := [] },
  { dst := some 3, op := POp.mv (Operand.tmp 16), guard := none, hints := [] },
  { dst := some 4, op := POp.mv (Operand.tmp 17), guard := none, hints := [] }]
def pc65_c3 : PCode := .region none false pc65_o3
def pc65_c4 : PCode := .ret
def pc65_c5 : PCode := .seq pc65_c3 pc65_c4
def pc65_c6 : PCode := .seq pc65_c2 pc65_c5
def pc65_c7 : PCode := .seq pc65_c1 pc65_c6
def pc65_r : List PRes := [PRes.tmp 2 [], PRes.tmp 3 [], PRes.tmp 4 []]
def pc65 : PFunc := ⟨18, pc65_r, pc65_c7⟩
def pc65_a : Ann := {
  kr := fun
    | _ => none
  ka := fun
    | _ => 0
  kh := fun
    | _ => none }
theorem pc65_ok : compFn Try.prog pc65_a Try.f65 = some pc65 := by kernel_rfl


-- 67: vedette/num.Texts
def pc67_o1 : List POper := [{ dst := some 4, op := POp.mv (Operand.const (Value.string { data := { toList := [] } })), guard := none, hints := [] },
  { dst := some 5, op := POp.mv (Operand.const (Value.int IntKind.i64 0)), guard := none, hints := [] },
  { dst := some 6, op := POp.mv (Operand.const (Value.int IntKind.i64 0)), guard := none, hints := [] }]
def pc67_c1 : PCode := .region none false pc67_o1
def pc67_o2 : List POper := [{ dst := some 12, op := POp.mv (Operand.tmp 0), guard := none, hints := [] },
  { dst := some 13, op := POp.call true [[]] 70 [Operand.tmp 12], guard := none, hints := [] },
  { dst := some 11, op := POp.mv (Operand.tmp 13), guard := none, hints := [] },
  { dst := some 14, op := POp.ext (Operand.tmp 11) 0, guard := none, hints := [] },
  { dst := some 15, op := POp.ext (Operand.tmp 11) 1, guard := none, hints := [] },
  { dst := some 16, op := POp.ext (Operand.tmp 11) 2, guard := none, hints := [] },
  { dst := some 7, op := POp.mv (Operand.tmp 14), guard := none, hints := [] },
  { dst := some 8, op := POp.mv (Operand.tmp 15), guard := none, hints := [] },
  { dst := some 9, op := POp.mv (Operand.tmp 16), guard := none, hints := [] }]
def pc67_c2 : PCode := .region none false pc67_o2
def pc67_o3 : List POper := [{ dst := some 18, op := POp.mv (Operand.tmp 9), guard := none, hints := [] },
  { dst := some 19, op := POp.prim (Prim.bin BinOp.neq 37 false true) [Operand.tmp 18, Operand.const (Value.int IntKind.i64 0)], guard := none, hints := [] },
  { dst := some 17, op := POp.mv (Operand.tmp 19), guard := none, hints := [] }]
def pc67_c3 : PCode := .region none false pc67_o3
def pc67_o4 : List POper := [{ dst := some 20, op := POp.mv (Operand.tmp 9), guard := none, hints := [] },
  { dst := some 4, op := POp.mv (Operand.const (Value.string { data := { toList := [] } })), guard := none, hints := [] },
  { dst := some 5, op := POp.mv (Operand.const (Value.int IntKind.i64 0)), guard := none, hints := [] },
  { dst := some 6, op := POp.mv (Operand.tmp 20), guard := none, hints := [] }]
def pc67_c4 : PCode := .region none false pc67_o4
def pc67_c5 : PCode := .ret
def pc67_c6 : PCode := .seq pc67_c4 pc67_c5
def pc67_o7 : List POper := [{ dst := some 22, op := POp.mv (Operand.tmp 7), guard := none, hints := [] },
  { dst := some 23, op := POp.mv (Operand.tmp 1), guard := none, hints := [] },
  { dst := some 24, op := POp.prim Prim.max [Operand.tmp 23, Operand.const (Value.int IntKind.i64 0)], guard := none, hints := [] },
  { dst := some 25, op := POp.prim (Prim.conv 3 70) [Operand.tmp 24], guard := none, hints := [] },
  { dst := some 26, op := POp.prim (Prim.bin BinOp.gtr 70 false false) [Operand.tmp 22, Operand.tmp 25], guard := none, hints := [] },
  { dst := some 21, op := POp.mv (Operand.tmp 26), guard := none, hints := [] }]
def pc67_c7 : PCode := .region none false pc67_o7
def pc67_o8 : List POper := [{ dst := some 4, op := POp.mv (Operand.const (Value.string { data := { toList := [] } })), guard := none, hints := [] },
  { dst := some 5, op := POp.mv (Operand.const (Value.int IntKind.i64 0)), guard := none, hints := [] },
  { dst := some 6, op := POp.mv (Operand.const (Value.int IntKind.i64 13)), guard := none, hints := [] }]
def pc67_c8 : PCode := .region none false pc67_o8
def pc67_c9 : PCode := .ret
def pc67_c10 : PCode := .seq pc67_c8 pc67_c9
def pc67_o11 : List POper := [{ dst := some 28, op := POp.mv (Operand.tmp 7), guard := none, hints := [] },
  { dst := some 29, op := POp.mv (Operand.tmp 0), guard := none, hints := [] },
  { dst := some 30, op := POp.prim (Prim.len 9) [Operand.tmp 29], guard := none, hints := [] },
  { dst := some 31, op := POp.mv (Operand.tmp 8), guard := none, hints := [] },
  { dst := some 32, op := POp.prim (Prim.bin BinOp.sub 3 false false) [Operand.tmp 30, Operand.tmp 31], guard := none, hints := [] },
  { dst := some 33, op := POp.prim (Prim.conv 3 70) [Operand.tmp 32], guard := none, hints := [] },
  { dst := some 34, op := POp.prim (Prim.bin BinOp.gtr 70 false false) [Operand.tmp 28, Operand.tmp 33], guard := none, hints := [] },
  { dst := some 27, op := POp.mv (Operand.tmp 34), guard := none, hints := [] }]
def pc67_c11 : PCode := .region none false pc67_o11
def pc67_o12 : List POper := [{ dst := some 4, op := POp.mv (Operand.const (Value.string { data := { toList := [] } })), guard := none, hints := [] },
  { dst := some 5, op := POp.mv (Operand.const (Value.int IntKind.i64 0)), guard := none, hints := [] },
  { dst := some 6, op := POp.mv (Operand.const (Value.int IntKind.i64 10)), guard := none, hints := [] }]
def pc67_c12 : PCode := .region none false pc67_o12
def pc67_c13 : PCode := .ret
def pc67_c14 : PCode := .seq pc67_c12 pc67_c13
def pc67_c15 : PCode := .skip
def pc67_c16 : PCode := .cond (Operand.tmp 27) pc67_c14 pc67_c15
def pc67_c17 : PCode := .seq pc67_c11 pc67_c16
def pc67_c18 : PCode := .cond (Operand.tmp 21) pc67_c10 pc67_c17
def pc67_c19 : PCode := .seq pc67_c7 pc67_c18
def pc67_c20 : PCode := .cond (Operand.tmp 17) pc67_c6 pc67_c19
def pc67_c21 : PCode := .seq pc67_c3 pc67_c20
def pc67_c22 : PCode := .block 0 pc67_c21
def pc67_o23 : List POper := [{ dst := some 35, op := POp.mv (Operand.tmp 8), guard := none, hints := [] },
  { dst := some 36, op := POp.mv (Operand.tmp 7), guard := none, hints := [] },
  { dst := some 37, op := POp.prim (Prim.conv 70 3) [Operand.tmp 36], guard := none, hints := [] },
  { dst := some 38, op := POp.prim (Prim.bin BinOp.add 3 false false) [Operand.tmp 35, Operand.tmp 37], guard := none, hints := [] },
  { dst := some 10, op := POp.mv (Operand.tmp 38), guard := none, hints := [] }]
def pc67_c23 : PCode := .region none false pc67_o23
def pc67_o24 : List POper := [{ dst := some 39, op := POp.mv (Operand.tmp 0), guard := none, hints := [] },
  { dst := some 40, op := POp.mv (Operand.tmp 8), guard := none, hints := [] },
  { dst := some 41, op := POp.mv (Operand.tmp 10), guard := none, hints := [] },
  { dst := some 42, op := POp.prim (Prim.slice 9 true true) [Operand.tmp 39, Operand.tmp 40, Operand.tmp 41], guard := none, hints := [] },
  { dst := some 43, op := POp.mv (Operand.tmp 10), guard := none, hints := [] },
  { dst := some 4, op := POp.mv (Operand.tmp 42), guard := none, hints := [] },
  { dst := some 5, op := POp.mv (Operand.tmp 43), guard := none, hints := [] },
  { dst := some 6, op := POp.mv (Operand.const (Value.int IntKind.i64 0)), guard := none, hints := [] }]
def pc67_c24 : PCode := .region none false pc67_o24
def pc67_c25 : PCode := .ret
def pc67_c26 : PCode := .seq pc67_c24 pc67_c25
def pc67_c27 : PCode := .seq pc67_c23 pc67_c26
def pc67_c28 : PCode := .seq pc67_c22 pc67_c27
def pc67_c29 : PCode := .seq pc67_c2 pc67_c28
def pc67_c30 : PCode := .seq pc67_c1 pc67_c29
def pc67_r : List PRes := [PRes.tmp 4 [], PRes.tmp 5 [], PRes.tmp 6 []]
def pc67 : PFunc := ⟨44, pc67_r, pc67_c30⟩
def pc67_a : Ann := {
  kr := fun
    | _ => none
  ka := fun
    | _ => 0
  kh := fun
    | _ => none }
theorem pc67_ok : compFn Try.prog pc67_a Try.f67 = some pc67 := by kernel_rfl


-- 52: (*vedette/fields.reader).field
def pc52_o1 : List POper := [{ dst := some 2, op := POp.alloc 25 (Value.agg { toList := [Value.int IntKind.i64 0, Value.string { data := { toList := [] } }] }), guard := none, hints := [] }]
def pc52_c1 : PCode := .region none false pc52_o1
def pc52_o2 : List POper := [{ dst := some 3, op := POp.alloc 25 (Value.agg { toList := [Value.int IntKind.i64 0, Value.string { data := { toList := [] } }] }), guard := none, hints := [] }]
def pc52_c2 : PCode := .region none false pc52_o2
def pc52_o3 : List POper := [{ dst := some 10, op := POp.mv (Operand.tmp 0), guard := none, hints := [] },
  { dst := some 11, op := POp.nilc (Operand.tmp 10), guard := none, hints := [] },
  { dst := some 12, op := POp.faddr 2 (Operand.tmp 11), guard := none, hints := [] },
  { dst := some 13, op := POp.load false 1 (Operand.tmp 12), guard := none, hints := [] },
  { dst := some 14, op := POp.prim (Prim.bin BinOp.neq 37 false true) [Operand.tmp 13, Operand.const (Value.int IntKind.i64 0)], guard := none, hints := [] }]
def pc52_c3 : PCode := .region none false pc52_o3
def pc52_o4 : List POper := [{ dst := some 15, op := POp.load true 2 (Operand.tmp 3), guard := none, hints := [] },
  { dst := none, op := POp.store 2 (Operand.tmp 2) (Operand.tmp 15), guard := none, hints := [] }]
def pc52_c4 : PCode := .region none false pc52_o4
def pc52_c5 : PCode := .ret
def pc52_c6 : PCode := .seq pc52_c4 pc52_c5
def pc52_c7 : PCode := .skip
def pc52_c8 : PCode := .cond (Operand.tmp 14) pc52_c6 pc52_c7
def pc52_c9 : PCode := .seq pc52_c3 pc52_c8
def pc52_o10 : List POper := [{ dst := some 17, op := POp.mv (Operand.tmp 0), guard := none, hints := [(0, Hint.at_ 1000000 0)] },
  { dst := some 18, op := POp.nilc (Operand.tmp 17), guard := none, hints := [(17, Hint.at_ 1000000 0)] },
  { dst := some 19, op := POp.faddr 0 (Operand.tmp 18), guard := none, hints := [(18, Hint.at_ 1000000 0)] },
  { dst := some 20, op := POp.load false 1 (Operand.tmp 19), guard := none, hints := [(19, Hint.at_ 1000000 0)] },
  { dst := some 21, op := POp.mv (Operand.tmp 0), guard := none, hints := [(0, Hint.at_ 1000000 0)] },
  { dst := some 22, op := POp.nilc (Operand.tmp 21), guard := none, hints := [(21, Hint.at_ 1000000 0)] },
  { dst := some 23, op := POp.faddr 1 (Operand.tmp 22), guard := none, hints := [(22, Hint.at_ 1000000 0)] },
  { dst := some 24, op := POp.load false 1 (Operand.tmp 23), guard := none, hints := [(23, Hint.at_ 1000000 1)] },
  { dst := some 25, op := POp.prim (Prim.slice 9 true false) [Operand.tmp 20, Operand.tmp 24], guard := none, hints := [(20, Hint.imm), (24, Hint.imm)] },
  { dst := some 26, op := POp.call false [[], []] 67 [Operand.tmp 25, Operand.const (Value.int IntKind.i64 12)], guard := none, hints := [(25, Hint.imm)] },
  { dst := some 16, op := POp.mv (Operand.tmp 26), guard := none, hints := [] },
  { dst := some 27, op := POp.ext (Operand.tmp 16) 0, guard := none, hints := [] },
  { dst := some 28, op := POp.ext (Operand.tmp 16) 1, guard := none, hints := [] },
  { dst := some 29, op := POp.ext (Operand.tmp 16) 2, guard := none, hints := [] },
  { dst := some 4, op := POp.mv (Operand.tmp 27), guard := none, hints := [(27, Hint.imm)] },
  { dst := some 5, op := POp.mv (Operand.tmp 28), guard := none, hints := [(28, Hint.imm)] },
  { dst := some 6, op := POp.mv (Operand.tmp 29), guard := none, hints := [(29, Hint.imm)] }]
def pc52_c10 : PCode := .region none true pc52_o10
def pc52_o11 : List POper := [{ dst := some 30, op := POp.mv (Operand.tmp 0), guard := none, hints := [] },
  { dst := some 31, op := POp.mv (Operand.tmp 5), guard := none, hints := [] },
  { dst := some 32, op := POp.mv (Operand.tmp 6), guard := none, hints := [] },
  { dst := some 33, op := POp.call true [[], [], []] 71 [Operand.tmp 30, Operand.tmp 31, Operand.tmp 32], guard := none, hints := [] }]
def pc52_c11 : PCode := .region none false pc52_o11
def pc52_o12 : List POper := [{ dst := some 34, op := POp.mv (Operand.tmp 4), guard := none, hints := [] },
  { dst := some 35, op := POp.faddr 1 (Operand.tmp 3), guard := none, hints := [] },
  { dst := none, op := POp.store 1 (Operand.tmp 35) (Operand.tmp 34), guard := none, hints := [] }]
def pc52_c12 : PCode := .region none false pc52_o12
def pc52_o13 : List POper := [{ dst := some 36, op := POp.mv (Operand.tmp 4), guard := none, hints := [] },
  { dst := some 37, op := POp.prim (Prim.bin BinOp.eql 9 false true) [Operand.tmp 36, Operand.const (Value.string { data := { toList := [] } })], guard := none, hints := [] },
  { dst := some 38, op := POp.mv (Operand.tmp 37), guard := none, hints := [] },
  { dst := some 39, op := POp.mv (Operand.tmp 6), guard := some (38, true), hints := [] },
  { dst := some 40, op := POp.prim (Prim.bin BinOp.eql 37 false true) [Operand.tmp 39, Operand.const (Value.int IntKind.i64 0)], guard := some (38, true), hints := [] },
  { dst := some 41, op := POp.pick (Operand.tmp 38) (Operand.tmp 40) (Operand.const (Value.bool false)), guard := none, hints := [] }]
def pc52_c13 : PCode := .region none false pc52_o13
def pc52_o14 : List POper := [{ dst := some 43, op := POp.mv (Operand.tmp 0), guard := none, hints := [(0, Hint.at_ 1000000 0)] },
  { dst := some 44, op := POp.nilc (Operand.tmp 43), guard := none, hints := [(43, Hint.at_ 1000000 0)] },
  { dst := some 45, op := POp.faddr 0 (Operand.tmp 44), guard := none, hints := [(44, Hint.at_ 1000000 0)] },
  { dst := some 46, op := POp.load false 1 (Operand.tmp 45), guard := none, hints := [(45, Hint.at_ 1000000 0)] },
  { dst := some 47, op := POp.mv (Operand.tmp 0), guard := none, hints := [(0, Hint.at_ 1000000 0)] },
  { dst := some 48, op := POp.nilc (Operand.tmp 47), guard := none, hints := [(47, Hint.at_ 1000000 0)] },
  { dst := some 49, op := POp.faddr 1 (Operand.tmp 48), guard := none, hints := [(48, Hint.at_ 1000000 0)] },
  { dst := some 50, op := POp.load false 1 (Operand.tmp 49), guard := none, hints := [(49, Hint.at_ 1000000 1)] },
  { dst := some 51, op := POp.prim (Prim.slice 9 true false) [Operand.tmp 46, Operand.tmp 50], guard := none, hints := [(46, Hint.imm), (50, Hint.imm)] },
  { dst := some 52, op := POp.call false [[]] 65 [Operand.tmp 51], guard := none, hints := [(51, Hint.imm)] },
  { dst := some 42, op := POp.mv (Operand.tmp 52), guard := none, hints := [] },
  { dst := some 53, op := POp.ext (Operand.tmp 42) 0, guard := none, hints := [] },
  { dst := some 54, op := POp.ext (Operand.tmp 42) 1, guard := none, hints := [] },
  { dst := some 55, op := POp.ext (Operand.tmp 42) 2, guard := none, hints := [] },
  { dst := some 7, op := POp.mv (Operand.tmp 53), guard := none, hints := [(53, Hint.imm)] },
  { dst := some 8, op := POp.mv (Operand.tmp 54), guard := none, hints := [(54, Hint.imm)] },
  { dst := some 9, op := POp.mv (Operand.tmp 55), guard := none, hints := [(55, Hint.imm)] }]
def pc52_c14 : PCode := .region none true pc52_o14
def pc52_o15 : List POper := [{ dst := some 56, op := POp.mv (Operand.tmp 0), guard := none, hints := [] },
  { dst := some 57, op := POp.mv (Operand.tmp 8), guard := none, hints := [] },
  { dst := some 58, op := POp.mv (Operand.tmp 9), guard := none, hints := [] },
  { dst := some 59, op := POp.call true [[], [], []] 71 [Operand.tmp 56, Operand.tmp 57, Operand.tmp 58], guard := none, hints := [] }]
def pc52_c15 : PCode := .region none false pc52_o15
def pc52_o16 : List POper := [{ dst := some 60, op := POp.mv (Operand.tmp 7), guard := none, hints := [] },
  { dst := some 61, op := POp.faddr 0 (Operand.tmp 3), guard := none, hints := [] },
  { dst := none, op := POp.store 1 (Operand.tmp 61) (Operand.tmp 60), guard := none, hints := [] }]
def pc52_c16 : PCode := .region none false pc52_o16
def pc52_c17 : PCode := .seq pc52_c15 pc52_c16
def pc52_c18 : PCode := .seq pc52_c14 pc52_c17
def pc52_c19 : PCode := .skip
def pc52_c20 : PCode := .cond (Operand.tmp 41) pc52_c18 pc52_c19
def pc52_c21 : PCode := .seq pc52_c13 pc52_c20
def pc52_c22 : PCode := .seq pc52_c12 pc52_c21
def pc52_o23 : List POper := [{ dst := some 62, op := POp.load true 2 (Operand.tmp 3), guard := none, hints := [] },
  { dst := none, op := POp.store 2 (Operand.tmp 2) (Operand.tmp 62), guard := none, hints := [] }]
def pc52_c23 : PCode := .region none false pc52_o23
def pc52_c24 : PCode := .ret
def pc52_c25 : PCode := .seq pc52_c23 pc52_c24
def pc52_c26 : PCode := .seq pc52_c22 pc52_c25
def pc52_c27 : PCode := .seq pc52_c11 pc52_c26
def pc52_c28 : PCode := .seq pc52_c10 pc52_c27
def pc52_c29 : PCode := .seq pc52_c9 pc52_c28
def pc52_c30 : PCode := .seq pc52_c2 pc52_c29
def pc52_c31 : PCode := .seq pc52_c1 pc52_c30
def pc52_r : List PRes := [PRes.cell 2 true 2 []]
def pc52 : PFunc := ⟨63, pc52_r, pc52_c31⟩
def pc52_a : Ann := {
  kr := fun
    | _ => none
  ka := fun
    | _ => 0
  kh := fun
    | 0 => some (Hint.at_ 1000000 0)
    | 17 => some (Hint.at_ 1000000 0)
    | 18 => some (Hint.at_ 1000000 0)
    | 19 => some (Hint.at_ 1000000 0)
    | 20 => some (Hint.imm)
    | 21 => some (Hint.at_ 1000000 0)
    | 22 => some (Hint.at_ 1000000 0)
    | 23 => some (Hint.at_ 1000000 1)
    | 24 => some (Hint.imm)
    | 25 => some (Hint.imm)
    | 27 => some (Hint.imm)
    | 28 => some (Hint.imm)
    | 29 => some (Hint.imm)
    | 43 => some (Hint.at_ 1000000 0)
    | 44 => some (Hint.at_ 1000000 0)
    | 45 => some (Hint.at_ 1000000 0)
    | 46 => some (Hint.imm)
    | 47 => some (Hint.at_ 1000000 0)
    | 48 => some (Hint.at_ 1000000 0)
    | 49 => some (Hint.at_ 1000000 1)
    | 50 => some (Hint.imm)
    | 51 => some (Hint.imm)
    | 53 => some (Hint.imm)
    | 54 => some (Hint.imm)
    | 55 => some (Hint.imm)
    | _ => none }
theorem pc52_ok : compFn Try.prog pc52_a Try.f52 = some pc52 := by kernel_rfl


-- 29: vedette/fields.Read
def pc29_o1 : List POper := [{ dst := some 2, op := POp.alloc 30 (Value.agg { toList := [Value.int IntKind.i64 0, Value.int IntKind.u8 0, Value.int IntKind.i64 0, Value.int IntKind.i64 0, Value.int IntKind.i64 0, Value.string { data := { toList := [] } }, Value.int IntKind.i64 0, Value.string { data := { toList := [] } }, Value.int IntKind.i64 0, Value.string { data := { toList := [] } }, Value.int IntKind.i64 0, Value.string { data := { toList := [] } }] }), guard := none, hints := [] },
  { dst := some 3, op := POp.mv (Operand.const (Value.int IntKind.i64 0)), guard := none, hints := [] },
  { dst := some 4, op := POp.mv (Operand.const (Value.int IntKind.i64 0)), guard := none, hints := [] }]
def pc29_c1 : PCode := .region none false pc29_o1
def pc29_o2 : List POper := [{ dst := some 9, op := POp.mv (Operand.tmp 0), guard := none, hints := [] },
  { dst := some 10, op := POp.build (Value.agg { toList := [Value.string { data := { toList := [] } }, Value.int IntKind.i64 0, Value.int IntKind.i64 0] }) [(0, 1, Operand.tmp 9)], guard := none, hints := [] },
  { dst := some 11, op := POp.box 77 (Operand.tmp 10), guard := none, hints := [] },
  { dst := some 5, op := POp.mv (Operand.tmp 11), guard := none, hints := [] }]
def pc29_c2 : PCode := .region none false pc29_o2
def pc29_o3 : List POper := [{ dst := some 12, op := POp.mv (Operand.tmp 5), guard := none, hints := [] },
  { dst := some 13, op := POp.call true [[]] 51 [Operand.tmp 12], guard := none, hints := [] },
  { dst := some 14, op := POp.build (Value.agg { toList := [Value.int IntKind.i64 0, Value.int IntKind.u8 0, Value.int IntKind.i64 0, Value.int IntKind.i64 0, Value.int IntKind.i64 0, Value.string { data := { toList := [] } }, Value.int IntKind.i64 0, Value.string { data := { toList := [] } }, Value.int IntKind.i64 0, Value.string { data := { toList := [] } }, Value.int IntKind.i64 0, Value.string { data := { toList := [] } }] }) [(0, 1, Operand.tmp 13)], guard := none, hints := [] },
  { dst := some 6, op := POp.alloc 30 (Value.agg { toList := [Value.int IntKind.i64 0, Value.int IntKind.u8 0, Value.int IntKind.i64 0, Value.int IntKind.i64 0, Value.int IntKind.i64 0, Value.string { data := { toList := [] } }, Value.int IntKind.i64 0, Value.string { data := { toList := [] } }, Value.int IntKind.i64 0, Value.string { data := { toList := [] } }, Value.int IntKind.i64 0, Value.string { data := { toList := [] } }] }), guard := none, hints := [] },
  { dst := none, op := POp.store 12 (Operand.tmp 6) (Operand.tmp 14), guard := none, hints := [] }]
def pc29_c3 : PCode := .region none false pc29_o3
def pc29_o4 : List POper := [{ dst := some 15, op := POp.mv (Operand.tmp 5), guard := none, hints := [] },
  { dst := some 16, op := POp.call true [[]] 51 [Operand.tmp 15], guard := none, hints := [] },
  { dst := some 7, op := POp.mv (Operand.tmp 16), guard := none, hints := [] }]
def pc29_c4 : PCode := .region none false pc29_o4
def pc29_o5 : List POper := [{ dst := some 17, op := POp.mv (Operand.tmp 5), guard := none, hints := [] },
  { dst := some 18, op := POp.nilc (Operand.tmp 17), guard := none, hints := [] },
  { dst := some 19, op := POp.faddr 2 (Operand.tmp 18), guard := none, hints := [] },
  { dst := some 20, op := POp.load false 1 (Operand.tmp 19), guard := none, hints := [] },
  { dst := some 21, op := POp.prim (Prim.bin BinOp.eql 37 false true) [Operand.tmp 20, Operand.const (Value.int IntKind.i64 0)], guard := none, hints := [] },
  { dst := some 22, op := POp.mv (Operand.tmp 21), guard := none, hints := [] },
  { dst := some 23, op := POp.faddr 0 (Operand.tmp 6), guard := some (22, true), hints := [] },
  { dst := some 24, op := POp.load false 1 (Operand.tmp 23), guard := some (22, true), hints := [] },
  { dst := some 25, op := POp.prim (Prim.bin BinOp.gtr 3 false true) [Operand.tmp 24, Operand.const (Value.int IntKind.i64 1000000)], guard := some (22, true), hints := [] },
  { dst := some 26, op := POp.mv (Operand.tmp 25), guard := some (22, true), hints := [] },
  { dst := some 27, op := POp.mv (Operand.tmp 7), guard := some (26, false), hints := [] },
  { dst := some 28, op := POp.prim (Prim.bin BinOp.eql 3 false true) [Operand.tmp 27, Operand.const (Value.int IntKind.i64 0)], guard := some (26, false), hints := [] },
  { dst := some 29, op := POp.pick (Operand.tmp 26) (Operand.const (Value.bool true)) (Operand.tmp 28), guard := some (22, true), hints := [] },
  { dst := some 30, op := POp.mv (Operand.tmp 29), guard := some (22, true), hints := [] },
  { dst := some 31, op := POp.mv (Operand.tmp 7), guard := some (30, false), hints := [] },
  { dst := some 32, op := POp.prim (Prim.bin BinOp.gtr 3 false true) [Operand.tmp 31, Operand.const (Value.int IntKind.i64 31)], guard := some (30, false), hints := [] },
  { dst := some 33, op := POp.pick (Operand.tmp 30) (Operand.const (Value.bool true)) (Operand.tmp 32), guard := some (22, true), hints := [] },
  { dst := some 34, op := POp.pick (Operand.tmp 22) (Operand.tmp 33) (Operand.const (Value.bool false)), guard := none, hints := [] }]
def pc29_c5 : PCode := .region none false pc29_o5
def pc29_o6 : List POper := [{ dst := some 35, op := POp.build (Value.agg { toList := [Value.int IntKind.i64 0, Value.int IntKind.u8 0, Value.int IntKind.i64 0, Value.int IntKind.i64 0, Value.int IntKind.i64 0, Value.string { data := { toList := [] } }, Value.int IntKind.i64 0, Value.string { data := { toList := [] } }, Value.int IntKind.i64 0, Value.string { data := { toList := [] } }, Value.int IntKind.i64 0, Value.string { data := { toList := [] } }] }) [], guard := none, hints := [] },
  { dst := none, op := POp.store 12 (Operand.tmp 2) (Operand.tmp 35), guard := none, hints := [] },
  { dst := some 3, op := POp.mv (Operand.const (Value.int IntKind.i64 0)), guard := none, hints := [] },
  { dst := some 4, op := POp.mv (Operand.const (Value.int IntKind.i64 11)), guard := none, hints := [] }]
def pc29_c6 : PCode := .region none false pc29_o6
def pc29_c7 : PCode := .ret
def pc29_c8 : PCode := .seq pc29_c6 pc29_c7
def pc29_c9 : PCode := .skip
def pc29_c10 : PCode := .cond (Operand.tmp 34) pc29_c8 pc29_c9
def pc29_c11 : PCode := .seq pc29_c5 pc29_c10
def pc29_o12 : List POper := [{ dst := some 36, op := POp.mv (Operand.tmp 7), guard := none, hints := [] },
  { dst := some 37, op := POp.prim (Prim.conv 3 5) [Operand.tmp 36], guard := none, hints := [] },
  { dst := some 38, op := POp.faddr 1 (Operand.tmp 6), guard := none, hints := [] },
  { dst := none, op := POp.store 1 (Operand.tmp 38) (Operand.tmp 37), guard := none, hints := [] }]
def pc29_c12 : PCode := .region (some ([2, 5, 6, 7], [2, 6, 11])) false pc29_o12
def pc29_o13 : List POper := [{ dst := some 39, op := POp.faddr 1 (Operand.tmp 6), guard := none, hints := [] },
  { dst := some 40, op := POp.load false 1 (Operand.tmp 39), guard := none, hints := [] },
  { dst := some 41, op := POp.prim (Prim.bin BinOp.and 5 false true) [Operand.tmp 40, Operand.const (Value.int IntKind.u8 1)], guard := none, hints := [] },
  { dst := some 42, op := POp.prim (Prim.bin BinOp.neq 5 false true) [Operand.tmp 41, Operand.const (Value.int IntKind.u8 0)], guard := none, hints := [] }]
def pc29_c13 : PCode := .region none false pc29_o13
def pc29_o14 : List POper := [{ dst := some 43, op := POp.mv (Operand.tmp 5), guard := none, hints := [] },
  { dst := some 44, op := POp.call true [[]] 51 [Operand.tmp 43], guard := none, hints := [] },
  { dst := some 45, op := POp.faddr 2 (Operand.tmp 6), guard := none, hints := [] },
  { dst := some 46, op := POp.faddr 0 (Operand.tmp 45), guard := none, hints := [] },
  { dst := none, op := POp.store 1 (Operand.tmp 46) (Operand.tmp 44), guard := none, hints := [] }]
def pc29_c14 : PCode := .region none false pc29_o14
def pc29_o15 : List POper := [{ dst := some 47, op := POp.mv (Operand.tmp 5), guard := none, hints := [] },
  { dst := some 48, op := POp.call true [[]] 51 [Operand.tmp 47], guard := none, hints := [] },
  { dst := some 49, op := POp.faddr 2 (Operand.tmp 6), guard := none, hints := [] },
  { dst := some 50, op := POp.faddr 1 (Operand.tmp 49), guard := none, hints := [] },
  { dst := none, op := POp.store 1 (Operand.tmp 50) (Operand.tmp 48), guard := none, hints := [] }]
def pc29_c15 : PCode := .region none false pc29_o15
def pc29_c16 : PCode := .seq pc29_c14 pc29_c15
def pc29_c17 : PCode := .skip
def pc29_c18 : PCode := .cond (Operand.tmp 42) pc29_c16 pc29_c17
def pc29_c19 : PCode := .seq pc29_c13 pc29_c18
def pc29_c20 : PCode := .seq pc29_c12 pc29_c19
def pc29_c21 : PCode := .label
def pc29_o22 : List POper := [{ dst := some 51, op := POp.mv (Operand.const (Value.int IntKind.i64 0)), guard := none, hints := [] }]
def pc29_c22 : PCode := .region none false pc29_o22
def pc29_o23 : List POper := [{ dst := some 52, op := POp.prim (Prim.bin BinOp.lss 3 false true) [Operand.tmp 51, Operand.const (Value.int IntKind.i64 4)], guard := none, hints := [] }]
def pc29_c23 : PCode := .region (some ([2, 5, 6, 51], [2, 6, 11])) false pc29_o23
def pc29_c24 : PCode := .skip
def pc29_c25 : PCode := .exit 0
def pc29_c26 : PCode := .cond (Operand.tmp 52) pc29_c24 pc29_c25
def pc29_o27 : List POper := [{ dst := some 53, op := POp.mv (Operand.tmp 51), guard := none, hints := [] },
  { dst := some 8, op := POp.mv (Operand.tmp 53), guard := none, hints := [] }]
def pc29_c27 : PCode := .region none false pc29_o27
def pc29_o28 : List POper := [{ dst := some 55, op := POp.mv (Operand.tmp 5), guard := none, hints := [] },
  { dst := some 56, op := POp.nilc (Operand.tmp 55), guard := none, hints := [] },
  { dst := some 57, op := POp.faddr 2 (Operand.tmp 56), guard := none, hints := [] },
  { dst := some 58, op := POp.load false 1 (Operand.tmp 57), guard := none, hints := [] },
  { dst := some 59, op := POp.prim (Prim.bin BinOp.neq 37 false true) [Operand.tmp 58, Operand.const (Value.int IntKind.i64 0)], guard := none, hints := [] },
  { dst := some 54, op := POp.mv (Operand.tmp 59), guard := none, hints := [] }]
def pc29_c28 : PCode := .region none false pc29_o28
def pc29_c29 : PCode := .exit 0
def pc29_o30 : List POper := [{ dst := some 61, op := POp.faddr 1 (Operand.tmp 6), guard := none, hints := [] },
  { dst := some 62, op := POp.load false 1 (Operand.tmp 61), guard := none, hints := [] },
  { dst := some 63, op := POp.mv (Operand.tmp 8), guard := none, hints := [] },
  { dst := some 64, op := POp.call true [[], []] 43 [Operand.tmp 62, Operand.tmp 63], guard := none, hints := [] },
  { dst := some 60, op := POp.mv (Operand.tmp 64), guard := none, hints := [] }]
def pc29_c30 : PCode := .region none false pc29_o30
def pc29_o31 : List POper := [{ dst := some 65, op := POp.mv (Operand.tmp 8), guard := none, hints := [] },
  { dst := some 66, op := POp.mv (Operand.tmp 5), guard := none, hints := [] },
  { dst := some 67, op := POp.call true [[]] 52 [Operand.tmp 66], guard := none, hints := [] },
  { dst := some 68, op := POp.faddr 4 (Operand.tmp 6), guard := none, hints := [] },
  { dst := some 69, op := POp.iaddrA 4 2 (Operand.tmp 68) (Operand.tmp 65), guard := none, hints := [] },
  { dst := none, op := POp.store 2 (Operand.tmp 69) (Operand.tmp 67), guard := none, hints := [] }]
def pc29_c31 : PCode := .region none false pc29_o31
def pc29_c32 : PCode := .skip
def pc29_c33 : PCode := .cond (Operand.tmp 60) pc29_c31 pc29_c32
def pc29_c34 : PCode := .seq pc29_c30 pc29_c33
def pc29_c35 : PCode := .cond (Operand.tmp 54) pc29_c29 pc29_c34
def pc29_c36 : PCode := .seq pc29_c28 pc29_c35
def pc29_c37 : PCode := .block 2 pc29_c36
def pc29_c38 : PCode := .seq pc29_c27 pc29_c37
def pc29_c39 : PCode := .block 1 pc29_c38
def pc29_o40 : List POper := [{ dst := some 70, op := POp.prim (Prim.bin BinOp.add 3 false true) [Operand.tmp 51, Operand.const (Value.int IntKind.i64 1)], guard := none, hints := [] },
  { dst := some 51, op := POp.mv (Operand.tmp 70), guard := none, hints := [] }]
def pc29_c40 : PCode := .region none false pc29_o40
def pc29_c41 : PCode := .seq pc29_c39 pc29_c40
def pc29_c42 : PCode := .seq pc29_c26 pc29_c41
def pc29_c43 : PCode := .seq pc29_c23 pc29_c42
def pc29_c44 : PCode := .loop pc29_c43
def pc29_c45 : PCode := .block 0 pc29_c44
def pc29_c46 : PCode := .seq pc29_c22 pc29_c45
def pc29_o47 : List POper := [{ dst := some 71, op := POp.mv (Operand.tmp 5), guard := none, hints := [] },
  { dst := some 72, op := POp.nilc (Operand.tmp 71), guard := none, hints := [] },
  { dst := some 73, op := POp.faddr 2 (Operand.tmp 72), guard := none, hints := [] },
  { dst := some 74, op := POp.load false 1 (Operand.tmp 73), guard := none, hints := [] },
  { dst := some 75, op := POp.prim (Prim.bin BinOp.neq 37 false true) [Operand.tmp 74, Operand.const (Value.int IntKind.i64 0)], guard := none, hints := [] }]
def pc29_c47 : PCode := .region (some ([2, 5, 6], [2, 6, 11])) false pc29_o47
def pc29_o48 : List POper := [{ dst := some 76, op := POp.build (Value.agg { toList := [Value.int IntKind.i64 0, Value.int IntKind.u8 0, Value.int IntKind.i64 0, Value.int IntKind.i64 0, Value.int IntKind.i64 0, Value.string { data := { toList := [] } }, Value.int IntKind.i64 0, Value.string { data := { toList := [] } }, Value.int IntKind.i64 0, Value.string { data := { toList := [] } }, Value.int IntKind.i64 0, Value.string { data := { toList := [] } }] }) [], guard := none, hints := [] },
  { dst := some 77, op := POp.mv (Operand.tmp 5), guard := none, hints := [(5, Hint.at_ 11 0)] },
  { dst := some 78, op := POp.nilc (Operand.tmp 77), guard := none, hints := [(77, Hint.at_ 11 0)] },
  { dst := some 79, op := POp.faddr 2 (Operand.tmp 78), guard := none, hints := [(78, Hint.at_ 11 0)] },
  { dst := some 80, op := POp.load false 1 (Operand.tmp 79), guard := none, hints := [(79, Hint.at_ 11 2)] },
  { dst := none, op := POp.store 12 (Operand.tmp 2) (Operand.tmp 76), guard := none, hints := [(2, Hint.at_ 2 0), (76, Hint.imm)] },
  { dst := some 3, op := POp.mv (Operand.const (Value.int IntKind.i64 0)), guard := none, hints := [] },
  { dst := some 4, op := POp.mv (Operand.tmp 80), guard := none, hints := [(80, Hint.imm)] }]
def pc29_c48 : PCode := .region none true pc29_o48
def pc29_c49 : PCode := .ret
def pc29_c50 : PCode := .seq pc29_c48 pc29_c49
def pc29_c51 : PCode := .skip
def pc29_c52 : PCode := .cond (Operand.tmp 75) pc29_c50 pc29_c51
def pc29_c53 : PCode := .seq pc29_c47 pc29_c52
def pc29_o54 : List POper := [{ dst := some 81, op := POp.load true 12 (Operand.tmp 6), guard := none, hints := [] },
  { dst := some 82, op := POp.call true [[]] 25 [Operand.tmp 81], guard := none, hints := [] },
  { dst := some 83, op := POp.prim (Prim.un UnOp.not) [Operand.tmp 82], guard := none, hints := [] }]
def pc29_c54 : PCode := .region none false pc29_o54
def pc29_o55 : List POper := [{ dst := some 84, op := POp.build (Value.agg { toList := [Value.int IntKind.i64 0, Value.int IntKind.u8 0, Value.int IntKind.i64 0, Value.int IntKind.i64 0, Value.int IntKind.i64 0, Value.string { data := { toList := [] } }, Value.int IntKind.i64 0, Value.string { data := { toList := [] } }, Value.int IntKind.i64 0, Value.string { data := { toList := [] } }, Value.int IntKind.i64 0, Value.string { data := { toList := [] } }] }) [], guard := none, hints := [] },
  { dst := none, op := POp.store 12 (Operand.tmp 2) (Operand.tmp 84), guard := none, hints := [] },
  { dst := some 3, op := POp.mv (Operand.const (Value.int IntKind.i64 0)), guard := none, hints := [] },
  { dst := some 4, op := POp.mv (Operand.const (Value.int IntKind.i64 11)), guard := none, hints := [] }]
def pc29_c55 : PCode := .region none false pc29_o55
def pc29_c56 : PCode := .ret
def pc29_c57 : PCode := .seq pc29_c55 pc29_c56
def pc29_c58 : PCode := .skip
def pc29_c59 : PCode := .cond (Operand.tmp 83) pc29_c57 pc29_c58
def pc29_c60 : PCode := .seq pc29_c54 pc29_c59
def pc29_o61 : List POper := [{ dst := some 85, op := POp.load true 12 (Operand.tmp 6), guard := none, hints := [(6, Hint.at_ 6 0)] },
  { dst := some 86, op := POp.mv (Operand.tmp 5), guard := none, hints := [(5, Hint.at_ 11 0)] },
  { dst := some 87, op := POp.nilc (Operand.tmp 86), guard := none, hints := [(86, Hint.at_ 11 0)] },
  { dst := some 88, op := POp.faddr 1 (Operand.tmp 87), guard := none, hints := [(87, Hint.at_ 11 0)] },
  { dst := some 89, op := POp.load false 1 (Operand.tmp 88), guard := none, hints := [(88, Hint.at_ 11 1)] },
  { dst := none, op := POp.store 12 (Operand.tmp 2) (Operand.tmp 85), guard := none, hints := [(2, Hint.at_ 2 0), (85, Hint.imm)] },
  { dst := some 3, op := POp.mv (Operand.tmp 89), guard := none, hints := [(89, Hint.imm)] },
  { dst := some 4, op := POp.mv (Operand.const (Value.int IntKind.i64 0)), guard := none, hints := [] }]
def pc29_c61 : PCode := .region none true pc29_o61
def pc29_c62 : PCode := .ret
def pc29_c63 : PCode := .seq pc29_c61 pc29_c62
def pc29_c64 : PCode := .seq pc29_c60 pc29_c63
def pc29_c65 : PCode := .seq pc29_c53 pc29_c64
def pc29_c66 : PCode := .seq pc29_c46 pc29_c65
def pc29_c67 : PCode := .seq pc29_c21 pc29_c66
def pc29_c68 : PCode := .seq pc29_c20 pc29_c67
def pc29_c69 : PCode := .seq pc29_c11 pc29_c68
def pc29_c70 : PCode := .seq pc29_c4 pc29_c69
def pc29_c71 : PCode := .seq pc29_c3 pc29_c70
def pc29_c72 : PCode := .seq pc29_c2 pc29_c71
def pc29_c73 : PCode := .scope pc29_c72
def pc29_c74 : PCode := .seq pc29_c1 pc29_c73
def pc29_r : List PRes := [PRes.cell 2 true 12 [], PRes.tmp 3 [], PRes.tmp 4 []]
def pc29 : PFunc := ⟨90, pc29_r, pc29_c74⟩
def pc29_a : Ann := {
  kr := fun
    | 6 => some ([2, 5, 6, 7], [2, 6, 11])
    | 11 => some ([2, 5, 6, 51], [2, 6, 11])
    | 17 => some ([2, 5, 6], [2, 6, 11])
    | _ => none
  ka := fun
    | _ => 0
  kh := fun
    | 2 => some (Hint.at_ 2 0)
    | 5 => some (Hint.at_ 11 0)
    | 6 => some (Hint.at_ 6 0)
    | 76 => some (Hint.imm)
    | 77 => some (Hint.at_ 11 0)
    | 78 => some (Hint.at_ 11 0)
    | 79 => some (Hint.at_ 11 2)
    | 80 => some (Hint.imm)
    | 85 => some (Hint.imm)
    | 86 => some (Hint.at_ 11 0)
    | 87 => some (Hint.at_ 11 0)
    | 88 => some (Hint.at_ 11 1)
    | 89 => some (Hint.imm)
    | _ => none }
theorem pc29_ok : compFn Try.prog pc29_a Try.f29 = some pc29 := by kernel_rfl


-- 14: vedette/vedettelaw6.known
def pc14_o1 : List POper := [{ dst := some 0, op := POp.mv (Operand.const (Value.bool false)), guard := none, hints := [] }]
def pc14_c1 : PCode := .region none false pc14_o1
def pc14_o2 : List POper := [{ dst := some 14, op := POp.build (Value.agg { toList := [Value.int IntKind.i64 0, Value.int IntKind.i64 0, Value.int IntKind.i64 0, Value.int IntKind.i64 0, Value.string { data := { toList := [] } }, Value.int IntKind.i64 0, Value.string { data := { toList := [] } }, Value.int IntKind.i64 0, Value.string { data := { toList := [] } }, Value.int IntKind.i64 0, Value.string { data := { toList := [] } }] }) [(0, 1, Operand.const (Value.int IntKind.i64 3))], guard := none, hints := [] },
  { dst := some 15, op := POp.build (Value.agg { toList := [Value.int IntKind.i64 0, Value.int IntKind.i64 0] }) [(0, 1, Operand.const (Value.int IntKind.i64 1))], guard := none, hints := [] },
  { dst := some 16, op := POp.build (Value.agg { toList := [Value.int IntKind.i64 0, Value.string { data := { toList := [] } }] }) [(0, 1, Operand.const (Value.int IntKind.i64 5))], guard := none, hints := [] },
  { dst := some 17, op := POp.build (Value.agg { toList := [Value.int IntKind.i64 0, Value.string { data := { toList := [] } }, Value.int IntKind.i64 0, Value.string { data := { toList := [] } }, Value.int IntKind.i64 0, Value.string { data := { toList := [] } }, Value.int IntKind.i64 0, Value.string { data := { toList := [] } }] }) [(0, 2, Operand.tmp 16)], guard := none, hints := [] },
  { dst := some 18, op := POp.build (Value.agg { toList := [Value.int IntKind.i64 0, Value.int IntKind.i64 0, Value.int IntKind.i64 0, Value.int IntKind.i64 0, Value.string { data := { toList := [] } }, Value.int IntKind.i64 0, Value.string { data := { toList := [] } }, Value.int IntKind.i64 0, Value.string { data := { toList := [] } }, Value.int IntKind.i64 0, Value.string { data := { toList := [] } }] }) [(0, 1, Operand.const (Value.int IntKind.i64 3)), (1, 2, Operand.tmp 15), (3, 8, Operand.tmp 17)], guard := none, hints := [] },
  { dst := some 1, op := POp.alloc 28 (Value.agg { toList := [Value.int IntKind.i64 0, Value.int IntKind.i64 0, Value.int IntKind.i64 0, Value.int IntKind.i64 0, Value.string { data := { toList := [] } }, Value.int IntKind.i64 0, Value.string { data := { toList := [] } }, Value.int IntKind.i64 0, Value.string { data := { toList := [] } }, Value.int IntKind.i64 0, Value.string { data := { toList := [] } }] }), guard := none, hints := [] },
  { dst := some 2, op := POp.alloc 28 (Value.agg { toList := [Value.int IntKind.i64 0, Value.int IntKind.i64 0, Value.int IntKind.i64 0, Value.int IntKind.i64 0, Value.string { data := { toList := [] } }, Value.int IntKind.i64 0, Value.string { data := { toList := [] } }, Value.int IntKind.i64 0, Value.string { data := { toList := [] } }, Value.int IntKind.i64 0, Value.string { data := { toList := [] } }] }), guard := none, hints := [] },
  { dst := none, op := POp.store 11 (Operand.tmp 1) (Operand.tmp 14), guard := none, hints := [] },
  { dst := none, op := POp.store 11 (Operand.tmp 2) (Operand.tmp 18), guard := none, hints := [] }]
def pc14_c2 : PCode := .region none false pc14_o2
def pc14_o3 : List POper := [{ dst := some 20, op := POp.load true 11 (Operand.tmp 1), guard := none, hints := [] },
  { dst := some 21, op := POp.load true 11 (Operand.tmp 2), guard := none, hints := [] },
  { dst := some 22, op := POp.call true [[], []] 18 [Operand.tmp 20, Operand.tmp 21], guard := none, hints := [] },
  { dst := some 19, op := POp.mv (Operand.tmp 22), guard := none, hints := [] },
  { dst := some 23, op := POp.ext (Operand.tmp 19) 0, guard := none, hints := [] },
  { dst := some 24, op := POp.ext (Operand.tmp 19) 1, guard := none, hints := [] },
  { dst := some 3, op := POp.alloc 30 (Value.agg { toList := [Value.int IntKind.i64 0, Value.int IntKind.u8 0, Value.int IntKind.i64 0, Value.int IntKind.i64 0, Value.int IntKind.i64 0, Value.string { data := { toList := [] } }, Value.int IntKind.i64 0, Value.string { data := { toList := [] } }, Value.int IntKind.i64 0, Value.string { data := { toList := [] } }, Value.int IntKind.i64 0, Value.string { data := { toList := [] } }] }), guard := none, hints := [] },
  { dst := none, op := POp.store 12 (Operand.tmp 3) (Operand.tmp 23), guard := none, hints := [] },
  { dst := some 4, op := POp.mv (Operand.tmp 24), guard := none, hints := [] }]
def pc14_c3 : PCode := .region none false pc14_o3
def pc14_o4 : List POper := [{ dst := some 26, op := POp.load true 11 (Operand.tmp 1), guard := none, hints := [] },
  { dst := some 27, op := POp.load true 11 (Operand.tmp 1), guard := none, hints := [] },
  { dst := some 28, op := POp.call true [[], []] 18 [Operand.tmp 26, Operand.tmp 27], guard := none, hints := [] },
  { dst := some 25, op := POp.mv (Operand.tmp 28), guard := none, hints := [] },
  { dst := some 29, op := POp.ext (Operand.tmp 25) 0, guard := none, hints := [] },
  { dst := some 30, op := POp.ext (Operand.tmp 25) 1, guard := none, hints := [] },
  { dst := some 5, op := POp.alloc 30 (Value.agg { toList := [Value.int IntKind.i64 0, Value.int IntKind.u8 0, Value.int IntKind.i64 0, Value.int IntKind.i64 0, Value.int IntKind.i64 0, Value.string { data := { toList := [] } }, Value.int IntKind.i64 0, Value.string { data := { toList := [] } }, Value.int IntKind.i64 0, Value.string { data := { toList := [] } }, Value.int IntKind.i64 0, Value.string { data := { toList := [] } }] }), guard := none, hints := [] },
  { dst := none, op := POp.store 12 (Operand.tmp 5) (Operand.tmp 29), guard := none, hints := [] },
  { dst := some 6, op := POp.mv (Operand.tmp 30), guard := none, hints := [] }]
def pc14_c4 : PCode := .region none false pc14_o4
def pc14_o5 : List POper := [{ dst := some 32, op := POp.load true 12 (Operand.tmp 3), guard := none, hints := [] },
  { dst := some 33, op := POp.call true [[]] 20 [Operand.tmp 32], guard := none, hints := [] },
  { dst := some 31, op := POp.mv (Operand.tmp 33), guard := none, hints := [] },
  { dst := some 34, op := POp.ext (Operand.tmp 31) 0, guard := none, hints := [] },
  { dst := some 35, op := POp.ext (Operand.tmp 31) 1, guard := none, hints := [] },
  { dst := some 7, op := POp.mv (Operand.tmp 34), guard := none, hints := [] },
  { dst := some 8, op := POp.mv (Operand.tmp 35), guard := none, hints := [] }]
def pc14_c5 : PCode := .region none false pc14_o5
def pc14_o6 : List POper := [{ dst := some 37, op := POp.mv (Operand.tmp 7), guard := none, hints := [] },
  { dst := some 38, op := POp.call true [[]] 29 [Operand.tmp 37], guard := none, hints := [] },
  { dst := some 36, op := POp.mv (Operand.tmp 38), guard := none, hints := [] },
  { dst := some 39, op := POp.ext (Operand.tmp 36) 0, guard := none, hints := [] },
  { dst := some 40, op := POp.ext (Operand.tmp 36) 1, guard := none, hints := [] },
  { dst := some 41, op := POp.ext (Operand.tmp 36) 2, guard := none, hints := [] },
  { dst := some 9, op := POp.alloc 30 (Value.agg { toList := [Value.int IntKind.i64 0, Value.int IntKind.u8 0, Value.int IntKind.i64 0, Value.int IntKind.i64 0, Value.int IntKind.i64 0, Value.string { data := { toList := [] } }, Value.int IntKind.i64 0, Value.string { data := { toList := [] } }, Value.int IntKind.i64 0, Value.string { data := { toList := [] } }, Value.int IntKind.i64 0, Value.string { data := { toList := [] } }] }), guard := none, hints := [] },
  { dst := none, op := POp.store 12 (Operand.tmp 9) (Operand.tmp 39), guard := none, hints := [] },
  { dst := some 10, op := POp.mv (Operand.tmp 40), guard := none, hints := [] },
  { dst := some 11, op := POp.mv (Operand.tmp 41), guard := none, hints := [] }]
def pc14_c6 : PCode := .region none false pc14_o6
def pc14_o7 : List POper := [{ dst := some 43, op := POp.build (Value.agg { toList := [Value.int IntKind.i64 0, Value.int IntKind.u8 0, Value.int IntKind.i64 0, Value.int IntKind.i64 0, Value.int IntKind.i64 0, Value.string { data := { toList := [] } }, Value.int IntKind.i64 0, Value.string { data := { toList := [] } }, Value.int IntKind.i64 0, Value.string { data := { toList := [] } }, Value.int IntKind.i64 0, Value.string { data := { toList := [] } }] }) [], guard := none, hints := [] },
  { dst := some 44, op := POp.call true [[]] 20 [Operand.tmp 43], guard := none, hints := [] },
  { dst := some 42, op := POp.mv (Operand.tmp 44), guard := none, hints := [] },
  { dst := some 45, op := POp.ext (Operand.tmp 42) 0, guard := none, hints := [] },
  { dst := some 46, op := POp.ext (Operand.tmp 42) 1, guard := none, hints := [] },
  { dst := some 12, op := POp.mv (Operand.tmp 45), guard := none, hints := [] },
  { dst := some 13, op := POp.mv (Operand.tmp 46), guard := none, hints := [] }]
def pc14_c7 : PCode := .region none false pc14_o7
def pc14_o8 : List POper := [{ dst := some 47, op := POp.mv (Operand.tmp 4), guard := none, hints := [(4, Hint.imm)] },
  { dst := some 48, op := POp.mv (Operand.tmp 47), guard := none, hints := [(47, Hint.imm)] },
  { dst := some 49, op := POp.faddr 1 (Operand.tmp 3), guard := some (48, true), hints := [(3, Hint.at_ 3 0)] },
  { dst := some 50, op := POp.load false 1 (Operand.tmp 49), guard := some (48, true), hints := [(49, Hint.at_ 3 1)] },
  { dst := some 51, op := POp.prim (Prim.bin BinOp.eql 5 false true) [Operand.tmp 50, Operand.const (Value.int IntKind.u8 3)], guard := some (48, true), hints := [(50, Hint.imm)] },
  { dst := some 52, op := POp.pick (Operand.tmp 48) (Operand.tmp 51) (Operand.const (Value.bool false)), guard := none, hints := [(48, Hint.imm), (51, Hint.imm)] },
  { dst := some 53, op := POp.mv (Operand.tmp 52), guard := none, hints := [(52, Hint.imm)] },
  { dst := some 54, op := POp.mv (Operand.tmp 6), guard := some (53, true), hints := [(6, Hint.imm)] },
  { dst := some 55, op := POp.prim (Prim.un UnOp.not) [Operand.tmp 54], guard := some (53, true), hints := [(54, Hint.imm)] },
  { dst := some 56, op := POp.pick (Operand.tmp 53) (Operand.tmp 55) (Operand.const (Value.bool false)), guard := none, hints := [(53, Hint.imm), (55, Hint.imm)] },
  { dst := some 57, op := POp.mv (Operand.tmp 56), guard := none, hints := [(56, Hint.imm)] },
  { dst := some 58, op := POp.load true 11 (Operand.tmp 1), guard := some (57, true), hints := [(1, Hint.at_ 1 0)] },
  { dst := some 59, op := POp.load true 12 (Operand.tmp 3), guard := some (57, true), hints := [(3, Hint.at_ 3 0)] },
  { dst := some 60, op := POp.call false [[], []] 23 [Operand.tmp 58, Operand.tmp 59], guard := some (57, true), hints := [(58, Hint.imm), (59, Hint.imm)] },
  { dst := some 61, op := POp.load true 11 (Operand.tmp 2), guard := some (57, true), hints := [(2, Hint.at_ 2 0)] },
  { dst := some 62, op := POp.prim (Prim.bin BinOp.eql 28 false false) [Operand.tmp 60, Operand.tmp 61], guard := some (57, true), hints := [(60, Hint.imm), (61, Hint.imm)] },
  { dst := some 63, op := POp.pick (Operand.tmp 57) (Operand.tmp 62) (Operand.const (Value.bool false)), guard := none, hints := [(57, Hint.imm), (62, Hint.imm)] },
  { dst := some 64, op := POp.mv (Operand.tmp 63), guard := none, hints := [(63, Hint.imm)] },
  { dst := some 65, op := POp.mv (Operand.tmp 8), guard := some (64, true), hints := [(8, Hint.imm)] },
  { dst := some 66, op := POp.prim (Prim.bin BinOp.eql 37 false true) [Operand.tmp 65, Operand.const (Value.int IntKind.i64 0)], guard := some (64, true), hints := [(65, Hint.imm)] },
  { dst := some 67, op := POp.pick (Operand.tmp 64) (Operand.tmp 66) (Operand.const (Value.bool false)), guard := none, hints := [(64, Hint.imm), (66, Hint.imm)] },
  { dst := some 68, op := POp.mv (Operand.tmp 67), guard := none, hints := [(67, Hint.imm)] },
  { dst := some 69, op := POp.mv (Operand.tmp 11), guard := some (68, true), hints := [(11, Hint.imm)] },
  { dst := some 70, op := POp.prim (Prim.bin BinOp.eql 37 false true) [Operand.tmp 69, Operand.const (Value.int IntKind.i64 0)], guard := some (68, true), hints := [(69, Hint.imm)] },
  { dst := some 71, op := POp.pick (Operand.tmp 68) (Operand.tmp 70) (Operand.const (Value.bool false)), guard := none, hints := [(68, Hint.imm), (70, Hint.imm)] },
  { dst := some 72, op := POp.mv (Operand.tmp 71), guard := none, hints := [(71, Hint.imm)] },
  { dst := some 73, op := POp.mv (Operand.tmp 10), guard := some (72, true), hints := [(10, Hint.imm)] },
  { dst := some 74, op := POp.mv (Operand.tmp 7), guard := some (72, true), hints := [(7, Hint.imm)] },
  { dst := some 75, op := POp.prim (Prim.len 9) [Operand.tmp 74], guard := some (72, true), hints := [(74, Hint.imm)] },
  { dst := some 76, op := POp.prim (Prim.bin BinOp.eql 3 false false) [Operand.tmp 73, Operand.tmp 75], guard := some (72, true), hints := [(73, Hint.imm), (75, Hint.imm)] },
  { dst := some 77, op := POp.pick (Operand.tmp 72) (Operand.tmp 76) (Operand.const (Value.bool false)), guard := none, hints := [(72, Hint.imm), (76, Hint.imm)] },
  { dst := some 78, op := POp.mv (Operand.tmp 77), guard := none, hints := [(77, Hint.imm)] },
  { dst := some 79, op := POp.load true 12 (Operand.tmp 9), guard := some (78, true), hints := [(9, Hint.at_ 9 0)] },
  { dst := some 80, op := POp.load true 12 (Operand.tmp 3), guard := some (78, true), hints := [(3, Hint.at_ 3 0)] },
  { dst := some 81, op := POp.prim (Prim.bin BinOp.eql 30 false false) [Operand.tmp 79, Operand.tmp 80], guard := some (78, true), hints := [(79, Hint.imm), (80, Hint.imm)] },
  { dst := some 82, op := POp.pick (Operand.tmp 78) (Operand.tmp 81) (Operand.const (Value.bool false)), guard := none, hints := [(78, Hint.imm), (81, Hint.imm)] },
  { dst := some 83, op := POp.mv (Operand.tmp 82), guard := none, hints := [(82, Hint.imm)] },
  { dst := some 84, op := POp.mv (Operand.tmp 13), guard := some (83, true), hints := [(13, Hint.imm)] },
  { dst := some 85, op := POp.prim (Prim.bin BinOp.eql 37 false true) [Operand.tmp 84, Operand.const (Value.int IntKind.i64 11)], guard := some (83, true), hints := [(84, Hint.imm)] },
  { dst := some 86, op := POp.pick (Operand.tmp 83) (Operand.tmp 85) (Operand.const (Value.bool false)), guard := none, hints := [(83, Hint.imm), (85, Hint.imm)] },
  { dst := some 87, op := POp.mv (Operand.tmp 86), guard := none, hints := [(86, Hint.imm)] },
  { dst := some 88, op := POp.build (Value.agg { toList := [Value.int IntKind.i64 0, Value.string { data := { toList := [] } }] }) [(1, 1, Operand.const (Value.string { data := { toList := [97] } }))], guard := some (87, true), hints := [] },
  { dst := some 89, op := POp.call false [[]] 26 [Operand.tmp 88], guard := some (87, true), hints := [(88, Hint.imm)] },
  { dst := some 90, op := POp.pick (Operand.tmp 87) (Operand.tmp 89) (Operand.const (Value.bool false)), guard := none, hints := [(87, Hint.imm), (89, Hint.imm)] },
  { dst := some 91, op := POp.mv (Operand.tmp 90), guard := none, hints := [(90, Hint.imm)] },
  { dst := some 92, op := POp.build (Value.agg { toList := [Value.int IntKind.i64 0, Value.string { data := { toList := [] } }] }) [(0, 1, Operand.const (Value.int IntKind.i64 1)), (1, 1, Operand.const (Value.string { data := { toList := [97] } }))], guard := some (91, true), hints := [] },
  { dst := some 93, op := POp.call false [[]] 26 [Operand.tmp 92], guard := some (91, true), hints := [(92, Hint.imm)] },
  { dst := some 94, op := POp.prim (Prim.un UnOp.not) [Operand.tmp 93], guard := some (91, true), hints := [(93, Hint.imm)] },
  { dst := some 95, op := POp.pick (Operand.tmp 91) (Operand.tmp 94) (Operand.const (Value.bool false)), guard := none, hints := [(91, Hint.imm), (94, Hint.imm)] },
  { dst := some 96, op := POp.mv (Operand.tmp 95), guard := none, hints := [(95, Hint.imm)] },
  { dst := some 97, op := POp.load true 12 (Operand.tmp 3), guard := some (96, true), hints := [(3, Hint.at_ 3 0)] },
  { dst := some 98, op := POp.call false [[]] 25 [Operand.tmp 97], guard := some (96, true), hints := [(97, Hint.imm)] },
  { dst := some 99, op := POp.pick (Operand.tmp 96) (Operand.tmp 98) (Operand.const (Value.bool false)), guard := none, hints := [(96, Hint.imm), (98, Hint.imm)] },
  { dst := some 100, op := POp.mv (Operand.tmp 99), guard := none, hints := [(99, Hint.imm)] },
  { dst := some 101, op := POp.load true 12 (Operand.tmp 3), guard := some (100, true), hints := [(3, Hint.at_ 3 0)] },
  { dst := some 102, op := POp.load true 12 (Operand.tmp 9), guard := some (100, true), hints := [(9, Hint.at_ 9 0)] },
  { dst := some 103, op := POp.call false [[], []] 28 [Operand.tmp 101, Operand.tmp 102], guard := some (100, true), hints := [(101, Hint.imm), (102, Hint.imm)] },
  { dst := some 104, op := POp.pick (Operand.tmp 100) (Operand.tmp 103) (Operand.const (Value.bool false)), guard := none, hints := [(100, Hint.imm), (103, Hint.imm)] },
  { dst := some 0, op := POp.mv (Operand.tmp 104), guard := none, hints := [(104, Hint.imm)] }]
def pc14_c8 : PCode := .region none true pc14_o8
def pc14_c9 : PCode := .ret
def pc14_c10 : PCode := .seq pc14_c8 pc14_c9
def pc14_c11 : PCode := .seq pc14_c7 pc14_c10
def pc14_c12 : PCode := .seq pc14_c6 pc14_c11
def pc14_c13 : PCode := .seq pc14_c5 pc14_c12
def pc14_c14 : PCode := .seq pc14_c4 pc14_c13
def pc14_c15 : PCode := .seq pc14_c3 pc14_c14
def pc14_c16 : PCode := .seq pc14_c2 pc14_c15
def pc14_c17 : PCode := .seq pc14_c1 pc14_c16
def pc14_r : List PRes := [PRes.tmp 0 []]
def pc14 : PFunc := ⟨105, pc14_r, pc14_c17⟩
def pc14_a : Ann := {
  kr := fun
    | _ => none
  ka := fun
    | _ => 0
  kh := fun
    | 1 => some (Hint.at_ 1 0)
    | 2 => some (Hint.at_ 2 0)
    | 3 => some (Hint.at_ 3 0)
    | 4 => some (Hint.imm)
    | 6 => some (Hint.imm)
    | 7 => some (Hint.imm)
    | 8 => some (Hint.imm)
    | 9 => some (Hint.at_ 9 0)
    | 10 => some (Hint.imm)
    | 11 => some (Hint.imm)
    | 13 => some (Hint.imm)
    | 47 => some (Hint.imm)
    | 48 => some (Hint.imm)
    | 49 => some (Hint.at_ 3 1)
    | 50 => some (Hint.imm)
    | 51 => some (Hint.imm)
    | 52 => some (Hint.imm)
    | 53 => some (Hint.imm)
    | 54 => some (Hint.imm)
    | 55 => some (Hint.imm)
    | 56 => some (Hint.imm)
    | 57 => some (Hint.imm)
    | 58 => some (Hint.imm)
    | 59 => some (Hint.imm)
    | 60 => some (Hint.imm)
    | 61 => some (Hint.imm)
    | 62 => some (Hint.imm)
    | 63 => some (Hint.imm)
    | 64 => some (Hint.imm)
    | 65 => some (Hint.imm)
    | 66 => some (Hint.imm)
    | 67 => some (Hint.imm)
    | 68 => some (Hint.imm)
    | 69 => some (Hint.imm)
    | 70 => some (Hint.imm)
    | 71 => some (Hint.imm)
    | 72 => some (Hint.imm)
    | 73 => some (Hint.imm)
    | 74 => some (Hint.imm)
    | 75 => some (Hint.imm)
    | 76 => some (Hint.imm)
    | 77 => some (Hint.imm)
    | 78 => some (Hint.imm)
    | 79 => some (Hint.imm)
    | 80 => some (Hint.imm)
    | 81 => some (Hint.imm)
    | 82 => some (Hint.imm)
    | 83 => some (Hint.imm)
    | 84 => some (Hint.imm)
    | 85 => some (Hint.imm)
    | 86 => some (Hint.imm)
    | 87 => some (Hint.imm)
    | 88 => some (Hint.imm)
    | 89 => some (Hint.imm)
    | 90 => some (Hint.imm)
    | 91 => some (Hint.imm)
    | 92 => some (Hint.imm)
    | 93 => some (Hint.imm)
    | 94 => some (Hint.imm)
    | 95 => some (Hint.imm)
    | 96 => some (Hint.imm)
    | 97 => some (Hint.imm)
    | 98 => some (Hint.imm)
    | 99 => some (Hint.imm)
    | 100 => some (Hint.imm)
    | 101 => some (Hint.imm)
    | 102 => some (Hint.imm)
    | 103 => some (Hint.imm)
    | 104 => some (Hint.imm)
    | _ => none }
theorem pc14_ok : compFn Try.prog pc14_a Try.f14 = some pc14 := by kernel_rfl


-- 17: vedette/vedettelaw6.fewField
def pc17_o1 : List POper := [{ dst := some 1, op := POp.box 25 (Operand.tmp 0), guard := none, hints := [] },
  { dst := some 2, op := POp.mv (Operand.const (Value.bool false)), guard := none, hints := [] }]
def pc17_c1 : PCode := .region none false pc17_o1
def pc17_o2 : List POper := [{ dst := some 3, op := POp.faddr 1 (Operand.tmp 1), guard := none, hints := [] },
  { dst := some 4, op := POp.load false 1 (Operand.tmp 3), guard := none, hints := [] },
  { dst := some 5, op := POp.prim (Prim.len 9) [Operand.tmp 4], guard := none, hints := [] },
  { dst := some 6, op := POp.prim (Prim.bin BinOp.leq 3 false true) [Operand.tmp 5, Operand.const (Value.int IntKind.i64 40)], guard := none, hints := [] },
  { dst := some 2, op := POp.mv (Operand.tmp 6), guard := none, hints := [] }]
def pc17_c2 : PCode := .region none false pc17_o2
def pc17_c3 : PCode := .ret
def pc17_c4 : PCode := .seq pc17_c2 pc17_c3
def pc17_c5 : PCode := .seq pc17_c1 pc17_c4
def pc17_r : List PRes := [PRes.tmp 2 []]
def pc17 : PFunc := ⟨7, pc17_r, pc17_c5⟩
def pc17_a : Ann := {
  kr := fun
    | _ => none
  ka := fun
    | _ => 0
  kh := fun
    | _ => none }
theorem pc17_ok : compFn Try.prog pc17_a Try.f17 = some pc17 := by kernel_rfl


-- 15: vedette/vedettelaw6.fewThing
def pc15_o1 : List POper := [{ dst := some 1, op := POp.box 28 (Operand.tmp 0), guard := none, hints := [] },
  { dst := some 2, op := POp.mv (Operand.const (Value.bool false)), guard := none, hints := [] }]
def pc15_c1 : PCode := .region none false pc15_o1
def pc15_o2 : List POper := [{ dst := some 3, op := POp.mv (Operand.const (Value.int IntKind.i64 0)), guard := none, hints := [] }]
def pc15_c2 : PCode := .region none false pc15_o2
def pc15_o3 : List POper := [{ dst := some 4, op := POp.mv (Operand.tmp 3), guard := none, hints := [] },
  { dst := some 5, op := POp.prim (Prim.bin BinOp.lss 3 false true) [Operand.tmp 4, Operand.const (Value.int IntKind.i64 4)], guard := none, hints := [] }]
def pc15_c3 : PCode := .region (some ([1, 3], [1])) false pc15_o3
def pc15_c4 : PCode := .skip
def pc15_c5 : PCode := .exit 0
def pc15_c6 : PCode := .cond (Operand.tmp 5) pc15_c4 pc15_c5
def pc15_c7 : PCode := .seq pc15_c3 pc15_c6
def pc15_o8 : List POper := [{ dst := some 8, op := POp.mv (Operand.tmp 3), guard := none, hints := [] },
  { dst := some 9, op := POp.faddr 3 (Operand.tmp 1), guard := none, hints := [] },
  { dst := some 10, op := POp.iaddrA 4 2 (Operand.tmp 9) (Operand.tmp 8), guard := none, hints := [] },
  { dst := some 11, op := POp.load true 2 (Operand.tmp 10), guard := none, hints := [] },
  { dst := some 12, op := POp.call true [[]] 17 [Operand.tmp 11], guard := none, hints := [] },
  { dst := some 13, op := POp.prim (Prim.un UnOp.not) [Operand.tmp 12], guard := none, hints := [] }]
def pc15_c8 : PCode := .region none false pc15_o8
def pc15_o9 : List POper := [{ dst := some 2, op := POp.mv (Operand.const (Value.bool false)), guard := none, hints := [] }]
def pc15_c9 : PCode := .region none false pc15_o9
def pc15_c10 : PCode := .ret
def pc15_c11 : PCode := .seq pc15_c9 pc15_c10
def pc15_c12 : PCode := .skip
def pc15_c13 : PCode := .cond (Operand.tmp 13) pc15_c11 pc15_c12
def pc15_c14 : PCode := .seq pc15_c8 pc15_c13
def pc15_c15 : PCode := .block 1 pc15_c14
def pc15_o16 : List POper := [{ dst := some 6, op := POp.mv (Operand.tmp 3), guard := none, hints := [] },
  { dst := some 7, op := POp.prim (Prim.bin BinOp.add 3 false true) [Operand.tmp 6, Operand.const (Value.int IntKind.i64 1)], guard := none, hints := [] },
  { dst := some 3, op := POp.mv (Operand.tmp 7), guard := none, hints := [] }]
def pc15_c16 : PCode := .region none false pc15_o16
def pc15_c17 : PCode := .seq pc15_c15 pc15_c16
def pc15_c18 : PCode := .seq pc15_c7 pc15_c17
def pc15_c19 : PCode := .loop pc15_c18
def pc15_c20 : PCode := .block 0 pc15_c19
def pc15_c21 : PCode := .seq pc15_c2 pc15_c20
def pc15_o22 : List POper := [{ dst := some 2, op := POp.mv (Operand.const (Value.bool true)), guard := none, hints := [] }]
def pc15_c22 : PCode := .region none false pc15_o22
def pc15_c23 : PCode := .ret
def pc15_c24 : PCode := .seq pc15_c22 pc15_c23
def pc15_c25 : PCode := .seq pc15_c21 pc15_c24
def pc15_c26 : PCode := .seq pc15_c1 pc15_c25
def pc15_r : List PRes := [PRes.tmp 2 []]
def pc15 : PFunc := ⟨14, pc15_r, pc15_c26⟩
def pc15_a : Ann := {
  kr := fun
    | 2 => some ([1, 3], [1])
    | _ => none
  ka := fun
    | _ => 0
  kh := fun
    | _ => none }
theorem pc15_ok : compFn Try.prog pc15_a Try.f15 = some pc15 := by kernel_rfl


-- 27: vedette/vedetteref6.IsField
def pc27_o1 : List POper := [{ dst := some 1, op := POp.box 25 (Operand.tmp 0), guard := none, hints := [] },
  { dst := some 2, op := POp.mv (Operand.const (Value.bool false)), guard := none, hints := [] }]
def pc27_c1 : PCode := .region none false pc27_o1
def pc27_o2 : List POper := [{ dst := some 3, op := POp.faddr 0 (Operand.tmp 1), guard := none, hints := [] },
  { dst := some 4, op := POp.load false 1 (Operand.tmp 3), guard := none, hints := [] },
  { dst := some 5, op := POp.prim (Prim.bin BinOp.eql 2 false true) [Operand.tmp 4, Operand.const (Value.int IntKind.i64 0)], guard := none, hints := [] },
  { dst := some 6, op := POp.mv (Operand.tmp 5), guard := none, hints := [] },
  { dst := some 7, op := POp.faddr 1 (Operand.tmp 1), guard := some (6, false), hints := [] },
  { dst := some 8, op := POp.load false 1 (Operand.tmp 7), guard := some (6, false), hints := [] },
  { dst := some 9, op := POp.prim (Prim.bin BinOp.eql 9 false true) [Operand.tmp 8, Operand.const (Value.string { data := { toList := [] } })], guard := some (6, false), hints := [] },
  { dst := some 10, op := POp.pick (Operand.tmp 6) (Operand.const (Value.bool true)) (Operand.tmp 9), guard := none, hints := [] },
  { dst := some 11, op := POp.mv (Operand.tmp 10), guard := none, hints := [] },
  { dst := some 12, op := POp.faddr 1 (Operand.tmp 1), guard := some (11, true), hints := [] },
  { dst := some 13, op := POp.load false 1 (Operand.tmp 12), guard := some (11, true), hints := [] },
  { dst := some 14, op := POp.prim (Prim.len 9) [Operand.tmp 13], guard := some (11, true), hints := [] },
  { dst := some 15, op := POp.prim (Prim.bin BinOp.leq 3 false true) [Operand.tmp 14, Operand.const (Value.int IntKind.i64 12)], guard := some (11, true), hints := [] },
  { dst := some 16, op := POp.pick (Operand.tmp 11) (Operand.tmp 15) (Operand.const (Value.bool false)), guard := none, hints := [] },
  { dst := some 2, op := POp.mv (Operand.tmp 16), guard := none, hints := [] }]
def pc27_c2 : PCode := .region none false pc27_o2
def pc27_c3 : PCode := .ret
def pc27_c4 : PCode := .seq pc27_c2 pc27_c3
def pc27_c5 : PCode := .seq pc27_c1 pc27_c4
def pc27_r : List PRes := [PRes.tmp 2 []]
def pc27 : PFunc := ⟨17, pc27_r, pc27_c5⟩
def pc27_a : Ann := {
  kr := fun
    | _ => none
  ka := fun
    | _ => 0
  kh := fun
    | _ => none }
theorem pc27_ok : compFn Try.prog pc27_a Try.f27 = some pc27 := by kernel_rfl


-- 46: vedette/vedetteref3.On
def pc46_o1 : List POper := [{ dst := some 1, op := POp.box 23 (Operand.tmp 0), guard := none, hints := [] },
  { dst := some 2, op := POp.mv (Operand.const (Value.bool false)), guard := none, hints := [] }]
def pc46_c1 : PCode := .region none false pc46_o1
def pc46_o2 : List POper := [{ dst := some 3, op := POp.faddr 0 (Operand.tmp 1), guard := none, hints := [] },
  { dst := some 4, op := POp.load false 1 (Operand.tmp 3), guard := none, hints := [] },
  { dst := some 5, op := POp.prim (Prim.bin BinOp.geq 3 false true) [Operand.tmp 4, Operand.const (Value.int IntKind.i64 0)], guard := none, hints := [] },
  { dst := some 6, op := POp.mv (Operand.tmp 5), guard := none, hints := [] },
  { dst := some 7, op := POp.faddr 0 (Operand.tmp 1), guard := some (6, true), hints := [] },
  { dst := some 8, op := POp.load false 1 (Operand.tmp 7), guard := some (6, true), hints := [] },
  { dst := some 9, op := POp.prim (Prim.bin BinOp.lss 3 false true) [Operand.tmp 8, Operand.const (Value.int IntKind.i64 64)], guard := some (6, true), hints := [] },
  { dst := some 10, op := POp.pick (Operand.tmp 6) (Operand.tmp 9) (Operand.const (Value.bool false)), guard := none, hints := [] },
  { dst := some 11, op := POp.mv (Operand.tmp 10), guard := none, hints := [] },
  { dst := some 12, op := POp.faddr 1 (Operand.tmp 1), guard := some (11, true), hints := [] },
  { dst := some 13, op := POp.load false 1 (Operand.tmp 12), guard := some (11, true), hints := [] },
  { dst := some 14, op := POp.prim (Prim.bin BinOp.geq 3 false true) [Operand.tmp 13, Operand.const (Value.int IntKind.i64 0)], guard := some (11, true), hints := [] },
  { dst := some 15, op := POp.pick (Operand.tmp 11) (Operand.tmp 14) (Operand.const (Value.bool false)), guard := none, hints := [] },
  { dst := some 16, op := POp.mv (Operand.tmp 15), guard := none, hints := [] },
  { dst := some 17, op := POp.faddr 1 (Operand.tmp 1), guard := some (16, true), hints := [] },
  { dst := some 18, op := POp.load false 1 (Operand.tmp 17), guard := some (16, true), hints := [] },
  { dst := some 19, op := POp.prim (Prim.bin BinOp.lss 3 false true) [Operand.tmp 18, Operand.const (Value.int IntKind.i64 64)], guard := some (16, true), hints := [] },
  { dst := some 20, op := POp.pick (Operand.tmp 16) (Operand.tmp 19) (Operand.const (Value.bool false)), guard := none, hints := [] },
  { dst := some 2, op := POp.mv (Operand.tmp 20), guard := none, hints := [] }]
def pc46_c2 : PCode := .region none false pc46_o2
def pc46_c3 : PCode := .ret
def pc46_c4 : PCode := .seq pc46_c2 pc46_c3
def pc46_c5 : PCode := .seq pc46_c1 pc46_c4
def pc46_r : List PRes := [PRes.tmp 2 []]
def pc46 : PFunc := ⟨21, pc46_r, pc46_c5⟩
def pc46_a : Ann := {
  kr := fun
    | _ => none
  ka := fun
    | _ => 0
  kh := fun
    | _ => none }
theorem pc46_ok : compFn Try.prog pc46_a Try.f46 = some pc46 := by kernel_rfl


-- 31: vedette/vedetteref6.Is
def pc31_o1 : List POper := [{ dst := some 1, op := POp.box 28 (Operand.tmp 0), guard := none, hints := [] },
  { dst := some 2, op := POp.mv (Operand.const (Value.bool false)), guard := none, hints := [] }]
def pc31_c1 : PCode := .region none false pc31_o1
def pc31_o2 : List POper := [{ dst := some 5, op := POp.faddr 0 (Operand.tmp 1), guard := none, hints := [] },
  { dst := some 6, op := POp.load false 1 (Operand.tmp 5), guard := none, hints := [] },
  { dst := some 7, op := POp.prim (Prim.bin BinOp.geq 3 false true) [Operand.tmp 6, Operand.const (Value.int IntKind.i64 0)], guard := none, hints := [] },
  { dst := some 8, op := POp.mv (Operand.tmp 7), guard := none, hints := [] },
  { dst := some 9, op := POp.faddr 0 (Operand.tmp 1), guard := some (8, true), hints := [] },
  { dst := some 10, op := POp.load false 1 (Operand.tmp 9), guard := some (8, true), hints := [] },
  { dst := some 11, op := POp.prim (Prim.bin BinOp.leq 3 false true) [Operand.tmp 10, Operand.const (Value.int IntKind.i64 1000000)], guard := some (8, true), hints := [] },
  { dst := some 12, op := POp.pick (Operand.tmp 8) (Operand.tmp 11) (Operand.const (Value.bool false)), guard := none, hints := [] },
  { dst := some 13, op := POp.mv (Operand.tmp 12), guard := none, hints := [] },
  { dst := some 14, op := POp.faddr 1 (Operand.tmp 1), guard := some (13, true), hints := [] },
  { dst := some 15, op := POp.load true 2 (Operand.tmp 14), guard := some (13, true), hints := [] },
  { dst := some 16, op := POp.call true [[]] 46 [Operand.tmp 15], guard := some (13, true), hints := [] },
  { dst := some 17, op := POp.pick (Operand.tmp 13) (Operand.tmp 16) (Operand.const (Value.bool false)), guard := none, hints := [] },
  { dst := some 3, op := POp.mv (Operand.tmp 17), guard := none, hints := [] }]
def pc31_c2 : PCode := .region none false pc31_o2
def pc31_o3 : List POper := [{ dst := some 4, op := POp.mv (Operand.const (Value.int IntKind.i64 0)), guard := none, hints := [] }]
def pc31_c3 : PCode := .region (some ([1, 3], [1])) false pc31_o3
def pc31_o4 : List POper := [{ dst := some 18, op := POp.mv (Operand.tmp 4), guard := none, hints := [] },
  { dst := some 19, op := POp.prim (Prim.bin BinOp.lss 3 false true) [Operand.tmp 18, Operand.const (Value.int IntKind.i64 4)], guard := none, hints := [] }]
def pc31_c4 : PCode := .region (some ([1, 3, 4], [1])) false pc31_o4
def pc31_c5 : PCode := .skip
def pc31_c6 : PCode := .exit 0
def pc31_c7 : PCode := .cond (Operand.tmp 19) pc31_c5 pc31_c6
def pc31_c8 : PCode := .seq pc31_c4 pc31_c7
def pc31_o9 : List POper := [{ dst := some 22, op := POp.mv (Operand.tmp 3), guard := none, hints := [] },
  { dst := some 23, op := POp.mv (Operand.tmp 22), guard := none, hints := [] },
  { dst := some 24, op := POp.mv (Operand.tmp 4), guard := some (23, true), hints := [] },
  { dst := some 25, op := POp.faddr 3 (Operand.tmp 1), guard := some (23, true), hints := [] },
  { dst := some 26, op := POp.iaddrA 4 2 (Operand.tmp 25) (Operand.tmp 24), guard := some (23, true), hints := [] },
  { dst := some 27, op := POp.load true 2 (Operand.tmp 26), guard := some (23, true), hints := [] },
  { dst := some 28, op := POp.call true [[]] 27 [Operand.tmp 27], guard := some (23, true), hints := [] },
  { dst := some 29, op := POp.pick (Operand.tmp 23) (Operand.tmp 28) (Operand.const (Value.bool false)), guard := none, hints := [] },
  { dst := some 3, op := POp.mv (Operand.tmp 29), guard := none, hints := [] }]
def pc31_c9 : PCode := .region none false pc31_o9
def pc31_c10 : PCode := .block 1 pc31_c9
def pc31_o11 : List POper := [{ dst := some 20, op := POp.mv (Operand.tmp 4), guard := none, hints := [] },
  { dst := some 21, op := POp.prim (Prim.bin BinOp.add 3 false true) [Operand.tmp 20, Operand.const (Value.int IntKind.i64 1)], guard := none, hints := [] },
  { dst := some 4, op := POp.mv (Operand.tmp 21), guard := none, hints := [] }]
def pc31_c11 : PCode := .region none false pc31_o11
def pc31_c12 : PCode := .seq pc31_c10 pc31_c11
def pc31_c13 : PCode := .seq pc31_c8 pc31_c12
def pc31_c14 : PCode := .loop pc31_c13
def pc31_c15 : PCode := .block 0 pc31_c14
def pc31_c16 : PCode := .seq pc31_c3 pc31_c15
def pc31_o17 : List POper := [{ dst := some 30, op := POp.mv (Operand.tmp 3), guard := none, hints := [] },
  { dst := some 2, op := POp.mv (Operand.tmp 30), guard := none, hints := [] }]
def pc31_c17 : PCode := .region none false pc31_o17
def pc31_c18 : PCode := .ret
def pc31_c19 : PCode := .seq pc31_c17 pc31_c18
def pc31_c20 : PCode := .seq pc31_c16 pc31_c19
def pc31_c21 : PCode := .seq pc31_c2 pc31_c20
def pc31_c22 : PCode := .seq pc31_c1 pc31_c21
def pc31_r : List PRes := [PRes.tmp 2 []]
def pc31 : PFunc := ⟨31, pc31_r, pc31_c22⟩
def pc31_a : Ann := {
  kr := fun
    | 2 => some ([1, 3], [1])
    | 3 => some ([1, 3, 4], [1])
    | _ => none
  ka := fun
    | _ => 0
  kh := fun
    | _ => none }
theorem pc31_ok : compFn Try.prog pc31_a Try.f31 = some pc31 := by kernel_rfl


-- 5: vedette/vedettelaw6.FieldsBack
def pc5_o1 : List POper := [{ dst := some 3, op := POp.box 28 (Operand.tmp 0), guard := none, hints := [] },
  { dst := some 4, op := POp.box 28 (Operand.tmp 1), guard := none, hints := [] },
  { dst := some 6, op := POp.mv (Operand.const (Value.bool false)), guard := none, hints := [] }]
def pc5_c1 : PCode := .region none false pc5_o1
def pc5_o2 : List POper := [{ dst := some 20, op := POp.call true [] 14 [], guard := none, hints := [] },
  { dst := some 21, op := POp.prim (Prim.un UnOp.not) [Operand.tmp 20], guard := none, hints := [] }]
def pc5_c2 : PCode := .region none false pc5_o2
def pc5_o3 : List POper := [{ dst := some 6, op := POp.mv (Operand.const (Value.bool false)), guard := none, hints := [] }]
def pc5_c3 : PCode := .region none false pc5_o3
def pc5_c4 : PCode := .ret
def pc5_c5 : PCode := .seq pc5_c3 pc5_c4
def pc5_c6 : PCode := .skip
def pc5_c7 : PCode := .cond (Operand.tmp 21) pc5_c5 pc5_c6
def pc5_c8 : PCode := .seq pc5_c2 pc5_c7
def pc5_o9 : List POper := [{ dst := some 22, op := POp.load true 11 (Operand.tmp 3), guard := none, hints := [] },
  { dst := some 23, op := POp.call true [[]] 15 [Operand.tmp 22], guard := none, hints := [] },
  { dst := some 24, op := POp.prim (Prim.un UnOp.not) [Operand.tmp 23], guard := none, hints := [] },
  { dst := some 25, op := POp.mv (Operand.tmp 24), guard := none, hints := [] },
  { dst := some 26, op := POp.load true 11 (Operand.tmp 4), guard := some (25, false), hints := [] },
  { dst := some 27, op := POp.call true [[]] 15 [Operand.tmp 26], guard := some (25, false), hints := [] },
  { dst := some 28, op := POp.prim (Prim.un UnOp.not) [Operand.tmp 27], guard := some (25, false), hints := [] },
  { dst := some 29, op := POp.pick (Operand.tmp 25) (Operand.const (Value.bool true)) (Operand.tmp 28), guard := none, hints := [] },
  { dst := some 30, op := POp.mv (Operand.tmp 29), guard := none, hints := [] },
  { dst := some 31, op := POp.mv (Operand.tmp 2), guard := some (30, false), hints := [] },
  { dst := some 32, op := POp.prim (Prim.len 9) [Operand.tmp 31], guard := some (30, false), hints := [] },
  { dst := some 33, op := POp.prim (Prim.bin BinOp.gtr 3 false true) [Operand.tmp 32, Operand.const (Value.int IntKind.i64 50)], guard := some (30, false), hints := [] },
  { dst := some 34, op := POp.pick (Operand.tmp 30) (Operand.const (Value.bool true)) (Operand.tmp 33), guard := none, hints := [] },
  { dst := some 35, op := POp.mv (Operand.tmp 34), guard := none, hints := [] },
  { dst := some 36, op := POp.load true 11 (Operand.tmp 3), guard := some (35, false), hints := [] },
  { dst := some 37, op := POp.call true [[]] 31 [Operand.tmp 36], guard := some (35, false), hints := [] },
  { dst := some 38, op := POp.prim (Prim.un UnOp.not) [Operand.tmp 37], guard := some (35, false), hints := [] },
  { dst := some 39, op := POp.pick (Operand.tmp 35) (Operand.const (Value.bool true)) (Operand.tmp 38), guard := none, hints := [] },
  { dst := some 40, op := POp.mv (Operand.tmp 39), guard := none, hints := [] },
  { dst := some 41, op := POp.load true 11 (Operand.tmp 4), guard := some (40, false), hints := [] },
  { dst := some 42, op := POp.call true [[]] 31 [Operand.tmp 41], guard := some (40, false), hints := [] },
  { dst := some 43, op := POp.prim (Prim.un UnOp.not) [Operand.tmp 42], guard := some (40, false), hints := [] },
  { dst := some 44, op := POp.pick (Operand.tmp 40) (Operand.const (Value.bool true)) (Operand.tmp 43), guard := none, hints := [] }]
def pc5_c9 : PCode := .region none false pc5_o9
def pc5_o10 : List POper := [{ dst := some 6, op := POp.mv (Operand.const (Value.bool true)), guard := none, hints := [] }]
def pc5_c10 : PCode := .region none false pc5_o10
def pc5_c11 : PCode := .ret
def pc5_c12 : PCode := .seq pc5_c10 pc5_c11
def pc5_c13 : PCode := .skip
def pc5_c14 : PCode := .cond (Operand.tmp 44) pc5_c12 pc5_c13
def pc5_c15 : PCode := .seq pc5_c9 pc5_c14
def pc5_o16 : List POper := [{ dst := some 45, op := POp.load true 11 (Operand.tmp 4), guard := none, hints := [] },
  { dst := some 7, op := POp.alloc 28 (Value.agg { toList := [Value.int IntKind.i64 0, Value.int IntKind.i64 0, Value.int IntKind.i64 0, Value.int IntKind.i64 0, Value.string { data := { toList := [] } }, Value.int IntKind.i64 0, Value.string { data := { toList := [] } }, Value.int IntKind.i64 0, Value.string { data := { toList := [] } }, Value.int IntKind.i64 0, Value.string { data := { toList := [] } }] }), guard := none, hints := [] },
  { dst := none, op := POp.store 11 (Operand.tmp 7) (Operand.tmp 45), guard := none, hints := [] }]
def pc5_c16 : PCode := .region none false pc5_o16
def pc5_o17 : List POper := [{ dst := some 46, op := POp.faddr 0 (Operand.tmp 3), guard := none, hints := [] },
  { dst := some 47, op := POp.load false 1 (Operand.tmp 46), guard := none, hints := [] },
  { dst := some 48, op := POp.faddr 0 (Operand.tmp 7), guard := none, hints := [] },
  { dst := none, op := POp.store 1 (Operand.tmp 48) (Operand.tmp 47), guard := none, hints := [] }]
def pc5_c17 : PCode := .region none false pc5_o17
def pc5_o18 : List POper := [{ dst := some 50, op := POp.load true 11 (Operand.tmp 3), guard := none, hints := [] },
  { dst := some 51, op := POp.load true 11 (Operand.tmp 7), guard := none, hints := [] },
  { dst := some 52, op := POp.call true [[], []] 18 [Operand.tmp 50, Operand.tmp 51], guard := none, hints := [] },
  { dst := some 49, op := POp.mv (Operand.tmp 52), guard := none, hints := [] },
  { dst := some 53, op := POp.ext (Operand.tmp 49) 0, guard := none, hints := [] },
  { dst := some 54, op := POp.ext (Operand.tmp 49) 1, guard := none, hints := [] },
  { dst := some 8, op := POp.alloc 30 (Value.agg { toList := [Value.int IntKind.i64 0, Value.int IntKind.u8 0, Value.int IntKind.i64 0, Value.int IntKind.i64 0, Value.int IntKind.i64 0, Value.string { data := { toList := [] } }, Value.int IntKind.i64 0, Value.string { data := { toList := [] } }, Value.int IntKind.i64 0, Value.string { data := { toList := [] } }, Value.int IntKind.i64 0, Value.string { data := { toList := [] } }] }), guard := none, hints := [] },
  { dst := none, op := POp.store 12 (Operand.tmp 8) (Operand.tmp 53), guard := none, hints := [] },
  { dst := some 9, op := POp.mv (Operand.tmp 54), guard := none, hints := [] }]
def pc5_c18 : PCode := .region none false pc5_o18
def pc5_o19 : List POper := [{ dst := some 55, op := POp.mv (Operand.tmp 9), guard := none, hints := [] },
  { dst := some 56, op := POp.prim (Prim.un UnOp.not) [Operand.tmp 55], guard := none, hints := [] }]
def pc5_c19 : PCode := .region none false pc5_o19
def pc5_o20 : List POper := [{ dst := some 57, op := POp.load true 11 (Operand.tmp 3), guard := none, hints := [] },
  { dst := some 58, op := POp.load true 11 (Operand.tmp 7), guard := none, hints := [] },
  { dst := some 59, op := POp.prim (Prim.bin BinOp.eql 28 false false) [Operand.tmp 57, Operand.tmp 58], guard := none, hints := [] },
  { dst := some 6, op := POp.mv (Operand.tmp 59), guard := none, hints := [] }]
def pc5_c20 : PCode := .region none false pc5_o20
def pc5_c21 : PCode := .ret
def pc5_c22 : PCode := .seq pc5_c20 pc5_c21
def pc5_c23 : PCode := .skip
def pc5_c24 : PCode := .cond (Operand.tmp 56) pc5_c22 pc5_c23
def pc5_c25 : PCode := .seq pc5_c19 pc5_c24
def pc5_o26 : List POper := [{ dst := some 61, op := POp.load true 12 (Operand.tmp 8), guard := none, hints := [] },
  { dst := some 62, op := POp.call true [[]] 20 [Operand.tmp 61], guard := none, hints := [] },
  { dst := some 60, op := POp.mv (Operand.tmp 62), guard := none, hints := [] },
  { dst := some 63, op := POp.ext (Operand.tmp 60) 0, guard := none, hints := [] },
  { dst := some 64, op := POp.ext (Operand.tmp 60) 1, guard := none, hints := [] },
  { dst := some 10, op := POp.mv (Operand.tmp 63), guard := none, hints := [] },
  { dst := some 11, op := POp.mv (Operand.tmp 64), guard := none, hints := [] }]
def pc5_c26 : PCode := .region none false pc5_o26
def pc5_o27 : List POper := [{ dst := some 66, op := POp.mv (Operand.tmp 10), guard := none, hints := [] },
  { dst := some 67, op := POp.mv (Operand.tmp 2), guard := none, hints := [] },
  { dst := some 68, op := POp.prim (Prim.bin BinOp.add 9 false false) [Operand.tmp 66, Operand.tmp 67], guard := none, hints := [] },
  { dst := some 69, op := POp.call true [[]] 29 [Operand.tmp 68], guard := none, hints := [] },
  { dst := some 65, op := POp.mv (Operand.tmp 69), guard := none, hints := [] },
  { dst := some 70, op := POp.ext (Operand.tmp 65) 0, guard := none, hints := [] },
  { dst := some 71, op := POp.ext (Operand.tmp 65) 1, guard := none, hints := [] },
  { dst := some 72, op := POp.ext (Operand.tmp 65) 2, guard := none, hints := [] },
  { dst := some 12, op := POp.alloc 30 (Value.agg { toList := [Value.int IntKind.i64 0, Value.int IntKind.u8 0, Value.int IntKind.i64 0, Value.int IntKind.i64 0, Value.int IntKind.i64 0, Value.string { data := { toList := [] } }, Value.int IntKind.i64 0, Value.string { data := { toList := [] } }, Value.int IntKind.i64 0, Value.string { data := { toList := [] } }, Value.int IntKind.i64 0, Value.string { data := { toList := [] } }] }), guard := none, hints := [] },
  { dst := none, op := POp.store 12 (Operand.tmp 12) (Operand.tmp 70), guard := none, hints := [] },
  { dst := some 13, op := POp.mv (Operand.tmp 71), guard := none, hints := [] },
  { dst := some 14, op := POp.mv (Operand.tmp 72), guard := none, hints := [] }]
def pc5_c27 : PCode := .region none false pc5_o27
def pc5_o28 : List POper := [{ dst := some 73, op := POp.load true 11 (Operand.tmp 3), guard := none, hints := [] },
  { dst := some 74, op := POp.load true 12 (Operand.tmp 12), guard := none, hints := [] },
  { dst := some 75, op := POp.call true [[], []] 23 [Operand.tmp 73, Operand.tmp 74], guard := none, hints := [] },
  { dst := some 15, op := POp.alloc 28 (Value.agg { toList := [Value.int IntKind.i64 0, Value.int IntKind.i64 0, Value.int IntKind.i64 0, Value.int IntKind.i64 0, Value.string { data := { toList := [] } }, Value.int IntKind.i64 0, Value.string { data := { toList := [] } }, Value.int IntKind.i64 0, Value.string { data := { toList := [] } }, Value.int IntKind.i64 0, Value.string { data := { toList := [] } }] }), guard := none, hints := [] },
  { dst := none, op := POp.store 11 (Operand.tmp 15) (Operand.tmp 75), guard := none, hints := [] }]
def pc5_c28 : PCode := .region none false pc5_o28
def pc5_o29 : List POper := [{ dst := some 77, op := POp.load true 11 (Operand.tmp 3), guard := none, hints := [] },
  { dst := some 78, op := POp.load true 11 (Operand.tmp 15), guard := none, hints := [] },
  { dst := some 79, op := POp.call true [[], []] 18 [Operand.tmp 77, Operand.tmp 78], guard := none, hints := [] },
  { dst := some 76, op := POp.mv (Operand.tmp 79), guard := none, hints := [] },
  { dst := some 80, op := POp.ext (Operand.tmp 76) 0, guard := none, hints := [] },
  { dst := some 81, op := POp.ext (Operand.tmp 76) 1, guard := none, hints := [] },
  { dst := some 16, op := POp.alloc 30 (Value.agg { toList := [Value.int IntKind.i64 0, Value.int IntKind.u8 0, Value.int IntKind.i64 0, Value.int IntKind.i64 0, Value.int IntKind.i64 0, Value.string { data := { toList := [] } }, Value.int IntKind.i64 0, Value.string { data := { toList := [] } }, Value.int IntKind.i64 0, Value.string { data := { toList := [] } }, Value.int IntKind.i64 0, Value.string { data := { toList := [] } }] }), guard := none, hints := [] },
  { dst := none, op := POp.store 12 (Operand.tmp 16) (Operand.tmp 80), guard := none, hints := [] },
  { dst := some 17, op := POp.mv (Operand.tmp 81), guard := none, hints := [] }]
def pc5_c29 : PCode := .region none false pc5_o29
def pc5_o30 : List POper := [{ dst := some 83, op := POp.load true 11 (Operand.tmp 7), guard := none, hints := [] },
  { dst := some 84, op := POp.load true 11 (Operand.tmp 15), guard := none, hints := [] },
  { dst := some 85, op := POp.call true [[], []] 18 [Operand.tmp 83, Operand.tmp 84], guard := none, hints := [] },
  { dst := some 82, op := POp.mv (Operand.tmp 85), guard := none, hints := [] },
  { dst := some 86, op := POp.ext (Operand.tmp 82) 0, guard := none, hints := [] },
  { dst := some 87, op := POp.ext (Operand.tmp 82) 1, guard := none, hints := [] },
  { dst := some 18, op := POp.alloc 30 (Value.agg { toList := [Value.int IntKind.i64 0, Value.int IntKind.u8 0, Value.int IntKind.i64 0, Value.int IntKind.i64 0, Value.int IntKind.i64 0, Value.string { data := { toList := [] } }, Value.int IntKind.i64 0, Value.string { data := { toList := [] } }, Value.int IntKind.i64 0, Value.string { data := { toList := [] } }, Value.int IntKind.i64 0, Value.string { data := { toList := [] } }] }), guard := none, hints := [] },
  { dst := none, op := POp.store 12 (Operand.tmp 18) (Operand.tmp 86), guard := none, hints := [] },
  { dst := some 19, op := POp.mv (Operand.tmp 87), guard := none, hints := [] }]
def pc5_c30 : PCode := .region none false pc5_o30
def pc5_o31 : List POper := [{ dst := some 88, op := POp.mv (Operand.tmp 11), guard := none, hints := [] },
  { dst := some 89, op := POp.prim (Prim.bin BinOp.eql 37 false true) [Operand.tmp 88, Operand.const (Value.int IntKind.i64 0)], guard := none, hints := [] },
  { dst := some 90, op := POp.mv (Operand.tmp 89), guard := none, hints := [] },
  { dst := some 91, op := POp.mv (Operand.tmp 14), guard := some (90, true), hints := [] },
  { dst := some 92, op := POp.prim (Prim.bin BinOp.eql 37 false true) [Operand.tmp 91, Operand.const (Value.int IntKind.i64 0)], guard := some (90, true), hints := [] },
  { dst := some 93, op := POp.pick (Operand.tmp 90) (Operand.tmp 92) (Operand.const (Value.bool false)), guard := none, hints := [] },
  { dst := some 94, op := POp.mv (Operand.tmp 93), guard := none, hints := [] },
  { dst := some 95, op := POp.mv (Operand.tmp 13), guard := some (94, true), hints := [] },
  { dst := some 96, op := POp.mv (Operand.tmp 10), guard := some (94, true), hints := [] },
  { dst := some 97, op := POp.prim (Prim.len 9) [Operand.tmp 96], guard := some (94, true), hints := [] },
  { dst := some 98, op := POp.prim (Prim.bin BinOp.eql 3 false false) [Operand.tmp 95, Operand.tmp 97], guard := some (94, true), hints := [] },
  { dst := some 99, op := POp.pick (Operand.tmp 94) (Operand.tmp 98) (Operand.const (Value.bool false)), guard := none, hints := [] },
  { dst := some 100, op := POp.mv (Operand.tmp 99), guard := none, hints := [] },
  { dst := some 101, op := POp.load true 11 (Operand.tmp 15), guard := some (100, true), hints := [] },
  { dst := some 102, op := POp.load true 11 (Operand.tmp 7), guard := some (100, true), hints := [] },
  { dst := some 103, op := POp.prim (Prim.bin BinOp.eql 28 false false) [Operand.tmp 101, Operand.tmp 102], guard := some (100, true), hints := [] },
  { dst := some 104, op := POp.pick (Operand.tmp 100) (Operand.tmp 103) (Operand.const (Value.bool false)), guard := none, hints := [] },
  { dst := some 105, op := POp.mv (Operand.tmp 104), guard := none, hints := [] },
  { dst := some 106, op := POp.mv (Operand.tmp 17), guard := some (105, true), hints := [] },
  { dst := some 107, op := POp.pick (Operand.tmp 105) (Operand.tmp 106) (Operand.const (Value.bool false)), guard := none, hints := [] },
  { dst := some 108, op := POp.mv (Operand.tmp 107), guard := none, hints := [] },
  { dst := some 109, op := POp.load true 12 (Operand.tmp 16), guard := some (108, true), hints := [] },
  { dst := some 110, op := POp.load true 12 (Operand.tmp 8), guard := some (108, true), hints := [] },
  { dst := some 111, op := POp.prim (Prim.bin BinOp.eql 30 false false) [Operand.tmp 109, Operand.tmp 110], guard := some (108, true), hints := [] },
  { dst := some 112, op := POp.pick (Operand.tmp 108) (Operand.tmp 111) (Operand.const (Value.bool false)), guard := none, hints := [] },
  { dst := some 113, op := POp.mv (Operand.tmp 112), guard := none, hints := [] },
  { dst := some 114, op := POp.mv (Operand.tmp 19), guard := some (113, true), hints := [] },
  { dst := some 115, op := POp.prim (Prim.un UnOp.not) [Operand.tmp 114], guard := some (113, true), hints := [] },
  { dst := some 116, op := POp.pick (Operand.tmp 113) (Operand.tmp 115) (Operand.const (Value.bool false)), guard := none, hints := [] },
  { dst := some 117, op := POp.mv (Operand.tmp 116), guard := none, hints := [] },
  { dst := some 118, op := POp.faddr 0 (Operand.tmp 8), guard := some (117, true), hints := [] },
  { dst := some 119, op := POp.load false 1 (Operand.tmp 118), guard := some (117, true), hints := [] },
  { dst := some 120, op := POp.faddr 0 (Operand.tmp 3), guard := some (117, true), hints := [] },
  { dst := some 121, op := POp.load false 1 (Operand.tmp 120), guard := some (117, true), hints := [] },
  { dst := some 122, op := POp.prim (Prim.bin BinOp.eql 3 false false) [Operand.tmp 119, Operand.tmp 121], guard := some (117, true), hints := [] },
  { dst := some 123, op := POp.pick (Operand.tmp 117) (Operand.tmp 122) (Operand.const (Value.bool false)), guard := none, hints := [] },
  { dst := some 6, op := POp.mv (Operand.tmp 123), guard := none, hints := [] }]
def pc5_c31 : PCode := .region none false pc5_o31
def pc5_c32 : PCode := .ret
def pc5_c33 : PCode := .seq pc5_c31 pc5_c32
def pc5_c34 : PCode := .seq pc5_c30 pc5_c33
def pc5_c35 : PCode := .seq pc5_c29 pc5_c34
def pc5_c36 : PCode := .seq pc5_c28 pc5_c35
def pc5_c37 : PCode := .seq pc5_c27 pc5_c36
def pc5_c38 : PCode := .seq pc5_c26 pc5_c37
def pc5_c39 : PCode := .seq pc5_c25 pc5_c38
def pc5_c40 : PCode := .seq pc5_c18 pc5_c39
def pc5_c41 : PCode := .seq pc5_c17 pc5_c40
def pc5_c42 : PCode := .seq pc5_c16 pc5_c41
def pc5_c43 : PCode := .seq pc5_c15 pc5_c42
def pc5_c44 : PCode := .seq pc5_c8 pc5_c43
def pc5_c45 : PCode := .seq pc5_c1 pc5_c44
def pc5_r : List PRes := [PRes.tmp 6 []]
def pc5 : PFunc := ⟨124, pc5_r, pc5_c45⟩
def pc5_a : Ann := {
  kr := fun
    | _ => none
  ka := fun
    | _ => 0
  kh := fun
    | _ => none }
theorem pc5_ok : compFn Try.prog pc5_a Try.f5 = some pc5 := by kernel_rfl


-- 19: vedette/vedetteref6.Diff
def pc19_o1 : List POper := [{ dst := some 2, op := POp.box 28 (Operand.tmp 0), guard := none, hints := [] },
  { dst := some 3, op := POp.box 28 (Operand.tmp 1), guard := none, hints := [] },
  { dst := some 4, op := POp.alloc 30 (Value.agg { toList := [Value.int IntKind.i64 0, Value.int IntKind.u8 0, Value.int IntKind.i64 0, Value.int IntKind.i64 0, Value.int IntKind.i64 0, Value.string { data := { toList := [] } }, Value.int IntKind.i64 0, Value.string { data := { toList := [] } }, Value.int IntKind.i64 0, Value.string { data := { toList := [] } }, Value.int IntKind.i64 0, Value.string { data := { toList := [] } }] }), guard := none, hints := [] },
  { dst := some 5, op := POp.mv (Operand.const (Value.bool false)), guard := none, hints := [] }]
def pc19_c1 : PCode := .region none false pc19_o1
def pc19_o2 : List POper := [{ dst := some 8, op := POp.faddr 0 (Operand.tmp 3), guard := none, hints := [] },
  { dst := some 9, op := POp.load false 1 (Operand.tmp 8), guard := none, hints := [] },
  { dst := some 10, op := POp.build (Value.agg { toList := [Value.int IntKind.i64 0, Value.int IntKind.u8 0, Value.int IntKind.i64 0, Value.int IntKind.i64 0, Value.int IntKind.i64 0, Value.string { data := { toList := [] } }, Value.int IntKind.i64 0, Value.string { data := { toList := [] } }, Value.int IntKind.i64 0, Value.string { data := { toList := [] } }, Value.int IntKind.i64 0, Value.string { data := { toList := [] } }] }) [(0, 1, Operand.tmp 9)], guard := none, hints := [] },
  { dst := some 6, op := POp.alloc 30 (Value.agg { toList := [Value.int IntKind.i64 0, Value.int IntKind.u8 0, Value.int IntKind.i64 0, Value.int IntKind.i64 0, Value.int IntKind.i64 0, Value.string { data := { toList := [] } }, Value.int IntKind.i64 0, Value.string { data := { toList := [] } }, Value.int IntKind.i64 0, Value.string { data := { toList := [] } }, Value.int IntKind.i64 0, Value.string { data := { toList := [] } }] }), guard := none, hints := [] },
  { dst := none, op := POp.store 12 (Operand.tmp 6) (Operand.tmp 10), guard := none, hints := [] }]
def pc19_c2 : PCode := .region none false pc19_o2
def pc19_o3 : List POper := [{ dst := some 11, op := POp.faddr 1 (Operand.tmp 2), guard := none, hints := [] },
  { dst := some 12, op := POp.load true 2 (Operand.tmp 11), guard := none, hints := [] },
  { dst := some 13, op := POp.faddr 1 (Operand.tmp 3), guard := none, hints := [] },
  { dst := some 14, op := POp.load true 2 (Operand.tmp 13), guard := none, hints := [] },
  { dst := some 15, op := POp.prim (Prim.bin BinOp.neq 23 false false) [Operand.tmp 12, Operand.tmp 14], guard := none, hints := [] }]
def pc19_c3 : PCode := .region none false pc19_o3
def pc19_o4 : List POper := [{ dst := some 16, op := POp.faddr 1 (Operand.tmp 3), guard := none, hints := [(3, Hint.at_ 3 0)] },
  { dst := some 17, op := POp.load true 2 (Operand.tmp 16), guard := none, hints := [(16, Hint.at_ 3 1)] },
  { dst := some 18, op := POp.faddr 1 (Operand.tmp 6), guard := none, hints := [(6, Hint.at_ 6 0)] },
  { dst := none, op := POp.store 1 (Operand.tmp 18) (Operand.const (Value.int IntKind.u8 1)), guard := none, hints := [(18, Hint.at_ 6 1)] },
  { dst := some 19, op := POp.faddr 2 (Operand.tmp 6), guard := none, hints := [(6, Hint.at_ 6 0)] },
  { dst := none, op := POp.store 2 (Operand.tmp 19) (Operand.tmp 17), guard := none, hints := [(19, Hint.at_ 6 2), (17, Hint.imm)] }]
def pc19_c4 : PCode := .region none true pc19_o4
def pc19_c5 : PCode := .skip
def pc19_c6 : PCode := .cond (Operand.tmp 15) pc19_c4 pc19_c5
def pc19_c7 : PCode := .seq pc19_c3 pc19_c6
def pc19_o8 : List POper := [{ dst := some 7, op := POp.mv (Operand.const (Value.int IntKind.i64 0)), guard := none, hints := [] }]
def pc19_c8 : PCode := .region (some ([2, 3, 4, 6], [2, 3, 4, 6])) false pc19_o8
def pc19_o9 : List POper := [{ dst := some 20, op := POp.mv (Operand.tmp 7), guard := none, hints := [] },
  { dst := some 21, op := POp.prim (Prim.bin BinOp.lss 3 false true) [Operand.tmp 20, Operand.const (Value.int IntKind.i64 4)], guard := none, hints := [] }]
def pc19_c9 : PCode := .region (some ([2, 3, 4, 6, 7], [2, 3, 4, 6])) false pc19_o9
def pc19_c10 : PCode := .skip
def pc19_c11 : PCode := .exit 0
def pc19_c12 : PCode := .cond (Operand.tmp 21) pc19_c10 pc19_c11
def pc19_c13 : PCode := .seq pc19_c9 pc19_c12
def pc19_o14 : List POper := [{ dst := some 24, op := POp.mv (Operand.tmp 7), guard := none, hints := [(7, Hint.imm)] },
  { dst := some 25, op := POp.faddr 3 (Operand.tmp 2), guard := none, hints := [(2, Hint.at_ 2 0)] },
  { dst := some 26, op := POp.iaddrA 4 2 (Operand.tmp 25) (Operand.tmp 24), guard := none, hints := [(25, Hint.at_ 2 3), (24, Hint.imm)] },
  { dst := some 27, op := POp.load true 2 (Operand.tmp 26), guard := none, hints := [(26, Hint.obj 2)] },
  { dst := some 28, op := POp.mv (Operand.tmp 7), guard := none, hints := [(7, Hint.imm)] },
  { dst := some 29, op := POp.faddr 3 (Operand.tmp 3), guard := none, hints := [(3, Hint.at_ 3 0)] },
  { dst := some 30, op := POp.iaddrA 4 2 (Operand.tmp 29) (Operand.tmp 28), guard := none, hints := [(29, Hint.at_ 3 3), (28, Hint.imm)] },
  { dst := some 31, op := POp.load true 2 (Operand.tmp 30), guard := none, hints := [(30, Hint.obj 3)] },
  { dst := some 32, op := POp.prim (Prim.bin BinOp.neq 25 false false) [Operand.tmp 27, Operand.tmp 31], guard := none, hints := [(27, Hint.imm), (31, Hint.imm)] }]
def pc19_c14 : PCode := .region none true pc19_o14
def pc19_o15 : List POper := [{ dst := some 33, op := POp.faddr 1 (Operand.tmp 6), guard := none, hints := [] },
  { dst := some 34, op := POp.load false 1 (Operand.tmp 33), guard := none, hints := [] },
  { dst := some 35, op := POp.mv (Operand.tmp 7), guard := none, hints := [] },
  { dst := some 36, op := POp.prim (Prim.conv 3 51) [Operand.tmp 35], guard := none, hints := [] },
  { dst := some 37, op := POp.prim (Prim.bin BinOp.shl 5 true false) [Operand.const (Value.int IntKind.u8 2), Operand.tmp 36], guard := none, hints := [] },
  { dst := some 38, op := POp.prim (Prim.bin BinOp.or 5 false false) [Operand.tmp 34, Operand.tmp 37], guard := none, hints := [] },
  { dst := some 39, op := POp.faddr 1 (Operand.tmp 6), guard := none, hints := [] },
  { dst := none, op := POp.store 1 (Operand.tmp 39) (Operand.tmp 38), guard := none, hints := [] }]
def pc19_c15 : PCode := .region none false pc19_o15
def pc19_o16 : List POper := [{ dst := some 40, op := POp.mv (Operand.tmp 7), guard := none, hints := [] },
  { dst := some 41, op := POp.mv (Operand.tmp 7), guard := none, hints := [] },
  { dst := some 42, op := POp.faddr 3 (Operand.tmp 3), guard := none, hints := [] },
  { dst := some 43, op := POp.iaddrA 4 2 (Operand.tmp 42) (Operand.tmp 41), guard := none, hints := [] },
  { dst := some 44, op := POp.load true 2 (Operand.tmp 43), guard := none, hints := [] },
  { dst := some 45, op := POp.faddr 4 (Operand.tmp 6), guard := none, hints := [] },
  { dst := some 46, op := POp.iaddrA 4 2 (Operand.tmp 45) (Operand.tmp 40), guard := none, hints := [] },
  { dst := none, op := POp.store 2 (Operand.tmp 46) (Operand.tmp 44), guard := none, hints := [] }]
def pc19_c16 : PCode := .region none false pc19_o16
def pc19_c17 : PCode := .seq pc19_c15 pc19_c16
def pc19_c18 : PCode := .skip
def pc19_c19 : PCode := .cond (Operand.tmp 32) pc19_c17 pc19_c18
def pc19_c20 : PCode := .seq pc19_c14 pc19_c19
def pc19_c21 : PCode := .block 1 pc19_c20
def pc19_o22 : List POper := [{ dst := some 22, op := POp.mv (Operand.tmp 7), guard := none, hints := [] },
  { dst := some 23, op := POp.prim (Prim.bin BinOp.add 3 false true) [Operand.tmp 22, Operand.const (Value.int IntKind.i64 1)], guard := none, hints := [] },
  { dst := some 7, op := POp.mv (Operand.tmp 23), guard := none, hints := [] }]
def pc19_c22 : PCode := .region none false pc19_o22
def pc19_c23 : PCode := .seq pc19_c21 pc19_c22
def pc19_c24 : PCode := .seq pc19_c13 pc19_c23
def pc19_c25 : PCode := .loop pc19_c24
def pc19_c26 : PCode := .block 0 pc19_c25
def pc19_c27 : PCode := .seq pc19_c8 pc19_c26
def pc19_o28 : List POper := [{ dst := some 47, op := POp.load true 12 (Operand.tmp 6), guard := none, hints := [(6, Hint.at_ 6 0)] },
  { dst := some 48, op := POp.faddr 1 (Operand.tmp 6), guard := none, hints := [(6, Hint.at_ 6 0)] },
  { dst := some 49, op := POp.load false 1 (Operand.tmp 48), guard := none, hints := [(48, Hint.at_ 6 1)] },
  { dst := some 50, op := POp.prim (Prim.bin BinOp.neq 5 false true) [Operand.tmp 49, Operand.const (Value.int IntKind.u8 0)], guard := none, hints := [(49, Hint.imm)] },
  { dst := none, op := POp.store 12 (Operand.tmp 4) (Operand.tmp 47), guard := none, hints := [(4, Hint.at_ 4 0), (47, Hint.imm)] },
  { dst := some 5, op := POp.mv (Operand.tmp 50), guard := none, hints := [(50, Hint.imm)] }]
def pc19_c28 : PCode := .region none true pc19_o28
def pc19_c29 : PCode := .ret
def pc19_c30 : PCode := .seq pc19_c28 pc19_c29
def pc19_c31 : PCode := .seq pc19_c27 pc19_c30
def pc19_c32 : PCode := .seq pc19_c7 pc19_c31
def pc19_c33 : PCode := .seq pc19_c2 pc19_c32
def pc19_c34 : PCode := .seq pc19_c1 pc19_c33
def pc19_r : List PRes := [PRes.cell 4 true 12 [], PRes.tmp 5 []]
def pc19 : PFunc := ⟨51, pc19_r, pc19_c34⟩
def pc19_a : Ann := {
  kr := fun
    | 4 => some ([2, 3, 4, 6], [2, 3, 4, 6])
    | 5 => some ([2, 3, 4, 6, 7], [2, 3, 4, 6])
    | _ => none
  ka := fun
    | _ => 0
  kh := fun
    | 2 => some (Hint.at_ 2 0)
    | 3 => some (Hint.at_ 3 0)
    | 4 => some (Hint.at_ 4 0)
    | 6 => some (Hint.at_ 6 0)
    | 7 => some (Hint.imm)
    | 16 => some (Hint.at_ 3 1)
    | 17 => some (Hint.imm)
    | 18 => some (Hint.at_ 6 1)
    | 19 => some (Hint.at_ 6 2)
    | 24 => some (Hint.imm)
    | 25 => some (Hint.at_ 2 3)
    | 26 => some (Hint.obj 2)
    | 27 => some (Hint.imm)
    | 28 => some (Hint.imm)
    | 29 => some (Hint.at_ 3 3)
    | 30 => some (Hint.obj 3)
    | 31 => some (Hint.imm)
    | 47 => some (Hint.imm)
    | 48 => some (Hint.at_ 6 1)
    | 49 => some (Hint.imm)
    | 50 => some (Hint.imm)
    | _ => none }
theorem pc19_ok : compFn Try.prog pc19_a Try.f19 = some pc19 := by kernel_rfl


-- 21: vedette/vedetteref6.IsDelta
def pc21_o1 : List POper := [{ dst := some 1, op := POp.box 30 (Operand.tmp 0), guard := none, hints := [] },
  { dst := some 2, op := POp.mv (Operand.const (Value.bool false)), guard := none, hints := [] }]
def pc21_c1 : PCode := .region none false pc21_o1
def pc21_o2 : List POper := [{ dst := some 4, op := POp.faddr 0 (Operand.tmp 1), guard := none, hints := [] },
  { dst := some 5, op := POp.load false 1 (Operand.tmp 4), guard := none, hints := [] },
  { dst := some 6, op := POp.prim (Prim.bin BinOp.lss 3 false true) [Operand.tmp 5, Operand.const (Value.int IntKind.i64 0)], guard := none, hints := [] },
  { dst := some 7, op := POp.mv (Operand.tmp 6), guard := none, hints := [] },
  { dst := some 8, op := POp.faddr 0 (Operand.tmp 1), guard := some (7, false), hints := [] },
  { dst := some 9, op := POp.load false 1 (Operand.tmp 8), guard := some (7, false), hints := [] },
  { dst := some 10, op := POp.prim (Prim.bin BinOp.gtr 3 false true) [Operand.tmp 9, Operand.const (Value.int IntKind.i64 1000000)], guard := some (7, false), hints := [] },
  { dst := some 11, op := POp.pick (Operand.tmp 7) (Operand.const (Value.bool true)) (Operand.tmp 10), guard := none, hints := [] },
  { dst := some 12, op := POp.mv (Operand.tmp 11), guard := none, hints := [] },
  { dst := some 13, op := POp.faddr 1 (Operand.tmp 1), guard := some (12, false), hints := [] },
  { dst := some 14, op := POp.load false 1 (Operand.tmp 13), guard := some (12, false), hints := [] },
  { dst := some 15, op := POp.prim (Prim.bin BinOp.lss 5 false true) [Operand.tmp 14, Operand.const (Value.int IntKind.u8 1)], guard := some (12, false), hints := [] },
  { dst := some 16, op := POp.pick (Operand.tmp 12) (Operand.const (Value.bool true)) (Operand.tmp 15), guard := none, hints := [] },
  { dst := some 17, op := POp.mv (Operand.tmp 16), guard := none, hints := [] },
  { dst := some 18, op := POp.faddr 1 (Operand.tmp 1), guard := some (17, false), hints := [] },
  { dst := some 19, op := POp.load false 1 (Operand.tmp 18), guard := some (17, false), hints := [] },
  { dst := some 20, op := POp.prim (Prim.bin BinOp.gtr 5 false true) [Operand.tmp 19, Operand.const (Value.int IntKind.u8 31)], guard := some (17, false), hints := [] },
  { dst := some 21, op := POp.pick (Operand.tmp 17) (Operand.const (Value.bool true)) (Operand.tmp 20), guard := none, hints := [] }]
def pc21_c2 : PCode := .region none false pc21_o2
def pc21_o3 : List POper := [{ dst := some 2, op := POp.mv (Operand.const (Value.bool false)), guard := none, hints := [] }]
def pc21_c3 : PCode := .region none false pc21_o3
def pc21_c4 : PCode := .ret
def pc21_c5 : PCode := .seq pc21_c3 pc21_c4
def pc21_c6 : PCode := .skip
def pc21_c7 : PCode := .cond (Operand.tmp 21) pc21_c5 pc21_c6
def pc21_c8 : PCode := .seq pc21_c2 pc21_c7
def pc21_o9 : List POper := [{ dst := some 22, op := POp.faddr 1 (Operand.tmp 1), guard := none, hints := [] },
  { dst := some 23, op := POp.load false 1 (Operand.tmp 22), guard := none, hints := [] },
  { dst := some 24, op := POp.prim (Prim.bin BinOp.and 5 false true) [Operand.tmp 23, Operand.const (Value.int IntKind.u8 1)], guard := none, hints := [] },
  { dst := some 25, op := POp.prim (Prim.bin BinOp.neq 5 false true) [Operand.tmp 24, Operand.const (Value.int IntKind.u8 0)], guard := none, hints := [] },
  { dst := some 26, op := POp.mv (Operand.tmp 25), guard := none, hints := [] },
  { dst := some 27, op := POp.faddr 2 (Operand.tmp 1), guard := some (26, true), hints := [] },
  { dst := some 28, op := POp.load true 2 (Operand.tmp 27), guard := some (26, true), hints := [] },
  { dst := some 29, op := POp.call true [[]] 46 [Operand.tmp 28], guard := some (26, true), hints := [] },
  { dst := some 30, op := POp.prim (Prim.un UnOp.not) [Operand.tmp 29], guard := some (26, true), hints := [] },
  { dst := some 31, op := POp.pick (Operand.tmp 26) (Operand.tmp 30) (Operand.const (Value.bool false)), guard := none, hints := [] },
  { dst := some 32, op := POp.mv (Operand.tmp 31), guard := none, hints := [] },
  { dst := some 33, op := POp.faddr 1 (Operand.tmp 1), guard := some (32, false), hints := [] },
  { dst := some 34, op := POp.load false 1 (Operand.tmp 33), guard := some (32, false), hints := [] },
  { dst := some 35, op := POp.prim (Prim.bin BinOp.and 5 false true) [Operand.tmp 34, Operand.const (Value.int IntKind.u8 1)], guard := some (32, false), hints := [] },
  { dst := some 36, op := POp.prim (Prim.bin BinOp.eql 5 false true) [Operand.tmp 35, Operand.const (Value.int IntKind.u8 0)], guard := some (32, false), hints := [] },
  { dst := some 37, op := POp.mv (Operand.tmp 36), guard := some (32, false), hints := [] },
  { dst := some 38, op := POp.faddr 2 (Operand.tmp 1), guard := some (37, true), hints := [] },
  { dst := some 39, op := POp.load true 2 (Operand.tmp 38), guard := some (37, true), hints := [] },
  { dst := some 40, op := POp.build (Value.agg { toList := [Value.int IntKind.i64 0, Value.int IntKind.i64 0] }) [], guard := some (37, true), hints := [] },
  { dst := some 41, op := POp.prim (Prim.bin BinOp.neq 23 false false) [Operand.tmp 39, Operand.tmp 40], guard := some (37, true), hints := [] },
  { dst := some 42, op := POp.pick (Operand.tmp 37) (Operand.tmp 41) (Operand.const (Value.bool false)), guard := some (32, false), hints := [] },
  { dst := some 43, op := POp.pick (Operand.tmp 32) (Operand.const (Value.bool true)) (Operand.tmp 42), guard := none, hints := [] }]
def pc21_c9 : PCode := .region none false pc21_o9
def pc21_o10 : List POper := [{ dst := some 2, op := POp.mv (Operand.const (Value.bool false)), guard := none, hints := [] }]
def pc21_c10 : PCode := .region none false pc21_o10
def pc21_c11 : PCode := .ret
def pc21_c12 : PCode := .seq pc21_c10 pc21_c11
def pc21_c13 : PCode := .skip
def pc21_c14 : PCode := .cond (Operand.tmp 43) pc21_c12 pc21_c13
def pc21_c15 : PCode := .seq pc21_c9 pc21_c14
def pc21_o16 : List POper := [{ dst := some 3, op := POp.mv (Operand.const (Value.int IntKind.i64 0)), guard := none, hints := [] }]
def pc21_c16 : PCode := .region (some ([1], [1])) false pc21_o16
def pc21_o17 : List POper := [{ dst := some 44, op := POp.mv (Operand.tmp 3), guard := none, hints := [] },
  { dst := some 45, op := POp.prim (Prim.bin BinOp.lss 3 false true) [Operand.tmp 44, Operand.const (Value.int IntKind.i64 4)], guard := none, hints := [] }]
def pc21_c17 : PCode := .region (some ([1, 3], [1])) false pc21_o17
def pc21_c18 : PCode := .skip
def pc21_c19 : PCode := .exit 0
def pc21_c20 : PCode := .cond (Operand.tmp 45) pc21_c18 pc21_c19
def pc21_c21 : PCode := .seq pc21_c17 pc21_c20
def pc21_o22 : List POper := [{ dst := some 48, op := POp.mv (Operand.tmp 3), guard := none, hints := [] },
  { dst := some 49, op := POp.faddr 4 (Operand.tmp 1), guard := none, hints := [] },
  { dst := some 50, op := POp.iaddrA 4 2 (Operand.tmp 49) (Operand.tmp 48), guard := none, hints := [] },
  { dst := some 51, op := POp.load true 2 (Operand.tmp 50), guard := none, hints := [] },
  { dst := some 52, op := POp.call true [[]] 27 [Operand.tmp 51], guard := none, hints := [] },
  { dst := some 53, op := POp.prim (Prim.un UnOp.not) [Operand.tmp 52], guard := none, hints := [] },
  { dst := some 54, op := POp.mv (Operand.tmp 53), guard := none, hints := [] },
  { dst := some 55, op := POp.faddr 1 (Operand.tmp 1), guard := some (54, false), hints := [] },
  { dst := some 56, op := POp.load false 1 (Operand.tmp 55), guard := some (54, false), hints := [] },
  { dst := some 57, op := POp.mv (Operand.tmp 3), guard := some (54, false), hints := [] },
  { dst := some 58, op := POp.prim (Prim.bin BinOp.add 3 false true) [Operand.tmp 57, Operand.const (Value.int IntKind.i64 1)], guard := some (54, false), hints := [] },
  { dst := some 59, op := POp.prim (Prim.conv 3 51) [Operand.tmp 58], guard := some (54, false), hints := [] },
  { dst := some 60, op := POp.prim (Prim.bin BinOp.shr 5 false false) [Operand.tmp 56, Operand.tmp 59], guard := some (54, false), hints := [] },
  { dst := some 61, op := POp.prim (Prim.bin BinOp.and 5 false true) [Operand.tmp 60, Operand.const (Value.int IntKind.u8 1)], guard := some (54, false), hints := [] },
  { dst := some 62, op := POp.prim (Prim.bin BinOp.eql 5 false true) [Operand.tmp 61, Operand.const (Value.int IntKind.u8 0)], guard := some (54, false), hints := [] },
  { dst := some 63, op := POp.mv (Operand.tmp 62), guard := some (54, false), hints := [] },
  { dst := some 64, op := POp.mv (Operand.tmp 3), guard := some (63, true), hints := [] },
  { dst := some 65, op := POp.faddr 4 (Operand.tmp 1), guard := some (63, true), hints := [] },
  { dst := some 66, op := POp.iaddrA 4 2 (Operand.tmp 65) (Operand.tmp 64), guard := some (63, true), hints := [] },
  { dst := some 67, op := POp.load true 2 (Operand.tmp 66), guard := some (63, true), hints := [] },
  { dst := some 68, op := POp.build (Value.agg { toList := [Value.int IntKind.i64 0, Value.string { data := { toList := [] } }] }) [], guard := some (63, true), hints := [] },
  { dst := some 69, op := POp.prim (Prim.bin BinOp.neq 25 false false) [Operand.tmp 67, Operand.tmp 68], guard := some (63, true), hints := [] },
  { dst := some 70, op := POp.pick (Operand.tmp 63) (Operand.tmp 69) (Operand.const (Value.bool false)), guard := some (54, false), hints := [] },
  { dst := some 71, op := POp.pick (Operand.tmp 54) (Operand.const (Value.bool true)) (Operand.tmp 70), guard := none, hints := [] }]
def pc21_c22 : PCode := .region none false pc21_o22
def pc21_o23 : List POper := [{ dst := some 2, op := POp.mv (Operand.const (Value.bool false)), guard := none, hints := [] }]
def pc21_c23 : PCode := .region none false pc21_o23
def pc21_c24 : PCode := .ret
def pc21_c25 : PCode := .seq pc21_c23 pc21_c24
def pc21_c26 : PCode := .skip
def pc21_c27 : PCode := .cond (Operand.tmp 71) pc21_c25 pc21_c26
def pc21_c28 : PCode := .seq pc21_c22 pc21_c27
def pc21_c29 : PCode := .block 1 pc21_c28
def pc21_o30 : List POper := [{ dst := some 46, op := POp.mv (Operand.tmp 3), guard := none, hints := [] },
  { dst := some 47, op := POp.prim (Prim.bin BinOp.add 3 false true) [Operand.tmp 46, Operand.const (Value.int IntKind.i64 1)], guard := none, hints := [] },
  { dst := some 3, op := POp.mv (Operand.tmp 47), guard := none, hints := [] }]
def pc21_c30 : PCode := .region none false pc21_o30
def pc21_c31 : PCode := .seq pc21_c29 pc21_c30
def pc21_c32 : PCode := .seq pc21_c21 pc21_c31
def pc21_c33 : PCode := .loop pc21_c32
def pc21_c34 : PCode := .block 0 pc21_c33
def pc21_c35 : PCode := .seq pc21_c16 pc21_c34
def pc21_o36 : List POper := [{ dst := some 2, op := POp.mv (Operand.const (Value.bool true)), guard := none, hints := [] }]
def pc21_c36 : PCode := .region none false pc21_o36
def pc21_c37 : PCode := .ret
def pc21_c38 : PCode := .seq pc21_c36 pc21_c37
def pc21_c39 : PCode := .seq pc21_c35 pc21_c38
def pc21_c40 : PCode := .seq pc21_c15 pc21_c39
def pc21_c41 : PCode := .seq pc21_c8 pc21_c40
def pc21_c42 : PCode := .seq pc21_c1 pc21_c41
def pc21_r : List PRes := [PRes.tmp 2 []]
def pc21 : PFunc := ⟨72, pc21_r, pc21_c42⟩
def pc21_a : Ann := {
  kr := fun
    | 5 => some ([1], [1])
    | 6 => some ([1, 3], [1])
    | _ => none
  ka := fun
    | _ => 0
  kh := fun
    | _ => none }
theorem pc21_ok : compFn Try.prog pc21_a Try.f21 = some pc21 := by kernel_rfl


-- 47: vedette/vedetteref1.Put
def pc47_o1 : List POper := [{ dst := some 2, op := POp.mv (Operand.const (Value.string { data := { toList := [] } })), guard := none, hints := [] }]
def pc47_c1 : PCode := .region none false pc47_o1
def pc47_o2 : List POper := [{ dst := some 3, op := POp.mv (Operand.const (Value.string { data := { toList := [] } })), guard := none, hints := [] }]
def pc47_c2 : PCode := .region none false pc47_o2
def pc47_o3 : List POper := [{ dst := some 4, op := POp.mv (Operand.tmp 0), guard := none, hints := [] },
  { dst := some 5, op := POp.prim (Prim.bin BinOp.lss 70 false true) [Operand.tmp 4, Operand.const (Value.int IntKind.u64 128)], guard := none, hints := [] }]
def pc47_c3 : PCode := .region (some ([0, 3], [])) false pc47_o3
def pc47_o4 : List POper := [{ dst := some 6, op := POp.mv (Operand.tmp 3), guard := none, hints := [] },
  { dst := some 7, op := POp.mv (Operand.tmp 0), guard := none, hints := [] },
  { dst := some 8, op := POp.prim (Prim.conv 70 5) [Operand.tmp 7], guard := none, hints := [] },
  { dst := some 9, op := POp.bslice 5 1 [Operand.tmp 8], guard := none, hints := [] },
  { dst := some 10, op := POp.b2s (Operand.tmp 9), guard := none, hints := [] },
  { dst := some 11, op := POp.prim (Prim.bin BinOp.add 9 false false) [Operand.tmp 6, Operand.tmp 10], guard := none, hints := [] },
  { dst := some 2, op := POp.mv (Operand.tmp 11), guard := none, hints := [] }]
def pc47_c4 : PCode := .region none false pc47_o4
def pc47_c5 : PCode := .ret
def pc47_c6 : PCode := .seq pc47_c4 pc47_c5
def pc47_c7 : PCode := .skip
def pc47_c8 : PCode := .cond (Operand.tmp 5) pc47_c6 pc47_c7
def pc47_c9 : PCode := .seq pc47_c3 pc47_c8
def pc47_o10 : List POper := [{ dst := some 12, op := POp.mv (Operand.tmp 3), guard := none, hints := [] },
  { dst := some 13, op := POp.mv (Operand.tmp 0), guard := none, hints := [] },
  { dst := some 14, op := POp.prim (Prim.bin BinOp.and 70 false true) [Operand.tmp 13, Operand.const (Value.int IntKind.u64 127)], guard := none, hints := [] },
  { dst := some 15, op := POp.prim (Prim.conv 70 5) [Operand.tmp 14], guard := none, hints := [] },
  { dst := some 16, op := POp.prim (Prim.bin BinOp.or 5 false true) [Operand.tmp 15, Operand.const (Value.int IntKind.u8 128)], guard := none, hints := [] },
  { dst := some 17, op := POp.bslice 5 1 [Operand.tmp 16], guard := none, hints := [] },
  { dst := some 18, op := POp.b2s (Operand.tmp 17), guard := none, hints := [] },
  { dst := some 19, op := POp.prim (Prim.bin BinOp.add 9 false false) [Operand.tmp 12, Operand.tmp 18], guard := none, hints := [] },
  { dst := some 3, op := POp.mv (Operand.tmp 19), guard := none, hints := [] }]
def pc47_c10 : PCode := .region none false pc47_o10
def pc47_o11 : List POper := [{ dst := some 20, op := POp.mv (Operand.tmp 0), guard := none, hints := [] },
  { dst := some 21, op := POp.prim (Prim.bin BinOp.shr 70 false true) [Operand.tmp 20, Operand.const (Value.int IntKind.u64 7)], guard := none, hints := [] },
  { dst := some 0, op := POp.mv (Operand.tmp 21), guard := none, hints := [] }]
def pc47_c11 : PCode := .region none false pc47_o11
def pc47_c12 : PCode := .seq pc47_c10 pc47_c11
def pc47_c13 : PCode := .seq pc47_c9 pc47_c12
def pc47_c14 : PCode := .block 1 pc47_c13
def pc47_c15 : PCode := .loop pc47_c14
def pc47_c16 : PCode := .block 0 pc47_c15
def pc47_c17 : PCode := .seq pc47_c2 pc47_c16
def pc47_c18 : PCode := .seq pc47_c1 pc47_c17
def pc47_r : List PRes := [PRes.tmp 2 []]
def pc47 : PFunc := ⟨22, pc47_r, pc47_c18⟩
def pc47_a : Ann := {
  kr := fun
    | 2 => some ([0, 3], [])
    | _ => none
  ka := fun
    | _ => 0
  kh := fun
    | _ => none }
theorem pc47_ok : compFn Try.prog pc47_a Try.f47 = some pc47 := by kernel_rfl


-- 48: vedette/vedetteref1.Text
def pc48_o1 : List POper := [{ dst := some 2, op := POp.mv (Operand.const (Value.string { data := { toList := [] } })), guard := none, hints := [] }]
def pc48_c1 : PCode := .region none false pc48_o1
def pc48_o2 : List POper := [{ dst := some 3, op := POp.mv (Operand.tmp 0), guard := none, hints := [] },
  { dst := some 4, op := POp.prim (Prim.len 9) [Operand.tmp 3], guard := none, hints := [] },
  { dst := some 5, op := POp.prim (Prim.conv 3 70) [Operand.tmp 4], guard := none, hints := [] },
  { dst := some 6, op := POp.call true [[]] 47 [Operand.tmp 5], guard := none, hints := [] },
  { dst := some 7, op := POp.mv (Operand.tmp 0), guard := none, hints := [] },
  { dst := some 8, op := POp.prim (Prim.bin BinOp.add 9 false false) [Operand.tmp 6, Operand.tmp 7], guard := none, hints := [] },
  { dst := some 2, op := POp.mv (Operand.tmp 8), guard := none, hints := [] }]
def pc48_c2 : PCode := .region none false pc48_o2
def pc48_c3 : PCode := .ret
def pc48_c4 : PCode := .seq pc48_c2 pc48_c3
def pc48_c5 : PCode := .seq pc48_c1 pc48_c4
def pc48_r : List PRes := [PRes.tmp 2 []]
def pc48 : PFunc := ⟨9, pc48_r, pc48_c5⟩
def pc48_a : Ann := {
  kr := fun
    | _ => none
  ka := fun
    | _ => 0
  kh := fun
    | _ => none }
theorem pc48_ok : compFn Try.prog pc48_a Try.f48 = some pc48 := by kernel_rfl


-- 69: vedette/vedetteref1.Zig
def pc69_o1 : List POper := [{ dst := some 2, op := POp.mv (Operand.const (Value.int IntKind.u64 0)), guard := none, hints := [] }]
def pc69_c1 : PCode := .region none false pc69_o1
def pc69_o2 : List POper := [{ dst := some 3, op := POp.mv (Operand.tmp 0), guard := none, hints := [] },
  { dst := some 4, op := POp.prim (Prim.conv 2 70) [Operand.tmp 3], guard := none, hints := [] },
  { dst := some 5, op := POp.prim (Prim.bin BinOp.shl 70 false true) [Operand.tmp 4, Operand.const (Value.int IntKind.u64 1)], guard := none, hints := [] },
  { dst := some 6, op := POp.mv (Operand.tmp 0), guard := none, hints := [] },
  { dst := some 7, op := POp.prim (Prim.bin BinOp.shr 2 false true) [Operand.tmp 6, Operand.const (Value.int IntKind.u64 63)], guard := none, hints := [] },
  { dst := some 8, op := POp.prim (Prim.conv 2 70) [Operand.tmp 7], guard := none, hints := [] },
  { dst := some 9, op := POp.prim (Prim.bin BinOp.xor 70 false false) [Operand.tmp 5, Operand.tmp 8], guard := none, hints := [] },
  { dst := some 2, op := POp.mv (Operand.tmp 9), guard := none, hints := [] }]
def pc69_c2 : PCode := .region none false pc69_o2
def pc69_c3 : PCode := .ret
def pc69_c4 : PCode := .seq pc69_c2 pc69_c3
def pc69_c5 : PCode := .seq pc69_c1 pc69_c4
def pc69_r : List PRes := [PRes.tmp 2 []]
def pc69 : PFunc := ⟨10, pc69_r, pc69_c5⟩
def pc69_a : Ann := {
  kr := fun
    | _ => none
  ka := fun
    | _ => 0
  kh := fun
    | _ => none }
theorem pc69_ok : compFn Try.prog pc69_a Try.f69 = some pc69 := by kernel_rfl


-- 49: vedette/vedetteref1.Int
def pc49_o1 : List POper := [{ dst := some 2, op := POp.mv (Operand.const (Value.string { data := { toList := [] } })), guard := none, hints := [] }]
def pc49_c1 : PCode := .region none false pc49_o1
def pc49_o2 : List POper := [{ dst := some 3, op := POp.mv (Operand.tmp 0), guard := none, hints := [] },
  { dst := some 4, op := POp.call true [[]] 69 [Operand.tmp 3], guard := none, hints := [] },
  { dst := some 5, op := POp.call true [[]] 47 [Operand.tmp 4], guard := none, hints := [] },
  { dst := some 2, op := POp.mv (Operand.tmp 5), guard := none, hints := [] }]
def pc49_c2 : PCode := .region none false pc49_o2
def pc49_c3 : PCode := .ret
def pc49_c4 : PCode := .seq pc49_c2 pc49_c3
def pc49_c5 : PCode := .seq pc49_c1 pc49_c4
def pc49_r : List PRes := [PRes.tmp 2 []]
def pc49 : PFunc := ⟨6, pc49_r, pc49_c5⟩
def pc49_a : Ann := {
  kr := fun
    | _ => none
  ka := fun
    | _ => 0
  kh := fun
    | _ => none }
theorem pc49_ok : compFn Try.prog pc49_a Try.f49 = some pc49 := by kernel_rfl


end Go.Proofs.Ythmbegagkgdopaa
