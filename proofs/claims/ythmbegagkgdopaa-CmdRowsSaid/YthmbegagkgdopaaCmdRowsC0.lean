/-
  Code of functions, as the pure machine runs it. No condition.
-/
import Derived.Test.YthmbegagkgdopaaCmdRowsT
namespace Go.Proofs.Ythmbegagkgdopaa
open Go Go.Rx
set_option maxRecDepth 100000
set_option linter.unusedVariables false
set_option linter.unusedSimpArgs false
set_option linter.unnecessarySimpa false
-- 26: vedette/fields.IsField
def pc26_o1 : List POper := [{ dst := some 1, op := POp.box 25 (Operand.tmp 0) [], guard := none, hints := [] },
  { dst := some 2, op := POp.mv (Operand.const (Value.bool false)), guard := none, hints := [] }]
def pc26_c1 : PCode := .region none false pc26_o1
def pc26_o2 : List POper := [{ dst := some 3, op := POp.faddr 0 (Operand.tmp 1), guard := none, hints := [] },
  { dst := some 4, op := POp.load false 1 (Operand.tmp 3), guard := none, hints := [] },
  { dst := some 5, op := POp.prim (Prim.bin BinOp.eql 2 false true) [Operand.tmp 4, Operand.const (Value.int IntKind.i64 0)], guard := none, hints := [] },
  { dst := some 6, op := POp.mv (Operand.tmp 5), guard := none, hints := [] },
  { dst := some 7, op := POp.faddr 1 (Operand.tmp 1), guard := some (6, false), hints := [] },
  { dst := some 8, op := POp.load false 1 (Operand.tmp 7), guard := some (6, false), hints := [] },
  { dst := some 9, op := POp.prim (Prim.bin BinOp.eql 9 false true) [Operand.tmp 8, Operand.const (Value.string { data := { toList := [] } })], guard := some (6, false), hints := [] },
  { dst := some 10, op := POp.pick (Operand.tmp 6) (Operand.const (Value.bool true)) (Operand.tmp 9), guard := none, hints := [] },
  { dst := some 11, op := POp.mv (Operand.tmp 10), guard := none, hints := [] },
  { dst := some 12, op := POp.faddr 1 (Operand.tmp 1), guard := some (11, true), hints := [] },
  { dst := some 13, op := POp.load false 1 (Operand.tmp 12), guard := some (11, true), hints := [] },
  { dst := some 14, op := POp.prim (Prim.len 9) [Operand.tmp 13], guard := some (11, true), hints := [] },
  { dst := some 15, op := POp.prim (Prim.bin BinOp.leq 3 false true) [Operand.tmp 14, Operand.const (Value.int IntKind.i64 12)], guard := some (11, true), hints := [] },
  { dst := some 16, op := POp.pick (Operand.tmp 11) (Operand.tmp 15) (Operand.const (Value.bool false)), guard := none, hints := [] },
  { dst := some 2, op := POp.mv (Operand.tmp 16), guard := none, hints := [] }]
def pc26_c2 : PCode := .region none false pc26_o2
def pc26_c3 : PCode := .ret
def pc26_c4 : PCode := .seq pc26_c2 pc26_c3
def pc26_c5 : PCode := .seq pc26_c1 pc26_c4
def pc26_r : List PRes := [PRes.tmp 2 []]
def pc26 : PFunc := ⟨17, pc26_r, pc26_c5, false⟩
def pc26_a : Ann := {
  kr := fun
    | _ => none
  ka := fun
    | _ => 0
  kh := fun
    | _ => none }
theorem pc26_ok : compFn Try.prog pc26_a Try.f26 = some pc26 := by kernel_rfl


-- 58: vedette/cmd.core
def pc58_o1 : List POper := [{ dst := some 1, op := POp.box 57 (Operand.tmp 0) [], guard := none, hints := [] },
  { dst := some 2, op := POp.alloc 57 (Value.agg { toList := [Value.int IntKind.i64 0, Value.int IntKind.i64 0, Value.int IntKind.i64 0, Value.int IntKind.i64 0, Value.int IntKind.i64 0, Value.int IntKind.i64 0, Value.int IntKind.i64 0, Value.string { data := { toList := [] } }, Value.int IntKind.i64 0, Value.string { data := { toList := [] } }, Value.int IntKind.i64 0, Value.string { data := { toList := [] } }, Value.int IntKind.i64 0, Value.string { data := { toList := [] } }, Value.int IntKind.i64 0, Value.string { data := { toList := [] } }, Value.int IntKind.i64 0, Value.int IntKind.i64 0, Value.int IntKind.i64 0, Value.int IntKind.i64 0, Value.int IntKind.i64 0, Value.int IntKind.i64 0] }) [], guard := none, hints := [] }]
def pc58_c1 : PCode := .region none false pc58_o1
def pc58_o2 : List POper := [{ dst := some 4, op := POp.faddr 0 (Operand.tmp 1), guard := none, hints := [] },
  { dst := some 5, op := POp.load false 1 (Operand.tmp 4), guard := none, hints := [] },
  { dst := some 6, op := POp.faddr 16 (Operand.tmp 1), guard := none, hints := [] },
  { dst := some 7, op := POp.load false 1 (Operand.tmp 6), guard := none, hints := [] },
  { dst := some 8, op := POp.faddr 17 (Operand.tmp 1), guard := none, hints := [] },
  { dst := some 9, op := POp.load false 1 (Operand.tmp 8), guard := none, hints := [] },
  { dst := some 10, op := POp.build (Value.agg { toList := [Value.int IntKind.i64 0, Value.int IntKind.i64 0, Value.int IntKind.i64 0, Value.int IntKind.i64 0, Value.int IntKind.i64 0, Value.int IntKind.i64 0, Value.int IntKind.i64 0, Value.string { data := { toList := [] } }, Value.int IntKind.i64 0, Value.string { data := { toList := [] } }, Value.int IntKind.i64 0, Value.string { data := { toList := [] } }, Value.int IntKind.i64 0, Value.string { data := { toList := [] } }, Value.int IntKind.i64 0, Value.string { data := { toList := [] } }, Value.int IntKind.i64 0, Value.int IntKind.i64 0, Value.int IntKind.i64 0, Value.int IntKind.i64 0, Value.int IntKind.i64 0, Value.int IntKind.i64 0] }) [(0, 1, Operand.tmp 5), (16, 1, Operand.tmp 7), (17, 1, Operand.tmp 9)], guard := none, hints := [] },
  { dst := some 3, op := POp.alloc 57 (Value.agg { toList := [Value.int IntKind.i64 0, Value.int IntKind.i64 0, Value.int IntKind.i64 0, Value.int IntKind.i64 0, Value.int IntKind.i64 0, Value.int IntKind.i64 0, Value.int IntKind.i64 0, Value.string { data := { toList := [] } }, Value.int IntKind.i64 0, Value.string { data := { toList := [] } }, Value.int IntKind.i64 0, Value.string { data := { toList := [] } }, Value.int IntKind.i64 0, Value.string { data := { toList := [] } }, Value.int IntKind.i64 0, Value.string { data := { toList := [] } }, Value.int IntKind.i64 0, Value.int IntKind.i64 0, Value.int IntKind.i64 0, Value.int IntKind.i64 0, Value.int IntKind.i64 0, Value.int IntKind.i64 0] }) [], guard := none, hints := [] },
  { dst := none, op := POp.store 22 (Operand.tmp 3) (Operand.tmp 10), guard := none, hints := [] }]
def pc58_c2 : PCode := .region none false pc58_o2
def pc58_o3 : List POper := [{ dst := some 11, op := POp.faddr 0 (Operand.tmp 1), guard := none, hints := [] },
  { dst := some 12, op := POp.load false 1 (Operand.tmp 11), guard := none, hints := [] }]
def pc58_c3 : PCode := .region none false pc58_o3
def pc58_o4 : List POper := [{ dst := some 14, op := POp.prim (Prim.bin BinOp.eql 3 false true) [Operand.tmp 12, Operand.const (Value.int IntKind.i64 1)], guard := none, hints := [] },
  { dst := some 13, op := POp.mv (Operand.tmp 14), guard := none, hints := [] }]
def pc58_c4 : PCode := .region none false pc58_o4
def pc58_o5 : List POper := [{ dst := some 15, op := POp.faddr 4 (Operand.tmp 1), guard := none, hints := [(1, Hint.at_ 1 0)] },
  { dst := some 16, op := POp.load true 2 (Operand.tmp 15), guard := none, hints := [(15, Hint.at_ 1 4)] },
  { dst := some 17, op := POp.faddr 6 (Operand.tmp 1), guard := none, hints := [(1, Hint.at_ 1 0)] },
  { dst := some 18, op := POp.load true 8 (Operand.tmp 17), guard := none, hints := [(17, Hint.at_ 1 6)] },
  { dst := some 19, op := POp.faddr 4 (Operand.tmp 3), guard := none, hints := [(3, Hint.at_ 3 0)] },
  { dst := none, op := POp.store 2 (Operand.tmp 19) (Operand.tmp 16), guard := none, hints := [(19, Hint.at_ 3 4), (16, Hint.imm)] },
  { dst := some 20, op := POp.faddr 6 (Operand.tmp 3), guard := none, hints := [(3, Hint.at_ 3 0)] },
  { dst := none, op := POp.store 8 (Operand.tmp 20) (Operand.tmp 18), guard := none, hints := [(20, Hint.at_ 3 6), (18, Hint.imm)] }]
def pc58_c5 : PCode := .region none true pc58_o5
def pc58_o6 : List POper := [{ dst := some 22, op := POp.prim (Prim.bin BinOp.eql 3 false true) [Operand.tmp 12, Operand.const (Value.int IntKind.i64 2)], guard := none, hints := [] },
  { dst := some 21, op := POp.mv (Operand.tmp 22), guard := none, hints := [] }]
def pc58_c6 : PCode := .region none false pc58_o6
def pc58_o7 : List POper := [{ dst := some 23, op := POp.faddr 1 (Operand.tmp 1), guard := none, hints := [(1, Hint.at_ 1 0)] },
  { dst := some 24, op := POp.load false 1 (Operand.tmp 23), guard := none, hints := [(23, Hint.at_ 1 1)] },
  { dst := some 25, op := POp.faddr 4 (Operand.tmp 1), guard := none, hints := [(1, Hint.at_ 1 0)] },
  { dst := some 26, op := POp.load true 2 (Operand.tmp 25), guard := none, hints := [(25, Hint.at_ 1 4)] },
  { dst := some 27, op := POp.faddr 1 (Operand.tmp 3), guard := none, hints := [(3, Hint.at_ 3 0)] },
  { dst := none, op := POp.store 1 (Operand.tmp 27) (Operand.tmp 24), guard := none, hints := [(27, Hint.at_ 3 1), (24, Hint.imm)] },
  { dst := some 28, op := POp.faddr 4 (Operand.tmp 3), guard := none, hints := [(3, Hint.at_ 3 0)] },
  { dst := none, op := POp.store 2 (Operand.tmp 28) (Operand.tmp 26), guard := none, hints := [(28, Hint.at_ 3 4), (26, Hint.imm)] }]
def pc58_c7 : PCode := .region none true pc58_o7
def pc58_o8 : List POper := [{ dst := some 30, op := POp.prim (Prim.bin BinOp.eql 3 false true) [Operand.tmp 12, Operand.const (Value.int IntKind.i64 3)], guard := none, hints := [] },
  { dst := some 29, op := POp.mv (Operand.tmp 30), guard := none, hints := [] }]
def pc58_c8 : PCode := .region none false pc58_o8
def pc58_o9 : List POper := [{ dst := some 31, op := POp.faddr 1 (Operand.tmp 1), guard := none, hints := [(1, Hint.at_ 1 0)] },
  { dst := some 32, op := POp.load false 1 (Operand.tmp 31), guard := none, hints := [(31, Hint.at_ 1 1)] },
  { dst := some 33, op := POp.faddr 2 (Operand.tmp 1), guard := none, hints := [(1, Hint.at_ 1 0)] },
  { dst := some 34, op := POp.load false 1 (Operand.tmp 33), guard := none, hints := [(33, Hint.at_ 1 2)] },
  { dst := some 35, op := POp.faddr 14 (Operand.tmp 1), guard := none, hints := [(1, Hint.at_ 1 0)] },
  { dst := some 36, op := POp.load true 2 (Operand.tmp 35), guard := none, hints := [(35, Hint.at_ 1 14)] },
  { dst := some 37, op := POp.faddr 1 (Operand.tmp 3), guard := none, hints := [(3, Hint.at_ 3 0)] },
  { dst := none, op := POp.store 1 (Operand.tmp 37) (Operand.tmp 32), guard := none, hints := [(37, Hint.at_ 3 1), (32, Hint.imm)] },
  { dst := some 38, op := POp.faddr 2 (Operand.tmp 3), guard := none, hints := [(3, Hint.at_ 3 0)] },
  { dst := none, op := POp.store 1 (Operand.tmp 38) (Operand.tmp 34), guard := none, hints := [(38, Hint.at_ 3 2), (34, Hint.imm)] },
  { dst := some 39, op := POp.faddr 14 (Operand.tmp 3), guard := none, hints := [(3, Hint.at_ 3 0)] },
  { dst := none, op := POp.store 2 (Operand.tmp 39) (Operand.tmp 36), guard := none, hints := [(39, Hint.at_ 3 14), (36, Hint.imm)] }]
def pc58_c9 : PCode := .region none true pc58_o9
def pc58_o10 : List POper := [{ dst := some 41, op := POp.prim (Prim.bin BinOp.eql 3 false true) [Operand.tmp 12, Operand.const (Value.int IntKind.i64 4)], guard := none, hints := [] },
  { dst := some 40, op := POp.mv (Operand.tmp 41), guard := none, hints := [] }]
def pc58_c10 : PCode := .region none false pc58_o10
def pc58_o11 : List POper := [{ dst := some 42, op := POp.faddr 1 (Operand.tmp 1), guard := none, hints := [] },
  { dst := some 43, op := POp.load false 1 (Operand.tmp 42), guard := none, hints := [] },
  { dst := some 44, op := POp.faddr 1 (Operand.tmp 3), guard := none, hints := [] },
  { dst := none, op := POp.store 1 (Operand.tmp 44) (Operand.tmp 43), guard := none, hints := [] }]
def pc58_c11 : PCode := .region none false pc58_o11
def pc58_o12 : List POper := [{ dst := some 46, op := POp.prim (Prim.bin BinOp.eql 3 false true) [Operand.tmp 12, Operand.const (Value.int IntKind.i64 5)], guard := none, hints := [] },
  { dst := some 45, op := POp.mv (Operand.tmp 46), guard := none, hints := [] }]
def pc58_c12 : PCode := .region none false pc58_o12
def pc58_o13 : List POper := [{ dst := some 47, op := POp.faddr 2 (Operand.tmp 1), guard := none, hints := [(1, Hint.at_ 1 0)] },
  { dst := some 48, op := POp.load false 1 (Operand.tmp 47), guard := none, hints := [(47, Hint.at_ 1 2)] },
  { dst := some 49, op := POp.faddr 3 (Operand.tmp 1), guard := none, hints := [(1, Hint.at_ 1 0)] },
  { dst := some 50, op := POp.load false 1 (Operand.tmp 49), guard := none, hints := [(49, Hint.at_ 1 3)] },
  { dst := some 51, op := POp.faddr 2 (Operand.tmp 3), guard := none, hints := [(3, Hint.at_ 3 0)] },
  { dst := none, op := POp.store 1 (Operand.tmp 51) (Operand.tmp 48), guard := none, hints := [(51, Hint.at_ 3 2), (48, Hint.imm)] },
  { dst := some 52, op := POp.faddr 3 (Operand.tmp 3), guard := none, hints := [(3, Hint.at_ 3 0)] },
  { dst := none, op := POp.store 1 (Operand.tmp 52) (Operand.tmp 50), guard := none, hints := [(52, Hint.at_ 3 3), (50, Hint.imm)] }]
def pc58_c13 : PCode := .region none true pc58_o13
def pc58_o14 : List POper := [{ dst := some 54, op := POp.prim (Prim.bin BinOp.eql 3 false true) [Operand.tmp 12, Operand.const (Value.int IntKind.i64 6)], guard := none, hints := [] },
  { dst := some 53, op := POp.mv (Operand.tmp 54), guard := none, hints := [] }]
def pc58_c14 : PCode := .region none false pc58_o14
def pc58_c15 : PCode := .skip
def pc58_o16 : List POper := [{ dst := some 55, op := POp.prim (Prim.bin BinOp.eql 3 false true) [Operand.tmp 12, Operand.const (Value.int IntKind.i64 7)], guard := none, hints := [] },
  { dst := some 53, op := POp.mv (Operand.tmp 55), guard := none, hints := [] }]
def pc58_c16 : PCode := .region none false pc58_o16
def pc58_c17 : PCode := .cond (Operand.tmp 53) pc58_c15 pc58_c16
def pc58_c18 : PCode := .seq pc58_c14 pc58_c17
def pc58_o19 : List POper := [{ dst := some 56, op := POp.faddr 18 (Operand.tmp 1), guard := none, hints := [] },
  { dst := some 57, op := POp.load true 4 (Operand.tmp 56), guard := none, hints := [] },
  { dst := some 58, op := POp.faddr 18 (Operand.tmp 3), guard := none, hints := [] },
  { dst := none, op := POp.store 4 (Operand.tmp 58) (Operand.tmp 57), guard := none, hints := [] }]
def pc58_c19 : PCode := .region none false pc58_o19
def pc58_c20 : PCode := .skip
def pc58_c21 : PCode := .cond (Operand.tmp 53) pc58_c19 pc58_c20
def pc58_c22 : PCode := .seq pc58_c18 pc58_c21
def pc58_c23 : PCode := .cond (Operand.tmp 45) pc58_c13 pc58_c22
def pc58_c24 : PCode := .seq pc58_c12 pc58_c23
def pc58_c25 : PCode := .cond (Operand.tmp 40) pc58_c11 pc58_c24
def pc58_c26 : PCode := .seq pc58_c10 pc58_c25
def pc58_c27 : PCode := .cond (Operand.tmp 29) pc58_c9 pc58_c26
def pc58_c28 : PCode := .seq pc58_c8 pc58_c27
def pc58_c29 : PCode := .cond (Operand.tmp 21) pc58_c7 pc58_c28
def pc58_c30 : PCode := .seq pc58_c6 pc58_c29
def pc58_c31 : PCode := .cond (Operand.tmp 13) pc58_c5 pc58_c30
def pc58_c32 : PCode := .seq pc58_c4 pc58_c31
def pc58_c33 : PCode := .block 0 pc58_c32
def pc58_c34 : PCode := .seq pc58_c3 pc58_c33
def pc58_o35 : List POper := [{ dst := some 59, op := POp.load true 22 (Operand.tmp 3), guard := none, hints := [] },
  { dst := none, op := POp.store 22 (Operand.tmp 2) (Operand.tmp 59), guard := none, hints := [] }]
def pc58_c35 : PCode := .region none false pc58_o35
def pc58_c36 : PCode := .ret
def pc58_c37 : PCode := .seq pc58_c35 pc58_c36
def pc58_c38 : PCode := .seq pc58_c34 pc58_c37
def pc58_c39 : PCode := .seq pc58_c2 pc58_c38
def pc58_c40 : PCode := .seq pc58_c1 pc58_c39
def pc58_r : List PRes := [PRes.cell 2 true 22 []]
def pc58 : PFunc := ⟨60, pc58_r, pc58_c40, false⟩
def pc58_a : Ann := {
  kr := fun
    | _ => none
  ka := fun
    | _ => 0
  kh := fun
    | 1 => some (Hint.at_ 1 0)
    | 3 => some (Hint.at_ 3 0)
    | 15 => some (Hint.at_ 1 4)
    | 16 => some (Hint.imm)
    | 17 => some (Hint.at_ 1 6)
    | 18 => some (Hint.imm)
    | 19 => some (Hint.at_ 3 4)
    | 20 => some (Hint.at_ 3 6)
    | 23 => some (Hint.at_ 1 1)
    | 24 => some (Hint.imm)
    | 25 => some (Hint.at_ 1 4)
    | 26 => some (Hint.imm)
    | 27 => some (Hint.at_ 3 1)
    | 28 => some (Hint.at_ 3 4)
    | 31 => some (Hint.at_ 1 1)
    | 32 => some (Hint.imm)
    | 33 => some (Hint.at_ 1 2)
    | 34 => some (Hint.imm)
    | 35 => some (Hint.at_ 1 14)
    | 36 => some (Hint.imm)
    | 37 => some (Hint.at_ 3 1)
    | 38 => some (Hint.at_ 3 2)
    | 39 => some (Hint.at_ 3 14)
    | 47 => some (Hint.at_ 1 2)
    | 48 => some (Hint.imm)
    | 49 => some (Hint.at_ 1 3)
    | 50 => some (Hint.imm)
    | 51 => some (Hint.at_ 3 2)
    | 52 => some (Hint.at_ 3 3)
    | _ => none }
theorem pc58_ok : compFn Try.prog pc58_a Try.f58 = some pc58 := by kernel_rfl


-- 59: vedette/cmd.near
def pc59_o1 : List POper := [{ dst := some 2, op := POp.mv (Operand.const (Value.bool false)), guard := none, hints := [] }]
def pc59_c1 : PCode := .region none false pc59_o1
def pc59_c2 : PCode := .label
def pc59_o3 : List POper := [{ dst := some 5, op := POp.mv (Operand.tmp 0), guard := none, hints := [] },
  { dst := some 6, op := POp.lenS (Operand.tmp 5), guard := none, hints := [] },
  { dst := some 7, op := POp.mv (Operand.const (Value.int IntKind.i64 0)), guard := none, hints := [] }]
def pc59_c3 : PCode := .region none false pc59_o3
def pc59_o4 : List POper := [{ dst := some 8, op := POp.prim (Prim.bin BinOp.lss 3 false false) [Operand.tmp 7, Operand.tmp 6], guard := none, hints := [] }]
def pc59_c4 : PCode := .region (some ([5, 6, 7], [], [])) false pc59_o4
def pc59_c5 : PCode := .skip
def pc59_c6 : PCode := .exit 0
def pc59_c7 : PCode := .cond (Operand.tmp 8) pc59_c5 pc59_c6
def pc59_o8 : List POper := [{ dst := some 9, op := POp.iaddrS 1 (Operand.tmp 5) (Operand.tmp 7), guard := none, hints := [] },
  { dst := some 10, op := POp.load false 1 (Operand.tmp 9), guard := none, hints := [] },
  { dst := some 4, op := POp.mv (Operand.tmp 10), guard := none, hints := [] }]
def pc59_c8 : PCode := .region none false pc59_o8
def pc59_o9 : List POper := [{ dst := some 11, op := POp.mv (Operand.tmp 4), guard := none, hints := [] },
  { dst := some 12, op := POp.prim (Prim.bin BinOp.geq 3 false true) [Operand.tmp 11, Operand.const (Value.int IntKind.i64 (-1000))], guard := none, hints := [] },
  { dst := some 13, op := POp.mv (Operand.tmp 12), guard := none, hints := [] },
  { dst := some 14, op := POp.mv (Operand.tmp 4), guard := some (13, true), hints := [] },
  { dst := some 15, op := POp.prim (Prim.bin BinOp.leq 3 false true) [Operand.tmp 14, Operand.const (Value.int IntKind.i64 1000)], guard := some (13, true), hints := [] },
  { dst := some 16, op := POp.pick (Operand.tmp 13) (Operand.tmp 15) (Operand.const (Value.bool false)), guard := none, hints := [] }]
def pc59_c9 : PCode := .region none false pc59_o9
def pc59_c10 : PCode := .exit 1
def pc59_c11 : PCode := .skip
def pc59_c12 : PCode := .cond (Operand.tmp 16) pc59_c10 pc59_c11
def pc59_c13 : PCode := .seq pc59_c9 pc59_c12
def pc59_o14 : List POper := [{ dst := some 2, op := POp.mv (Operand.const (Value.bool false)), guard := none, hints := [] }]
def pc59_c14 : PCode := .region none false pc59_o14
def pc59_c15 : PCode := .ret
def pc59_c16 : PCode := .seq pc59_c14 pc59_c15
def pc59_c17 : PCode := .seq pc59_c13 pc59_c16
def pc59_c18 : PCode := .seq pc59_c8 pc59_c17
def pc59_c19 : PCode := .block 1 pc59_c18
def pc59_o20 : List POper := [{ dst := some 17, op := POp.prim (Prim.bin BinOp.add 3 false true) [Operand.tmp 7, Operand.const (Value.int IntKind.i64 1)], guard := none, hints := [] },
  { dst := some 7, op := POp.mv (Operand.tmp 17), guard := none, hints := [] }]
def pc59_c20 : PCode := .region none false pc59_o20
def pc59_c21 : PCode := .seq pc59_c19 pc59_c20
def pc59_c22 : PCode := .seq pc59_c7 pc59_c21
def pc59_c23 : PCode := .seq pc59_c4 pc59_c22
def pc59_c24 : PCode := .loop pc59_c23
def pc59_c25 : PCode := .block 0 pc59_c24
def pc59_c26 : PCode := .seq pc59_c3 pc59_c25
def pc59_o27 : List POper := [{ dst := some 2, op := POp.mv (Operand.const (Value.bool true)), guard := none, hints := [] }]
def pc59_c27 : PCode := .region none false pc59_o27
def pc59_c28 : PCode := .ret
def pc59_c29 : PCode := .seq pc59_c27 pc59_c28
def pc59_c30 : PCode := .seq pc59_c26 pc59_c29
def pc59_c31 : PCode := .seq pc59_c2 pc59_c30
def pc59_c32 : PCode := .scope pc59_c31
def pc59_c33 : PCode := .seq pc59_c1 pc59_c32
def pc59_r : List PRes := [PRes.tmp 2 []]
def pc59 : PFunc := ⟨18, pc59_r, pc59_c33, false⟩
def pc59_a : Ann := {
  kr := fun
    | 2 => some ([5, 6, 7], [], [])
    | _ => none
  ka := fun
    | _ => 0
  kh := fun
    | _ => none }
theorem pc59_ok : compFn Try.prog pc59_a Try.f59 = some pc59 := by kernel_rfl


-- 35: vedette/cmd.Is
def pc35_o1 : List POper := [{ dst := some 1, op := POp.box 57 (Operand.tmp 0) [], guard := none, hints := [] },
  { dst := some 2, op := POp.mv (Operand.const (Value.bool false)), guard := none, hints := [] }]
def pc35_c1 : PCode := .region none false pc35_o1
def pc35_o2 : List POper := [{ dst := some 8, op := POp.faddr 6 (Operand.tmp 1), guard := none, hints := [] },
  { dst := some 9, op := POp.load true 8 (Operand.tmp 8), guard := none, hints := [] },
  { dst := some 10, op := POp.mv (Operand.const (Value.int IntKind.i64 0)), guard := none, hints := [] }]
def pc35_c2 : PCode := .region none false pc35_o2
def pc35_o3 : List POper := [{ dst := some 11, op := POp.prim (Prim.bin BinOp.lss 3 false true) [Operand.tmp 10, Operand.const (Value.int IntKind.i64 4)], guard := none, hints := [] }]
def pc35_c3 : PCode := .region (some ([1, 9, 10], [1, 4], [])) false pc35_o3
def pc35_c4 : PCode := .skip
def pc35_c5 : PCode := .exit 0
def pc35_c6 : PCode := .cond (Operand.tmp 11) pc35_c4 pc35_c5
def pc35_o7 : List POper := [{ dst := some 12, op := POp.idx true 2 4 (Operand.tmp 9) (Operand.tmp 10), guard := none, hints := [] },
  { dst := some 4, op := POp.alloc 25 (Value.agg { toList := [Value.int IntKind.i64 0, Value.string { data := { toList := [] } }] }) [], guard := none, hints := [] },
  { dst := none, op := POp.store 2 (Operand.tmp 4) (Operand.tmp 12), guard := none, hints := [] }]
def pc35_c7 : PCode := .region none false pc35_o7
def pc35_o8 : List POper := [{ dst := some 13, op := POp.load true 2 (Operand.tmp 4), guard := none, hints := [] },
  { dst := some 14, op := POp.call true [[]] 26 [Operand.tmp 13], guard := none, hints := [] },
  { dst := some 15, op := POp.prim (Prim.un UnOp.not) [Operand.tmp 14], guard := none, hints := [] }]
def pc35_c8 : PCode := .region none false pc35_o8
def pc35_o9 : List POper := [{ dst := some 2, op := POp.mv (Operand.const (Value.bool false)), guard := none, hints := [] }]
def pc35_c9 : PCode := .region none false pc35_o9
def pc35_c10 : PCode := .ret
def pc35_c11 : PCode := .seq pc35_c9 pc35_c10
def pc35_c12 : PCode := .skip
def pc35_c13 : PCode := .cond (Operand.tmp 15) pc35_c11 pc35_c12
def pc35_c14 : PCode := .seq pc35_c8 pc35_c13
def pc35_c15 : PCode := .seq pc35_c7 pc35_c14
def pc35_c16 : PCode := .block 1 pc35_c15
def pc35_o17 : List POper := [{ dst := some 16, op := POp.prim (Prim.bin BinOp.add 3 false true) [Operand.tmp 10, Operand.const (Value.int IntKind.i64 1)], guard := none, hints := [] },
  { dst := some 10, op := POp.mv (Operand.tmp 16), guard := none, hints := [] }]
def pc35_c17 : PCode := .region none false pc35_o17
def pc35_c18 : PCode := .seq pc35_c16 pc35_c17
def pc35_c19 : PCode := .seq pc35_c6 pc35_c18
def pc35_c20 : PCode := .seq pc35_c3 pc35_c19
def pc35_c21 : PCode := .loop pc35_c20
def pc35_c22 : PCode := .block 0 pc35_c21
def pc35_c23 : PCode := .seq pc35_c2 pc35_c22
def pc35_o24 : List POper := [{ dst := some 17, op := POp.faddr 0 (Operand.tmp 1), guard := none, hints := [(1, Hint.at_ 1 0)] },
  { dst := some 18, op := POp.load false 1 (Operand.tmp 17), guard := none, hints := [(17, Hint.at_ 1 0)] },
  { dst := some 19, op := POp.prim (Prim.bin BinOp.geq 3 false true) [Operand.tmp 18, Operand.const (Value.int IntKind.i64 1)], guard := none, hints := [(18, Hint.imm)] },
  { dst := some 20, op := POp.mv (Operand.tmp 19), guard := none, hints := [(19, Hint.imm)] },
  { dst := some 21, op := POp.faddr 0 (Operand.tmp 1), guard := some (20, true), hints := [(1, Hint.at_ 1 0)] },
  { dst := some 22, op := POp.load false 1 (Operand.tmp 21), guard := some (20, true), hints := [(21, Hint.at_ 1 0)] },
  { dst := some 23, op := POp.prim (Prim.bin BinOp.leq 3 false true) [Operand.tmp 22, Operand.const (Value.int IntKind.i64 8)], guard := some (20, true), hints := [(22, Hint.imm)] },
  { dst := some 24, op := POp.pick (Operand.tmp 20) (Operand.tmp 23) (Operand.const (Value.bool false)), guard := none, hints := [(20, Hint.imm), (23, Hint.imm)] },
  { dst := some 25, op := POp.mv (Operand.tmp 24), guard := none, hints := [(24, Hint.imm)] },
  { dst := some 26, op := POp.load true 22 (Operand.tmp 1), guard := some (25, true), hints := [(1, Hint.at_ 1 0)] },
  { dst := some 27, op := POp.load true 22 (Operand.tmp 1), guard := some (25, true), hints := [(1, Hint.at_ 1 0)] },
  { dst := some 28, op := POp.call false [[]] 58 [Operand.tmp 27], guard := some (25, true), hints := [(27, Hint.imm)] },
  { dst := some 29, op := POp.prim (Prim.bin BinOp.eql 57 false false) [Operand.tmp 26, Operand.tmp 28], guard := some (25, true), hints := [(26, Hint.imm), (28, Hint.imm)] },
  { dst := some 30, op := POp.pick (Operand.tmp 25) (Operand.tmp 29) (Operand.const (Value.bool false)), guard := none, hints := [(25, Hint.imm), (29, Hint.imm)] },
  { dst := some 5, op := POp.mv (Operand.tmp 30), guard := none, hints := [(30, Hint.imm)] }]
def pc35_c24 : PCode := .region none true pc35_o24
def pc35_o25 : List POper := [{ dst := some 31, op := POp.faddr 16 (Operand.tmp 1), guard := none, hints := [] },
  { dst := some 32, op := POp.load false 1 (Operand.tmp 31), guard := none, hints := [] },
  { dst := some 33, op := POp.prim (Prim.bin BinOp.geq 3 false true) [Operand.tmp 32, Operand.const (Value.int IntKind.i64 0)], guard := none, hints := [] },
  { dst := some 34, op := POp.mv (Operand.tmp 33), guard := none, hints := [] },
  { dst := some 35, op := POp.faddr 16 (Operand.tmp 1), guard := some (34, true), hints := [] },
  { dst := some 36, op := POp.load false 1 (Operand.tmp 35), guard := some (34, true), hints := [] },
  { dst := some 37, op := POp.prim (Prim.bin BinOp.lss 3 false true) [Operand.tmp 36, Operand.const (Value.int IntKind.i64 4)], guard := some (34, true), hints := [] },
  { dst := some 38, op := POp.pick (Operand.tmp 34) (Operand.tmp 37) (Operand.const (Value.bool false)), guard := none, hints := [] },
  { dst := some 39, op := POp.mv (Operand.tmp 38), guard := none, hints := [] },
  { dst := some 40, op := POp.faddr 17 (Operand.tmp 1), guard := some (39, true), hints := [] },
  { dst := some 41, op := POp.load false 1 (Operand.tmp 40), guard := some (39, true), hints := [] },
  { dst := some 42, op := POp.prim (Prim.bin BinOp.geq 3 false true) [Operand.tmp 41, Operand.const (Value.int IntKind.i64 0)], guard := some (39, true), hints := [] },
  { dst := some 43, op := POp.pick (Operand.tmp 39) (Operand.tmp 42) (Operand.const (Value.bool false)), guard := none, hints := [] },
  { dst := some 44, op := POp.mv (Operand.tmp 43), guard := none, hints := [] },
  { dst := some 45, op := POp.faddr 17 (Operand.tmp 1), guard := some (44, true), hints := [] },
  { dst := some 46, op := POp.load false 1 (Operand.tmp 45), guard := some (44, true), hints := [] },
  { dst := some 47, op := POp.prim (Prim.bin BinOp.leq 3 false true) [Operand.tmp 46, Operand.const (Value.int IntKind.i64 1000000)], guard := some (44, true), hints := [] },
  { dst := some 48, op := POp.pick (Operand.tmp 44) (Operand.tmp 47) (Operand.const (Value.bool false)), guard := none, hints := [] },
  { dst := some 6, op := POp.mv (Operand.tmp 48), guard := none, hints := [] }]
def pc35_c25 : PCode := .region (some ([1, 5], [1], [])) false pc35_o25
def pc35_o26 : List POper := [{ dst := some 49, op := POp.faddr 1 (Operand.tmp 1), guard := none, hints := [] },
  { dst := some 50, op := POp.load false 1 (Operand.tmp 49), guard := none, hints := [] },
  { dst := some 51, op := POp.prim (Prim.bin BinOp.geq 3 false true) [Operand.tmp 50, Operand.const (Value.int IntKind.i64 0)], guard := none, hints := [] },
  { dst := some 52, op := POp.mv (Operand.tmp 51), guard := none, hints := [] },
  { dst := some 53, op := POp.faddr 1 (Operand.tmp 1), guard := some (52, true), hints := [] },
  { dst := some 54, op := POp.load false 1 (Operand.tmp 53), guard := some (52, true), hints := [] },
  { dst := some 55, op := POp.prim (Prim.bin BinOp.leq 3 false true) [Operand.tmp 54, Operand.const (Value.int IntKind.i64 1000000)], guard := some (52, true), hints := [] },
  { dst := some 56, op := POp.pick (Operand.tmp 52) (Operand.tmp 55) (Operand.const (Value.bool false)), guard := none, hints := [] },
  { dst := some 57, op := POp.mv (Operand.tmp 56), guard := none, hints := [] },
  { dst := some 58, op := POp.faddr 2 (Operand.tmp 1), guard := some (57, true), hints := [] },
  { dst := some 59, op := POp.load false 1 (Operand.tmp 58), guard := some (57, true), hints := [] },
  { dst := some 60, op := POp.prim (Prim.bin BinOp.geq 3 false true) [Operand.tmp 59, Operand.const (Value.int IntKind.i64 (-1))], guard := some (57, true), hints := [] },
  { dst := some 61, op := POp.pick (Operand.tmp 57) (Operand.tmp 60) (Operand.const (Value.bool false)), guard := none, hints := [] },
  { dst := some 62, op := POp.mv (Operand.tmp 61), guard := none, hints := [] },
  { dst := some 63, op := POp.faddr 2 (Operand.tmp 1), guard := some (62, true), hints := [] },
  { dst := some 64, op := POp.load false 1 (Operand.tmp 63), guard := some (62, true), hints := [] },
  { dst := some 65, op := POp.prim (Prim.bin BinOp.leq 3 false true) [Operand.tmp 64, Operand.const (Value.int IntKind.i64 100)], guard := some (62, true), hints := [] },
  { dst := some 66, op := POp.pick (Operand.tmp 62) (Operand.tmp 65) (Operand.const (Value.bool false)), guard := none, hints := [] },
  { dst := some 67, op := POp.mv (Operand.tmp 66), guard := none, hints := [] },
  { dst := some 68, op := POp.faddr 3 (Operand.tmp 1), guard := some (67, true), hints := [] },
  { dst := some 69, op := POp.load false 1 (Operand.tmp 68), guard := some (67, true), hints := [] },
  { dst := some 70, op := POp.prim (Prim.bin BinOp.geq 3 false true) [Operand.tmp 69, Operand.const (Value.int IntKind.i64 (-1))], guard := some (67, true), hints := [] },
  { dst := some 71, op := POp.pick (Operand.tmp 67) (Operand.tmp 70) (Operand.const (Value.bool false)), guard := none, hints := [] },
  { dst := some 72, op := POp.mv (Operand.tmp 71), guard := none, hints := [] },
  { dst := some 73, op := POp.faddr 3 (Operand.tmp 1), guard := some (72, true), hints := [] },
  { dst := some 74, op := POp.load false 1 (Operand.tmp 73), guard := some (72, true), hints := [] },
  { dst := some 75, op := POp.prim (Prim.bin BinOp.leq 3 false true) [Operand.tmp 74, Operand.const (Value.int IntKind.i64 100)], guard := some (72, true), hints := [] },
  { dst := some 76, op := POp.pick (Operand.tmp 72) (Operand.tmp 75) (Operand.const (Value.bool false)), guard := none, hints := [] },
  { dst := some 77, op := POp.mv (Operand.tmp 76), guard := none, hints := [] },
  { dst := some 78, op := POp.faddr 14 (Operand.tmp 1), guard := some (77, true), hints := [] },
  { dst := some 79, op := POp.load true 2 (Operand.tmp 78), guard := some (77, true), hints := [] },
  { dst := some 80, op := POp.call true [[]] 26 [Operand.tmp 79], guard := some (77, true), hints := [] },
  { dst := some 81, op := POp.pick (Operand.tmp 77) (Operand.tmp 80) (Operand.const (Value.bool false)), guard := none, hints := [] },
  { dst := some 7, op := POp.mv (Operand.tmp 81), guard := none, hints := [] }]
def pc35_c26 : PCode := .region (some ([1, 5, 6], [1], [])) false pc35_o26
def pc35_o27 : List POper := [{ dst := some 82, op := POp.mv (Operand.tmp 5), guard := none, hints := [] },
  { dst := some 83, op := POp.mv (Operand.tmp 82), guard := none, hints := [] },
  { dst := some 84, op := POp.mv (Operand.tmp 6), guard := some (83, true), hints := [] },
  { dst := some 85, op := POp.pick (Operand.tmp 83) (Operand.tmp 84) (Operand.const (Value.bool false)), guard := none, hints := [] },
  { dst := some 86, op := POp.mv (Operand.tmp 85), guard := none, hints := [] },
  { dst := some 87, op := POp.mv (Operand.tmp 7), guard := some (86, true), hints := [] },
  { dst := some 88, op := POp.pick (Operand.tmp 86) (Operand.tmp 87) (Operand.const (Value.bool false)), guard := none, hints := [] },
  { dst := some 89, op := POp.mv (Operand.tmp 88), guard := none, hints := [] },
  { dst := some 90, op := POp.faddr 4 (Operand.tmp 1), guard := some (89, true), hints := [] },
  { dst := some 91, op := POp.faddr 0 (Operand.tmp 90), guard := some (89, true), hints := [] },
  { dst := some 92, op := POp.load false 1 (Operand.tmp 91), guard := some (89, true), hints := [] },
  { dst := some 93, op := POp.faddr 4 (Operand.tmp 1), guard := some (89, true), hints := [] },
  { dst := some 94, op := POp.faddr 1 (Operand.tmp 93), guard := some (89, true), hints := [] },
  { dst := some 95, op := POp.load false 1 (Operand.tmp 94), guard := some (89, true), hints := [] },
  { dst := some 96, op := POp.faddr 18 (Operand.tmp 1), guard := some (89, true), hints := [] },
  { dst := some 97, op := POp.faddr 0 (Operand.tmp 96), guard := some (89, true), hints := [] },
  { dst := some 98, op := POp.load false 1 (Operand.tmp 97), guard := some (89, true), hints := [] },
  { dst := some 99, op := POp.faddr 18 (Operand.tmp 1), guard := some (89, true), hints := [] },
  { dst := some 100, op := POp.faddr 1 (Operand.tmp 99), guard := some (89, true), hints := [] },
  { dst := some 101, op := POp.load false 1 (Operand.tmp 100), guard := some (89, true), hints := [] },
  { dst := some 102, op := POp.faddr 18 (Operand.tmp 1), guard := some (89, true), hints := [] },
  { dst := some 103, op := POp.faddr 2 (Operand.tmp 102), guard := some (89, true), hints := [] },
  { dst := some 104, op := POp.load false 1 (Operand.tmp 103), guard := some (89, true), hints := [] },
  { dst := some 105, op := POp.faddr 18 (Operand.tmp 1), guard := some (89, true), hints := [] },
  { dst := some 106, op := POp.faddr 3 (Operand.tmp 105), guard := some (89, true), hints := [] },
  { dst := some 107, op := POp.load false 1 (Operand.tmp 106), guard := some (89, true), hints := [] },
  { dst := some 108, op := POp.bslice 3 1 [Operand.tmp 92, Operand.tmp 95, Operand.tmp 98, Operand.tmp 101, Operand.tmp 104, Operand.tmp 107], guard := some (89, true), hints := [] },
  { dst := some 109, op := POp.call true [[(0, 1)]] 59 [Operand.tmp 108], guard := some (89, true), hints := [] },
  { dst := some 110, op := POp.pick (Operand.tmp 89) (Operand.tmp 109) (Operand.const (Value.bool false)), guard := none, hints := [] },
  { dst := some 2, op := POp.mv (Operand.tmp 110), guard := none, hints := [] }]
def pc35_c27 : PCode := .region (some ([1, 5, 6, 7], [1], [])) false pc35_o27
def pc35_c28 : PCode := .ret
def pc35_c29 : PCode := .seq pc35_c27 pc35_c28
def pc35_c30 : PCode := .seq pc35_c26 pc35_c29
def pc35_c31 : PCode := .seq pc35_c25 pc35_c30
def pc35_c32 : PCode := .seq pc35_c24 pc35_c31
def pc35_c33 : PCode := .seq pc35_c23 pc35_c32
def pc35_c34 : PCode := .seq pc35_c1 pc35_c33
def pc35_r : List PRes := [PRes.tmp 2 []]
def pc35 : PFunc := ⟨111, pc35_r, pc35_c34, false⟩
def pc35_a : Ann := {
  kr := fun
    | 2 => some ([1, 9, 10], [1, 4], [])
    | 8 => some ([1, 5], [1], [])
    | 9 => some ([1, 5, 6], [1], [])
    | 10 => some ([1, 5, 6, 7], [1], [])
    | _ => none
  ka := fun
    | _ => 0
  kh := fun
    | 1 => some (Hint.at_ 1 0)
    | 17 => some (Hint.at_ 1 0)
    | 18 => some (Hint.imm)
    | 19 => some (Hint.imm)
    | 20 => some (Hint.imm)
    | 21 => some (Hint.at_ 1 0)
    | 22 => some (Hint.imm)
    | 23 => some (Hint.imm)
    | 24 => some (Hint.imm)
    | 25 => some (Hint.imm)
    | 26 => some (Hint.imm)
    | 27 => some (Hint.imm)
    | 28 => some (Hint.imm)
    | 29 => some (Hint.imm)
    | 30 => some (Hint.imm)
    | _ => none }
theorem pc35_ok : compFn Try.prog pc35_a Try.f35 = some pc35 := by kernel_rfl


-- 42: vedette/num.Put
def pc42_o1 : List POper := [{ dst := some 2, op := POp.mv (Operand.const (Value.string { data := { toList := [] } })), guard := none, hints := [] }]
def pc42_c1 : PCode := .region none false pc42_o1
def pc42_o2 : List POper := [{ dst := some 3, op := POp.mv (Operand.const (Value.slice none 0 0)), guard := none, hints := [] }]
def pc42_c2 : PCode := .region none false pc42_o2
def pc42_o3 : List POper := [{ dst := some 4, op := POp.mv (Operand.tmp 0), guard := none, hints := [] },
  { dst := some 5, op := POp.prim (Prim.bin BinOp.geq 70 false true) [Operand.tmp 4, Operand.const (Value.int IntKind.u64 128)], guard := none, hints := [] }]
def pc42_c3 : PCode := .region (some ([0, 3], [100003], [(false, 3, 0, 100003, 5, 1)])) false pc42_o3
def pc42_c4 : PCode := .skip
def pc42_c5 : PCode := .exit 0
def pc42_c6 : PCode := .cond (Operand.tmp 5) pc42_c4 pc42_c5
def pc42_c7 : PCode := .seq pc42_c3 pc42_c6
def pc42_o8 : List POper := [{ dst := some 6, op := POp.mv (Operand.tmp 3), guard := none, hints := [] },
  { dst := some 7, op := POp.mv (Operand.tmp 0), guard := none, hints := [] },
  { dst := some 8, op := POp.prim (Prim.conv 70 5) [Operand.tmp 7], guard := none, hints := [] },
  { dst := some 9, op := POp.prim (Prim.bin BinOp.or 5 false true) [Operand.tmp 8, Operand.const (Value.int IntKind.u8 128)], guard := none, hints := [] },
  { dst := some 10, op := POp.bslice 5 1 [Operand.tmp 9], guard := none, hints := [] },
  { dst := some 11, op := POp.app 100003 5 1 1 (Operand.tmp 6) (Operand.tmp 10), guard := none, hints := [] },
  { dst := some 3, op := POp.mv (Operand.tmp 11), guard := none, hints := [] }]
def pc42_c8 : PCode := .region none false pc42_o8
def pc42_o9 : List POper := [{ dst := some 12, op := POp.mv (Operand.tmp 0), guard := none, hints := [] },
  { dst := some 13, op := POp.prim (Prim.bin BinOp.shr 70 false true) [Operand.tmp 12, Operand.const (Value.int IntKind.u64 7)], guard := none, hints := [] },
  { dst := some 0, op := POp.mv (Operand.tmp 13), guard := none, hints := [] }]
def pc42_c9 : PCode := .region none false pc42_o9
def pc42_c10 : PCode := .seq pc42_c8 pc42_c9
def pc42_c11 : PCode := .block 1 pc42_c10
def pc42_c12 : PCode := .seq pc42_c7 pc42_c11
def pc42_c13 : PCode := .loop pc42_c12
def pc42_c14 : PCode := .block 0 pc42_c13
def pc42_o15 : List POper := [{ dst := some 14, op := POp.mv (Operand.tmp 3), guard := none, hints := [] },
  { dst := some 15, op := POp.mv (Operand.tmp 0), guard := none, hints := [] },
  { dst := some 16, op := POp.prim (Prim.conv 70 5) [Operand.tmp 15], guard := none, hints := [] },
  { dst := some 17, op := POp.bslice 5 1 [Operand.tmp 16], guard := none, hints := [] },
  { dst := some 18, op := POp.app 100003 5 1 1 (Operand.tmp 14) (Operand.tmp 17), guard := none, hints := [] },
  { dst := some 19, op := POp.b2s (Operand.tmp 18), guard := none, hints := [] },
  { dst := some 2, op := POp.mv (Operand.tmp 19), guard := none, hints := [] }]
def pc42_c15 : PCode := .region none false pc42_o15
def pc42_c16 : PCode := .ret
def pc42_c17 : PCode := .seq pc42_c15 pc42_c16
def pc42_c18 : PCode := .seq pc42_c14 pc42_c17
def pc42_c19 : PCode := .seq pc42_c2 pc42_c18
def pc42_c20 : PCode := .seq pc42_c1 pc42_c19
def pc42_r : List PRes := [PRes.tmp 2 []]
def pc42 : PFunc := ⟨20, pc42_r, pc42_c20, false⟩
def pc42_a : Ann := {
  kr := fun
    | 2 => some ([0, 3], [100003], [(false, 3, 0, 100003, 5, 1)])
    | _ => none
  ka := fun
    | 11 => 100003
    | 18 => 100003
    | _ => 0
  kh := fun
    | _ => none }
theorem pc42_ok : compFn Try.prog pc42_a Try.f42 = some pc42 := by kernel_rfl


-- 44: vedette/num.Text
def pc44_o1 : List POper := [{ dst := some 2, op := POp.mv (Operand.const (Value.string { data := { toList := [] } })), guard := none, hints := [] }]
def pc44_c1 : PCode := .region none false pc44_o1
def pc44_o2 : List POper := [{ dst := some 3, op := POp.mv (Operand.tmp 0), guard := none, hints := [] },
  { dst := some 4, op := POp.prim (Prim.len 9) [Operand.tmp 3], guard := none, hints := [] },
  { dst := some 5, op := POp.prim (Prim.conv 3 70) [Operand.tmp 4], guard := none, hints := [] },
  { dst := some 6, op := POp.call true [[]] 42 [Operand.tmp 5], guard := none, hints := [] },
  { dst := some 7, op := POp.mv (Operand.tmp 0), guard := none, hints := [] },
  { dst := some 8, op := POp.prim (Prim.bin BinOp.add 9 false false) [Operand.tmp 6, Operand.tmp 7], guard := none, hints := [] },
  { dst := some 2, op := POp.mv (Operand.tmp 8), guard := none, hints := [] }]
def pc44_c2 : PCode := .region none false pc44_o2
def pc44_c3 : PCode := .ret
def pc44_c4 : PCode := .seq pc44_c2 pc44_c3
def pc44_c5 : PCode := .seq pc44_c1 pc44_c4
def pc44_r : List PRes := [PRes.tmp 2 []]
def pc44 : PFunc := ⟨9, pc44_r, pc44_c5, false⟩
def pc44_a : Ann := {
  kr := fun
    | _ => none
  ka := fun
    | _ => 0
  kh := fun
    | _ => none }
theorem pc44_ok : compFn Try.prog pc44_a Try.f44 = some pc44 := by kernel_rfl


-- 68: vedette/num.Zig
def pc68_o1 : List POper := [{ dst := some 2, op := POp.mv (Operand.const (Value.int IntKind.u64 0)), guard := none, hints := [] }]
def pc68_c1 : PCode := .region none false pc68_o1
def pc68_o2 : List POper := [{ dst := some 3, op := POp.mv (Operand.tmp 0), guard := none, hints := [] },
  { dst := some 4, op := POp.prim (Prim.conv 2 70) [Operand.tmp 3], guard := none, hints := [] },
  { dst := some 5, op := POp.prim (Prim.bin BinOp.shl 70 false true) [Operand.tmp 4, Operand.const (Value.int IntKind.u64 1)], guard := none, hints := [] },
  { dst := some 6, op := POp.mv (Operand.tmp 0), guard := none, hints := [] },
  { dst := some 7, op := POp.prim (Prim.bin BinOp.shr 2 false true) [Operand.tmp 6, Operand.const (Value.int IntKind.u64 63)], guard := none, hints := [] },
  { dst := some 8, op := POp.prim (Prim.conv 2 70) [Operand.tmp 7], guard := none, hints := [] },
  { dst := some 9, op := POp.prim (Prim.bin BinOp.xor 70 false false) [Operand.tmp 5, Operand.tmp 8], guard := none, hints := [] },
  { dst := some 2, op := POp.mv (Operand.tmp 9), guard := none, hints := [] }]
def pc68_c2 : PCode := .region none false pc68_o2
def pc68_c3 : PCode := .ret
def pc68_c4 : PCode := .seq pc68_c2 pc68_c3
def pc68_c5 : PCode := .seq pc68_c1 pc68_c4
def pc68_r : List PRes := [PRes.tmp 2 []]
def pc68 : PFunc := ⟨10, pc68_r, pc68_c5, false⟩
def pc68_a : Ann := {
  kr := fun
    | _ => none
  ka := fun
    | _ => 0
  kh := fun
    | _ => none }
theorem pc68_ok : compFn Try.prog pc68_a Try.f68 = some pc68 := by kernel_rfl


-- 45: vedette/num.Int
def pc45_o1 : List POper := [{ dst := some 2, op := POp.mv (Operand.const (Value.string { data := { toList := [] } })), guard := none, hints := [] }]
def pc45_c1 : PCode := .region none false pc45_o1
def pc45_o2 : List POper := [{ dst := some 3, op := POp.mv (Operand.tmp 0), guard := none, hints := [] },
  { dst := some 4, op := POp.call true [[]] 68 [Operand.tmp 3], guard := none, hints := [] },
  { dst := some 5, op := POp.call true [[]] 42 [Operand.tmp 4], guard := none, hints := [] },
  { dst := some 2, op := POp.mv (Operand.tmp 5), guard := none, hints := [] }]
def pc45_c2 : PCode := .region none false pc45_o2
def pc45_c3 : PCode := .ret
def pc45_c4 : PCode := .seq pc45_c2 pc45_c3
def pc45_c5 : PCode := .seq pc45_c1 pc45_c4
def pc45_r : List PRes := [PRes.tmp 2 []]
def pc45 : PFunc := ⟨6, pc45_r, pc45_c5, false⟩
def pc45_a : Ann := {
  kr := fun
    | _ => none
  ka := fun
    | _ => 0
  kh := fun
    | _ => none }
theorem pc45_ok : compFn Try.prog pc45_a Try.f45 = some pc45 := by kernel_rfl


-- 56: vedette/cmd.parts
def pc56_o1 : List POper := [{ dst := some 2, op := POp.mv (Operand.const (Value.slice none 0 0)), guard := none, hints := [] }]
def pc56_c1 : PCode := .region none false pc56_o1
def pc56_o2 : List POper := [{ dst := some 3, op := POp.mv (Operand.tmp 0), guard := none, hints := [] },
  { dst := some 4, op := POp.nilc (Operand.tmp 3), guard := none, hints := [] },
  { dst := some 5, op := POp.faddr 0 (Operand.tmp 4), guard := none, hints := [] },
  { dst := some 6, op := POp.load false 1 (Operand.tmp 5), guard := none, hints := [] }]
def pc56_c2 : PCode := .region none false pc56_o2
def pc56_o3 : List POper := [{ dst := some 8, op := POp.prim (Prim.bin BinOp.eql 3 false true) [Operand.tmp 6, Operand.const (Value.int IntKind.i64 1)], guard := none, hints := [] },
  { dst := some 7, op := POp.mv (Operand.tmp 8), guard := none, hints := [] }]
def pc56_c3 : PCode := .region none false pc56_o3
def pc56_o4 : List POper := [{ dst := some 9, op := POp.mv (Operand.tmp 0), guard := none, hints := [(0, Hint.at_ 1000000 0)] },
  { dst := some 10, op := POp.nilc (Operand.tmp 9), guard := none, hints := [(9, Hint.at_ 1000000 0)] },
  { dst := some 11, op := POp.faddr 4 (Operand.tmp 10), guard := none, hints := [(10, Hint.at_ 1000000 0)] },
  { dst := some 12, op := POp.faddr 0 (Operand.tmp 11), guard := none, hints := [(11, Hint.at_ 1000000 4)] },
  { dst := some 13, op := POp.mv (Operand.tmp 0), guard := none, hints := [(0, Hint.at_ 1000000 0)] },
  { dst := some 14, op := POp.nilc (Operand.tmp 13), guard := none, hints := [(13, Hint.at_ 1000000 0)] },
  { dst := some 15, op := POp.faddr 4 (Operand.tmp 14), guard := none, hints := [(14, Hint.at_ 1000000 0)] },
  { dst := some 16, op := POp.faddr 1 (Operand.tmp 15), guard := none, hints := [(15, Hint.at_ 1000000 4)] },
  { dst := some 17, op := POp.bptrs 1 [Operand.tmp 12, Operand.tmp 16], guard := none, hints := [(12, Hint.at_ 1000000 4), (16, Hint.at_ 1000000 5)] },
  { dst := some 2, op := POp.mv (Operand.tmp 17), guard := none, hints := [(17, Hint.obj 17)] }]
def pc56_c4 : PCode := .region none true pc56_o4
def pc56_c5 : PCode := .ret
def pc56_c6 : PCode := .seq pc56_c4 pc56_c5
def pc56_o7 : List POper := [{ dst := some 19, op := POp.prim (Prim.bin BinOp.eql 3 false true) [Operand.tmp 6, Operand.const (Value.int IntKind.i64 2)], guard := none, hints := [] },
  { dst := some 18, op := POp.mv (Operand.tmp 19), guard := none, hints := [] }]
def pc56_c7 : PCode := .region none false pc56_o7
def pc56_o8 : List POper := [{ dst := some 20, op := POp.mv (Operand.tmp 0), guard := none, hints := [(0, Hint.at_ 1000000 0)] },
  { dst := some 21, op := POp.nilc (Operand.tmp 20), guard := none, hints := [(20, Hint.at_ 1000000 0)] },
  { dst := some 22, op := POp.faddr 1 (Operand.tmp 21), guard := none, hints := [(21, Hint.at_ 1000000 0)] },
  { dst := some 23, op := POp.mv (Operand.tmp 0), guard := none, hints := [(0, Hint.at_ 1000000 0)] },
  { dst := some 24, op := POp.nilc (Operand.tmp 23), guard := none, hints := [(23, Hint.at_ 1000000 0)] },
  { dst := some 25, op := POp.faddr 4 (Operand.tmp 24), guard := none, hints := [(24, Hint.at_ 1000000 0)] },
  { dst := some 26, op := POp.faddr 0 (Operand.tmp 25), guard := none, hints := [(25, Hint.at_ 1000000 4)] },
  { dst := some 27, op := POp.mv (Operand.tmp 0), guard := none, hints := [(0, Hint.at_ 1000000 0)] },
  { dst := some 28, op := POp.nilc (Operand.tmp 27), guard := none, hints := [(27, Hint.at_ 1000000 0)] },
  { dst := some 29, op := POp.faddr 4 (Operand.tmp 28), guard := none, hints := [(28, Hint.at_ 1000000 0)] },
  { dst := some 30, op := POp.faddr 1 (Operand.tmp 29), guard := none, hints := [(29, Hint.at_ 1000000 4)] },
  { dst := some 31, op := POp.bptrs 1 [Operand.tmp 22, Operand.tmp 26, Operand.tmp 30], guard := none, hints := [(22, Hint.at_ 1000000 1), (26, Hint.at_ 1000000 4), (30, Hint.at_ 1000000 5)] },
  { dst := some 2, op := POp.mv (Operand.tmp 31), guard := none, hints := [(31, Hint.obj 31)] }]
def pc56_c8 : PCode := .region none true pc56_o8
def pc56_c9 : PCode := .ret
def pc56_c10 : PCode := .seq pc56_c8 pc56_c9
def pc56_o11 : List POper := [{ dst := some 33, op := POp.prim (Prim.bin BinOp.eql 3 false true) [Operand.tmp 6, Operand.const (Value.int IntKind.i64 3)], guard := none, hints := [] },
  { dst := some 32, op := POp.mv (Operand.tmp 33), guard := none, hints := [] }]
def pc56_c11 : PCode := .region none false pc56_o11
def pc56_o12 : List POper := [{ dst := some 34, op := POp.mv (Operand.tmp 0), guard := none, hints := [(0, Hint.at_ 1000000 0)] },
  { dst := some 35, op := POp.nilc (Operand.tmp 34), guard := none, hints := [(34, Hint.at_ 1000000 0)] },
  { dst := some 36, op := POp.faddr 1 (Operand.tmp 35), guard := none, hints := [(35, Hint.at_ 1000000 0)] },
  { dst := some 37, op := POp.mv (Operand.tmp 0), guard := none, hints := [(0, Hint.at_ 1000000 0)] },
  { dst := some 38, op := POp.nilc (Operand.tmp 37), guard := none, hints := [(37, Hint.at_ 1000000 0)] },
  { dst := some 39, op := POp.faddr 2 (Operand.tmp 38), guard := none, hints := [(38, Hint.at_ 1000000 0)] },
  { dst := some 40, op := POp.bptrs 1 [Operand.tmp 36, Operand.tmp 39], guard := none, hints := [(36, Hint.at_ 1000000 1), (39, Hint.at_ 1000000 2)] },
  { dst := some 2, op := POp.mv (Operand.tmp 40), guard := none, hints := [(40, Hint.obj 40)] }]
def pc56_c12 : PCode := .region none true pc56_o12
def pc56_c13 : PCode := .ret
def pc56_c14 : PCode := .seq pc56_c12 pc56_c13
def pc56_o15 : List POper := [{ dst := some 42, op := POp.prim (Prim.bin BinOp.eql 3 false true) [Operand.tmp 6, Operand.const (Value.int IntKind.i64 4)], guard := none, hints := [] },
  { dst := some 41, op := POp.mv (Operand.tmp 42), guard := none, hints := [] }]
def pc56_c15 : PCode := .region none false pc56_o15
def pc56_o16 : List POper := [{ dst := some 43, op := POp.mv (Operand.tmp 0), guard := none, hints := [] },
  { dst := some 44, op := POp.nilc (Operand.tmp 43), guard := none, hints := [] },
  { dst := some 45, op := POp.faddr 1 (Operand.tmp 44), guard := none, hints := [] },
  { dst := some 46, op := POp.bptrs 1 [Operand.tmp 45], guard := none, hints := [] },
  { dst := some 2, op := POp.mv (Operand.tmp 46), guard := none, hints := [] }]
def pc56_c16 : PCode := .region none false pc56_o16
def pc56_c17 : PCode := .ret
def pc56_c18 : PCode := .seq pc56_c16 pc56_c17
def pc56_o19 : List POper := [{ dst := some 48, op := POp.prim (Prim.bin BinOp.eql 3 false true) [Operand.tmp 6, Operand.const (Value.int IntKind.i64 5)], guard := none, hints := [] },
  { dst := some 47, op := POp.mv (Operand.tmp 48), guard := none, hints := [] }]
def pc56_c19 : PCode := .region none false pc56_o19
def pc56_o20 : List POper := [{ dst := some 49, op := POp.mv (Operand.tmp 0), guard := none, hints := [(0, Hint.at_ 1000000 0)] },
  { dst := some 50, op := POp.nilc (Operand.tmp 49), guard := none, hints := [(49, Hint.at_ 1000000 0)] },
  { dst := some 51, op := POp.faddr 2 (Operand.tmp 50), guard := none, hints := [(50, Hint.at_ 1000000 0)] },
  { dst := some 52, op := POp.mv (Operand.tmp 0), guard := none, hints := [(0, Hint.at_ 1000000 0)] },
  { dst := some 53, op := POp.nilc (Operand.tmp 52), guard := none, hints := [(52, Hint.at_ 1000000 0)] },
  { dst := some 54, op := POp.faddr 3 (Operand.tmp 53), guard := none, hints := [(53, Hint.at_ 1000000 0)] },
  { dst := some 55, op := POp.bptrs 1 [Operand.tmp 51, Operand.tmp 54], guard := none, hints := [(51, Hint.at_ 1000000 2), (54, Hint.at_ 1000000 3)] },
  { dst := some 2, op := POp.mv (Operand.tmp 55), guard := none, hints := [(55, Hint.obj 55)] }]
def pc56_c20 : PCode := .region none true pc56_o20
def pc56_c21 : PCode := .ret
def pc56_c22 : PCode := .seq pc56_c20 pc56_c21
def pc56_o23 : List POper := [{ dst := some 57, op := POp.prim (Prim.bin BinOp.eql 3 false true) [Operand.tmp 6, Operand.const (Value.int IntKind.i64 6)], guard := none, hints := [] },
  { dst := some 56, op := POp.mv (Operand.tmp 57), guard := none, hints := [] }]
def pc56_c23 : PCode := .region none false pc56_o23
def pc56_c24 : PCode := .skip
def pc56_o25 : List POper := [{ dst := some 58, op := POp.prim (Prim.bin BinOp.eql 3 false true) [Operand.tmp 6, Operand.const (Value.int IntKind.i64 7)], guard := none, hints := [] },
  { dst := some 56, op := POp.mv (Operand.tmp 58), guard := none, hints := [] }]
def pc56_c25 : PCode := .region none false pc56_o25
def pc56_c26 : PCode := .cond (Operand.tmp 56) pc56_c24 pc56_c25
def pc56_c27 : PCode := .seq pc56_c23 pc56_c26
def pc56_o28 : List POper := [{ dst := some 59, op := POp.mv (Operand.tmp 0), guard := none, hints := [(0, Hint.at_ 1000000 0)] },
  { dst := some 60, op := POp.nilc (Operand.tmp 59), guard := none, hints := [(59, Hint.at_ 1000000 0)] },
  { dst := some 61, op := POp.faddr 18 (Operand.tmp 60), guard := none, hints := [(60, Hint.at_ 1000000 0)] },
  { dst := some 62, op := POp.faddr 0 (Operand.tmp 61), guard := none, hints := [(61, Hint.at_ 1000000 18)] },
  { dst := some 63, op := POp.mv (Operand.tmp 0), guard := none, hints := [(0, Hint.at_ 1000000 0)] },
  { dst := some 64, op := POp.nilc (Operand.tmp 63), guard := none, hints := [(63, Hint.at_ 1000000 0)] },
  { dst := some 65, op := POp.faddr 18 (Operand.tmp 64), guard := none, hints := [(64, Hint.at_ 1000000 0)] },
  { dst := some 66, op := POp.faddr 1 (Operand.tmp 65), guard := none, hints := [(65, Hint.at_ 1000000 18)] },
  { dst := some 67, op := POp.mv (Operand.tmp 0), guard := none, hints := [(0, Hint.at_ 1000000 0)] },
  { dst := some 68, op := POp.nilc (Operand.tmp 67), guard := none, hints := [(67, Hint.at_ 1000000 0)] },
  { dst := some 69, op := POp.faddr 18 (Operand.tmp 68), guard := none, hints := [(68, Hint.at_ 1000000 0)] },
  { dst := some 70, op := POp.faddr 2 (Operand.tmp 69), guard := none, hints := [(69, Hint.at_ 1000000 18)] },
  { dst := some 71, op := POp.mv (Operand.tmp 0), guard := none, hints := [(0, Hint.at_ 1000000 0)] },
  { dst := some 72, op := POp.nilc (Operand.tmp 71), guard := none, hints := [(71, Hint.at_ 1000000 0)] },
  { dst := some 73, op := POp.faddr 18 (Operand.tmp 72), guard := none, hints := [(72, Hint.at_ 1000000 0)] },
  { dst := some 74, op := POp.faddr 3 (Operand.tmp 73), guard := none, hints := [(73, Hint.at_ 1000000 18)] },
  { dst := some 75, op := POp.bptrs 1 [Operand.tmp 62, Operand.tmp 66, Operand.tmp 70, Operand.tmp 74], guard := none, hints := [(62, Hint.at_ 1000000 18), (66, Hint.at_ 1000000 19), (70, Hint.at_ 1000000 20), (74, Hint.at_ 1000000 21)] },
  { dst := some 2, op := POp.mv (Operand.tmp 75), guard := none, hints := [(75, Hint.obj 75)] }]
def pc56_c28 : PCode := .region (some ([0], [1000000], [])) true pc56_o28
def pc56_c29 : PCode := .ret
def pc56_c30 : PCode := .seq pc56_c28 pc56_c29
def pc56_c31 : PCode := .skip
def pc56_c32 : PCode := .cond (Operand.tmp 56) pc56_c30 pc56_c31
def pc56_c33 : PCode := .seq pc56_c27 pc56_c32
def pc56_c34 : PCode := .cond (Operand.tmp 47) pc56_c22 pc56_c33
def pc56_c35 : PCode := .seq pc56_c19 pc56_c34
def pc56_c36 : PCode := .cond (Operand.tmp 41) pc56_c18 pc56_c35
def pc56_c37 : PCode := .seq pc56_c15 pc56_c36
def pc56_c38 : PCode := .cond (Operand.tmp 32) pc56_c14 pc56_c37
def pc56_c39 : PCode := .seq pc56_c11 pc56_c38
def pc56_c40 : PCode := .cond (Operand.tmp 18) pc56_c10 pc56_c39
def pc56_c41 : PCode := .seq pc56_c7 pc56_c40
def pc56_c42 : PCode := .cond (Operand.tmp 7) pc56_c6 pc56_c41
def pc56_c43 : PCode := .seq pc56_c3 pc56_c42
def pc56_c44 : PCode := .block 0 pc56_c43
def pc56_c45 : PCode := .seq pc56_c2 pc56_c44
def pc56_o46 : List POper := [{ dst := some 2, op := POp.mv (Operand.const (Value.slice none 0 0)), guard := none, hints := [] }]
def pc56_c46 : PCode := .region none false pc56_o46
def pc56_c47 : PCode := .ret
def pc56_c48 : PCode := .seq pc56_c46 pc56_c47
def pc56_c49 : PCode := .seq pc56_c45 pc56_c48
def pc56_c50 : PCode := .seq pc56_c1 pc56_c49
def pc56_r : List PRes := [PRes.tmp 2 [(0, 1)]]
def pc56 : PFunc := ⟨76, pc56_r, pc56_c50, false⟩
def pc56_a : Ann := {
  kr := fun
    | 14 => some ([0], [1000000], [])
    | _ => none
  ka := fun
    | _ => 0
  kh := fun
    | 0 => some (Hint.at_ 1000000 0)
    | 9 => some (Hint.at_ 1000000 0)
    | 10 => some (Hint.at_ 1000000 0)
    | 11 => some (Hint.at_ 1000000 4)
    | 12 => some (Hint.at_ 1000000 4)
    | 13 => some (Hint.at_ 1000000 0)
    | 14 => some (Hint.at_ 1000000 0)
    | 15 => some (Hint.at_ 1000000 4)
    | 16 => some (Hint.at_ 1000000 5)
    | 17 => some (Hint.obj 17)
    | 20 => some (Hint.at_ 1000000 0)
    | 21 => some (Hint.at_ 1000000 0)
    | 22 => some (Hint.at_ 1000000 1)
    | 23 => some (Hint.at_ 1000000 0)
    | 24 => some (Hint.at_ 1000000 0)
    | 25 => some (Hint.at_ 1000000 4)
    | 26 => some (Hint.at_ 1000000 4)
    | 27 => some (Hint.at_ 1000000 0)
    | 28 => some (Hint.at_ 1000000 0)
    | 29 => some (Hint.at_ 1000000 4)
    | 30 => some (Hint.at_ 1000000 5)
    | 31 => some (Hint.obj 31)
    | 34 => some (Hint.at_ 1000000 0)
    | 35 => some (Hint.at_ 1000000 0)
    | 36 => some (Hint.at_ 1000000 1)
    | 37 => some (Hint.at_ 1000000 0)
    | 38 => some (Hint.at_ 1000000 0)
    | 39 => some (Hint.at_ 1000000 2)
    | 40 => some (Hint.obj 40)
    | 49 => some (Hint.at_ 1000000 0)
    | 50 => some (Hint.at_ 1000000 0)
    | 51 => some (Hint.at_ 1000000 2)
    | 52 => some (Hint.at_ 1000000 0)
    | 53 => some (Hint.at_ 1000000 0)
    | 54 => some (Hint.at_ 1000000 3)
    | 55 => some (Hint.obj 55)
    | 59 => some (Hint.at_ 1000000 0)
    | 60 => some (Hint.at_ 1000000 0)
    | 61 => some (Hint.at_ 1000000 18)
    | 62 => some (Hint.at_ 1000000 18)
    | 63 => some (Hint.at_ 1000000 0)
    | 64 => some (Hint.at_ 1000000 0)
    | 65 => some (Hint.at_ 1000000 18)
    | 66 => some (Hint.at_ 1000000 19)
    | 67 => some (Hint.at_ 1000000 0)
    | 68 => some (Hint.at_ 1000000 0)
    | 69 => some (Hint.at_ 1000000 18)
    | 70 => some (Hint.at_ 1000000 20)
    | 71 => some (Hint.at_ 1000000 0)
    | 72 => some (Hint.at_ 1000000 0)
    | 73 => some (Hint.at_ 1000000 18)
    | 74 => some (Hint.at_ 1000000 21)
    | 75 => some (Hint.obj 75)
    | _ => none }
theorem pc56_ok : compFn Try.prog pc56_a Try.f56 = some pc56 := by kernel_rfl


-- 57: vedette/cmd.values
def pc57_o1 : List POper := [{ dst := some 2, op := POp.mv (Operand.const (Value.slice none 0 0)), guard := none, hints := [] }]
def pc57_c1 : PCode := .region none false pc57_o1
def pc57_o2 : List POper := [{ dst := some 3, op := POp.mv (Operand.tmp 0), guard := none, hints := [] },
  { dst := some 4, op := POp.nilc (Operand.tmp 3), guard := none, hints := [] },
  { dst := some 5, op := POp.faddr 0 (Operand.tmp 4), guard := none, hints := [] },
  { dst := some 6, op := POp.load false 1 (Operand.tmp 5), guard := none, hints := [] }]
def pc57_c2 : PCode := .region none false pc57_o2
def pc57_o3 : List POper := [{ dst := some 8, op := POp.prim (Prim.bin BinOp.eql 3 false true) [Operand.tmp 6, Operand.const (Value.int IntKind.i64 1)], guard := none, hints := [] },
  { dst := some 7, op := POp.mv (Operand.tmp 8), guard := none, hints := [] }]
def pc57_c3 : PCode := .region none false pc57_o3
def pc57_o4 : List POper := [{ dst := some 9, op := POp.mv (Operand.tmp 0), guard := none, hints := [(0, Hint.at_ 1000000 0)] },
  { dst := some 10, op := POp.nilc (Operand.tmp 9), guard := none, hints := [(9, Hint.at_ 1000000 0)] },
  { dst := some 11, op := POp.faddr 6 (Operand.tmp 10), guard := none, hints := [(10, Hint.at_ 1000000 0)] },
  { dst := some 12, op := POp.iaddrA 4 2 (Operand.tmp 11) (Operand.const (Value.int IntKind.i64 0)), guard := none, hints := [(11, Hint.at_ 1000000 6)] },
  { dst := some 13, op := POp.mv (Operand.tmp 0), guard := none, hints := [(0, Hint.at_ 1000000 0)] },
  { dst := some 14, op := POp.nilc (Operand.tmp 13), guard := none, hints := [(13, Hint.at_ 1000000 0)] },
  { dst := some 15, op := POp.faddr 6 (Operand.tmp 14), guard := none, hints := [(14, Hint.at_ 1000000 0)] },
  { dst := some 16, op := POp.iaddrA 4 2 (Operand.tmp 15) (Operand.const (Value.int IntKind.i64 1)), guard := none, hints := [(15, Hint.at_ 1000000 6)] },
  { dst := some 17, op := POp.mv (Operand.tmp 0), guard := none, hints := [(0, Hint.at_ 1000000 0)] },
  { dst := some 18, op := POp.nilc (Operand.tmp 17), guard := none, hints := [(17, Hint.at_ 1000000 0)] },
  { dst := some 19, op := POp.faddr 6 (Operand.tmp 18), guard := none, hints := [(18, Hint.at_ 1000000 0)] },
  { dst := some 20, op := POp.iaddrA 4 2 (Operand.tmp 19) (Operand.const (Value.int IntKind.i64 2)), guard := none, hints := [(19, Hint.at_ 1000000 6)] },
  { dst := some 21, op := POp.mv (Operand.tmp 0), guard := none, hints := [(0, Hint.at_ 1000000 0)] },
  { dst := some 22, op := POp.nilc (Operand.tmp 21), guard := none, hints := [(21, Hint.at_ 1000000 0)] },
  { dst := some 23, op := POp.faddr 6 (Operand.tmp 22), guard := none, hints := [(22, Hint.at_ 1000000 0)] },
  { dst := some 24, op := POp.iaddrA 4 2 (Operand.tmp 23) (Operand.const (Value.int IntKind.i64 3)), guard := none, hints := [(23, Hint.at_ 1000000 6)] },
  { dst := some 25, op := POp.bptrs 1 [Operand.tmp 12, Operand.tmp 16, Operand.tmp 20, Operand.tmp 24], guard := none, hints := [(12, Hint.at_ 1000000 6), (16, Hint.at_ 1000000 8), (20, Hint.at_ 1000000 10), (24, Hint.at_ 1000000 12)] },
  { dst := some 2, op := POp.mv (Operand.tmp 25), guard := none, hints := [(25, Hint.obj 25)] }]
def pc57_c4 : PCode := .region none true pc57_o4
def pc57_c5 : PCode := .ret
def pc57_c6 : PCode := .seq pc57_c4 pc57_c5
def pc57_o7 : List POper := [{ dst := some 27, op := POp.prim (Prim.bin BinOp.eql 3 false true) [Operand.tmp 6, Operand.const (Value.int IntKind.i64 3)], guard := none, hints := [] },
  { dst := some 26, op := POp.mv (Operand.tmp 27), guard := none, hints := [] }]
def pc57_c7 : PCode := .region none false pc57_o7
def pc57_o8 : List POper := [{ dst := some 28, op := POp.mv (Operand.tmp 0), guard := none, hints := [] },
  { dst := some 29, op := POp.nilc (Operand.tmp 28), guard := none, hints := [] },
  { dst := some 30, op := POp.faddr 14 (Operand.tmp 29), guard := none, hints := [] },
  { dst := some 31, op := POp.bptrs 1 [Operand.tmp 30], guard := none, hints := [] },
  { dst := some 2, op := POp.mv (Operand.tmp 31), guard := none, hints := [] }]
def pc57_c8 : PCode := .region none false pc57_o8
def pc57_c9 : PCode := .ret
def pc57_c10 : PCode := .seq pc57_c8 pc57_c9
def pc57_c11 : PCode := .skip
def pc57_c12 : PCode := .cond (Operand.tmp 26) pc57_c10 pc57_c11
def pc57_c13 : PCode := .seq pc57_c7 pc57_c12
def pc57_c14 : PCode := .cond (Operand.tmp 7) pc57_c6 pc57_c13
def pc57_c15 : PCode := .seq pc57_c3 pc57_c14
def pc57_c16 : PCode := .block 0 pc57_c15
def pc57_c17 : PCode := .seq pc57_c2 pc57_c16
def pc57_o18 : List POper := [{ dst := some 2, op := POp.mv (Operand.const (Value.slice none 0 0)), guard := none, hints := [] }]
def pc57_c18 : PCode := .region none false pc57_o18
def pc57_c19 : PCode := .ret
def pc57_c20 : PCode := .seq pc57_c18 pc57_c19
def pc57_c21 : PCode := .seq pc57_c17 pc57_c20
def pc57_c22 : PCode := .seq pc57_c1 pc57_c21
def pc57_r : List PRes := [PRes.tmp 2 [(0, 1)]]
def pc57 : PFunc := ⟨32, pc57_r, pc57_c22, false⟩
def pc57_a : Ann := {
  kr := fun
    | _ => none
  ka := fun
    | _ => 0
  kh := fun
    | 0 => some (Hint.at_ 1000000 0)
    | 9 => some (Hint.at_ 1000000 0)
    | 10 => some (Hint.at_ 1000000 0)
    | 11 => some (Hint.at_ 1000000 6)
    | 12 => some (Hint.at_ 1000000 6)
    | 13 => some (Hint.at_ 1000000 0)
    | 14 => some (Hint.at_ 1000000 0)
    | 15 => some (Hint.at_ 1000000 6)
    | 16 => some (Hint.at_ 1000000 8)
    | 17 => some (Hint.at_ 1000000 0)
    | 18 => some (Hint.at_ 1000000 0)
    | 19 => some (Hint.at_ 1000000 6)
    | 20 => some (Hint.at_ 1000000 10)
    | 21 => some (Hint.at_ 1000000 0)
    | 22 => some (Hint.at_ 1000000 0)
    | 23 => some (Hint.at_ 1000000 6)
    | 24 => some (Hint.at_ 1000000 12)
    | 25 => some (Hint.obj 25)
    | _ => none }
theorem pc57_ok : compFn Try.prog pc57_a Try.f57 = some pc57 := by kernel_rfl


-- 34: vedette/cmd.Bytes
def pc34_o1 : List POper := [{ dst := some 1, op := POp.box 57 (Operand.tmp 0) [], guard := none, hints := [] },
  { dst := some 2, op := POp.mv (Operand.const (Value.string { data := { toList := [] } })), guard := none, hints := [] },
  { dst := some 3, op := POp.mv (Operand.const (Value.int IntKind.i64 0)), guard := none, hints := [] }]
def pc34_c1 : PCode := .region none false pc34_o1
def pc34_o2 : List POper := [{ dst := some 9, op := POp.load true 22 (Operand.tmp 1), guard := none, hints := [] },
  { dst := some 10, op := POp.call true [[]] 35 [Operand.tmp 9], guard := none, hints := [] },
  { dst := some 11, op := POp.prim (Prim.un UnOp.not) [Operand.tmp 10], guard := none, hints := [] }]
def pc34_c2 : PCode := .region none false pc34_o2
def pc34_o3 : List POper := [{ dst := some 2, op := POp.mv (Operand.const (Value.string { data := { toList := [] } })), guard := none, hints := [] },
  { dst := some 3, op := POp.mv (Operand.const (Value.int IntKind.i64 11)), guard := none, hints := [] }]
def pc34_c3 : PCode := .region none false pc34_o3
def pc34_c4 : PCode := .ret
def pc34_c5 : PCode := .seq pc34_c3 pc34_c4
def pc34_c6 : PCode := .skip
def pc34_c7 : PCode := .cond (Operand.tmp 11) pc34_c5 pc34_c6
def pc34_c8 : PCode := .seq pc34_c2 pc34_c7
def pc34_o9 : List POper := [{ dst := some 12, op := POp.faddr 0 (Operand.tmp 1), guard := none, hints := [(1, Hint.at_ 1 0)] },
  { dst := some 13, op := POp.load false 1 (Operand.tmp 12), guard := none, hints := [(12, Hint.at_ 1 0)] },
  { dst := some 14, op := POp.call false [[]] 45 [Operand.tmp 13], guard := none, hints := [(13, Hint.imm)] },
  { dst := some 15, op := POp.faddr 16 (Operand.tmp 1), guard := none, hints := [(1, Hint.at_ 1 0)] },
  { dst := some 16, op := POp.load false 1 (Operand.tmp 15), guard := none, hints := [(15, Hint.at_ 1 16)] },
  { dst := some 17, op := POp.call false [[]] 45 [Operand.tmp 16], guard := none, hints := [(16, Hint.imm)] },
  { dst := some 18, op := POp.prim (Prim.bin BinOp.add 9 false false) [Operand.tmp 14, Operand.tmp 17], guard := none, hints := [(14, Hint.imm), (17, Hint.imm)] },
  { dst := some 19, op := POp.faddr 17 (Operand.tmp 1), guard := none, hints := [(1, Hint.at_ 1 0)] },
  { dst := some 20, op := POp.load false 1 (Operand.tmp 19), guard := none, hints := [(19, Hint.at_ 1 17)] },
  { dst := some 21, op := POp.call false [[]] 45 [Operand.tmp 20], guard := none, hints := [(20, Hint.imm)] },
  { dst := some 22, op := POp.prim (Prim.bin BinOp.add 9 false false) [Operand.tmp 18, Operand.tmp 21], guard := none, hints := [(18, Hint.imm), (21, Hint.imm)] },
  { dst := some 4, op := POp.mv (Operand.tmp 22), guard := none, hints := [(22, Hint.imm)] }]
def pc34_c9 : PCode := .region none true pc34_o9
def pc34_o10 : List POper := [{ dst := some 23, op := POp.gcall false false [1, 300000, 300001, 300002, 300003, 300004, 300005, 300006, 300007] [[]] 56 [Operand.tmp 1], guard := none, hints := [] },
  { dst := some 24, op := POp.lenS (Operand.tmp 23), guard := none, hints := [] },
  { dst := some 25, op := POp.mv (Operand.const (Value.int IntKind.i64 0)), guard := none, hints := [] }]
def pc34_c10 : PCode := .region none false pc34_o10
def pc34_o11 : List POper := [{ dst := some 26, op := POp.prim (Prim.bin BinOp.lss 3 false false) [Operand.tmp 25, Operand.tmp 24], guard := none, hints := [] }]
def pc34_c11 : PCode := .region (some ([1, 4, 23, 24, 25], [1, 300000], [])) false pc34_o11
def pc34_c12 : PCode := .skip
def pc34_c13 : PCode := .exit 0
def pc34_c14 : PCode := .cond (Operand.tmp 26) pc34_c12 pc34_c13
def pc34_o15 : List POper := [{ dst := some 27, op := POp.iaddrS 1 (Operand.tmp 23) (Operand.tmp 25), guard := none, hints := [] },
  { dst := some 28, op := POp.load false 1 (Operand.tmp 27), guard := none, hints := [] },
  { dst := some 6, op := POp.mv (Operand.tmp 28), guard := none, hints := [] }]
def pc34_c15 : PCode := .region none false pc34_o15
def pc34_o16 : List POper := [{ dst := some 29, op := POp.mv (Operand.tmp 4), guard := none, hints := [] },
  { dst := some 30, op := POp.mv (Operand.tmp 6), guard := none, hints := [] },
  { dst := some 31, op := POp.nilc (Operand.tmp 30), guard := none, hints := [] },
  { dst := some 32, op := POp.load false 1 (Operand.tmp 31), guard := none, hints := [] },
  { dst := some 33, op := POp.call true [[]] 45 [Operand.tmp 32], guard := none, hints := [] },
  { dst := some 34, op := POp.prim (Prim.bin BinOp.add 9 false false) [Operand.tmp 29, Operand.tmp 33], guard := none, hints := [] },
  { dst := some 4, op := POp.mv (Operand.tmp 34), guard := none, hints := [] }]
def pc34_c16 : PCode := .region none false pc34_o16
def pc34_c17 : PCode := .seq pc34_c15 pc34_c16
def pc34_c18 : PCode := .block 1 pc34_c17
def pc34_o19 : List POper := [{ dst := some 35, op := POp.prim (Prim.bin BinOp.add 3 false true) [Operand.tmp 25, Operand.const (Value.int IntKind.i64 1)], guard := none, hints := [] },
  { dst := some 25, op := POp.mv (Operand.tmp 35), guard := none, hints := [] }]
def pc34_c19 : PCode := .region none false pc34_o19
def pc34_c20 : PCode := .seq pc34_c18 pc34_c19
def pc34_c21 : PCode := .seq pc34_c14 pc34_c20
def pc34_c22 : PCode := .seq pc34_c11 pc34_c21
def pc34_c23 : PCode := .loop pc34_c22
def pc34_c24 : PCode := .block 0 pc34_c23
def pc34_c25 : PCode := .seq pc34_c10 pc34_c24
def pc34_o26 : List POper := [{ dst := some 36, op := POp.gcall false false [1, 300000, 300001, 300002, 300003, 300004, 300005, 300006, 300007] [[]] 57 [Operand.tmp 1], guard := none, hints := [] },
  { dst := some 37, op := POp.lenS (Operand.tmp 36), guard := none, hints := [] },
  { dst := some 38, op := POp.mv (Operand.const (Value.int IntKind.i64 0)), guard := none, hints := [] }]
def pc34_c26 : PCode := .region (some ([1, 4], [1, 300000], [])) false pc34_o26
def pc34_o27 : List POper := [{ dst := some 39, op := POp.prim (Prim.bin BinOp.lss 3 false false) [Operand.tmp 38, Operand.tmp 37], guard := none, hints := [] }]
def pc34_c27 : PCode := .region (some ([4, 36, 37, 38], [1, 300000], [])) false pc34_o27
def pc34_c28 : PCode := .skip
def pc34_c29 : PCode := .exit 2
def pc34_c30 : PCode := .cond (Operand.tmp 39) pc34_c28 pc34_c29
def pc34_o31 : List POper := [{ dst := some 40, op := POp.iaddrS 1 (Operand.tmp 36) (Operand.tmp 38), guard := none, hints := [] },
  { dst := some 41, op := POp.load false 1 (Operand.tmp 40), guard := none, hints := [] },
  { dst := some 8, op := POp.mv (Operand.tmp 41), guard := none, hints := [] }]
def pc34_c31 : PCode := .region none false pc34_o31
def pc34_o32 : List POper := [{ dst := some 42, op := POp.mv (Operand.tmp 4), guard := none, hints := [(4, Hint.imm)] },
  { dst := some 43, op := POp.mv (Operand.tmp 8), guard := none, hints := [(8, Hint.obj 1)] },
  { dst := some 44, op := POp.nilc (Operand.tmp 43), guard := none, hints := [(43, Hint.obj 1)] },
  { dst := some 45, op := POp.faddr 1 (Operand.tmp 44), guard := none, hints := [(44, Hint.obj 1)] },
  { dst := some 46, op := POp.load false 1 (Operand.tmp 45), guard := none, hints := [(45, Hint.obj 1)] },
  { dst := some 47, op := POp.call false [[]] 44 [Operand.tmp 46], guard := none, hints := [(46, Hint.imm)] },
  { dst := some 48, op := POp.mv (Operand.tmp 8), guard := none, hints := [(8, Hint.obj 1)] },
  { dst := some 49, op := POp.nilc (Operand.tmp 48), guard := none, hints := [(48, Hint.obj 1)] },
  { dst := some 50, op := POp.faddr 0 (Operand.tmp 49), guard := none, hints := [(49, Hint.obj 1)] },
  { dst := some 51, op := POp.load false 1 (Operand.tmp 50), guard := none, hints := [(50, Hint.obj 1)] },
  { dst := some 52, op := POp.call false [[]] 45 [Operand.tmp 51], guard := none, hints := [(51, Hint.imm)] },
  { dst := some 53, op := POp.prim (Prim.bin BinOp.add 9 false false) [Operand.tmp 47, Operand.tmp 52], guard := none, hints := [(47, Hint.imm), (52, Hint.imm)] },
  { dst := some 54, op := POp.prim (Prim.bin BinOp.add 9 false false) [Operand.tmp 42, Operand.tmp 53], guard := none, hints := [(42, Hint.imm), (53, Hint.imm)] },
  { dst := some 4, op := POp.mv (Operand.tmp 54), guard := none, hints := [(54, Hint.imm)] }]
def pc34_c32 : PCode := .region none true pc34_o32
def pc34_c33 : PCode := .seq pc34_c31 pc34_c32
def pc34_c34 : PCode := .block 3 pc34_c33
def pc34_o35 : List POper := [{ dst := some 55, op := POp.prim (Prim.bin BinOp.add 3 false true) [Operand.tmp 38, Operand.const (Value.int IntKind.i64 1)], guard := none, hints := [] },
  { dst := some 38, op := POp.mv (Operand.tmp 55), guard := none, hints := [] }]
def pc34_c35 : PCode := .region none false pc34_o35
def pc34_c36 : PCode := .seq pc34_c34 pc34_c35
def pc34_c37 : PCode := .seq pc34_c30 pc34_c36
def pc34_c38 : PCode := .seq pc34_c27 pc34_c37
def pc34_c39 : PCode := .loop pc34_c38
def pc34_c40 : PCode := .block 2 pc34_c39
def pc34_c41 : PCode := .seq pc34_c26 pc34_c40
def pc34_o42 : List POper := [{ dst := some 56, op := POp.mv (Operand.tmp 4), guard := none, hints := [] },
  { dst := some 2, op := POp.mv (Operand.tmp 56), guard := none, hints := [] },
  { dst := some 3, op := POp.mv (Operand.const (Value.int IntKind.i64 0)), guard := none, hints := [] }]
def pc34_c42 : PCode := .region none false pc34_o42
def pc34_c43 : PCode := .ret
def pc34_c44 : PCode := .seq pc34_c42 pc34_c43
def pc34_c45 : PCode := .seq pc34_c41 pc34_c44
def pc34_c46 : PCode := .seq pc34_c25 pc34_c45
def pc34_c47 : PCode := .seq pc34_c9 pc34_c46
def pc34_c48 : PCode := .seq pc34_c8 pc34_c47
def pc34_c49 : PCode := .seq pc34_c1 pc34_c48
def pc34_r : List PRes := [PRes.tmp 2 [], PRes.tmp 3 []]
def pc34 : PFunc := ⟨57, pc34_r, pc34_c49, false⟩
def pc34_a : Ann := {
  kr := fun
    | 5 => some ([1, 4, 23, 24, 25], [1, 300000], [])
    | 9 => some ([1, 4], [1, 300000], [])
    | 10 => some ([4, 36, 37, 38], [1, 300000], [])
    | _ => none
  ka := fun
    | _ => 0
  kh := fun
    | 1 => some (Hint.at_ 1 0)
    | 4 => some (Hint.imm)
    | 8 => some (Hint.obj 1)
    | 12 => some (Hint.at_ 1 0)
    | 13 => some (Hint.imm)
    | 14 => some (Hint.imm)
    | 15 => some (Hint.at_ 1 16)
    | 16 => some (Hint.imm)
    | 17 => some (Hint.imm)
    | 18 => some (Hint.imm)
    | 19 => some (Hint.at_ 1 17)
    | 20 => some (Hint.imm)
    | 21 => some (Hint.imm)
    | 22 => some (Hint.imm)
    | 42 => some (Hint.imm)
    | 43 => some (Hint.obj 1)
    | 44 => some (Hint.obj 1)
    | 45 => some (Hint.obj 1)
    | 46 => some (Hint.imm)
    | 47 => some (Hint.imm)
    | 48 => some (Hint.obj 1)
    | 49 => some (Hint.obj 1)
    | 50 => some (Hint.obj 1)
    | 51 => some (Hint.imm)
    | 52 => some (Hint.imm)
    | 53 => some (Hint.imm)
    | 54 => some (Hint.imm)
    | _ => none
  gf := fun d f => match d, f with
    | some 23, 56 => some (false, false, [1, 300000, 300001, 300002, 300003, 300004, 300005, 300006, 300007])
    | some 36, 57 => some (false, false, [1, 300000, 300001, 300002, 300003, 300004, 300005, 300006, 300007])
    | _, _ => none }
theorem pc34_ok : compFn Try.prog pc34_a Try.f34 = some pc34 := by kernel_rfl


-- 37: vedette/cmd.Watches
def pc37_o1 : List POper := [{ dst := some 1, op := POp.box 57 (Operand.tmp 0) [], guard := none, hints := [] },
  { dst := some 2, op := POp.mv (Operand.const (Value.bool false)), guard := none, hints := [] }]
def pc37_c1 : PCode := .region none false pc37_o1
def pc37_o2 : List POper := [{ dst := some 3, op := POp.faddr 0 (Operand.tmp 1), guard := none, hints := [] },
  { dst := some 4, op := POp.load false 1 (Operand.tmp 3), guard := none, hints := [] },
  { dst := some 5, op := POp.prim (Prim.bin BinOp.geq 3 false true) [Operand.tmp 4, Operand.const (Value.int IntKind.i64 6)], guard := none, hints := [] },
  { dst := some 6, op := POp.mv (Operand.tmp 5), guard := none, hints := [] },
  { dst := some 7, op := POp.faddr 0 (Operand.tmp 1), guard := some (6, true), hints := [] },
  { dst := some 8, op := POp.load false 1 (Operand.tmp 7), guard := some (6, true), hints := [] },
  { dst := some 9, op := POp.prim (Prim.bin BinOp.leq 3 false true) [Operand.tmp 8, Operand.const (Value.int IntKind.i64 8)], guard := some (6, true), hints := [] },
  { dst := some 10, op := POp.pick (Operand.tmp 6) (Operand.tmp 9) (Operand.const (Value.bool false)), guard := none, hints := [] },
  { dst := some 2, op := POp.mv (Operand.tmp 10), guard := none, hints := [] }]
def pc37_c2 : PCode := .region none false pc37_o2
def pc37_c3 : PCode := .ret
def pc37_c4 : PCode := .seq pc37_c2 pc37_c3
def pc37_c5 : PCode := .seq pc37_c1 pc37_c4
def pc37_r : List PRes := [PRes.tmp 2 []]
def pc37 : PFunc := ⟨11, pc37_r, pc37_c5, false⟩
def pc37_a : Ann := {
  kr := fun
    | _ => none
  ka := fun
    | _ => 0
  kh := fun
    | _ => none }
theorem pc37_ok : compFn Try.prog pc37_a Try.f37 = some pc37 := by kernel_rfl


-- 39: vedette/cmd.Same
def pc39_o1 : List POper := [{ dst := some 2, op := POp.box 57 (Operand.tmp 0) [], guard := none, hints := [] },
  { dst := some 3, op := POp.box 57 (Operand.tmp 1) [], guard := none, hints := [] },
  { dst := some 4, op := POp.mv (Operand.const (Value.bool false)), guard := none, hints := [] }]
def pc39_c1 : PCode := .region none false pc39_o1
def pc39_o2 : List POper := [{ dst := some 5, op := POp.load true 22 (Operand.tmp 2), guard := none, hints := [] },
  { dst := some 6, op := POp.load true 22 (Operand.tmp 3), guard := none, hints := [] },
  { dst := some 7, op := POp.prim (Prim.bin BinOp.eql 57 false false) [Operand.tmp 5, Operand.tmp 6], guard := none, hints := [] },
  { dst := some 4, op := POp.mv (Operand.tmp 7), guard := none, hints := [] }]
def pc39_c2 : PCode := .region none false pc39_o2
def pc39_c3 : PCode := .ret
def pc39_c4 : PCode := .seq pc39_c2 pc39_c3
def pc39_c5 : PCode := .seq pc39_c1 pc39_c4
def pc39_r : List PRes := [PRes.tmp 4 []]
def pc39 : PFunc := ⟨8, pc39_r, pc39_c5, false⟩
def pc39_a : Ann := {
  kr := fun
    | _ => none
  ka := fun
    | _ => 0
  kh := fun
    | _ => none }
theorem pc39_ok : compFn Try.prog pc39_a Try.f39 = some pc39 := by kernel_rfl


-- 70: vedette/num.Get
def pc70_o1 : List POper := [{ dst := some 2, op := POp.mv (Operand.const (Value.int IntKind.u64 0)), guard := none, hints := [] },
  { dst := some 3, op := POp.mv (Operand.const (Value.int IntKind.i64 0)), guard := none, hints := [] },
  { dst := some 4, op := POp.mv (Operand.const (Value.int IntKind.i64 0)), guard := none, hints := [] }]
def pc70_c1 : PCode := .region none false pc70_o1
def pc70_o2 : List POper := [{ dst := some 5, op := POp.mv (Operand.const (Value.int IntKind.u64 0)), guard := none, hints := [] },
  { dst := some 6, op := POp.mv (Operand.const (Value.int IntKind.i64 0)), guard := none, hints := [] }]
def pc70_c2 : PCode := .region none false pc70_o2
def pc70_c3 : PCode := .label
def pc70_o4 : List POper := [{ dst := some 9, op := POp.mv (Operand.tmp 0), guard := none, hints := [] },
  { dst := some 10, op := POp.s2b 5 (Operand.tmp 9), guard := none, hints := [] },
  { dst := some 11, op := POp.lenS (Operand.tmp 10), guard := none, hints := [] },
  { dst := some 12, op := POp.mv (Operand.const (Value.int IntKind.i64 0)), guard := none, hints := [] }]
def pc70_c4 : PCode := .region none false pc70_o4
def pc70_o5 : List POper := [{ dst := some 13, op := POp.prim (Prim.bin BinOp.lss 3 false false) [Operand.tmp 12, Operand.tmp 11], guard := none, hints := [] }]
def pc70_c5 : PCode := .region (some ([5, 6, 10, 11, 12], [], [])) false pc70_o5
def pc70_c6 : PCode := .skip
def pc70_c7 : PCode := .exit 0
def pc70_c8 : PCode := .cond (Operand.tmp 13) pc70_c6 pc70_c7
def pc70_o9 : List POper := [{ dst := some 14, op := POp.mv (Operand.tmp 12), guard := none, hints := [] },
  { dst := some 15, op := POp.iaddrS 1 (Operand.tmp 10) (Operand.tmp 12), guard := none, hints := [] },
  { dst := some 16, op := POp.load false 1 (Operand.tmp 15), guard := none, hints := [] },
  { dst := some 7, op := POp.mv (Operand.tmp 14), guard := none, hints := [] },
  { dst := some 8, op := POp.mv (Operand.tmp 16), guard := none, hints := [] }]
def pc70_c9 : PCode := .region none false pc70_o9
def pc70_o10 : List POper := [{ dst := some 18, op := POp.mv (Operand.tmp 7), guard := none, hints := [] },
  { dst := some 19, op := POp.prim (Prim.bin BinOp.eql 3 false true) [Operand.tmp 18, Operand.const (Value.int IntKind.i64 9)], guard := none, hints := [] },
  { dst := some 20, op := POp.mv (Operand.tmp 19), guard := none, hints := [] },
  { dst := some 21, op := POp.mv (Operand.tmp 8), guard := some (20, true), hints := [] },
  { dst := some 22, op := POp.prim (Prim.bin BinOp.gtr 5 false true) [Operand.tmp 21, Operand.const (Value.int IntKind.u8 1)], guard := some (20, true), hints := [] },
  { dst := some 23, op := POp.pick (Operand.tmp 20) (Operand.tmp 22) (Operand.const (Value.bool false)), guard := none, hints := [] },
  { dst := some 17, op := POp.mv (Operand.tmp 23), guard := none, hints := [] }]
def pc70_c10 : PCode := .region none false pc70_o10
def pc70_c11 : PCode := .skip
def pc70_o12 : List POper := [{ dst := some 24, op := POp.mv (Operand.tmp 7), guard := none, hints := [] },
  { dst := some 25, op := POp.prim (Prim.bin BinOp.gtr 3 false true) [Operand.tmp 24, Operand.const (Value.int IntKind.i64 0)], guard := none, hints := [] },
  { dst := some 26, op := POp.mv (Operand.tmp 25), guard := none, hints := [] },
  { dst := some 27, op := POp.mv (Operand.tmp 8), guard := some (26, true), hints := [] },
  { dst := some 28, op := POp.prim (Prim.bin BinOp.eql 5 false true) [Operand.tmp 27, Operand.const (Value.int IntKind.u8 0)], guard := some (26, true), hints := [] },
  { dst := some 29, op := POp.pick (Operand.tmp 26) (Operand.tmp 28) (Operand.const (Value.bool false)), guard := none, hints := [] },
  { dst := some 17, op := POp.mv (Operand.tmp 29), guard := none, hints := [] }]
def pc70_c12 : PCode := .region (some ([5, 6, 7, 8, 10, 11, 12], [], [])) false pc70_o12
def pc70_c13 : PCode := .cond (Operand.tmp 17) pc70_c11 pc70_c12
def pc70_c14 : PCode := .seq pc70_c10 pc70_c13
def pc70_o15 : List POper := [{ dst := some 2, op := POp.mv (Operand.const (Value.int IntKind.u64 0)), guard := none, hints := [] },
  { dst := some 3, op := POp.mv (Operand.const (Value.int IntKind.i64 0)), guard := none, hints := [] },
  { dst := some 4, op := POp.mv (Operand.const (Value.int IntKind.i64 11)), guard := none, hints := [] }]
def pc70_c15 : PCode := .region none false pc70_o15
def pc70_c16 : PCode := .ret
def pc70_c17 : PCode := .seq pc70_c15 pc70_c16
def pc70_o18 : List POper := [{ dst := some 31, op := POp.mv (Operand.tmp 8), guard := none, hints := [] },
  { dst := some 32, op := POp.prim (Prim.bin BinOp.lss 5 false true) [Operand.tmp 31, Operand.const (Value.int IntKind.u8 128)], guard := none, hints := [] },
  { dst := some 30, op := POp.mv (Operand.tmp 32), guard := none, hints := [] }]
def pc70_c18 : PCode := .region (some ([5, 6, 7, 8, 10, 11, 12], [], [])) false pc70_o18
def pc70_o19 : List POper := [{ dst := some 33, op := POp.mv (Operand.tmp 5), guard := none, hints := [] },
  { dst := some 34, op := POp.mv (Operand.tmp 8), guard := none, hints := [] },
  { dst := some 35, op := POp.prim (Prim.conv 5 70) [Operand.tmp 34], guard := none, hints := [] },
  { dst := some 36, op := POp.mv (Operand.tmp 7), guard := none, hints := [] },
  { dst := some 37, op := POp.prim (Prim.bin BinOp.mul 3 true false) [Operand.const (Value.int IntKind.i64 7), Operand.tmp 36], guard := none, hints := [] },
  { dst := some 38, op := POp.prim (Prim.bin BinOp.shl 70 false false) [Operand.tmp 35, Operand.tmp 37], guard := none, hints := [] },
  { dst := some 39, op := POp.prim (Prim.bin BinOp.or 70 false false) [Operand.tmp 33, Operand.tmp 38], guard := none, hints := [] },
  { dst := some 5, op := POp.mv (Operand.tmp 39), guard := none, hints := [] }]
def pc70_c19 : PCode := .region none false pc70_o19
def pc70_o20 : List POper := [{ dst := some 40, op := POp.mv (Operand.tmp 7), guard := none, hints := [] },
  { dst := some 41, op := POp.prim (Prim.bin BinOp.add 3 false true) [Operand.tmp 40, Operand.const (Value.int IntKind.i64 1)], guard := none, hints := [] },
  { dst := some 6, op := POp.mv (Operand.tmp 41), guard := none, hints := [] }]
def pc70_c20 : PCode := .region none false pc70_o20
def pc70_c21 : PCode := .exit 0
def pc70_c22 : PCode := .seq pc70_c20 pc70_c21
def pc70_c23 : PCode := .seq pc70_c19 pc70_c22
def pc70_c24 : PCode := .skip
def pc70_c25 : PCode := .cond (Operand.tmp 30) pc70_c23 pc70_c24
def pc70_c26 : PCode := .seq pc70_c18 pc70_c25
def pc70_c27 : PCode := .cond (Operand.tmp 17) pc70_c17 pc70_c26
def pc70_c28 : PCode := .seq pc70_c14 pc70_c27
def pc70_c29 : PCode := .block 2 pc70_c28
def pc70_o30 : List POper := [{ dst := some 42, op := POp.mv (Operand.tmp 5), guard := none, hints := [] },
  { dst := some 43, op := POp.mv (Operand.tmp 8), guard := none, hints := [] },
  { dst := some 44, op := POp.prim (Prim.bin BinOp.andNot 5 false true) [Operand.tmp 43, Operand.const (Value.int IntKind.u8 128)], guard := none, hints := [] },
  { dst := some 45, op := POp.prim (Prim.conv 5 70) [Operand.tmp 44], guard := none, hints := [] },
  { dst := some 46, op := POp.mv (Operand.tmp 7), guard := none, hints := [] },
  { dst := some 47, op := POp.prim (Prim.bin BinOp.mul 3 true false) [Operand.const (Value.int IntKind.i64 7), Operand.tmp 46], guard := none, hints := [] },
  { dst := some 48, op := POp.prim (Prim.bin BinOp.shl 70 false false) [Operand.tmp 45, Operand.tmp 47], guard := none, hints := [] },
  { dst := some 49, op := POp.prim (Prim.bin BinOp.or 70 false false) [Operand.tmp 42, Operand.tmp 48], guard := none, hints := [] },
  { dst := some 5, op := POp.mv (Operand.tmp 49), guard := none, hints := [] }]
def pc70_c30 : PCode := .region none false pc70_o30
def pc70_c31 : PCode := .seq pc70_c29 pc70_c30
def pc70_c32 : PCode := .seq pc70_c9 pc70_c31
def pc70_c33 : PCode := .block 1 pc70_c32
def pc70_o34 : List POper := [{ dst := some 50, op := POp.prim (Prim.bin BinOp.add 3 false true) [Operand.tmp 12, Operand.const (Value.int IntKind.i64 1)], guard := none, hints := [] },
  { dst := some 12, op := POp.mv (Operand.tmp 50), guard := none, hints := [] }]
def pc70_c34 : PCode := .region none false pc70_o34
def pc70_c35 : PCode := .seq pc70_c33 pc70_c34
def pc70_c36 : PCode := .seq pc70_c8 pc70_c35
def pc70_c37 : PCode := .seq pc70_c5 pc70_c36
def pc70_c38 : PCode := .loop pc70_c37
def pc70_c39 : PCode := .block 0 pc70_c38
def pc70_c40 : PCode := .seq pc70_c4 pc70_c39
def pc70_o41 : List POper := [{ dst := some 51, op := POp.mv (Operand.tmp 6), guard := none, hints := [] },
  { dst := some 52, op := POp.prim (Prim.bin BinOp.eql 3 false true) [Operand.tmp 51, Operand.const (Value.int IntKind.i64 0)], guard := none, hints := [] }]
def pc70_c41 : PCode := .region (some ([5, 6], [], [])) false pc70_o41
def pc70_o42 : List POper := [{ dst := some 2, op := POp.mv (Operand.const (Value.int IntKind.u64 0)), guard := none, hints := [] },
  { dst := some 3, op := POp.mv (Operand.const (Value.int IntKind.i64 0)), guard := none, hints := [] },
  { dst := some 4, op := POp.mv (Operand.const (Value.int IntKind.i64 10)), guard := none, hints := [] }]
def pc70_c42 : PCode := .region none false pc70_o42
def pc70_c43 : PCode := .ret
def pc70_c44 : PCode := .seq pc70_c42 pc70_c43
def pc70_c45 : PCode := .skip
def pc70_c46 : PCode := .cond (Operand.tmp 52) pc70_c44 pc70_c45
def pc70_c47 : PCode := .seq pc70_c41 pc70_c46
def pc70_o48 : List POper := [{ dst := some 53, op := POp.mv (Operand.tmp 5), guard := none, hints := [] },
  { dst := some 54, op := POp.mv (Operand.tmp 6), guard := none, hints := [] },
  { dst := some 2, op := POp.mv (Operand.tmp 53), guard := none, hints := [] },
  { dst := some 3, op := POp.mv (Operand.tmp 54), guard := none, hints := [] },
  { dst := some 4, op := POp.mv (Operand.const (Value.int IntKind.i64 0)), guard := none, hints := [] }]
def pc70_c48 : PCode := .region none false pc70_o48
def pc70_c49 : PCode := .ret
def pc70_c50 : PCode := .seq pc70_c48 pc70_c49
def pc70_c51 : PCode := .seq pc70_c47 pc70_c50
def pc70_c52 : PCode := .seq pc70_c40 pc70_c51
def pc70_c53 : PCode := .seq pc70_c3 pc70_c52
def pc70_c54 : PCode := .seq pc70_c2 pc70_c53
def pc70_c55 : PCode := .scope pc70_c54
def pc70_c56 : PCode := .seq pc70_c1 pc70_c55
def pc70_r : List PRes := [PRes.tmp 2 [], PRes.tmp 3 [], PRes.tmp 4 []]
def pc70 : PFunc := ⟨55, pc70_r, pc70_c56, false⟩
def pc70_a : Ann := {
  kr := fun
    | 3 => some ([5, 6, 10, 11, 12], [], [])
    | 6 => some ([5, 6, 7, 8, 10, 11, 12], [], [])
    | 8 => some ([5, 6, 7, 8, 10, 11, 12], [], [])
    | 13 => some ([5, 6], [], [])
    | _ => none
  ka := fun
    | _ => 0
  kh := fun
    | _ => none }
theorem pc70_ok : compFn Try.prog pc70_a Try.f70 = some pc70 := by kernel_rfl


-- 74: vedette/num.Zag
def pc74_o1 : List POper := [{ dst := some 2, op := POp.mv (Operand.const (Value.int IntKind.i64 0)), guard := none, hints := [] }]
def pc74_c1 : PCode := .region none false pc74_o1
def pc74_o2 : List POper := [{ dst := some 3, op := POp.mv (Operand.tmp 0), guard := none, hints := [] },
  { dst := some 4, op := POp.prim (Prim.bin BinOp.shr 70 false true) [Operand.tmp 3, Operand.const (Value.int IntKind.u64 1)], guard := none, hints := [] },
  { dst := some 5, op := POp.prim (Prim.conv 70 2) [Operand.tmp 4], guard := none, hints := [] },
  { dst := some 6, op := POp.mv (Operand.tmp 0), guard := none, hints := [] },
  { dst := some 7, op := POp.prim (Prim.bin BinOp.and 70 false true) [Operand.tmp 6, Operand.const (Value.int IntKind.u64 1)], guard := none, hints := [] },
  { dst := some 8, op := POp.prim (Prim.conv 70 2) [Operand.tmp 7], guard := none, hints := [] },
  { dst := some 9, op := POp.prim (Prim.un UnOp.neg) [Operand.tmp 8], guard := none, hints := [] },
  { dst := some 10, op := POp.prim (Prim.bin BinOp.xor 2 false false) [Operand.tmp 5, Operand.tmp 9], guard := none, hints := [] },
  { dst := some 2, op := POp.mv (Operand.tmp 10), guard := none, hints := [] }]
def pc74_c2 : PCode := .region none false pc74_o2
def pc74_c3 : PCode := .ret
def pc74_c4 : PCode := .seq pc74_c2 pc74_c3
def pc74_c5 : PCode := .seq pc74_c1 pc74_c4
def pc74_r : List PRes := [PRes.tmp 2 []]
def pc74 : PFunc := ⟨11, pc74_r, pc74_c5, false⟩
def pc74_a : Ann := {
  kr := fun
    | _ => none
  ka := fun
    | _ => 0
  kh := fun
    | _ => none }
theorem pc74_ok : compFn Try.prog pc74_a Try.f74 = some pc74 := by kernel_rfl


-- 65: vedette/num.Ints
def pc65_o1 : List POper := [{ dst := some 2, op := POp.mv (Operand.const (Value.int IntKind.i64 0)), guard := none, hints := [] },
  { dst := some 3, op := POp.mv (Operand.const (Value.int IntKind.i64 0)), guard := none, hints := [] },
  { dst := some 4, op := POp.mv (Operand.const (Value.int IntKind.i64 0)), guard := none, hints := [] }]
def pc65_c1 : PCode := .region none false pc65_o1
def pc65_o2 : List POper := [{ dst := some 9, op := POp.mv (Operand.tmp 0), guard := none, hints := [] },
  { dst := some 10, op := POp.call true [[]] 70 [Operand.tmp 9], guard := none, hints := [] },
  { dst := some 8, op := POp.mv (Operand.tmp 10), guard := none, hints := [] },
  { dst := some 11, op := POp.ext (Operand.tmp 8) 0, guard := none, hints := [] },
  { dst := some 12, op := POp.ext (Operand.tmp 8) 1, guard := none, hints := [] },
  { dst := some 13, op := POp.ext (Operand.tmp 8) 2, guard := none, hints := [] },
  { dst := some 5, op := POp.mv (Operand.tmp 11), guard := none, hints := [] },
  { dst := some 6, op := POp.mv (Operand.tmp 12), guard := none, hints := [] },
  { dst := some 7, op := POp.mv (Operand.tmp 13), guard := none, hints := [] }]
def pc65_c2 : PCode := .region none false pc65_o2
def pc65_o3 : List POper := [{ dst := some 14, op := POp.mv (Operand.tmp 5), guard := none, hints := [] },
  { dst := some 15, op := POp.call true [[]] 74 [Operand.tmp 14], guard := none, hints := [] },
  { dst := some 16, op := POp.mv (Operand.tmp 6), guard := none, hints := [] },
  { dst := some 17, op := POp.mv (Operand.tmp 7), guard := none, hints := [] },
  { dst := some 2, op := POp.mv (Operand.tmp 15), guard := none, hints := [] },
  { dst := some 3, op := POp.mv (Operand.tmp 16), guard := none, hints := [] },
  { dst := some 4, op := POp.mv (Operand.tmp 17), guard := none, hints := [] }]
def pc65_c3 : PCode := .region none false pc65_o3
def pc65_c4 : PCode := .ret
def pc65_c5 : PCode := .seq pc65_c3 pc65_c4
def pc65_c6 : PCode := .seq pc65_c2 pc65_c5
def pc65_c7 : PCode := .seq pc65_c1 pc65_c6
def pc65_r : List PRes := [PRes.tmp 2 [], PRes.tmp 3 [], PRes.tmp 4 []]
def pc65 : PFunc := ⟨18, pc65_r, pc65_c7, false⟩
def pc65_a : Ann := {
  kr := fun
    | _ => none
  ka := fun
    | _ => 0
  kh := fun
    | _ => none }
theorem pc65_ok : compFn Try.prog pc65_a Try.f65 = some pc65 := by kernel_rfl


-- 64: vedette/cmd.Read$1
def pc64_o1 : List POper := [{ dst := some 2, op := POp.mv (Operand.const (Value.int IntKind.i64 0)), guard := none, hints := [] },
  { dst := some 3, op := POp.mv (Operand.const (Value.int IntKind.i64 0)), guard := none, hints := [] }]
def pc64_c1 : PCode := .region none false pc64_o1
def pc64_o2 : List POper := [{ dst := some 8, op := POp.load false 1 (Operand.tmp 0), guard := none, hints := [] },
  { dst := some 9, op := POp.load false 1 (Operand.tmp 1), guard := none, hints := [] },
  { dst := some 10, op := POp.prim (Prim.slice 9 true false) [Operand.tmp 8, Operand.tmp 9], guard := none, hints := [] },
  { dst := some 11, op := POp.call true [[]] 65 [Operand.tmp 10], guard := none, hints := [] },
  { dst := some 7, op := POp.mv (Operand.tmp 11), guard := none, hints := [] },
  { dst := some 12, op := POp.ext (Operand.tmp 7) 0, guard := none, hints := [] },
  { dst := some 13, op := POp.ext (Operand.tmp 7) 1, guard := none, hints := [] },
  { dst := some 14, op := POp.ext (Operand.tmp 7) 2, guard := none, hints := [] },
  { dst := some 4, op := POp.mv (Operand.tmp 12), guard := none, hints := [] },
  { dst := some 5, op := POp.mv (Operand.tmp 13), guard := none, hints := [] },
  { dst := some 6, op := POp.mv (Operand.tmp 14), guard := none, hints := [] }]
def pc64_c2 : PCode := .region none false pc64_o2
def pc64_o3 : List POper := [{ dst := some 15, op := POp.load false 1 (Operand.tmp 1), guard := none, hints := [] },
  { dst := some 16, op := POp.mv (Operand.tmp 5), guard := none, hints := [] },
  { dst := some 17, op := POp.prim (Prim.bin BinOp.add 3 false false) [Operand.tmp 15, Operand.tmp 16], guard := none, hints := [] },
  { dst := none, op := POp.store 1 (Operand.tmp 1) (Operand.tmp 17), guard := none, hints := [] }]
def pc64_c3 : PCode := .region none false pc64_o3
def pc64_o4 : List POper := [{ dst := some 18, op := POp.mv (Operand.tmp 4), guard := none, hints := [] },
  { dst := some 19, op := POp.mv (Operand.tmp 6), guard := none, hints := [] },
  { dst := some 2, op := POp.mv (Operand.tmp 18), guard := none, hints := [] },
  { dst := some 3, op := POp.mv (Operand.tmp 19), guard := none, hints := [] }]
def pc64_c4 : PCode := .region none false pc64_o4
def pc64_c5 : PCode := .ret
def pc64_c6 : PCode := .seq pc64_c4 pc64_c5
def pc64_c7 : PCode := .seq pc64_c3 pc64_c6
def pc64_c8 : PCode := .seq pc64_c2 pc64_c7
def pc64_c9 : PCode := .seq pc64_c1 pc64_c8
def pc64_r : List PRes := [PRes.tmp 2 [], PRes.tmp 3 []]
def pc64 : PFunc := ⟨20, pc64_r, pc64_c9, false⟩
def pc64_a : Ann := {
  kr := fun
    | _ => none
  ka := fun
    | _ => 0
  kh := fun
    | _ => none }
theorem pc64_ok : compFn Try.prog pc64_a Try.f64 = some pc64 := by kernel_rfl


-- 66: vedette/cmd.Read$2
def pc66_o1 : List POper := [{ dst := some 3, op := POp.mv (Operand.const (Value.int IntKind.i64 0)), guard := none, hints := [] }]
def pc66_c1 : PCode := .region none false pc66_o1
def pc66_o2 : List POper := [{ dst := some 8, op := POp.mv (Operand.tmp 0), guard := none, hints := [] },
  { dst := some 9, op := POp.lenS (Operand.tmp 8), guard := none, hints := [] },
  { dst := some 10, op := POp.mv (Operand.const (Value.int IntKind.i64 0)), guard := none, hints := [] }]
def pc66_c2 : PCode := .region none false pc66_o2
def pc66_o3 : List POper := [{ dst := some 11, op := POp.prim (Prim.bin BinOp.lss 3 false false) [Operand.tmp 10, Operand.tmp 9], guard := none, hints := [] }]
def pc66_c3 : PCode := .region (some ([1, 8, 9, 10], [1000000, 1000001, 1000002, 1000003, 1000004], [])) false pc66_o3
def pc66_c4 : PCode := .skip
def pc66_c5 : PCode := .exit 0
def pc66_c6 : PCode := .cond (Operand.tmp 11) pc66_c4 pc66_c5
def pc66_o7 : List POper := [{ dst := some 12, op := POp.iaddrS 1 (Operand.tmp 8) (Operand.tmp 10), guard := none, hints := [] },
  { dst := some 13, op := POp.load false 1 (Operand.tmp 12), guard := none, hints := [] },
  { dst := some 5, op := POp.mv (Operand.tmp 13), guard := none, hints := [] }]
def pc66_c7 : PCode := .region none false pc66_o7
def pc66_o8 : List POper := [{ dst := some 15, op := POp.load false 1 (Operand.tmp 1), guard := none, hints := [] },
  { dst := some 16, op := POp.gcallv false false [300000, 300001, 300002, 300003, 300004, 300005, 300006, 300007, 1000003, 1000004] [] (Operand.tmp 15) [], guard := none, hints := [] },
  { dst := some 14, op := POp.mv (Operand.tmp 16), guard := none, hints := [] },
  { dst := some 17, op := POp.ext (Operand.tmp 14) 0, guard := none, hints := [] },
  { dst := some 18, op := POp.ext (Operand.tmp 14) 1, guard := none, hints := [] },
  { dst := some 6, op := POp.mv (Operand.tmp 17), guard := none, hints := [] },
  { dst := some 7, op := POp.mv (Operand.tmp 18), guard := none, hints := [] }]
def pc66_c8 : PCode := .region none false pc66_o8
def pc66_o9 : List POper := [{ dst := some 19, op := POp.mv (Operand.tmp 7), guard := none, hints := [] },
  { dst := some 20, op := POp.prim (Prim.bin BinOp.neq 37 false true) [Operand.tmp 19, Operand.const (Value.int IntKind.i64 0)], guard := none, hints := [] }]
def pc66_c9 : PCode := .region none false pc66_o9
def pc66_o10 : List POper := [{ dst := some 21, op := POp.mv (Operand.tmp 7), guard := none, hints := [] },
  { dst := some 3, op := POp.mv (Operand.tmp 21), guard := none, hints := [] }]
def pc66_c10 : PCode := .region none false pc66_o10
def pc66_c11 : PCode := .ret
def pc66_c12 : PCode := .seq pc66_c10 pc66_c11
def pc66_c13 : PCode := .skip
def pc66_c14 : PCode := .cond (Operand.tmp 20) pc66_c12 pc66_c13
def pc66_c15 : PCode := .seq pc66_c9 pc66_c14
def pc66_o16 : List POper := [{ dst := some 22, op := POp.mv (Operand.tmp 5), guard := none, hints := [] },
  { dst := some 23, op := POp.mv (Operand.tmp 6), guard := none, hints := [] },
  { dst := some 24, op := POp.prim Prim.max [Operand.tmp 23, Operand.const (Value.int IntKind.i64 (-1000001))], guard := none, hints := [] },
  { dst := some 25, op := POp.prim Prim.min [Operand.tmp 24, Operand.const (Value.int IntKind.i64 1000001)], guard := none, hints := [] },
  { dst := some 26, op := POp.nilc (Operand.tmp 22), guard := none, hints := [] },
  { dst := none, op := POp.store 1 (Operand.tmp 26) (Operand.tmp 25), guard := none, hints := [] }]
def pc66_c16 : PCode := .region none false pc66_o16
def pc66_c17 : PCode := .seq pc66_c15 pc66_c16
def pc66_c18 : PCode := .seq pc66_c8 pc66_c17
def pc66_c19 : PCode := .seq pc66_c7 pc66_c18
def pc66_c20 : PCode := .block 1 pc66_c19
def pc66_o21 : List POper := [{ dst := some 27, op := POp.prim (Prim.bin BinOp.add 3 false true) [Operand.tmp 10, Operand.const (Value.int IntKind.i64 1)], guard := none, hints := [] },
  { dst := some 10, op := POp.mv (Operand.tmp 27), guard := none, hints := [] }]
def pc66_c21 : PCode := .region none false pc66_o21
def pc66_c22 : PCode := .seq pc66_c20 pc66_c21
def pc66_c23 : PCode := .seq pc66_c6 pc66_c22
def pc66_c24 : PCode := .seq pc66_c3 pc66_c23
def pc66_c25 : PCode := .loop pc66_c24
def pc66_c26 : PCode := .block 0 pc66_c25
def pc66_c27 : PCode := .seq pc66_c2 pc66_c26
def pc66_o28 : List POper := [{ dst := some 3, op := POp.mv (Operand.const (Value.int IntKind.i64 0)), guard := none, hints := [] }]
def pc66_c28 : PCode := .region none false pc66_o28
def pc66_c29 : PCode := .ret
def pc66_c30 : PCode := .seq pc66_c28 pc66_c29
def pc66_c31 : PCode := .seq pc66_c27 pc66_c30
def pc66_c32 : PCode := .seq pc66_c1 pc66_c31
def pc66_r : List PRes := [PRes.tmp 3 []]
def pc66 : PFunc := ⟨28, pc66_r, pc66_c32, false⟩
def pc66_a : Ann := {
  kr := fun
    | 2 => some ([1, 8, 9, 10], [1000000, 1000001, 1000002, 1000003, 1000004], [])
    | _ => none
  ka := fun
    | _ => 0
  kh := fun
    | _ => none
  gv := fun d f => match d, f with
    | some 16, 15 => some (false, false, [300000, 300001, 300002, 300003, 300004, 300005, 300006, 300007, 1000003, 1000004])
    | _, _ => none }
theorem pc66_ok : compFn Try.prog pc66_a Try.f66 = some pc66 := by kernel_rfl


-- 67: vedette/num.Texts
def pc67_o1 : List POper := [{ dst := some 4, op := POp.mv (Operand.const (Value.string { data := { toList := [] } })), guard := none, hints := [] },
  { dst := some 5, op := POp.mv (Operand.const (Value.int IntKind.i64 0)), guard := none, hints := [] },
  { dst := some 6, op := POp.mv (Operand.const (Value.int IntKind.i64 0)), guard := none, hints := [] }]
def pc67_c1 : PCode := .region none false pc67_o1
def pc67_o2 : List POper := [{ dst := some 12, op := POp.mv (Operand.tmp 0), guard := none, hints := [] },
  { dst := some 13, op := POp.call true [[]] 70 [Operand.tmp 12], guard := none, hints := [] },
  { dst := some 11, op := POp.mv (Operand.tmp 13), guard := none, hints := [] },
  { dst := some 14, op := POp.ext (Operand.tmp 11) 0, guard := none, hints := [] },
  { dst := some 15, op := POp.ext (Operand.tmp 11) 1, guard := none, hints := [] },
  { dst := some 16, op := POp.ext (Operand.tmp 11) 2, guard := none, hints := [] },
  { dst := some 7, op := POp.mv (Operand.tmp 14), guard := none, hints := [] },
  { dst := some 8, op := POp.mv (Operand.tmp 15), guard := none, hints := [] },
  { dst := some 9, op := POp.mv (Operand.tmp 16), guard := none, hints := [] }]
def pc67_c2 : PCode := .region none false pc67_o2
def pc67_o3 : List POper := [{ dst := some 18, op := POp.mv (Operand.tmp 9), guard := none, hints := [] },
  { dst := some 19, op := POp.prim (Prim.bin BinOp.neq 37 false true) [Operand.tmp 18, Operand.const (Value.int IntKind.i64 0)], guard := none, hints := [] },
  { dst := some 17, op := POp.mv (Operand.tmp 19), guard := none, hints := [] }]
def pc67_c3 : PCode := .region none false pc67_o3
def pc67_o4 : List POper := [{ dst := some 20, op := POp.mv (Operand.tmp 9), guard := none, hints := [] },
  { dst := some 4, op := POp.mv (Operand.const (Value.string { data := { toList := [] } })), guard := none, hints := [] },
  { dst := some 5, op := POp.mv (Operand.const (Value.int IntKind.i64 0)), guard := none, hints := [] },
  { dst := some 6, op := POp.mv (Operand.tmp 20), guard := none, hints := [] }]
def pc67_c4 : PCode := .region none false pc67_o4
def pc67_c5 : PCode := .ret
def pc67_c6 : PCode := .seq pc67_c4 pc67_c5
def pc67_o7 : List POper := [{ dst := some 22, op := POp.mv (Operand.tmp 7), guard := none, hints := [] },
  { dst := some 23, op := POp.mv (Operand.tmp 1), guard := none, hints := [] },
  { dst := some 24, op := POp.prim Prim.max [Operand.tmp 23, Operand.const (Value.int IntKind.i64 0)], guard := none, hints := [] },
  { dst := some 25, op := POp.prim (Prim.conv 3 70) [Operand.tmp 24], guard := none, hints := [] },
  { dst := some 26, op := POp.prim (Prim.bin BinOp.gtr 70 false false) [Operand.tmp 22, Operand.tmp 25], guard := none, hints := [] },
  { dst := some 21, op := POp.mv (Operand.tmp 26), guard := none, hints := [] }]
def pc67_c7 : PCode := .region none false pc67_o7
def pc67_o8 : List POper := [{ dst := some 4, op := POp.mv (Operand.const (Value.string { data := { toList := [] } })), guard := none, hints := [] },
  { dst := some 5, op := POp.mv (Operand.const (Value.int IntKind.i64 0)), guard := none, hints := [] },
  { dst := some 6, op := POp.mv (Operand.const (Value.int IntKind.i64 13)), guard := none, hints := [] }]
def pc67_c8 : PCode := .region none false pc67_o8
def pc67_c9 : PCode := .ret
def pc67_c10 : PCode := .seq pc67_c8 pc67_c9
def pc67_o11 : List POper := [{ dst := some 28, op := POp.mv (Operand.tmp 7), guard := none, hints := [] },
  { dst := some 29, op := POp.mv (Operand.tmp 0), guard := none, hints := [] },
  { dst := some 30, op := POp.prim (Prim.len 9) [Operand.tmp 29], guard := none, hints := [] },
  { dst := some 31, op := POp.mv (Operand.tmp 8), guard := none, hints := [] },
  { dst := some 32, op := POp.prim (Prim.bin BinOp.sub 3 false false) [Operand.tmp 30, Operand.tmp 31], guard := none, hints := [] },
  { dst := some 33, op := POp.prim (Prim.conv 3 70) [Operand.tmp 32], guard := none, hints := [] },
  { dst := some 34, op := POp.prim (Prim.bin BinOp.gtr 70 false false) [Operand.tmp 28, Operand.tmp 33], guard := none, hints := [] },
  { dst := some 27, op := POp.mv (Operand.tmp 34), guard := none, hints := [] }]
def pc67_c11 : PCode := .region none false pc67_o11
def pc67_o12 : List POper := [{ dst := some 4, op := POp.mv (Operand.const (Value.string { data := { toList := [] } })), guard := none, hints := [] },
  { dst := some 5, op := POp.mv (Operand.const (Value.int IntKind.i64 0)), guard := none, hints := [] },
  { dst := some 6, op := POp.mv (Operand.const (Value.int IntKind.i64 10)), guard := none, hints := [] }]
def pc67_c12 : PCode := .region none false pc67_o12
def pc67_c13 : PCode := .ret
def pc67_c14 : PCode := .seq pc67_c12 pc67_c13
def pc67_c15 : PCode := .skip
def pc67_c16 : PCode := .cond (Operand.tmp 27) pc67_c14 pc67_c15
def pc67_c17 : PCode := .seq pc67_c11 pc67_c16
def pc67_c18 : PCode := .cond (Operand.tmp 21) pc67_c10 pc67_c17
def pc67_c19 : PCode := .seq pc67_c7 pc67_c18
def pc67_c20 : PCode := .cond (Operand.tmp 17) pc67_c6 pc67_c19
def pc67_c21 : PCode := .seq pc67_c3 pc67_c20
def pc67_c22 : PCode := .block 0 pc67_c21
def pc67_o23 : List POper := [{ dst := some 35, op := POp.mv (Operand.tmp 8), guard := none, hints := [] },
  { dst := some 36, op := POp.mv (Operand.tmp 7), guard := none, hints := [] },
  { dst := some 37, op := POp.prim (Prim.conv 70 3) [Operand.tmp 36], guard := none, hints := [] },
  { dst := some 38, op := POp.prim (Prim.bin BinOp.add 3 false false) [Operand.tmp 35, Operand.tmp 37], guard := none, hints := [] },
  { dst := some 10, op := POp.mv (Operand.tmp 38), guard := none, hints := [] }]
def pc67_c23 : PCode := .region none false pc67_o23
def pc67_o24 : List POper := [{ dst := some 39, op := POp.mv (Operand.tmp 0), guard := none, hints := [] },
  { dst := some 40, op := POp.mv (Operand.tmp 8), guard := none, hints := [] },
  { dst := some 41, op := POp.mv (Operand.tmp 10), guard := none, hints := [] },
  { dst := some 42, op := POp.prim (Prim.slice 9 true true) [Operand.tmp 39, Operand.tmp 40, Operand.tmp 41], guard := none, hints := [] },
  { dst := some 43, op := POp.mv (Operand.tmp 10), guard := none, hints := [] },
  { dst := some 4, op := POp.mv (Operand.tmp 42), guard := none, hints := [] },
  { dst := some 5, op := POp.mv (Operand.tmp 43), guard := none, hints := [] },
  { dst := some 6, op := POp.mv (Operand.const (Value.int IntKind.i64 0)), guard := none, hints := [] }]
def pc67_c24 : PCode := .region none false pc67_o24
def pc67_c25 : PCode := .ret
def pc67_c26 : PCode := .seq pc67_c24 pc67_c25
def pc67_c27 : PCode := .seq pc67_c23 pc67_c26
def pc67_c28 : PCode := .seq pc67_c22 pc67_c27
def pc67_c29 : PCode := .seq pc67_c2 pc67_c28
def pc67_c30 : PCode := .seq pc67_c1 pc67_c29
def pc67_r : List PRes := [PRes.tmp 4 [], PRes.tmp 5 [], PRes.tmp 6 []]
def pc67 : PFunc := ⟨44, pc67_r, pc67_c30, false⟩
def pc67_a : Ann := {
  kr := fun
    | _ => none
  ka := fun
    | _ => 0
  kh := fun
    | _ => none }
theorem pc67_ok : compFn Try.prog pc67_a Try.f67 = some pc67 := by kernel_rfl


-- 40: vedette/cmd.Read
def pc40_o1 : List POper := [{ dst := some 1, op := POp.box 9 (Operand.tmp 0) [], guard := none, hints := [] },
  { dst := some 2, op := POp.alloc 57 (Value.agg { toList := [Value.int IntKind.i64 0, Value.int IntKind.i64 0, Value.int IntKind.i64 0, Value.int IntKind.i64 0, Value.int IntKind.i64 0, Value.int IntKind.i64 0, Value.int IntKind.i64 0, Value.string { data := { toList := [] } }, Value.int IntKind.i64 0, Value.string { data := { toList := [] } }, Value.int IntKind.i64 0, Value.string { data := { toList := [] } }, Value.int IntKind.i64 0, Value.string { data := { toList := [] } }, Value.int IntKind.i64 0, Value.string { data := { toList := [] } }, Value.int IntKind.i64 0, Value.int IntKind.i64 0, Value.int IntKind.i64 0, Value.int IntKind.i64 0, Value.int IntKind.i64 0, Value.int IntKind.i64 0] }) [], guard := none, hints := [] },
  { dst := some 3, op := POp.mv (Operand.const (Value.int IntKind.i64 0)), guard := none, hints := [] },
  { dst := some 4, op := POp.mv (Operand.const (Value.int IntKind.i64 0)), guard := none, hints := [] }]
def pc40_c1 : PCode := .region none false pc40_o1
def pc40_o2 : List POper := [{ dst := some 5, op := POp.alloc 57 (Value.agg { toList := [Value.int IntKind.i64 0, Value.int IntKind.i64 0, Value.int IntKind.i64 0, Value.int IntKind.i64 0, Value.int IntKind.i64 0, Value.int IntKind.i64 0, Value.int IntKind.i64 0, Value.string { data := { toList := [] } }, Value.int IntKind.i64 0, Value.string { data := { toList := [] } }, Value.int IntKind.i64 0, Value.string { data := { toList := [] } }, Value.int IntKind.i64 0, Value.string { data := { toList := [] } }, Value.int IntKind.i64 0, Value.string { data := { toList := [] } }, Value.int IntKind.i64 0, Value.int IntKind.i64 0, Value.int IntKind.i64 0, Value.int IntKind.i64 0, Value.int IntKind.i64 0, Value.int IntKind.i64 0] }) [], guard := none, hints := [] }]
def pc40_c2 : PCode := .region none false pc40_o2
def pc40_o3 : List POper := [{ dst := some 6, op := POp.alloc 3 (Value.int IntKind.i64 0) [], guard := none, hints := [] },
  { dst := none, op := POp.store 1 (Operand.tmp 6) (Operand.const (Value.int IntKind.i64 0)), guard := none, hints := [] }]
def pc40_c3 : PCode := .region none false pc40_o3
def pc40_o4 : List POper := [{ dst := some 18, op := POp.mkfn 64 [Operand.tmp 1, Operand.tmp 6], guard := none, hints := [] },
  { dst := some 7, op := POp.alloc 99 Value.nilFunc [], guard := none, hints := [] },
  { dst := none, op := POp.store 1 (Operand.tmp 7) (Operand.tmp 18), guard := none, hints := [] }]
def pc40_c4 : PCode := .region none false pc40_o4
def pc40_o5 : List POper := [{ dst := some 19, op := POp.mkfn 66 [Operand.tmp 7], guard := none, hints := [] },
  { dst := some 8, op := POp.mv (Operand.tmp 19), guard := none, hints := [] }]
def pc40_c5 : PCode := .region none false pc40_o5
def pc40_o6 : List POper := [{ dst := some 20, op := POp.mv (Operand.tmp 8), guard := none, hints := [] },
  { dst := some 21, op := POp.faddr 0 (Operand.tmp 5), guard := none, hints := [] },
  { dst := some 22, op := POp.faddr 16 (Operand.tmp 5), guard := none, hints := [] },
  { dst := some 23, op := POp.faddr 17 (Operand.tmp 5), guard := none, hints := [] },
  { dst := some 24, op := POp.bptrs 1 [Operand.tmp 21, Operand.tmp 22, Operand.tmp 23], guard := none, hints := [] },
  { dst := some 25, op := POp.gcallv false false [1, 5, 6, 7, 24, 300000, 300001, 300002, 300003, 300004, 300005, 300006, 300007] [[(0, 1)]] (Operand.tmp 20) [Operand.tmp 24], guard := none, hints := [] },
  { dst := some 9, op := POp.mv (Operand.tmp 25), guard := none, hints := [] }]
def pc40_c6 : PCode := .region none false pc40_o6
def pc40_o7 : List POper := [{ dst := some 26, op := POp.mv (Operand.tmp 9), guard := none, hints := [] },
  { dst := some 27, op := POp.prim (Prim.bin BinOp.neq 37 false true) [Operand.tmp 26, Operand.const (Value.int IntKind.i64 0)], guard := none, hints := [] }]
def pc40_c7 : PCode := .region none false pc40_o7
def pc40_o8 : List POper := [{ dst := some 28, op := POp.build (Value.agg { toList := [Value.int IntKind.i64 0, Value.int IntKind.i64 0, Value.int IntKind.i64 0, Value.int IntKind.i64 0, Value.int IntKind.i64 0, Value.int IntKind.i64 0, Value.int IntKind.i64 0, Value.string { data := { toList := [] } }, Value.int IntKind.i64 0, Value.string { data := { toList := [] } }, Value.int IntKind.i64 0, Value.string { data := { toList := [] } }, Value.int IntKind.i64 0, Value.string { data := { toList := [] } }, Value.int IntKind.i64 0, Value.string { data := { toList := [] } }, Value.int IntKind.i64 0, Value.int IntKind.i64 0, Value.int IntKind.i64 0, Value.int IntKind.i64 0, Value.int IntKind.i64 0, Value.int IntKind.i64 0] }) [], guard := none, hints := [] },
  { dst := some 29, op := POp.mv (Operand.tmp 9), guard := none, hints := [] },
  { dst := none, op := POp.store 22 (Operand.tmp 2) (Operand.tmp 28), guard := none, hints := [] },
  { dst := some 3, op := POp.mv (Operand.const (Value.int IntKind.i64 0)), guard := none, hints := [] },
  { dst := some 4, op := POp.mv (Operand.tmp 29), guard := none, hints := [] }]
def pc40_c8 : PCode := .region none false pc40_o8
def pc40_c9 : PCode := .ret
def pc40_c10 : PCode := .seq pc40_c8 pc40_c9
def pc40_c11 : PCode := .skip
def pc40_c12 : PCode := .cond (Operand.tmp 27) pc40_c10 pc40_c11
def pc40_c13 : PCode := .seq pc40_c7 pc40_c12
def pc40_c14 : PCode := .seq pc40_c6 pc40_c13
def pc40_o15 : List POper := [{ dst := some 30, op := POp.mv (Operand.tmp 8), guard := none, hints := [] },
  { dst := some 31, op := POp.gcall false false [5, 300000, 300001, 300002, 300003, 300004, 300005, 300006, 300007] [[]] 56 [Operand.tmp 5], guard := none, hints := [] },
  { dst := some 32, op := POp.gcallv false false [1, 5, 6, 7, 300000, 300001, 300002, 300003, 300004, 300005, 300006, 300007] [[(0, 1)]] (Operand.tmp 30) [Operand.tmp 31], guard := none, hints := [] },
  { dst := some 10, op := POp.mv (Operand.tmp 32), guard := none, hints := [] }]
def pc40_c15 : PCode := .region none false pc40_o15
def pc40_o16 : List POper := [{ dst := some 33, op := POp.mv (Operand.tmp 10), guard := none, hints := [] },
  { dst := some 34, op := POp.prim (Prim.bin BinOp.neq 37 false true) [Operand.tmp 33, Operand.const (Value.int IntKind.i64 0)], guard := none, hints := [] }]
def pc40_c16 : PCode := .region (some ([1, 2, 5, 6, 7, 10], [1, 2, 5, 6, 7, 24, 300000], [])) false pc40_o16
def pc40_o17 : List POper := [{ dst := some 35, op := POp.build (Value.agg { toList := [Value.int IntKind.i64 0, Value.int IntKind.i64 0, Value.int IntKind.i64 0, Value.int IntKind.i64 0, Value.int IntKind.i64 0, Value.int IntKind.i64 0, Value.int IntKind.i64 0, Value.string { data := { toList := [] } }, Value.int IntKind.i64 0, Value.string { data := { toList := [] } }, Value.int IntKind.i64 0, Value.string { data := { toList := [] } }, Value.int IntKind.i64 0, Value.string { data := { toList := [] } }, Value.int IntKind.i64 0, Value.string { data := { toList := [] } }, Value.int IntKind.i64 0, Value.int IntKind.i64 0, Value.int IntKind.i64 0, Value.int IntKind.i64 0, Value.int IntKind.i64 0, Value.int IntKind.i64 0] }) [], guard := none, hints := [] },
  { dst := some 36, op := POp.mv (Operand.tmp 10), guard := none, hints := [] },
  { dst := none, op := POp.store 22 (Operand.tmp 2) (Operand.tmp 35), guard := none, hints := [] },
  { dst := some 3, op := POp.mv (Operand.const (Value.int IntKind.i64 0)), guard := none, hints := [] },
  { dst := some 4, op := POp.mv (Operand.tmp 36), guard := none, hints := [] }]
def pc40_c17 : PCode := .region none false pc40_o17
def pc40_c18 : PCode := .ret
def pc40_c19 : PCode := .seq pc40_c17 pc40_c18
def pc40_c20 : PCode := .skip
def pc40_c21 : PCode := .cond (Operand.tmp 34) pc40_c19 pc40_c20
def pc40_c22 : PCode := .seq pc40_c16 pc40_c21
def pc40_c23 : PCode := .seq pc40_c15 pc40_c22
def pc40_o24 : List POper := [{ dst := some 37, op := POp.gcall false false [5, 300000, 300001, 300002, 300003, 300004, 300005, 300006, 300007] [[]] 57 [Operand.tmp 5], guard := none, hints := [] },
  { dst := some 38, op := POp.lenS (Operand.tmp 37), guard := none, hints := [] },
  { dst := some 39, op := POp.mv (Operand.const (Value.int IntKind.i64 0)), guard := none, hints := [] }]
def pc40_c24 : PCode := .region none false pc40_o24
def pc40_o25 : List POper := [{ dst := some 40, op := POp.prim (Prim.bin BinOp.lss 3 false false) [Operand.tmp 39, Operand.tmp 38], guard := none, hints := [] }]
def pc40_c25 : PCode := .region (some ([1, 2, 5, 6, 7, 37, 38, 39], [1, 2, 5, 6, 7, 300000], [])) false pc40_o25
def pc40_c26 : PCode := .skip
def pc40_c27 : PCode := .exit 0
def pc40_c28 : PCode := .cond (Operand.tmp 40) pc40_c26 pc40_c27
def pc40_o29 : List POper := [{ dst := some 41, op := POp.iaddrS 1 (Operand.tmp 37) (Operand.tmp 39), guard := none, hints := [] },
  { dst := some 42, op := POp.load false 1 (Operand.tmp 41), guard := none, hints := [] },
  { dst := some 12, op := POp.mv (Operand.tmp 42), guard := none, hints := [] }]
def pc40_c29 : PCode := .region none false pc40_o29
def pc40_o30 : List POper := [{ dst := some 44, op := POp.load false 1 (Operand.tmp 1), guard := none, hints := [] },
  { dst := some 45, op := POp.load false 1 (Operand.tmp 6), guard := none, hints := [] },
  { dst := some 46, op := POp.prim (Prim.slice 9 true false) [Operand.tmp 44, Operand.tmp 45], guard := none, hints := [] },
  { dst := some 47, op := POp.call true [[], []] 67 [Operand.tmp 46, Operand.const (Value.int IntKind.i64 12)], guard := none, hints := [] },
  { dst := some 43, op := POp.mv (Operand.tmp 47), guard := none, hints := [] },
  { dst := some 48, op := POp.ext (Operand.tmp 43) 0, guard := none, hints := [] },
  { dst := some 49, op := POp.ext (Operand.tmp 43) 1, guard := none, hints := [] },
  { dst := some 50, op := POp.ext (Operand.tmp 43) 2, guard := none, hints := [] },
  { dst := some 13, op := POp.mv (Operand.tmp 48), guard := none, hints := [] },
  { dst := some 14, op := POp.mv (Operand.tmp 49), guard := none, hints := [] },
  { dst := some 15, op := POp.mv (Operand.tmp 50), guard := none, hints := [] }]
def pc40_c30 : PCode := .region none false pc40_o30
def pc40_o31 : List POper := [{ dst := some 51, op := POp.load false 1 (Operand.tmp 6), guard := none, hints := [] },
  { dst := some 52, op := POp.mv (Operand.tmp 14), guard := none, hints := [] },
  { dst := some 53, op := POp.prim (Prim.bin BinOp.add 3 false false) [Operand.tmp 51, Operand.tmp 52], guard := none, hints := [] },
  { dst := none, op := POp.store 1 (Operand.tmp 6) (Operand.tmp 53), guard := none, hints := [] }]
def pc40_c31 : PCode := .region none false pc40_o31
def pc40_o32 : List POper := [{ dst := some 54, op := POp.mv (Operand.tmp 15), guard := none, hints := [] },
  { dst := some 55, op := POp.prim (Prim.bin BinOp.eql 37 false true) [Operand.tmp 54, Operand.const (Value.int IntKind.i64 0)], guard := none, hints := [] }]
def pc40_c32 : PCode := .region none false pc40_o32
def pc40_o33 : List POper := [{ dst := some 56, op := POp.mv (Operand.tmp 12), guard := none, hints := [] },
  { dst := some 57, op := POp.mv (Operand.tmp 13), guard := none, hints := [] },
  { dst := some 58, op := POp.nilc (Operand.tmp 56), guard := none, hints := [] },
  { dst := some 59, op := POp.faddr 1 (Operand.tmp 58), guard := none, hints := [] },
  { dst := none, op := POp.store 1 (Operand.tmp 59) (Operand.tmp 57), guard := none, hints := [] }]
def pc40_c33 : PCode := .region none false pc40_o33
def pc40_o34 : List POper := [{ dst := some 61, op := POp.mv (Operand.tmp 12), guard := none, hints := [] },
  { dst := some 62, op := POp.load false 1 (Operand.tmp 7), guard := none, hints := [] },
  { dst := some 63, op := POp.gcallv false false [1, 6, 300000, 300001, 300002, 300003, 300004, 300005, 300006, 300007] [] (Operand.tmp 62) [], guard := none, hints := [] },
  { dst := some 60, op := POp.mv (Operand.tmp 63), guard := none, hints := [] },
  { dst := some 64, op := POp.ext (Operand.tmp 60) 0, guard := none, hints := [] },
  { dst := some 65, op := POp.ext (Operand.tmp 60) 1, guard := none, hints := [] },
  { dst := some 66, op := POp.nilc (Operand.tmp 61), guard := none, hints := [] },
  { dst := some 67, op := POp.faddr 0 (Operand.tmp 66), guard := none, hints := [] },
  { dst := none, op := POp.store 1 (Operand.tmp 67) (Operand.tmp 64), guard := none, hints := [] },
  { dst := some 15, op := POp.mv (Operand.tmp 65), guard := none, hints := [] }]
def pc40_c34 : PCode := .region none false pc40_o34
def pc40_c35 : PCode := .seq pc40_c33 pc40_c34
def pc40_c36 : PCode := .skip
def pc40_c37 : PCode := .cond (Operand.tmp 55) pc40_c35 pc40_c36
def pc40_c38 : PCode := .seq pc40_c32 pc40_c37
def pc40_o39 : List POper := [{ dst := some 68, op := POp.mv (Operand.tmp 15), guard := none, hints := [] },
  { dst := some 69, op := POp.prim (Prim.bin BinOp.neq 37 false true) [Operand.tmp 68, Operand.const (Value.int IntKind.i64 0)], guard := none, hints := [] }]
def pc40_c39 : PCode := .region (some ([1, 2, 5, 6, 7, 15, 37, 38, 39], [1, 2, 5, 6, 7, 300000], [])) false pc40_o39
def pc40_o40 : List POper := [{ dst := some 70, op := POp.build (Value.agg { toList := [Value.int IntKind.i64 0, Value.int IntKind.i64 0, Value.int IntKind.i64 0, Value.int IntKind.i64 0, Value.int IntKind.i64 0, Value.int IntKind.i64 0, Value.int IntKind.i64 0, Value.string { data := { toList := [] } }, Value.int IntKind.i64 0, Value.string { data := { toList := [] } }, Value.int IntKind.i64 0, Value.string { data := { toList := [] } }, Value.int IntKind.i64 0, Value.string { data := { toList := [] } }, Value.int IntKind.i64 0, Value.string { data := { toList := [] } }, Value.int IntKind.i64 0, Value.int IntKind.i64 0, Value.int IntKind.i64 0, Value.int IntKind.i64 0, Value.int IntKind.i64 0, Value.int IntKind.i64 0] }) [], guard := none, hints := [] },
  { dst := some 71, op := POp.mv (Operand.tmp 15), guard := none, hints := [] },
  { dst := none, op := POp.store 22 (Operand.tmp 2) (Operand.tmp 70), guard := none, hints := [] },
  { dst := some 3, op := POp.mv (Operand.const (Value.int IntKind.i64 0)), guard := none, hints := [] },
  { dst := some 4, op := POp.mv (Operand.tmp 71), guard := none, hints := [] }]
def pc40_c40 : PCode := .region none false pc40_o40
def pc40_c41 : PCode := .ret
def pc40_c42 : PCode := .seq pc40_c40 pc40_c41
def pc40_c43 : PCode := .skip
def pc40_c44 : PCode := .cond (Operand.tmp 69) pc40_c42 pc40_c43
def pc40_c45 : PCode := .seq pc40_c39 pc40_c44
def pc40_c46 : PCode := .seq pc40_c38 pc40_c45
def pc40_c47 : PCode := .seq pc40_c31 pc40_c46
def pc40_c48 : PCode := .seq pc40_c30 pc40_c47
def pc40_c49 : PCode := .seq pc40_c29 pc40_c48
def pc40_c50 : PCode := .block 1 pc40_c49
def pc40_o51 : List POper := [{ dst := some 72, op := POp.prim (Prim.bin BinOp.add 3 false true) [Operand.tmp 39, Operand.const (Value.int IntKind.i64 1)], guard := none, hints := [] },
  { dst := some 39, op := POp.mv (Operand.tmp 72), guard := none, hints := [] }]
def pc40_c51 : PCode := .region none false pc40_o51
def pc40_c52 : PCode := .seq pc40_c50 pc40_c51
def pc40_c53 : PCode := .seq pc40_c28 pc40_c52
def pc40_c54 : PCode := .seq pc40_c25 pc40_c53
def pc40_c55 : PCode := .loop pc40_c54
def pc40_c56 : PCode := .block 0 pc40_c55
def pc40_c57 : PCode := .seq pc40_c24 pc40_c56
def pc40_o58 : List POper := [{ dst := some 74, op := POp.load true 22 (Operand.tmp 5), guard := none, hints := [] },
  { dst := some 75, op := POp.call true [[]] 34 [Operand.tmp 74], guard := none, hints := [] },
  { dst := some 73, op := POp.mv (Operand.tmp 75), guard := none, hints := [] },
  { dst := some 76, op := POp.ext (Operand.tmp 73) 0, guard := none, hints := [] },
  { dst := some 77, op := POp.ext (Operand.tmp 73) 1, guard := none, hints := [] },
  { dst := some 16, op := POp.mv (Operand.tmp 76), guard := none, hints := [] },
  { dst := some 17, op := POp.mv (Operand.tmp 77), guard := none, hints := [] }]
def pc40_c58 : PCode := .region (some ([1, 2, 5, 6], [1, 2, 5, 6, 7, 300000], [])) false pc40_o58
def pc40_o59 : List POper := [{ dst := some 78, op := POp.mv (Operand.tmp 17), guard := none, hints := [] },
  { dst := some 79, op := POp.prim (Prim.bin BinOp.neq 37 false true) [Operand.tmp 78, Operand.const (Value.int IntKind.i64 0)], guard := none, hints := [] },
  { dst := some 80, op := POp.mv (Operand.tmp 79), guard := none, hints := [] },
  { dst := some 81, op := POp.mv (Operand.tmp 16), guard := some (80, false), hints := [] },
  { dst := some 82, op := POp.load false 1 (Operand.tmp 1), guard := some (80, false), hints := [] },
  { dst := some 83, op := POp.load false 1 (Operand.tmp 6), guard := some (80, false), hints := [] },
  { dst := some 84, op := POp.prim (Prim.slice 9 false true) [Operand.tmp 82, Operand.tmp 83], guard := some (80, false), hints := [] },
  { dst := some 85, op := POp.prim (Prim.bin BinOp.neq 9 false false) [Operand.tmp 81, Operand.tmp 84], guard := some (80, false), hints := [] },
  { dst := some 86, op := POp.pick (Operand.tmp 80) (Operand.const (Value.bool true)) (Operand.tmp 85), guard := none, hints := [] }]
def pc40_c59 : PCode := .region none false pc40_o59
def pc40_o60 : List POper := [{ dst := some 87, op := POp.build (Value.agg { toList := [Value.int IntKind.i64 0, Value.int IntKind.i64 0, Value.int IntKind.i64 0, Value.int IntKind.i64 0, Value.int IntKind.i64 0, Value.int IntKind.i64 0, Value.int IntKind.i64 0, Value.string { data := { toList := [] } }, Value.int IntKind.i64 0, Value.string { data := { toList := [] } }, Value.int IntKind.i64 0, Value.string { data := { toList := [] } }, Value.int IntKind.i64 0, Value.string { data := { toList := [] } }, Value.int IntKind.i64 0, Value.string { data := { toList := [] } }, Value.int IntKind.i64 0, Value.int IntKind.i64 0, Value.int IntKind.i64 0, Value.int IntKind.i64 0, Value.int IntKind.i64 0, Value.int IntKind.i64 0] }) [], guard := none, hints := [] },
  { dst := none, op := POp.store 22 (Operand.tmp 2) (Operand.tmp 87), guard := none, hints := [] },
  { dst := some 3, op := POp.mv (Operand.const (Value.int IntKind.i64 0)), guard := none, hints := [] },
  { dst := some 4, op := POp.mv (Operand.const (Value.int IntKind.i64 11)), guard := none, hints := [] }]
def pc40_c60 : PCode := .region none false pc40_o60
def pc40_c61 : PCode := .ret
def pc40_c62 : PCode := .seq pc40_c60 pc40_c61
def pc40_c63 : PCode := .skip
def pc40_c64 : PCode := .cond (Operand.tmp 86) pc40_c62 pc40_c63
def pc40_c65 : PCode := .seq pc40_c59 pc40_c64
def pc40_c66 : PCode := .seq pc40_c58 pc40_c65
def pc40_o67 : List POper := [{ dst := some 88, op := POp.load true 22 (Operand.tmp 5), guard := none, hints := [(5, Hint.at_ 5 0)] },
  { dst := some 89, op := POp.load false 1 (Operand.tmp 6), guard := none, hints := [(6, Hint.at_ 6 0)] },
  { dst := none, op := POp.store 22 (Operand.tmp 2) (Operand.tmp 88), guard := none, hints := [(2, Hint.at_ 2 0), (88, Hint.imm)] },
  { dst := some 3, op := POp.mv (Operand.tmp 89), guard := none, hints := [(89, Hint.imm)] },
  { dst := some 4, op := POp.mv (Operand.const (Value.int IntKind.i64 0)), guard := none, hints := [] }]
def pc40_c67 : PCode := .region none true pc40_o67
def pc40_c68 : PCode := .ret
def pc40_c69 : PCode := .seq pc40_c67 pc40_c68
def pc40_c70 : PCode := .seq pc40_c66 pc40_c69
def pc40_c71 : PCode := .seq pc40_c57 pc40_c70
def pc40_c72 : PCode := .seq pc40_c23 pc40_c71
def pc40_c73 : PCode := .seq pc40_c14 pc40_c72
def pc40_c74 : PCode := .seq pc40_c5 pc40_c73
def pc40_c75 : PCode := .seq pc40_c4 pc40_c74
def pc40_c76 : PCode := .seq pc40_c3 pc40_c75
def pc40_c77 : PCode := .seq pc40_c2 pc40_c76
def pc40_c78 : PCode := .seq pc40_c1 pc40_c77
def pc40_r : List PRes := [PRes.cell 2 true 22 [], PRes.tmp 3 [], PRes.tmp 4 []]
def pc40 : PFunc := ⟨90, pc40_r, pc40_c78, false⟩
def pc40_a : Ann := {
  kr := fun
    | 9 => some ([1, 2, 5, 6, 7, 10], [1, 2, 5, 6, 7, 24, 300000], [])
    | 12 => some ([1, 2, 5, 6, 7, 37, 38, 39], [1, 2, 5, 6, 7, 300000], [])
    | 19 => some ([1, 2, 5, 6, 7, 15, 37, 38, 39], [1, 2, 5, 6, 7, 300000], [])
    | 22 => some ([1, 2, 5, 6], [1, 2, 5, 6, 7, 300000], [])
    | _ => none
  ka := fun
    | _ => 0
  kh := fun
    | 2 => some (Hint.at_ 2 0)
    | 5 => some (Hint.at_ 5 0)
    | 6 => some (Hint.at_ 6 0)
    | 88 => some (Hint.imm)
    | 89 => some (Hint.imm)
    | _ => none
  gf := fun d f => match d, f with
    | some 31, 56 => some (false, false, [5, 300000, 300001, 300002, 300003, 300004, 300005, 300006, 300007])
    | some 37, 57 => some (false, false, [5, 300000, 300001, 300002, 300003, 300004, 300005, 300006, 300007])
    | _, _ => none
  gv := fun d f => match d, f with
    | some 25, 20 => some (false, false, [1, 5, 6, 7, 24, 300000, 300001, 300002, 300003, 300004, 300005, 300006, 300007])
    | some 32, 30 => some (false, false, [1, 5, 6, 7, 300000, 300001, 300002, 300003, 300004, 300005, 300006, 300007])
    | some 63, 62 => some (false, false, [1, 6, 300000, 300001, 300002, 300003, 300004, 300005, 300006, 300007])
    | _, _ => none }
theorem pc40_ok : compFn Try.prog pc40_a Try.f40 = some pc40 := by kernel_rfl


-- 32: vedette/vedettelaw10.known
def pc32_o1 : List POper := [{ dst := some 0, op := POp.mv (Operand.const (Value.bool false)), guard := none, hints := [] }]
def pc32_c1 : PCode := .region none false pc32_o1
def pc32_o2 : List POper := [{ dst := some 12, op := POp.build (Value.agg { toList := [Value.int IntKind.i64 0, Value.int IntKind.i64 0, Value.int IntKind.i64 0, Value.int IntKind.i64 0, Value.int IntKind.i64 0, Value.int IntKind.i64 0, Value.int IntKind.i64 0, Value.string { data := { toList := [] } }, Value.int IntKind.i64 0, Value.string { data := { toList := [] } }, Value.int IntKind.i64 0, Value.string { data := { toList := [] } }, Value.int IntKind.i64 0, Value.string { data := { toList := [] } }, Value.int IntKind.i64 0, Value.string { data := { toList := [] } }, Value.int IntKind.i64 0, Value.int IntKind.i64 0, Value.int IntKind.i64 0, Value.int IntKind.i64 0, Value.int IntKind.i64 0, Value.int IntKind.i64 0] }) [(0, 1, Operand.const (Value.int IntKind.i64 4)), (1, 1, Operand.const (Value.int IntKind.i64 5))], guard := none, hints := [] },
  { dst := some 1, op := POp.alloc 57 (Value.agg { toList := [Value.int IntKind.i64 0, Value.int IntKind.i64 0, Value.int IntKind.i64 0, Value.int IntKind.i64 0, Value.int IntKind.i64 0, Value.int IntKind.i64 0, Value.int IntKind.i64 0, Value.string { data := { toList := [] } }, Value.int IntKind.i64 0, Value.string { data := { toList := [] } }, Value.int IntKind.i64 0, Value.string { data := { toList := [] } }, Value.int IntKind.i64 0, Value.string { data := { toList := [] } }, Value.int IntKind.i64 0, Value.string { data := { toList := [] } }, Value.int IntKind.i64 0, Value.int IntKind.i64 0, Value.int IntKind.i64 0, Value.int IntKind.i64 0, Value.int IntKind.i64 0, Value.int IntKind.i64 0] }) [], guard := none, hints := [] },
  { dst := none, op := POp.store 22 (Operand.tmp 1) (Operand.tmp 12), guard := none, hints := [] }]
def pc32_c2 : PCode := .region none false pc32_o2
def pc32_o3 : List POper := [{ dst := some 14, op := POp.load true 22 (Operand.tmp 1), guard := none, hints := [] },
  { dst := some 15, op := POp.call true [[]] 34 [Operand.tmp 14], guard := none, hints := [] },
  { dst := some 13, op := POp.mv (Operand.tmp 15), guard := none, hints := [] },
  { dst := some 16, op := POp.ext (Operand.tmp 13) 0, guard := none, hints := [] },
  { dst := some 17, op := POp.ext (Operand.tmp 13) 1, guard := none, hints := [] },
  { dst := some 2, op := POp.mv (Operand.tmp 16), guard := none, hints := [] },
  { dst := some 3, op := POp.mv (Operand.tmp 17), guard := none, hints := [] }]
def pc32_c3 : PCode := .region none false pc32_o3
def pc32_o4 : List POper := [{ dst := some 19, op := POp.mv (Operand.tmp 2), guard := none, hints := [] },
  { dst := some 20, op := POp.prim (Prim.bin BinOp.add 9 false true) [Operand.tmp 19, Operand.const (Value.string { data := { toList := [120] } })], guard := none, hints := [] },
  { dst := some 21, op := POp.call true [[]] 40 [Operand.tmp 20], guard := none, hints := [] },
  { dst := some 18, op := POp.mv (Operand.tmp 21), guard := none, hints := [] },
  { dst := some 22, op := POp.ext (Operand.tmp 18) 0, guard := none, hints := [] },
  { dst := some 23, op := POp.ext (Operand.tmp 18) 1, guard := none, hints := [] },
  { dst := some 24, op := POp.ext (Operand.tmp 18) 2, guard := none, hints := [] },
  { dst := some 4, op := POp.alloc 57 (Value.agg { toList := [Value.int IntKind.i64 0, Value.int IntKind.i64 0, Value.int IntKind.i64 0, Value.int IntKind.i64 0, Value.int IntKind.i64 0, Value.int IntKind.i64 0, Value.int IntKind.i64 0, Value.string { data := { toList := [] } }, Value.int IntKind.i64 0, Value.string { data := { toList := [] } }, Value.int IntKind.i64 0, Value.string { data := { toList := [] } }, Value.int IntKind.i64 0, Value.string { data := { toList := [] } }, Value.int IntKind.i64 0, Value.string { data := { toList := [] } }, Value.int IntKind.i64 0, Value.int IntKind.i64 0, Value.int IntKind.i64 0, Value.int IntKind.i64 0, Value.int IntKind.i64 0, Value.int IntKind.i64 0] }) [], guard := none, hints := [] },
  { dst := none, op := POp.store 22 (Operand.tmp 4) (Operand.tmp 22), guard := none, hints := [] },
  { dst := some 5, op := POp.mv (Operand.tmp 23), guard := none, hints := [] },
  { dst := some 6, op := POp.mv (Operand.tmp 24), guard := none, hints := [] }]
def pc32_c4 : PCode := .region none false pc32_o4
def pc32_o5 : List POper := [{ dst := some 26, op := POp.build (Value.agg { toList := [Value.int IntKind.i64 0, Value.int IntKind.i64 0, Value.int IntKind.i64 0, Value.int IntKind.i64 0, Value.int IntKind.i64 0, Value.int IntKind.i64 0, Value.int IntKind.i64 0, Value.string { data := { toList := [] } }, Value.int IntKind.i64 0, Value.string { data := { toList := [] } }, Value.int IntKind.i64 0, Value.string { data := { toList := [] } }, Value.int IntKind.i64 0, Value.string { data := { toList := [] } }, Value.int IntKind.i64 0, Value.string { data := { toList := [] } }, Value.int IntKind.i64 0, Value.int IntKind.i64 0, Value.int IntKind.i64 0, Value.int IntKind.i64 0, Value.int IntKind.i64 0, Value.int IntKind.i64 0] }) [], guard := none, hints := [] },
  { dst := some 27, op := POp.call true [[]] 34 [Operand.tmp 26], guard := none, hints := [] },
  { dst := some 25, op := POp.mv (Operand.tmp 27), guard := none, hints := [] },
  { dst := some 28, op := POp.ext (Operand.tmp 25) 0, guard := none, hints := [] },
  { dst := some 29, op := POp.ext (Operand.tmp 25) 1, guard := none, hints := [] },
  { dst := some 7, op := POp.mv (Operand.tmp 28), guard := none, hints := [] },
  { dst := some 8, op := POp.mv (Operand.tmp 29), guard := none, hints := [] }]
def pc32_c5 : PCode := .region none false pc32_o5
def pc32_o6 : List POper := [{ dst := some 31, op := POp.call true [[]] 40 [Operand.const (Value.string { data := { toList := [] } })], guard := none, hints := [] },
  { dst := some 30, op := POp.mv (Operand.tmp 31), guard := none, hints := [] },
  { dst := some 32, op := POp.ext (Operand.tmp 30) 0, guard := none, hints := [] },
  { dst := some 33, op := POp.ext (Operand.tmp 30) 1, guard := none, hints := [] },
  { dst := some 34, op := POp.ext (Operand.tmp 30) 2, guard := none, hints := [] },
  { dst := some 9, op := POp.alloc 57 (Value.agg { toList := [Value.int IntKind.i64 0, Value.int IntKind.i64 0, Value.int IntKind.i64 0, Value.int IntKind.i64 0, Value.int IntKind.i64 0, Value.int IntKind.i64 0, Value.int IntKind.i64 0, Value.string { data := { toList := [] } }, Value.int IntKind.i64 0, Value.string { data := { toList := [] } }, Value.int IntKind.i64 0, Value.string { data := { toList := [] } }, Value.int IntKind.i64 0, Value.string { data := { toList := [] } }, Value.int IntKind.i64 0, Value.string { data := { toList := [] } }, Value.int IntKind.i64 0, Value.int IntKind.i64 0, Value.int IntKind.i64 0, Value.int IntKind.i64 0, Value.int IntKind.i64 0, Value.int IntKind.i64 0] }) [], guard := none, hints := [] },
  { dst := none, op := POp.store 22 (Operand.tmp 9) (Operand.tmp 32), guard := none, hints := [] },
  { dst := some 10, op := POp.mv (Operand.tmp 33), guard := none, hints := [] },
  { dst := some 11, op := POp.mv (Operand.tmp 34), guard := none, hints := [] }]
def pc32_c6 : PCode := .region none false pc32_o6
def pc32_o7 : List POper := [{ dst := some 35, op := POp.mv (Operand.tmp 3), guard := none, hints := [] },
  { dst := some 36, op := POp.prim (Prim.bin BinOp.eql 37 false true) [Operand.tmp 35, Operand.const (Value.int IntKind.i64 0)], guard := none, hints := [] },
  { dst := some 37, op := POp.mv (Operand.tmp 36), guard := none, hints := [] },
  { dst := some 38, op := POp.mv (Operand.tmp 6), guard := some (37, true), hints := [] },
  { dst := some 39, op := POp.prim (Prim.bin BinOp.eql 37 false true) [Operand.tmp 38, Operand.const (Value.int IntKind.i64 0)], guard := some (37, true), hints := [] },
  { dst := some 40, op := POp.pick (Operand.tmp 37) (Operand.tmp 39) (Operand.const (Value.bool false)), guard := none, hints := [] },
  { dst := some 41, op := POp.mv (Operand.tmp 40), guard := none, hints := [] },
  { dst := some 42, op := POp.mv (Operand.tmp 5), guard := some (41, true), hints := [] },
  { dst := some 43, op := POp.mv (Operand.tmp 2), guard := some (41, true), hints := [] },
  { dst := some 44, op := POp.prim (Prim.len 9) [Operand.tmp 43], guard := some (41, true), hints := [] },
  { dst := some 45, op := POp.prim (Prim.bin BinOp.eql 3 false false) [Operand.tmp 42, Operand.tmp 44], guard := some (41, true), hints := [] },
  { dst := some 46, op := POp.pick (Operand.tmp 41) (Operand.tmp 45) (Operand.const (Value.bool false)), guard := none, hints := [] },
  { dst := some 47, op := POp.mv (Operand.tmp 46), guard := none, hints := [] },
  { dst := some 48, op := POp.load true 22 (Operand.tmp 4), guard := some (47, true), hints := [] },
  { dst := some 49, op := POp.load true 22 (Operand.tmp 1), guard := some (47, true), hints := [] },
  { dst := some 50, op := POp.prim (Prim.bin BinOp.eql 57 false false) [Operand.tmp 48, Operand.tmp 49], guard := some (47, true), hints := [] },
  { dst := some 51, op := POp.pick (Operand.tmp 47) (Operand.tmp 50) (Operand.const (Value.bool false)), guard := none, hints := [] },
  { dst := some 52, op := POp.mv (Operand.tmp 51), guard := none, hints := [] },
  { dst := some 53, op := POp.mv (Operand.tmp 8), guard := some (52, true), hints := [] },
  { dst := some 54, op := POp.prim (Prim.bin BinOp.eql 37 false true) [Operand.tmp 53, Operand.const (Value.int IntKind.i64 11)], guard := some (52, true), hints := [] },
  { dst := some 55, op := POp.pick (Operand.tmp 52) (Operand.tmp 54) (Operand.const (Value.bool false)), guard := none, hints := [] },
  { dst := some 56, op := POp.mv (Operand.tmp 55), guard := none, hints := [] },
  { dst := some 57, op := POp.mv (Operand.tmp 11), guard := some (56, true), hints := [] },
  { dst := some 58, op := POp.prim (Prim.bin BinOp.neq 37 false true) [Operand.tmp 57, Operand.const (Value.int IntKind.i64 0)], guard := some (56, true), hints := [] },
  { dst := some 59, op := POp.pick (Operand.tmp 56) (Operand.tmp 58) (Operand.const (Value.bool false)), guard := none, hints := [] },
  { dst := some 60, op := POp.mv (Operand.tmp 59), guard := none, hints := [] },
  { dst := some 61, op := POp.load true 22 (Operand.tmp 1), guard := some (60, true), hints := [] },
  { dst := some 62, op := POp.call true [[]] 35 [Operand.tmp 61], guard := some (60, true), hints := [] },
  { dst := some 63, op := POp.pick (Operand.tmp 60) (Operand.tmp 62) (Operand.const (Value.bool false)), guard := none, hints := [] },
  { dst := some 64, op := POp.mv (Operand.tmp 63), guard := none, hints := [] },
  { dst := some 65, op := POp.build (Value.agg { toList := [Value.int IntKind.i64 0, Value.int IntKind.i64 0, Value.int IntKind.i64 0, Value.int IntKind.i64 0, Value.int IntKind.i64 0, Value.int IntKind.i64 0, Value.int IntKind.i64 0, Value.string { data := { toList := [] } }, Value.int IntKind.i64 0, Value.string { data := { toList := [] } }, Value.int IntKind.i64 0, Value.string { data := { toList := [] } }, Value.int IntKind.i64 0, Value.string { data := { toList := [] } }, Value.int IntKind.i64 0, Value.string { data := { toList := [] } }, Value.int IntKind.i64 0, Value.int IntKind.i64 0, Value.int IntKind.i64 0, Value.int IntKind.i64 0, Value.int IntKind.i64 0, Value.int IntKind.i64 0] }) [], guard := some (64, true), hints := [] },
  { dst := some 66, op := POp.call true [[]] 35 [Operand.tmp 65], guard := some (64, true), hints := [] },
  { dst := some 67, op := POp.prim (Prim.un UnOp.not) [Operand.tmp 66], guard := some (64, true), hints := [] },
  { dst := some 68, op := POp.pick (Operand.tmp 64) (Operand.tmp 67) (Operand.const (Value.bool false)), guard := none, hints := [] },
  { dst := some 69, op := POp.mv (Operand.tmp 68), guard := none, hints := [] },
  { dst := some 70, op := POp.load true 22 (Operand.tmp 1), guard := some (69, true), hints := [] },
  { dst := some 71, op := POp.call true [[]] 37 [Operand.tmp 70], guard := some (69, true), hints := [] },
  { dst := some 72, op := POp.prim (Prim.un UnOp.not) [Operand.tmp 71], guard := some (69, true), hints := [] },
  { dst := some 73, op := POp.pick (Operand.tmp 69) (Operand.tmp 72) (Operand.const (Value.bool false)), guard := none, hints := [] },
  { dst := some 74, op := POp.mv (Operand.tmp 73), guard := none, hints := [] },
  { dst := some 75, op := POp.load true 22 (Operand.tmp 1), guard := some (74, true), hints := [] },
  { dst := some 76, op := POp.load true 22 (Operand.tmp 4), guard := some (74, true), hints := [] },
  { dst := some 77, op := POp.call true [[], []] 39 [Operand.tmp 75, Operand.tmp 76], guard := some (74, true), hints := [] },
  { dst := some 78, op := POp.pick (Operand.tmp 74) (Operand.tmp 77) (Operand.const (Value.bool false)), guard := none, hints := [] },
  { dst := some 0, op := POp.mv (Operand.tmp 78), guard := none, hints := [] }]
def pc32_c7 : PCode := .region none false pc32_o7
def pc32_c8 : PCode := .ret
def pc32_c9 : PCode := .seq pc32_c7 pc32_c8
def pc32_c10 : PCode := .seq pc32_c6 pc32_c9
def pc32_c11 : PCode := .seq pc32_c5 pc32_c10
def pc32_c12 : PCode := .seq pc32_c4 pc32_c11
def pc32_c13 : PCode := .seq pc32_c3 pc32_c12
def pc32_c14 : PCode := .seq pc32_c2 pc32_c13
def pc32_c15 : PCode := .seq pc32_c1 pc32_c14
def pc32_r : List PRes := [PRes.tmp 0 []]
def pc32 : PFunc := ⟨79, pc32_r, pc32_c15, false⟩
def pc32_a : Ann := {
  kr := fun
    | _ => none
  ka := fun
    | _ => 0
  kh := fun
    | _ => none }
theorem pc32_ok : compFn Try.prog pc32_a Try.f32 = some pc32 := by kernel_rfl


-- 33: vedette/vedettelaw10.fewCmd
def pc33_o1 : List POper := [{ dst := some 1, op := POp.box 57 (Operand.tmp 0) [], guard := none, hints := [] },
  { dst := some 2, op := POp.mv (Operand.const (Value.bool false)), guard := none, hints := [] }]
def pc33_c1 : PCode := .region none false pc33_o1
def pc33_o2 : List POper := [{ dst := some 3, op := POp.mv (Operand.const (Value.int IntKind.i64 0)), guard := none, hints := [] }]
def pc33_c2 : PCode := .region none false pc33_o2
def pc33_o3 : List POper := [{ dst := some 4, op := POp.mv (Operand.tmp 3), guard := none, hints := [] },
  { dst := some 5, op := POp.prim (Prim.bin BinOp.lss 3 false true) [Operand.tmp 4, Operand.const (Value.int IntKind.i64 4)], guard := none, hints := [] }]
def pc33_c3 : PCode := .region (some ([1, 3], [1], [])) false pc33_o3
def pc33_c4 : PCode := .skip
def pc33_c5 : PCode := .exit 0
def pc33_c6 : PCode := .cond (Operand.tmp 5) pc33_c4 pc33_c5
def pc33_c7 : PCode := .seq pc33_c3 pc33_c6
def pc33_o8 : List POper := [{ dst := some 8, op := POp.mv (Operand.tmp 3), guard := none, hints := [] },
  { dst := some 9, op := POp.faddr 6 (Operand.tmp 1), guard := none, hints := [] },
  { dst := some 10, op := POp.iaddrA 4 2 (Operand.tmp 9) (Operand.tmp 8), guard := none, hints := [] },
  { dst := some 11, op := POp.faddr 1 (Operand.tmp 10), guard := none, hints := [] },
  { dst := some 12, op := POp.load false 1 (Operand.tmp 11), guard := none, hints := [] },
  { dst := some 13, op := POp.prim (Prim.len 9) [Operand.tmp 12], guard := none, hints := [] },
  { dst := some 14, op := POp.prim (Prim.bin BinOp.gtr 3 false true) [Operand.tmp 13, Operand.const (Value.int IntKind.i64 40)], guard := none, hints := [] }]
def pc33_c8 : PCode := .region none false pc33_o8
def pc33_o9 : List POper := [{ dst := some 2, op := POp.mv (Operand.const (Value.bool false)), guard := none, hints := [] }]
def pc33_c9 : PCode := .region none false pc33_o9
def pc33_c10 : PCode := .ret
def pc33_c11 : PCode := .seq pc33_c9 pc33_c10
def pc33_c12 : PCode := .skip
def pc33_c13 : PCode := .cond (Operand.tmp 14) pc33_c11 pc33_c12
def pc33_c14 : PCode := .seq pc33_c8 pc33_c13
def pc33_c15 : PCode := .block 1 pc33_c14
def pc33_o16 : List POper := [{ dst := some 6, op := POp.mv (Operand.tmp 3), guard := none, hints := [] },
  { dst := some 7, op := POp.prim (Prim.bin BinOp.add 3 false true) [Operand.tmp 6, Operand.const (Value.int IntKind.i64 1)], guard := none, hints := [] },
  { dst := some 3, op := POp.mv (Operand.tmp 7), guard := none, hints := [] }]
def pc33_c16 : PCode := .region none false pc33_o16
def pc33_c17 : PCode := .seq pc33_c15 pc33_c16
def pc33_c18 : PCode := .seq pc33_c7 pc33_c17
def pc33_c19 : PCode := .loop pc33_c18
def pc33_c20 : PCode := .block 0 pc33_c19
def pc33_c21 : PCode := .seq pc33_c2 pc33_c20
def pc33_o22 : List POper := [{ dst := some 15, op := POp.faddr 14 (Operand.tmp 1), guard := none, hints := [] },
  { dst := some 16, op := POp.faddr 1 (Operand.tmp 15), guard := none, hints := [] },
  { dst := some 17, op := POp.load false 1 (Operand.tmp 16), guard := none, hints := [] },
  { dst := some 18, op := POp.prim (Prim.len 9) [Operand.tmp 17], guard := none, hints := [] },
  { dst := some 19, op := POp.prim (Prim.bin BinOp.leq 3 false true) [Operand.tmp 18, Operand.const (Value.int IntKind.i64 40)], guard := none, hints := [] },
  { dst := some 2, op := POp.mv (Operand.tmp 19), guard := none, hints := [] }]
def pc33_c22 : PCode := .region none false pc33_o22
def pc33_c23 : PCode := .ret
def pc33_c24 : PCode := .seq pc33_c22 pc33_c23
def pc33_c25 : PCode := .seq pc33_c21 pc33_c24
def pc33_c26 : PCode := .seq pc33_c1 pc33_c25
def pc33_r : List PRes := [PRes.tmp 2 []]
def pc33 : PFunc := ⟨20, pc33_r, pc33_c26, false⟩
def pc33_a : Ann := {
  kr := fun
    | 2 => some ([1, 3], [1], [])
    | _ => none
  ka := fun
    | _ => 0
  kh := fun
    | _ => none }
theorem pc33_ok : compFn Try.prog pc33_a Try.f33 = some pc33 := by kernel_rfl


-- 13: vedette/vedettelaw10.CmdRows
def pc13_o1 : List POper := [{ dst := some 2, op := POp.mv (Operand.const (Value.bool false)), guard := none, hints := [] }]
def pc13_c1 : PCode := .region none false pc13_o1
def pc13_o2 : List POper := [{ dst := some 13, op := POp.call true [] 32 [], guard := none, hints := [] },
  { dst := some 14, op := POp.prim (Prim.un UnOp.not) [Operand.tmp 13], guard := none, hints := [] }]
def pc13_c2 : PCode := .region none false pc13_o2
def pc13_o3 : List POper := [{ dst := some 2, op := POp.mv (Operand.const (Value.bool false)), guard := none, hints := [] }]
def pc13_c3 : PCode := .region none false pc13_o3
def pc13_c4 : PCode := .ret
def pc13_c5 : PCode := .seq pc13_c3 pc13_c4
def pc13_c6 : PCode := .skip
def pc13_c7 : PCode := .cond (Operand.tmp 14) pc13_c5 pc13_c6
def pc13_c8 : PCode := .seq pc13_c2 pc13_c7
def pc13_o9 : List POper := [{ dst := some 15, op := POp.mv (Operand.tmp 0), guard := none, hints := [] },
  { dst := some 16, op := POp.lenS (Operand.tmp 15), guard := none, hints := [] },
  { dst := some 17, op := POp.prim (Prim.bin BinOp.gtr 3 false true) [Operand.tmp 16, Operand.const (Value.int IntKind.i64 20)], guard := none, hints := [] }]
def pc13_c9 : PCode := .region none false pc13_o9
def pc13_o10 : List POper := [{ dst := some 2, op := POp.mv (Operand.const (Value.bool true)), guard := none, hints := [] }]
def pc13_c10 : PCode := .region none false pc13_o10
def pc13_c11 : PCode := .ret
def pc13_c12 : PCode := .seq pc13_c10 pc13_c11
def pc13_c13 : PCode := .skip
def pc13_c14 : PCode := .cond (Operand.tmp 17) pc13_c12 pc13_c13
def pc13_c15 : PCode := .seq pc13_c9 pc13_c14
def pc13_o16 : List POper := [{ dst := some 3, op := POp.mv (Operand.const (Value.string { data := { toList := [] } })), guard := none, hints := [] }]
def pc13_c16 : PCode := .region none false pc13_o16
def pc13_o17 : List POper := [{ dst := some 4, op := POp.mv (Operand.const (Value.slice none 0 0)), guard := none, hints := [] }]
def pc13_c17 : PCode := .region none false pc13_o17
def pc13_o18 : List POper := [{ dst := some 5, op := POp.mv (Operand.const (Value.int IntKind.i64 0)), guard := none, hints := [] }]
def pc13_c18 : PCode := .region none false pc13_o18
def pc13_o19 : List POper := [{ dst := some 18, op := POp.mv (Operand.tmp 5), guard := none, hints := [] },
  { dst := some 19, op := POp.mv (Operand.tmp 0), guard := none, hints := [] },
  { dst := some 20, op := POp.lenS (Operand.tmp 19), guard := none, hints := [] },
  { dst := some 21, op := POp.prim (Prim.bin BinOp.lss 3 false false) [Operand.tmp 18, Operand.tmp 20], guard := none, hints := [] }]
def pc13_c19 : PCode := .region (some ([0, 3, 4, 5], [100004], [(false, 4, 0, 100004, 57, 22)])) false pc13_o19
def pc13_c20 : PCode := .skip
def pc13_c21 : PCode := .exit 0
def pc13_c22 : PCode := .cond (Operand.tmp 21) pc13_c20 pc13_c21
def pc13_c23 : PCode := .seq pc13_c19 pc13_c22
def pc13_o24 : List POper := [{ dst := some 24, op := POp.mv (Operand.tmp 0), guard := none, hints := [] },
  { dst := some 25, op := POp.mv (Operand.tmp 5), guard := none, hints := [] },
  { dst := some 26, op := POp.iaddrS 22 (Operand.tmp 24) (Operand.tmp 25), guard := none, hints := [] },
  { dst := some 27, op := POp.load true 22 (Operand.tmp 26), guard := none, hints := [] },
  { dst := some 28, op := POp.call true [[]] 33 [Operand.tmp 27], guard := none, hints := [] },
  { dst := some 29, op := POp.prim (Prim.un UnOp.not) [Operand.tmp 28], guard := none, hints := [] }]
def pc13_c24 : PCode := .region none false pc13_o24
def pc13_o25 : List POper := [{ dst := some 2, op := POp.mv (Operand.const (Value.bool true)), guard := none, hints := [] }]
def pc13_c25 : PCode := .region none false pc13_o25
def pc13_c26 : PCode := .ret
def pc13_c27 : PCode := .seq pc13_c25 pc13_c26
def pc13_c28 : PCode := .skip
def pc13_c29 : PCode := .cond (Operand.tmp 29) pc13_c27 pc13_c28
def pc13_c30 : PCode := .seq pc13_c24 pc13_c29
def pc13_o31 : List POper := [{ dst := some 31, op := POp.mv (Operand.tmp 0), guard := none, hints := [] },
  { dst := some 32, op := POp.mv (Operand.tmp 5), guard := none, hints := [] },
  { dst := some 33, op := POp.iaddrS 22 (Operand.tmp 31) (Operand.tmp 32), guard := none, hints := [] },
  { dst := some 34, op := POp.load true 22 (Operand.tmp 33), guard := none, hints := [] },
  { dst := some 35, op := POp.call true [[]] 34 [Operand.tmp 34], guard := none, hints := [] },
  { dst := some 30, op := POp.mv (Operand.tmp 35), guard := none, hints := [] },
  { dst := some 36, op := POp.ext (Operand.tmp 30) 0, guard := none, hints := [] },
  { dst := some 37, op := POp.ext (Operand.tmp 30) 1, guard := none, hints := [] },
  { dst := some 6, op := POp.mv (Operand.tmp 36), guard := none, hints := [] },
  { dst := some 7, op := POp.mv (Operand.tmp 37), guard := none, hints := [] }]
def pc13_c31 : PCode := .region none false pc13_o31
def pc13_o32 : List POper := [{ dst := some 38, op := POp.mv (Operand.tmp 7), guard := none, hints := [] },
  { dst := some 39, op := POp.prim (Prim.bin BinOp.eql 37 false true) [Operand.tmp 38, Operand.const (Value.int IntKind.i64 0)], guard := none, hints := [] }]
def pc13_c32 : PCode := .region none false pc13_o32
def pc13_o33 : List POper := [{ dst := some 40, op := POp.mv (Operand.tmp 3), guard := none, hints := [] },
  { dst := some 41, op := POp.mv (Operand.tmp 6), guard := none, hints := [] },
  { dst := some 42, op := POp.prim (Prim.bin BinOp.add 9 false false) [Operand.tmp 40, Operand.tmp 41], guard := none, hints := [] },
  { dst := some 3, op := POp.mv (Operand.tmp 42), guard := none, hints := [] }]
def pc13_c33 : PCode := .region none false pc13_o33
def pc13_o34 : List POper := [{ dst := some 43, op := POp.mv (Operand.tmp 4), guard := none, hints := [] },
  { dst := some 44, op := POp.mv (Operand.tmp 0), guard := none, hints := [] },
  { dst := some 45, op := POp.mv (Operand.tmp 5), guard := none, hints := [] },
  { dst := some 46, op := POp.iaddrS 22 (Operand.tmp 44) (Operand.tmp 45), guard := none, hints := [] },
  { dst := some 47, op := POp.load true 22 (Operand.tmp 46), guard := none, hints := [] },
  { dst := some 48, op := POp.bslice 57 22 [Operand.tmp 47], guard := none, hints := [] },
  { dst := some 49, op := POp.app 100004 57 22 216 (Operand.tmp 43) (Operand.tmp 48), guard := none, hints := [] },
  { dst := some 4, op := POp.mv (Operand.tmp 49), guard := none, hints := [] }]
def pc13_c34 : PCode := .region none false pc13_o34
def pc13_c35 : PCode := .seq pc13_c33 pc13_c34
def pc13_c36 : PCode := .skip
def pc13_c37 : PCode := .cond (Operand.tmp 39) pc13_c35 pc13_c36
def pc13_c38 : PCode := .seq pc13_c32 pc13_c37
def pc13_c39 : PCode := .seq pc13_c31 pc13_c38
def pc13_c40 : PCode := .seq pc13_c30 pc13_c39
def pc13_c41 : PCode := .block 1 pc13_c40
def pc13_o42 : List POper := [{ dst := some 22, op := POp.mv (Operand.tmp 5), guard := none, hints := [] },
  { dst := some 23, op := POp.prim (Prim.bin BinOp.add 3 false true) [Operand.tmp 22, Operand.const (Value.int IntKind.i64 1)], guard := none, hints := [] },
  { dst := some 5, op := POp.mv (Operand.tmp 23), guard := none, hints := [] }]
def pc13_c42 : PCode := .region none false pc13_o42
def pc13_c43 : PCode := .seq pc13_c41 pc13_c42
def pc13_c44 : PCode := .seq pc13_c23 pc13_c43
def pc13_c45 : PCode := .loop pc13_c44
def pc13_c46 : PCode := .block 0 pc13_c45
def pc13_c47 : PCode := .seq pc13_c18 pc13_c46
def pc13_o48 : List POper := [{ dst := some 8, op := POp.mv (Operand.const (Value.int IntKind.i64 0)), guard := none, hints := [] }]
def pc13_c48 : PCode := .region none false pc13_o48
def pc13_o49 : List POper := [{ dst := some 9, op := POp.mv (Operand.const (Value.int IntKind.i64 0)), guard := none, hints := [] }]
def pc13_c49 : PCode := .region none false pc13_o49
def pc13_o50 : List POper := [{ dst := some 50, op := POp.mv (Operand.tmp 9), guard := none, hints := [] },
  { dst := some 51, op := POp.mv (Operand.tmp 4), guard := none, hints := [] },
  { dst := some 52, op := POp.lenS (Operand.tmp 51), guard := none, hints := [] },
  { dst := some 53, op := POp.prim (Prim.bin BinOp.lss 3 false false) [Operand.tmp 50, Operand.tmp 52], guard := none, hints := [] }]
def pc13_c50 : PCode := .region (some ([3, 4, 8, 9], [10, 100004], [])) false pc13_o50
def pc13_c51 : PCode := .skip
def pc13_c52 : PCode := .exit 2
def pc13_c53 : PCode := .cond (Operand.tmp 53) pc13_c51 pc13_c52
def pc13_c54 : PCode := .seq pc13_c50 pc13_c53
def pc13_o55 : List POper := [{ dst := some 57, op := POp.mv (Operand.tmp 3), guard := none, hints := [] },
  { dst := some 58, op := POp.mv (Operand.tmp 8), guard := none, hints := [] },
  { dst := some 59, op := POp.prim (Prim.slice 9 true false) [Operand.tmp 57, Operand.tmp 58], guard := none, hints := [] },
  { dst := some 60, op := POp.call true [[]] 40 [Operand.tmp 59], guard := none, hints := [] },
  { dst := some 56, op := POp.mv (Operand.tmp 60), guard := none, hints := [] },
  { dst := some 61, op := POp.ext (Operand.tmp 56) 0, guard := none, hints := [] },
  { dst := some 62, op := POp.ext (Operand.tmp 56) 1, guard := none, hints := [] },
  { dst := some 63, op := POp.ext (Operand.tmp 56) 2, guard := none, hints := [] },
  { dst := some 10, op := POp.alloc 57 (Value.agg { toList := [Value.int IntKind.i64 0, Value.int IntKind.i64 0, Value.int IntKind.i64 0, Value.int IntKind.i64 0, Value.int IntKind.i64 0, Value.int IntKind.i64 0, Value.int IntKind.i64 0, Value.string { data := { toList := [] } }, Value.int IntKind.i64 0, Value.string { data := { toList := [] } }, Value.int IntKind.i64 0, Value.string { data := { toList := [] } }, Value.int IntKind.i64 0, Value.string { data := { toList := [] } }, Value.int IntKind.i64 0, Value.string { data := { toList := [] } }, Value.int IntKind.i64 0, Value.int IntKind.i64 0, Value.int IntKind.i64 0, Value.int IntKind.i64 0, Value.int IntKind.i64 0, Value.int IntKind.i64 0] }) [], guard := none, hints := [] },
  { dst := none, op := POp.store 22 (Operand.tmp 10) (Operand.tmp 61), guard := none, hints := [] },
  { dst := some 11, op := POp.mv (Operand.tmp 62), guard := none, hints := [] },
  { dst := some 12, op := POp.mv (Operand.tmp 63), guard := none, hints := [] }]
def pc13_c55 : PCode := .region none false pc13_o55
def pc13_o56 : List POper := [{ dst := some 64, op := POp.mv (Operand.tmp 12), guard := none, hints := [(12, Hint.imm)] },
  { dst := some 65, op := POp.prim (Prim.bin BinOp.neq 37 false true) [Operand.tmp 64, Operand.const (Value.int IntKind.i64 0)], guard := none, hints := [(64, Hint.imm)] },
  { dst := some 66, op := POp.mv (Operand.tmp 65), guard := none, hints := [(65, Hint.imm)] },
  { dst := some 67, op := POp.load true 22 (Operand.tmp 10), guard := some (66, false), hints := [(10, Hint.at_ 10 0)] },
  { dst := some 68, op := POp.mv (Operand.tmp 4), guard := some (66, false), hints := [(4, Hint.obj 100004)] },
  { dst := some 69, op := POp.mv (Operand.tmp 9), guard := some (66, false), hints := [(9, Hint.imm)] },
  { dst := some 70, op := POp.iaddrS 22 (Operand.tmp 68) (Operand.tmp 69), guard := some (66, false), hints := [(68, Hint.obj 100004), (69, Hint.imm)] },
  { dst := some 71, op := POp.load true 22 (Operand.tmp 70), guard := some (66, false), hints := [(70, Hint.obj 100004)] },
  { dst := some 72, op := POp.prim (Prim.bin BinOp.neq 57 false false) [Operand.tmp 67, Operand.tmp 71], guard := some (66, false), hints := [(67, Hint.imm), (71, Hint.imm)] },
  { dst := some 73, op := POp.pick (Operand.tmp 66) (Operand.const (Value.bool true)) (Operand.tmp 72), guard := none, hints := [(66, Hint.imm), (72, Hint.imm)] },
  { dst := some 74, op := POp.mv (Operand.tmp 73), guard := none, hints := [(73, Hint.imm)] },
  { dst := some 75, op := POp.mv (Operand.tmp 11), guard := some (74, false), hints := [(11, Hint.imm)] },
  { dst := some 76, op := POp.prim (Prim.bin BinOp.lss 3 false true) [Operand.tmp 75, Operand.const (Value.int IntKind.i64 1)], guard := some (74, false), hints := [(75, Hint.imm)] },
  { dst := some 77, op := POp.pick (Operand.tmp 74) (Operand.const (Value.bool true)) (Operand.tmp 76), guard := none, hints := [(74, Hint.imm), (76, Hint.imm)] }]
def pc13_c56 : PCode := .region none true pc13_o56
def pc13_o57 : List POper := [{ dst := some 2, op := POp.mv (Operand.const (Value.bool false)), guard := none, hints := [] }]
def pc13_c57 : PCode := .region none false pc13_o57
def pc13_c58 : PCode := .ret
def pc13_c59 : PCode := .seq pc13_c57 pc13_c58
def pc13_c60 : PCode := .skip
def pc13_c61 : PCode := .cond (Operand.tmp 77) pc13_c59 pc13_c60
def pc13_c62 : PCode := .seq pc13_c56 pc13_c61
def pc13_o63 : List POper := [{ dst := some 78, op := POp.mv (Operand.tmp 8), guard := none, hints := [] },
  { dst := some 79, op := POp.mv (Operand.tmp 11), guard := none, hints := [] },
  { dst := some 80, op := POp.prim (Prim.bin BinOp.add 3 false false) [Operand.tmp 78, Operand.tmp 79], guard := none, hints := [] },
  { dst := some 8, op := POp.mv (Operand.tmp 80), guard := none, hints := [] }]
def pc13_c63 : PCode := .region none false pc13_o63
def pc13_c64 : PCode := .seq pc13_c62 pc13_c63
def pc13_c65 : PCode := .seq pc13_c55 pc13_c64
def pc13_c66 : PCode := .block 3 pc13_c65
def pc13_o67 : List POper := [{ dst := some 54, op := POp.mv (Operand.tmp 9), guard := none, hints := [] },
  { dst := some 55, op := POp.prim (Prim.bin BinOp.add 3 false true) [Operand.tmp 54, Operand.const (Value.int IntKind.i64 1)], guard := none, hints := [] },
  { dst := some 9, op := POp.mv (Operand.tmp 55), guard := none, hints := [] }]
def pc13_c67 : PCode := .region none false pc13_o67
def pc13_c68 : PCode := .seq pc13_c66 pc13_c67
def pc13_c69 : PCode := .seq pc13_c54 pc13_c68
def pc13_c70 : PCode := .loop pc13_c69
def pc13_c71 : PCode := .block 2 pc13_c70
def pc13_c72 : PCode := .seq pc13_c49 pc13_c71
def pc13_o73 : List POper := [{ dst := some 81, op := POp.mv (Operand.tmp 8), guard := none, hints := [] },
  { dst := some 82, op := POp.mv (Operand.tmp 3), guard := none, hints := [] },
  { dst := some 83, op := POp.prim (Prim.len 9) [Operand.tmp 82], guard := none, hints := [] },
  { dst := some 84, op := POp.prim (Prim.bin BinOp.eql 3 false false) [Operand.tmp 81, Operand.tmp 83], guard := none, hints := [] },
  { dst := some 2, op := POp.mv (Operand.tmp 84), guard := none, hints := [] }]
def pc13_c73 : PCode := .region none false pc13_o73
def pc13_c74 : PCode := .ret
def pc13_c75 : PCode := .seq pc13_c73 pc13_c74
def pc13_c76 : PCode := .seq pc13_c72 pc13_c75
def pc13_c77 : PCode := .seq pc13_c48 pc13_c76
def pc13_c78 : PCode := .seq pc13_c47 pc13_c77
def pc13_c79 : PCode := .seq pc13_c17 pc13_c78
def pc13_c80 : PCode := .seq pc13_c16 pc13_c79
def pc13_c81 : PCode := .seq pc13_c15 pc13_c80
def pc13_c82 : PCode := .seq pc13_c8 pc13_c81
def pc13_c83 : PCode := .seq pc13_c1 pc13_c82
def pc13_r : List PRes := [PRes.tmp 2 []]
def pc13 : PFunc := ⟨85, pc13_r, pc13_c83, false⟩
def pc13_a : Ann := {
  kr := fun
    | 8 => some ([0, 3, 4, 5], [100004], [(false, 4, 0, 100004, 57, 22)])
    | 18 => some ([3, 4, 8, 9], [10, 100004], [])
    | _ => none
  ka := fun
    | 49 => 100004
    | _ => 0
  kh := fun
    | 4 => some (Hint.obj 100004)
    | 9 => some (Hint.imm)
    | 10 => some (Hint.at_ 10 0)
    | 11 => some (Hint.imm)
    | 12 => some (Hint.imm)
    | 64 => some (Hint.imm)
    | 65 => some (Hint.imm)
    | 66 => some (Hint.imm)
    | 67 => some (Hint.imm)
    | 68 => some (Hint.obj 100004)
    | 69 => some (Hint.imm)
    | 70 => some (Hint.obj 100004)
    | 71 => some (Hint.imm)
    | 72 => some (Hint.imm)
    | 73 => some (Hint.imm)
    | 74 => some (Hint.imm)
    | 75 => some (Hint.imm)
    | 76 => some (Hint.imm)
    | _ => none }
theorem pc13_ok : compFn Try.prog pc13_a Try.f13 = some pc13 := by kernel_rfl


end Go.Proofs.Ythmbegagkgdopaa
