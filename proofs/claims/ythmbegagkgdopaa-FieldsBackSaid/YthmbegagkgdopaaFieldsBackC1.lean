/-
  Code of functions, as the pure machine runs it. No condition.
-/
import Derived.Test.YthmbegagkgdopaaFieldsBackT
namespace Go.Proofs.Ythmbegagkgdopaa
open Go Go.Rx
set_option maxRecDepth 100000
set_option linter.unusedVariables false
set_option linter.unusedSimpArgs false
set_option linter.unnecessarySimpa false
-- 22: vedette/vedetteref6.Bytes
def pc22_o1 : List POper := [{ dst := some 1, op := POp.box 30 (Operand.tmp 0), guard := none, hints := [] },
  { dst := some 2, op := POp.mv (Operand.const (Value.string { data := { toList := [] } })), guard := none, hints := [] }]
def pc22_c1 : PCode := .region none false pc22_o1
def pc22_o2 : List POper := [{ dst := some 5, op := POp.faddr 0 (Operand.tmp 1), guard := none, hints := [(1, Hint.at_ 1 0)] },
  { dst := some 6, op := POp.load false 1 (Operand.tmp 5), guard := none, hints := [(5, Hint.at_ 1 0)] },
  { dst := some 7, op := POp.prim (Prim.conv 3 70) [Operand.tmp 6], guard := none, hints := [(6, Hint.imm)] },
  { dst := some 8, op := POp.call false [[]] 47 [Operand.tmp 7], guard := none, hints := [(7, Hint.imm)] },
  { dst := some 9, op := POp.faddr 1 (Operand.tmp 1), guard := none, hints := [(1, Hint.at_ 1 0)] },
  { dst := some 10, op := POp.load false 1 (Operand.tmp 9), guard := none, hints := [(9, Hint.at_ 1 1)] },
  { dst := some 11, op := POp.prim (Prim.conv 5 70) [Operand.tmp 10], guard := none, hints := [(10, Hint.imm)] },
  { dst := some 12, op := POp.call false [[]] 47 [Operand.tmp 11], guard := none, hints := [(11, Hint.imm)] },
  { dst := some 13, op := POp.prim (Prim.bin BinOp.add 9 false false) [Operand.tmp 8, Operand.tmp 12], guard := none, hints := [(8, Hint.imm), (12, Hint.imm)] },
  { dst := some 3, op := POp.mv (Operand.tmp 13), guard := none, hints := [(13, Hint.imm)] }]
def pc22_c2 : PCode := .region none true pc22_o2
def pc22_o3 : List POper := [{ dst := some 14, op := POp.faddr 1 (Operand.tmp 1), guard := none, hints := [] },
  { dst := some 15, op := POp.load false 1 (Operand.tmp 14), guard := none, hints := [] },
  { dst := some 16, op := POp.prim (Prim.bin BinOp.and 5 false true) [Operand.tmp 15, Operand.const (Value.int IntKind.u8 1)], guard := none, hints := [] },
  { dst := some 17, op := POp.prim (Prim.bin BinOp.neq 5 false true) [Operand.tmp 16, Operand.const (Value.int IntKind.u8 0)], guard := none, hints := [] }]
def pc22_c3 : PCode := .region none false pc22_o3
def pc22_o4 : List POper := [{ dst := some 18, op := POp.mv (Operand.tmp 3), guard := none, hints := [(3, Hint.imm)] },
  { dst := some 19, op := POp.faddr 2 (Operand.tmp 1), guard := none, hints := [(1, Hint.at_ 1 0)] },
  { dst := some 20, op := POp.faddr 0 (Operand.tmp 19), guard := none, hints := [(19, Hint.at_ 1 2)] },
  { dst := some 21, op := POp.load false 1 (Operand.tmp 20), guard := none, hints := [(20, Hint.at_ 1 2)] },
  { dst := some 22, op := POp.prim (Prim.conv 3 70) [Operand.tmp 21], guard := none, hints := [(21, Hint.imm)] },
  { dst := some 23, op := POp.call false [[]] 47 [Operand.tmp 22], guard := none, hints := [(22, Hint.imm)] },
  { dst := some 24, op := POp.prim (Prim.bin BinOp.add 9 false false) [Operand.tmp 18, Operand.tmp 23], guard := none, hints := [(18, Hint.imm), (23, Hint.imm)] },
  { dst := some 25, op := POp.faddr 2 (Operand.tmp 1), guard := none, hints := [(1, Hint.at_ 1 0)] },
  { dst := some 26, op := POp.faddr 1 (Operand.tmp 25), guard := none, hints := [(25, Hint.at_ 1 2)] },
  { dst := some 27, op := POp.load false 1 (Operand.tmp 26), guard := none, hints := [(26, Hint.at_ 1 3)] },
  { dst := some 28, op := POp.prim (Prim.conv 3 70) [Operand.tmp 27], guard := none, hints := [(27, Hint.imm)] },
  { dst := some 29, op := POp.call false [[]] 47 [Operand.tmp 28], guard := none, hints := [(28, Hint.imm)] },
  { dst := some 30, op := POp.prim (Prim.bin BinOp.add 9 false false) [Operand.tmp 24, Operand.tmp 29], guard := none, hints := [(24, Hint.imm), (29, Hint.imm)] },
  { dst := some 3, op := POp.mv (Operand.tmp 30), guard := none, hints := [(30, Hint.imm)] }]
def pc22_c4 : PCode := .region none true pc22_o4
def pc22_c5 : PCode := .skip
def pc22_c6 : PCode := .cond (Operand.tmp 17) pc22_c4 pc22_c5
def pc22_c7 : PCode := .seq pc22_c3 pc22_c6
def pc22_o8 : List POper := [{ dst := some 4, op := POp.mv (Operand.const (Value.int IntKind.i64 0)), guard := none, hints := [] }]
def pc22_c8 : PCode := .region (some ([1, 3], [1])) false pc22_o8
def pc22_o9 : List POper := [{ dst := some 31, op := POp.mv (Operand.tmp 4), guard := none, hints := [] },
  { dst := some 32, op := POp.prim (Prim.bin BinOp.lss 3 false true) [Operand.tmp 31, Operand.const (Value.int IntKind.i64 4)], guard := none, hints := [] }]
def pc22_c9 : PCode := .region (some ([1, 3, 4], [1])) false pc22_o9
def pc22_c10 : PCode := .skip
def pc22_c11 : PCode := .exit 0
def pc22_c12 : PCode := .cond (Operand.tmp 32) pc22_c10 pc22_c11
def pc22_c13 : PCode := .seq pc22_c9 pc22_c12
def pc22_o14 : List POper := [{ dst := some 35, op := POp.faddr 1 (Operand.tmp 1), guard := none, hints := [] },
  { dst := some 36, op := POp.load false 1 (Operand.tmp 35), guard := none, hints := [] },
  { dst := some 37, op := POp.mv (Operand.tmp 4), guard := none, hints := [] },
  { dst := some 38, op := POp.prim (Prim.bin BinOp.add 3 false true) [Operand.tmp 37, Operand.const (Value.int IntKind.i64 1)], guard := none, hints := [] },
  { dst := some 39, op := POp.prim (Prim.conv 3 51) [Operand.tmp 38], guard := none, hints := [] },
  { dst := some 40, op := POp.prim (Prim.bin BinOp.shr 5 false false) [Operand.tmp 36, Operand.tmp 39], guard := none, hints := [] },
  { dst := some 41, op := POp.prim (Prim.bin BinOp.and 5 false true) [Operand.tmp 40, Operand.const (Value.int IntKind.u8 1)], guard := none, hints := [] },
  { dst := some 42, op := POp.prim (Prim.bin BinOp.neq 5 false true) [Operand.tmp 41, Operand.const (Value.int IntKind.u8 0)], guard := none, hints := [] }]
def pc22_c14 : PCode := .region none false pc22_o14
def pc22_o15 : List POper := [{ dst := some 43, op := POp.mv (Operand.tmp 3), guard := none, hints := [] },
  { dst := some 44, op := POp.mv (Operand.tmp 4), guard := none, hints := [] },
  { dst := some 45, op := POp.faddr 4 (Operand.tmp 1), guard := none, hints := [] },
  { dst := some 46, op := POp.iaddrA 4 2 (Operand.tmp 45) (Operand.tmp 44), guard := none, hints := [] },
  { dst := some 47, op := POp.faddr 1 (Operand.tmp 46), guard := none, hints := [] },
  { dst := some 48, op := POp.load false 1 (Operand.tmp 47), guard := none, hints := [] },
  { dst := some 49, op := POp.call true [[]] 48 [Operand.tmp 48], guard := none, hints := [] },
  { dst := some 50, op := POp.prim (Prim.bin BinOp.add 9 false false) [Operand.tmp 43, Operand.tmp 49], guard := none, hints := [] },
  { dst := some 3, op := POp.mv (Operand.tmp 50), guard := none, hints := [] }]
def pc22_c15 : PCode := .region none false pc22_o15
def pc22_o16 : List POper := [{ dst := some 51, op := POp.mv (Operand.tmp 4), guard := none, hints := [] },
  { dst := some 52, op := POp.faddr 4 (Operand.tmp 1), guard := none, hints := [] },
  { dst := some 53, op := POp.iaddrA 4 2 (Operand.tmp 52) (Operand.tmp 51), guard := none, hints := [] },
  { dst := some 54, op := POp.faddr 1 (Operand.tmp 53), guard := none, hints := [] },
  { dst := some 55, op := POp.load false 1 (Operand.tmp 54), guard := none, hints := [] },
  { dst := some 56, op := POp.prim (Prim.bin BinOp.eql 9 false true) [Operand.tmp 55, Operand.const (Value.string { data := { toList := [] } })], guard := none, hints := [] }]
def pc22_c16 : PCode := .region none false pc22_o16
def pc22_o17 : List POper := [{ dst := some 57, op := POp.mv (Operand.tmp 3), guard := none, hints := [] },
  { dst := some 58, op := POp.mv (Operand.tmp 4), guard := none, hints := [] },
  { dst := some 59, op := POp.faddr 4 (Operand.tmp 1), guard := none, hints := [] },
  { dst := some 60, op := POp.iaddrA 4 2 (Operand.tmp 59) (Operand.tmp 58), guard := none, hints := [] },
  { dst := some 61, op := POp.faddr 0 (Operand.tmp 60), guard := none, hints := [] },
  { dst := some 62, op := POp.load false 1 (Operand.tmp 61), guard := none, hints := [] },
  { dst := some 63, op := POp.call true [[]] 49 [Operand.tmp 62], guard := none, hints := [] },
  { dst := some 64, op := POp.prim (Prim.bin BinOp.add 9 false false) [Operand.tmp 57, Operand.tmp 63], guard := none, hints := [] },
  { dst := some 3, op := POp.mv (Operand.tmp 64), guard := none, hints := [] }]
def pc22_c17 : PCode := .region none false pc22_o17
def pc22_c18 : PCode := .skip
def pc22_c19 : PCode := .cond (Operand.tmp 56) pc22_c17 pc22_c18
def pc22_c20 : PCode := .seq pc22_c16 pc22_c19
def pc22_c21 : PCode := .seq pc22_c15 pc22_c20
def pc22_c22 : PCode := .skip
def pc22_c23 : PCode := .cond (Operand.tmp 42) pc22_c21 pc22_c22
def pc22_c24 : PCode := .seq pc22_c14 pc22_c23
def pc22_c25 : PCode := .block 1 pc22_c24
def pc22_o26 : List POper := [{ dst := some 33, op := POp.mv (Operand.tmp 4), guard := none, hints := [] },
  { dst := some 34, op := POp.prim (Prim.bin BinOp.add 3 false true) [Operand.tmp 33, Operand.const (Value.int IntKind.i64 1)], guard := none, hints := [] },
  { dst := some 4, op := POp.mv (Operand.tmp 34), guard := none, hints := [] }]
def pc22_c26 : PCode := .region none false pc22_o26
def pc22_c27 : PCode := .seq pc22_c25 pc22_c26
def pc22_c28 : PCode := .seq pc22_c13 pc22_c27
def pc22_c29 : PCode := .loop pc22_c28
def pc22_c30 : PCode := .block 0 pc22_c29
def pc22_c31 : PCode := .seq pc22_c8 pc22_c30
def pc22_o32 : List POper := [{ dst := some 65, op := POp.mv (Operand.tmp 3), guard := none, hints := [] },
  { dst := some 2, op := POp.mv (Operand.tmp 65), guard := none, hints := [] }]
def pc22_c32 : PCode := .region none false pc22_o32
def pc22_c33 : PCode := .ret
def pc22_c34 : PCode := .seq pc22_c32 pc22_c33
def pc22_c35 : PCode := .seq pc22_c31 pc22_c34
def pc22_c36 : PCode := .seq pc22_c7 pc22_c35
def pc22_c37 : PCode := .seq pc22_c2 pc22_c36
def pc22_c38 : PCode := .seq pc22_c1 pc22_c37
def pc22_r : List PRes := [PRes.tmp 2 []]
def pc22 : PFunc := ⟨66, pc22_r, pc22_c38⟩
def pc22_a : Ann := {
  kr := fun
    | 4 => some ([1, 3], [1])
    | 5 => some ([1, 3, 4], [1])
    | _ => none
  ka := fun
    | _ => 0
  kh := fun
    | 1 => some (Hint.at_ 1 0)
    | 3 => some (Hint.imm)
    | 5 => some (Hint.at_ 1 0)
    | 6 => some (Hint.imm)
    | 7 => some (Hint.imm)
    | 8 => some (Hint.imm)
    | 9 => some (Hint.at_ 1 1)
    | 10 => some (Hint.imm)
    | 11 => some (Hint.imm)
    | 12 => some (Hint.imm)
    | 13 => some (Hint.imm)
    | 18 => some (Hint.imm)
    | 19 => some (Hint.at_ 1 2)
    | 20 => some (Hint.at_ 1 2)
    | 21 => some (Hint.imm)
    | 22 => some (Hint.imm)
    | 23 => some (Hint.imm)
    | 24 => some (Hint.imm)
    | 25 => some (Hint.at_ 1 2)
    | 26 => some (Hint.at_ 1 3)
    | 27 => some (Hint.imm)
    | 28 => some (Hint.imm)
    | 29 => some (Hint.imm)
    | 30 => some (Hint.imm)
    | _ => none }
theorem pc22_ok : compFn Try.prog pc22_a Try.f22 = some pc22 := by kernel_rfl


-- 72: vedette/vedetteref1.Get
def pc72_o1 : List POper := [{ dst := some 2, op := POp.mv (Operand.const (Value.int IntKind.u64 0)), guard := none, hints := [] },
  { dst := some 3, op := POp.mv (Operand.const (Value.int IntKind.i64 0)), guard := none, hints := [] },
  { dst := some 4, op := POp.mv (Operand.const (Value.int IntKind.i64 0)), guard := none, hints := [] }]
def pc72_c1 : PCode := .region none false pc72_o1
def pc72_o2 : List POper := [{ dst := some 5, op := POp.mv (Operand.const (Value.int IntKind.u64 0)), guard := none, hints := [] }]
def pc72_c2 : PCode := .region none false pc72_o2
def pc72_o3 : List POper := [{ dst := some 6, op := POp.mv (Operand.const (Value.int IntKind.i64 0)), guard := none, hints := [] }]
def pc72_c3 : PCode := .region none false pc72_o3
def pc72_o4 : List POper := [{ dst := some 8, op := POp.mv (Operand.tmp 6), guard := none, hints := [] },
  { dst := some 9, op := POp.mv (Operand.tmp 0), guard := none, hints := [] },
  { dst := some 10, op := POp.prim (Prim.len 9) [Operand.tmp 9], guard := none, hints := [] },
  { dst := some 11, op := POp.prim (Prim.bin BinOp.lss 3 false false) [Operand.tmp 8, Operand.tmp 10], guard := none, hints := [] }]
def pc72_c4 : PCode := .region (some ([0, 5, 6], [])) false pc72_o4
def pc72_c5 : PCode := .skip
def pc72_c6 : PCode := .exit 0
def pc72_c7 : PCode := .cond (Operand.tmp 11) pc72_c5 pc72_c6
def pc72_c8 : PCode := .seq pc72_c4 pc72_c7
def pc72_o9 : List POper := [{ dst := some 14, op := POp.mv (Operand.tmp 0), guard := none, hints := [] },
  { dst := some 15, op := POp.mv (Operand.tmp 6), guard := none, hints := [] },
  { dst := some 16, op := POp.prim (Prim.index 9) [Operand.tmp 14, Operand.tmp 15], guard := none, hints := [] },
  { dst := some 7, op := POp.mv (Operand.tmp 16), guard := none, hints := [] }]
def pc72_c9 : PCode := .region none false pc72_o9
def pc72_o10 : List POper := [{ dst := some 17, op := POp.mv (Operand.tmp 6), guard := none, hints := [] },
  { dst := some 18, op := POp.prim (Prim.bin BinOp.eql 3 false true) [Operand.tmp 17, Operand.const (Value.int IntKind.i64 9)], guard := none, hints := [] },
  { dst := some 19, op := POp.mv (Operand.tmp 18), guard := none, hints := [] },
  { dst := some 20, op := POp.mv (Operand.tmp 7), guard := some (19, true), hints := [] },
  { dst := some 21, op := POp.prim (Prim.bin BinOp.gtr 5 false true) [Operand.tmp 20, Operand.const (Value.int IntKind.u8 1)], guard := some (19, true), hints := [] },
  { dst := some 22, op := POp.pick (Operand.tmp 19) (Operand.tmp 21) (Operand.const (Value.bool false)), guard := none, hints := [] }]
def pc72_c10 : PCode := .region none false pc72_o10
def pc72_o11 : List POper := [{ dst := some 2, op := POp.mv (Operand.const (Value.int IntKind.u64 0)), guard := none, hints := [] },
  { dst := some 3, op := POp.mv (Operand.const (Value.int IntKind.i64 0)), guard := none, hints := [] },
  { dst := some 4, op := POp.mv (Operand.const (Value.int IntKind.i64 11)), guard := none, hints := [] }]
def pc72_c11 : PCode := .region none false pc72_o11
def pc72_c12 : PCode := .ret
def pc72_c13 : PCode := .seq pc72_c11 pc72_c12
def pc72_c14 : PCode := .skip
def pc72_c15 : PCode := .cond (Operand.tmp 22) pc72_c13 pc72_c14
def pc72_c16 : PCode := .seq pc72_c10 pc72_c15
def pc72_o17 : List POper := [{ dst := some 23, op := POp.mv (Operand.tmp 5), guard := none, hints := [] },
  { dst := some 24, op := POp.mv (Operand.tmp 7), guard := none, hints := [] },
  { dst := some 25, op := POp.prim (Prim.bin BinOp.and 5 false true) [Operand.tmp 24, Operand.const (Value.int IntKind.u8 127)], guard := none, hints := [] },
  { dst := some 26, op := POp.prim (Prim.conv 5 70) [Operand.tmp 25], guard := none, hints := [] },
  { dst := some 27, op := POp.mv (Operand.tmp 6), guard := none, hints := [] },
  { dst := some 28, op := POp.prim (Prim.bin BinOp.mul 3 true false) [Operand.const (Value.int IntKind.i64 7), Operand.tmp 27], guard := none, hints := [] },
  { dst := some 29, op := POp.prim (Prim.conv 3 51) [Operand.tmp 28], guard := none, hints := [] },
  { dst := some 30, op := POp.prim (Prim.bin BinOp.shl 70 false false) [Operand.tmp 26, Operand.tmp 29], guard := none, hints := [] },
  { dst := some 31, op := POp.prim (Prim.bin BinOp.or 70 false false) [Operand.tmp 23, Operand.tmp 30], guard := none, hints := [] },
  { dst := some 5, op := POp.mv (Operand.tmp 31), guard := none, hints := [] }]
def pc72_c17 : PCode := .region (some ([0, 5, 6, 7], [])) false pc72_o17
def pc72_o18 : List POper := [{ dst := some 32, op := POp.mv (Operand.tmp 7), guard := none, hints := [] },
  { dst := some 33, op := POp.prim (Prim.bin BinOp.lss 5 false true) [Operand.tmp 32, Operand.const (Value.int IntKind.u8 128)], guard := none, hints := [] }]
def pc72_c18 : PCode := .region none false pc72_o18
def pc72_o19 : List POper := [{ dst := some 34, op := POp.mv (Operand.tmp 7), guard := none, hints := [] },
  { dst := some 35, op := POp.prim (Prim.bin BinOp.eql 5 false true) [Operand.tmp 34, Operand.const (Value.int IntKind.u8 0)], guard := none, hints := [] },
  { dst := some 36, op := POp.mv (Operand.tmp 35), guard := none, hints := [] },
  { dst := some 37, op := POp.mv (Operand.tmp 6), guard := some (36, true), hints := [] },
  { dst := some 38, op := POp.prim (Prim.bin BinOp.gtr 3 false true) [Operand.tmp 37, Operand.const (Value.int IntKind.i64 0)], guard := some (36, true), hints := [] },
  { dst := some 39, op := POp.pick (Operand.tmp 36) (Operand.tmp 38) (Operand.const (Value.bool false)), guard := none, hints := [] }]
def pc72_c19 : PCode := .region none false pc72_o19
def pc72_o20 : List POper := [{ dst := some 2, op := POp.mv (Operand.const (Value.int IntKind.u64 0)), guard := none, hints := [] },
  { dst := some 3, op := POp.mv (Operand.const (Value.int IntKind.i64 0)), guard := none, hints := [] },
  { dst := some 4, op := POp.mv (Operand.const (Value.int IntKind.i64 11)), guard := none, hints := [] }]
def pc72_c20 : PCode := .region none false pc72_o20
def pc72_c21 : PCode := .ret
def pc72_c22 : PCode := .seq pc72_c20 pc72_c21
def pc72_c23 : PCode := .skip
def pc72_c24 : PCode := .cond (Operand.tmp 39) pc72_c22 pc72_c23
def pc72_c25 : PCode := .seq pc72_c19 pc72_c24
def pc72_o26 : List POper := [{ dst := some 40, op := POp.mv (Operand.tmp 5), guard := none, hints := [] },
  { dst := some 41, op := POp.mv (Operand.tmp 6), guard := none, hints := [] },
  { dst := some 42, op := POp.prim (Prim.bin BinOp.add 3 false true) [Operand.tmp 41, Operand.const (Value.int IntKind.i64 1)], guard := none, hints := [] },
  { dst := some 2, op := POp.mv (Operand.tmp 40), guard := none, hints := [] },
  { dst := some 3, op := POp.mv (Operand.tmp 42), guard := none, hints := [] },
  { dst := some 4, op := POp.mv (Operand.const (Value.int IntKind.i64 0)), guard := none, hints := [] }]
def pc72_c26 : PCode := .region (some ([5, 6], [])) false pc72_o26
def pc72_c27 : PCode := .ret
def pc72_c28 : PCode := .seq pc72_c26 pc72_c27
def pc72_c29 : PCode := .seq pc72_c25 pc72_c28
def pc72_c30 : PCode := .skip
def pc72_c31 : PCode := .cond (Operand.tmp 33) pc72_c29 pc72_c30
def pc72_c32 : PCode := .seq pc72_c18 pc72_c31
def pc72_c33 : PCode := .seq pc72_c17 pc72_c32
def pc72_c34 : PCode := .seq pc72_c16 pc72_c33
def pc72_c35 : PCode := .seq pc72_c9 pc72_c34
def pc72_c36 : PCode := .block 1 pc72_c35
def pc72_o37 : List POper := [{ dst := some 12, op := POp.mv (Operand.tmp 6), guard := none, hints := [] },
  { dst := some 13, op := POp.prim (Prim.bin BinOp.add 3 false true) [Operand.tmp 12, Operand.const (Value.int IntKind.i64 1)], guard := none, hints := [] },
  { dst := some 6, op := POp.mv (Operand.tmp 13), guard := none, hints := [] }]
def pc72_c37 : PCode := .region none false pc72_o37
def pc72_c38 : PCode := .seq pc72_c36 pc72_c37
def pc72_c39 : PCode := .seq pc72_c8 pc72_c38
def pc72_c40 : PCode := .loop pc72_c39
def pc72_c41 : PCode := .block 0 pc72_c40
def pc72_c42 : PCode := .seq pc72_c3 pc72_c41
def pc72_o43 : List POper := [{ dst := some 2, op := POp.mv (Operand.const (Value.int IntKind.u64 0)), guard := none, hints := [] },
  { dst := some 3, op := POp.mv (Operand.const (Value.int IntKind.i64 0)), guard := none, hints := [] },
  { dst := some 4, op := POp.mv (Operand.const (Value.int IntKind.i64 10)), guard := none, hints := [] }]
def pc72_c43 : PCode := .region none false pc72_o43
def pc72_c44 : PCode := .ret
def pc72_c45 : PCode := .seq pc72_c43 pc72_c44
def pc72_c46 : PCode := .seq pc72_c42 pc72_c45
def pc72_c47 : PCode := .seq pc72_c2 pc72_c46
def pc72_c48 : PCode := .seq pc72_c1 pc72_c47
def pc72_r : List PRes := [PRes.tmp 2 [], PRes.tmp 3 [], PRes.tmp 4 []]
def pc72 : PFunc := ⟨43, pc72_r, pc72_c48⟩
def pc72_a : Ann := {
  kr := fun
    | 3 => some ([0, 5, 6], [])
    | 8 => some ([0, 5, 6, 7], [])
    | 12 => some ([5, 6], [])
    | _ => none
  ka := fun
    | _ => 0
  kh := fun
    | _ => none }
theorem pc72_ok : compFn Try.prog pc72_a Try.f72 = some pc72 := by kernel_rfl


-- 54: vedette/vedetteref1.Texts
def pc54_o1 : List POper := [{ dst := some 4, op := POp.mv (Operand.const (Value.string { data := { toList := [] } })), guard := none, hints := [] },
  { dst := some 5, op := POp.mv (Operand.const (Value.int IntKind.i64 0)), guard := none, hints := [] },
  { dst := some 6, op := POp.mv (Operand.const (Value.int IntKind.i64 0)), guard := none, hints := [] }]
def pc54_c1 : PCode := .region none false pc54_o1
def pc54_o2 : List POper := [{ dst := some 11, op := POp.mv (Operand.tmp 0), guard := none, hints := [] },
  { dst := some 12, op := POp.call true [[]] 72 [Operand.tmp 11], guard := none, hints := [] },
  { dst := some 10, op := POp.mv (Operand.tmp 12), guard := none, hints := [] },
  { dst := some 13, op := POp.ext (Operand.tmp 10) 0, guard := none, hints := [] },
  { dst := some 14, op := POp.ext (Operand.tmp 10) 1, guard := none, hints := [] },
  { dst := some 15, op := POp.ext (Operand.tmp 10) 2, guard := none, hints := [] },
  { dst := some 7, op := POp.mv (Operand.tmp 13), guard := none, hints := [] },
  { dst := some 8, op := POp.mv (Operand.tmp 14), guard := none, hints := [] },
  { dst := some 9, op := POp.mv (Operand.tmp 15), guard := none, hints := [] }]
def pc54_c2 : PCode := .region none false pc54_o2
def pc54_o3 : List POper := [{ dst := some 17, op := POp.mv (Operand.tmp 9), guard := none, hints := [] },
  { dst := some 18, op := POp.prim (Prim.bin BinOp.neq 3 false true) [Operand.tmp 17, Operand.const (Value.int IntKind.i64 0)], guard := none, hints := [] },
  { dst := some 16, op := POp.mv (Operand.tmp 18), guard := none, hints := [] }]
def pc54_c3 : PCode := .region none false pc54_o3
def pc54_o4 : List POper := [{ dst := some 19, op := POp.mv (Operand.tmp 9), guard := none, hints := [] },
  { dst := some 4, op := POp.mv (Operand.const (Value.string { data := { toList := [] } })), guard := none, hints := [] },
  { dst := some 5, op := POp.mv (Operand.const (Value.int IntKind.i64 0)), guard := none, hints := [] },
  { dst := some 6, op := POp.mv (Operand.tmp 19), guard := none, hints := [] }]
def pc54_c4 : PCode := .region none false pc54_o4
def pc54_c5 : PCode := .ret
def pc54_c6 : PCode := .seq pc54_c4 pc54_c5
def pc54_o7 : List POper := [{ dst := some 21, op := POp.mv (Operand.tmp 7), guard := none, hints := [] },
  { dst := some 22, op := POp.mv (Operand.tmp 1), guard := none, hints := [] },
  { dst := some 23, op := POp.prim Prim.max [Operand.const (Value.int IntKind.i64 0), Operand.tmp 22], guard := none, hints := [] },
  { dst := some 24, op := POp.prim (Prim.conv 3 70) [Operand.tmp 23], guard := none, hints := [] },
  { dst := some 25, op := POp.prim (Prim.bin BinOp.gtr 70 false false) [Operand.tmp 21, Operand.tmp 24], guard := none, hints := [] },
  { dst := some 20, op := POp.mv (Operand.tmp 25), guard := none, hints := [] }]
def pc54_c7 : PCode := .region none false pc54_o7
def pc54_o8 : List POper := [{ dst := some 4, op := POp.mv (Operand.const (Value.string { data := { toList := [] } })), guard := none, hints := [] },
  { dst := some 5, op := POp.mv (Operand.const (Value.int IntKind.i64 0)), guard := none, hints := [] },
  { dst := some 6, op := POp.mv (Operand.const (Value.int IntKind.i64 13)), guard := none, hints := [] }]
def pc54_c8 : PCode := .region none false pc54_o8
def pc54_c9 : PCode := .ret
def pc54_c10 : PCode := .seq pc54_c8 pc54_c9
def pc54_o11 : List POper := [{ dst := some 27, op := POp.mv (Operand.tmp 7), guard := none, hints := [] },
  { dst := some 28, op := POp.mv (Operand.tmp 0), guard := none, hints := [] },
  { dst := some 29, op := POp.prim (Prim.len 9) [Operand.tmp 28], guard := none, hints := [] },
  { dst := some 30, op := POp.mv (Operand.tmp 8), guard := none, hints := [] },
  { dst := some 31, op := POp.prim (Prim.bin BinOp.sub 3 false false) [Operand.tmp 29, Operand.tmp 30], guard := none, hints := [] },
  { dst := some 32, op := POp.prim (Prim.conv 3 70) [Operand.tmp 31], guard := none, hints := [] },
  { dst := some 33, op := POp.prim (Prim.bin BinOp.gtr 70 false false) [Operand.tmp 27, Operand.tmp 32], guard := none, hints := [] },
  { dst := some 26, op := POp.mv (Operand.tmp 33), guard := none, hints := [] }]
def pc54_c11 : PCode := .region none false pc54_o11
def pc54_o12 : List POper := [{ dst := some 4, op := POp.mv (Operand.const (Value.string { data := { toList := [] } })), guard := none, hints := [] },
  { dst := some 5, op := POp.mv (Operand.const (Value.int IntKind.i64 0)), guard := none, hints := [] },
  { dst := some 6, op := POp.mv (Operand.const (Value.int IntKind.i64 10)), guard := none, hints := [] }]
def pc54_c12 : PCode := .region none false pc54_o12
def pc54_c13 : PCode := .ret
def pc54_c14 : PCode := .seq pc54_c12 pc54_c13
def pc54_c15 : PCode := .skip
def pc54_c16 : PCode := .cond (Operand.tmp 26) pc54_c14 pc54_c15
def pc54_c17 : PCode := .seq pc54_c11 pc54_c16
def pc54_c18 : PCode := .cond (Operand.tmp 20) pc54_c10 pc54_c17
def pc54_c19 : PCode := .seq pc54_c7 pc54_c18
def pc54_c20 : PCode := .cond (Operand.tmp 16) pc54_c6 pc54_c19
def pc54_c21 : PCode := .seq pc54_c3 pc54_c20
def pc54_c22 : PCode := .block 0 pc54_c21
def pc54_o23 : List POper := [{ dst := some 34, op := POp.mv (Operand.tmp 0), guard := none, hints := [] },
  { dst := some 35, op := POp.mv (Operand.tmp 8), guard := none, hints := [] },
  { dst := some 36, op := POp.mv (Operand.tmp 8), guard := none, hints := [] },
  { dst := some 37, op := POp.mv (Operand.tmp 7), guard := none, hints := [] },
  { dst := some 38, op := POp.prim (Prim.conv 70 3) [Operand.tmp 37], guard := none, hints := [] },
  { dst := some 39, op := POp.prim (Prim.bin BinOp.add 3 false false) [Operand.tmp 36, Operand.tmp 38], guard := none, hints := [] },
  { dst := some 40, op := POp.prim (Prim.slice 9 true true) [Operand.tmp 34, Operand.tmp 35, Operand.tmp 39], guard := none, hints := [] },
  { dst := some 41, op := POp.mv (Operand.tmp 8), guard := none, hints := [] },
  { dst := some 42, op := POp.mv (Operand.tmp 7), guard := none, hints := [] },
  { dst := some 43, op := POp.prim (Prim.conv 70 3) [Operand.tmp 42], guard := none, hints := [] },
  { dst := some 44, op := POp.prim (Prim.bin BinOp.add 3 false false) [Operand.tmp 41, Operand.tmp 43], guard := none, hints := [] },
  { dst := some 4, op := POp.mv (Operand.tmp 40), guard := none, hints := [] },
  { dst := some 5, op := POp.mv (Operand.tmp 44), guard := none, hints := [] },
  { dst := some 6, op := POp.mv (Operand.const (Value.int IntKind.i64 0)), guard := none, hints := [] }]
def pc54_c23 : PCode := .region none false pc54_o23
def pc54_c24 : PCode := .ret
def pc54_c25 : PCode := .seq pc54_c23 pc54_c24
def pc54_c26 : PCode := .seq pc54_c22 pc54_c25
def pc54_c27 : PCode := .seq pc54_c2 pc54_c26
def pc54_c28 : PCode := .seq pc54_c1 pc54_c27
def pc54_r : List PRes := [PRes.tmp 4 [], PRes.tmp 5 [], PRes.tmp 6 []]
def pc54 : PFunc := ⟨45, pc54_r, pc54_c28⟩
def pc54_a : Ann := {
  kr := fun
    | _ => none
  ka := fun
    | _ => 0
  kh := fun
    | _ => none }
theorem pc54_ok : compFn Try.prog pc54_a Try.f54 = some pc54 := by kernel_rfl


-- 73: vedette/vedetteref1.Zag
def pc73_o1 : List POper := [{ dst := some 2, op := POp.mv (Operand.const (Value.int IntKind.i64 0)), guard := none, hints := [] }]
def pc73_c1 : PCode := .region none false pc73_o1
def pc73_o2 : List POper := [{ dst := some 3, op := POp.mv (Operand.tmp 0), guard := none, hints := [] },
  { dst := some 4, op := POp.prim (Prim.bin BinOp.shr 70 false true) [Operand.tmp 3, Operand.const (Value.int IntKind.u64 1)], guard := none, hints := [] },
  { dst := some 5, op := POp.prim (Prim.conv 70 2) [Operand.tmp 4], guard := none, hints := [] },
  { dst := some 6, op := POp.mv (Operand.tmp 0), guard := none, hints := [] },
  { dst := some 7, op := POp.prim (Prim.bin BinOp.and 70 false true) [Operand.tmp 6, Operand.const (Value.int IntKind.u64 1)], guard := none, hints := [] },
  { dst := some 8, op := POp.prim (Prim.conv 70 2) [Operand.tmp 7], guard := none, hints := [] },
  { dst := some 9, op := POp.prim (Prim.un UnOp.neg) [Operand.tmp 8], guard := none, hints := [] },
  { dst := some 10, op := POp.prim (Prim.bin BinOp.xor 2 false false) [Operand.tmp 5, Operand.tmp 9], guard := none, hints := [] },
  { dst := some 2, op := POp.mv (Operand.tmp 10), guard := none, hints := [] }]
def pc73_c2 : PCode := .region none false pc73_o2
def pc73_c3 : PCode := .ret
def pc73_c4 : PCode := .seq pc73_c2 pc73_c3
def pc73_c5 : PCode := .seq pc73_c1 pc73_c4
def pc73_r : List PRes := [PRes.tmp 2 []]
def pc73 : PFunc := ⟨11, pc73_r, pc73_c5⟩
def pc73_a : Ann := {
  kr := fun
    | _ => none
  ka := fun
    | _ => 0
  kh := fun
    | _ => none }
theorem pc73_ok : compFn Try.prog pc73_a Try.f73 = some pc73 := by kernel_rfl


-- 55: vedette/vedetteref1.Ints
def pc55_o1 : List POper := [{ dst := some 2, op := POp.mv (Operand.const (Value.int IntKind.i64 0)), guard := none, hints := [] },
  { dst := some 3, op := POp.mv (Operand.const (Value.int IntKind.i64 0)), guard := none, hints := [] },
  { dst := some 4, op := POp.mv (Operand.const (Value.int IntKind.i64 0)), guard := none, hints := [] }]
def pc55_c1 : PCode := .region none false pc55_o1
def pc55_o2 : List POper := [{ dst := some 9, op := POp.mv (Operand.tmp 0), guard := none, hints := [] },
  { dst := some 10, op := POp.call true [[]] 72 [Operand.tmp 9], guard := none, hints := [] },
  { dst := some 8, op := POp.mv (Operand.tmp 10), guard := none, hints := [] },
  { dst := some 11, op := POp.ext (Operand.tmp 8) 0, guard := none, hints := [] },
  { dst := some 12, op := POp.ext (Operand.tmp 8) 1, guard := none, hints := [] },
  { dst := some 13, op := POp.ext (Operand.tmp 8) 2, guard := none, hints := [] },
  { dst := some 5, op := POp.mv (Operand.tmp 11), guard := none, hints := [] },
  { dst := some 6, op := POp.mv (Operand.tmp 12), guard := none, hints := [] },
  { dst := some 7, op := POp.mv (Operand.tmp 13), guard := none, hints := [] }]
def pc55_c2 : PCode := .region none false pc55_o2
def pc55_o3 : List POper := [{ dst := some 14, op := POp.mv (Operand.tmp 5), guard := none, hints := [] },
  { dst := some 15, op := POp.call true [[]] 73 [Operand.tmp 14], guard := none, hints := [] },
  { dst := some 16, op := POp.mv (Operand.tmp 6), guard := none, hints := [] },
  { dst := some 17, op := POp.mv (Operand.tmp 7), guard := none, hints := [] },
  { dst := some 2, op := POp.mv (Operand.tmp 15), guard := none, hints := [] },
  { dst := some 3, op := POp.mv (Operand.tmp 16), guard := none, hints := [] },
  { dst := some 4, op := POp.mv (Operand.tmp 17), guard := none, hints := [] }]
def pc55_c3 : PCode := .region none false pc55_o3
def pc55_c4 : PCode := .ret
def pc55_c5 : PCode := .seq pc55_c3 pc55_c4
def pc55_c6 : PCode := .seq pc55_c2 pc55_c5
def pc55_c7 : PCode := .seq pc55_c1 pc55_c6
def pc55_r : List PRes := [PRes.tmp 2 [], PRes.tmp 3 [], PRes.tmp 4 []]
def pc55 : PFunc := ⟨18, pc55_r, pc55_c7⟩
def pc55_a : Ann := {
  kr := fun
    | _ => none
  ka := fun
    | _ => 0
  kh := fun
    | _ => none }
theorem pc55_ok : compFn Try.prog pc55_a Try.f55 = some pc55 := by kernel_rfl


end Go.Proofs.Ythmbegagkgdopaa
