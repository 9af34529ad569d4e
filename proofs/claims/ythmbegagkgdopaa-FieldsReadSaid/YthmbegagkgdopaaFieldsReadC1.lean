/-
  Code of functions, as the pure machine runs it. No condition.
-/
import Derived.Test.YthmbegagkgdopaaFieldsReadT
namespace Go.Proofs.Ythmbegagkgdopaa
open Go Go.Rx
set_option maxRecDepth 100000
set_option linter.unusedVariables false
set_option linter.unusedSimpArgs false
set_option linter.unnecessarySimpa false
-- 4: vedette/vedettelaw6.FieldsRead
def pc4_o1 : List POper := [{ dst := some 2, op := POp.mv (Operand.const (Value.bool false)), guard := none, hints := [] }]
def pc4_c1 : PCode := .region none false pc4_o1
def pc4_o2 : List POper := [{ dst := some 9, op := POp.call true [] 14 [], guard := none, hints := [] },
  { dst := some 10, op := POp.prim (Prim.un UnOp.not) [Operand.tmp 9], guard := none, hints := [] }]
def pc4_c2 : PCode := .region none false pc4_o2
def pc4_o3 : List POper := [{ dst := some 2, op := POp.mv (Operand.const (Value.bool false)), guard := none, hints := [] }]
def pc4_c3 : PCode := .region none false pc4_o3
def pc4_c4 : PCode := .ret
def pc4_c5 : PCode := .seq pc4_c3 pc4_c4
def pc4_c6 : PCode := .skip
def pc4_c7 : PCode := .cond (Operand.tmp 10) pc4_c5 pc4_c6
def pc4_c8 : PCode := .seq pc4_c2 pc4_c7
def pc4_o9 : List POper := [{ dst := some 11, op := POp.mv (Operand.tmp 0), guard := none, hints := [] },
  { dst := some 12, op := POp.prim (Prim.len 9) [Operand.tmp 11], guard := none, hints := [] },
  { dst := some 13, op := POp.prim (Prim.bin BinOp.gtr 3 false true) [Operand.tmp 12, Operand.const (Value.int IntKind.i64 400)], guard := none, hints := [] }]
def pc4_c9 : PCode := .region none false pc4_o9
def pc4_o10 : List POper := [{ dst := some 2, op := POp.mv (Operand.const (Value.bool true)), guard := none, hints := [] }]
def pc4_c10 : PCode := .region none false pc4_o10
def pc4_c11 : PCode := .ret
def pc4_c12 : PCode := .seq pc4_c10 pc4_c11
def pc4_c13 : PCode := .skip
def pc4_c14 : PCode := .cond (Operand.tmp 13) pc4_c12 pc4_c13
def pc4_c15 : PCode := .seq pc4_c9 pc4_c14
def pc4_o16 : List POper := [{ dst := some 15, op := POp.mv (Operand.tmp 0), guard := none, hints := [] },
  { dst := some 16, op := POp.call true [[]] 29 [Operand.tmp 15], guard := none, hints := [] },
  { dst := some 14, op := POp.mv (Operand.tmp 16), guard := none, hints := [] },
  { dst := some 17, op := POp.ext (Operand.tmp 14) 0, guard := none, hints := [] },
  { dst := some 18, op := POp.ext (Operand.tmp 14) 1, guard := none, hints := [] },
  { dst := some 19, op := POp.ext (Operand.tmp 14) 2, guard := none, hints := [] },
  { dst := some 3, op := POp.alloc 30 (Value.agg { toList := [Value.int IntKind.i64 0, Value.int IntKind.u8 0, Value.int IntKind.i64 0, Value.int IntKind.i64 0, Value.int IntKind.i64 0, Value.string { data := { toList := [] } }, Value.int IntKind.i64 0, Value.string { data := { toList := [] } }, Value.int IntKind.i64 0, Value.string { data := { toList := [] } }, Value.int IntKind.i64 0, Value.string { data := { toList := [] } }] }), guard := none, hints := [] },
  { dst := none, op := POp.store 12 (Operand.tmp 3) (Operand.tmp 17), guard := none, hints := [] },
  { dst := some 4, op := POp.mv (Operand.tmp 18), guard := none, hints := [] },
  { dst := some 5, op := POp.mv (Operand.tmp 19), guard := none, hints := [] }]
def pc4_c16 : PCode := .region none false pc4_o16
def pc4_o17 : List POper := [{ dst := some 21, op := POp.mv (Operand.tmp 0), guard := none, hints := [] },
  { dst := some 22, op := POp.call true [[]] 30 [Operand.tmp 21], guard := none, hints := [] },
  { dst := some 20, op := POp.mv (Operand.tmp 22), guard := none, hints := [] },
  { dst := some 23, op := POp.ext (Operand.tmp 20) 0, guard := none, hints := [] },
  { dst := some 24, op := POp.ext (Operand.tmp 20) 1, guard := none, hints := [] },
  { dst := some 25, op := POp.ext (Operand.tmp 20) 2, guard := none, hints := [] },
  { dst := some 6, op := POp.alloc 30 (Value.agg { toList := [Value.int IntKind.i64 0, Value.int IntKind.u8 0, Value.int IntKind.i64 0, Value.int IntKind.i64 0, Value.int IntKind.i64 0, Value.string { data := { toList := [] } }, Value.int IntKind.i64 0, Value.string { data := { toList := [] } }, Value.int IntKind.i64 0, Value.string { data := { toList := [] } }, Value.int IntKind.i64 0, Value.string { data := { toList := [] } }] }), guard := none, hints := [] },
  { dst := none, op := POp.store 12 (Operand.tmp 6) (Operand.tmp 23), guard := none, hints := [] },
  { dst := some 7, op := POp.mv (Operand.tmp 24), guard := none, hints := [] },
  { dst := some 8, op := POp.mv (Operand.tmp 25), guard := none, hints := [] }]
def pc4_c17 : PCode := .region none false pc4_o17
def pc4_o18 : List POper := [{ dst := some 26, op := POp.load true 12 (Operand.tmp 3), guard := none, hints := [] },
  { dst := some 27, op := POp.load true 12 (Operand.tmp 6), guard := none, hints := [] },
  { dst := some 28, op := POp.prim (Prim.bin BinOp.eql 30 false false) [Operand.tmp 26, Operand.tmp 27], guard := none, hints := [] },
  { dst := some 29, op := POp.mv (Operand.tmp 28), guard := none, hints := [] },
  { dst := some 30, op := POp.mv (Operand.tmp 4), guard := some (29, true), hints := [] },
  { dst := some 31, op := POp.mv (Operand.tmp 7), guard := some (29, true), hints := [] },
  { dst := some 32, op := POp.prim (Prim.bin BinOp.eql 3 false false) [Operand.tmp 30, Operand.tmp 31], guard := some (29, true), hints := [] },
  { dst := some 33, op := POp.pick (Operand.tmp 29) (Operand.tmp 32) (Operand.const (Value.bool false)), guard := none, hints := [] },
  { dst := some 34, op := POp.mv (Operand.tmp 33), guard := none, hints := [] },
  { dst := some 35, op := POp.mv (Operand.tmp 5), guard := some (34, true), hints := [] },
  { dst := some 36, op := POp.mv (Operand.tmp 8), guard := some (34, true), hints := [] },
  { dst := some 37, op := POp.prim (Prim.bin BinOp.eql 3 false false) [Operand.tmp 35, Operand.tmp 36], guard := some (34, true), hints := [] },
  { dst := some 38, op := POp.pick (Operand.tmp 34) (Operand.tmp 37) (Operand.const (Value.bool false)), guard := none, hints := [] },
  { dst := some 2, op := POp.mv (Operand.tmp 38), guard := none, hints := [] }]
def pc4_c18 : PCode := .region none false pc4_o18
def pc4_c19 : PCode := .ret
def pc4_c20 : PCode := .seq pc4_c18 pc4_c19
def pc4_c21 : PCode := .seq pc4_c17 pc4_c20
def pc4_c22 : PCode := .seq pc4_c16 pc4_c21
def pc4_c23 : PCode := .seq pc4_c15 pc4_c22
def pc4_c24 : PCode := .seq pc4_c8 pc4_c23
def pc4_c25 : PCode := .seq pc4_c1 pc4_c24
def pc4_r : List PRes := [PRes.tmp 2 []]
def pc4 : PFunc := ⟨39, pc4_r, pc4_c25⟩
def pc4_a : Ann := {
  kr := fun
    | _ => none
  ka := fun
    | _ => 0
  kh := fun
    | _ => none }
theorem pc4_ok : compFn Try.prog pc4_a Try.f4 = some pc4 := by kernel_rfl


end Go.Proofs.Ythmbegagkgdopaa
