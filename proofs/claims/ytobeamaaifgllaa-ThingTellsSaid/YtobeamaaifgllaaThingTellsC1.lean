/-
  Code of functions, as the pure machine runs it. No condition.
-/
import Derived.Test.YtobeamaaifgllaaThingTellsT
namespace Go.Proofs.Ytobeamaaifgllaa
open Go Go.Rx
set_option maxRecDepth 100000
set_option linter.unusedVariables false
set_option linter.unusedSimpArgs false
set_option linter.unnecessarySimpa false
-- 23: vedette/vedetteref6.AllBytes
def pc23_o1 : List POper := [{ dst := some 2, op := POp.mv (Operand.const (Value.string { data := { toList := [] } })), guard := none, hints := [] },
  { dst := some 3, op := POp.mv (Operand.const (Value.int IntKind.i64 0)), guard := none, hints := [] }]
def pc23_c1 : PCode := .region none false pc23_o1
def pc23_o2 : List POper := [{ dst := some 6, op := POp.mv (Operand.tmp 0), guard := none, hints := [] },
  { dst := some 7, op := POp.lenS (Operand.tmp 6), guard := none, hints := [] },
  { dst := some 8, op := POp.prim (Prim.bin BinOp.gtr 3 false true) [Operand.tmp 7, Operand.const (Value.int IntKind.i64 200)], guard := none, hints := [] }]
def pc23_c2 : PCode := .region none false pc23_o2
def pc23_o3 : List POper := [{ dst := some 2, op := POp.mv (Operand.const (Value.string { data := { toList := [] } })), guard := none, hints := [] },
  { dst := some 3, op := POp.mv (Operand.const (Value.int IntKind.i64 13)), guard := none, hints := [] }]
def pc23_c3 : PCode := .region none false pc23_o3
def pc23_c4 : PCode := .ret
def pc23_c5 : PCode := .seq pc23_c3 pc23_c4
def pc23_c6 : PCode := .skip
def pc23_c7 : PCode := .cond (Operand.tmp 8) pc23_c5 pc23_c6
def pc23_c8 : PCode := .seq pc23_c2 pc23_c7
def pc23_o9 : List POper := [{ dst := some 9, op := POp.mv (Operand.tmp 0), guard := none, hints := [] },
  { dst := some 10, op := POp.lenS (Operand.tmp 9), guard := none, hints := [] },
  { dst := some 11, op := POp.prim (Prim.conv 3 89) [Operand.tmp 10], guard := none, hints := [] },
  { dst := some 12, op := POp.call true [[]] 60 [Operand.tmp 11], guard := none, hints := [] },
  { dst := some 4, op := POp.mv (Operand.tmp 12), guard := none, hints := [] }]
def pc23_c9 : PCode := .region none false pc23_o9
def pc23_o10 : List POper := [{ dst := some 5, op := POp.mv (Operand.const (Value.int IntKind.i64 0)), guard := none, hints := [] }]
def pc23_c10 : PCode := .region none false pc23_o10
def pc23_o11 : List POper := [{ dst := some 13, op := POp.mv (Operand.tmp 5), guard := none, hints := [] },
  { dst := some 14, op := POp.mv (Operand.tmp 0), guard := none, hints := [] },
  { dst := some 15, op := POp.lenS (Operand.tmp 14), guard := none, hints := [] },
  { dst := some 16, op := POp.prim (Prim.bin BinOp.lss 3 false false) [Operand.tmp 13, Operand.tmp 15], guard := none, hints := [] }]
def pc23_c11 : PCode := .region (some ([0, 4, 5], [], [])) false pc23_o11
def pc23_c12 : PCode := .skip
def pc23_c13 : PCode := .exit 0
def pc23_c14 : PCode := .cond (Operand.tmp 16) pc23_c12 pc23_c13
def pc23_c15 : PCode := .seq pc23_c11 pc23_c14
def pc23_o16 : List POper := [{ dst := some 19, op := POp.mv (Operand.tmp 0), guard := none, hints := [(0, Hint.imm)] },
  { dst := some 20, op := POp.mv (Operand.tmp 5), guard := none, hints := [(5, Hint.imm)] },
  { dst := some 21, op := POp.iaddrS 11 (Operand.tmp 19) (Operand.tmp 20), guard := none, hints := [(19, Hint.imm), (20, Hint.imm)] },
  { dst := some 22, op := POp.load true 11 (Operand.tmp 21), guard := none, hints := [(21, Hint.imm)] },
  { dst := some 23, op := POp.call false [[]] 18 [Operand.tmp 22], guard := none, hints := [(22, Hint.imm)] },
  { dst := some 24, op := POp.prim (Prim.un UnOp.not) [Operand.tmp 23], guard := none, hints := [(23, Hint.imm)] },
  { dst := some 25, op := POp.mv (Operand.tmp 24), guard := none, hints := [(24, Hint.imm)] },
  { dst := some 26, op := POp.mv (Operand.tmp 5), guard := some (25, false), hints := [(5, Hint.imm)] },
  { dst := some 27, op := POp.prim (Prim.bin BinOp.gtr 3 false true) [Operand.tmp 26, Operand.const (Value.int IntKind.i64 0)], guard := some (25, false), hints := [(26, Hint.imm)] },
  { dst := some 28, op := POp.mv (Operand.tmp 27), guard := some (25, false), hints := [(27, Hint.imm)] },
  { dst := some 29, op := POp.mv (Operand.tmp 0), guard := some (28, true), hints := [(0, Hint.imm)] },
  { dst := some 30, op := POp.mv (Operand.tmp 5), guard := some (28, true), hints := [(5, Hint.imm)] },
  { dst := some 31, op := POp.iaddrS 11 (Operand.tmp 29) (Operand.tmp 30), guard := some (28, true), hints := [(29, Hint.imm), (30, Hint.imm)] },
  { dst := some 32, op := POp.faddr 0 (Operand.tmp 31), guard := some (28, true), hints := [(31, Hint.imm)] },
  { dst := some 33, op := POp.load false 1 (Operand.tmp 32), guard := some (28, true), hints := [(32, Hint.imm)] },
  { dst := some 34, op := POp.mv (Operand.tmp 0), guard := some (28, true), hints := [(0, Hint.imm)] },
  { dst := some 35, op := POp.mv (Operand.tmp 5), guard := some (28, true), hints := [(5, Hint.imm)] },
  { dst := some 36, op := POp.prim (Prim.bin BinOp.sub 3 false true) [Operand.tmp 35, Operand.const (Value.int IntKind.i64 1)], guard := some (28, true), hints := [(35, Hint.imm)] },
  { dst := some 37, op := POp.iaddrS 11 (Operand.tmp 34) (Operand.tmp 36), guard := some (28, true), hints := [(34, Hint.imm), (36, Hint.imm)] },
  { dst := some 38, op := POp.faddr 0 (Operand.tmp 37), guard := some (28, true), hints := [(37, Hint.imm)] },
  { dst := some 39, op := POp.load false 1 (Operand.tmp 38), guard := some (28, true), hints := [(38, Hint.imm)] },
  { dst := some 40, op := POp.prim (Prim.bin BinOp.leq 3 false false) [Operand.tmp 33, Operand.tmp 39], guard := some (28, true), hints := [(33, Hint.imm), (39, Hint.imm)] },
  { dst := some 41, op := POp.pick (Operand.tmp 28) (Operand.tmp 40) (Operand.const (Value.bool false)), guard := some (25, false), hints := [(28, Hint.imm), (40, Hint.imm)] },
  { dst := some 42, op := POp.pick (Operand.tmp 25) (Operand.const (Value.bool true)) (Operand.tmp 41), guard := none, hints := [(25, Hint.imm), (41, Hint.imm)] }]
def pc23_c16 : PCode := .region none true pc23_o16
def pc23_o17 : List POper := [{ dst := some 2, op := POp.mv (Operand.const (Value.string { data := { toList := [] } })), guard := none, hints := [] },
  { dst := some 3, op := POp.mv (Operand.const (Value.int IntKind.i64 11)), guard := none, hints := [] }]
def pc23_c17 : PCode := .region none false pc23_o17
def pc23_c18 : PCode := .ret
def pc23_c19 : PCode := .seq pc23_c17 pc23_c18
def pc23_c20 : PCode := .skip
def pc23_c21 : PCode := .cond (Operand.tmp 42) pc23_c19 pc23_c20
def pc23_c22 : PCode := .seq pc23_c16 pc23_c21
def pc23_o23 : List POper := [{ dst := some 43, op := POp.mv (Operand.tmp 4), guard := none, hints := [] },
  { dst := some 44, op := POp.mv (Operand.tmp 0), guard := none, hints := [] },
  { dst := some 45, op := POp.mv (Operand.tmp 5), guard := none, hints := [] },
  { dst := some 46, op := POp.iaddrS 11 (Operand.tmp 44) (Operand.tmp 45), guard := none, hints := [] },
  { dst := some 47, op := POp.load true 11 (Operand.tmp 46), guard := none, hints := [] },
  { dst := some 48, op := POp.call true [[]] 20 [Operand.tmp 47], guard := none, hints := [] },
  { dst := some 49, op := POp.call true [[]] 19 [Operand.tmp 48], guard := none, hints := [] },
  { dst := some 50, op := POp.prim (Prim.bin BinOp.add 9 false false) [Operand.tmp 43, Operand.tmp 49], guard := none, hints := [] },
  { dst := some 4, op := POp.mv (Operand.tmp 50), guard := none, hints := [] }]
def pc23_c23 : PCode := .region (some ([0, 4, 5], [], [])) false pc23_o23
def pc23_c24 : PCode := .seq pc23_c22 pc23_c23
def pc23_c25 : PCode := .block 1 pc23_c24
def pc23_o26 : List POper := [{ dst := some 17, op := POp.mv (Operand.tmp 5), guard := none, hints := [] },
  { dst := some 18, op := POp.prim (Prim.bin BinOp.add 3 false true) [Operand.tmp 17, Operand.const (Value.int IntKind.i64 1)], guard := none, hints := [] },
  { dst := some 5, op := POp.mv (Operand.tmp 18), guard := none, hints := [] }]
def pc23_c26 : PCode := .region none false pc23_o26
def pc23_c27 : PCode := .seq pc23_c25 pc23_c26
def pc23_c28 : PCode := .seq pc23_c15 pc23_c27
def pc23_c29 : PCode := .loop pc23_c28
def pc23_c30 : PCode := .block 0 pc23_c29
def pc23_c31 : PCode := .seq pc23_c10 pc23_c30
def pc23_o32 : List POper := [{ dst := some 51, op := POp.mv (Operand.tmp 4), guard := none, hints := [] },
  { dst := some 2, op := POp.mv (Operand.tmp 51), guard := none, hints := [] },
  { dst := some 3, op := POp.mv (Operand.const (Value.int IntKind.i64 0)), guard := none, hints := [] }]
def pc23_c32 : PCode := .region none false pc23_o32
def pc23_c33 : PCode := .ret
def pc23_c34 : PCode := .seq pc23_c32 pc23_c33
def pc23_c35 : PCode := .seq pc23_c31 pc23_c34
def pc23_c36 : PCode := .seq pc23_c9 pc23_c35
def pc23_c37 : PCode := .seq pc23_c8 pc23_c36
def pc23_c38 : PCode := .seq pc23_c1 pc23_c37
def pc23_r : List PRes := [PRes.tmp 2 [], PRes.tmp 3 []]
def pc23 : PFunc := ⟨52, pc23_r, pc23_c38, false⟩
def pc23_a : Ann := {
  kr := fun
    | 5 => some ([0, 4, 5], [], [])
    | 9 => some ([0, 4, 5], [], [])
    | _ => none
  ka := fun
    | _ => 0
  kh := fun
    | 0 => some (Hint.imm)
    | 5 => some (Hint.imm)
    | 19 => some (Hint.imm)
    | 20 => some (Hint.imm)
    | 21 => some (Hint.imm)
    | 22 => some (Hint.imm)
    | 23 => some (Hint.imm)
    | 24 => some (Hint.imm)
    | 25 => some (Hint.imm)
    | 26 => some (Hint.imm)
    | 27 => some (Hint.imm)
    | 28 => some (Hint.imm)
    | 29 => some (Hint.imm)
    | 30 => some (Hint.imm)
    | 31 => some (Hint.imm)
    | 32 => some (Hint.imm)
    | 33 => some (Hint.imm)
    | 34 => some (Hint.imm)
    | 35 => some (Hint.imm)
    | 36 => some (Hint.imm)
    | 37 => some (Hint.imm)
    | 38 => some (Hint.imm)
    | 39 => some (Hint.imm)
    | 40 => some (Hint.imm)
    | 41 => some (Hint.imm)
    | _ => none
  ow := fun t => match t with
    | 96 => [(1, 5, 1)]
    | _ => []
  tc := fun t => match t with
    | 96 => true
    | _ => false }
theorem pc23_ok : compFn Try.prog pc23_a Try.f23 = some pc23 := by kernel_rfl


-- 27: vedette/vedetteref6.Server
def pc27_o1 : List POper := [{ dst := some 2, op := POp.mv (Operand.const (Value.int IntKind.i64 0)), guard := none, hints := [] }]
def pc27_c1 : PCode := .region none false pc27_o1
def pc27_o2 : List POper := [{ dst := some 3, op := POp.mv (Operand.tmp 0), guard := none, hints := [] },
  { dst := some 4, op := POp.prim Prim.max [Operand.const (Value.int IntKind.i64 0), Operand.tmp 3], guard := none, hints := [] },
  { dst := some 5, op := POp.prim (Prim.bin BinOp.rem 3 false true) [Operand.tmp 4, Operand.const (Value.int IntKind.i64 4)], guard := none, hints := [] },
  { dst := some 2, op := POp.mv (Operand.tmp 5), guard := none, hints := [] }]
def pc27_c2 : PCode := .region none false pc27_o2
def pc27_c3 : PCode := .ret
def pc27_c4 : PCode := .seq pc27_c2 pc27_c3
def pc27_c5 : PCode := .seq pc27_c1 pc27_c4
def pc27_r : List PRes := [PRes.tmp 2 []]
def pc27 : PFunc := ⟨6, pc27_r, pc27_c5, false⟩
def pc27_a : Ann := {
  kr := fun
    | _ => none
  ka := fun
    | _ => 0
  kh := fun
    | _ => none
  ow := fun t => match t with
    | 96 => [(1, 5, 1)]
    | _ => []
  tc := fun t => match t with
    | 96 => true
    | _ => false }
theorem pc27_ok : compFn Try.prog pc27_a Try.f27 = some pc27 := by kernel_rfl


-- 29: vedette/vedetteref6.Number
def pc29_o1 : List POper := [{ dst := some 4, op := POp.mv (Operand.const (Value.int IntKind.i64 0)), guard := none, hints := [] }]
def pc29_c1 : PCode := .region none false pc29_o1
def pc29_o2 : List POper := [{ dst := some 5, op := POp.mv (Operand.tmp 1), guard := none, hints := [] },
  { dst := some 6, op := POp.prim Prim.min [Operand.tmp 5, Operand.const (Value.int IntKind.i64 200000)], guard := none, hints := [] },
  { dst := some 7, op := POp.prim Prim.max [Operand.const (Value.int IntKind.i64 0), Operand.tmp 6], guard := none, hints := [] },
  { dst := some 8, op := POp.prim (Prim.bin BinOp.mul 3 true false) [Operand.const (Value.int IntKind.i64 4), Operand.tmp 7], guard := none, hints := [] },
  { dst := some 9, op := POp.mv (Operand.tmp 0), guard := none, hints := [] },
  { dst := some 10, op := POp.prim Prim.min [Operand.tmp 9, Operand.const (Value.int IntKind.i64 3)], guard := none, hints := [] },
  { dst := some 11, op := POp.prim Prim.max [Operand.const (Value.int IntKind.i64 0), Operand.tmp 10], guard := none, hints := [] },
  { dst := some 12, op := POp.prim (Prim.bin BinOp.add 3 false false) [Operand.tmp 8, Operand.tmp 11], guard := none, hints := [] },
  { dst := some 4, op := POp.mv (Operand.tmp 12), guard := none, hints := [] }]
def pc29_c2 : PCode := .region none false pc29_o2
def pc29_c3 : PCode := .ret
def pc29_c4 : PCode := .seq pc29_c2 pc29_c3
def pc29_c5 : PCode := .seq pc29_c1 pc29_c4
def pc29_r : List PRes := [PRes.tmp 4 []]
def pc29 : PFunc := ⟨13, pc29_r, pc29_c5, false⟩
def pc29_a : Ann := {
  kr := fun
    | _ => none
  ka := fun
    | _ => 0
  kh := fun
    | _ => none
  ow := fun t => match t with
    | 96 => [(1, 5, 1)]
    | _ => []
  tc := fun t => match t with
    | 96 => true
    | _ => false }
theorem pc29_ok : compFn Try.prog pc29_a Try.f29 = some pc29 := by kernel_rfl


-- 3: vedette/vedettelaw7.ThingTells
def pc3_o1 : List POper := [{ dst := some 5, op := POp.box 28 (Operand.tmp 0) [], guard := none, hints := [] },
  { dst := some 6, op := POp.box 28 (Operand.tmp 1) [], guard := none, hints := [] },
  { dst := some 10, op := POp.mv (Operand.const (Value.bool false)), guard := none, hints := [] }]
def pc3_c1 : PCode := .region none false pc3_o1
def pc3_o2 : List POper := [{ dst := some 18, op := POp.call true [] 15 [], guard := none, hints := [] },
  { dst := some 19, op := POp.prim (Prim.un UnOp.not) [Operand.tmp 18], guard := none, hints := [] }]
def pc3_c2 : PCode := .region none false pc3_o2
def pc3_o3 : List POper := [{ dst := some 10, op := POp.mv (Operand.const (Value.bool false)), guard := none, hints := [] }]
def pc3_c3 : PCode := .region none false pc3_o3
def pc3_c4 : PCode := .ret
def pc3_c5 : PCode := .seq pc3_c3 pc3_c4
def pc3_c6 : PCode := .skip
def pc3_c7 : PCode := .cond (Operand.tmp 19) pc3_c5 pc3_c6
def pc3_c8 : PCode := .seq pc3_c2 pc3_c7
def pc3_o9 : List POper := [{ dst := some 20, op := POp.load true 11 (Operand.tmp 5), guard := none, hints := [] },
  { dst := some 21, op := POp.call true [[]] 16 [Operand.tmp 20], guard := none, hints := [] },
  { dst := some 22, op := POp.prim (Prim.un UnOp.not) [Operand.tmp 21], guard := none, hints := [] },
  { dst := some 23, op := POp.mv (Operand.tmp 22), guard := none, hints := [] },
  { dst := some 24, op := POp.load true 11 (Operand.tmp 6), guard := some (23, false), hints := [] },
  { dst := some 25, op := POp.call true [[]] 16 [Operand.tmp 24], guard := some (23, false), hints := [] },
  { dst := some 26, op := POp.prim (Prim.un UnOp.not) [Operand.tmp 25], guard := some (23, false), hints := [] },
  { dst := some 27, op := POp.pick (Operand.tmp 23) (Operand.const (Value.bool true)) (Operand.tmp 26), guard := none, hints := [] },
  { dst := some 28, op := POp.mv (Operand.tmp 27), guard := none, hints := [] },
  { dst := some 29, op := POp.mv (Operand.tmp 2), guard := some (28, false), hints := [] },
  { dst := some 30, op := POp.call true [[(0, 11)]] 17 [Operand.tmp 29], guard := some (28, false), hints := [] },
  { dst := some 31, op := POp.prim (Prim.un UnOp.not) [Operand.tmp 30], guard := some (28, false), hints := [] },
  { dst := some 32, op := POp.pick (Operand.tmp 28) (Operand.const (Value.bool true)) (Operand.tmp 31), guard := none, hints := [] }]
def pc3_c9 : PCode := .region none false pc3_o9
def pc3_o10 : List POper := [{ dst := some 10, op := POp.mv (Operand.const (Value.bool true)), guard := none, hints := [] }]
def pc3_c10 : PCode := .region none false pc3_o10
def pc3_c11 : PCode := .ret
def pc3_c12 : PCode := .seq pc3_c10 pc3_c11
def pc3_c13 : PCode := .skip
def pc3_c14 : PCode := .cond (Operand.tmp 32) pc3_c12 pc3_c13
def pc3_c15 : PCode := .seq pc3_c9 pc3_c14
def pc3_o16 : List POper := [{ dst := some 11, op := POp.mv (Operand.const (Value.string { data := { toList := [] } })), guard := none, hints := [] }]
def pc3_c16 : PCode := .region none false pc3_o16
def pc3_o17 : List POper := [{ dst := some 33, op := POp.load true 11 (Operand.tmp 5), guard := none, hints := [] },
  { dst := some 34, op := POp.call true [[]] 18 [Operand.tmp 33], guard := none, hints := [] }]
def pc3_c17 : PCode := .region none false pc3_o17
def pc3_o18 : List POper := [{ dst := some 35, op := POp.load true 11 (Operand.tmp 5), guard := none, hints := [] },
  { dst := some 36, op := POp.call true [[]] 20 [Operand.tmp 35], guard := none, hints := [] },
  { dst := some 37, op := POp.call true [[]] 19 [Operand.tmp 36], guard := none, hints := [] },
  { dst := some 11, op := POp.mv (Operand.tmp 37), guard := none, hints := [] }]
def pc3_c18 : PCode := .region none false pc3_o18
def pc3_c19 : PCode := .skip
def pc3_c20 : PCode := .cond (Operand.tmp 34) pc3_c18 pc3_c19
def pc3_c21 : PCode := .seq pc3_c17 pc3_c20
def pc3_o22 : List POper := [{ dst := some 39, op := POp.load true 11 (Operand.tmp 5), guard := none, hints := [] },
  { dst := some 40, op := POp.call true [[]] 21 [Operand.tmp 39], guard := none, hints := [] },
  { dst := some 38, op := POp.mv (Operand.tmp 40), guard := none, hints := [] },
  { dst := some 41, op := POp.ext (Operand.tmp 38) 0, guard := none, hints := [] },
  { dst := some 42, op := POp.ext (Operand.tmp 38) 1, guard := none, hints := [] },
  { dst := some 12, op := POp.mv (Operand.tmp 41), guard := none, hints := [] },
  { dst := some 13, op := POp.mv (Operand.tmp 42), guard := none, hints := [] }]
def pc3_c22 : PCode := .region (some ([2, 3, 4, 5, 6, 11], [5, 6], [])) false pc3_o22
def pc3_o23 : List POper := [{ dst := some 44, op := POp.mv (Operand.tmp 2), guard := none, hints := [] },
  { dst := some 45, op := POp.call true [[(0, 11)]] 22 [Operand.tmp 44], guard := none, hints := [] },
  { dst := some 43, op := POp.mv (Operand.tmp 45), guard := none, hints := [] },
  { dst := some 46, op := POp.ext (Operand.tmp 43) 0, guard := none, hints := [] },
  { dst := some 47, op := POp.ext (Operand.tmp 43) 1, guard := none, hints := [] },
  { dst := some 14, op := POp.mv (Operand.tmp 46), guard := none, hints := [] },
  { dst := some 15, op := POp.mv (Operand.tmp 47), guard := none, hints := [] }]
def pc3_c23 : PCode := .region none false pc3_o23
def pc3_o24 : List POper := [{ dst := some 49, op := POp.mv (Operand.tmp 2), guard := none, hints := [] },
  { dst := some 50, op := POp.call true [[(0, 11)]] 23 [Operand.tmp 49], guard := none, hints := [] },
  { dst := some 48, op := POp.mv (Operand.tmp 50), guard := none, hints := [] },
  { dst := some 51, op := POp.ext (Operand.tmp 48) 0, guard := none, hints := [] },
  { dst := some 52, op := POp.ext (Operand.tmp 48) 1, guard := none, hints := [] },
  { dst := some 16, op := POp.mv (Operand.tmp 51), guard := none, hints := [] },
  { dst := some 17, op := POp.mv (Operand.tmp 52), guard := none, hints := [] }]
def pc3_c24 : PCode := .region none false pc3_o24
def pc3_o25 : List POper := [{ dst := some 53, op := POp.mv (Operand.tmp 12), guard := none, hints := [(12, Hint.imm)] },
  { dst := some 54, op := POp.mv (Operand.tmp 11), guard := none, hints := [(11, Hint.imm)] },
  { dst := some 55, op := POp.prim (Prim.bin BinOp.eql 9 false false) [Operand.tmp 53, Operand.tmp 54], guard := none, hints := [(53, Hint.imm), (54, Hint.imm)] },
  { dst := some 56, op := POp.mv (Operand.tmp 55), guard := none, hints := [(55, Hint.imm)] },
  { dst := some 57, op := POp.mv (Operand.tmp 13), guard := some (56, true), hints := [(13, Hint.imm)] },
  { dst := some 58, op := POp.prim (Prim.bin BinOp.eql 37 false true) [Operand.tmp 57, Operand.const (Value.int IntKind.i64 0)], guard := some (56, true), hints := [(57, Hint.imm)] },
  { dst := some 59, op := POp.load true 11 (Operand.tmp 5), guard := some (56, true), hints := [(5, Hint.at_ 5 0)] },
  { dst := some 60, op := POp.call false [[]] 18 [Operand.tmp 59], guard := some (56, true), hints := [(59, Hint.imm)] },
  { dst := some 61, op := POp.prim (Prim.bin BinOp.eql 4 false false) [Operand.tmp 58, Operand.tmp 60], guard := some (56, true), hints := [(58, Hint.imm), (60, Hint.imm)] },
  { dst := some 62, op := POp.pick (Operand.tmp 56) (Operand.tmp 61) (Operand.const (Value.bool false)), guard := none, hints := [(56, Hint.imm), (61, Hint.imm)] },
  { dst := some 63, op := POp.mv (Operand.tmp 62), guard := none, hints := [(62, Hint.imm)] },
  { dst := some 64, op := POp.mv (Operand.tmp 13), guard := some (63, true), hints := [(13, Hint.imm)] },
  { dst := some 65, op := POp.prim (Prim.bin BinOp.eql 37 false true) [Operand.tmp 64, Operand.const (Value.int IntKind.i64 0)], guard := some (63, true), hints := [(64, Hint.imm)] },
  { dst := some 66, op := POp.mv (Operand.tmp 65), guard := some (63, true), hints := [(65, Hint.imm)] },
  { dst := some 67, op := POp.mv (Operand.tmp 13), guard := some (66, false), hints := [(13, Hint.imm)] },
  { dst := some 68, op := POp.prim (Prim.bin BinOp.eql 37 false true) [Operand.tmp 67, Operand.const (Value.int IntKind.i64 11)], guard := some (66, false), hints := [(67, Hint.imm)] },
  { dst := some 69, op := POp.pick (Operand.tmp 66) (Operand.const (Value.bool true)) (Operand.tmp 68), guard := some (63, true), hints := [(66, Hint.imm), (68, Hint.imm)] },
  { dst := some 70, op := POp.pick (Operand.tmp 63) (Operand.tmp 69) (Operand.const (Value.bool false)), guard := none, hints := [(63, Hint.imm), (69, Hint.imm)] },
  { dst := some 71, op := POp.mv (Operand.tmp 70), guard := none, hints := [(70, Hint.imm)] },
  { dst := some 72, op := POp.mv (Operand.tmp 14), guard := some (71, true), hints := [(14, Hint.imm)] },
  { dst := some 73, op := POp.mv (Operand.tmp 16), guard := some (71, true), hints := [(16, Hint.imm)] },
  { dst := some 74, op := POp.prim (Prim.bin BinOp.eql 9 false false) [Operand.tmp 72, Operand.tmp 73], guard := some (71, true), hints := [(72, Hint.imm), (73, Hint.imm)] },
  { dst := some 75, op := POp.pick (Operand.tmp 71) (Operand.tmp 74) (Operand.const (Value.bool false)), guard := none, hints := [(71, Hint.imm), (74, Hint.imm)] },
  { dst := some 76, op := POp.mv (Operand.tmp 75), guard := none, hints := [(75, Hint.imm)] },
  { dst := some 77, op := POp.mv (Operand.tmp 15), guard := some (76, true), hints := [(15, Hint.imm)] },
  { dst := some 78, op := POp.mv (Operand.tmp 17), guard := some (76, true), hints := [(17, Hint.imm)] },
  { dst := some 79, op := POp.prim (Prim.bin BinOp.eql 3 false false) [Operand.tmp 77, Operand.tmp 78], guard := some (76, true), hints := [(77, Hint.imm), (78, Hint.imm)] },
  { dst := some 80, op := POp.pick (Operand.tmp 76) (Operand.tmp 79) (Operand.const (Value.bool false)), guard := none, hints := [(76, Hint.imm), (79, Hint.imm)] },
  { dst := some 81, op := POp.mv (Operand.tmp 80), guard := none, hints := [(80, Hint.imm)] },
  { dst := some 82, op := POp.load true 11 (Operand.tmp 5), guard := some (81, true), hints := [(5, Hint.at_ 5 0)] },
  { dst := some 83, op := POp.call false [[]] 24 [Operand.tmp 82], guard := some (81, true), hints := [(82, Hint.imm)] },
  { dst := some 84, op := POp.load true 11 (Operand.tmp 5), guard := some (81, true), hints := [(5, Hint.at_ 5 0)] },
  { dst := some 85, op := POp.call false [[]] 18 [Operand.tmp 84], guard := some (81, true), hints := [(84, Hint.imm)] },
  { dst := some 86, op := POp.prim (Prim.bin BinOp.eql 4 false false) [Operand.tmp 83, Operand.tmp 85], guard := some (81, true), hints := [(83, Hint.imm), (85, Hint.imm)] },
  { dst := some 87, op := POp.pick (Operand.tmp 81) (Operand.tmp 86) (Operand.const (Value.bool false)), guard := none, hints := [(81, Hint.imm), (86, Hint.imm)] },
  { dst := some 88, op := POp.mv (Operand.tmp 87), guard := none, hints := [(87, Hint.imm)] },
  { dst := some 89, op := POp.load true 11 (Operand.tmp 5), guard := some (88, true), hints := [(5, Hint.at_ 5 0)] },
  { dst := some 90, op := POp.load true 11 (Operand.tmp 6), guard := some (88, true), hints := [(6, Hint.at_ 6 0)] },
  { dst := some 91, op := POp.call false [[], []] 25 [Operand.tmp 89, Operand.tmp 90], guard := some (88, true), hints := [(89, Hint.imm), (90, Hint.imm)] },
  { dst := some 92, op := POp.load true 11 (Operand.tmp 5), guard := some (88, true), hints := [(5, Hint.at_ 5 0)] },
  { dst := some 93, op := POp.load true 11 (Operand.tmp 6), guard := some (88, true), hints := [(6, Hint.at_ 6 0)] },
  { dst := some 94, op := POp.prim (Prim.bin BinOp.eql 28 false false) [Operand.tmp 92, Operand.tmp 93], guard := some (88, true), hints := [(92, Hint.imm), (93, Hint.imm)] },
  { dst := some 95, op := POp.prim (Prim.bin BinOp.eql 4 false false) [Operand.tmp 91, Operand.tmp 94], guard := some (88, true), hints := [(91, Hint.imm), (94, Hint.imm)] },
  { dst := some 96, op := POp.pick (Operand.tmp 88) (Operand.tmp 95) (Operand.const (Value.bool false)), guard := none, hints := [(88, Hint.imm), (95, Hint.imm)] },
  { dst := some 97, op := POp.mv (Operand.tmp 96), guard := none, hints := [(96, Hint.imm)] },
  { dst := some 98, op := POp.mv (Operand.tmp 3), guard := some (97, true), hints := [(3, Hint.imm)] },
  { dst := some 99, op := POp.call false [[]] 26 [Operand.tmp 98], guard := some (97, true), hints := [(98, Hint.imm)] },
  { dst := some 100, op := POp.mv (Operand.tmp 3), guard := some (97, true), hints := [(3, Hint.imm)] },
  { dst := some 101, op := POp.call false [[]] 27 [Operand.tmp 100], guard := some (97, true), hints := [(100, Hint.imm)] },
  { dst := some 102, op := POp.prim (Prim.bin BinOp.eql 3 false false) [Operand.tmp 99, Operand.tmp 101], guard := some (97, true), hints := [(99, Hint.imm), (101, Hint.imm)] },
  { dst := some 103, op := POp.pick (Operand.tmp 97) (Operand.tmp 102) (Operand.const (Value.bool false)), guard := none, hints := [(97, Hint.imm), (102, Hint.imm)] },
  { dst := some 104, op := POp.mv (Operand.tmp 103), guard := none, hints := [(103, Hint.imm)] },
  { dst := some 105, op := POp.mv (Operand.tmp 3), guard := some (104, true), hints := [(3, Hint.imm)] },
  { dst := some 106, op := POp.mv (Operand.tmp 4), guard := some (104, true), hints := [(4, Hint.imm)] },
  { dst := some 107, op := POp.call false [[], []] 28 [Operand.tmp 105, Operand.tmp 106], guard := some (104, true), hints := [(105, Hint.imm), (106, Hint.imm)] },
  { dst := some 108, op := POp.mv (Operand.tmp 3), guard := some (104, true), hints := [(3, Hint.imm)] },
  { dst := some 109, op := POp.mv (Operand.tmp 4), guard := some (104, true), hints := [(4, Hint.imm)] },
  { dst := some 110, op := POp.call false [[], []] 29 [Operand.tmp 108, Operand.tmp 109], guard := some (104, true), hints := [(108, Hint.imm), (109, Hint.imm)] },
  { dst := some 111, op := POp.prim (Prim.bin BinOp.eql 3 false false) [Operand.tmp 107, Operand.tmp 110], guard := some (104, true), hints := [(107, Hint.imm), (110, Hint.imm)] },
  { dst := some 112, op := POp.pick (Operand.tmp 104) (Operand.tmp 111) (Operand.const (Value.bool false)), guard := none, hints := [(104, Hint.imm), (111, Hint.imm)] },
  { dst := some 10, op := POp.mv (Operand.tmp 112), guard := none, hints := [(112, Hint.imm)] }]
def pc3_c25 : PCode := .region none true pc3_o25
def pc3_c26 : PCode := .ret
def pc3_c27 : PCode := .seq pc3_c25 pc3_c26
def pc3_c28 : PCode := .seq pc3_c24 pc3_c27
def pc3_c29 : PCode := .seq pc3_c23 pc3_c28
def pc3_c30 : PCode := .seq pc3_c22 pc3_c29
def pc3_c31 : PCode := .seq pc3_c21 pc3_c30
def pc3_c32 : PCode := .seq pc3_c16 pc3_c31
def pc3_c33 : PCode := .seq pc3_c15 pc3_c32
def pc3_c34 : PCode := .seq pc3_c8 pc3_c33
def pc3_c35 : PCode := .seq pc3_c1 pc3_c34
def pc3_r : List PRes := [PRes.tmp 10 []]
def pc3 : PFunc := ⟨113, pc3_r, pc3_c35, false⟩
def pc3_a : Ann := {
  kr := fun
    | 8 => some ([2, 3, 4, 5, 6, 11], [5, 6], [])
    | _ => none
  ka := fun
    | _ => 0
  kh := fun
    | 3 => some (Hint.imm)
    | 4 => some (Hint.imm)
    | 5 => some (Hint.at_ 5 0)
    | 6 => some (Hint.at_ 6 0)
    | 11 => some (Hint.imm)
    | 12 => some (Hint.imm)
    | 13 => some (Hint.imm)
    | 14 => some (Hint.imm)
    | 15 => some (Hint.imm)
    | 16 => some (Hint.imm)
    | 17 => some (Hint.imm)
    | 53 => some (Hint.imm)
    | 54 => some (Hint.imm)
    | 55 => some (Hint.imm)
    | 56 => some (Hint.imm)
    | 57 => some (Hint.imm)
    | 58 => some (Hint.imm)
    | 59 => some (Hint.imm)
    | 60 => some (Hint.imm)
    | 61 => some (Hint.imm)
    | 62 => some (Hint.imm)
    | 63 => some (Hint.imm)
    | 64 => some (Hint.imm)
    | 65 => some (Hint.imm)
    | 66 => some (Hint.imm)
    | 67 => some (Hint.imm)
    | 68 => some (Hint.imm)
    | 69 => some (Hint.imm)
    | 70 => some (Hint.imm)
    | 71 => some (Hint.imm)
    | 72 => some (Hint.imm)
    | 73 => some (Hint.imm)
    | 74 => some (Hint.imm)
    | 75 => some (Hint.imm)
    | 76 => some (Hint.imm)
    | 77 => some (Hint.imm)
    | 78 => some (Hint.imm)
    | 79 => some (Hint.imm)
    | 80 => some (Hint.imm)
    | 81 => some (Hint.imm)
    | 82 => some (Hint.imm)
    | 83 => some (Hint.imm)
    | 84 => some (Hint.imm)
    | 85 => some (Hint.imm)
    | 86 => some (Hint.imm)
    | 87 => some (Hint.imm)
    | 88 => some (Hint.imm)
    | 89 => some (Hint.imm)
    | 90 => some (Hint.imm)
    | 91 => some (Hint.imm)
    | 92 => some (Hint.imm)
    | 93 => some (Hint.imm)
    | 94 => some (Hint.imm)
    | 95 => some (Hint.imm)
    | 96 => some (Hint.imm)
    | 97 => some (Hint.imm)
    | 98 => some (Hint.imm)
    | 99 => some (Hint.imm)
    | 100 => some (Hint.imm)
    | 101 => some (Hint.imm)
    | 102 => some (Hint.imm)
    | 103 => some (Hint.imm)
    | 104 => some (Hint.imm)
    | 105 => some (Hint.imm)
    | 106 => some (Hint.imm)
    | 107 => some (Hint.imm)
    | 108 => some (Hint.imm)
    | 109 => some (Hint.imm)
    | 110 => some (Hint.imm)
    | 111 => some (Hint.imm)
    | 112 => some (Hint.imm)
    | _ => none
  ow := fun t => match t with
    | 96 => [(1, 5, 1)]
    | _ => []
  tc := fun t => match t with
    | 96 => true
    | _ => false }
theorem pc3_ok : compFn Try.prog pc3_a Try.f3 = some pc3 := by kernel_rfl


-- 76: vedette/fields.Diff
def pc76_o1 : List POper := [{ dst := some 2, op := POp.box 28 (Operand.tmp 0) [], guard := none, hints := [] },
  { dst := some 3, op := POp.box 28 (Operand.tmp 1) [], guard := none, hints := [] },
  { dst := some 4, op := POp.alloc 35 (Value.agg { toList := [Value.int IntKind.i64 0, Value.int IntKind.u8 0, Value.int IntKind.i64 0, Value.int IntKind.i64 0, Value.int IntKind.i64 0, Value.string { data := { toList := [] } }, Value.int IntKind.i64 0, Value.string { data := { toList := [] } }, Value.int IntKind.i64 0, Value.string { data := { toList := [] } }, Value.int IntKind.i64 0, Value.string { data := { toList := [] } }] }) [], guard := none, hints := [] },
  { dst := some 5, op := POp.mv (Operand.const (Value.bool false)), guard := none, hints := [] }]
def pc76_c1 : PCode := .region none false pc76_o1
def pc76_o2 : List POper := [{ dst := some 9, op := POp.faddr 0 (Operand.tmp 3), guard := none, hints := [] },
  { dst := some 10, op := POp.load false 1 (Operand.tmp 9), guard := none, hints := [] },
  { dst := some 11, op := POp.build (Value.agg { toList := [Value.int IntKind.i64 0, Value.int IntKind.u8 0, Value.int IntKind.i64 0, Value.int IntKind.i64 0, Value.int IntKind.i64 0, Value.string { data := { toList := [] } }, Value.int IntKind.i64 0, Value.string { data := { toList := [] } }, Value.int IntKind.i64 0, Value.string { data := { toList := [] } }, Value.int IntKind.i64 0, Value.string { data := { toList := [] } }] }) [(0, 1, Operand.tmp 10)], guard := none, hints := [] },
  { dst := some 6, op := POp.alloc 35 (Value.agg { toList := [Value.int IntKind.i64 0, Value.int IntKind.u8 0, Value.int IntKind.i64 0, Value.int IntKind.i64 0, Value.int IntKind.i64 0, Value.string { data := { toList := [] } }, Value.int IntKind.i64 0, Value.string { data := { toList := [] } }, Value.int IntKind.i64 0, Value.string { data := { toList := [] } }, Value.int IntKind.i64 0, Value.string { data := { toList := [] } }] }) [], guard := none, hints := [] },
  { dst := none, op := POp.store 12 (Operand.tmp 6) (Operand.tmp 11), guard := none, hints := [] }]
def pc76_c2 : PCode := .region none false pc76_o2
def pc76_o3 : List POper := [{ dst := some 12, op := POp.faddr 1 (Operand.tmp 2), guard := none, hints := [] },
  { dst := some 13, op := POp.load true 2 (Operand.tmp 12), guard := none, hints := [] },
  { dst := some 14, op := POp.faddr 1 (Operand.tmp 3), guard := none, hints := [] },
  { dst := some 15, op := POp.load true 2 (Operand.tmp 14), guard := none, hints := [] },
  { dst := some 16, op := POp.prim (Prim.bin BinOp.neq 23 false false) [Operand.tmp 13, Operand.tmp 15], guard := none, hints := [] }]
def pc76_c3 : PCode := .region none false pc76_o3
def pc76_o4 : List POper := [{ dst := some 17, op := POp.faddr 1 (Operand.tmp 3), guard := none, hints := [(3, Hint.at_ 3 0)] },
  { dst := some 18, op := POp.load true 2 (Operand.tmp 17), guard := none, hints := [(17, Hint.at_ 3 1)] },
  { dst := some 19, op := POp.faddr 1 (Operand.tmp 6), guard := none, hints := [(6, Hint.at_ 6 0)] },
  { dst := none, op := POp.store 1 (Operand.tmp 19) (Operand.const (Value.int IntKind.u8 1)), guard := none, hints := [(19, Hint.at_ 6 1)] },
  { dst := some 20, op := POp.faddr 2 (Operand.tmp 6), guard := none, hints := [(6, Hint.at_ 6 0)] },
  { dst := none, op := POp.store 2 (Operand.tmp 20) (Operand.tmp 18), guard := none, hints := [(20, Hint.at_ 6 2), (18, Hint.imm)] }]
def pc76_c4 : PCode := .region none true pc76_o4
def pc76_c5 : PCode := .skip
def pc76_c6 : PCode := .cond (Operand.tmp 16) pc76_c4 pc76_c5
def pc76_c7 : PCode := .seq pc76_c3 pc76_c6
def pc76_o8 : List POper := [{ dst := some 21, op := POp.faddr 3 (Operand.tmp 3), guard := none, hints := [] },
  { dst := some 22, op := POp.load true 8 (Operand.tmp 21), guard := none, hints := [] },
  { dst := some 23, op := POp.mv (Operand.const (Value.int IntKind.i64 0)), guard := none, hints := [] }]
def pc76_c8 : PCode := .region (some ([2, 3, 4, 6], [2, 3, 4, 6], [])) false pc76_o8
def pc76_o9 : List POper := [{ dst := some 24, op := POp.prim (Prim.bin BinOp.lss 3 false true) [Operand.tmp 23, Operand.const (Value.int IntKind.i64 4)], guard := none, hints := [] }]
def pc76_c9 : PCode := .region (some ([2, 4, 6, 22, 23], [2, 3, 4, 6, 8], [])) false pc76_o9
def pc76_c10 : PCode := .skip
def pc76_c11 : PCode := .exit 0
def pc76_c12 : PCode := .cond (Operand.tmp 24) pc76_c10 pc76_c11
def pc76_o13 : List POper := [{ dst := some 25, op := POp.mv (Operand.tmp 23), guard := none, hints := [] },
  { dst := some 26, op := POp.idx true 2 4 (Operand.tmp 22) (Operand.tmp 23), guard := none, hints := [] },
  { dst := some 8, op := POp.alloc 25 (Value.agg { toList := [Value.int IntKind.i64 0, Value.string { data := { toList := [] } }] }) [], guard := none, hints := [] },
  { dst := some 7, op := POp.mv (Operand.tmp 25), guard := none, hints := [] },
  { dst := none, op := POp.store 2 (Operand.tmp 8) (Operand.tmp 26), guard := none, hints := [] }]
def pc76_c13 : PCode := .region none false pc76_o13
def pc76_o14 : List POper := [{ dst := some 27, op := POp.mv (Operand.tmp 7), guard := none, hints := [(7, Hint.imm)] },
  { dst := some 28, op := POp.faddr 3 (Operand.tmp 2), guard := none, hints := [(2, Hint.at_ 2 0)] },
  { dst := some 29, op := POp.iaddrA 4 2 (Operand.tmp 28) (Operand.tmp 27), guard := none, hints := [(28, Hint.at_ 2 3), (27, Hint.imm)] },
  { dst := some 30, op := POp.load true 2 (Operand.tmp 29), guard := none, hints := [(29, Hint.obj 2)] },
  { dst := some 31, op := POp.load true 2 (Operand.tmp 8), guard := none, hints := [(8, Hint.at_ 8 0)] },
  { dst := some 32, op := POp.prim (Prim.bin BinOp.neq 25 false false) [Operand.tmp 30, Operand.tmp 31], guard := none, hints := [(30, Hint.imm), (31, Hint.imm)] }]
def pc76_c14 : PCode := .region none true pc76_o14
def pc76_o15 : List POper := [{ dst := some 33, op := POp.faddr 1 (Operand.tmp 6), guard := none, hints := [(6, Hint.at_ 6 0)] },
  { dst := some 34, op := POp.load false 1 (Operand.tmp 33), guard := none, hints := [(33, Hint.at_ 6 1)] },
  { dst := some 35, op := POp.mv (Operand.tmp 7), guard := none, hints := [(7, Hint.imm)] },
  { dst := some 36, op := POp.prim (Prim.bin BinOp.shl 5 true false) [Operand.const (Value.int IntKind.u8 2), Operand.tmp 35], guard := none, hints := [(35, Hint.imm)] },
  { dst := some 37, op := POp.prim (Prim.bin BinOp.or 5 false false) [Operand.tmp 34, Operand.tmp 36], guard := none, hints := [(34, Hint.imm), (36, Hint.imm)] },
  { dst := some 38, op := POp.faddr 1 (Operand.tmp 6), guard := none, hints := [(6, Hint.at_ 6 0)] },
  { dst := none, op := POp.store 1 (Operand.tmp 38) (Operand.tmp 37), guard := none, hints := [(38, Hint.at_ 6 1), (37, Hint.imm)] }]
def pc76_c15 : PCode := .region none true pc76_o15
def pc76_o16 : List POper := [{ dst := some 39, op := POp.mv (Operand.tmp 7), guard := none, hints := [] },
  { dst := some 40, op := POp.load true 2 (Operand.tmp 8), guard := none, hints := [] },
  { dst := some 41, op := POp.faddr 4 (Operand.tmp 6), guard := none, hints := [] },
  { dst := some 42, op := POp.iaddrA 4 2 (Operand.tmp 41) (Operand.tmp 39), guard := none, hints := [] },
  { dst := none, op := POp.store 2 (Operand.tmp 42) (Operand.tmp 40), guard := none, hints := [] }]
def pc76_c16 : PCode := .region none false pc76_o16
def pc76_c17 : PCode := .seq pc76_c15 pc76_c16
def pc76_c18 : PCode := .skip
def pc76_c19 : PCode := .cond (Operand.tmp 32) pc76_c17 pc76_c18
def pc76_c20 : PCode := .seq pc76_c14 pc76_c19
def pc76_c21 : PCode := .seq pc76_c13 pc76_c20
def pc76_c22 : PCode := .block 1 pc76_c21
def pc76_o23 : List POper := [{ dst := some 43, op := POp.prim (Prim.bin BinOp.add 3 false true) [Operand.tmp 23, Operand.const (Value.int IntKind.i64 1)], guard := none, hints := [] },
  { dst := some 23, op := POp.mv (Operand.tmp 43), guard := none, hints := [] }]
def pc76_c23 : PCode := .region none false pc76_o23
def pc76_c24 : PCode := .seq pc76_c22 pc76_c23
def pc76_c25 : PCode := .seq pc76_c12 pc76_c24
def pc76_c26 : PCode := .seq pc76_c9 pc76_c25
def pc76_c27 : PCode := .loop pc76_c26
def pc76_c28 : PCode := .block 0 pc76_c27
def pc76_c29 : PCode := .seq pc76_c8 pc76_c28
def pc76_o30 : List POper := [{ dst := some 44, op := POp.load true 12 (Operand.tmp 6), guard := none, hints := [(6, Hint.at_ 6 0)] },
  { dst := some 45, op := POp.faddr 1 (Operand.tmp 6), guard := none, hints := [(6, Hint.at_ 6 0)] },
  { dst := some 46, op := POp.load false 1 (Operand.tmp 45), guard := none, hints := [(45, Hint.at_ 6 1)] },
  { dst := some 47, op := POp.prim (Prim.bin BinOp.neq 5 false true) [Operand.tmp 46, Operand.const (Value.int IntKind.u8 0)], guard := none, hints := [(46, Hint.imm)] },
  { dst := none, op := POp.store 12 (Operand.tmp 4) (Operand.tmp 44), guard := none, hints := [(4, Hint.at_ 4 0), (44, Hint.imm)] },
  { dst := some 5, op := POp.mv (Operand.tmp 47), guard := none, hints := [(47, Hint.imm)] }]
def pc76_c30 : PCode := .region none true pc76_o30
def pc76_c31 : PCode := .ret
def pc76_c32 : PCode := .seq pc76_c30 pc76_c31
def pc76_c33 : PCode := .seq pc76_c29 pc76_c32
def pc76_c34 : PCode := .seq pc76_c7 pc76_c33
def pc76_c35 : PCode := .seq pc76_c2 pc76_c34
def pc76_c36 : PCode := .seq pc76_c1 pc76_c35
def pc76_r : List PRes := [PRes.cell 4 true 12 [], PRes.tmp 5 []]
def pc76 : PFunc := ⟨48, pc76_r, pc76_c36, false⟩
def pc76_a : Ann := {
  kr := fun
    | 4 => some ([2, 3, 4, 6], [2, 3, 4, 6], [])
    | 5 => some ([2, 4, 6, 22, 23], [2, 3, 4, 6, 8], [])
    | _ => none
  ka := fun
    | _ => 0
  kh := fun
    | 2 => some (Hint.at_ 2 0)
    | 3 => some (Hint.at_ 3 0)
    | 4 => some (Hint.at_ 4 0)
    | 6 => some (Hint.at_ 6 0)
    | 7 => some (Hint.imm)
    | 8 => some (Hint.at_ 8 0)
    | 17 => some (Hint.at_ 3 1)
    | 18 => some (Hint.imm)
    | 19 => some (Hint.at_ 6 1)
    | 20 => some (Hint.at_ 6 2)
    | 27 => some (Hint.imm)
    | 28 => some (Hint.at_ 2 3)
    | 29 => some (Hint.obj 2)
    | 30 => some (Hint.imm)
    | 31 => some (Hint.imm)
    | 33 => some (Hint.at_ 6 1)
    | 34 => some (Hint.imm)
    | 35 => some (Hint.imm)
    | 36 => some (Hint.imm)
    | 37 => some (Hint.imm)
    | 38 => some (Hint.at_ 6 1)
    | 44 => some (Hint.imm)
    | 45 => some (Hint.at_ 6 1)
    | 46 => some (Hint.imm)
    | 47 => some (Hint.imm)
    | _ => none
  ow := fun t => match t with
    | 96 => [(1, 5, 1)]
    | _ => []
  tc := fun t => match t with
    | 96 => true
    | _ => false }
theorem pc76_ok : compFn Try.prog pc76_a Try.f76 = some pc76 := by kernel_rfl


-- 88: vedette/fields.Apply
def pc88_o1 : List POper := [{ dst := some 2, op := POp.box 28 (Operand.tmp 0) [], guard := none, hints := [] },
  { dst := some 3, op := POp.box 35 (Operand.tmp 1) [], guard := none, hints := [] },
  { dst := some 4, op := POp.alloc 28 (Value.agg { toList := [Value.int IntKind.i64 0, Value.int IntKind.i64 0, Value.int IntKind.i64 0, Value.int IntKind.i64 0, Value.string { data := { toList := [] } }, Value.int IntKind.i64 0, Value.string { data := { toList := [] } }, Value.int IntKind.i64 0, Value.string { data := { toList := [] } }, Value.int IntKind.i64 0, Value.string { data := { toList := [] } }] }) [], guard := none, hints := [] }]
def pc88_c1 : PCode := .region none false pc88_o1
def pc88_o2 : List POper := [{ dst := some 7, op := POp.faddr 1 (Operand.tmp 3), guard := none, hints := [] },
  { dst := some 8, op := POp.load false 1 (Operand.tmp 7), guard := none, hints := [] },
  { dst := some 9, op := POp.prim (Prim.bin BinOp.and 5 false true) [Operand.tmp 8, Operand.const (Value.int IntKind.u8 1)], guard := none, hints := [] },
  { dst := some 10, op := POp.prim (Prim.bin BinOp.neq 5 false true) [Operand.tmp 9, Operand.const (Value.int IntKind.u8 0)], guard := none, hints := [] }]
def pc88_c2 : PCode := .region none false pc88_o2
def pc88_o3 : List POper := [{ dst := some 11, op := POp.faddr 2 (Operand.tmp 3), guard := none, hints := [] },
  { dst := some 12, op := POp.load true 2 (Operand.tmp 11), guard := none, hints := [] },
  { dst := some 13, op := POp.faddr 1 (Operand.tmp 2), guard := none, hints := [] },
  { dst := none, op := POp.store 2 (Operand.tmp 13) (Operand.tmp 12), guard := none, hints := [] }]
def pc88_c3 : PCode := .region none false pc88_o3
def pc88_c4 : PCode := .skip
def pc88_c5 : PCode := .cond (Operand.tmp 10) pc88_c3 pc88_c4
def pc88_c6 : PCode := .seq pc88_c2 pc88_c5
def pc88_o7 : List POper := [{ dst := some 14, op := POp.faddr 4 (Operand.tmp 3), guard := none, hints := [] },
  { dst := some 15, op := POp.load true 8 (Operand.tmp 14), guard := none, hints := [] },
  { dst := some 16, op := POp.mv (Operand.const (Value.int IntKind.i64 0)), guard := none, hints := [] }]
def pc88_c7 : PCode := .region (some ([2, 3, 4], [2, 3, 4], [])) false pc88_o7
def pc88_o8 : List POper := [{ dst := some 17, op := POp.prim (Prim.bin BinOp.lss 3 false true) [Operand.tmp 16, Operand.const (Value.int IntKind.i64 4)], guard := none, hints := [] }]
def pc88_c8 : PCode := .region (some ([2, 3, 4, 15, 16], [2, 3, 4, 6], [])) false pc88_o8
def pc88_c9 : PCode := .skip
def pc88_c10 : PCode := .exit 0
def pc88_c11 : PCode := .cond (Operand.tmp 17) pc88_c9 pc88_c10
def pc88_o12 : List POper := [{ dst := some 18, op := POp.mv (Operand.tmp 16), guard := none, hints := [] },
  { dst := some 19, op := POp.idx true 2 4 (Operand.tmp 15) (Operand.tmp 16), guard := none, hints := [] },
  { dst := some 6, op := POp.alloc 25 (Value.agg { toList := [Value.int IntKind.i64 0, Value.string { data := { toList := [] } }] }) [], guard := none, hints := [] },
  { dst := some 5, op := POp.mv (Operand.tmp 18), guard := none, hints := [] },
  { dst := none, op := POp.store 2 (Operand.tmp 6) (Operand.tmp 19), guard := none, hints := [] }]
def pc88_c12 : PCode := .region none false pc88_o12
def pc88_o13 : List POper := [{ dst := some 20, op := POp.faddr 1 (Operand.tmp 3), guard := none, hints := [] },
  { dst := some 21, op := POp.load false 1 (Operand.tmp 20), guard := none, hints := [] },
  { dst := some 22, op := POp.mv (Operand.tmp 5), guard := none, hints := [] },
  { dst := some 23, op := POp.call true [[], []] 99 [Operand.tmp 21, Operand.tmp 22], guard := none, hints := [] }]
def pc88_c13 : PCode := .region none false pc88_o13
def pc88_o14 : List POper := [{ dst := some 24, op := POp.mv (Operand.tmp 5), guard := none, hints := [] },
  { dst := some 25, op := POp.load true 2 (Operand.tmp 6), guard := none, hints := [] },
  { dst := some 26, op := POp.faddr 3 (Operand.tmp 2), guard := none, hints := [] },
  { dst := some 27, op := POp.iaddrA 4 2 (Operand.tmp 26) (Operand.tmp 24), guard := none, hints := [] },
  { dst := none, op := POp.store 2 (Operand.tmp 27) (Operand.tmp 25), guard := none, hints := [] }]
def pc88_c14 : PCode := .region none false pc88_o14
def pc88_c15 : PCode := .skip
def pc88_c16 : PCode := .cond (Operand.tmp 23) pc88_c14 pc88_c15
def pc88_c17 : PCode := .seq pc88_c13 pc88_c16
def pc88_c18 : PCode := .seq pc88_c12 pc88_c17
def pc88_c19 : PCode := .block 1 pc88_c18
def pc88_o20 : List POper := [{ dst := some 28, op := POp.prim (Prim.bin BinOp.add 3 false true) [Operand.tmp 16, Operand.const (Value.int IntKind.i64 1)], guard := none, hints := [] },
  { dst := some 16, op := POp.mv (Operand.tmp 28), guard := none, hints := [] }]
def pc88_c20 : PCode := .region none false pc88_o20
def pc88_c21 : PCode := .seq pc88_c19 pc88_c20
def pc88_c22 : PCode := .seq pc88_c11 pc88_c21
def pc88_c23 : PCode := .seq pc88_c8 pc88_c22
def pc88_c24 : PCode := .loop pc88_c23
def pc88_c25 : PCode := .block 0 pc88_c24
def pc88_c26 : PCode := .seq pc88_c7 pc88_c25
def pc88_o27 : List POper := [{ dst := some 29, op := POp.load true 11 (Operand.tmp 2), guard := none, hints := [] },
  { dst := none, op := POp.store 11 (Operand.tmp 4) (Operand.tmp 29), guard := none, hints := [] }]
def pc88_c27 : PCode := .region none false pc88_o27
def pc88_c28 : PCode := .ret
def pc88_c29 : PCode := .seq pc88_c27 pc88_c28
def pc88_c30 : PCode := .seq pc88_c26 pc88_c29
def pc88_c31 : PCode := .seq pc88_c6 pc88_c30
def pc88_c32 : PCode := .seq pc88_c1 pc88_c31
def pc88_r : List PRes := [PRes.cell 4 true 11 []]
def pc88 : PFunc := ⟨30, pc88_r, pc88_c32, false⟩
def pc88_a : Ann := {
  kr := fun
    | 3 => some ([2, 3, 4], [2, 3, 4], [])
    | 4 => some ([2, 3, 4, 15, 16], [2, 3, 4, 6], [])
    | _ => none
  ka := fun
    | _ => 0
  kh := fun
    | _ => none
  ow := fun t => match t with
    | 96 => [(1, 5, 1)]
    | _ => []
  tc := fun t => match t with
    | 96 => true
    | _ => false }
theorem pc88_ok : compFn Try.prog pc88_a Try.f88 = some pc88 := by kernel_rfl


-- 94: vedette/vedetteref6.IsDelta
def pc94_o1 : List POper := [{ dst := some 1, op := POp.box 35 (Operand.tmp 0) [], guard := none, hints := [] },
  { dst := some 2, op := POp.mv (Operand.const (Value.bool false)), guard := none, hints := [] }]
def pc94_c1 : PCode := .region none false pc94_o1
def pc94_o2 : List POper := [{ dst := some 4, op := POp.faddr 0 (Operand.tmp 1), guard := none, hints := [] },
  { dst := some 5, op := POp.load false 1 (Operand.tmp 4), guard := none, hints := [] },
  { dst := some 6, op := POp.prim (Prim.bin BinOp.lss 3 false true) [Operand.tmp 5, Operand.const (Value.int IntKind.i64 0)], guard := none, hints := [] },
  { dst := some 7, op := POp.mv (Operand.tmp 6), guard := none, hints := [] },
  { dst := some 8, op := POp.faddr 0 (Operand.tmp 1), guard := some (7, false), hints := [] },
  { dst := some 9, op := POp.load false 1 (Operand.tmp 8), guard := some (7, false), hints := [] },
  { dst := some 10, op := POp.prim (Prim.bin BinOp.gtr 3 false true) [Operand.tmp 9, Operand.const (Value.int IntKind.i64 1000000)], guard := some (7, false), hints := [] },
  { dst := some 11, op := POp.pick (Operand.tmp 7) (Operand.const (Value.bool true)) (Operand.tmp 10), guard := none, hints := [] },
  { dst := some 12, op := POp.mv (Operand.tmp 11), guard := none, hints := [] },
  { dst := some 13, op := POp.faddr 1 (Operand.tmp 1), guard := some (12, false), hints := [] },
  { dst := some 14, op := POp.load false 1 (Operand.tmp 13), guard := some (12, false), hints := [] },
  { dst := some 15, op := POp.prim (Prim.bin BinOp.lss 5 false true) [Operand.tmp 14, Operand.const (Value.int IntKind.u8 1)], guard := some (12, false), hints := [] },
  { dst := some 16, op := POp.pick (Operand.tmp 12) (Operand.const (Value.bool true)) (Operand.tmp 15), guard := none, hints := [] },
  { dst := some 17, op := POp.mv (Operand.tmp 16), guard := none, hints := [] },
  { dst := some 18, op := POp.faddr 1 (Operand.tmp 1), guard := some (17, false), hints := [] },
  { dst := some 19, op := POp.load false 1 (Operand.tmp 18), guard := some (17, false), hints := [] },
  { dst := some 20, op := POp.prim (Prim.bin BinOp.gtr 5 false true) [Operand.tmp 19, Operand.const (Value.int IntKind.u8 31)], guard := some (17, false), hints := [] },
  { dst := some 21, op := POp.pick (Operand.tmp 17) (Operand.const (Value.bool true)) (Operand.tmp 20), guard := none, hints := [] }]
def pc94_c2 : PCode := .region none false pc94_o2
def pc94_o3 : List POper := [{ dst := some 2, op := POp.mv (Operand.const (Value.bool false)), guard := none, hints := [] }]
def pc94_c3 : PCode := .region none false pc94_o3
def pc94_c4 : PCode := .ret
def pc94_c5 : PCode := .seq pc94_c3 pc94_c4
def pc94_c6 : PCode := .skip
def pc94_c7 : PCode := .cond (Operand.tmp 21) pc94_c5 pc94_c6
def pc94_c8 : PCode := .seq pc94_c2 pc94_c7
def pc94_o9 : List POper := [{ dst := some 22, op := POp.faddr 1 (Operand.tmp 1), guard := none, hints := [] },
  { dst := some 23, op := POp.load false 1 (Operand.tmp 22), guard := none, hints := [] },
  { dst := some 24, op := POp.prim (Prim.bin BinOp.and 5 false true) [Operand.tmp 23, Operand.const (Value.int IntKind.u8 1)], guard := none, hints := [] },
  { dst := some 25, op := POp.prim (Prim.bin BinOp.neq 5 false true) [Operand.tmp 24, Operand.const (Value.int IntKind.u8 0)], guard := none, hints := [] },
  { dst := some 26, op := POp.mv (Operand.tmp 25), guard := none, hints := [] },
  { dst := some 27, op := POp.faddr 2 (Operand.tmp 1), guard := some (26, true), hints := [] },
  { dst := some 28, op := POp.load true 2 (Operand.tmp 27), guard := some (26, true), hints := [] },
  { dst := some 29, op := POp.call true [[]] 58 [Operand.tmp 28], guard := some (26, true), hints := [] },
  { dst := some 30, op := POp.prim (Prim.un UnOp.not) [Operand.tmp 29], guard := some (26, true), hints := [] },
  { dst := some 31, op := POp.pick (Operand.tmp 26) (Operand.tmp 30) (Operand.const (Value.bool false)), guard := none, hints := [] },
  { dst := some 32, op := POp.mv (Operand.tmp 31), guard := none, hints := [] },
  { dst := some 33, op := POp.faddr 1 (Operand.tmp 1), guard := some (32, false), hints := [] },
  { dst := some 34, op := POp.load false 1 (Operand.tmp 33), guard := some (32, false), hints := [] },
  { dst := some 35, op := POp.prim (Prim.bin BinOp.and 5 false true) [Operand.tmp 34, Operand.const (Value.int IntKind.u8 1)], guard := some (32, false), hints := [] },
  { dst := some 36, op := POp.prim (Prim.bin BinOp.eql 5 false true) [Operand.tmp 35, Operand.const (Value.int IntKind.u8 0)], guard := some (32, false), hints := [] },
  { dst := some 37, op := POp.mv (Operand.tmp 36), guard := some (32, false), hints := [] },
  { dst := some 38, op := POp.faddr 2 (Operand.tmp 1), guard := some (37, true), hints := [] },
  { dst := some 39, op := POp.load true 2 (Operand.tmp 38), guard := some (37, true), hints := [] },
  { dst := some 40, op := POp.build (Value.agg { toList := [Value.int IntKind.i64 0, Value.int IntKind.i64 0] }) [], guard := some (37, true), hints := [] },
  { dst := some 41, op := POp.prim (Prim.bin BinOp.neq 23 false false) [Operand.tmp 39, Operand.tmp 40], guard := some (37, true), hints := [] },
  { dst := some 42, op := POp.pick (Operand.tmp 37) (Operand.tmp 41) (Operand.const (Value.bool false)), guard := some (32, false), hints := [] },
  { dst := some 43, op := POp.pick (Operand.tmp 32) (Operand.const (Value.bool true)) (Operand.tmp 42), guard := none, hints := [] }]
def pc94_c9 : PCode := .region none false pc94_o9
def pc94_o10 : List POper := [{ dst := some 2, op := POp.mv (Operand.const (Value.bool false)), guard := none, hints := [] }]
def pc94_c10 : PCode := .region none false pc94_o10
def pc94_c11 : PCode := .ret
def pc94_c12 : PCode := .seq pc94_c10 pc94_c11
def pc94_c13 : PCode := .skip
def pc94_c14 : PCode := .cond (Operand.tmp 43) pc94_c12 pc94_c13
def pc94_c15 : PCode := .seq pc94_c9 pc94_c14
def pc94_o16 : List POper := [{ dst := some 3, op := POp.mv (Operand.const (Value.int IntKind.i64 0)), guard := none, hints := [] }]
def pc94_c16 : PCode := .region (some ([1], [1], [])) false pc94_o16
def pc94_o17 : List POper := [{ dst := some 44, op := POp.mv (Operand.tmp 3), guard := none, hints := [] },
  { dst := some 45, op := POp.prim (Prim.bin BinOp.lss 3 false true) [Operand.tmp 44, Operand.const (Value.int IntKind.i64 4)], guard := none, hints := [] }]
def pc94_c17 : PCode := .region (some ([1, 3], [1], [])) false pc94_o17
def pc94_c18 : PCode := .skip
def pc94_c19 : PCode := .exit 0
def pc94_c20 : PCode := .cond (Operand.tmp 45) pc94_c18 pc94_c19
def pc94_c21 : PCode := .seq pc94_c17 pc94_c20
def pc94_o22 : List POper := [{ dst := some 48, op := POp.mv (Operand.tmp 3), guard := none, hints := [] },
  { dst := some 49, op := POp.faddr 4 (Operand.tmp 1), guard := none, hints := [] },
  { dst := some 50, op := POp.iaddrA 4 2 (Operand.tmp 49) (Operand.tmp 48), guard := none, hints := [] },
  { dst := some 51, op := POp.load true 2 (Operand.tmp 50), guard := none, hints := [] },
  { dst := some 52, op := POp.call true [[]] 59 [Operand.tmp 51], guard := none, hints := [] },
  { dst := some 53, op := POp.prim (Prim.un UnOp.not) [Operand.tmp 52], guard := none, hints := [] },
  { dst := some 54, op := POp.mv (Operand.tmp 53), guard := none, hints := [] },
  { dst := some 55, op := POp.faddr 1 (Operand.tmp 1), guard := some (54, false), hints := [] },
  { dst := some 56, op := POp.load false 1 (Operand.tmp 55), guard := some (54, false), hints := [] },
  { dst := some 57, op := POp.mv (Operand.tmp 3), guard := some (54, false), hints := [] },
  { dst := some 58, op := POp.prim (Prim.bin BinOp.add 3 false true) [Operand.tmp 57, Operand.const (Value.int IntKind.i64 1)], guard := some (54, false), hints := [] },
  { dst := some 59, op := POp.prim (Prim.conv 3 90) [Operand.tmp 58], guard := some (54, false), hints := [] },
  { dst := some 60, op := POp.prim (Prim.bin BinOp.shr 5 false false) [Operand.tmp 56, Operand.tmp 59], guard := some (54, false), hints := [] },
  { dst := some 61, op := POp.prim (Prim.bin BinOp.and 5 false true) [Operand.tmp 60, Operand.const (Value.int IntKind.u8 1)], guard := some (54, false), hints := [] },
  { dst := some 62, op := POp.prim (Prim.bin BinOp.eql 5 false true) [Operand.tmp 61, Operand.const (Value.int IntKind.u8 0)], guard := some (54, false), hints := [] },
  { dst := some 63, op := POp.mv (Operand.tmp 62), guard := some (54, false), hints := [] },
  { dst := some 64, op := POp.mv (Operand.tmp 3), guard := some (63, true), hints := [] },
  { dst := some 65, op := POp.faddr 4 (Operand.tmp 1), guard := some (63, true), hints := [] },
  { dst := some 66, op := POp.iaddrA 4 2 (Operand.tmp 65) (Operand.tmp 64), guard := some (63, true), hints := [] },
  { dst := some 67, op := POp.load true 2 (Operand.tmp 66), guard := some (63, true), hints := [] },
  { dst := some 68, op := POp.build (Value.agg { toList := [Value.int IntKind.i64 0, Value.string { data := { toList := [] } }] }) [], guard := some (63, true), hints := [] },
  { dst := some 69, op := POp.prim (Prim.bin BinOp.neq 25 false false) [Operand.tmp 67, Operand.tmp 68], guard := some (63, true), hints := [] },
  { dst := some 70, op := POp.pick (Operand.tmp 63) (Operand.tmp 69) (Operand.const (Value.bool false)), guard := some (54, false), hints := [] },
  { dst := some 71, op := POp.pick (Operand.tmp 54) (Operand.const (Value.bool true)) (Operand.tmp 70), guard := none, hints := [] }]
def pc94_c22 : PCode := .region none false pc94_o22
def pc94_o23 : List POper := [{ dst := some 2, op := POp.mv (Operand.const (Value.bool false)), guard := none, hints := [] }]
def pc94_c23 : PCode := .region none false pc94_o23
def pc94_c24 : PCode := .ret
def pc94_c25 : PCode := .seq pc94_c23 pc94_c24
def pc94_c26 : PCode := .skip
def pc94_c27 : PCode := .cond (Operand.tmp 71) pc94_c25 pc94_c26
def pc94_c28 : PCode := .seq pc94_c22 pc94_c27
def pc94_c29 : PCode := .block 1 pc94_c28
def pc94_o30 : List POper := [{ dst := some 46, op := POp.mv (Operand.tmp 3), guard := none, hints := [] },
  { dst := some 47, op := POp.prim (Prim.bin BinOp.add 3 false true) [Operand.tmp 46, Operand.const (Value.int IntKind.i64 1)], guard := none, hints := [] },
  { dst := some 3, op := POp.mv (Operand.tmp 47), guard := none, hints := [] }]
def pc94_c30 : PCode := .region none false pc94_o30
def pc94_c31 : PCode := .seq pc94_c29 pc94_c30
def pc94_c32 : PCode := .seq pc94_c21 pc94_c31
def pc94_c33 : PCode := .loop pc94_c32
def pc94_c34 : PCode := .block 0 pc94_c33
def pc94_c35 : PCode := .seq pc94_c16 pc94_c34
def pc94_o36 : List POper := [{ dst := some 2, op := POp.mv (Operand.const (Value.bool true)), guard := none, hints := [] }]
def pc94_c36 : PCode := .region none false pc94_o36
def pc94_c37 : PCode := .ret
def pc94_c38 : PCode := .seq pc94_c36 pc94_c37
def pc94_c39 : PCode := .seq pc94_c35 pc94_c38
def pc94_c40 : PCode := .seq pc94_c15 pc94_c39
def pc94_c41 : PCode := .seq pc94_c8 pc94_c40
def pc94_c42 : PCode := .seq pc94_c1 pc94_c41
def pc94_r : List PRes := [PRes.tmp 2 []]
def pc94 : PFunc := ⟨72, pc94_r, pc94_c42, false⟩
def pc94_a : Ann := {
  kr := fun
    | 5 => some ([1], [1], [])
    | 6 => some ([1, 3], [1], [])
    | _ => none
  ka := fun
    | _ => 0
  kh := fun
    | _ => none
  ow := fun t => match t with
    | 96 => [(1, 5, 1)]
    | _ => []
  tc := fun t => match t with
    | 96 => true
    | _ => false }
theorem pc94_ok : compFn Try.prog pc94_a Try.f94 = some pc94 := by kernel_rfl


end Go.Proofs.Ytobeamaaifgllaa
