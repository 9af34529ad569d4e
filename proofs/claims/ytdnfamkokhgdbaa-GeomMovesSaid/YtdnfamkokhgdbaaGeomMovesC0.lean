/-
  Code of functions, as the pure machine runs it. No condition.
-/
import Derived.Test.YtdnfamkokhgdbaaGeomMovesT
namespace Go.Proofs.Ytdnfamkokhgdbaa
open Go Go.Rx
set_option maxRecDepth 100000
set_option linter.unusedVariables false
set_option linter.unusedSimpArgs false
set_option linter.unnecessarySimpa false
-- 27: vedette/geom.Empty
def pc27_o1 : List POper := [{ dst := some 1, op := POp.box 35 (Operand.tmp 0), guard := none, hints := [] },
  { dst := some 2, op := POp.mv (Operand.const (Value.bool false)), guard := none, hints := [] }]
def pc27_c1 : PCode := .region none false pc27_o1
def pc27_o2 : List POper := [{ dst := some 3, op := POp.faddr 0 (Operand.tmp 1), guard := none, hints := [] },
  { dst := some 4, op := POp.load false 1 (Operand.tmp 3), guard := none, hints := [] },
  { dst := some 5, op := POp.faddr 2 (Operand.tmp 1), guard := none, hints := [] },
  { dst := some 6, op := POp.load false 1 (Operand.tmp 5), guard := none, hints := [] },
  { dst := some 7, op := POp.prim (Prim.bin BinOp.geq 3 false false) [Operand.tmp 4, Operand.tmp 6], guard := none, hints := [] },
  { dst := some 8, op := POp.mv (Operand.tmp 7), guard := none, hints := [] },
  { dst := some 9, op := POp.faddr 1 (Operand.tmp 1), guard := some (8, false), hints := [] },
  { dst := some 10, op := POp.load false 1 (Operand.tmp 9), guard := some (8, false), hints := [] },
  { dst := some 11, op := POp.faddr 3 (Operand.tmp 1), guard := some (8, false), hints := [] },
  { dst := some 12, op := POp.load false 1 (Operand.tmp 11), guard := some (8, false), hints := [] },
  { dst := some 13, op := POp.prim (Prim.bin BinOp.geq 3 false false) [Operand.tmp 10, Operand.tmp 12], guard := some (8, false), hints := [] },
  { dst := some 14, op := POp.pick (Operand.tmp 8) (Operand.const (Value.bool true)) (Operand.tmp 13), guard := none, hints := [] },
  { dst := some 2, op := POp.mv (Operand.tmp 14), guard := none, hints := [] }]
def pc27_c2 : PCode := .region none false pc27_o2
def pc27_c3 : PCode := .ret
def pc27_c4 : PCode := .seq pc27_c2 pc27_c3
def pc27_c5 : PCode := .seq pc27_c1 pc27_c4
def pc27_r : List PRes := [PRes.tmp 2 []]
def pc27 : PFunc := ⟨15, pc27_r, pc27_c5⟩
def pc27_a : Ann := {
  kr := fun
    | _ => none
  ka := fun
    | _ => 0
  kh := fun
    | _ => none }
theorem pc27_ok : compFn Try.prog pc27_a Try.f27 = some pc27 := by kernel_rfl


-- 40: vedette/geom.tidy
def pc40_o1 : List POper := [{ dst := some 1, op := POp.box 35 (Operand.tmp 0), guard := none, hints := [] },
  { dst := some 2, op := POp.alloc 35 (Value.agg { toList := [Value.int IntKind.i64 0, Value.int IntKind.i64 0, Value.int IntKind.i64 0, Value.int IntKind.i64 0] }), guard := none, hints := [] }]
def pc40_c1 : PCode := .region none false pc40_o1
def pc40_o2 : List POper := [{ dst := some 3, op := POp.load true 4 (Operand.tmp 1), guard := none, hints := [] },
  { dst := some 4, op := POp.call true [[]] 27 [Operand.tmp 3], guard := none, hints := [] }]
def pc40_c2 : PCode := .region none false pc40_o2
def pc40_o3 : List POper := [{ dst := some 5, op := POp.build (Value.agg { toList := [Value.int IntKind.i64 0, Value.int IntKind.i64 0, Value.int IntKind.i64 0, Value.int IntKind.i64 0] }) [], guard := none, hints := [] },
  { dst := none, op := POp.store 4 (Operand.tmp 2) (Operand.tmp 5), guard := none, hints := [] }]
def pc40_c3 : PCode := .region none false pc40_o3
def pc40_c4 : PCode := .ret
def pc40_c5 : PCode := .seq pc40_c3 pc40_c4
def pc40_c6 : PCode := .skip
def pc40_c7 : PCode := .cond (Operand.tmp 4) pc40_c5 pc40_c6
def pc40_c8 : PCode := .seq pc40_c2 pc40_c7
def pc40_o9 : List POper := [{ dst := some 6, op := POp.load true 4 (Operand.tmp 1), guard := none, hints := [] },
  { dst := none, op := POp.store 4 (Operand.tmp 2) (Operand.tmp 6), guard := none, hints := [] }]
def pc40_c9 : PCode := .region none false pc40_o9
def pc40_c10 : PCode := .ret
def pc40_c11 : PCode := .seq pc40_c9 pc40_c10
def pc40_c12 : PCode := .seq pc40_c8 pc40_c11
def pc40_c13 : PCode := .seq pc40_c1 pc40_c12
def pc40_r : List PRes := [PRes.cell 2 true 4 []]
def pc40 : PFunc := ⟨7, pc40_r, pc40_c13⟩
def pc40_a : Ann := {
  kr := fun
    | _ => none
  ka := fun
    | _ => 0
  kh := fun
    | _ => none }
theorem pc40_ok : compFn Try.prog pc40_a Try.f40 = some pc40 := by kernel_rfl


-- 31: vedette/geom.Meet
def pc31_o1 : List POper := [{ dst := some 2, op := POp.box 35 (Operand.tmp 0), guard := none, hints := [] },
  { dst := some 3, op := POp.box 35 (Operand.tmp 1), guard := none, hints := [] },
  { dst := some 4, op := POp.alloc 35 (Value.agg { toList := [Value.int IntKind.i64 0, Value.int IntKind.i64 0, Value.int IntKind.i64 0, Value.int IntKind.i64 0] }), guard := none, hints := [] }]
def pc31_c1 : PCode := .region none false pc31_o1
def pc31_o2 : List POper := [{ dst := some 5, op := POp.faddr 0 (Operand.tmp 2), guard := none, hints := [] },
  { dst := some 6, op := POp.load false 1 (Operand.tmp 5), guard := none, hints := [] },
  { dst := some 7, op := POp.faddr 0 (Operand.tmp 3), guard := none, hints := [] },
  { dst := some 8, op := POp.load false 1 (Operand.tmp 7), guard := none, hints := [] },
  { dst := some 9, op := POp.prim Prim.max [Operand.tmp 6, Operand.tmp 8], guard := none, hints := [] },
  { dst := some 10, op := POp.faddr 1 (Operand.tmp 2), guard := none, hints := [] },
  { dst := some 11, op := POp.load false 1 (Operand.tmp 10), guard := none, hints := [] },
  { dst := some 12, op := POp.faddr 1 (Operand.tmp 3), guard := none, hints := [] },
  { dst := some 13, op := POp.load false 1 (Operand.tmp 12), guard := none, hints := [] },
  { dst := some 14, op := POp.prim Prim.max [Operand.tmp 11, Operand.tmp 13], guard := none, hints := [] },
  { dst := some 15, op := POp.faddr 2 (Operand.tmp 2), guard := none, hints := [] },
  { dst := some 16, op := POp.load false 1 (Operand.tmp 15), guard := none, hints := [] },
  { dst := some 17, op := POp.faddr 2 (Operand.tmp 3), guard := none, hints := [] },
  { dst := some 18, op := POp.load false 1 (Operand.tmp 17), guard := none, hints := [] },
  { dst := some 19, op := POp.prim Prim.min [Operand.tmp 16, Operand.tmp 18], guard := none, hints := [] },
  { dst := some 20, op := POp.faddr 3 (Operand.tmp 2), guard := none, hints := [] },
  { dst := some 21, op := POp.load false 1 (Operand.tmp 20), guard := none, hints := [] },
  { dst := some 22, op := POp.faddr 3 (Operand.tmp 3), guard := none, hints := [] },
  { dst := some 23, op := POp.load false 1 (Operand.tmp 22), guard := none, hints := [] },
  { dst := some 24, op := POp.prim Prim.min [Operand.tmp 21, Operand.tmp 23], guard := none, hints := [] },
  { dst := some 25, op := POp.build (Value.agg { toList := [Value.int IntKind.i64 0, Value.int IntKind.i64 0, Value.int IntKind.i64 0, Value.int IntKind.i64 0] }) [(0, 1, Operand.tmp 9), (1, 1, Operand.tmp 14), (2, 1, Operand.tmp 19), (3, 1, Operand.tmp 24)], guard := none, hints := [] },
  { dst := some 26, op := POp.call true [[]] 40 [Operand.tmp 25], guard := none, hints := [] },
  { dst := none, op := POp.store 4 (Operand.tmp 4) (Operand.tmp 26), guard := none, hints := [] }]
def pc31_c2 : PCode := .region none false pc31_o2
def pc31_c3 : PCode := .ret
def pc31_c4 : PCode := .seq pc31_c2 pc31_c3
def pc31_c5 : PCode := .seq pc31_c1 pc31_c4
def pc31_r : List PRes := [PRes.cell 4 true 4 []]
def pc31 : PFunc := ⟨27, pc31_r, pc31_c5⟩
def pc31_a : Ann := {
  kr := fun
    | _ => none
  ka := fun
    | _ => 0
  kh := fun
    | _ => none }
theorem pc31_ok : compFn Try.prog pc31_a Try.f31 = some pc31 := by kernel_rfl


-- 21: vedette/geom.Minus
def pc21_o1 : List POper := [{ dst := some 2, op := POp.box 35 (Operand.tmp 0), guard := none, hints := [] },
  { dst := some 3, op := POp.box 35 (Operand.tmp 1), guard := none, hints := [] },
  { dst := some 4, op := POp.mv (Operand.const (Value.slice none 0 0)), guard := none, hints := [] }]
def pc21_c1 : PCode := .region none false pc21_o1
def pc21_o2 : List POper := [{ dst := some 9, op := POp.load true 4 (Operand.tmp 2), guard := none, hints := [] },
  { dst := some 10, op := POp.load true 4 (Operand.tmp 3), guard := none, hints := [] },
  { dst := some 11, op := POp.call true [[], []] 31 [Operand.tmp 9, Operand.tmp 10], guard := none, hints := [] },
  { dst := some 5, op := POp.alloc 35 (Value.agg { toList := [Value.int IntKind.i64 0, Value.int IntKind.i64 0, Value.int IntKind.i64 0, Value.int IntKind.i64 0] }), guard := none, hints := [] },
  { dst := none, op := POp.store 4 (Operand.tmp 5) (Operand.tmp 11), guard := none, hints := [] }]
def pc21_c2 : PCode := .region none false pc21_o2
def pc21_o3 : List POper := [{ dst := some 13, op := POp.load true 4 (Operand.tmp 2), guard := none, hints := [] },
  { dst := some 14, op := POp.call true [[]] 27 [Operand.tmp 13], guard := none, hints := [] },
  { dst := some 12, op := POp.mv (Operand.tmp 14), guard := none, hints := [] }]
def pc21_c3 : PCode := .region none false pc21_o3
def pc21_o4 : List POper := [{ dst := some 4, op := POp.mv (Operand.const (Value.slice none 0 0)), guard := none, hints := [] }]
def pc21_c4 : PCode := .region none false pc21_o4
def pc21_c5 : PCode := .ret
def pc21_c6 : PCode := .seq pc21_c4 pc21_c5
def pc21_o7 : List POper := [{ dst := some 16, op := POp.load true 4 (Operand.tmp 5), guard := none, hints := [] },
  { dst := some 17, op := POp.build (Value.agg { toList := [Value.int IntKind.i64 0, Value.int IntKind.i64 0, Value.int IntKind.i64 0, Value.int IntKind.i64 0] }) [], guard := none, hints := [] },
  { dst := some 18, op := POp.prim (Prim.bin BinOp.eql 35 false false) [Operand.tmp 16, Operand.tmp 17], guard := none, hints := [] },
  { dst := some 15, op := POp.mv (Operand.tmp 18), guard := none, hints := [] }]
def pc21_c7 : PCode := .region none false pc21_o7
def pc21_o8 : List POper := [{ dst := some 19, op := POp.load true 4 (Operand.tmp 2), guard := none, hints := [] },
  { dst := some 20, op := POp.bslice 35 4 [Operand.tmp 19], guard := none, hints := [] },
  { dst := some 4, op := POp.mv (Operand.tmp 20), guard := none, hints := [] }]
def pc21_c8 : PCode := .region none false pc21_o8
def pc21_c9 : PCode := .ret
def pc21_c10 : PCode := .seq pc21_c8 pc21_c9
def pc21_c11 : PCode := .skip
def pc21_c12 : PCode := .cond (Operand.tmp 15) pc21_c10 pc21_c11
def pc21_c13 : PCode := .seq pc21_c7 pc21_c12
def pc21_c14 : PCode := .cond (Operand.tmp 12) pc21_c6 pc21_c13
def pc21_c15 : PCode := .seq pc21_c3 pc21_c14
def pc21_c16 : PCode := .block 0 pc21_c15
def pc21_o17 : List POper := [{ dst := some 6, op := POp.mv (Operand.const (Value.slice none 0 0)), guard := none, hints := [] }]
def pc21_c17 : PCode := .region none false pc21_o17
def pc21_o18 : List POper := [{ dst := some 21, op := POp.faddr 0 (Operand.tmp 2), guard := none, hints := [] },
  { dst := some 22, op := POp.load false 1 (Operand.tmp 21), guard := none, hints := [] },
  { dst := some 23, op := POp.faddr 1 (Operand.tmp 2), guard := none, hints := [] },
  { dst := some 24, op := POp.load false 1 (Operand.tmp 23), guard := none, hints := [] },
  { dst := some 25, op := POp.faddr 2 (Operand.tmp 2), guard := none, hints := [] },
  { dst := some 26, op := POp.load false 1 (Operand.tmp 25), guard := none, hints := [] },
  { dst := some 27, op := POp.faddr 1 (Operand.tmp 5), guard := none, hints := [] },
  { dst := some 28, op := POp.load false 1 (Operand.tmp 27), guard := none, hints := [] },
  { dst := some 29, op := POp.build (Value.agg { toList := [Value.int IntKind.i64 0, Value.int IntKind.i64 0, Value.int IntKind.i64 0, Value.int IntKind.i64 0] }) [(0, 1, Operand.tmp 22), (1, 1, Operand.tmp 24), (2, 1, Operand.tmp 26), (3, 1, Operand.tmp 28)], guard := none, hints := [] },
  { dst := some 30, op := POp.faddr 0 (Operand.tmp 2), guard := none, hints := [] },
  { dst := some 31, op := POp.load false 1 (Operand.tmp 30), guard := none, hints := [] },
  { dst := some 32, op := POp.faddr 3 (Operand.tmp 5), guard := none, hints := [] },
  { dst := some 33, op := POp.load false 1 (Operand.tmp 32), guard := none, hints := [] },
  { dst := some 34, op := POp.faddr 2 (Operand.tmp 2), guard := none, hints := [] },
  { dst := some 35, op := POp.load false 1 (Operand.tmp 34), guard := none, hints := [] },
  { dst := some 36, op := POp.faddr 3 (Operand.tmp 2), guard := none, hints := [] },
  { dst := some 37, op := POp.load false 1 (Operand.tmp 36), guard := none, hints := [] },
  { dst := some 38, op := POp.build (Value.agg { toList := [Value.int IntKind.i64 0, Value.int IntKind.i64 0, Value.int IntKind.i64 0, Value.int IntKind.i64 0] }) [(0, 1, Operand.tmp 31), (1, 1, Operand.tmp 33), (2, 1, Operand.tmp 35), (3, 1, Operand.tmp 37)], guard := none, hints := [] },
  { dst := some 39, op := POp.faddr 0 (Operand.tmp 2), guard := none, hints := [] },
  { dst := some 40, op := POp.load false 1 (Operand.tmp 39), guard := none, hints := [] },
  { dst := some 41, op := POp.faddr 1 (Operand.tmp 5), guard := none, hints := [] },
  { dst := some 42, op := POp.load false 1 (Operand.tmp 41), guard := none, hints := [] },
  { dst := some 43, op := POp.faddr 0 (Operand.tmp 5), guard := none, hints := [] },
  { dst := some 44, op := POp.load false 1 (Operand.tmp 43), guard := none, hints := [] },
  { dst := some 45, op := POp.faddr 3 (Operand.tmp 5), guard := none, hints := [] },
  { dst := some 46, op := POp.load false 1 (Operand.tmp 45), guard := none, hints := [] },
  { dst := some 47, op := POp.build (Value.agg { toList := [Value.int IntKind.i64 0, Value.int IntKind.i64 0, Value.int IntKind.i64 0, Value.int IntKind.i64 0] }) [(0, 1, Operand.tmp 40), (1, 1, Operand.tmp 42), (2, 1, Operand.tmp 44), (3, 1, Operand.tmp 46)], guard := none, hints := [] },
  { dst := some 48, op := POp.faddr 2 (Operand.tmp 5), guard := none, hints := [] },
  { dst := some 49, op := POp.load false 1 (Operand.tmp 48), guard := none, hints := [] },
  { dst := some 50, op := POp.faddr 1 (Operand.tmp 5), guard := none, hints := [] },
  { dst := some 51, op := POp.load false 1 (Operand.tmp 50), guard := none, hints := [] },
  { dst := some 52, op := POp.faddr 2 (Operand.tmp 2), guard := none, hints := [] },
  { dst := some 53, op := POp.load false 1 (Operand.tmp 52), guard := none, hints := [] },
  { dst := some 54, op := POp.faddr 3 (Operand.tmp 5), guard := none, hints := [] },
  { dst := some 55, op := POp.load false 1 (Operand.tmp 54), guard := none, hints := [] },
  { dst := some 56, op := POp.build (Value.agg { toList := [Value.int IntKind.i64 0, Value.int IntKind.i64 0, Value.int IntKind.i64 0, Value.int IntKind.i64 0] }) [(0, 1, Operand.tmp 49), (1, 1, Operand.tmp 51), (2, 1, Operand.tmp 53), (3, 1, Operand.tmp 55)], guard := none, hints := [] },
  { dst := some 57, op := POp.build (Value.agg { toList := [Value.int IntKind.i64 0, Value.int IntKind.i64 0, Value.int IntKind.i64 0, Value.int IntKind.i64 0, Value.int IntKind.i64 0, Value.int IntKind.i64 0, Value.int IntKind.i64 0, Value.int IntKind.i64 0, Value.int IntKind.i64 0, Value.int IntKind.i64 0, Value.int IntKind.i64 0, Value.int IntKind.i64 0, Value.int IntKind.i64 0, Value.int IntKind.i64 0, Value.int IntKind.i64 0, Value.int IntKind.i64 0] }) [(0, 4, Operand.tmp 29), (4, 4, Operand.tmp 38), (8, 4, Operand.tmp 47), (12, 4, Operand.tmp 56)], guard := none, hints := [] },
  { dst := some 58, op := POp.mv (Operand.const (Value.int IntKind.i64 0)), guard := none, hints := [] }]
def pc21_c18 : PCode := .region none false pc21_o18
def pc21_o19 : List POper := [{ dst := some 59, op := POp.prim (Prim.bin BinOp.lss 3 false true) [Operand.tmp 58, Operand.const (Value.int IntKind.i64 4)], guard := none, hints := [] }]
def pc21_c19 : PCode := .region (some ([6, 57, 58], [2, 3, 5, 8, 100006])) false pc21_o19
def pc21_c20 : PCode := .skip
def pc21_c21 : PCode := .exit 1
def pc21_c22 : PCode := .cond (Operand.tmp 59) pc21_c20 pc21_c21
def pc21_o23 : List POper := [{ dst := some 60, op := POp.idx true 4 4 (Operand.tmp 57) (Operand.tmp 58), guard := none, hints := [] },
  { dst := some 8, op := POp.alloc 35 (Value.agg { toList := [Value.int IntKind.i64 0, Value.int IntKind.i64 0, Value.int IntKind.i64 0, Value.int IntKind.i64 0] }), guard := none, hints := [] },
  { dst := none, op := POp.store 4 (Operand.tmp 8) (Operand.tmp 60), guard := none, hints := [] }]
def pc21_c23 : PCode := .region none false pc21_o23
def pc21_o24 : List POper := [{ dst := some 61, op := POp.load true 4 (Operand.tmp 8), guard := none, hints := [] },
  { dst := some 62, op := POp.call true [[]] 27 [Operand.tmp 61], guard := none, hints := [] },
  { dst := some 63, op := POp.prim (Prim.un UnOp.not) [Operand.tmp 62], guard := none, hints := [] }]
def pc21_c24 : PCode := .region none false pc21_o24
def pc21_o25 : List POper := [{ dst := some 64, op := POp.mv (Operand.tmp 6), guard := none, hints := [] },
  { dst := some 65, op := POp.load true 4 (Operand.tmp 8), guard := none, hints := [] },
  { dst := some 66, op := POp.bslice 35 4 [Operand.tmp 65], guard := none, hints := [] },
  { dst := some 67, op := POp.app 100006 35 4 32 (Operand.tmp 64) (Operand.tmp 66), guard := none, hints := [] },
  { dst := some 6, op := POp.mv (Operand.tmp 67), guard := none, hints := [] }]
def pc21_c25 : PCode := .region none false pc21_o25
def pc21_c26 : PCode := .skip
def pc21_c27 : PCode := .cond (Operand.tmp 63) pc21_c25 pc21_c26
def pc21_c28 : PCode := .seq pc21_c24 pc21_c27
def pc21_c29 : PCode := .seq pc21_c23 pc21_c28
def pc21_c30 : PCode := .block 2 pc21_c29
def pc21_o31 : List POper := [{ dst := some 68, op := POp.prim (Prim.bin BinOp.add 3 false true) [Operand.tmp 58, Operand.const (Value.int IntKind.i64 1)], guard := none, hints := [] },
  { dst := some 58, op := POp.mv (Operand.tmp 68), guard := none, hints := [] }]
def pc21_c31 : PCode := .region none false pc21_o31
def pc21_c32 : PCode := .seq pc21_c30 pc21_c31
def pc21_c33 : PCode := .seq pc21_c22 pc21_c32
def pc21_c34 : PCode := .seq pc21_c19 pc21_c33
def pc21_c35 : PCode := .loop pc21_c34
def pc21_c36 : PCode := .block 1 pc21_c35
def pc21_c37 : PCode := .seq pc21_c18 pc21_c36
def pc21_o38 : List POper := [{ dst := some 69, op := POp.mv (Operand.tmp 6), guard := none, hints := [] },
  { dst := some 4, op := POp.mv (Operand.tmp 69), guard := none, hints := [] }]
def pc21_c38 : PCode := .region none false pc21_o38
def pc21_c39 : PCode := .ret
def pc21_c40 : PCode := .seq pc21_c38 pc21_c39
def pc21_c41 : PCode := .seq pc21_c37 pc21_c40
def pc21_c42 : PCode := .seq pc21_c17 pc21_c41
def pc21_c43 : PCode := .seq pc21_c16 pc21_c42
def pc21_c44 : PCode := .seq pc21_c2 pc21_c43
def pc21_c45 : PCode := .seq pc21_c1 pc21_c44
def pc21_r : List PRes := [PRes.tmp 4 [(0, 4)]]
def pc21 : PFunc := ⟨70, pc21_r, pc21_c45⟩
def pc21_a : Ann := {
  kr := fun
    | 8 => some ([6, 57, 58], [2, 3, 5, 8, 100006])
    | _ => none
  ka := fun
    | 67 => 100006
    | _ => 0
  kh := fun
    | _ => none }
theorem pc21_ok : compFn Try.prog pc21_a Try.f21 = some pc21 := by kernel_rfl


-- 23: vedette/geom.On
def pc23_o1 : List POper := [{ dst := some 1, op := POp.box 37 (Operand.tmp 0), guard := none, hints := [] },
  { dst := some 2, op := POp.mv (Operand.const (Value.bool false)), guard := none, hints := [] }]
def pc23_c1 : PCode := .region none false pc23_o1
def pc23_o2 : List POper := [{ dst := some 3, op := POp.faddr 0 (Operand.tmp 1), guard := none, hints := [] },
  { dst := some 4, op := POp.load false 1 (Operand.tmp 3), guard := none, hints := [] },
  { dst := some 5, op := POp.prim (Prim.bin BinOp.geq 3 false true) [Operand.tmp 4, Operand.const (Value.int IntKind.i64 0)], guard := none, hints := [] },
  { dst := some 6, op := POp.mv (Operand.tmp 5), guard := none, hints := [] },
  { dst := some 7, op := POp.faddr 0 (Operand.tmp 1), guard := some (6, true), hints := [] },
  { dst := some 8, op := POp.load false 1 (Operand.tmp 7), guard := some (6, true), hints := [] },
  { dst := some 9, op := POp.prim (Prim.bin BinOp.lss 3 false true) [Operand.tmp 8, Operand.const (Value.int IntKind.i64 64)], guard := some (6, true), hints := [] },
  { dst := some 10, op := POp.pick (Operand.tmp 6) (Operand.tmp 9) (Operand.const (Value.bool false)), guard := none, hints := [] },
  { dst := some 11, op := POp.mv (Operand.tmp 10), guard := none, hints := [] },
  { dst := some 12, op := POp.faddr 1 (Operand.tmp 1), guard := some (11, true), hints := [] },
  { dst := some 13, op := POp.load false 1 (Operand.tmp 12), guard := some (11, true), hints := [] },
  { dst := some 14, op := POp.prim (Prim.bin BinOp.geq 3 false true) [Operand.tmp 13, Operand.const (Value.int IntKind.i64 0)], guard := some (11, true), hints := [] },
  { dst := some 15, op := POp.pick (Operand.tmp 11) (Operand.tmp 14) (Operand.const (Value.bool false)), guard := none, hints := [] },
  { dst := some 16, op := POp.mv (Operand.tmp 15), guard := none, hints := [] },
  { dst := some 17, op := POp.faddr 1 (Operand.tmp 1), guard := some (16, true), hints := [] },
  { dst := some 18, op := POp.load false 1 (Operand.tmp 17), guard := some (16, true), hints := [] },
  { dst := some 19, op := POp.prim (Prim.bin BinOp.lss 3 false true) [Operand.tmp 18, Operand.const (Value.int IntKind.i64 64)], guard := some (16, true), hints := [] },
  { dst := some 20, op := POp.pick (Operand.tmp 16) (Operand.tmp 19) (Operand.const (Value.bool false)), guard := none, hints := [] },
  { dst := some 2, op := POp.mv (Operand.tmp 20), guard := none, hints := [] }]
def pc23_c2 : PCode := .region none false pc23_o2
def pc23_c3 : PCode := .ret
def pc23_c4 : PCode := .seq pc23_c2 pc23_c3
def pc23_c5 : PCode := .seq pc23_c1 pc23_c4
def pc23_r : List PRes := [PRes.tmp 2 []]
def pc23 : PFunc := ⟨21, pc23_r, pc23_c5⟩
def pc23_a : Ann := {
  kr := fun
    | _ => none
  ka := fun
    | _ => 0
  kh := fun
    | _ => none }
theorem pc23_ok : compFn Try.prog pc23_a Try.f23 = some pc23 := by kernel_rfl


-- 39: vedette/geom.side
def pc39_o1 : List POper := [{ dst := some 4, op := POp.mv (Operand.const (Value.bool false)), guard := none, hints := [] }]
def pc39_c1 : PCode := .region none false pc39_o1
def pc39_o2 : List POper := [{ dst := some 5, op := POp.mv (Operand.tmp 0), guard := none, hints := [] },
  { dst := some 6, op := POp.prim (Prim.bin BinOp.geq 3 false true) [Operand.tmp 5, Operand.const (Value.int IntKind.i64 0)], guard := none, hints := [] },
  { dst := some 7, op := POp.mv (Operand.tmp 6), guard := none, hints := [] },
  { dst := some 8, op := POp.mv (Operand.tmp 0), guard := some (7, true), hints := [] },
  { dst := some 9, op := POp.mv (Operand.tmp 1), guard := some (7, true), hints := [] },
  { dst := some 10, op := POp.prim (Prim.bin BinOp.leq 3 false false) [Operand.tmp 8, Operand.tmp 9], guard := some (7, true), hints := [] },
  { dst := some 11, op := POp.pick (Operand.tmp 7) (Operand.tmp 10) (Operand.const (Value.bool false)), guard := none, hints := [] },
  { dst := some 12, op := POp.mv (Operand.tmp 11), guard := none, hints := [] },
  { dst := some 13, op := POp.mv (Operand.tmp 1), guard := some (12, true), hints := [] },
  { dst := some 14, op := POp.prim (Prim.bin BinOp.leq 3 false true) [Operand.tmp 13, Operand.const (Value.int IntKind.i64 64)], guard := some (12, true), hints := [] },
  { dst := some 15, op := POp.pick (Operand.tmp 12) (Operand.tmp 14) (Operand.const (Value.bool false)), guard := none, hints := [] },
  { dst := some 4, op := POp.mv (Operand.tmp 15), guard := none, hints := [] }]
def pc39_c2 : PCode := .region none false pc39_o2
def pc39_c3 : PCode := .ret
def pc39_c4 : PCode := .seq pc39_c2 pc39_c3
def pc39_c5 : PCode := .seq pc39_c1 pc39_c4
def pc39_r : List PRes := [PRes.tmp 4 []]
def pc39 : PFunc := ⟨16, pc39_r, pc39_c5⟩
def pc39_a : Ann := {
  kr := fun
    | _ => none
  ka := fun
    | _ => 0
  kh := fun
    | _ => none }
theorem pc39_ok : compFn Try.prog pc39_a Try.f39 = some pc39 := by kernel_rfl


-- 25: vedette/geom.Is
def pc25_o1 : List POper := [{ dst := some 1, op := POp.box 35 (Operand.tmp 0), guard := none, hints := [] },
  { dst := some 2, op := POp.mv (Operand.const (Value.bool false)), guard := none, hints := [] }]
def pc25_c1 : PCode := .region none false pc25_o1
def pc25_o2 : List POper := [{ dst := some 3, op := POp.faddr 0 (Operand.tmp 1), guard := none, hints := [] },
  { dst := some 4, op := POp.load false 1 (Operand.tmp 3), guard := none, hints := [] },
  { dst := some 5, op := POp.faddr 2 (Operand.tmp 1), guard := none, hints := [] },
  { dst := some 6, op := POp.load false 1 (Operand.tmp 5), guard := none, hints := [] },
  { dst := some 7, op := POp.call true [[], []] 39 [Operand.tmp 4, Operand.tmp 6], guard := none, hints := [] },
  { dst := some 8, op := POp.mv (Operand.tmp 7), guard := none, hints := [] },
  { dst := some 9, op := POp.faddr 1 (Operand.tmp 1), guard := some (8, true), hints := [] },
  { dst := some 10, op := POp.load false 1 (Operand.tmp 9), guard := some (8, true), hints := [] },
  { dst := some 11, op := POp.faddr 3 (Operand.tmp 1), guard := some (8, true), hints := [] },
  { dst := some 12, op := POp.load false 1 (Operand.tmp 11), guard := some (8, true), hints := [] },
  { dst := some 13, op := POp.call true [[], []] 39 [Operand.tmp 10, Operand.tmp 12], guard := some (8, true), hints := [] },
  { dst := some 14, op := POp.pick (Operand.tmp 8) (Operand.tmp 13) (Operand.const (Value.bool false)), guard := none, hints := [] },
  { dst := some 2, op := POp.mv (Operand.tmp 14), guard := none, hints := [] }]
def pc25_c2 : PCode := .region none false pc25_o2
def pc25_c3 : PCode := .ret
def pc25_c4 : PCode := .seq pc25_c2 pc25_c3
def pc25_c5 : PCode := .seq pc25_c1 pc25_c4
def pc25_r : List PRes := [PRes.tmp 2 []]
def pc25 : PFunc := ⟨15, pc25_r, pc25_c5⟩
def pc25_a : Ann := {
  kr := fun
    | _ => none
  ka := fun
    | _ => 0
  kh := fun
    | _ => none }
theorem pc25_ok : compFn Try.prog pc25_a Try.f25 = some pc25 := by kernel_rfl


-- 29: vedette/geom.In
def pc29_o1 : List POper := [{ dst := some 2, op := POp.box 35 (Operand.tmp 0), guard := none, hints := [] },
  { dst := some 3, op := POp.box 37 (Operand.tmp 1), guard := none, hints := [] },
  { dst := some 4, op := POp.mv (Operand.const (Value.bool false)), guard := none, hints := [] }]
def pc29_c1 : PCode := .region none false pc29_o1
def pc29_o2 : List POper := [{ dst := some 5, op := POp.faddr 0 (Operand.tmp 3), guard := none, hints := [] },
  { dst := some 6, op := POp.load false 1 (Operand.tmp 5), guard := none, hints := [] },
  { dst := some 7, op := POp.faddr 0 (Operand.tmp 2), guard := none, hints := [] },
  { dst := some 8, op := POp.load false 1 (Operand.tmp 7), guard := none, hints := [] },
  { dst := some 9, op := POp.prim (Prim.bin BinOp.geq 3 false false) [Operand.tmp 6, Operand.tmp 8], guard := none, hints := [] },
  { dst := some 10, op := POp.mv (Operand.tmp 9), guard := none, hints := [] },
  { dst := some 11, op := POp.faddr 0 (Operand.tmp 3), guard := some (10, true), hints := [] },
  { dst := some 12, op := POp.load false 1 (Operand.tmp 11), guard := some (10, true), hints := [] },
  { dst := some 13, op := POp.faddr 2 (Operand.tmp 2), guard := some (10, true), hints := [] },
  { dst := some 14, op := POp.load false 1 (Operand.tmp 13), guard := some (10, true), hints := [] },
  { dst := some 15, op := POp.prim (Prim.bin BinOp.lss 3 false false) [Operand.tmp 12, Operand.tmp 14], guard := some (10, true), hints := [] },
  { dst := some 16, op := POp.pick (Operand.tmp 10) (Operand.tmp 15) (Operand.const (Value.bool false)), guard := none, hints := [] },
  { dst := some 17, op := POp.mv (Operand.tmp 16), guard := none, hints := [] },
  { dst := some 18, op := POp.faddr 1 (Operand.tmp 3), guard := some (17, true), hints := [] },
  { dst := some 19, op := POp.load false 1 (Operand.tmp 18), guard := some (17, true), hints := [] },
  { dst := some 20, op := POp.faddr 1 (Operand.tmp 2), guard := some (17, true), hints := [] },
  { dst := some 21, op := POp.load false 1 (Operand.tmp 20), guard := some (17, true), hints := [] },
  { dst := some 22, op := POp.prim (Prim.bin BinOp.geq 3 false false) [Operand.tmp 19, Operand.tmp 21], guard := some (17, true), hints := [] },
  { dst := some 23, op := POp.pick (Operand.tmp 17) (Operand.tmp 22) (Operand.const (Value.bool false)), guard := none, hints := [] },
  { dst := some 24, op := POp.mv (Operand.tmp 23), guard := none, hints := [] },
  { dst := some 25, op := POp.faddr 1 (Operand.tmp 3), guard := some (24, true), hints := [] },
  { dst := some 26, op := POp.load false 1 (Operand.tmp 25), guard := some (24, true), hints := [] },
  { dst := some 27, op := POp.faddr 3 (Operand.tmp 2), guard := some (24, true), hints := [] },
  { dst := some 28, op := POp.load false 1 (Operand.tmp 27), guard := some (24, true), hints := [] },
  { dst := some 29, op := POp.prim (Prim.bin BinOp.lss 3 false false) [Operand.tmp 26, Operand.tmp 28], guard := some (24, true), hints := [] },
  { dst := some 30, op := POp.pick (Operand.tmp 24) (Operand.tmp 29) (Operand.const (Value.bool false)), guard := none, hints := [] },
  { dst := some 4, op := POp.mv (Operand.tmp 30), guard := none, hints := [] }]
def pc29_c2 : PCode := .region none false pc29_o2
def pc29_c3 : PCode := .ret
def pc29_c4 : PCode := .seq pc29_c2 pc29_c3
def pc29_c5 : PCode := .seq pc29_c1 pc29_c4
def pc29_r : List PRes := [PRes.tmp 4 []]
def pc29 : PFunc := ⟨31, pc29_r, pc29_c5⟩
def pc29_a : Ann := {
  kr := fun
    | _ => none
  ka := fun
    | _ => 0
  kh := fun
    | _ => none }
theorem pc29_ok : compFn Try.prog pc29_a Try.f29 = some pc29 := by kernel_rfl


-- 33: vedette/geom.Area
def pc33_o1 : List POper := [{ dst := some 1, op := POp.box 35 (Operand.tmp 0), guard := none, hints := [] },
  { dst := some 2, op := POp.mv (Operand.const (Value.int IntKind.i64 0)), guard := none, hints := [] }]
def pc33_c1 : PCode := .region none false pc33_o1
def pc33_o2 : List POper := [{ dst := some 3, op := POp.load true 4 (Operand.tmp 1), guard := none, hints := [] },
  { dst := some 4, op := POp.build (Value.agg { toList := [Value.int IntKind.i64 0, Value.int IntKind.i64 0, Value.int IntKind.i64 0, Value.int IntKind.i64 0] }) [(2, 1, Operand.const (Value.int IntKind.i64 64)), (3, 1, Operand.const (Value.int IntKind.i64 64))], guard := none, hints := [] },
  { dst := some 5, op := POp.call true [[], []] 31 [Operand.tmp 3, Operand.tmp 4], guard := none, hints := [] },
  { dst := none, op := POp.store 4 (Operand.tmp 1) (Operand.tmp 5), guard := none, hints := [] }]
def pc33_c2 : PCode := .region none false pc33_o2
def pc33_o3 : List POper := [{ dst := some 6, op := POp.faddr 2 (Operand.tmp 1), guard := none, hints := [] },
  { dst := some 7, op := POp.load false 1 (Operand.tmp 6), guard := none, hints := [] },
  { dst := some 8, op := POp.faddr 0 (Operand.tmp 1), guard := none, hints := [] },
  { dst := some 9, op := POp.load false 1 (Operand.tmp 8), guard := none, hints := [] },
  { dst := some 10, op := POp.prim (Prim.bin BinOp.sub 3 false false) [Operand.tmp 7, Operand.tmp 9], guard := none, hints := [] },
  { dst := some 11, op := POp.faddr 3 (Operand.tmp 1), guard := none, hints := [] },
  { dst := some 12, op := POp.load false 1 (Operand.tmp 11), guard := none, hints := [] },
  { dst := some 13, op := POp.faddr 1 (Operand.tmp 1), guard := none, hints := [] },
  { dst := some 14, op := POp.load false 1 (Operand.tmp 13), guard := none, hints := [] },
  { dst := some 15, op := POp.prim (Prim.bin BinOp.sub 3 false false) [Operand.tmp 12, Operand.tmp 14], guard := none, hints := [] },
  { dst := some 16, op := POp.prim (Prim.bin BinOp.mul 3 false false) [Operand.tmp 10, Operand.tmp 15], guard := none, hints := [] },
  { dst := some 2, op := POp.mv (Operand.tmp 16), guard := none, hints := [] }]
def pc33_c3 : PCode := .region none false pc33_o3
def pc33_c4 : PCode := .ret
def pc33_c5 : PCode := .seq pc33_c3 pc33_c4
def pc33_c6 : PCode := .seq pc33_c2 pc33_c5
def pc33_c7 : PCode := .seq pc33_c1 pc33_c6
def pc33_r : List PRes := [PRes.tmp 2 []]
def pc33 : PFunc := ⟨17, pc33_r, pc33_c7⟩
def pc33_a : Ann := {
  kr := fun
    | _ => none
  ka := fun
    | _ => 0
  kh := fun
    | _ => none }
theorem pc33_ok : compFn Try.prog pc33_a Try.f33 = some pc33 := by kernel_rfl


-- 35: vedette/geom.Same
def pc35_o1 : List POper := [{ dst := some 2, op := POp.box 35 (Operand.tmp 0), guard := none, hints := [] },
  { dst := some 3, op := POp.box 35 (Operand.tmp 1), guard := none, hints := [] },
  { dst := some 4, op := POp.mv (Operand.const (Value.bool false)), guard := none, hints := [] }]
def pc35_c1 : PCode := .region none false pc35_o1
def pc35_o2 : List POper := [{ dst := some 5, op := POp.load true 4 (Operand.tmp 2), guard := none, hints := [(2, Hint.at_ 2 0)] },
  { dst := some 6, op := POp.call false [[]] 40 [Operand.tmp 5], guard := none, hints := [(5, Hint.imm)] },
  { dst := some 7, op := POp.load true 4 (Operand.tmp 3), guard := none, hints := [(3, Hint.at_ 3 0)] },
  { dst := some 8, op := POp.call false [[]] 40 [Operand.tmp 7], guard := none, hints := [(7, Hint.imm)] },
  { dst := some 9, op := POp.prim (Prim.bin BinOp.eql 35 false false) [Operand.tmp 6, Operand.tmp 8], guard := none, hints := [(6, Hint.imm), (8, Hint.imm)] },
  { dst := some 4, op := POp.mv (Operand.tmp 9), guard := none, hints := [(9, Hint.imm)] }]
def pc35_c2 : PCode := .region none true pc35_o2
def pc35_c3 : PCode := .ret
def pc35_c4 : PCode := .seq pc35_c2 pc35_c3
def pc35_c5 : PCode := .seq pc35_c1 pc35_c4
def pc35_r : List PRes := [PRes.tmp 4 []]
def pc35 : PFunc := ⟨10, pc35_r, pc35_c5⟩
def pc35_a : Ann := {
  kr := fun
    | _ => none
  ka := fun
    | _ => 0
  kh := fun
    | 2 => some (Hint.at_ 2 0)
    | 3 => some (Hint.at_ 3 0)
    | 5 => some (Hint.imm)
    | 6 => some (Hint.imm)
    | 7 => some (Hint.imm)
    | 8 => some (Hint.imm)
    | 9 => some (Hint.imm)
    | _ => none }
theorem pc35_ok : compFn Try.prog pc35_a Try.f35 = some pc35 := by kernel_rfl


-- 19: vedette/vedettelaw3.known
def pc19_o1 : List POper := [{ dst := some 0, op := POp.mv (Operand.const (Value.bool false)), guard := none, hints := [] }]
def pc19_c1 : PCode := .region none false pc19_o1
def pc19_o2 : List POper := [{ dst := some 3, op := POp.build (Value.agg { toList := [Value.int IntKind.i64 0, Value.int IntKind.i64 0, Value.int IntKind.i64 0, Value.int IntKind.i64 0] }) [(2, 1, Operand.const (Value.int IntKind.i64 4)), (3, 1, Operand.const (Value.int IntKind.i64 4))], guard := none, hints := [] },
  { dst := some 4, op := POp.build (Value.agg { toList := [Value.int IntKind.i64 0, Value.int IntKind.i64 0, Value.int IntKind.i64 0, Value.int IntKind.i64 0] }) [(0, 1, Operand.const (Value.int IntKind.i64 1)), (1, 1, Operand.const (Value.int IntKind.i64 1)), (2, 1, Operand.const (Value.int IntKind.i64 2)), (3, 1, Operand.const (Value.int IntKind.i64 2))], guard := none, hints := [] },
  { dst := some 1, op := POp.alloc 35 (Value.agg { toList := [Value.int IntKind.i64 0, Value.int IntKind.i64 0, Value.int IntKind.i64 0, Value.int IntKind.i64 0] }), guard := none, hints := [] },
  { dst := some 2, op := POp.alloc 35 (Value.agg { toList := [Value.int IntKind.i64 0, Value.int IntKind.i64 0, Value.int IntKind.i64 0, Value.int IntKind.i64 0] }), guard := none, hints := [] },
  { dst := none, op := POp.store 4 (Operand.tmp 1) (Operand.tmp 3), guard := none, hints := [] },
  { dst := none, op := POp.store 4 (Operand.tmp 2) (Operand.tmp 4), guard := none, hints := [] }]
def pc19_c2 : PCode := .region none false pc19_o2
def pc19_o3 : List POper := [{ dst := some 5, op := POp.build (Value.agg { toList := [Value.int IntKind.i64 0, Value.int IntKind.i64 0] }) [(0, 1, Operand.const (Value.int IntKind.i64 63))], guard := none, hints := [] },
  { dst := some 6, op := POp.call false [[]] 23 [Operand.tmp 5], guard := none, hints := [(5, Hint.imm)] },
  { dst := some 7, op := POp.mv (Operand.tmp 6), guard := none, hints := [(6, Hint.imm)] },
  { dst := some 8, op := POp.build (Value.agg { toList := [Value.int IntKind.i64 0, Value.int IntKind.i64 0] }) [(0, 1, Operand.const (Value.int IntKind.i64 64))], guard := some (7, true), hints := [] },
  { dst := some 9, op := POp.call false [[]] 23 [Operand.tmp 8], guard := some (7, true), hints := [(8, Hint.imm)] },
  { dst := some 10, op := POp.prim (Prim.un UnOp.not) [Operand.tmp 9], guard := some (7, true), hints := [(9, Hint.imm)] },
  { dst := some 11, op := POp.pick (Operand.tmp 7) (Operand.tmp 10) (Operand.const (Value.bool false)), guard := none, hints := [(7, Hint.imm), (10, Hint.imm)] },
  { dst := some 12, op := POp.mv (Operand.tmp 11), guard := none, hints := [(11, Hint.imm)] },
  { dst := some 13, op := POp.load true 4 (Operand.tmp 1), guard := some (12, true), hints := [(1, Hint.at_ 1 0)] },
  { dst := some 14, op := POp.call false [[]] 25 [Operand.tmp 13], guard := some (12, true), hints := [(13, Hint.imm)] },
  { dst := some 15, op := POp.pick (Operand.tmp 12) (Operand.tmp 14) (Operand.const (Value.bool false)), guard := none, hints := [(12, Hint.imm), (14, Hint.imm)] },
  { dst := some 16, op := POp.mv (Operand.tmp 15), guard := none, hints := [(15, Hint.imm)] },
  { dst := some 17, op := POp.build (Value.agg { toList := [Value.int IntKind.i64 0, Value.int IntKind.i64 0, Value.int IntKind.i64 0, Value.int IntKind.i64 0] }) [(0, 1, Operand.const (Value.int IntKind.i64 2)), (2, 1, Operand.const (Value.int IntKind.i64 1))], guard := some (16, true), hints := [] },
  { dst := some 18, op := POp.call false [[]] 25 [Operand.tmp 17], guard := some (16, true), hints := [(17, Hint.imm)] },
  { dst := some 19, op := POp.prim (Prim.un UnOp.not) [Operand.tmp 18], guard := some (16, true), hints := [(18, Hint.imm)] },
  { dst := some 20, op := POp.pick (Operand.tmp 16) (Operand.tmp 19) (Operand.const (Value.bool false)), guard := none, hints := [(16, Hint.imm), (19, Hint.imm)] },
  { dst := some 21, op := POp.mv (Operand.tmp 20), guard := none, hints := [(20, Hint.imm)] },
  { dst := some 22, op := POp.build (Value.agg { toList := [Value.int IntKind.i64 0, Value.int IntKind.i64 0, Value.int IntKind.i64 0, Value.int IntKind.i64 0] }) [], guard := some (21, true), hints := [] },
  { dst := some 23, op := POp.call false [[]] 27 [Operand.tmp 22], guard := some (21, true), hints := [(22, Hint.imm)] },
  { dst := some 24, op := POp.pick (Operand.tmp 21) (Operand.tmp 23) (Operand.const (Value.bool false)), guard := none, hints := [(21, Hint.imm), (23, Hint.imm)] },
  { dst := some 25, op := POp.mv (Operand.tmp 24), guard := none, hints := [(24, Hint.imm)] },
  { dst := some 26, op := POp.load true 4 (Operand.tmp 1), guard := some (25, true), hints := [(1, Hint.at_ 1 0)] },
  { dst := some 27, op := POp.build (Value.agg { toList := [Value.int IntKind.i64 0, Value.int IntKind.i64 0] }) [(0, 1, Operand.const (Value.int IntKind.i64 3)), (1, 1, Operand.const (Value.int IntKind.i64 3))], guard := some (25, true), hints := [] },
  { dst := some 28, op := POp.call false [[], []] 29 [Operand.tmp 26, Operand.tmp 27], guard := some (25, true), hints := [(26, Hint.imm), (27, Hint.imm)] },
  { dst := some 29, op := POp.pick (Operand.tmp 25) (Operand.tmp 28) (Operand.const (Value.bool false)), guard := none, hints := [(25, Hint.imm), (28, Hint.imm)] },
  { dst := some 30, op := POp.mv (Operand.tmp 29), guard := none, hints := [(29, Hint.imm)] },
  { dst := some 31, op := POp.load true 4 (Operand.tmp 1), guard := some (30, true), hints := [(1, Hint.at_ 1 0)] },
  { dst := some 32, op := POp.build (Value.agg { toList := [Value.int IntKind.i64 0, Value.int IntKind.i64 0] }) [(0, 1, Operand.const (Value.int IntKind.i64 4))], guard := some (30, true), hints := [] },
  { dst := some 33, op := POp.call false [[], []] 29 [Operand.tmp 31, Operand.tmp 32], guard := some (30, true), hints := [(31, Hint.imm), (32, Hint.imm)] },
  { dst := some 34, op := POp.prim (Prim.un UnOp.not) [Operand.tmp 33], guard := some (30, true), hints := [(33, Hint.imm)] },
  { dst := some 35, op := POp.pick (Operand.tmp 30) (Operand.tmp 34) (Operand.const (Value.bool false)), guard := none, hints := [(30, Hint.imm), (34, Hint.imm)] },
  { dst := some 36, op := POp.mv (Operand.tmp 35), guard := none, hints := [(35, Hint.imm)] },
  { dst := some 37, op := POp.load true 4 (Operand.tmp 1), guard := some (36, true), hints := [(1, Hint.at_ 1 0)] },
  { dst := some 38, op := POp.load true 4 (Operand.tmp 2), guard := some (36, true), hints := [(2, Hint.at_ 2 0)] },
  { dst := some 39, op := POp.call false [[], []] 31 [Operand.tmp 37, Operand.tmp 38], guard := some (36, true), hints := [(37, Hint.imm), (38, Hint.imm)] },
  { dst := some 40, op := POp.load true 4 (Operand.tmp 2), guard := some (36, true), hints := [(2, Hint.at_ 2 0)] },
  { dst := some 41, op := POp.prim (Prim.bin BinOp.eql 35 false false) [Operand.tmp 39, Operand.tmp 40], guard := some (36, true), hints := [(39, Hint.imm), (40, Hint.imm)] },
  { dst := some 42, op := POp.pick (Operand.tmp 36) (Operand.tmp 41) (Operand.const (Value.bool false)), guard := none, hints := [(36, Hint.imm), (41, Hint.imm)] },
  { dst := some 43, op := POp.mv (Operand.tmp 42), guard := none, hints := [(42, Hint.imm)] },
  { dst := some 44, op := POp.load true 4 (Operand.tmp 1), guard := some (43, true), hints := [(1, Hint.at_ 1 0)] },
  { dst := some 45, op := POp.load true 4 (Operand.tmp 2), guard := some (43, true), hints := [(2, Hint.at_ 2 0)] },
  { dst := some 46, op := POp.call false [[], []] 21 [Operand.tmp 44, Operand.tmp 45], guard := some (43, true), hints := [(44, Hint.imm), (45, Hint.imm)] },
  { dst := some 47, op := POp.lenS (Operand.tmp 46), guard := some (43, true), hints := [(46, Hint.imm)] },
  { dst := some 48, op := POp.prim (Prim.bin BinOp.eql 3 false true) [Operand.tmp 47, Operand.const (Value.int IntKind.i64 4)], guard := some (43, true), hints := [(47, Hint.imm)] },
  { dst := some 49, op := POp.pick (Operand.tmp 43) (Operand.tmp 48) (Operand.const (Value.bool false)), guard := none, hints := [(43, Hint.imm), (48, Hint.imm)] },
  { dst := some 50, op := POp.mv (Operand.tmp 49), guard := none, hints := [(49, Hint.imm)] },
  { dst := some 51, op := POp.load true 4 (Operand.tmp 1), guard := some (50, true), hints := [(1, Hint.at_ 1 0)] },
  { dst := some 52, op := POp.call false [[]] 33 [Operand.tmp 51], guard := some (50, true), hints := [(51, Hint.imm)] },
  { dst := some 53, op := POp.prim (Prim.bin BinOp.eql 3 false true) [Operand.tmp 52, Operand.const (Value.int IntKind.i64 16)], guard := some (50, true), hints := [(52, Hint.imm)] },
  { dst := some 54, op := POp.pick (Operand.tmp 50) (Operand.tmp 53) (Operand.const (Value.bool false)), guard := none, hints := [(50, Hint.imm), (53, Hint.imm)] },
  { dst := some 55, op := POp.mv (Operand.tmp 54), guard := none, hints := [(54, Hint.imm)] },
  { dst := some 56, op := POp.load true 4 (Operand.tmp 1), guard := some (55, true), hints := [(1, Hint.at_ 1 0)] },
  { dst := some 57, op := POp.load true 4 (Operand.tmp 1), guard := some (55, true), hints := [(1, Hint.at_ 1 0)] },
  { dst := some 58, op := POp.call false [[], []] 35 [Operand.tmp 56, Operand.tmp 57], guard := some (55, true), hints := [(56, Hint.imm), (57, Hint.imm)] },
  { dst := some 59, op := POp.pick (Operand.tmp 55) (Operand.tmp 58) (Operand.const (Value.bool false)), guard := none, hints := [(55, Hint.imm), (58, Hint.imm)] },
  { dst := some 0, op := POp.mv (Operand.tmp 59), guard := none, hints := [(59, Hint.imm)] }]
def pc19_c3 : PCode := .region none true pc19_o3
def pc19_c4 : PCode := .ret
def pc19_c5 : PCode := .seq pc19_c3 pc19_c4
def pc19_c6 : PCode := .seq pc19_c2 pc19_c5
def pc19_c7 : PCode := .seq pc19_c1 pc19_c6
def pc19_r : List PRes := [PRes.tmp 0 []]
def pc19 : PFunc := ⟨60, pc19_r, pc19_c7⟩
def pc19_a : Ann := {
  kr := fun
    | _ => none
  ka := fun
    | _ => 0
  kh := fun
    | 1 => some (Hint.at_ 1 0)
    | 2 => some (Hint.at_ 2 0)
    | 5 => some (Hint.imm)
    | 6 => some (Hint.imm)
    | 7 => some (Hint.imm)
    | 8 => some (Hint.imm)
    | 9 => some (Hint.imm)
    | 10 => some (Hint.imm)
    | 11 => some (Hint.imm)
    | 12 => some (Hint.imm)
    | 13 => some (Hint.imm)
    | 14 => some (Hint.imm)
    | 15 => some (Hint.imm)
    | 16 => some (Hint.imm)
    | 17 => some (Hint.imm)
    | 18 => some (Hint.imm)
    | 19 => some (Hint.imm)
    | 20 => some (Hint.imm)
    | 21 => some (Hint.imm)
    | 22 => some (Hint.imm)
    | 23 => some (Hint.imm)
    | 24 => some (Hint.imm)
    | 25 => some (Hint.imm)
    | 26 => some (Hint.imm)
    | 27 => some (Hint.imm)
    | 28 => some (Hint.imm)
    | 29 => some (Hint.imm)
    | 30 => some (Hint.imm)
    | 31 => some (Hint.imm)
    | 32 => some (Hint.imm)
    | 33 => some (Hint.imm)
    | 34 => some (Hint.imm)
    | 35 => some (Hint.imm)
    | 36 => some (Hint.imm)
    | 37 => some (Hint.imm)
    | 38 => some (Hint.imm)
    | 39 => some (Hint.imm)
    | 40 => some (Hint.imm)
    | 41 => some (Hint.imm)
    | 42 => some (Hint.imm)
    | 43 => some (Hint.imm)
    | 44 => some (Hint.imm)
    | 45 => some (Hint.imm)
    | 46 => some (Hint.imm)
    | 47 => some (Hint.imm)
    | 48 => some (Hint.imm)
    | 49 => some (Hint.imm)
    | 50 => some (Hint.imm)
    | 51 => some (Hint.imm)
    | 52 => some (Hint.imm)
    | 53 => some (Hint.imm)
    | 54 => some (Hint.imm)
    | 55 => some (Hint.imm)
    | 56 => some (Hint.imm)
    | 57 => some (Hint.imm)
    | 58 => some (Hint.imm)
    | 59 => some (Hint.imm)
    | _ => none }
theorem pc19_ok : compFn Try.prog pc19_a Try.f19 = some pc19 := by kernel_rfl


-- 20: vedette/vedettelaw3.few
def pc20_o1 : List POper := [{ dst := some 1, op := POp.box 35 (Operand.tmp 0), guard := none, hints := [] },
  { dst := some 2, op := POp.mv (Operand.const (Value.bool false)), guard := none, hints := [] }]
def pc20_c1 : PCode := .region none false pc20_o1
def pc20_o2 : List POper := [{ dst := some 3, op := POp.faddr 0 (Operand.tmp 1), guard := none, hints := [] },
  { dst := some 4, op := POp.load false 1 (Operand.tmp 3), guard := none, hints := [] },
  { dst := some 5, op := POp.faddr 1 (Operand.tmp 1), guard := none, hints := [] },
  { dst := some 6, op := POp.load false 1 (Operand.tmp 5), guard := none, hints := [] },
  { dst := some 7, op := POp.faddr 2 (Operand.tmp 1), guard := none, hints := [] },
  { dst := some 8, op := POp.load false 1 (Operand.tmp 7), guard := none, hints := [] },
  { dst := some 9, op := POp.faddr 3 (Operand.tmp 1), guard := none, hints := [] },
  { dst := some 10, op := POp.load false 1 (Operand.tmp 9), guard := none, hints := [] },
  { dst := some 11, op := POp.prim Prim.min [Operand.tmp 4, Operand.tmp 6, Operand.tmp 8, Operand.tmp 10], guard := none, hints := [] },
  { dst := some 12, op := POp.prim (Prim.bin BinOp.geq 3 false true) [Operand.tmp 11, Operand.const (Value.int IntKind.i64 (-1000000))], guard := none, hints := [] },
  { dst := some 13, op := POp.mv (Operand.tmp 12), guard := none, hints := [] },
  { dst := some 14, op := POp.faddr 0 (Operand.tmp 1), guard := some (13, true), hints := [] },
  { dst := some 15, op := POp.load false 1 (Operand.tmp 14), guard := some (13, true), hints := [] },
  { dst := some 16, op := POp.faddr 1 (Operand.tmp 1), guard := some (13, true), hints := [] },
  { dst := some 17, op := POp.load false 1 (Operand.tmp 16), guard := some (13, true), hints := [] },
  { dst := some 18, op := POp.faddr 2 (Operand.tmp 1), guard := some (13, true), hints := [] },
  { dst := some 19, op := POp.load false 1 (Operand.tmp 18), guard := some (13, true), hints := [] },
  { dst := some 20, op := POp.faddr 3 (Operand.tmp 1), guard := some (13, true), hints := [] },
  { dst := some 21, op := POp.load false 1 (Operand.tmp 20), guard := some (13, true), hints := [] },
  { dst := some 22, op := POp.prim Prim.max [Operand.tmp 15, Operand.tmp 17, Operand.tmp 19, Operand.tmp 21], guard := some (13, true), hints := [] },
  { dst := some 23, op := POp.prim (Prim.bin BinOp.leq 3 false true) [Operand.tmp 22, Operand.const (Value.int IntKind.i64 1000000)], guard := some (13, true), hints := [] },
  { dst := some 24, op := POp.pick (Operand.tmp 13) (Operand.tmp 23) (Operand.const (Value.bool false)), guard := none, hints := [] },
  { dst := some 2, op := POp.mv (Operand.tmp 24), guard := none, hints := [] }]
def pc20_c2 : PCode := .region none false pc20_o2
def pc20_c3 : PCode := .ret
def pc20_c4 : PCode := .seq pc20_c2 pc20_c3
def pc20_c5 : PCode := .seq pc20_c1 pc20_c4
def pc20_r : List PRes := [PRes.tmp 2 []]
def pc20 : PFunc := ⟨25, pc20_r, pc20_c5⟩
def pc20_a : Ann := {
  kr := fun
    | _ => none
  ka := fun
    | _ => 0
  kh := fun
    | _ => none }
theorem pc20_ok : compFn Try.prog pc20_a Try.f20 = some pc20 := by kernel_rfl


-- 28: vedette/vedetteref3.Empty
def pc28_o1 : List POper := [{ dst := some 1, op := POp.box 35 (Operand.tmp 0), guard := none, hints := [] },
  { dst := some 2, op := POp.mv (Operand.const (Value.bool false)), guard := none, hints := [] }]
def pc28_c1 : PCode := .region none false pc28_o1
def pc28_o2 : List POper := [{ dst := some 3, op := POp.faddr 0 (Operand.tmp 1), guard := none, hints := [] },
  { dst := some 4, op := POp.load false 1 (Operand.tmp 3), guard := none, hints := [] },
  { dst := some 5, op := POp.faddr 2 (Operand.tmp 1), guard := none, hints := [] },
  { dst := some 6, op := POp.load false 1 (Operand.tmp 5), guard := none, hints := [] },
  { dst := some 7, op := POp.prim (Prim.bin BinOp.geq 3 false false) [Operand.tmp 4, Operand.tmp 6], guard := none, hints := [] },
  { dst := some 8, op := POp.mv (Operand.tmp 7), guard := none, hints := [] },
  { dst := some 9, op := POp.faddr 1 (Operand.tmp 1), guard := some (8, false), hints := [] },
  { dst := some 10, op := POp.load false 1 (Operand.tmp 9), guard := some (8, false), hints := [] },
  { dst := some 11, op := POp.faddr 3 (Operand.tmp 1), guard := some (8, false), hints := [] },
  { dst := some 12, op := POp.load false 1 (Operand.tmp 11), guard := some (8, false), hints := [] },
  { dst := some 13, op := POp.prim (Prim.bin BinOp.geq 3 false false) [Operand.tmp 10, Operand.tmp 12], guard := some (8, false), hints := [] },
  { dst := some 14, op := POp.pick (Operand.tmp 8) (Operand.const (Value.bool true)) (Operand.tmp 13), guard := none, hints := [] },
  { dst := some 2, op := POp.mv (Operand.tmp 14), guard := none, hints := [] }]
def pc28_c2 : PCode := .region none false pc28_o2
def pc28_c3 : PCode := .ret
def pc28_c4 : PCode := .seq pc28_c2 pc28_c3
def pc28_c5 : PCode := .seq pc28_c1 pc28_c4
def pc28_r : List PRes := [PRes.tmp 2 []]
def pc28 : PFunc := ⟨15, pc28_r, pc28_c5⟩
def pc28_a : Ann := {
  kr := fun
    | _ => none
  ka := fun
    | _ => 0
  kh := fun
    | _ => none }
theorem pc28_ok : compFn Try.prog pc28_a Try.f28 = some pc28 := by kernel_rfl


-- 32: vedette/vedetteref3.Meet
def pc32_o1 : List POper := [{ dst := some 2, op := POp.box 35 (Operand.tmp 0), guard := none, hints := [] },
  { dst := some 3, op := POp.box 35 (Operand.tmp 1), guard := none, hints := [] },
  { dst := some 4, op := POp.alloc 35 (Value.agg { toList := [Value.int IntKind.i64 0, Value.int IntKind.i64 0, Value.int IntKind.i64 0, Value.int IntKind.i64 0] }), guard := none, hints := [] }]
def pc32_c1 : PCode := .region none false pc32_o1
def pc32_o2 : List POper := [{ dst := some 6, op := POp.faddr 0 (Operand.tmp 2), guard := none, hints := [] },
  { dst := some 7, op := POp.load false 1 (Operand.tmp 6), guard := none, hints := [] },
  { dst := some 8, op := POp.faddr 0 (Operand.tmp 3), guard := none, hints := [] },
  { dst := some 9, op := POp.load false 1 (Operand.tmp 8), guard := none, hints := [] },
  { dst := some 10, op := POp.prim Prim.max [Operand.tmp 7, Operand.tmp 9], guard := none, hints := [] },
  { dst := some 11, op := POp.faddr 1 (Operand.tmp 2), guard := none, hints := [] },
  { dst := some 12, op := POp.load false 1 (Operand.tmp 11), guard := none, hints := [] },
  { dst := some 13, op := POp.faddr 1 (Operand.tmp 3), guard := none, hints := [] },
  { dst := some 14, op := POp.load false 1 (Operand.tmp 13), guard := none, hints := [] },
  { dst := some 15, op := POp.prim Prim.max [Operand.tmp 12, Operand.tmp 14], guard := none, hints := [] },
  { dst := some 16, op := POp.faddr 2 (Operand.tmp 2), guard := none, hints := [] },
  { dst := some 17, op := POp.load false 1 (Operand.tmp 16), guard := none, hints := [] },
  { dst := some 18, op := POp.faddr 2 (Operand.tmp 3), guard := none, hints := [] },
  { dst := some 19, op := POp.load false 1 (Operand.tmp 18), guard := none, hints := [] },
  { dst := some 20, op := POp.prim Prim.min [Operand.tmp 17, Operand.tmp 19], guard := none, hints := [] },
  { dst := some 21, op := POp.faddr 3 (Operand.tmp 2), guard := none, hints := [] },
  { dst := some 22, op := POp.load false 1 (Operand.tmp 21), guard := none, hints := [] },
  { dst := some 23, op := POp.faddr 3 (Operand.tmp 3), guard := none, hints := [] },
  { dst := some 24, op := POp.load false 1 (Operand.tmp 23), guard := none, hints := [] },
  { dst := some 25, op := POp.prim Prim.min [Operand.tmp 22, Operand.tmp 24], guard := none, hints := [] },
  { dst := some 26, op := POp.build (Value.agg { toList := [Value.int IntKind.i64 0, Value.int IntKind.i64 0, Value.int IntKind.i64 0, Value.int IntKind.i64 0] }) [(0, 1, Operand.tmp 10), (1, 1, Operand.tmp 15), (2, 1, Operand.tmp 20), (3, 1, Operand.tmp 25)], guard := none, hints := [] },
  { dst := some 5, op := POp.alloc 35 (Value.agg { toList := [Value.int IntKind.i64 0, Value.int IntKind.i64 0, Value.int IntKind.i64 0, Value.int IntKind.i64 0] }), guard := none, hints := [] },
  { dst := none, op := POp.store 4 (Operand.tmp 5) (Operand.tmp 26), guard := none, hints := [] }]
def pc32_c2 : PCode := .region none false pc32_o2
def pc32_o3 : List POper := [{ dst := some 27, op := POp.load true 4 (Operand.tmp 5), guard := none, hints := [] },
  { dst := some 28, op := POp.call true [[]] 28 [Operand.tmp 27], guard := none, hints := [] }]
def pc32_c3 : PCode := .region none false pc32_o3
def pc32_o4 : List POper := [{ dst := some 29, op := POp.build (Value.agg { toList := [Value.int IntKind.i64 0, Value.int IntKind.i64 0, Value.int IntKind.i64 0, Value.int IntKind.i64 0] }) [], guard := none, hints := [] },
  { dst := none, op := POp.store 4 (Operand.tmp 4) (Operand.tmp 29), guard := none, hints := [] }]
def pc32_c4 : PCode := .region none false pc32_o4
def pc32_c5 : PCode := .ret
def pc32_c6 : PCode := .seq pc32_c4 pc32_c5
def pc32_c7 : PCode := .skip
def pc32_c8 : PCode := .cond (Operand.tmp 28) pc32_c6 pc32_c7
def pc32_c9 : PCode := .seq pc32_c3 pc32_c8
def pc32_o10 : List POper := [{ dst := some 30, op := POp.load true 4 (Operand.tmp 5), guard := none, hints := [] },
  { dst := none, op := POp.store 4 (Operand.tmp 4) (Operand.tmp 30), guard := none, hints := [] }]
def pc32_c10 : PCode := .region none false pc32_o10
def pc32_c11 : PCode := .ret
def pc32_c12 : PCode := .seq pc32_c10 pc32_c11
def pc32_c13 : PCode := .seq pc32_c9 pc32_c12
def pc32_c14 : PCode := .seq pc32_c2 pc32_c13
def pc32_c15 : PCode := .seq pc32_c1 pc32_c14
def pc32_r : List PRes := [PRes.cell 4 true 4 []]
def pc32 : PFunc := ⟨31, pc32_r, pc32_c15⟩
def pc32_a : Ann := {
  kr := fun
    | _ => none
  ka := fun
    | _ => 0
  kh := fun
    | _ => none }
theorem pc32_ok : compFn Try.prog pc32_a Try.f32 = some pc32 := by kernel_rfl


-- 22: vedette/vedetteref3.Minus
def pc22_o1 : List POper := [{ dst := some 2, op := POp.box 35 (Operand.tmp 0), guard := none, hints := [] },
  { dst := some 3, op := POp.box 35 (Operand.tmp 1), guard := none, hints := [] },
  { dst := some 4, op := POp.mv (Operand.const (Value.slice none 0 0)), guard := none, hints := [] }]
def pc22_c1 : PCode := .region none false pc22_o1
def pc22_o2 : List POper := [{ dst := some 9, op := POp.load true 4 (Operand.tmp 2), guard := none, hints := [] },
  { dst := some 10, op := POp.call true [[]] 28 [Operand.tmp 9], guard := none, hints := [] }]
def pc22_c2 : PCode := .region none false pc22_o2
def pc22_o3 : List POper := [{ dst := some 4, op := POp.mv (Operand.const (Value.slice none 0 0)), guard := none, hints := [] }]
def pc22_c3 : PCode := .region none false pc22_o3
def pc22_c4 : PCode := .ret
def pc22_c5 : PCode := .seq pc22_c3 pc22_c4
def pc22_c6 : PCode := .skip
def pc22_c7 : PCode := .cond (Operand.tmp 10) pc22_c5 pc22_c6
def pc22_c8 : PCode := .seq pc22_c2 pc22_c7
def pc22_o9 : List POper := [{ dst := some 11, op := POp.load true 4 (Operand.tmp 2), guard := none, hints := [] },
  { dst := some 12, op := POp.load true 4 (Operand.tmp 3), guard := none, hints := [] },
  { dst := some 13, op := POp.call true [[], []] 32 [Operand.tmp 11, Operand.tmp 12], guard := none, hints := [] },
  { dst := some 5, op := POp.alloc 35 (Value.agg { toList := [Value.int IntKind.i64 0, Value.int IntKind.i64 0, Value.int IntKind.i64 0, Value.int IntKind.i64 0] }), guard := none, hints := [] },
  { dst := none, op := POp.store 4 (Operand.tmp 5) (Operand.tmp 13), guard := none, hints := [] }]
def pc22_c9 : PCode := .region none false pc22_o9
def pc22_o10 : List POper := [{ dst := some 14, op := POp.load true 4 (Operand.tmp 5), guard := none, hints := [] },
  { dst := some 15, op := POp.call true [[]] 28 [Operand.tmp 14], guard := none, hints := [] }]
def pc22_c10 : PCode := .region none false pc22_o10
def pc22_o11 : List POper := [{ dst := some 16, op := POp.load true 4 (Operand.tmp 2), guard := none, hints := [] },
  { dst := some 17, op := POp.bslice 35 4 [Operand.tmp 16], guard := none, hints := [] },
  { dst := some 4, op := POp.mv (Operand.tmp 17), guard := none, hints := [] }]
def pc22_c11 : PCode := .region none false pc22_o11
def pc22_c12 : PCode := .ret
def pc22_c13 : PCode := .seq pc22_c11 pc22_c12
def pc22_c14 : PCode := .skip
def pc22_c15 : PCode := .cond (Operand.tmp 15) pc22_c13 pc22_c14
def pc22_c16 : PCode := .seq pc22_c10 pc22_c15
def pc22_o17 : List POper := [{ dst := some 18, op := POp.faddr 0 (Operand.tmp 2), guard := none, hints := [] },
  { dst := some 19, op := POp.load false 1 (Operand.tmp 18), guard := none, hints := [] },
  { dst := some 20, op := POp.faddr 1 (Operand.tmp 2), guard := none, hints := [] },
  { dst := some 21, op := POp.load false 1 (Operand.tmp 20), guard := none, hints := [] },
  { dst := some 22, op := POp.faddr 2 (Operand.tmp 2), guard := none, hints := [] },
  { dst := some 23, op := POp.load false 1 (Operand.tmp 22), guard := none, hints := [] },
  { dst := some 24, op := POp.faddr 1 (Operand.tmp 5), guard := none, hints := [] },
  { dst := some 25, op := POp.load false 1 (Operand.tmp 24), guard := none, hints := [] },
  { dst := some 26, op := POp.build (Value.agg { toList := [Value.int IntKind.i64 0, Value.int IntKind.i64 0, Value.int IntKind.i64 0, Value.int IntKind.i64 0] }) [(0, 1, Operand.tmp 19), (1, 1, Operand.tmp 21), (2, 1, Operand.tmp 23), (3, 1, Operand.tmp 25)], guard := none, hints := [] },
  { dst := some 27, op := POp.faddr 0 (Operand.tmp 2), guard := none, hints := [] },
  { dst := some 28, op := POp.load false 1 (Operand.tmp 27), guard := none, hints := [] },
  { dst := some 29, op := POp.faddr 3 (Operand.tmp 5), guard := none, hints := [] },
  { dst := some 30, op := POp.load false 1 (Operand.tmp 29), guard := none, hints := [] },
  { dst := some 31, op := POp.faddr 2 (Operand.tmp 2), guard := none, hints := [] },
  { dst := some 32, op := POp.load false 1 (Operand.tmp 31), guard := none, hints := [] },
  { dst := some 33, op := POp.faddr 3 (Operand.tmp 2), guard := none, hints := [] },
  { dst := some 34, op := POp.load false 1 (Operand.tmp 33), guard := none, hints := [] },
  { dst := some 35, op := POp.build (Value.agg { toList := [Value.int IntKind.i64 0, Value.int IntKind.i64 0, Value.int IntKind.i64 0, Value.int IntKind.i64 0] }) [(0, 1, Operand.tmp 28), (1, 1, Operand.tmp 30), (2, 1, Operand.tmp 32), (3, 1, Operand.tmp 34)], guard := none, hints := [] },
  { dst := some 36, op := POp.faddr 0 (Operand.tmp 2), guard := none, hints := [] },
  { dst := some 37, op := POp.load false 1 (Operand.tmp 36), guard := none, hints := [] },
  { dst := some 38, op := POp.faddr 1 (Operand.tmp 5), guard := none, hints := [] },
  { dst := some 39, op := POp.load false 1 (Operand.tmp 38), guard := none, hints := [] },
  { dst := some 40, op := POp.faddr 0 (Operand.tmp 5), guard := none, hints := [] },
  { dst := some 41, op := POp.load false 1 (Operand.tmp 40), guard := none, hints := [] },
  { dst := some 42, op := POp.faddr 3 (Operand.tmp 5), guard := none, hints := [] },
  { dst := some 43, op := POp.load false 1 (Operand.tmp 42), guard := none, hints := [] },
  { dst := some 44, op := POp.build (Value.agg { toList := [Value.int IntKind.i64 0, Value.int IntKind.i64 0, Value.int IntKind.i64 0, Value.int IntKind.i64 0] }) [(0, 1, Operand.tmp 37), (1, 1, Operand.tmp 39), (2, 1, Operand.tmp 41), (3, 1, Operand.tmp 43)], guard := none, hints := [] },
  { dst := some 45, op := POp.faddr 2 (Operand.tmp 5), guard := none, hints := [] },
  { dst := some 46, op := POp.load false 1 (Operand.tmp 45), guard := none, hints := [] },
  { dst := some 47, op := POp.faddr 1 (Operand.tmp 5), guard := none, hints := [] },
  { dst := some 48, op := POp.load false 1 (Operand.tmp 47), guard := none, hints := [] },
  { dst := some 49, op := POp.faddr 2 (Operand.tmp 2), guard := none, hints := [] },
  { dst := some 50, op := POp.load false 1 (Operand.tmp 49), guard := none, hints := [] },
  { dst := some 51, op := POp.faddr 3 (Operand.tmp 5), guard := none, hints := [] },
  { dst := some 52, op := POp.load false 1 (Operand.tmp 51), guard := none, hints := [] },
  { dst := some 53, op := POp.build (Value.agg { toList := [Value.int IntKind.i64 0, Value.int IntKind.i64 0, Value.int IntKind.i64 0, Value.int IntKind.i64 0] }) [(0, 1, Operand.tmp 46), (1, 1, Operand.tmp 48), (2, 1, Operand.tmp 50), (3, 1, Operand.tmp 52)], guard := none, hints := [] },
  { dst := some 54, op := POp.build (Value.agg { toList := [Value.int IntKind.i64 0, Value.int IntKind.i64 0, Value.int IntKind.i64 0, Value.int IntKind.i64 0, Value.int IntKind.i64 0, Value.int IntKind.i64 0, Value.int IntKind.i64 0, Value.int IntKind.i64 0, Value.int IntKind.i64 0, Value.int IntKind.i64 0, Value.int IntKind.i64 0, Value.int IntKind.i64 0, Value.int IntKind.i64 0, Value.int IntKind.i64 0, Value.int IntKind.i64 0, Value.int IntKind.i64 0] }) [(0, 4, Operand.tmp 26), (4, 4, Operand.tmp 35), (8, 4, Operand.tmp 44), (12, 4, Operand.tmp 53)], guard := none, hints := [] },
  { dst := some 6, op := POp.alloc 52 (Value.agg { toList := [Value.int IntKind.i64 0, Value.int IntKind.i64 0, Value.int IntKind.i64 0, Value.int IntKind.i64 0, Value.int IntKind.i64 0, Value.int IntKind.i64 0, Value.int IntKind.i64 0, Value.int IntKind.i64 0, Value.int IntKind.i64 0, Value.int IntKind.i64 0, Value.int IntKind.i64 0, Value.int IntKind.i64 0, Value.int IntKind.i64 0, Value.int IntKind.i64 0, Value.int IntKind.i64 0, Value.int IntKind.i64 0] }), guard := none, hints := [] },
  { dst := none, op := POp.store 16 (Operand.tmp 6) (Operand.tmp 54), guard := none, hints := [] }]
def pc22_c17 : PCode := .region none false pc22_o17
def pc22_o18 : List POper := [{ dst := some 7, op := POp.mv (Operand.const (Value.slice none 0 0)), guard := none, hints := [] }]
def pc22_c18 : PCode := .region none false pc22_o18
def pc22_o19 : List POper := [{ dst := some 8, op := POp.mv (Operand.const (Value.int IntKind.i64 0)), guard := none, hints := [] }]
def pc22_c19 : PCode := .region none false pc22_o19
def pc22_o20 : List POper := [{ dst := some 55, op := POp.mv (Operand.tmp 8), guard := none, hints := [] },
  { dst := some 56, op := POp.prim (Prim.bin BinOp.lss 3 false true) [Operand.tmp 55, Operand.const (Value.int IntKind.i64 4)], guard := none, hints := [] }]
def pc22_c20 : PCode := .region (some ([6, 7, 8], [2, 3, 5, 6, 100007])) false pc22_o20
def pc22_c21 : PCode := .skip
def pc22_c22 : PCode := .exit 0
def pc22_c23 : PCode := .cond (Operand.tmp 56) pc22_c21 pc22_c22
def pc22_c24 : PCode := .seq pc22_c20 pc22_c23
def pc22_o25 : List POper := [{ dst := some 59, op := POp.mv (Operand.tmp 8), guard := none, hints := [] },
  { dst := some 60, op := POp.iaddrA 4 4 (Operand.tmp 6) (Operand.tmp 59), guard := none, hints := [] },
  { dst := some 61, op := POp.load true 4 (Operand.tmp 60), guard := none, hints := [] },
  { dst := some 62, op := POp.call true [[]] 28 [Operand.tmp 61], guard := none, hints := [] },
  { dst := some 63, op := POp.prim (Prim.un UnOp.not) [Operand.tmp 62], guard := none, hints := [] }]
def pc22_c25 : PCode := .region none false pc22_o25
def pc22_o26 : List POper := [{ dst := some 64, op := POp.mv (Operand.tmp 7), guard := none, hints := [] },
  { dst := some 65, op := POp.mv (Operand.tmp 8), guard := none, hints := [] },
  { dst := some 66, op := POp.iaddrA 4 4 (Operand.tmp 6) (Operand.tmp 65), guard := none, hints := [] },
  { dst := some 67, op := POp.load true 4 (Operand.tmp 66), guard := none, hints := [] },
  { dst := some 68, op := POp.bslice 35 4 [Operand.tmp 67], guard := none, hints := [] },
  { dst := some 69, op := POp.app 100007 35 4 32 (Operand.tmp 64) (Operand.tmp 68), guard := none, hints := [] },
  { dst := some 7, op := POp.mv (Operand.tmp 69), guard := none, hints := [] }]
def pc22_c26 : PCode := .region none false pc22_o26
def pc22_c27 : PCode := .skip
def pc22_c28 : PCode := .cond (Operand.tmp 63) pc22_c26 pc22_c27
def pc22_c29 : PCode := .seq pc22_c25 pc22_c28
def pc22_c30 : PCode := .block 1 pc22_c29
def pc22_o31 : List POper := [{ dst := some 57, op := POp.mv (Operand.tmp 8), guard := none, hints := [] },
  { dst := some 58, op := POp.prim (Prim.bin BinOp.add 3 false true) [Operand.tmp 57, Operand.const (Value.int IntKind.i64 1)], guard := none, hints := [] },
  { dst := some 8, op := POp.mv (Operand.tmp 58), guard := none, hints := [] }]
def pc22_c31 : PCode := .region none false pc22_o31
def pc22_c32 : PCode := .seq pc22_c30 pc22_c31
def pc22_c33 : PCode := .seq pc22_c24 pc22_c32
def pc22_c34 : PCode := .loop pc22_c33
def pc22_c35 : PCode := .block 0 pc22_c34
def pc22_c36 : PCode := .seq pc22_c19 pc22_c35
def pc22_o37 : List POper := [{ dst := some 70, op := POp.mv (Operand.tmp 7), guard := none, hints := [] },
  { dst := some 4, op := POp.mv (Operand.tmp 70), guard := none, hints := [] }]
def pc22_c37 : PCode := .region none false pc22_o37
def pc22_c38 : PCode := .ret
def pc22_c39 : PCode := .seq pc22_c37 pc22_c38
def pc22_c40 : PCode := .seq pc22_c36 pc22_c39
def pc22_c41 : PCode := .seq pc22_c18 pc22_c40
def pc22_c42 : PCode := .seq pc22_c17 pc22_c41
def pc22_c43 : PCode := .seq pc22_c16 pc22_c42
def pc22_c44 : PCode := .seq pc22_c9 pc22_c43
def pc22_c45 : PCode := .seq pc22_c8 pc22_c44
def pc22_c46 : PCode := .seq pc22_c1 pc22_c45
def pc22_r : List PRes := [PRes.tmp 4 [(0, 4)]]
def pc22 : PFunc := ⟨71, pc22_r, pc22_c46⟩
def pc22_a : Ann := {
  kr := fun
    | 9 => some ([6, 7, 8], [2, 3, 5, 6, 100007])
    | _ => none
  ka := fun
    | 69 => 100007
    | _ => 0
  kh := fun
    | _ => none }
theorem pc22_ok : compFn Try.prog pc22_a Try.f22 = some pc22 := by kernel_rfl


-- 24: vedette/vedetteref3.On
def pc24_o1 : List POper := [{ dst := some 1, op := POp.box 37 (Operand.tmp 0), guard := none, hints := [] },
  { dst := some 2, op := POp.mv (Operand.const (Value.bool false)), guard := none, hints := [] }]
def pc24_c1 : PCode := .region none false pc24_o1
def pc24_o2 : List POper := [{ dst := some 3, op := POp.faddr 0 (Operand.tmp 1), guard := none, hints := [] },
  { dst := some 4, op := POp.load false 1 (Operand.tmp 3), guard := none, hints := [] },
  { dst := some 5, op := POp.prim (Prim.bin BinOp.geq 3 false true) [Operand.tmp 4, Operand.const (Value.int IntKind.i64 0)], guard := none, hints := [] },
  { dst := some 6, op := POp.mv (Operand.tmp 5), guard := none, hints := [] },
  { dst := some 7, op := POp.faddr 0 (Operand.tmp 1), guard := some (6, true), hints := [] },
  { dst := some 8, op := POp.load false 1 (Operand.tmp 7), guard := some (6, true), hints := [] },
  { dst := some 9, op := POp.prim (Prim.bin BinOp.lss 3 false true) [Operand.tmp 8, Operand.const (Value.int IntKind.i64 64)], guard := some (6, true), hints := [] },
  { dst := some 10, op := POp.pick (Operand.tmp 6) (Operand.tmp 9) (Operand.const (Value.bool false)), guard := none, hints := [] },
  { dst := some 11, op := POp.mv (Operand.tmp 10), guard := none, hints := [] },
  { dst := some 12, op := POp.faddr 1 (Operand.tmp 1), guard := some (11, true), hints := [] },
  { dst := some 13, op := POp.load false 1 (Operand.tmp 12), guard := some (11, true), hints := [] },
  { dst := some 14, op := POp.prim (Prim.bin BinOp.geq 3 false true) [Operand.tmp 13, Operand.const (Value.int IntKind.i64 0)], guard := some (11, true), hints := [] },
  { dst := some 15, op := POp.pick (Operand.tmp 11) (Operand.tmp 14) (Operand.const (Value.bool false)), guard := none, hints := [] },
  { dst := some 16, op := POp.mv (Operand.tmp 15), guard := none, hints := [] },
  { dst := some 17, op := POp.faddr 1 (Operand.tmp 1), guard := some (16, true), hints := [] },
  { dst := some 18, op := POp.load false 1 (Operand.tmp 17), guard := some (16, true), hints := [] },
  { dst := some 19, op := POp.prim (Prim.bin BinOp.lss 3 false true) [Operand.tmp 18, Operand.const (Value.int IntKind.i64 64)], guard := some (16, true), hints := [] },
  { dst := some 20, op := POp.pick (Operand.tmp 16) (Operand.tmp 19) (Operand.const (Value.bool false)), guard := none, hints := [] },
  { dst := some 2, op := POp.mv (Operand.tmp 20), guard := none, hints := [] }]
def pc24_c2 : PCode := .region none false pc24_o2
def pc24_c3 : PCode := .ret
def pc24_c4 : PCode := .seq pc24_c2 pc24_c3
def pc24_c5 : PCode := .seq pc24_c1 pc24_c4
def pc24_r : List PRes := [PRes.tmp 2 []]
def pc24 : PFunc := ⟨21, pc24_r, pc24_c5⟩
def pc24_a : Ann := {
  kr := fun
    | _ => none
  ka := fun
    | _ => 0
  kh := fun
    | _ => none }
theorem pc24_ok : compFn Try.prog pc24_a Try.f24 = some pc24 := by kernel_rfl


-- 26: vedette/vedetteref3.Is
def pc26_o1 : List POper := [{ dst := some 1, op := POp.box 35 (Operand.tmp 0), guard := none, hints := [] },
  { dst := some 2, op := POp.mv (Operand.const (Value.bool false)), guard := none, hints := [] }]
def pc26_c1 : PCode := .region none false pc26_o1
def pc26_o2 : List POper := [{ dst := some 3, op := POp.faddr 0 (Operand.tmp 1), guard := none, hints := [] },
  { dst := some 4, op := POp.load false 1 (Operand.tmp 3), guard := none, hints := [] },
  { dst := some 5, op := POp.prim (Prim.bin BinOp.leq 3 true false) [Operand.const (Value.int IntKind.i64 0), Operand.tmp 4], guard := none, hints := [] },
  { dst := some 6, op := POp.mv (Operand.tmp 5), guard := none, hints := [] },
  { dst := some 7, op := POp.faddr 0 (Operand.tmp 1), guard := some (6, true), hints := [] },
  { dst := some 8, op := POp.load false 1 (Operand.tmp 7), guard := some (6, true), hints := [] },
  { dst := some 9, op := POp.faddr 2 (Operand.tmp 1), guard := some (6, true), hints := [] },
  { dst := some 10, op := POp.load false 1 (Operand.tmp 9), guard := some (6, true), hints := [] },
  { dst := some 11, op := POp.prim (Prim.bin BinOp.leq 3 false false) [Operand.tmp 8, Operand.tmp 10], guard := some (6, true), hints := [] },
  { dst := some 12, op := POp.pick (Operand.tmp 6) (Operand.tmp 11) (Operand.const (Value.bool false)), guard := none, hints := [] },
  { dst := some 13, op := POp.mv (Operand.tmp 12), guard := none, hints := [] },
  { dst := some 14, op := POp.faddr 2 (Operand.tmp 1), guard := some (13, true), hints := [] },
  { dst := some 15, op := POp.load false 1 (Operand.tmp 14), guard := some (13, true), hints := [] },
  { dst := some 16, op := POp.prim (Prim.bin BinOp.leq 3 false true) [Operand.tmp 15, Operand.const (Value.int IntKind.i64 64)], guard := some (13, true), hints := [] },
  { dst := some 17, op := POp.pick (Operand.tmp 13) (Operand.tmp 16) (Operand.const (Value.bool false)), guard := none, hints := [] },
  { dst := some 18, op := POp.mv (Operand.tmp 17), guard := none, hints := [] },
  { dst := some 19, op := POp.faddr 1 (Operand.tmp 1), guard := some (18, true), hints := [] },
  { dst := some 20, op := POp.load false 1 (Operand.tmp 19), guard := some (18, true), hints := [] },
  { dst := some 21, op := POp.prim (Prim.bin BinOp.leq 3 true false) [Operand.const (Value.int IntKind.i64 0), Operand.tmp 20], guard := some (18, true), hints := [] },
  { dst := some 22, op := POp.pick (Operand.tmp 18) (Operand.tmp 21) (Operand.const (Value.bool false)), guard := none, hints := [] },
  { dst := some 23, op := POp.mv (Operand.tmp 22), guard := none, hints := [] },
  { dst := some 24, op := POp.faddr 1 (Operand.tmp 1), guard := some (23, true), hints := [] },
  { dst := some 25, op := POp.load false 1 (Operand.tmp 24), guard := some (23, true), hints := [] },
  { dst := some 26, op := POp.faddr 3 (Operand.tmp 1), guard := some (23, true), hints := [] },
  { dst := some 27, op := POp.load false 1 (Operand.tmp 26), guard := some (23, true), hints := [] },
  { dst := some 28, op := POp.prim (Prim.bin BinOp.leq 3 false false) [Operand.tmp 25, Operand.tmp 27], guard := some (23, true), hints := [] },
  { dst := some 29, op := POp.pick (Operand.tmp 23) (Operand.tmp 28) (Operand.const (Value.bool false)), guard := none, hints := [] },
  { dst := some 30, op := POp.mv (Operand.tmp 29), guard := none, hints := [] },
  { dst := some 31, op := POp.faddr 3 (Operand.tmp 1), guard := some (30, true), hints := [] },
  { dst := some 32, op := POp.load false 1 (Operand.tmp 31), guard := some (30, true), hints := [] },
  { dst := some 33, op := POp.prim (Prim.bin BinOp.leq 3 false true) [Operand.tmp 32, Operand.const (Value.int IntKind.i64 64)], guard := some (30, true), hints := [] },
  { dst := some 34, op := POp.pick (Operand.tmp 30) (Operand.tmp 33) (Operand.const (Value.bool false)), guard := none, hints := [] },
  { dst := some 2, op := POp.mv (Operand.tmp 34), guard := none, hints := [] }]
def pc26_c2 : PCode := .region none false pc26_o2
def pc26_c3 : PCode := .ret
def pc26_c4 : PCode := .seq pc26_c2 pc26_c3
def pc26_c5 : PCode := .seq pc26_c1 pc26_c4
def pc26_r : List PRes := [PRes.tmp 2 []]
def pc26 : PFunc := ⟨35, pc26_r, pc26_c5⟩
def pc26_a : Ann := {
  kr := fun
    | _ => none
  ka := fun
    | _ => 0
  kh := fun
    | _ => none }
theorem pc26_ok : compFn Try.prog pc26_a Try.f26 = some pc26 := by kernel_rfl


-- 30: vedette/vedetteref3.In
def pc30_o1 : List POper := [{ dst := some 2, op := POp.box 35 (Operand.tmp 0), guard := none, hints := [] },
  { dst := some 3, op := POp.box 37 (Operand.tmp 1), guard := none, hints := [] },
  { dst := some 4, op := POp.mv (Operand.const (Value.bool false)), guard := none, hints := [] }]
def pc30_c1 : PCode := .region none false pc30_o1
def pc30_o2 : List POper := [{ dst := some 5, op := POp.faddr 0 (Operand.tmp 2), guard := none, hints := [] },
  { dst := some 6, op := POp.load false 1 (Operand.tmp 5), guard := none, hints := [] },
  { dst := some 7, op := POp.faddr 0 (Operand.tmp 3), guard := none, hints := [] },
  { dst := some 8, op := POp.load false 1 (Operand.tmp 7), guard := none, hints := [] },
  { dst := some 9, op := POp.prim (Prim.bin BinOp.leq 3 false false) [Operand.tmp 6, Operand.tmp 8], guard := none, hints := [] },
  { dst := some 10, op := POp.mv (Operand.tmp 9), guard := none, hints := [] },
  { dst := some 11, op := POp.faddr 0 (Operand.tmp 3), guard := some (10, true), hints := [] },
  { dst := some 12, op := POp.load false 1 (Operand.tmp 11), guard := some (10, true), hints := [] },
  { dst := some 13, op := POp.faddr 2 (Operand.tmp 2), guard := some (10, true), hints := [] },
  { dst := some 14, op := POp.load false 1 (Operand.tmp 13), guard := some (10, true), hints := [] },
  { dst := some 15, op := POp.prim (Prim.bin BinOp.lss 3 false false) [Operand.tmp 12, Operand.tmp 14], guard := some (10, true), hints := [] },
  { dst := some 16, op := POp.pick (Operand.tmp 10) (Operand.tmp 15) (Operand.const (Value.bool false)), guard := none, hints := [] },
  { dst := some 17, op := POp.mv (Operand.tmp 16), guard := none, hints := [] },
  { dst := some 18, op := POp.faddr 1 (Operand.tmp 2), guard := some (17, true), hints := [] },
  { dst := some 19, op := POp.load false 1 (Operand.tmp 18), guard := some (17, true), hints := [] },
  { dst := some 20, op := POp.faddr 1 (Operand.tmp 3), guard := some (17, true), hints := [] },
  { dst := some 21, op := POp.load false 1 (Operand.tmp 20), guard := some (17, true), hints := [] },
  { dst := some 22, op := POp.prim (Prim.bin BinOp.leq 3 false false) [Operand.tmp 19, Operand.tmp 21], guard := some (17, true), hints := [] },
  { dst := some 23, op := POp.pick (Operand.tmp 17) (Operand.tmp 22) (Operand.const (Value.bool false)), guard := none, hints := [] },
  { dst := some 24, op := POp.mv (Operand.tmp 23), guard := none, hints := [] },
  { dst := some 25, op := POp.faddr 1 (Operand.tmp 3), guard := some (24, true), hints := [] },
  { dst := some 26, op := POp.load false 1 (Operand.tmp 25), guard := some (24, true), hints := [] },
  { dst := some 27, op := POp.faddr 3 (Operand.tmp 2), guard := some (24, true), hints := [] },
  { dst := some 28, op := POp.load false 1 (Operand.tmp 27), guard := some (24, true), hints := [] },
  { dst := some 29, op := POp.prim (Prim.bin BinOp.lss 3 false false) [Operand.tmp 26, Operand.tmp 28], guard := some (24, true), hints := [] },
  { dst := some 30, op := POp.pick (Operand.tmp 24) (Operand.tmp 29) (Operand.const (Value.bool false)), guard := none, hints := [] },
  { dst := some 4, op := POp.mv (Operand.tmp 30), guard := none, hints := [] }]
def pc30_c2 : PCode := .region none false pc30_o2
def pc30_c3 : PCode := .ret
def pc30_c4 : PCode := .seq pc30_c2 pc30_c3
def pc30_c5 : PCode := .seq pc30_c1 pc30_c4
def pc30_r : List PRes := [PRes.tmp 4 []]
def pc30 : PFunc := ⟨31, pc30_r, pc30_c5⟩
def pc30_a : Ann := {
  kr := fun
    | _ => none
  ka := fun
    | _ => 0
  kh := fun
    | _ => none }
theorem pc30_ok : compFn Try.prog pc30_a Try.f30 = some pc30 := by kernel_rfl


-- 41: vedette/vedetteref3.Map
def pc41_o1 : List POper := [{ dst := some 0, op := POp.alloc 35 (Value.agg { toList := [Value.int IntKind.i64 0, Value.int IntKind.i64 0, Value.int IntKind.i64 0, Value.int IntKind.i64 0] }), guard := none, hints := [] }]
def pc41_c1 : PCode := .region none false pc41_o1
def pc41_o2 : List POper := [{ dst := some 1, op := POp.build (Value.agg { toList := [Value.int IntKind.i64 0, Value.int IntKind.i64 0, Value.int IntKind.i64 0, Value.int IntKind.i64 0] }) [(2, 1, Operand.const (Value.int IntKind.i64 64)), (3, 1, Operand.const (Value.int IntKind.i64 64))], guard := none, hints := [] },
  { dst := none, op := POp.store 4 (Operand.tmp 0) (Operand.tmp 1), guard := none, hints := [] }]
def pc41_c2 : PCode := .region none false pc41_o2
def pc41_c3 : PCode := .ret
def pc41_c4 : PCode := .seq pc41_c2 pc41_c3
def pc41_c5 : PCode := .seq pc41_c1 pc41_c4
def pc41_r : List PRes := [PRes.cell 0 true 4 []]
def pc41 : PFunc := ⟨2, pc41_r, pc41_c5⟩
def pc41_a : Ann := {
  kr := fun
    | _ => none
  ka := fun
    | _ => 0
  kh := fun
    | _ => none }
theorem pc41_ok : compFn Try.prog pc41_a Try.f41 = some pc41 := by kernel_rfl


-- 34: vedette/vedetteref3.Area
def pc34_o1 : List POper := [{ dst := some 1, op := POp.box 35 (Operand.tmp 0), guard := none, hints := [] },
  { dst := some 2, op := POp.mv (Operand.const (Value.int IntKind.i64 0)), guard := none, hints := [] }]
def pc34_c1 : PCode := .region none false pc34_o1
def pc34_o2 : List POper := [{ dst := some 4, op := POp.load true 4 (Operand.tmp 1), guard := none, hints := [(1, Hint.at_ 1 0)] },
  { dst := some 5, op := POp.call false [] 41 [], guard := none, hints := [] },
  { dst := some 6, op := POp.call false [[], []] 32 [Operand.tmp 4, Operand.tmp 5], guard := none, hints := [(4, Hint.imm), (5, Hint.imm)] },
  { dst := some 3, op := POp.alloc 35 (Value.agg { toList := [Value.int IntKind.i64 0, Value.int IntKind.i64 0, Value.int IntKind.i64 0, Value.int IntKind.i64 0] }), guard := none, hints := [] },
  { dst := none, op := POp.store 4 (Operand.tmp 3) (Operand.tmp 6), guard := none, hints := [(3, Hint.at_ 3 0), (6, Hint.imm)] }]
def pc34_c2 : PCode := .region none true pc34_o2
def pc34_o3 : List POper := [{ dst := some 7, op := POp.faddr 2 (Operand.tmp 3), guard := none, hints := [] },
  { dst := some 8, op := POp.load false 1 (Operand.tmp 7), guard := none, hints := [] },
  { dst := some 9, op := POp.faddr 0 (Operand.tmp 3), guard := none, hints := [] },
  { dst := some 10, op := POp.load false 1 (Operand.tmp 9), guard := none, hints := [] },
  { dst := some 11, op := POp.prim (Prim.bin BinOp.sub 3 false false) [Operand.tmp 8, Operand.tmp 10], guard := none, hints := [] },
  { dst := some 12, op := POp.faddr 3 (Operand.tmp 3), guard := none, hints := [] },
  { dst := some 13, op := POp.load false 1 (Operand.tmp 12), guard := none, hints := [] },
  { dst := some 14, op := POp.faddr 1 (Operand.tmp 3), guard := none, hints := [] },
  { dst := some 15, op := POp.load false 1 (Operand.tmp 14), guard := none, hints := [] },
  { dst := some 16, op := POp.prim (Prim.bin BinOp.sub 3 false false) [Operand.tmp 13, Operand.tmp 15], guard := none, hints := [] },
  { dst := some 17, op := POp.prim (Prim.bin BinOp.mul 3 false false) [Operand.tmp 11, Operand.tmp 16], guard := none, hints := [] },
  { dst := some 2, op := POp.mv (Operand.tmp 17), guard := none, hints := [] }]
def pc34_c3 : PCode := .region none false pc34_o3
def pc34_c4 : PCode := .ret
def pc34_c5 : PCode := .seq pc34_c3 pc34_c4
def pc34_c6 : PCode := .seq pc34_c2 pc34_c5
def pc34_c7 : PCode := .seq pc34_c1 pc34_c6
def pc34_r : List PRes := [PRes.tmp 2 []]
def pc34 : PFunc := ⟨18, pc34_r, pc34_c7⟩
def pc34_a : Ann := {
  kr := fun
    | _ => none
  ka := fun
    | _ => 0
  kh := fun
    | 1 => some (Hint.at_ 1 0)
    | 3 => some (Hint.at_ 3 0)
    | 4 => some (Hint.imm)
    | 5 => some (Hint.imm)
    | 6 => some (Hint.imm)
    | _ => none }
theorem pc34_ok : compFn Try.prog pc34_a Try.f34 = some pc34 := by kernel_rfl


-- 36: vedette/vedetteref3.Same
def pc36_o1 : List POper := [{ dst := some 2, op := POp.box 35 (Operand.tmp 0), guard := none, hints := [] },
  { dst := some 3, op := POp.box 35 (Operand.tmp 1), guard := none, hints := [] },
  { dst := some 4, op := POp.mv (Operand.const (Value.bool false)), guard := none, hints := [] }]
def pc36_c1 : PCode := .region none false pc36_o1
def pc36_o2 : List POper := [{ dst := some 5, op := POp.load true 4 (Operand.tmp 2), guard := none, hints := [] },
  { dst := some 6, op := POp.call true [[]] 28 [Operand.tmp 5], guard := none, hints := [] },
  { dst := some 7, op := POp.mv (Operand.tmp 6), guard := none, hints := [] },
  { dst := some 8, op := POp.load true 4 (Operand.tmp 3), guard := some (7, true), hints := [] },
  { dst := some 9, op := POp.call true [[]] 28 [Operand.tmp 8], guard := some (7, true), hints := [] },
  { dst := some 10, op := POp.pick (Operand.tmp 7) (Operand.tmp 9) (Operand.const (Value.bool false)), guard := none, hints := [] },
  { dst := some 11, op := POp.mv (Operand.tmp 10), guard := none, hints := [] },
  { dst := some 12, op := POp.load true 4 (Operand.tmp 2), guard := some (11, false), hints := [] },
  { dst := some 13, op := POp.load true 4 (Operand.tmp 3), guard := some (11, false), hints := [] },
  { dst := some 14, op := POp.prim (Prim.bin BinOp.eql 35 false false) [Operand.tmp 12, Operand.tmp 13], guard := some (11, false), hints := [] },
  { dst := some 15, op := POp.mv (Operand.tmp 14), guard := some (11, false), hints := [] },
  { dst := some 16, op := POp.load true 4 (Operand.tmp 2), guard := some (15, true), hints := [] },
  { dst := some 17, op := POp.call true [[]] 28 [Operand.tmp 16], guard := some (15, true), hints := [] },
  { dst := some 18, op := POp.prim (Prim.un UnOp.not) [Operand.tmp 17], guard := some (15, true), hints := [] },
  { dst := some 19, op := POp.pick (Operand.tmp 15) (Operand.tmp 18) (Operand.const (Value.bool false)), guard := some (11, false), hints := [] },
  { dst := some 20, op := POp.pick (Operand.tmp 11) (Operand.const (Value.bool true)) (Operand.tmp 19), guard := none, hints := [] },
  { dst := some 4, op := POp.mv (Operand.tmp 20), guard := none, hints := [] }]
def pc36_c2 : PCode := .region none false pc36_o2
def pc36_c3 : PCode := .ret
def pc36_c4 : PCode := .seq pc36_c2 pc36_c3
def pc36_c5 : PCode := .seq pc36_c1 pc36_c4
def pc36_r : List PRes := [PRes.tmp 4 []]
def pc36 : PFunc := ⟨21, pc36_r, pc36_c5⟩
def pc36_a : Ann := {
  kr := fun
    | _ => none
  ka := fun
    | _ => 0
  kh := fun
    | _ => none }
theorem pc36_ok : compFn Try.prog pc36_a Try.f36 = some pc36 := by kernel_rfl


-- 6: vedette/vedettelaw3.GeomTells
def pc6_o1 : List POper := [{ dst := some 3, op := POp.box 35 (Operand.tmp 0), guard := none, hints := [] },
  { dst := some 4, op := POp.box 35 (Operand.tmp 1), guard := none, hints := [] },
  { dst := some 5, op := POp.box 37 (Operand.tmp 2), guard := none, hints := [] },
  { dst := some 6, op := POp.mv (Operand.const (Value.bool false)), guard := none, hints := [] }]
def pc6_c1 : PCode := .region none false pc6_o1
def pc6_o2 : List POper := [{ dst := some 10, op := POp.call true [] 19 [], guard := none, hints := [] },
  { dst := some 11, op := POp.prim (Prim.un UnOp.not) [Operand.tmp 10], guard := none, hints := [] }]
def pc6_c2 : PCode := .region none false pc6_o2
def pc6_o3 : List POper := [{ dst := some 6, op := POp.mv (Operand.const (Value.bool false)), guard := none, hints := [] }]
def pc6_c3 : PCode := .region none false pc6_o3
def pc6_c4 : PCode := .ret
def pc6_c5 : PCode := .seq pc6_c3 pc6_c4
def pc6_c6 : PCode := .skip
def pc6_c7 : PCode := .cond (Operand.tmp 11) pc6_c5 pc6_c6
def pc6_c8 : PCode := .seq pc6_c2 pc6_c7
def pc6_o9 : List POper := [{ dst := some 12, op := POp.load true 4 (Operand.tmp 3), guard := none, hints := [] },
  { dst := some 13, op := POp.call true [[]] 20 [Operand.tmp 12], guard := none, hints := [] },
  { dst := some 14, op := POp.prim (Prim.un UnOp.not) [Operand.tmp 13], guard := none, hints := [] },
  { dst := some 15, op := POp.mv (Operand.tmp 14), guard := none, hints := [] },
  { dst := some 16, op := POp.load true 4 (Operand.tmp 4), guard := some (15, false), hints := [] },
  { dst := some 17, op := POp.call true [[]] 20 [Operand.tmp 16], guard := some (15, false), hints := [] },
  { dst := some 18, op := POp.prim (Prim.un UnOp.not) [Operand.tmp 17], guard := some (15, false), hints := [] },
  { dst := some 19, op := POp.pick (Operand.tmp 15) (Operand.const (Value.bool true)) (Operand.tmp 18), guard := none, hints := [] }]
def pc6_c9 : PCode := .region none false pc6_o9
def pc6_o10 : List POper := [{ dst := some 6, op := POp.mv (Operand.const (Value.bool true)), guard := none, hints := [] }]
def pc6_c10 : PCode := .region none false pc6_o10
def pc6_c11 : PCode := .ret
def pc6_c12 : PCode := .seq pc6_c10 pc6_c11
def pc6_c13 : PCode := .skip
def pc6_c14 : PCode := .cond (Operand.tmp 19) pc6_c12 pc6_c13
def pc6_c15 : PCode := .seq pc6_c9 pc6_c14
def pc6_o16 : List POper := [{ dst := some 20, op := POp.load true 4 (Operand.tmp 3), guard := none, hints := [(3, Hint.at_ 3 0)] },
  { dst := some 21, op := POp.load true 4 (Operand.tmp 4), guard := none, hints := [(4, Hint.at_ 4 0)] },
  { dst := some 22, op := POp.call false [[], []] 21 [Operand.tmp 20, Operand.tmp 21], guard := none, hints := [(20, Hint.imm), (21, Hint.imm)] },
  { dst := some 23, op := POp.load true 4 (Operand.tmp 3), guard := none, hints := [(3, Hint.at_ 3 0)] },
  { dst := some 24, op := POp.load true 4 (Operand.tmp 4), guard := none, hints := [(4, Hint.at_ 4 0)] },
  { dst := some 25, op := POp.call false [[], []] 22 [Operand.tmp 23, Operand.tmp 24], guard := none, hints := [(23, Hint.imm), (24, Hint.imm)] },
  { dst := some 7, op := POp.mv (Operand.tmp 22), guard := none, hints := [(22, Hint.imm)] },
  { dst := some 8, op := POp.mv (Operand.tmp 25), guard := none, hints := [(25, Hint.imm)] }]
def pc6_c16 : PCode := .region none true pc6_o16
def pc6_o17 : List POper := [{ dst := some 26, op := POp.mv (Operand.tmp 7), guard := none, hints := [] },
  { dst := some 27, op := POp.lenS (Operand.tmp 26), guard := none, hints := [] },
  { dst := some 28, op := POp.mv (Operand.tmp 8), guard := none, hints := [] },
  { dst := some 29, op := POp.lenS (Operand.tmp 28), guard := none, hints := [] },
  { dst := some 30, op := POp.prim (Prim.bin BinOp.neq 3 false false) [Operand.tmp 27, Operand.tmp 29], guard := none, hints := [] }]
def pc6_c17 : PCode := .region none false pc6_o17
def pc6_o18 : List POper := [{ dst := some 6, op := POp.mv (Operand.const (Value.bool false)), guard := none, hints := [] }]
def pc6_c18 : PCode := .region none false pc6_o18
def pc6_c19 : PCode := .ret
def pc6_c20 : PCode := .seq pc6_c18 pc6_c19
def pc6_c21 : PCode := .skip
def pc6_c22 : PCode := .cond (Operand.tmp 30) pc6_c20 pc6_c21
def pc6_c23 : PCode := .seq pc6_c17 pc6_c22
def pc6_o24 : List POper := [{ dst := some 9, op := POp.mv (Operand.const (Value.int IntKind.i64 0)), guard := none, hints := [] }]
def pc6_c24 : PCode := .region none false pc6_o24
def pc6_o25 : List POper := [{ dst := some 31, op := POp.mv (Operand.tmp 9), guard := none, hints := [] },
  { dst := some 32, op := POp.mv (Operand.tmp 7), guard := none, hints := [] },
  { dst := some 33, op := POp.lenS (Operand.tmp 32), guard := none, hints := [] },
  { dst := some 34, op := POp.prim (Prim.bin BinOp.lss 3 false false) [Operand.tmp 31, Operand.tmp 33], guard := none, hints := [] }]
def pc6_c25 : PCode := .region (some ([3, 4, 5, 7, 8, 9], [3, 4, 5])) false pc6_o25
def pc6_c26 : PCode := .skip
def pc6_c27 : PCode := .exit 0
def pc6_c28 : PCode := .cond (Operand.tmp 34) pc6_c26 pc6_c27
def pc6_c29 : PCode := .seq pc6_c25 pc6_c28
def pc6_o30 : List POper := [{ dst := some 37, op := POp.mv (Operand.tmp 7), guard := none, hints := [(7, Hint.imm)] },
  { dst := some 38, op := POp.mv (Operand.tmp 9), guard := none, hints := [(9, Hint.imm)] },
  { dst := some 39, op := POp.iaddrS 4 (Operand.tmp 37) (Operand.tmp 38), guard := none, hints := [(37, Hint.imm), (38, Hint.imm)] },
  { dst := some 40, op := POp.load true 4 (Operand.tmp 39), guard := none, hints := [(39, Hint.imm)] },
  { dst := some 41, op := POp.mv (Operand.tmp 8), guard := none, hints := [(8, Hint.imm)] },
  { dst := some 42, op := POp.mv (Operand.tmp 9), guard := none, hints := [(9, Hint.imm)] },
  { dst := some 43, op := POp.iaddrS 4 (Operand.tmp 41) (Operand.tmp 42), guard := none, hints := [(41, Hint.imm), (42, Hint.imm)] },
  { dst := some 44, op := POp.load true 4 (Operand.tmp 43), guard := none, hints := [(43, Hint.imm)] },
  { dst := some 45, op := POp.prim (Prim.bin BinOp.neq 35 false false) [Operand.tmp 40, Operand.tmp 44], guard := none, hints := [(40, Hint.imm), (44, Hint.imm)] }]
def pc6_c30 : PCode := .region none true pc6_o30
def pc6_o31 : List POper := [{ dst := some 6, op := POp.mv (Operand.const (Value.bool false)), guard := none, hints := [] }]
def pc6_c31 : PCode := .region none false pc6_o31
def pc6_c32 : PCode := .ret
def pc6_c33 : PCode := .seq pc6_c31 pc6_c32
def pc6_c34 : PCode := .skip
def pc6_c35 : PCode := .cond (Operand.tmp 45) pc6_c33 pc6_c34
def pc6_c36 : PCode := .seq pc6_c30 pc6_c35
def pc6_c37 : PCode := .block 1 pc6_c36
def pc6_o38 : List POper := [{ dst := some 35, op := POp.mv (Operand.tmp 9), guard := none, hints := [] },
  { dst := some 36, op := POp.prim (Prim.bin BinOp.add 3 false true) [Operand.tmp 35, Operand.const (Value.int IntKind.i64 1)], guard := none, hints := [] },
  { dst := some 9, op := POp.mv (Operand.tmp 36), guard := none, hints := [] }]
def pc6_c38 : PCode := .region none false pc6_o38
def pc6_c39 : PCode := .seq pc6_c37 pc6_c38
def pc6_c40 : PCode := .seq pc6_c29 pc6_c39
def pc6_c41 : PCode := .loop pc6_c40
def pc6_c42 : PCode := .block 0 pc6_c41
def pc6_c43 : PCode := .seq pc6_c24 pc6_c42
def pc6_o44 : List POper := [{ dst := some 46, op := POp.load true 2 (Operand.tmp 5), guard := none, hints := [(5, Hint.at_ 5 0)] },
  { dst := some 47, op := POp.call false [[]] 23 [Operand.tmp 46], guard := none, hints := [(46, Hint.imm)] },
  { dst := some 48, op := POp.load true 2 (Operand.tmp 5), guard := none, hints := [(5, Hint.at_ 5 0)] },
  { dst := some 49, op := POp.call false [[]] 24 [Operand.tmp 48], guard := none, hints := [(48, Hint.imm)] },
  { dst := some 50, op := POp.prim (Prim.bin BinOp.eql 4 false false) [Operand.tmp 47, Operand.tmp 49], guard := none, hints := [(47, Hint.imm), (49, Hint.imm)] },
  { dst := some 51, op := POp.mv (Operand.tmp 50), guard := none, hints := [(50, Hint.imm)] },
  { dst := some 52, op := POp.load true 4 (Operand.tmp 3), guard := some (51, true), hints := [(3, Hint.at_ 3 0)] },
  { dst := some 53, op := POp.call false [[]] 25 [Operand.tmp 52], guard := some (51, true), hints := [(52, Hint.imm)] },
  { dst := some 54, op := POp.load true 4 (Operand.tmp 3), guard := some (51, true), hints := [(3, Hint.at_ 3 0)] },
  { dst := some 55, op := POp.call false [[]] 26 [Operand.tmp 54], guard := some (51, true), hints := [(54, Hint.imm)] },
  { dst := some 56, op := POp.prim (Prim.bin BinOp.eql 4 false false) [Operand.tmp 53, Operand.tmp 55], guard := some (51, true), hints := [(53, Hint.imm), (55, Hint.imm)] },
  { dst := some 57, op := POp.pick (Operand.tmp 51) (Operand.tmp 56) (Operand.const (Value.bool false)), guard := none, hints := [(51, Hint.imm), (56, Hint.imm)] },
  { dst := some 58, op := POp.mv (Operand.tmp 57), guard := none, hints := [(57, Hint.imm)] },
  { dst := some 59, op := POp.load true 4 (Operand.tmp 3), guard := some (58, true), hints := [(3, Hint.at_ 3 0)] },
  { dst := some 60, op := POp.call false [[]] 27 [Operand.tmp 59], guard := some (58, true), hints := [(59, Hint.imm)] },
  { dst := some 61, op := POp.load true 4 (Operand.tmp 3), guard := some (58, true), hints := [(3, Hint.at_ 3 0)] },
  { dst := some 62, op := POp.call false [[]] 28 [Operand.tmp 61], guard := some (58, true), hints := [(61, Hint.imm)] },
  { dst := some 63, op := POp.prim (Prim.bin BinOp.eql 4 false false) [Operand.tmp 60, Operand.tmp 62], guard := some (58, true), hints := [(60, Hint.imm), (62, Hint.imm)] },
  { dst := some 64, op := POp.pick (Operand.tmp 58) (Operand.tmp 63) (Operand.const (Value.bool false)), guard := none, hints := [(58, Hint.imm), (63, Hint.imm)] },
  { dst := some 65, op := POp.mv (Operand.tmp 64), guard := none, hints := [(64, Hint.imm)] },
  { dst := some 66, op := POp.load true 4 (Operand.tmp 3), guard := some (65, true), hints := [(3, Hint.at_ 3 0)] },
  { dst := some 67, op := POp.load true 2 (Operand.tmp 5), guard := some (65, true), hints := [(5, Hint.at_ 5 0)] },
  { dst := some 68, op := POp.call false [[], []] 29 [Operand.tmp 66, Operand.tmp 67], guard := some (65, true), hints := [(66, Hint.imm), (67, Hint.imm)] },
  { dst := some 69, op := POp.load true 4 (Operand.tmp 3), guard := some (65, true), hints := [(3, Hint.at_ 3 0)] },
  { dst := some 70, op := POp.load true 2 (Operand.tmp 5), guard := some (65, true), hints := [(5, Hint.at_ 5 0)] },
  { dst := some 71, op := POp.call false [[], []] 30 [Operand.tmp 69, Operand.tmp 70], guard := some (65, true), hints := [(69, Hint.imm), (70, Hint.imm)] },
  { dst := some 72, op := POp.prim (Prim.bin BinOp.eql 4 false false) [Operand.tmp 68, Operand.tmp 71], guard := some (65, true), hints := [(68, Hint.imm), (71, Hint.imm)] },
  { dst := some 73, op := POp.pick (Operand.tmp 65) (Operand.tmp 72) (Operand.const (Value.bool false)), guard := none, hints := [(65, Hint.imm), (72, Hint.imm)] },
  { dst := some 74, op := POp.mv (Operand.tmp 73), guard := none, hints := [(73, Hint.imm)] },
  { dst := some 75, op := POp.load true 4 (Operand.tmp 3), guard := some (74, true), hints := [(3, Hint.at_ 3 0)] },
  { dst := some 76, op := POp.load true 4 (Operand.tmp 4), guard := some (74, true), hints := [(4, Hint.at_ 4 0)] },
  { dst := some 77, op := POp.call false [[], []] 31 [Operand.tmp 75, Operand.tmp 76], guard := some (74, true), hints := [(75, Hint.imm), (76, Hint.imm)] },
  { dst := some 78, op := POp.load true 4 (Operand.tmp 3), guard := some (74, true), hints := [(3, Hint.at_ 3 0)] },
  { dst := some 79, op := POp.load true 4 (Operand.tmp 4), guard := some (74, true), hints := [(4, Hint.at_ 4 0)] },
  { dst := some 80, op := POp.call false [[], []] 32 [Operand.tmp 78, Operand.tmp 79], guard := some (74, true), hints := [(78, Hint.imm), (79, Hint.imm)] },
  { dst := some 81, op := POp.prim (Prim.bin BinOp.eql 35 false false) [Operand.tmp 77, Operand.tmp 80], guard := some (74, true), hints := [(77, Hint.imm), (80, Hint.imm)] },
  { dst := some 82, op := POp.pick (Operand.tmp 74) (Operand.tmp 81) (Operand.const (Value.bool false)), guard := none, hints := [(74, Hint.imm), (81, Hint.imm)] },
  { dst := some 83, op := POp.mv (Operand.tmp 82), guard := none, hints := [(82, Hint.imm)] },
  { dst := some 84, op := POp.load true 4 (Operand.tmp 3), guard := some (83, true), hints := [(3, Hint.at_ 3 0)] },
  { dst := some 85, op := POp.call false [[]] 33 [Operand.tmp 84], guard := some (83, true), hints := [(84, Hint.imm)] },
  { dst := some 86, op := POp.load true 4 (Operand.tmp 3), guard := some (83, true), hints := [(3, Hint.at_ 3 0)] },
  { dst := some 87, op := POp.call false [[]] 34 [Operand.tmp 86], guard := some (83, true), hints := [(86, Hint.imm)] },
  { dst := some 88, op := POp.prim (Prim.bin BinOp.eql 3 false false) [Operand.tmp 85, Operand.tmp 87], guard := some (83, true), hints := [(85, Hint.imm), (87, Hint.imm)] },
  { dst := some 89, op := POp.pick (Operand.tmp 83) (Operand.tmp 88) (Operand.const (Value.bool false)), guard := none, hints := [(83, Hint.imm), (88, Hint.imm)] },
  { dst := some 90, op := POp.mv (Operand.tmp 89), guard := none, hints := [(89, Hint.imm)] },
  { dst := some 91, op := POp.load true 4 (Operand.tmp 3), guard := some (90, true), hints := [(3, Hint.at_ 3 0)] },
  { dst := some 92, op := POp.load true 4 (Operand.tmp 4), guard := some (90, true), hints := [(4, Hint.at_ 4 0)] },
  { dst := some 93, op := POp.call false [[], []] 35 [Operand.tmp 91, Operand.tmp 92], guard := some (90, true), hints := [(91, Hint.imm), (92, Hint.imm)] },
  { dst := some 94, op := POp.load true 4 (Operand.tmp 3), guard := some (90, true), hints := [(3, Hint.at_ 3 0)] },
  { dst := some 95, op := POp.load true 4 (Operand.tmp 4), guard := some (90, true), hints := [(4, Hint.at_ 4 0)] },
  { dst := some 96, op := POp.call false [[], []] 36 [Operand.tmp 94, Operand.tmp 95], guard := some (90, true), hints := [(94, Hint.imm), (95, Hint.imm)] },
  { dst := some 97, op := POp.prim (Prim.bin BinOp.eql 4 false false) [Operand.tmp 93, Operand.tmp 96], guard := some (90, true), hints := [(93, Hint.imm), (96, Hint.imm)] },
  { dst := some 98, op := POp.pick (Operand.tmp 90) (Operand.tmp 97) (Operand.const (Value.bool false)), guard := none, hints := [(90, Hint.imm), (97, Hint.imm)] },
  { dst := some 6, op := POp.mv (Operand.tmp 98), guard := none, hints := [(98, Hint.imm)] }]
def pc6_c44 : PCode := .region none true pc6_o44
def pc6_c45 : PCode := .ret
def pc6_c46 : PCode := .seq pc6_c44 pc6_c45
def pc6_c47 : PCode := .seq pc6_c43 pc6_c46
def pc6_c48 : PCode := .seq pc6_c23 pc6_c47
def pc6_c49 : PCode := .seq pc6_c16 pc6_c48
def pc6_c50 : PCode := .seq pc6_c15 pc6_c49
def pc6_c51 : PCode := .seq pc6_c8 pc6_c50
def pc6_c52 : PCode := .seq pc6_c1 pc6_c51
def pc6_r : List PRes := [PRes.tmp 6 []]
def pc6 : PFunc := ⟨99, pc6_r, pc6_c52⟩
def pc6_a : Ann := {
  kr := fun
    | 9 => some ([3, 4, 5, 7, 8, 9], [3, 4, 5])
    | _ => none
  ka := fun
    | _ => 0
  kh := fun
    | 3 => some (Hint.at_ 3 0)
    | 4 => some (Hint.at_ 4 0)
    | 5 => some (Hint.at_ 5 0)
    | 7 => some (Hint.imm)
    | 8 => some (Hint.imm)
    | 9 => some (Hint.imm)
    | 20 => some (Hint.imm)
    | 21 => some (Hint.imm)
    | 22 => some (Hint.imm)
    | 23 => some (Hint.imm)
    | 24 => some (Hint.imm)
    | 25 => some (Hint.imm)
    | 37 => some (Hint.imm)
    | 38 => some (Hint.imm)
    | 39 => some (Hint.imm)
    | 40 => some (Hint.imm)
    | 41 => some (Hint.imm)
    | 42 => some (Hint.imm)
    | 43 => some (Hint.imm)
    | 44 => some (Hint.imm)
    | 46 => some (Hint.imm)
    | 47 => some (Hint.imm)
    | 48 => some (Hint.imm)
    | 49 => some (Hint.imm)
    | 50 => some (Hint.imm)
    | 51 => some (Hint.imm)
    | 52 => some (Hint.imm)
    | 53 => some (Hint.imm)
    | 54 => some (Hint.imm)
    | 55 => some (Hint.imm)
    | 56 => some (Hint.imm)
    | 57 => some (Hint.imm)
    | 58 => some (Hint.imm)
    | 59 => some (Hint.imm)
    | 60 => some (Hint.imm)
    | 61 => some (Hint.imm)
    | 62 => some (Hint.imm)
    | 63 => some (Hint.imm)
    | 64 => some (Hint.imm)
    | 65 => some (Hint.imm)
    | 66 => some (Hint.imm)
    | 67 => some (Hint.imm)
    | 68 => some (Hint.imm)
    | 69 => some (Hint.imm)
    | 70 => some (Hint.imm)
    | 71 => some (Hint.imm)
    | 72 => some (Hint.imm)
    | 73 => some (Hint.imm)
    | 74 => some (Hint.imm)
    | 75 => some (Hint.imm)
    | 76 => some (Hint.imm)
    | 77 => some (Hint.imm)
    | 78 => some (Hint.imm)
    | 79 => some (Hint.imm)
    | 80 => some (Hint.imm)
    | 81 => some (Hint.imm)
    | 82 => some (Hint.imm)
    | 83 => some (Hint.imm)
    | 84 => some (Hint.imm)
    | 85 => some (Hint.imm)
    | 86 => some (Hint.imm)
    | 87 => some (Hint.imm)
    | 88 => some (Hint.imm)
    | 89 => some (Hint.imm)
    | 90 => some (Hint.imm)
    | 91 => some (Hint.imm)
    | 92 => some (Hint.imm)
    | 93 => some (Hint.imm)
    | 94 => some (Hint.imm)
    | 95 => some (Hint.imm)
    | 96 => some (Hint.imm)
    | 97 => some (Hint.imm)
    | 98 => some (Hint.imm)
    | _ => none }
theorem pc6_ok : compFn Try.prog pc6_a Try.f6 = some pc6 := by kernel_rfl


-- 10: vedette/vedettelaw3.GeomMoves
def pc10_o1 : List POper := [{ dst := some 12, op := POp.mv (Operand.const (Value.bool false)), guard := none, hints := [] }]
def pc10_c1 : PCode := .region none false pc10_o1
def pc10_o2 : List POper := [{ dst := some 21, op := POp.call true [] 19 [], guard := none, hints := [] },
  { dst := some 22, op := POp.prim (Prim.un UnOp.not) [Operand.tmp 21], guard := none, hints := [] }]
def pc10_c2 : PCode := .region none false pc10_o2
def pc10_o3 : List POper := [{ dst := some 12, op := POp.mv (Operand.const (Value.bool false)), guard := none, hints := [] }]
def pc10_c3 : PCode := .region none false pc10_o3
def pc10_c4 : PCode := .ret
def pc10_c5 : PCode := .seq pc10_c3 pc10_c4
def pc10_c6 : PCode := .skip
def pc10_c7 : PCode := .cond (Operand.tmp 22) pc10_c5 pc10_c6
def pc10_c8 : PCode := .seq pc10_c2 pc10_c7
def pc10_o9 : List POper := [{ dst := some 23, op := POp.mv (Operand.tmp 0), guard := none, hints := [] },
  { dst := some 24, op := POp.prim (Prim.bin BinOp.rem 5 false true) [Operand.tmp 23, Operand.const (Value.int IntKind.u8 64)], guard := none, hints := [] },
  { dst := some 25, op := POp.prim (Prim.conv 5 3) [Operand.tmp 24], guard := none, hints := [] },
  { dst := some 26, op := POp.mv (Operand.tmp 1), guard := none, hints := [] },
  { dst := some 27, op := POp.prim (Prim.bin BinOp.rem 5 false true) [Operand.tmp 26, Operand.const (Value.int IntKind.u8 64)], guard := none, hints := [] },
  { dst := some 28, op := POp.prim (Prim.conv 5 3) [Operand.tmp 27], guard := none, hints := [] },
  { dst := some 29, op := POp.build (Value.agg { toList := [Value.int IntKind.i64 0, Value.int IntKind.i64 0, Value.int IntKind.i64 0, Value.int IntKind.i64 0] }) [(0, 1, Operand.tmp 25), (1, 1, Operand.tmp 28)], guard := none, hints := [] },
  { dst := some 13, op := POp.alloc 35 (Value.agg { toList := [Value.int IntKind.i64 0, Value.int IntKind.i64 0, Value.int IntKind.i64 0, Value.int IntKind.i64 0] }), guard := none, hints := [] },
  { dst := none, op := POp.store 4 (Operand.tmp 13) (Operand.tmp 29), guard := none, hints := [] }]
def pc10_c9 : PCode := .region none false pc10_o9
def pc10_o10 : List POper := [{ dst := some 30, op := POp.faddr 0 (Operand.tmp 13), guard := none, hints := [] },
  { dst := some 31, op := POp.load false 1 (Operand.tmp 30), guard := none, hints := [] },
  { dst := some 32, op := POp.mv (Operand.tmp 2), guard := none, hints := [] },
  { dst := some 33, op := POp.prim (Prim.bin BinOp.rem 5 false true) [Operand.tmp 32, Operand.const (Value.int IntKind.u8 30)], guard := none, hints := [] },
  { dst := some 34, op := POp.prim (Prim.conv 5 3) [Operand.tmp 33], guard := none, hints := [] },
  { dst := some 35, op := POp.prim (Prim.bin BinOp.add 3 false false) [Operand.tmp 31, Operand.tmp 34], guard := none, hints := [] },
  { dst := some 36, op := POp.prim (Prim.bin BinOp.add 3 false true) [Operand.tmp 35, Operand.const (Value.int IntKind.i64 1)], guard := none, hints := [] },
  { dst := some 37, op := POp.prim Prim.min [Operand.tmp 36, Operand.const (Value.int IntKind.i64 64)], guard := none, hints := [] },
  { dst := some 38, op := POp.faddr 1 (Operand.tmp 13), guard := none, hints := [] },
  { dst := some 39, op := POp.load false 1 (Operand.tmp 38), guard := none, hints := [] },
  { dst := some 40, op := POp.mv (Operand.tmp 3), guard := none, hints := [] },
  { dst := some 41, op := POp.prim (Prim.bin BinOp.rem 5 false true) [Operand.tmp 40, Operand.const (Value.int IntKind.u8 30)], guard := none, hints := [] },
  { dst := some 42, op := POp.prim (Prim.conv 5 3) [Operand.tmp 41], guard := none, hints := [] },
  { dst := some 43, op := POp.prim (Prim.bin BinOp.add 3 false false) [Operand.tmp 39, Operand.tmp 42], guard := none, hints := [] },
  { dst := some 44, op := POp.prim (Prim.bin BinOp.add 3 false true) [Operand.tmp 43, Operand.const (Value.int IntKind.i64 1)], guard := none, hints := [] },
  { dst := some 45, op := POp.prim Prim.min [Operand.tmp 44, Operand.const (Value.int IntKind.i64 64)], guard := none, hints := [] },
  { dst := some 46, op := POp.faddr 2 (Operand.tmp 13), guard := none, hints := [] },
  { dst := none, op := POp.store 1 (Operand.tmp 46) (Operand.tmp 37), guard := none, hints := [] },
  { dst := some 47, op := POp.faddr 3 (Operand.tmp 13), guard := none, hints := [] },
  { dst := none, op := POp.store 1 (Operand.tmp 47) (Operand.tmp 45), guard := none, hints := [] }]
def pc10_c10 : PCode := .region none false pc10_o10
def pc10_o11 : List POper := [{ dst := some 48, op := POp.faddr 0 (Operand.tmp 13), guard := none, hints := [] },
  { dst := some 49, op := POp.load false 1 (Operand.tmp 48), guard := none, hints := [] },
  { dst := some 50, op := POp.mv (Operand.tmp 4), guard := none, hints := [] },
  { dst := some 51, op := POp.prim (Prim.conv 48 3) [Operand.tmp 50], guard := none, hints := [] },
  { dst := some 52, op := POp.prim (Prim.bin BinOp.add 3 false false) [Operand.tmp 49, Operand.tmp 51], guard := none, hints := [] },
  { dst := some 53, op := POp.faddr 1 (Operand.tmp 13), guard := none, hints := [] },
  { dst := some 54, op := POp.load false 1 (Operand.tmp 53), guard := none, hints := [] },
  { dst := some 55, op := POp.mv (Operand.tmp 5), guard := none, hints := [] },
  { dst := some 56, op := POp.prim (Prim.conv 48 3) [Operand.tmp 55], guard := none, hints := [] },
  { dst := some 57, op := POp.prim (Prim.bin BinOp.add 3 false false) [Operand.tmp 54, Operand.tmp 56], guard := none, hints := [] },
  { dst := some 58, op := POp.faddr 2 (Operand.tmp 13), guard := none, hints := [] },
  { dst := some 59, op := POp.load false 1 (Operand.tmp 58), guard := none, hints := [] },
  { dst := some 60, op := POp.mv (Operand.tmp 4), guard := none, hints := [] },
  { dst := some 61, op := POp.prim (Prim.conv 48 3) [Operand.tmp 60], guard := none, hints := [] },
  { dst := some 62, op := POp.prim (Prim.bin BinOp.add 3 false false) [Operand.tmp 59, Operand.tmp 61], guard := none, hints := [] },
  { dst := some 63, op := POp.faddr 3 (Operand.tmp 13), guard := none, hints := [] },
  { dst := some 64, op := POp.load false 1 (Operand.tmp 63), guard := none, hints := [] },
  { dst := some 65, op := POp.mv (Operand.tmp 5), guard := none, hints := [] },
  { dst := some 66, op := POp.prim (Prim.conv 48 3) [Operand.tmp 65], guard := none, hints := [] },
  { dst := some 67, op := POp.prim (Prim.bin BinOp.add 3 false false) [Operand.tmp 64, Operand.tmp 66], guard := none, hints := [] },
  { dst := some 68, op := POp.build (Value.agg { toList := [Value.int IntKind.i64 0, Value.int IntKind.i64 0, Value.int IntKind.i64 0, Value.int IntKind.i64 0] }) [(0, 1, Operand.tmp 52), (1, 1, Operand.tmp 57), (2, 1, Operand.tmp 62), (3, 1, Operand.tmp 67)], guard := none, hints := [] },
  { dst := some 14, op := POp.alloc 35 (Value.agg { toList := [Value.int IntKind.i64 0, Value.int IntKind.i64 0, Value.int IntKind.i64 0, Value.int IntKind.i64 0] }), guard := none, hints := [] },
  { dst := none, op := POp.store 4 (Operand.tmp 14) (Operand.tmp 68), guard := none, hints := [] }]
def pc10_c11 : PCode := .region none false pc10_o11
def pc10_o12 : List POper := [{ dst := some 15, op := POp.mv (Operand.const (Value.int IntKind.i64 0)), guard := none, hints := [] },
  { dst := some 16, op := POp.mv (Operand.const (Value.int IntKind.i64 0)), guard := none, hints := [] }]
def pc10_c12 : PCode := .region none false pc10_o12
def pc10_o13 : List POper := [{ dst := some 69, op := POp.load true 4 (Operand.tmp 14), guard := none, hints := [] },
  { dst := some 70, op := POp.load true 4 (Operand.tmp 13), guard := none, hints := [] },
  { dst := some 71, op := POp.call true [[], []] 21 [Operand.tmp 69, Operand.tmp 70], guard := none, hints := [] },
  { dst := some 17, op := POp.mv (Operand.tmp 71), guard := none, hints := [] }]
def pc10_c13 : PCode := .region none false pc10_o13
def pc10_o14 : List POper := [{ dst := some 18, op := POp.mv (Operand.const (Value.int IntKind.i64 0)), guard := none, hints := [] }]
def pc10_c14 : PCode := .region none false pc10_o14
def pc10_o15 : List POper := [{ dst := some 72, op := POp.mv (Operand.tmp 18), guard := none, hints := [] },
  { dst := some 73, op := POp.mv (Operand.tmp 17), guard := none, hints := [] },
  { dst := some 74, op := POp.lenS (Operand.tmp 73), guard := none, hints := [] },
  { dst := some 75, op := POp.prim (Prim.bin BinOp.lss 3 false false) [Operand.tmp 72, Operand.tmp 74], guard := none, hints := [] }]
def pc10_c15 : PCode := .region (some ([13, 14, 15, 16, 17, 18], [13, 14])) false pc10_o15
def pc10_c16 : PCode := .skip
def pc10_c17 : PCode := .exit 0
def pc10_c18 : PCode := .cond (Operand.tmp 75) pc10_c16 pc10_c17
def pc10_c19 : PCode := .seq pc10_c15 pc10_c18
def pc10_o20 : List POper := [{ dst := some 78, op := POp.mv (Operand.tmp 15), guard := none, hints := [] },
  { dst := some 79, op := POp.mv (Operand.tmp 17), guard := none, hints := [] },
  { dst := some 80, op := POp.mv (Operand.tmp 18), guard := none, hints := [] },
  { dst := some 81, op := POp.iaddrS 4 (Operand.tmp 79) (Operand.tmp 80), guard := none, hints := [] },
  { dst := some 82, op := POp.load true 4 (Operand.tmp 81), guard := none, hints := [] },
  { dst := some 83, op := POp.call true [[]] 33 [Operand.tmp 82], guard := none, hints := [] },
  { dst := some 84, op := POp.prim (Prim.bin BinOp.add 3 false false) [Operand.tmp 78, Operand.tmp 83], guard := none, hints := [] },
  { dst := some 15, op := POp.mv (Operand.tmp 84), guard := none, hints := [] }]
def pc10_c20 : PCode := .region none false pc10_o20
def pc10_c21 : PCode := .block 1 pc10_c20
def pc10_o22 : List POper := [{ dst := some 76, op := POp.mv (Operand.tmp 18), guard := none, hints := [] },
  { dst := some 77, op := POp.prim (Prim.bin BinOp.add 3 false true) [Operand.tmp 76, Operand.const (Value.int IntKind.i64 1)], guard := none, hints := [] },
  { dst := some 18, op := POp.mv (Operand.tmp 77), guard := none, hints := [] }]
def pc10_c22 : PCode := .region none false pc10_o22
def pc10_c23 : PCode := .seq pc10_c21 pc10_c22
def pc10_c24 : PCode := .seq pc10_c19 pc10_c23
def pc10_c25 : PCode := .loop pc10_c24
def pc10_c26 : PCode := .block 0 pc10_c25
def pc10_c27 : PCode := .seq pc10_c14 pc10_c26
def pc10_o28 : List POper := [{ dst := some 85, op := POp.load true 4 (Operand.tmp 13), guard := none, hints := [] },
  { dst := some 86, op := POp.load true 4 (Operand.tmp 14), guard := none, hints := [] },
  { dst := some 87, op := POp.call true [[], []] 21 [Operand.tmp 85, Operand.tmp 86], guard := none, hints := [] },
  { dst := some 19, op := POp.mv (Operand.tmp 87), guard := none, hints := [] }]
def pc10_c28 : PCode := .region none false pc10_o28
def pc10_o29 : List POper := [{ dst := some 20, op := POp.mv (Operand.const (Value.int IntKind.i64 0)), guard := none, hints := [] }]
def pc10_c29 : PCode := .region none false pc10_o29
def pc10_o30 : List POper := [{ dst := some 88, op := POp.mv (Operand.tmp 20), guard := none, hints := [] },
  { dst := some 89, op := POp.mv (Operand.tmp 19), guard := none, hints := [] },
  { dst := some 90, op := POp.lenS (Operand.tmp 89), guard := none, hints := [] },
  { dst := some 91, op := POp.prim (Prim.bin BinOp.lss 3 false false) [Operand.tmp 88, Operand.tmp 90], guard := none, hints := [] }]
def pc10_c30 : PCode := .region (some ([13, 14, 15, 16, 19, 20], [13, 14])) false pc10_o30
def pc10_c31 : PCode := .skip
def pc10_c32 : PCode := .exit 2
def pc10_c33 : PCode := .cond (Operand.tmp 91) pc10_c31 pc10_c32
def pc10_c34 : PCode := .seq pc10_c30 pc10_c33
def pc10_o35 : List POper := [{ dst := some 94, op := POp.mv (Operand.tmp 16), guard := none, hints := [] },
  { dst := some 95, op := POp.mv (Operand.tmp 19), guard := none, hints := [] },
  { dst := some 96, op := POp.mv (Operand.tmp 20), guard := none, hints := [] },
  { dst := some 97, op := POp.iaddrS 4 (Operand.tmp 95) (Operand.tmp 96), guard := none, hints := [] },
  { dst := some 98, op := POp.load true 4 (Operand.tmp 97), guard := none, hints := [] },
  { dst := some 99, op := POp.call true [[]] 33 [Operand.tmp 98], guard := none, hints := [] },
  { dst := some 100, op := POp.prim (Prim.bin BinOp.add 3 false false) [Operand.tmp 94, Operand.tmp 99], guard := none, hints := [] },
  { dst := some 16, op := POp.mv (Operand.tmp 100), guard := none, hints := [] }]
def pc10_c35 : PCode := .region none false pc10_o35
def pc10_c36 : PCode := .block 3 pc10_c35
def pc10_o37 : List POper := [{ dst := some 92, op := POp.mv (Operand.tmp 20), guard := none, hints := [] },
  { dst := some 93, op := POp.prim (Prim.bin BinOp.add 3 false true) [Operand.tmp 92, Operand.const (Value.int IntKind.i64 1)], guard := none, hints := [] },
  { dst := some 20, op := POp.mv (Operand.tmp 93), guard := none, hints := [] }]
def pc10_c37 : PCode := .region none false pc10_o37
def pc10_c38 : PCode := .seq pc10_c36 pc10_c37
def pc10_c39 : PCode := .seq pc10_c34 pc10_c38
def pc10_c40 : PCode := .loop pc10_c39
def pc10_c41 : PCode := .block 2 pc10_c40
def pc10_c42 : PCode := .seq pc10_c29 pc10_c41
def pc10_o43 : List POper := [{ dst := some 101, op := POp.load true 4 (Operand.tmp 14), guard := none, hints := [(14, Hint.at_ 14 0)] },
  { dst := some 102, op := POp.call false [[]] 33 [Operand.tmp 101], guard := none, hints := [(101, Hint.imm)] },
  { dst := some 103, op := POp.load true 4 (Operand.tmp 13), guard := none, hints := [(13, Hint.at_ 13 0)] },
  { dst := some 104, op := POp.call false [[]] 33 [Operand.tmp 103], guard := none, hints := [(103, Hint.imm)] },
  { dst := some 105, op := POp.mv (Operand.tmp 16), guard := none, hints := [(16, Hint.imm)] },
  { dst := some 106, op := POp.prim (Prim.bin BinOp.sub 3 false false) [Operand.tmp 104, Operand.tmp 105], guard := none, hints := [(104, Hint.imm), (105, Hint.imm)] },
  { dst := some 107, op := POp.mv (Operand.tmp 15), guard := none, hints := [(15, Hint.imm)] },
  { dst := some 108, op := POp.prim (Prim.bin BinOp.add 3 false false) [Operand.tmp 106, Operand.tmp 107], guard := none, hints := [(106, Hint.imm), (107, Hint.imm)] },
  { dst := some 109, op := POp.prim (Prim.bin BinOp.eql 3 false false) [Operand.tmp 102, Operand.tmp 108], guard := none, hints := [(102, Hint.imm), (108, Hint.imm)] },
  { dst := some 110, op := POp.mv (Operand.tmp 109), guard := none, hints := [(109, Hint.imm)] },
  { dst := some 111, op := POp.load true 4 (Operand.tmp 13), guard := some (110, true), hints := [(13, Hint.at_ 13 0)] },
  { dst := some 112, op := POp.call false [[]] 25 [Operand.tmp 111], guard := some (110, true), hints := [(111, Hint.imm)] },
  { dst := some 113, op := POp.pick (Operand.tmp 110) (Operand.tmp 112) (Operand.const (Value.bool false)), guard := none, hints := [(110, Hint.imm), (112, Hint.imm)] },
  { dst := some 114, op := POp.mv (Operand.tmp 113), guard := none, hints := [(113, Hint.imm)] },
  { dst := some 115, op := POp.load true 4 (Operand.tmp 14), guard := some (114, true), hints := [(14, Hint.at_ 14 0)] },
  { dst := some 116, op := POp.call false [[]] 25 [Operand.tmp 115], guard := some (114, true), hints := [(115, Hint.imm)] },
  { dst := some 117, op := POp.faddr 0 (Operand.tmp 14), guard := some (114, true), hints := [(14, Hint.at_ 14 0)] },
  { dst := some 118, op := POp.load false 1 (Operand.tmp 117), guard := some (114, true), hints := [(117, Hint.at_ 14 0)] },
  { dst := some 119, op := POp.prim (Prim.bin BinOp.geq 3 false true) [Operand.tmp 118, Operand.const (Value.int IntKind.i64 0)], guard := some (114, true), hints := [(118, Hint.imm)] },
  { dst := some 120, op := POp.mv (Operand.tmp 119), guard := some (114, true), hints := [(119, Hint.imm)] },
  { dst := some 121, op := POp.faddr 1 (Operand.tmp 14), guard := some (120, true), hints := [(14, Hint.at_ 14 0)] },
  { dst := some 122, op := POp.load false 1 (Operand.tmp 121), guard := some (120, true), hints := [(121, Hint.at_ 14 1)] },
  { dst := some 123, op := POp.prim (Prim.bin BinOp.geq 3 false true) [Operand.tmp 122, Operand.const (Value.int IntKind.i64 0)], guard := some (120, true), hints := [(122, Hint.imm)] },
  { dst := some 124, op := POp.pick (Operand.tmp 120) (Operand.tmp 123) (Operand.const (Value.bool false)), guard := some (114, true), hints := [(120, Hint.imm), (123, Hint.imm)] },
  { dst := some 125, op := POp.mv (Operand.tmp 124), guard := some (114, true), hints := [(124, Hint.imm)] },
  { dst := some 126, op := POp.faddr 2 (Operand.tmp 14), guard := some (125, true), hints := [(14, Hint.at_ 14 0)] },
  { dst := some 127, op := POp.load false 1 (Operand.tmp 126), guard := some (125, true), hints := [(126, Hint.at_ 14 2)] },
  { dst := some 128, op := POp.prim (Prim.bin BinOp.leq 3 false true) [Operand.tmp 127, Operand.const (Value.int IntKind.i64 64)], guard := some (125, true), hints := [(127, Hint.imm)] },
  { dst := some 129, op := POp.pick (Operand.tmp 125) (Operand.tmp 128) (Operand.const (Value.bool false)), guard := some (114, true), hints := [(125, Hint.imm), (128, Hint.imm)] },
  { dst := some 130, op := POp.mv (Operand.tmp 129), guard := some (114, true), hints := [(129, Hint.imm)] },
  { dst := some 131, op := POp.faddr 3 (Operand.tmp 14), guard := some (130, true), hints := [(14, Hint.at_ 14 0)] },
  { dst := some 132, op := POp.load false 1 (Operand.tmp 131), guard := some (130, true), hints := [(131, Hint.at_ 14 3)] },
  { dst := some 133, op := POp.prim (Prim.bin BinOp.leq 3 false true) [Operand.tmp 132, Operand.const (Value.int IntKind.i64 64)], guard := some (130, true), hints := [(132, Hint.imm)] },
  { dst := some 134, op := POp.pick (Operand.tmp 130) (Operand.tmp 133) (Operand.const (Value.bool false)), guard := some (114, true), hints := [(130, Hint.imm), (133, Hint.imm)] },
  { dst := some 135, op := POp.prim (Prim.bin BinOp.eql 4 false false) [Operand.tmp 116, Operand.tmp 134], guard := some (114, true), hints := [(116, Hint.imm), (134, Hint.imm)] },
  { dst := some 136, op := POp.pick (Operand.tmp 114) (Operand.tmp 135) (Operand.const (Value.bool false)), guard := none, hints := [(114, Hint.imm), (135, Hint.imm)] },
  { dst := some 12, op := POp.mv (Operand.tmp 136), guard := none, hints := [(136, Hint.imm)] }]
def pc10_c43 : PCode := .region none true pc10_o43
def pc10_c44 : PCode := .ret
def pc10_c45 : PCode := .seq pc10_c43 pc10_c44
def pc10_c46 : PCode := .seq pc10_c42 pc10_c45
def pc10_c47 : PCode := .seq pc10_c28 pc10_c46
def pc10_c48 : PCode := .seq pc10_c27 pc10_c47
def pc10_c49 : PCode := .seq pc10_c13 pc10_c48
def pc10_c50 : PCode := .seq pc10_c12 pc10_c49
def pc10_c51 : PCode := .seq pc10_c11 pc10_c50
def pc10_c52 : PCode := .seq pc10_c10 pc10_c51
def pc10_c53 : PCode := .seq pc10_c9 pc10_c52
def pc10_c54 : PCode := .seq pc10_c8 pc10_c53
def pc10_c55 : PCode := .seq pc10_c1 pc10_c54
def pc10_r : List PRes := [PRes.tmp 12 []]
def pc10 : PFunc := ⟨137, pc10_r, pc10_c55⟩
def pc10_a : Ann := {
  kr := fun
    | 9 => some ([13, 14, 15, 16, 17, 18], [13, 14])
    | 14 => some ([13, 14, 15, 16, 19, 20], [13, 14])
    | _ => none
  ka := fun
    | _ => 0
  kh := fun
    | 13 => some (Hint.at_ 13 0)
    | 14 => some (Hint.at_ 14 0)
    | 15 => some (Hint.imm)
    | 16 => some (Hint.imm)
    | 101 => some (Hint.imm)
    | 102 => some (Hint.imm)
    | 103 => some (Hint.imm)
    | 104 => some (Hint.imm)
    | 105 => some (Hint.imm)
    | 106 => some (Hint.imm)
    | 107 => some (Hint.imm)
    | 108 => some (Hint.imm)
    | 109 => some (Hint.imm)
    | 110 => some (Hint.imm)
    | 111 => some (Hint.imm)
    | 112 => some (Hint.imm)
    | 113 => some (Hint.imm)
    | 114 => some (Hint.imm)
    | 115 => some (Hint.imm)
    | 116 => some (Hint.imm)
    | 117 => some (Hint.at_ 14 0)
    | 118 => some (Hint.imm)
    | 119 => some (Hint.imm)
    | 120 => some (Hint.imm)
    | 121 => some (Hint.at_ 14 1)
    | 122 => some (Hint.imm)
    | 123 => some (Hint.imm)
    | 124 => some (Hint.imm)
    | 125 => some (Hint.imm)
    | 126 => some (Hint.at_ 14 2)
    | 127 => some (Hint.imm)
    | 128 => some (Hint.imm)
    | 129 => some (Hint.imm)
    | 130 => some (Hint.imm)
    | 131 => some (Hint.at_ 14 3)
    | 132 => some (Hint.imm)
    | 133 => some (Hint.imm)
    | 134 => some (Hint.imm)
    | 135 => some (Hint.imm)
    | 136 => some (Hint.imm)
    | _ => none }
theorem pc10_ok : compFn Try.prog pc10_a Try.f10 = some pc10 := by kernel_rfl


end Go.Proofs.Ytdnfamkokhgdbaa
