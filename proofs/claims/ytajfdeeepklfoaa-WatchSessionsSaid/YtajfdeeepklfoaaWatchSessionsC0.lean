/-
  Code of functions, as the pure machine runs it. No condition.
-/
import Derived.Test.YtajfdeeepklfoaaWatchSessionsT
namespace Go.Proofs.Ytajfdeeepklfoaa
open Go Go.Rx
set_option maxRecDepth 100000
set_option linter.unusedVariables false
set_option linter.unusedSimpArgs false
set_option linter.unnecessarySimpa false
-- 36: vedette/watch.New
def pc36_o1 : List POper := [{ dst := some 0, op := POp.mv (Operand.const (Value.pointer none)), guard := none, hints := [] }]
def pc36_c1 : PCode := .region none false pc36_o1
def pc36_o2 : List POper := [{ dst := some 1, op := POp.build (Value.agg { toList := [Value.bool false, Value.int IntKind.i64 0, Value.int IntKind.i64 0, Value.int IntKind.i64 0, Value.int IntKind.i64 0, Value.int IntKind.i64 0, Value.int IntKind.i64 0, Value.bool false, Value.int IntKind.i64 0, Value.int IntKind.i64 0, Value.int IntKind.i64 0, Value.int IntKind.i64 0, Value.int IntKind.i64 0, Value.int IntKind.i64 0, Value.bool false, Value.int IntKind.i64 0, Value.int IntKind.i64 0, Value.int IntKind.i64 0, Value.int IntKind.i64 0, Value.int IntKind.i64 0, Value.int IntKind.i64 0, Value.bool false, Value.int IntKind.i64 0, Value.int IntKind.i64 0, Value.int IntKind.i64 0, Value.int IntKind.i64 0, Value.int IntKind.i64 0, Value.int IntKind.i64 0] }) [], guard := none, hints := [] },
  { dst := some 2, op := POp.box 101 (Operand.tmp 1) [], guard := none, hints := [] },
  { dst := some 0, op := POp.mv (Operand.tmp 2), guard := none, hints := [] }]
def pc36_c2 : PCode := .region none false pc36_o2
def pc36_c3 : PCode := .ret
def pc36_c4 : PCode := .seq pc36_c2 pc36_c3
def pc36_c5 : PCode := .seq pc36_c1 pc36_c4
def pc36_r : List PRes := [PRes.tmp 0 []]
def pc36 : PFunc := ⟨3, pc36_r, pc36_c5, false⟩
def pc36_a : Ann := {
  kr := fun
    | _ => none
  ka := fun
    | _ => 0
  kh := fun
    | _ => none }
theorem pc36_ok : compFn Try.prog pc36_a Try.f36 = some pc36 := by kernel_rfl


-- 62: vedette/watch.Load
def pc62_o1 : List POper := [{ dst := some 1, op := POp.box 69 (Operand.tmp 0) [], guard := none, hints := [] },
  { dst := some 2, op := POp.mv (Operand.const (Value.pointer none)), guard := none, hints := [] }]
def pc62_c1 : PCode := .region none false pc62_o1
def pc62_o2 : List POper := [{ dst := some 3, op := POp.load true 28 (Operand.tmp 1), guard := none, hints := [] },
  { dst := some 4, op := POp.build (Value.agg { toList := [Value.bool false, Value.int IntKind.i64 0, Value.int IntKind.i64 0, Value.int IntKind.i64 0, Value.int IntKind.i64 0, Value.int IntKind.i64 0, Value.int IntKind.i64 0, Value.bool false, Value.int IntKind.i64 0, Value.int IntKind.i64 0, Value.int IntKind.i64 0, Value.int IntKind.i64 0, Value.int IntKind.i64 0, Value.int IntKind.i64 0, Value.bool false, Value.int IntKind.i64 0, Value.int IntKind.i64 0, Value.int IntKind.i64 0, Value.int IntKind.i64 0, Value.int IntKind.i64 0, Value.int IntKind.i64 0, Value.bool false, Value.int IntKind.i64 0, Value.int IntKind.i64 0, Value.int IntKind.i64 0, Value.int IntKind.i64 0, Value.int IntKind.i64 0, Value.int IntKind.i64 0] }) [(0, 28, Operand.tmp 3)], guard := none, hints := [] },
  { dst := some 5, op := POp.box 101 (Operand.tmp 4) [], guard := none, hints := [] },
  { dst := some 2, op := POp.mv (Operand.tmp 5), guard := none, hints := [] }]
def pc62_c2 : PCode := .region none false pc62_o2
def pc62_c3 : PCode := .ret
def pc62_c4 : PCode := .seq pc62_c2 pc62_c3
def pc62_c5 : PCode := .seq pc62_c1 pc62_c4
def pc62_r : List PRes := [PRes.tmp 2 []]
def pc62 : PFunc := ⟨6, pc62_r, pc62_c5, false⟩
def pc62_a : Ann := {
  kr := fun
    | _ => none
  ka := fun
    | _ => 0
  kh := fun
    | _ => none }
theorem pc62_ok : compFn Try.prog pc62_a Try.f62 = some pc62 := by kernel_rfl


-- 38: (*vedette/watch.Book).Copy
def pc38_o1 : List POper := [{ dst := some 2, op := POp.mv (Operand.const (Value.pointer none)), guard := none, hints := [] }]
def pc38_c1 : PCode := .region none false pc38_o1
def pc38_o2 : List POper := [{ dst := some 3, op := POp.mv (Operand.tmp 0), guard := none, hints := [] },
  { dst := some 4, op := POp.nilc (Operand.tmp 3), guard := none, hints := [] },
  { dst := some 5, op := POp.faddr 0 (Operand.tmp 4), guard := none, hints := [] },
  { dst := some 6, op := POp.load true 28 (Operand.tmp 5), guard := none, hints := [] },
  { dst := some 7, op := POp.gcall false false [300000, 300001, 300002, 300003, 300004, 300005, 300006, 300007] [[]] 62 [Operand.tmp 6], guard := none, hints := [] },
  { dst := some 2, op := POp.mv (Operand.tmp 7), guard := none, hints := [] }]
def pc38_c2 : PCode := .region none false pc38_o2
def pc38_c3 : PCode := .ret
def pc38_c4 : PCode := .seq pc38_c2 pc38_c3
def pc38_c5 : PCode := .seq pc38_c1 pc38_c4
def pc38_r : List PRes := [PRes.tmp 2 []]
def pc38 : PFunc := ⟨8, pc38_r, pc38_c5, false⟩
def pc38_a : Ann := {
  kr := fun
    | _ => none
  ka := fun
    | _ => 0
  kh := fun
    | _ => none
  gf := fun d f => match d, f with
    | some 7, 62 => some (false, false, [300000, 300001, 300002, 300003, 300004, 300005, 300006, 300007])
    | _, _ => none }
theorem pc38_ok : compFn Try.prog pc38_a Try.f38 = some pc38 := by kernel_rfl


-- 58: vedette/geom.Empty
def pc58_o1 : List POper := [{ dst := some 1, op := POp.box 24 (Operand.tmp 0) [], guard := none, hints := [] },
  { dst := some 2, op := POp.mv (Operand.const (Value.bool false)), guard := none, hints := [] }]
def pc58_c1 : PCode := .region none false pc58_o1
def pc58_o2 : List POper := [{ dst := some 3, op := POp.faddr 0 (Operand.tmp 1), guard := none, hints := [] },
  { dst := some 4, op := POp.load false 1 (Operand.tmp 3), guard := none, hints := [] },
  { dst := some 5, op := POp.faddr 2 (Operand.tmp 1), guard := none, hints := [] },
  { dst := some 6, op := POp.load false 1 (Operand.tmp 5), guard := none, hints := [] },
  { dst := some 7, op := POp.prim (Prim.bin BinOp.geq 3 false false) [Operand.tmp 4, Operand.tmp 6], guard := none, hints := [] },
  { dst := some 8, op := POp.mv (Operand.tmp 7), guard := none, hints := [] },
  { dst := some 9, op := POp.faddr 1 (Operand.tmp 1), guard := some (8, false), hints := [] },
  { dst := some 10, op := POp.load false 1 (Operand.tmp 9), guard := some (8, false), hints := [] },
  { dst := some 11, op := POp.faddr 3 (Operand.tmp 1), guard := some (8, false), hints := [] },
  { dst := some 12, op := POp.load false 1 (Operand.tmp 11), guard := some (8, false), hints := [] },
  { dst := some 13, op := POp.prim (Prim.bin BinOp.geq 3 false false) [Operand.tmp 10, Operand.tmp 12], guard := some (8, false), hints := [] },
  { dst := some 14, op := POp.pick (Operand.tmp 8) (Operand.const (Value.bool true)) (Operand.tmp 13), guard := none, hints := [] },
  { dst := some 2, op := POp.mv (Operand.tmp 14), guard := none, hints := [] }]
def pc58_c2 : PCode := .region none false pc58_o2
def pc58_c3 : PCode := .ret
def pc58_c4 : PCode := .seq pc58_c2 pc58_c3
def pc58_c5 : PCode := .seq pc58_c1 pc58_c4
def pc58_r : List PRes := [PRes.tmp 2 []]
def pc58 : PFunc := ⟨15, pc58_r, pc58_c5, false⟩
def pc58_a : Ann := {
  kr := fun
    | _ => none
  ka := fun
    | _ => 0
  kh := fun
    | _ => none }
theorem pc58_ok : compFn Try.prog pc58_a Try.f58 = some pc58 := by kernel_rfl


-- 80: vedette/geom.tidy
def pc80_o1 : List POper := [{ dst := some 1, op := POp.box 24 (Operand.tmp 0) [], guard := none, hints := [] },
  { dst := some 2, op := POp.alloc 24 (Value.agg { toList := [Value.int IntKind.i64 0, Value.int IntKind.i64 0, Value.int IntKind.i64 0, Value.int IntKind.i64 0] }) [], guard := none, hints := [] }]
def pc80_c1 : PCode := .region none false pc80_o1
def pc80_o2 : List POper := [{ dst := some 3, op := POp.load true 4 (Operand.tmp 1), guard := none, hints := [] },
  { dst := some 4, op := POp.call true [[]] 58 [Operand.tmp 3], guard := none, hints := [] }]
def pc80_c2 : PCode := .region none false pc80_o2
def pc80_o3 : List POper := [{ dst := some 5, op := POp.build (Value.agg { toList := [Value.int IntKind.i64 0, Value.int IntKind.i64 0, Value.int IntKind.i64 0, Value.int IntKind.i64 0] }) [], guard := none, hints := [] },
  { dst := none, op := POp.store 4 (Operand.tmp 2) (Operand.tmp 5), guard := none, hints := [] }]
def pc80_c3 : PCode := .region none false pc80_o3
def pc80_c4 : PCode := .ret
def pc80_c5 : PCode := .seq pc80_c3 pc80_c4
def pc80_c6 : PCode := .skip
def pc80_c7 : PCode := .cond (Operand.tmp 4) pc80_c5 pc80_c6
def pc80_c8 : PCode := .seq pc80_c2 pc80_c7
def pc80_o9 : List POper := [{ dst := some 6, op := POp.load true 4 (Operand.tmp 1), guard := none, hints := [] },
  { dst := none, op := POp.store 4 (Operand.tmp 2) (Operand.tmp 6), guard := none, hints := [] }]
def pc80_c9 : PCode := .region none false pc80_o9
def pc80_c10 : PCode := .ret
def pc80_c11 : PCode := .seq pc80_c9 pc80_c10
def pc80_c12 : PCode := .seq pc80_c8 pc80_c11
def pc80_c13 : PCode := .seq pc80_c1 pc80_c12
def pc80_r : List PRes := [PRes.cell 2 true 4 []]
def pc80 : PFunc := ⟨7, pc80_r, pc80_c13, false⟩
def pc80_a : Ann := {
  kr := fun
    | _ => none
  ka := fun
    | _ => 0
  kh := fun
    | _ => none }
theorem pc80_ok : compFn Try.prog pc80_a Try.f80 = some pc80 := by kernel_rfl


-- 67: vedette/geom.Meet
def pc67_o1 : List POper := [{ dst := some 2, op := POp.box 24 (Operand.tmp 0) [], guard := none, hints := [] },
  { dst := some 3, op := POp.box 24 (Operand.tmp 1) [], guard := none, hints := [] },
  { dst := some 4, op := POp.alloc 24 (Value.agg { toList := [Value.int IntKind.i64 0, Value.int IntKind.i64 0, Value.int IntKind.i64 0, Value.int IntKind.i64 0] }) [], guard := none, hints := [] }]
def pc67_c1 : PCode := .region none false pc67_o1
def pc67_o2 : List POper := [{ dst := some 5, op := POp.faddr 0 (Operand.tmp 2), guard := none, hints := [] },
  { dst := some 6, op := POp.load false 1 (Operand.tmp 5), guard := none, hints := [] },
  { dst := some 7, op := POp.faddr 0 (Operand.tmp 3), guard := none, hints := [] },
  { dst := some 8, op := POp.load false 1 (Operand.tmp 7), guard := none, hints := [] },
  { dst := some 9, op := POp.prim Prim.max [Operand.tmp 6, Operand.tmp 8], guard := none, hints := [] },
  { dst := some 10, op := POp.faddr 1 (Operand.tmp 2), guard := none, hints := [] },
  { dst := some 11, op := POp.load false 1 (Operand.tmp 10), guard := none, hints := [] },
  { dst := some 12, op := POp.faddr 1 (Operand.tmp 3), guard := none, hints := [] },
  { dst := some 13, op := POp.load false 1 (Operand.tmp 12), guard := none, hints := [] },
  { dst := some 14, op := POp.prim Prim.max [Operand.tmp 11, Operand.tmp 13], guard := none, hints := [] },
  { dst := some 15, op := POp.faddr 2 (Operand.tmp 2), guard := none, hints := [] },
  { dst := some 16, op := POp.load false 1 (Operand.tmp 15), guard := none, hints := [] },
  { dst := some 17, op := POp.faddr 2 (Operand.tmp 3), guard := none, hints := [] },
  { dst := some 18, op := POp.load false 1 (Operand.tmp 17), guard := none, hints := [] },
  { dst := some 19, op := POp.prim Prim.min [Operand.tmp 16, Operand.tmp 18], guard := none, hints := [] },
  { dst := some 20, op := POp.faddr 3 (Operand.tmp 2), guard := none, hints := [] },
  { dst := some 21, op := POp.load false 1 (Operand.tmp 20), guard := none, hints := [] },
  { dst := some 22, op := POp.faddr 3 (Operand.tmp 3), guard := none, hints := [] },
  { dst := some 23, op := POp.load false 1 (Operand.tmp 22), guard := none, hints := [] },
  { dst := some 24, op := POp.prim Prim.min [Operand.tmp 21, Operand.tmp 23], guard := none, hints := [] },
  { dst := some 25, op := POp.build (Value.agg { toList := [Value.int IntKind.i64 0, Value.int IntKind.i64 0, Value.int IntKind.i64 0, Value.int IntKind.i64 0] }) [(0, 1, Operand.tmp 9), (1, 1, Operand.tmp 14), (2, 1, Operand.tmp 19), (3, 1, Operand.tmp 24)], guard := none, hints := [] },
  { dst := some 26, op := POp.call true [[]] 80 [Operand.tmp 25], guard := none, hints := [] },
  { dst := none, op := POp.store 4 (Operand.tmp 4) (Operand.tmp 26), guard := none, hints := [] }]
def pc67_c2 : PCode := .region none false pc67_o2
def pc67_c3 : PCode := .ret
def pc67_c4 : PCode := .seq pc67_c2 pc67_c3
def pc67_c5 : PCode := .seq pc67_c1 pc67_c4
def pc67_r : List PRes := [PRes.cell 4 true 4 []]
def pc67 : PFunc := ⟨27, pc67_r, pc67_c5, false⟩
def pc67_a : Ann := {
  kr := fun
    | _ => none
  ka := fun
    | _ => 0
  kh := fun
    | _ => none }
theorem pc67_ok : compFn Try.prog pc67_a Try.f67 = some pc67 := by kernel_rfl


-- 45: vedette/watch.Clip
def pc45_o1 : List POper := [{ dst := some 1, op := POp.box 24 (Operand.tmp 0) [], guard := none, hints := [] },
  { dst := some 2, op := POp.alloc 24 (Value.agg { toList := [Value.int IntKind.i64 0, Value.int IntKind.i64 0, Value.int IntKind.i64 0, Value.int IntKind.i64 0] }) [], guard := none, hints := [] }]
def pc45_c1 : PCode := .region none false pc45_o1
def pc45_o2 : List POper := [{ dst := some 3, op := POp.load true 4 (Operand.tmp 1), guard := none, hints := [] },
  { dst := some 4, op := POp.build (Value.agg { toList := [Value.int IntKind.i64 0, Value.int IntKind.i64 0, Value.int IntKind.i64 0, Value.int IntKind.i64 0] }) [(2, 1, Operand.const (Value.int IntKind.i64 64)), (3, 1, Operand.const (Value.int IntKind.i64 64))], guard := none, hints := [] },
  { dst := some 5, op := POp.call true [[], []] 67 [Operand.tmp 3, Operand.tmp 4], guard := none, hints := [] },
  { dst := none, op := POp.store 4 (Operand.tmp 2) (Operand.tmp 5), guard := none, hints := [] }]
def pc45_c2 : PCode := .region none false pc45_o2
def pc45_c3 : PCode := .ret
def pc45_c4 : PCode := .seq pc45_c2 pc45_c3
def pc45_c5 : PCode := .seq pc45_c1 pc45_c4
def pc45_r : List PRes := [PRes.cell 2 true 4 []]
def pc45 : PFunc := ⟨6, pc45_r, pc45_c5, false⟩
def pc45_a : Ann := {
  kr := fun
    | _ => none
  ka := fun
    | _ => 0
  kh := fun
    | _ => none }
theorem pc45_ok : compFn Try.prog pc45_a Try.f45 = some pc45 := by kernel_rfl


-- 73: vedette/fields.IsField
def pc73_o1 : List POper := [{ dst := some 1, op := POp.box 36 (Operand.tmp 0) [], guard := none, hints := [] },
  { dst := some 2, op := POp.mv (Operand.const (Value.bool false)), guard := none, hints := [] }]
def pc73_c1 : PCode := .region none false pc73_o1
def pc73_o2 : List POper := [{ dst := some 3, op := POp.faddr 0 (Operand.tmp 1), guard := none, hints := [] },
  { dst := some 4, op := POp.load false 1 (Operand.tmp 3), guard := none, hints := [] },
  { dst := some 5, op := POp.prim (Prim.bin BinOp.eql 2 false true) [Operand.tmp 4, Operand.const (Value.int IntKind.i64 0)], guard := none, hints := [] },
  { dst := some 6, op := POp.mv (Operand.tmp 5), guard := none, hints := [] },
  { dst := some 7, op := POp.faddr 1 (Operand.tmp 1), guard := some (6, false), hints := [] },
  { dst := some 8, op := POp.load false 1 (Operand.tmp 7), guard := some (6, false), hints := [] },
  { dst := some 9, op := POp.prim (Prim.bin BinOp.eql 9 false true) [Operand.tmp 8, Operand.const (Value.string { data := { toList := [] } })], guard := some (6, false), hints := [] },
  { dst := some 10, op := POp.pick (Operand.tmp 6) (Operand.const (Value.bool true)) (Operand.tmp 9), guard := none, hints := [] },
  { dst := some 11, op := POp.mv (Operand.tmp 10), guard := none, hints := [] },
  { dst := some 12, op := POp.faddr 1 (Operand.tmp 1), guard := some (11, true), hints := [] },
  { dst := some 13, op := POp.load false 1 (Operand.tmp 12), guard := some (11, true), hints := [] },
  { dst := some 14, op := POp.prim (Prim.len 9) [Operand.tmp 13], guard := some (11, true), hints := [] },
  { dst := some 15, op := POp.prim (Prim.bin BinOp.leq 3 false true) [Operand.tmp 14, Operand.const (Value.int IntKind.i64 12)], guard := some (11, true), hints := [] },
  { dst := some 16, op := POp.pick (Operand.tmp 11) (Operand.tmp 15) (Operand.const (Value.bool false)), guard := none, hints := [] },
  { dst := some 2, op := POp.mv (Operand.tmp 16), guard := none, hints := [] }]
def pc73_c2 : PCode := .region none false pc73_o2
def pc73_c3 : PCode := .ret
def pc73_c4 : PCode := .seq pc73_c2 pc73_c3
def pc73_c5 : PCode := .seq pc73_c1 pc73_c4
def pc73_r : List PRes := [PRes.tmp 2 []]
def pc73 : PFunc := ⟨17, pc73_r, pc73_c5, false⟩
def pc73_a : Ann := {
  kr := fun
    | _ => none
  ka := fun
    | _ => 0
  kh := fun
    | _ => none }
theorem pc73_ok : compFn Try.prog pc73_a Try.f73 = some pc73 := by kernel_rfl


-- 74: vedette/cmd.core
def pc74_o1 : List POper := [{ dst := some 1, op := POp.box 74 (Operand.tmp 0) [], guard := none, hints := [] },
  { dst := some 2, op := POp.alloc 74 (Value.agg { toList := [Value.int IntKind.i64 0, Value.int IntKind.i64 0, Value.int IntKind.i64 0, Value.int IntKind.i64 0, Value.int IntKind.i64 0, Value.int IntKind.i64 0, Value.int IntKind.i64 0, Value.string { data := { toList := [] } }, Value.int IntKind.i64 0, Value.string { data := { toList := [] } }, Value.int IntKind.i64 0, Value.string { data := { toList := [] } }, Value.int IntKind.i64 0, Value.string { data := { toList := [] } }, Value.int IntKind.i64 0, Value.string { data := { toList := [] } }, Value.int IntKind.i64 0, Value.int IntKind.i64 0, Value.int IntKind.i64 0, Value.int IntKind.i64 0, Value.int IntKind.i64 0, Value.int IntKind.i64 0] }) [], guard := none, hints := [] }]
def pc74_c1 : PCode := .region none false pc74_o1
def pc74_o2 : List POper := [{ dst := some 4, op := POp.faddr 0 (Operand.tmp 1), guard := none, hints := [] },
  { dst := some 5, op := POp.load false 1 (Operand.tmp 4), guard := none, hints := [] },
  { dst := some 6, op := POp.faddr 16 (Operand.tmp 1), guard := none, hints := [] },
  { dst := some 7, op := POp.load false 1 (Operand.tmp 6), guard := none, hints := [] },
  { dst := some 8, op := POp.faddr 17 (Operand.tmp 1), guard := none, hints := [] },
  { dst := some 9, op := POp.load false 1 (Operand.tmp 8), guard := none, hints := [] },
  { dst := some 10, op := POp.build (Value.agg { toList := [Value.int IntKind.i64 0, Value.int IntKind.i64 0, Value.int IntKind.i64 0, Value.int IntKind.i64 0, Value.int IntKind.i64 0, Value.int IntKind.i64 0, Value.int IntKind.i64 0, Value.string { data := { toList := [] } }, Value.int IntKind.i64 0, Value.string { data := { toList := [] } }, Value.int IntKind.i64 0, Value.string { data := { toList := [] } }, Value.int IntKind.i64 0, Value.string { data := { toList := [] } }, Value.int IntKind.i64 0, Value.string { data := { toList := [] } }, Value.int IntKind.i64 0, Value.int IntKind.i64 0, Value.int IntKind.i64 0, Value.int IntKind.i64 0, Value.int IntKind.i64 0, Value.int IntKind.i64 0] }) [(0, 1, Operand.tmp 5), (16, 1, Operand.tmp 7), (17, 1, Operand.tmp 9)], guard := none, hints := [] },
  { dst := some 3, op := POp.alloc 74 (Value.agg { toList := [Value.int IntKind.i64 0, Value.int IntKind.i64 0, Value.int IntKind.i64 0, Value.int IntKind.i64 0, Value.int IntKind.i64 0, Value.int IntKind.i64 0, Value.int IntKind.i64 0, Value.string { data := { toList := [] } }, Value.int IntKind.i64 0, Value.string { data := { toList := [] } }, Value.int IntKind.i64 0, Value.string { data := { toList := [] } }, Value.int IntKind.i64 0, Value.string { data := { toList := [] } }, Value.int IntKind.i64 0, Value.string { data := { toList := [] } }, Value.int IntKind.i64 0, Value.int IntKind.i64 0, Value.int IntKind.i64 0, Value.int IntKind.i64 0, Value.int IntKind.i64 0, Value.int IntKind.i64 0] }) [], guard := none, hints := [] },
  { dst := none, op := POp.store 22 (Operand.tmp 3) (Operand.tmp 10), guard := none, hints := [] }]
def pc74_c2 : PCode := .region none false pc74_o2
def pc74_o3 : List POper := [{ dst := some 11, op := POp.faddr 0 (Operand.tmp 1), guard := none, hints := [] },
  { dst := some 12, op := POp.load false 1 (Operand.tmp 11), guard := none, hints := [] }]
def pc74_c3 : PCode := .region none false pc74_o3
def pc74_o4 : List POper := [{ dst := some 14, op := POp.prim (Prim.bin BinOp.eql 3 false true) [Operand.tmp 12, Operand.const (Value.int IntKind.i64 1)], guard := none, hints := [] },
  { dst := some 13, op := POp.mv (Operand.tmp 14), guard := none, hints := [] }]
def pc74_c4 : PCode := .region none false pc74_o4
def pc74_o5 : List POper := [{ dst := some 15, op := POp.faddr 4 (Operand.tmp 1), guard := none, hints := [(1, Hint.at_ 1 0)] },
  { dst := some 16, op := POp.load true 2 (Operand.tmp 15), guard := none, hints := [(15, Hint.at_ 1 4)] },
  { dst := some 17, op := POp.faddr 6 (Operand.tmp 1), guard := none, hints := [(1, Hint.at_ 1 0)] },
  { dst := some 18, op := POp.load true 8 (Operand.tmp 17), guard := none, hints := [(17, Hint.at_ 1 6)] },
  { dst := some 19, op := POp.faddr 4 (Operand.tmp 3), guard := none, hints := [(3, Hint.at_ 3 0)] },
  { dst := none, op := POp.store 2 (Operand.tmp 19) (Operand.tmp 16), guard := none, hints := [(19, Hint.at_ 3 4), (16, Hint.imm)] },
  { dst := some 20, op := POp.faddr 6 (Operand.tmp 3), guard := none, hints := [(3, Hint.at_ 3 0)] },
  { dst := none, op := POp.store 8 (Operand.tmp 20) (Operand.tmp 18), guard := none, hints := [(20, Hint.at_ 3 6), (18, Hint.imm)] }]
def pc74_c5 : PCode := .region none true pc74_o5
def pc74_o6 : List POper := [{ dst := some 22, op := POp.prim (Prim.bin BinOp.eql 3 false true) [Operand.tmp 12, Operand.const (Value.int IntKind.i64 2)], guard := none, hints := [] },
  { dst := some 21, op := POp.mv (Operand.tmp 22), guard := none, hints := [] }]
def pc74_c6 : PCode := .region none false pc74_o6
def pc74_o7 : List POper := [{ dst := some 23, op := POp.faddr 1 (Operand.tmp 1), guard := none, hints := [(1, Hint.at_ 1 0)] },
  { dst := some 24, op := POp.load false 1 (Operand.tmp 23), guard := none, hints := [(23, Hint.at_ 1 1)] },
  { dst := some 25, op := POp.faddr 4 (Operand.tmp 1), guard := none, hints := [(1, Hint.at_ 1 0)] },
  { dst := some 26, op := POp.load true 2 (Operand.tmp 25), guard := none, hints := [(25, Hint.at_ 1 4)] },
  { dst := some 27, op := POp.faddr 1 (Operand.tmp 3), guard := none, hints := [(3, Hint.at_ 3 0)] },
  { dst := none, op := POp.store 1 (Operand.tmp 27) (Operand.tmp 24), guard := none, hints := [(27, Hint.at_ 3 1), (24, Hint.imm)] },
  { dst := some 28, op := POp.faddr 4 (Operand.tmp 3), guard := none, hints := [(3, Hint.at_ 3 0)] },
  { dst := none, op := POp.store 2 (Operand.tmp 28) (Operand.tmp 26), guard := none, hints := [(28, Hint.at_ 3 4), (26, Hint.imm)] }]
def pc74_c7 : PCode := .region none true pc74_o7
def pc74_o8 : List POper := [{ dst := some 30, op := POp.prim (Prim.bin BinOp.eql 3 false true) [Operand.tmp 12, Operand.const (Value.int IntKind.i64 3)], guard := none, hints := [] },
  { dst := some 29, op := POp.mv (Operand.tmp 30), guard := none, hints := [] }]
def pc74_c8 : PCode := .region none false pc74_o8
def pc74_o9 : List POper := [{ dst := some 31, op := POp.faddr 1 (Operand.tmp 1), guard := none, hints := [(1, Hint.at_ 1 0)] },
  { dst := some 32, op := POp.load false 1 (Operand.tmp 31), guard := none, hints := [(31, Hint.at_ 1 1)] },
  { dst := some 33, op := POp.faddr 2 (Operand.tmp 1), guard := none, hints := [(1, Hint.at_ 1 0)] },
  { dst := some 34, op := POp.load false 1 (Operand.tmp 33), guard := none, hints := [(33, Hint.at_ 1 2)] },
  { dst := some 35, op := POp.faddr 14 (Operand.tmp 1), guard := none, hints := [(1, Hint.at_ 1 0)] },
  { dst := some 36, op := POp.load true 2 (Operand.tmp 35), guard := none, hints := [(35, Hint.at_ 1 14)] },
  { dst := some 37, op := POp.faddr 1 (Operand.tmp 3), guard := none, hints := [(3, Hint.at_ 3 0)] },
  { dst := none, op := POp.store 1 (Operand.tmp 37) (Operand.tmp 32), guard := none, hints := [(37, Hint.at_ 3 1), (32, Hint.imm)] },
  { dst := some 38, op := POp.faddr 2 (Operand.tmp 3), guard := none, hints := [(3, Hint.at_ 3 0)] },
  { dst := none, op := POp.store 1 (Operand.tmp 38) (Operand.tmp 34), guard := none, hints := [(38, Hint.at_ 3 2), (34, Hint.imm)] },
  { dst := some 39, op := POp.faddr 14 (Operand.tmp 3), guard := none, hints := [(3, Hint.at_ 3 0)] },
  { dst := none, op := POp.store 2 (Operand.tmp 39) (Operand.tmp 36), guard := none, hints := [(39, Hint.at_ 3 14), (36, Hint.imm)] }]
def pc74_c9 : PCode := .region none true pc74_o9
def pc74_o10 : List POper := [{ dst := some 41, op := POp.prim (Prim.bin BinOp.eql 3 false true) [Operand.tmp 12, Operand.const (Value.int IntKind.i64 4)], guard := none, hints := [] },
  { dst := some 40, op := POp.mv (Operand.tmp 41), guard := none, hints := [] }]
def pc74_c10 : PCode := .region none false pc74_o10
def pc74_o11 : List POper := [{ dst := some 42, op := POp.faddr 1 (Operand.tmp 1), guard := none, hints := [] },
  { dst := some 43, op := POp.load false 1 (Operand.tmp 42), guard := none, hints := [] },
  { dst := some 44, op := POp.faddr 1 (Operand.tmp 3), guard := none, hints := [] },
  { dst := none, op := POp.store 1 (Operand.tmp 44) (Operand.tmp 43), guard := none, hints := [] }]
def pc74_c11 : PCode := .region none false pc74_o11
def pc74_o12 : List POper := [{ dst := some 46, op := POp.prim (Prim.bin BinOp.eql 3 false true) [Operand.tmp 12, Operand.const (Value.int IntKind.i64 5)], guard := none, hints := [] },
  { dst := some 45, op := POp.mv (Operand.tmp 46), guard := none, hints := [] }]
def pc74_c12 : PCode := .region none false pc74_o12
def pc74_o13 : List POper := [{ dst := some 47, op := POp.faddr 2 (Operand.tmp 1), guard := none, hints := [(1, Hint.at_ 1 0)] },
  { dst := some 48, op := POp.load false 1 (Operand.tmp 47), guard := none, hints := [(47, Hint.at_ 1 2)] },
  { dst := some 49, op := POp.faddr 3 (Operand.tmp 1), guard := none, hints := [(1, Hint.at_ 1 0)] },
  { dst := some 50, op := POp.load false 1 (Operand.tmp 49), guard := none, hints := [(49, Hint.at_ 1 3)] },
  { dst := some 51, op := POp.faddr 2 (Operand.tmp 3), guard := none, hints := [(3, Hint.at_ 3 0)] },
  { dst := none, op := POp.store 1 (Operand.tmp 51) (Operand.tmp 48), guard := none, hints := [(51, Hint.at_ 3 2), (48, Hint.imm)] },
  { dst := some 52, op := POp.faddr 3 (Operand.tmp 3), guard := none, hints := [(3, Hint.at_ 3 0)] },
  { dst := none, op := POp.store 1 (Operand.tmp 52) (Operand.tmp 50), guard := none, hints := [(52, Hint.at_ 3 3), (50, Hint.imm)] }]
def pc74_c13 : PCode := .region none true pc74_o13
def pc74_o14 : List POper := [{ dst := some 54, op := POp.prim (Prim.bin BinOp.eql 3 false true) [Operand.tmp 12, Operand.const (Value.int IntKind.i64 6)], guard := none, hints := [] },
  { dst := some 53, op := POp.mv (Operand.tmp 54), guard := none, hints := [] }]
def pc74_c14 : PCode := .region none false pc74_o14
def pc74_c15 : PCode := .skip
def pc74_o16 : List POper := [{ dst := some 55, op := POp.prim (Prim.bin BinOp.eql 3 false true) [Operand.tmp 12, Operand.const (Value.int IntKind.i64 7)], guard := none, hints := [] },
  { dst := some 53, op := POp.mv (Operand.tmp 55), guard := none, hints := [] }]
def pc74_c16 : PCode := .region none false pc74_o16
def pc74_c17 : PCode := .cond (Operand.tmp 53) pc74_c15 pc74_c16
def pc74_c18 : PCode := .seq pc74_c14 pc74_c17
def pc74_o19 : List POper := [{ dst := some 56, op := POp.faddr 18 (Operand.tmp 1), guard := none, hints := [] },
  { dst := some 57, op := POp.load true 4 (Operand.tmp 56), guard := none, hints := [] },
  { dst := some 58, op := POp.faddr 18 (Operand.tmp 3), guard := none, hints := [] },
  { dst := none, op := POp.store 4 (Operand.tmp 58) (Operand.tmp 57), guard := none, hints := [] }]
def pc74_c19 : PCode := .region none false pc74_o19
def pc74_c20 : PCode := .skip
def pc74_c21 : PCode := .cond (Operand.tmp 53) pc74_c19 pc74_c20
def pc74_c22 : PCode := .seq pc74_c18 pc74_c21
def pc74_c23 : PCode := .cond (Operand.tmp 45) pc74_c13 pc74_c22
def pc74_c24 : PCode := .seq pc74_c12 pc74_c23
def pc74_c25 : PCode := .cond (Operand.tmp 40) pc74_c11 pc74_c24
def pc74_c26 : PCode := .seq pc74_c10 pc74_c25
def pc74_c27 : PCode := .cond (Operand.tmp 29) pc74_c9 pc74_c26
def pc74_c28 : PCode := .seq pc74_c8 pc74_c27
def pc74_c29 : PCode := .cond (Operand.tmp 21) pc74_c7 pc74_c28
def pc74_c30 : PCode := .seq pc74_c6 pc74_c29
def pc74_c31 : PCode := .cond (Operand.tmp 13) pc74_c5 pc74_c30
def pc74_c32 : PCode := .seq pc74_c4 pc74_c31
def pc74_c33 : PCode := .block 0 pc74_c32
def pc74_c34 : PCode := .seq pc74_c3 pc74_c33
def pc74_o35 : List POper := [{ dst := some 59, op := POp.load true 22 (Operand.tmp 3), guard := none, hints := [] },
  { dst := none, op := POp.store 22 (Operand.tmp 2) (Operand.tmp 59), guard := none, hints := [] }]
def pc74_c35 : PCode := .region none false pc74_o35
def pc74_c36 : PCode := .ret
def pc74_c37 : PCode := .seq pc74_c35 pc74_c36
def pc74_c38 : PCode := .seq pc74_c34 pc74_c37
def pc74_c39 : PCode := .seq pc74_c2 pc74_c38
def pc74_c40 : PCode := .seq pc74_c1 pc74_c39
def pc74_r : List PRes := [PRes.cell 2 true 22 []]
def pc74 : PFunc := ⟨60, pc74_r, pc74_c40, false⟩
def pc74_a : Ann := {
  kr := fun
    | _ => none
  ka := fun
    | _ => 0
  kh := fun
    | 1 => some (Hint.at_ 1 0)
    | 3 => some (Hint.at_ 3 0)
    | 15 => some (Hint.at_ 1 4)
    | 16 => some (Hint.imm)
    | 17 => some (Hint.at_ 1 6)
    | 18 => some (Hint.imm)
    | 19 => some (Hint.at_ 3 4)
    | 20 => some (Hint.at_ 3 6)
    | 23 => some (Hint.at_ 1 1)
    | 24 => some (Hint.imm)
    | 25 => some (Hint.at_ 1 4)
    | 26 => some (Hint.imm)
    | 27 => some (Hint.at_ 3 1)
    | 28 => some (Hint.at_ 3 4)
    | 31 => some (Hint.at_ 1 1)
    | 32 => some (Hint.imm)
    | 33 => some (Hint.at_ 1 2)
    | 34 => some (Hint.imm)
    | 35 => some (Hint.at_ 1 14)
    | 36 => some (Hint.imm)
    | 37 => some (Hint.at_ 3 1)
    | 38 => some (Hint.at_ 3 2)
    | 39 => some (Hint.at_ 3 14)
    | 47 => some (Hint.at_ 1 2)
    | 48 => some (Hint.imm)
    | 49 => some (Hint.at_ 1 3)
    | 50 => some (Hint.imm)
    | 51 => some (Hint.at_ 3 2)
    | 52 => some (Hint.at_ 3 3)
    | _ => none }
theorem pc74_ok : compFn Try.prog pc74_a Try.f74 = some pc74 := by kernel_rfl


-- 75: vedette/cmd.near
def pc75_o1 : List POper := [{ dst := some 2, op := POp.mv (Operand.const (Value.bool false)), guard := none, hints := [] }]
def pc75_c1 : PCode := .region none false pc75_o1
def pc75_c2 : PCode := .label
def pc75_o3 : List POper := [{ dst := some 5, op := POp.mv (Operand.tmp 0), guard := none, hints := [] },
  { dst := some 6, op := POp.lenS (Operand.tmp 5), guard := none, hints := [] },
  { dst := some 7, op := POp.mv (Operand.const (Value.int IntKind.i64 0)), guard := none, hints := [] }]
def pc75_c3 : PCode := .region none false pc75_o3
def pc75_o4 : List POper := [{ dst := some 8, op := POp.prim (Prim.bin BinOp.lss 3 false false) [Operand.tmp 7, Operand.tmp 6], guard := none, hints := [] }]
def pc75_c4 : PCode := .region (some ([5, 6, 7], [], [])) false pc75_o4
def pc75_c5 : PCode := .skip
def pc75_c6 : PCode := .exit 0
def pc75_c7 : PCode := .cond (Operand.tmp 8) pc75_c5 pc75_c6
def pc75_o8 : List POper := [{ dst := some 9, op := POp.iaddrS 1 (Operand.tmp 5) (Operand.tmp 7), guard := none, hints := [] },
  { dst := some 10, op := POp.load false 1 (Operand.tmp 9), guard := none, hints := [] },
  { dst := some 4, op := POp.mv (Operand.tmp 10), guard := none, hints := [] }]
def pc75_c8 : PCode := .region none false pc75_o8
def pc75_o9 : List POper := [{ dst := some 11, op := POp.mv (Operand.tmp 4), guard := none, hints := [] },
  { dst := some 12, op := POp.prim (Prim.bin BinOp.geq 3 false true) [Operand.tmp 11, Operand.const (Value.int IntKind.i64 (-1000))], guard := none, hints := [] },
  { dst := some 13, op := POp.mv (Operand.tmp 12), guard := none, hints := [] },
  { dst := some 14, op := POp.mv (Operand.tmp 4), guard := some (13, true), hints := [] },
  { dst := some 15, op := POp.prim (Prim.bin BinOp.leq 3 false true) [Operand.tmp 14, Operand.const (Value.int IntKind.i64 1000)], guard := some (13, true), hints := [] },
  { dst := some 16, op := POp.pick (Operand.tmp 13) (Operand.tmp 15) (Operand.const (Value.bool false)), guard := none, hints := [] }]
def pc75_c9 : PCode := .region none false pc75_o9
def pc75_c10 : PCode := .exit 1
def pc75_c11 : PCode := .skip
def pc75_c12 : PCode := .cond (Operand.tmp 16) pc75_c10 pc75_c11
def pc75_c13 : PCode := .seq pc75_c9 pc75_c12
def pc75_o14 : List POper := [{ dst := some 2, op := POp.mv (Operand.const (Value.bool false)), guard := none, hints := [] }]
def pc75_c14 : PCode := .region none false pc75_o14
def pc75_c15 : PCode := .ret
def pc75_c16 : PCode := .seq pc75_c14 pc75_c15
def pc75_c17 : PCode := .seq pc75_c13 pc75_c16
def pc75_c18 : PCode := .seq pc75_c8 pc75_c17
def pc75_c19 : PCode := .block 1 pc75_c18
def pc75_o20 : List POper := [{ dst := some 17, op := POp.prim (Prim.bin BinOp.add 3 false true) [Operand.tmp 7, Operand.const (Value.int IntKind.i64 1)], guard := none, hints := [] },
  { dst := some 7, op := POp.mv (Operand.tmp 17), guard := none, hints := [] }]
def pc75_c20 : PCode := .region none false pc75_o20
def pc75_c21 : PCode := .seq pc75_c19 pc75_c20
def pc75_c22 : PCode := .seq pc75_c7 pc75_c21
def pc75_c23 : PCode := .seq pc75_c4 pc75_c22
def pc75_c24 : PCode := .loop pc75_c23
def pc75_c25 : PCode := .block 0 pc75_c24
def pc75_c26 : PCode := .seq pc75_c3 pc75_c25
def pc75_o27 : List POper := [{ dst := some 2, op := POp.mv (Operand.const (Value.bool true)), guard := none, hints := [] }]
def pc75_c27 : PCode := .region none false pc75_o27
def pc75_c28 : PCode := .ret
def pc75_c29 : PCode := .seq pc75_c27 pc75_c28
def pc75_c30 : PCode := .seq pc75_c26 pc75_c29
def pc75_c31 : PCode := .seq pc75_c2 pc75_c30
def pc75_c32 : PCode := .scope pc75_c31
def pc75_c33 : PCode := .seq pc75_c1 pc75_c32
def pc75_r : List PRes := [PRes.tmp 2 []]
def pc75 : PFunc := ⟨18, pc75_r, pc75_c33, false⟩
def pc75_a : Ann := {
  kr := fun
    | 2 => some ([5, 6, 7], [], [])
    | _ => none
  ka := fun
    | _ => 0
  kh := fun
    | _ => none }
theorem pc75_ok : compFn Try.prog pc75_a Try.f75 = some pc75 := by kernel_rfl


-- 63: vedette/cmd.Is
def pc63_o1 : List POper := [{ dst := some 1, op := POp.box 74 (Operand.tmp 0) [], guard := none, hints := [] },
  { dst := some 2, op := POp.mv (Operand.const (Value.bool false)), guard := none, hints := [] }]
def pc63_c1 : PCode := .region none false pc63_o1
def pc63_o2 : List POper := [{ dst := some 8, op := POp.faddr 6 (Operand.tmp 1), guard := none, hints := [] },
  { dst := some 9, op := POp.load true 8 (Operand.tmp 8), guard := none, hints := [] },
  { dst := some 10, op := POp.mv (Operand.const (Value.int IntKind.i64 0)), guard := none, hints := [] }]
def pc63_c2 : PCode := .region none false pc63_o2
def pc63_o3 : List POper := [{ dst := some 11, op := POp.prim (Prim.bin BinOp.lss 3 false true) [Operand.tmp 10, Operand.const (Value.int IntKind.i64 4)], guard := none, hints := [] }]
def pc63_c3 : PCode := .region (some ([1, 9, 10], [1, 4], [])) false pc63_o3
def pc63_c4 : PCode := .skip
def pc63_c5 : PCode := .exit 0
def pc63_c6 : PCode := .cond (Operand.tmp 11) pc63_c4 pc63_c5
def pc63_o7 : List POper := [{ dst := some 12, op := POp.idx true 2 4 (Operand.tmp 9) (Operand.tmp 10), guard := none, hints := [] },
  { dst := some 4, op := POp.alloc 36 (Value.agg { toList := [Value.int IntKind.i64 0, Value.string { data := { toList := [] } }] }) [], guard := none, hints := [] },
  { dst := none, op := POp.store 2 (Operand.tmp 4) (Operand.tmp 12), guard := none, hints := [] }]
def pc63_c7 : PCode := .region none false pc63_o7
def pc63_o8 : List POper := [{ dst := some 13, op := POp.load true 2 (Operand.tmp 4), guard := none, hints := [] },
  { dst := some 14, op := POp.call true [[]] 73 [Operand.tmp 13], guard := none, hints := [] },
  { dst := some 15, op := POp.prim (Prim.un UnOp.not) [Operand.tmp 14], guard := none, hints := [] }]
def pc63_c8 : PCode := .region none false pc63_o8
def pc63_o9 : List POper := [{ dst := some 2, op := POp.mv (Operand.const (Value.bool false)), guard := none, hints := [] }]
def pc63_c9 : PCode := .region none false pc63_o9
def pc63_c10 : PCode := .ret
def pc63_c11 : PCode := .seq pc63_c9 pc63_c10
def pc63_c12 : PCode := .skip
def pc63_c13 : PCode := .cond (Operand.tmp 15) pc63_c11 pc63_c12
def pc63_c14 : PCode := .seq pc63_c8 pc63_c13
def pc63_c15 : PCode := .seq pc63_c7 pc63_c14
def pc63_c16 : PCode := .block 1 pc63_c15
def pc63_o17 : List POper := [{ dst := some 16, op := POp.prim (Prim.bin BinOp.add 3 false true) [Operand.tmp 10, Operand.const (Value.int IntKind.i64 1)], guard := none, hints := [] },
  { dst := some 10, op := POp.mv (Operand.tmp 16), guard := none, hints := [] }]
def pc63_c17 : PCode := .region none false pc63_o17
def pc63_c18 : PCode := .seq pc63_c16 pc63_c17
def pc63_c19 : PCode := .seq pc63_c6 pc63_c18
def pc63_c20 : PCode := .seq pc63_c3 pc63_c19
def pc63_c21 : PCode := .loop pc63_c20
def pc63_c22 : PCode := .block 0 pc63_c21
def pc63_c23 : PCode := .seq pc63_c2 pc63_c22
def pc63_o24 : List POper := [{ dst := some 17, op := POp.faddr 0 (Operand.tmp 1), guard := none, hints := [(1, Hint.at_ 1 0)] },
  { dst := some 18, op := POp.load false 1 (Operand.tmp 17), guard := none, hints := [(17, Hint.at_ 1 0)] },
  { dst := some 19, op := POp.prim (Prim.bin BinOp.geq 3 false true) [Operand.tmp 18, Operand.const (Value.int IntKind.i64 1)], guard := none, hints := [(18, Hint.imm)] },
  { dst := some 20, op := POp.mv (Operand.tmp 19), guard := none, hints := [(19, Hint.imm)] },
  { dst := some 21, op := POp.faddr 0 (Operand.tmp 1), guard := some (20, true), hints := [(1, Hint.at_ 1 0)] },
  { dst := some 22, op := POp.load false 1 (Operand.tmp 21), guard := some (20, true), hints := [(21, Hint.at_ 1 0)] },
  { dst := some 23, op := POp.prim (Prim.bin BinOp.leq 3 false true) [Operand.tmp 22, Operand.const (Value.int IntKind.i64 8)], guard := some (20, true), hints := [(22, Hint.imm)] },
  { dst := some 24, op := POp.pick (Operand.tmp 20) (Operand.tmp 23) (Operand.const (Value.bool false)), guard := none, hints := [(20, Hint.imm), (23, Hint.imm)] },
  { dst := some 25, op := POp.mv (Operand.tmp 24), guard := none, hints := [(24, Hint.imm)] },
  { dst := some 26, op := POp.load true 22 (Operand.tmp 1), guard := some (25, true), hints := [(1, Hint.at_ 1 0)] },
  { dst := some 27, op := POp.load true 22 (Operand.tmp 1), guard := some (25, true), hints := [(1, Hint.at_ 1 0)] },
  { dst := some 28, op := POp.call false [[]] 74 [Operand.tmp 27], guard := some (25, true), hints := [(27, Hint.imm)] },
  { dst := some 29, op := POp.prim (Prim.bin BinOp.eql 74 false false) [Operand.tmp 26, Operand.tmp 28], guard := some (25, true), hints := [(26, Hint.imm), (28, Hint.imm)] },
  { dst := some 30, op := POp.pick (Operand.tmp 25) (Operand.tmp 29) (Operand.const (Value.bool false)), guard := none, hints := [(25, Hint.imm), (29, Hint.imm)] },
  { dst := some 5, op := POp.mv (Operand.tmp 30), guard := none, hints := [(30, Hint.imm)] }]
def pc63_c24 : PCode := .region none true pc63_o24
def pc63_o25 : List POper := [{ dst := some 31, op := POp.faddr 16 (Operand.tmp 1), guard := none, hints := [] },
  { dst := some 32, op := POp.load false 1 (Operand.tmp 31), guard := none, hints := [] },
  { dst := some 33, op := POp.prim (Prim.bin BinOp.geq 3 false true) [Operand.tmp 32, Operand.const (Value.int IntKind.i64 0)], guard := none, hints := [] },
  { dst := some 34, op := POp.mv (Operand.tmp 33), guard := none, hints := [] },
  { dst := some 35, op := POp.faddr 16 (Operand.tmp 1), guard := some (34, true), hints := [] },
  { dst := some 36, op := POp.load false 1 (Operand.tmp 35), guard := some (34, true), hints := [] },
  { dst := some 37, op := POp.prim (Prim.bin BinOp.lss 3 false true) [Operand.tmp 36, Operand.const (Value.int IntKind.i64 4)], guard := some (34, true), hints := [] },
  { dst := some 38, op := POp.pick (Operand.tmp 34) (Operand.tmp 37) (Operand.const (Value.bool false)), guard := none, hints := [] },
  { dst := some 39, op := POp.mv (Operand.tmp 38), guard := none, hints := [] },
  { dst := some 40, op := POp.faddr 17 (Operand.tmp 1), guard := some (39, true), hints := [] },
  { dst := some 41, op := POp.load false 1 (Operand.tmp 40), guard := some (39, true), hints := [] },
  { dst := some 42, op := POp.prim (Prim.bin BinOp.geq 3 false true) [Operand.tmp 41, Operand.const (Value.int IntKind.i64 0)], guard := some (39, true), hints := [] },
  { dst := some 43, op := POp.pick (Operand.tmp 39) (Operand.tmp 42) (Operand.const (Value.bool false)), guard := none, hints := [] },
  { dst := some 44, op := POp.mv (Operand.tmp 43), guard := none, hints := [] },
  { dst := some 45, op := POp.faddr 17 (Operand.tmp 1), guard := some (44, true), hints := [] },
  { dst := some 46, op := POp.load false 1 (Operand.tmp 45), guard := some (44, true), hints := [] },
  { dst := some 47, op := POp.prim (Prim.bin BinOp.leq 3 false true) [Operand.tmp 46, Operand.const (Value.int IntKind.i64 1000000)], guard := some (44, true), hints := [] },
  { dst := some 48, op := POp.pick (Operand.tmp 44) (Operand.tmp 47) (Operand.const (Value.bool false)), guard := none, hints := [] },
  { dst := some 6, op := POp.mv (Operand.tmp 48), guard := none, hints := [] }]
def pc63_c25 : PCode := .region (some ([1, 5], [1], [])) false pc63_o25
def pc63_o26 : List POper := [{ dst := some 49, op := POp.faddr 1 (Operand.tmp 1), guard := none, hints := [] },
  { dst := some 50, op := POp.load false 1 (Operand.tmp 49), guard := none, hints := [] },
  { dst := some 51, op := POp.prim (Prim.bin BinOp.geq 3 false true) [Operand.tmp 50, Operand.const (Value.int IntKind.i64 0)], guard := none, hints := [] },
  { dst := some 52, op := POp.mv (Operand.tmp 51), guard := none, hints := [] },
  { dst := some 53, op := POp.faddr 1 (Operand.tmp 1), guard := some (52, true), hints := [] },
  { dst := some 54, op := POp.load false 1 (Operand.tmp 53), guard := some (52, true), hints := [] },
  { dst := some 55, op := POp.prim (Prim.bin BinOp.leq 3 false true) [Operand.tmp 54, Operand.const (Value.int IntKind.i64 1000000)], guard := some (52, true), hints := [] },
  { dst := some 56, op := POp.pick (Operand.tmp 52) (Operand.tmp 55) (Operand.const (Value.bool false)), guard := none, hints := [] },
  { dst := some 57, op := POp.mv (Operand.tmp 56), guard := none, hints := [] },
  { dst := some 58, op := POp.faddr 2 (Operand.tmp 1), guard := some (57, true), hints := [] },
  { dst := some 59, op := POp.load false 1 (Operand.tmp 58), guard := some (57, true), hints := [] },
  { dst := some 60, op := POp.prim (Prim.bin BinOp.geq 3 false true) [Operand.tmp 59, Operand.const (Value.int IntKind.i64 (-1))], guard := some (57, true), hints := [] },
  { dst := some 61, op := POp.pick (Operand.tmp 57) (Operand.tmp 60) (Operand.const (Value.bool false)), guard := none, hints := [] },
  { dst := some 62, op := POp.mv (Operand.tmp 61), guard := none, hints := [] },
  { dst := some 63, op := POp.faddr 2 (Operand.tmp 1), guard := some (62, true), hints := [] },
  { dst := some 64, op := POp.load false 1 (Operand.tmp 63), guard := some (62, true), hints := [] },
  { dst := some 65, op := POp.prim (Prim.bin BinOp.leq 3 false true) [Operand.tmp 64, Operand.const (Value.int IntKind.i64 100)], guard := some (62, true), hints := [] },
  { dst := some 66, op := POp.pick (Operand.tmp 62) (Operand.tmp 65) (Operand.const (Value.bool false)), guard := none, hints := [] },
  { dst := some 67, op := POp.mv (Operand.tmp 66), guard := none, hints := [] },
  { dst := some 68, op := POp.faddr 3 (Operand.tmp 1), guard := some (67, true), hints := [] },
  { dst := some 69, op := POp.load false 1 (Operand.tmp 68), guard := some (67, true), hints := [] },
  { dst := some 70, op := POp.prim (Prim.bin BinOp.geq 3 false true) [Operand.tmp 69, Operand.const (Value.int IntKind.i64 (-1))], guard := some (67, true), hints := [] },
  { dst := some 71, op := POp.pick (Operand.tmp 67) (Operand.tmp 70) (Operand.const (Value.bool false)), guard := none, hints := [] },
  { dst := some 72, op := POp.mv (Operand.tmp 71), guard := none, hints := [] },
  { dst := some 73, op := POp.faddr 3 (Operand.tmp 1), guard := some (72, true), hints := [] },
  { dst := some 74, op := POp.load false 1 (Operand.tmp 73), guard := some (72, true), hints := [] },
  { dst := some 75, op := POp.prim (Prim.bin BinOp.leq 3 false true) [Operand.tmp 74, Operand.const (Value.int IntKind.i64 100)], guard := some (72, true), hints := [] },
  { dst := some 76, op := POp.pick (Operand.tmp 72) (Operand.tmp 75) (Operand.const (Value.bool false)), guard := none, hints := [] },
  { dst := some 77, op := POp.mv (Operand.tmp 76), guard := none, hints := [] },
  { dst := some 78, op := POp.faddr 14 (Operand.tmp 1), guard := some (77, true), hints := [] },
  { dst := some 79, op := POp.load true 2 (Operand.tmp 78), guard := some (77, true), hints := [] },
  { dst := some 80, op := POp.call true [[]] 73 [Operand.tmp 79], guard := some (77, true), hints := [] },
  { dst := some 81, op := POp.pick (Operand.tmp 77) (Operand.tmp 80) (Operand.const (Value.bool false)), guard := none, hints := [] },
  { dst := some 7, op := POp.mv (Operand.tmp 81), guard := none, hints := [] }]
def pc63_c26 : PCode := .region (some ([1, 5, 6], [1], [])) false pc63_o26
def pc63_o27 : List POper := [{ dst := some 82, op := POp.mv (Operand.tmp 5), guard := none, hints := [] },
  { dst := some 83, op := POp.mv (Operand.tmp 82), guard := none, hints := [] },
  { dst := some 84, op := POp.mv (Operand.tmp 6), guard := some (83, true), hints := [] },
  { dst := some 85, op := POp.pick (Operand.tmp 83) (Operand.tmp 84) (Operand.const (Value.bool false)), guard := none, hints := [] },
  { dst := some 86, op := POp.mv (Operand.tmp 85), guard := none, hints := [] },
  { dst := some 87, op := POp.mv (Operand.tmp 7), guard := some (86, true), hints := [] },
  { dst := some 88, op := POp.pick (Operand.tmp 86) (Operand.tmp 87) (Operand.const (Value.bool false)), guard := none, hints := [] },
  { dst := some 89, op := POp.mv (Operand.tmp 88), guard := none, hints := [] },
  { dst := some 90, op := POp.faddr 4 (Operand.tmp 1), guard := some (89, true), hints := [] },
  { dst := some 91, op := POp.faddr 0 (Operand.tmp 90), guard := some (89, true), hints := [] },
  { dst := some 92, op := POp.load false 1 (Operand.tmp 91), guard := some (89, true), hints := [] },
  { dst := some 93, op := POp.faddr 4 (Operand.tmp 1), guard := some (89, true), hints := [] },
  { dst := some 94, op := POp.faddr 1 (Operand.tmp 93), guard := some (89, true), hints := [] },
  { dst := some 95, op := POp.load false 1 (Operand.tmp 94), guard := some (89, true), hints := [] },
  { dst := some 96, op := POp.faddr 18 (Operand.tmp 1), guard := some (89, true), hints := [] },
  { dst := some 97, op := POp.faddr 0 (Operand.tmp 96), guard := some (89, true), hints := [] },
  { dst := some 98, op := POp.load false 1 (Operand.tmp 97), guard := some (89, true), hints := [] },
  { dst := some 99, op := POp.faddr 18 (Operand.tmp 1), guard := some (89, true), hints := [] },
  { dst := some 100, op := POp.faddr 1 (Operand.tmp 99), guard := some (89, true), hints := [] },
  { dst := some 101, op := POp.load false 1 (Operand.tmp 100), guard := some (89, true), hints := [] },
  { dst := some 102, op := POp.faddr 18 (Operand.tmp 1), guard := some (89, true), hints := [] },
  { dst := some 103, op := POp.faddr 2 (Operand.tmp 102), guard := some (89, true), hints := [] },
  { dst := some 104, op := POp.load false 1 (Operand.tmp 103), guard := some (89, true), hints := [] },
  { dst := some 105, op := POp.faddr 18 (Operand.tmp 1), guard := some (89, true), hints := [] },
  { dst := some 106, op := POp.faddr 3 (Operand.tmp 105), guard := some (89, true), hints := [] },
  { dst := some 107, op := POp.load false 1 (Operand.tmp 106), guard := some (89, true), hints := [] },
  { dst := some 108, op := POp.bslice 3 1 [Operand.tmp 92, Operand.tmp 95, Operand.tmp 98, Operand.tmp 101, Operand.tmp 104, Operand.tmp 107], guard := some (89, true), hints := [] },
  { dst := some 109, op := POp.call true [[(0, 1)]] 75 [Operand.tmp 108], guard := some (89, true), hints := [] },
  { dst := some 110, op := POp.pick (Operand.tmp 89) (Operand.tmp 109) (Operand.const (Value.bool false)), guard := none, hints := [] },
  { dst := some 2, op := POp.mv (Operand.tmp 110), guard := none, hints := [] }]
def pc63_c27 : PCode := .region (some ([1, 5, 6, 7], [1], [])) false pc63_o27
def pc63_c28 : PCode := .ret
def pc63_c29 : PCode := .seq pc63_c27 pc63_c28
def pc63_c30 : PCode := .seq pc63_c26 pc63_c29
def pc63_c31 : PCode := .seq pc63_c25 pc63_c30
def pc63_c32 : PCode := .seq pc63_c24 pc63_c31
def pc63_c33 : PCode := .seq pc63_c23 pc63_c32
def pc63_c34 : PCode := .seq pc63_c1 pc63_c33
def pc63_r : List PRes := [PRes.tmp 2 []]
def pc63 : PFunc := ⟨111, pc63_r, pc63_c34, false⟩
def pc63_a : Ann := {
  kr := fun
    | 2 => some ([1, 9, 10], [1, 4], [])
    | 8 => some ([1, 5], [1], [])
    | 9 => some ([1, 5, 6], [1], [])
    | 10 => some ([1, 5, 6, 7], [1], [])
    | _ => none
  ka := fun
    | _ => 0
  kh := fun
    | 1 => some (Hint.at_ 1 0)
    | 17 => some (Hint.at_ 1 0)
    | 18 => some (Hint.imm)
    | 19 => some (Hint.imm)
    | 20 => some (Hint.imm)
    | 21 => some (Hint.at_ 1 0)
    | 22 => some (Hint.imm)
    | 23 => some (Hint.imm)
    | 24 => some (Hint.imm)
    | 25 => some (Hint.imm)
    | 26 => some (Hint.imm)
    | 27 => some (Hint.imm)
    | 28 => some (Hint.imm)
    | 29 => some (Hint.imm)
    | 30 => some (Hint.imm)
    | _ => none }
theorem pc63_ok : compFn Try.prog pc63_a Try.f63 = some pc63 := by kernel_rfl


-- 64: vedette/cmd.Watches
def pc64_o1 : List POper := [{ dst := some 1, op := POp.box 74 (Operand.tmp 0) [], guard := none, hints := [] },
  { dst := some 2, op := POp.mv (Operand.const (Value.bool false)), guard := none, hints := [] }]
def pc64_c1 : PCode := .region none false pc64_o1
def pc64_o2 : List POper := [{ dst := some 3, op := POp.faddr 0 (Operand.tmp 1), guard := none, hints := [] },
  { dst := some 4, op := POp.load false 1 (Operand.tmp 3), guard := none, hints := [] },
  { dst := some 5, op := POp.prim (Prim.bin BinOp.geq 3 false true) [Operand.tmp 4, Operand.const (Value.int IntKind.i64 6)], guard := none, hints := [] },
  { dst := some 6, op := POp.mv (Operand.tmp 5), guard := none, hints := [] },
  { dst := some 7, op := POp.faddr 0 (Operand.tmp 1), guard := some (6, true), hints := [] },
  { dst := some 8, op := POp.load false 1 (Operand.tmp 7), guard := some (6, true), hints := [] },
  { dst := some 9, op := POp.prim (Prim.bin BinOp.leq 3 false true) [Operand.tmp 8, Operand.const (Value.int IntKind.i64 8)], guard := some (6, true), hints := [] },
  { dst := some 10, op := POp.pick (Operand.tmp 6) (Operand.tmp 9) (Operand.const (Value.bool false)), guard := none, hints := [] },
  { dst := some 2, op := POp.mv (Operand.tmp 10), guard := none, hints := [] }]
def pc64_c2 : PCode := .region none false pc64_o2
def pc64_c3 : PCode := .ret
def pc64_c4 : PCode := .seq pc64_c2 pc64_c3
def pc64_c5 : PCode := .seq pc64_c1 pc64_c4
def pc64_r : List PRes := [PRes.tmp 2 []]
def pc64 : PFunc := ⟨11, pc64_r, pc64_c5, false⟩
def pc64_a : Ann := {
  kr := fun
    | _ => none
  ka := fun
    | _ => 0
  kh := fun
    | _ => none }
theorem pc64_ok : compFn Try.prog pc64_a Try.f64 = some pc64 := by kernel_rfl


-- 39: (*vedette/watch.Book).Do
def pc39_o1 : List POper := [{ dst := some 4, op := POp.box 74 (Operand.tmp 1) [], guard := none, hints := [] },
  { dst := some 6, op := POp.mv (Operand.const (Value.int IntKind.i64 0)), guard := none, hints := [] }]
def pc39_c1 : PCode := .region none false pc39_o1
def pc39_o2 : List POper := [{ dst := some 8, op := POp.load true 22 (Operand.tmp 4), guard := none, hints := [] },
  { dst := some 9, op := POp.call true [[]] 63 [Operand.tmp 8], guard := none, hints := [] },
  { dst := some 10, op := POp.prim (Prim.un UnOp.not) [Operand.tmp 9], guard := none, hints := [] },
  { dst := some 11, op := POp.mv (Operand.tmp 10), guard := none, hints := [] },
  { dst := some 12, op := POp.load true 22 (Operand.tmp 4), guard := some (11, false), hints := [] },
  { dst := some 13, op := POp.call true [[]] 64 [Operand.tmp 12], guard := some (11, false), hints := [] },
  { dst := some 14, op := POp.prim (Prim.un UnOp.not) [Operand.tmp 13], guard := some (11, false), hints := [] },
  { dst := some 15, op := POp.pick (Operand.tmp 11) (Operand.const (Value.bool true)) (Operand.tmp 14), guard := none, hints := [] }]
def pc39_c2 : PCode := .region none false pc39_o2
def pc39_o3 : List POper := [{ dst := some 6, op := POp.mv (Operand.const (Value.int IntKind.i64 11)), guard := none, hints := [] }]
def pc39_c3 : PCode := .region none false pc39_o3
def pc39_c4 : PCode := .ret
def pc39_c5 : PCode := .seq pc39_c3 pc39_c4
def pc39_c6 : PCode := .skip
def pc39_c7 : PCode := .cond (Operand.tmp 15) pc39_c5 pc39_c6
def pc39_c8 : PCode := .seq pc39_c2 pc39_c7
def pc39_o9 : List POper := [{ dst := some 16, op := POp.mv (Operand.tmp 0), guard := none, hints := [(0, Hint.at_ 1000000 0)] },
  { dst := some 17, op := POp.faddr 16 (Operand.tmp 4), guard := none, hints := [(4, Hint.at_ 4 0)] },
  { dst := some 18, op := POp.load false 1 (Operand.tmp 17), guard := none, hints := [(17, Hint.at_ 4 16)] },
  { dst := some 19, op := POp.nilc (Operand.tmp 16), guard := none, hints := [(16, Hint.at_ 1000000 0)] },
  { dst := some 20, op := POp.faddr 0 (Operand.tmp 19), guard := none, hints := [(19, Hint.at_ 1000000 0)] },
  { dst := some 21, op := POp.iaddrA 4 7 (Operand.tmp 20) (Operand.tmp 18), guard := none, hints := [(20, Hint.at_ 1000000 0), (18, Hint.imm)] },
  { dst := some 7, op := POp.mv (Operand.tmp 21), guard := none, hints := [(21, Hint.obj 1000000)] }]
def pc39_c9 : PCode := .region none true pc39_o9
def pc39_o10 : List POper := [{ dst := some 22, op := POp.faddr 0 (Operand.tmp 4), guard := none, hints := [] },
  { dst := some 23, op := POp.load false 1 (Operand.tmp 22), guard := none, hints := [] },
  { dst := some 24, op := POp.prim (Prim.bin BinOp.eql 3 false true) [Operand.tmp 23, Operand.const (Value.int IntKind.i64 6)], guard := none, hints := [] }]
def pc39_c10 : PCode := .region (some ([2, 4, 7], [4, 1000000], [])) false pc39_o10
def pc39_o11 : List POper := [{ dst := some 25, op := POp.faddr 17 (Operand.tmp 4), guard := none, hints := [(4, Hint.at_ 4 0)] },
  { dst := some 26, op := POp.load false 1 (Operand.tmp 25), guard := none, hints := [(25, Hint.at_ 4 17)] },
  { dst := some 27, op := POp.mv (Operand.tmp 7), guard := none, hints := [(7, Hint.obj 1000000)] },
  { dst := some 28, op := POp.nilc (Operand.tmp 27), guard := none, hints := [(27, Hint.obj 1000000)] },
  { dst := some 29, op := POp.faddr 1 (Operand.tmp 28), guard := none, hints := [(28, Hint.obj 1000000)] },
  { dst := some 30, op := POp.load false 1 (Operand.tmp 29), guard := none, hints := [(29, Hint.obj 1000000)] },
  { dst := some 31, op := POp.prim (Prim.bin BinOp.leq 3 false false) [Operand.tmp 26, Operand.tmp 30], guard := none, hints := [(26, Hint.imm), (30, Hint.imm)] }]
def pc39_c11 : PCode := .region none true pc39_o11
def pc39_o12 : List POper := [{ dst := some 6, op := POp.mv (Operand.const (Value.int IntKind.i64 20)), guard := none, hints := [] }]
def pc39_c12 : PCode := .region none false pc39_o12
def pc39_c13 : PCode := .ret
def pc39_c14 : PCode := .seq pc39_c12 pc39_c13
def pc39_c15 : PCode := .skip
def pc39_c16 : PCode := .cond (Operand.tmp 31) pc39_c14 pc39_c15
def pc39_c17 : PCode := .seq pc39_c11 pc39_c16
def pc39_o18 : List POper := [{ dst := some 32, op := POp.mv (Operand.tmp 7), guard := none, hints := [(7, Hint.obj 1000000)] },
  { dst := some 33, op := POp.faddr 17 (Operand.tmp 4), guard := none, hints := [(4, Hint.at_ 4 0)] },
  { dst := some 34, op := POp.load false 1 (Operand.tmp 33), guard := none, hints := [(33, Hint.at_ 4 17)] },
  { dst := some 35, op := POp.mv (Operand.tmp 2), guard := none, hints := [(2, Hint.imm)] },
  { dst := some 36, op := POp.faddr 18 (Operand.tmp 4), guard := none, hints := [(4, Hint.at_ 4 0)] },
  { dst := some 37, op := POp.load true 4 (Operand.tmp 36), guard := none, hints := [(36, Hint.at_ 4 18)] },
  { dst := some 38, op := POp.call false [[]] 45 [Operand.tmp 37], guard := none, hints := [(37, Hint.imm)] },
  { dst := some 39, op := POp.build (Value.agg { toList := [Value.bool false, Value.int IntKind.i64 0, Value.int IntKind.i64 0, Value.int IntKind.i64 0, Value.int IntKind.i64 0, Value.int IntKind.i64 0, Value.int IntKind.i64 0] }) [(0, 1, Operand.const (Value.bool true)), (1, 1, Operand.tmp 34), (2, 1, Operand.tmp 35), (3, 4, Operand.tmp 38)], guard := none, hints := [(34, Hint.imm), (35, Hint.imm), (38, Hint.imm)] },
  { dst := some 40, op := POp.nilc (Operand.tmp 32), guard := none, hints := [(32, Hint.obj 1000000)] },
  { dst := none, op := POp.store 7 (Operand.tmp 40) (Operand.tmp 39), guard := none, hints := [(40, Hint.obj 1000000), (39, Hint.imm)] }]
def pc39_c18 : PCode := .region none true pc39_o18
def pc39_o19 : List POper := [{ dst := some 6, op := POp.mv (Operand.const (Value.int IntKind.i64 0)), guard := none, hints := [] }]
def pc39_c19 : PCode := .region none false pc39_o19
def pc39_c20 : PCode := .ret
def pc39_c21 : PCode := .seq pc39_c19 pc39_c20
def pc39_c22 : PCode := .seq pc39_c18 pc39_c21
def pc39_c23 : PCode := .seq pc39_c17 pc39_c22
def pc39_c24 : PCode := .skip
def pc39_c25 : PCode := .cond (Operand.tmp 24) pc39_c23 pc39_c24
def pc39_c26 : PCode := .seq pc39_c10 pc39_c25
def pc39_o27 : List POper := [{ dst := some 49, op := POp.mv (Operand.tmp 7), guard := none, hints := [(7, Hint.obj 1000000)] },
  { dst := some 50, op := POp.nilc (Operand.tmp 49), guard := none, hints := [(49, Hint.obj 1000000)] },
  { dst := some 51, op := POp.faddr 0 (Operand.tmp 50), guard := none, hints := [(50, Hint.obj 1000000)] },
  { dst := some 52, op := POp.load false 1 (Operand.tmp 51), guard := none, hints := [(51, Hint.obj 1000000)] },
  { dst := some 53, op := POp.prim (Prim.un UnOp.not) [Operand.tmp 52], guard := none, hints := [(52, Hint.imm)] },
  { dst := some 54, op := POp.mv (Operand.tmp 53), guard := none, hints := [(53, Hint.imm)] },
  { dst := some 55, op := POp.faddr 17 (Operand.tmp 4), guard := some (54, false), hints := [(4, Hint.at_ 4 0)] },
  { dst := some 56, op := POp.load false 1 (Operand.tmp 55), guard := some (54, false), hints := [(55, Hint.at_ 4 17)] },
  { dst := some 57, op := POp.mv (Operand.tmp 7), guard := some (54, false), hints := [(7, Hint.obj 1000000)] },
  { dst := some 58, op := POp.nilc (Operand.tmp 57), guard := some (54, false), hints := [(57, Hint.obj 1000000)] },
  { dst := some 59, op := POp.faddr 1 (Operand.tmp 58), guard := some (54, false), hints := [(58, Hint.obj 1000000)] },
  { dst := some 60, op := POp.load false 1 (Operand.tmp 59), guard := some (54, false), hints := [(59, Hint.obj 1000000)] },
  { dst := some 61, op := POp.prim (Prim.bin BinOp.neq 3 false false) [Operand.tmp 56, Operand.tmp 60], guard := some (54, false), hints := [(56, Hint.imm), (60, Hint.imm)] },
  { dst := some 62, op := POp.pick (Operand.tmp 54) (Operand.const (Value.bool true)) (Operand.tmp 61), guard := none, hints := [(54, Hint.imm), (61, Hint.imm)] },
  { dst := some 48, op := POp.mv (Operand.tmp 62), guard := none, hints := [(62, Hint.imm)] }]
def pc39_c27 : PCode := .region none true pc39_o27
def pc39_o28 : List POper := [{ dst := some 6, op := POp.mv (Operand.const (Value.int IntKind.i64 20)), guard := none, hints := [] }]
def pc39_c28 : PCode := .region none false pc39_o28
def pc39_c29 : PCode := .ret
def pc39_c30 : PCode := .seq pc39_c28 pc39_c29
def pc39_o31 : List POper := [{ dst := some 64, op := POp.faddr 0 (Operand.tmp 4), guard := none, hints := [] },
  { dst := some 65, op := POp.load false 1 (Operand.tmp 64), guard := none, hints := [] },
  { dst := some 66, op := POp.prim (Prim.bin BinOp.eql 3 false true) [Operand.tmp 65, Operand.const (Value.int IntKind.i64 7)], guard := none, hints := [] },
  { dst := some 63, op := POp.mv (Operand.tmp 66), guard := none, hints := [] }]
def pc39_c31 : PCode := .region none false pc39_o31
def pc39_o32 : List POper := [{ dst := some 67, op := POp.mv (Operand.tmp 7), guard := none, hints := [] },
  { dst := some 68, op := POp.faddr 18 (Operand.tmp 4), guard := none, hints := [] },
  { dst := some 69, op := POp.load true 4 (Operand.tmp 68), guard := none, hints := [] },
  { dst := some 70, op := POp.call true [[]] 45 [Operand.tmp 69], guard := none, hints := [] },
  { dst := some 71, op := POp.nilc (Operand.tmp 67), guard := none, hints := [] },
  { dst := some 72, op := POp.faddr 3 (Operand.tmp 71), guard := none, hints := [] },
  { dst := none, op := POp.store 4 (Operand.tmp 72) (Operand.tmp 70), guard := none, hints := [] }]
def pc39_c32 : PCode := .region none false pc39_o32
def pc39_o33 : List POper := [{ dst := some 41, op := POp.mv (Operand.tmp 7), guard := none, hints := [] },
  { dst := some 42, op := POp.mv (Operand.tmp 7), guard := none, hints := [] },
  { dst := some 43, op := POp.build (Value.agg { toList := [Value.int IntKind.i64 0, Value.int IntKind.i64 0, Value.int IntKind.i64 0, Value.int IntKind.i64 0] }) [], guard := none, hints := [] },
  { dst := some 44, op := POp.nilc (Operand.tmp 41), guard := none, hints := [] },
  { dst := some 45, op := POp.faddr 0 (Operand.tmp 44), guard := none, hints := [] },
  { dst := none, op := POp.store 1 (Operand.tmp 45) (Operand.const (Value.bool false)), guard := none, hints := [] },
  { dst := some 46, op := POp.nilc (Operand.tmp 42), guard := none, hints := [] },
  { dst := some 47, op := POp.faddr 3 (Operand.tmp 46), guard := none, hints := [] },
  { dst := none, op := POp.store 4 (Operand.tmp 47) (Operand.tmp 43), guard := none, hints := [] }]
def pc39_c33 : PCode := .region none false pc39_o33
def pc39_c34 : PCode := .cond (Operand.tmp 63) pc39_c32 pc39_c33
def pc39_c35 : PCode := .seq pc39_c31 pc39_c34
def pc39_c36 : PCode := .cond (Operand.tmp 48) pc39_c30 pc39_c35
def pc39_c37 : PCode := .seq pc39_c27 pc39_c36
def pc39_c38 : PCode := .block 0 pc39_c37
def pc39_o39 : List POper := [{ dst := some 6, op := POp.mv (Operand.const (Value.int IntKind.i64 0)), guard := none, hints := [] }]
def pc39_c39 : PCode := .region none false pc39_o39
def pc39_c40 : PCode := .ret
def pc39_c41 : PCode := .seq pc39_c39 pc39_c40
def pc39_c42 : PCode := .seq pc39_c38 pc39_c41
def pc39_c43 : PCode := .seq pc39_c26 pc39_c42
def pc39_c44 : PCode := .seq pc39_c9 pc39_c43
def pc39_c45 : PCode := .seq pc39_c8 pc39_c44
def pc39_c46 : PCode := .seq pc39_c1 pc39_c45
def pc39_r : List PRes := [PRes.tmp 6 []]
def pc39 : PFunc := ⟨73, pc39_r, pc39_c46, false⟩
def pc39_a : Ann := {
  kr := fun
    | 4 => some ([2, 4, 7], [4, 1000000], [])
    | _ => none
  ka := fun
    | _ => 0
  kh := fun
    | 0 => some (Hint.at_ 1000000 0)
    | 2 => some (Hint.imm)
    | 4 => some (Hint.at_ 4 0)
    | 7 => some (Hint.obj 1000000)
    | 16 => some (Hint.at_ 1000000 0)
    | 17 => some (Hint.at_ 4 16)
    | 18 => some (Hint.imm)
    | 19 => some (Hint.at_ 1000000 0)
    | 20 => some (Hint.at_ 1000000 0)
    | 21 => some (Hint.obj 1000000)
    | 25 => some (Hint.at_ 4 17)
    | 26 => some (Hint.imm)
    | 27 => some (Hint.obj 1000000)
    | 28 => some (Hint.obj 1000000)
    | 29 => some (Hint.obj 1000000)
    | 30 => some (Hint.imm)
    | 32 => some (Hint.obj 1000000)
    | 33 => some (Hint.at_ 4 17)
    | 34 => some (Hint.imm)
    | 35 => some (Hint.imm)
    | 36 => some (Hint.at_ 4 18)
    | 37 => some (Hint.imm)
    | 38 => some (Hint.imm)
    | 39 => some (Hint.imm)
    | 40 => some (Hint.obj 1000000)
    | 49 => some (Hint.obj 1000000)
    | 50 => some (Hint.obj 1000000)
    | 51 => some (Hint.obj 1000000)
    | 52 => some (Hint.imm)
    | 53 => some (Hint.imm)
    | 54 => some (Hint.imm)
    | 55 => some (Hint.at_ 4 17)
    | 56 => some (Hint.imm)
    | 57 => some (Hint.obj 1000000)
    | 58 => some (Hint.obj 1000000)
    | 59 => some (Hint.obj 1000000)
    | 60 => some (Hint.imm)
    | 61 => some (Hint.imm)
    | 62 => some (Hint.imm)
    | _ => none }
theorem pc39_ok : compFn Try.prog pc39_a Try.f39 = some pc39 := by kernel_rfl


-- 41: (*vedette/watch.Book).All
def pc41_o1 : List POper := [{ dst := some 2, op := POp.alloc 69 (Value.agg { toList := [Value.bool false, Value.int IntKind.i64 0, Value.int IntKind.i64 0, Value.int IntKind.i64 0, Value.int IntKind.i64 0, Value.int IntKind.i64 0, Value.int IntKind.i64 0, Value.bool false, Value.int IntKind.i64 0, Value.int IntKind.i64 0, Value.int IntKind.i64 0, Value.int IntKind.i64 0, Value.int IntKind.i64 0, Value.int IntKind.i64 0, Value.bool false, Value.int IntKind.i64 0, Value.int IntKind.i64 0, Value.int IntKind.i64 0, Value.int IntKind.i64 0, Value.int IntKind.i64 0, Value.int IntKind.i64 0, Value.bool false, Value.int IntKind.i64 0, Value.int IntKind.i64 0, Value.int IntKind.i64 0, Value.int IntKind.i64 0, Value.int IntKind.i64 0, Value.int IntKind.i64 0] }) [], guard := none, hints := [] }]
def pc41_c1 : PCode := .region none false pc41_o1
def pc41_o2 : List POper := [{ dst := some 3, op := POp.mv (Operand.tmp 0), guard := none, hints := [] },
  { dst := some 4, op := POp.nilc (Operand.tmp 3), guard := none, hints := [] },
  { dst := some 5, op := POp.faddr 0 (Operand.tmp 4), guard := none, hints := [] },
  { dst := some 6, op := POp.load true 28 (Operand.tmp 5), guard := none, hints := [] },
  { dst := none, op := POp.store 28 (Operand.tmp 2) (Operand.tmp 6), guard := none, hints := [] }]
def pc41_c2 : PCode := .region none false pc41_o2
def pc41_c3 : PCode := .ret
def pc41_c4 : PCode := .seq pc41_c2 pc41_c3
def pc41_c5 : PCode := .seq pc41_c1 pc41_c4
def pc41_r : List PRes := [PRes.cell 2 true 28 []]
def pc41 : PFunc := ⟨7, pc41_r, pc41_c5, false⟩
def pc41_a : Ann := {
  kr := fun
    | _ => none
  ka := fun
    | _ => 0
  kh := fun
    | _ => none }
theorem pc41_ok : compFn Try.prog pc41_a Try.f41 = some pc41 := by kernel_rfl


-- 44: (*vedette/watch.Book).Of
def pc44_o1 : List POper := [{ dst := some 4, op := POp.alloc 68 (Value.agg { toList := [Value.bool false, Value.int IntKind.i64 0, Value.int IntKind.i64 0, Value.int IntKind.i64 0, Value.int IntKind.i64 0, Value.int IntKind.i64 0, Value.int IntKind.i64 0] }) [], guard := none, hints := [] }]
def pc44_c1 : PCode := .region none false pc44_o1
def pc44_o2 : List POper := [{ dst := some 5, op := POp.mv (Operand.tmp 1), guard := none, hints := [] },
  { dst := some 6, op := POp.prim (Prim.bin BinOp.lss 3 false true) [Operand.tmp 5, Operand.const (Value.int IntKind.i64 0)], guard := none, hints := [] },
  { dst := some 7, op := POp.mv (Operand.tmp 6), guard := none, hints := [] },
  { dst := some 8, op := POp.mv (Operand.tmp 1), guard := some (7, false), hints := [] },
  { dst := some 9, op := POp.prim (Prim.bin BinOp.geq 3 false true) [Operand.tmp 8, Operand.const (Value.int IntKind.i64 4)], guard := some (7, false), hints := [] },
  { dst := some 10, op := POp.pick (Operand.tmp 7) (Operand.const (Value.bool true)) (Operand.tmp 9), guard := none, hints := [] }]
def pc44_c2 : PCode := .region none false pc44_o2
def pc44_o3 : List POper := [{ dst := some 11, op := POp.build (Value.agg { toList := [Value.bool false, Value.int IntKind.i64 0, Value.int IntKind.i64 0, Value.int IntKind.i64 0, Value.int IntKind.i64 0, Value.int IntKind.i64 0, Value.int IntKind.i64 0] }) [], guard := none, hints := [] },
  { dst := none, op := POp.store 7 (Operand.tmp 4) (Operand.tmp 11), guard := none, hints := [] }]
def pc44_c3 : PCode := .region none false pc44_o3
def pc44_c4 : PCode := .ret
def pc44_c5 : PCode := .seq pc44_c3 pc44_c4
def pc44_c6 : PCode := .skip
def pc44_c7 : PCode := .cond (Operand.tmp 10) pc44_c5 pc44_c6
def pc44_c8 : PCode := .seq pc44_c2 pc44_c7
def pc44_o9 : List POper := [{ dst := some 12, op := POp.mv (Operand.tmp 0), guard := none, hints := [] },
  { dst := some 13, op := POp.mv (Operand.tmp 1), guard := none, hints := [] },
  { dst := some 14, op := POp.nilc (Operand.tmp 12), guard := none, hints := [] },
  { dst := some 15, op := POp.faddr 0 (Operand.tmp 14), guard := none, hints := [] },
  { dst := some 16, op := POp.iaddrA 4 7 (Operand.tmp 15) (Operand.tmp 13), guard := none, hints := [] },
  { dst := some 17, op := POp.load true 7 (Operand.tmp 16), guard := none, hints := [] },
  { dst := none, op := POp.store 7 (Operand.tmp 4) (Operand.tmp 17), guard := none, hints := [] }]
def pc44_c9 : PCode := .region none false pc44_o9
def pc44_c10 : PCode := .ret
def pc44_c11 : PCode := .seq pc44_c9 pc44_c10
def pc44_c12 : PCode := .seq pc44_c8 pc44_c11
def pc44_c13 : PCode := .seq pc44_c1 pc44_c12
def pc44_r : List PRes := [PRes.cell 4 true 7 []]
def pc44 : PFunc := ⟨18, pc44_r, pc44_c13, false⟩
def pc44_a : Ann := {
  kr := fun
    | _ => none
  ka := fun
    | _ => 0
  kh := fun
    | _ => none }
theorem pc44_ok : compFn Try.prog pc44_a Try.f44 = some pc44 := by kernel_rfl


-- 51: vedette/geom.In
def pc51_o1 : List POper := [{ dst := some 2, op := POp.box 24 (Operand.tmp 0) [], guard := none, hints := [] },
  { dst := some 3, op := POp.box 34 (Operand.tmp 1) [], guard := none, hints := [] },
  { dst := some 4, op := POp.mv (Operand.const (Value.bool false)), guard := none, hints := [] }]
def pc51_c1 : PCode := .region none false pc51_o1
def pc51_o2 : List POper := [{ dst := some 5, op := POp.faddr 0 (Operand.tmp 3), guard := none, hints := [] },
  { dst := some 6, op := POp.load false 1 (Operand.tmp 5), guard := none, hints := [] },
  { dst := some 7, op := POp.faddr 0 (Operand.tmp 2), guard := none, hints := [] },
  { dst := some 8, op := POp.load false 1 (Operand.tmp 7), guard := none, hints := [] },
  { dst := some 9, op := POp.prim (Prim.bin BinOp.geq 3 false false) [Operand.tmp 6, Operand.tmp 8], guard := none, hints := [] },
  { dst := some 10, op := POp.mv (Operand.tmp 9), guard := none, hints := [] },
  { dst := some 11, op := POp.faddr 0 (Operand.tmp 3), guard := some (10, true), hints := [] },
  { dst := some 12, op := POp.load false 1 (Operand.tmp 11), guard := some (10, true), hints := [] },
  { dst := some 13, op := POp.faddr 2 (Operand.tmp 2), guard := some (10, true), hints := [] },
  { dst := some 14, op := POp.load false 1 (Operand.tmp 13), guard := some (10, true), hints := [] },
  { dst := some 15, op := POp.prim (Prim.bin BinOp.lss 3 false false) [Operand.tmp 12, Operand.tmp 14], guard := some (10, true), hints := [] },
  { dst := some 16, op := POp.pick (Operand.tmp 10) (Operand.tmp 15) (Operand.const (Value.bool false)), guard := none, hints := [] },
  { dst := some 17, op := POp.mv (Operand.tmp 16), guard := none, hints := [] },
  { dst := some 18, op := POp.faddr 1 (Operand.tmp 3), guard := some (17, true), hints := [] },
  { dst := some 19, op := POp.load false 1 (Operand.tmp 18), guard := some (17, true), hints := [] },
  { dst := some 20, op := POp.faddr 1 (Operand.tmp 2), guard := some (17, true), hints := [] },
  { dst := some 21, op := POp.load false 1 (Operand.tmp 20), guard := some (17, true), hints := [] },
  { dst := some 22, op := POp.prim (Prim.bin BinOp.geq 3 false false) [Operand.tmp 19, Operand.tmp 21], guard := some (17, true), hints := [] },
  { dst := some 23, op := POp.pick (Operand.tmp 17) (Operand.tmp 22) (Operand.const (Value.bool false)), guard := none, hints := [] },
  { dst := some 24, op := POp.mv (Operand.tmp 23), guard := none, hints := [] },
  { dst := some 25, op := POp.faddr 1 (Operand.tmp 3), guard := some (24, true), hints := [] },
  { dst := some 26, op := POp.load false 1 (Operand.tmp 25), guard := some (24, true), hints := [] },
  { dst := some 27, op := POp.faddr 3 (Operand.tmp 2), guard := some (24, true), hints := [] },
  { dst := some 28, op := POp.load false 1 (Operand.tmp 27), guard := some (24, true), hints := [] },
  { dst := some 29, op := POp.prim (Prim.bin BinOp.lss 3 false false) [Operand.tmp 26, Operand.tmp 28], guard := some (24, true), hints := [] },
  { dst := some 30, op := POp.pick (Operand.tmp 24) (Operand.tmp 29) (Operand.const (Value.bool false)), guard := none, hints := [] },
  { dst := some 4, op := POp.mv (Operand.tmp 30), guard := none, hints := [] }]
def pc51_c2 : PCode := .region none false pc51_o2
def pc51_c3 : PCode := .ret
def pc51_c4 : PCode := .seq pc51_c2 pc51_c3
def pc51_c5 : PCode := .seq pc51_c1 pc51_c4
def pc51_r : List PRes := [PRes.tmp 4 []]
def pc51 : PFunc := ⟨31, pc51_r, pc51_c5, false⟩
def pc51_a : Ann := {
  kr := fun
    | _ => none
  ka := fun
    | _ => 0
  kh := fun
    | _ => none }
theorem pc51_ok : compFn Try.prog pc51_a Try.f51 = some pc51 := by kernel_rfl


-- 42: (*vedette/watch.Book).Sees
def pc42_o1 : List POper := [{ dst := some 5, op := POp.box 34 (Operand.tmp 2) [], guard := none, hints := [] },
  { dst := some 6, op := POp.mv (Operand.const (Value.bool false)), guard := none, hints := [] }]
def pc42_c1 : PCode := .region none false pc42_o1
def pc42_o2 : List POper := [{ dst := some 8, op := POp.mv (Operand.tmp 0), guard := none, hints := [] },
  { dst := some 9, op := POp.mv (Operand.tmp 1), guard := none, hints := [] },
  { dst := some 10, op := POp.call true [[], []] 44 [Operand.tmp 8, Operand.tmp 9], guard := none, hints := [] },
  { dst := some 7, op := POp.alloc 68 (Value.agg { toList := [Value.bool false, Value.int IntKind.i64 0, Value.int IntKind.i64 0, Value.int IntKind.i64 0, Value.int IntKind.i64 0, Value.int IntKind.i64 0, Value.int IntKind.i64 0] }) [], guard := none, hints := [] },
  { dst := none, op := POp.store 7 (Operand.tmp 7) (Operand.tmp 10), guard := none, hints := [] }]
def pc42_c2 : PCode := .region none false pc42_o2
def pc42_o3 : List POper := [{ dst := some 11, op := POp.faddr 0 (Operand.tmp 7), guard := none, hints := [] },
  { dst := some 12, op := POp.load false 1 (Operand.tmp 11), guard := none, hints := [] },
  { dst := some 13, op := POp.mv (Operand.tmp 12), guard := none, hints := [] },
  { dst := some 14, op := POp.faddr 3 (Operand.tmp 7), guard := some (13, true), hints := [] },
  { dst := some 15, op := POp.load true 4 (Operand.tmp 14), guard := some (13, true), hints := [] },
  { dst := some 16, op := POp.load true 2 (Operand.tmp 5), guard := some (13, true), hints := [] },
  { dst := some 17, op := POp.call true [[], []] 51 [Operand.tmp 15, Operand.tmp 16], guard := some (13, true), hints := [] },
  { dst := some 18, op := POp.pick (Operand.tmp 13) (Operand.tmp 17) (Operand.const (Value.bool false)), guard := none, hints := [] },
  { dst := some 6, op := POp.mv (Operand.tmp 18), guard := none, hints := [] }]
def pc42_c3 : PCode := .region none false pc42_o3
def pc42_c4 : PCode := .ret
def pc42_c5 : PCode := .seq pc42_c3 pc42_c4
def pc42_c6 : PCode := .seq pc42_c2 pc42_c5
def pc42_c7 : PCode := .seq pc42_c1 pc42_c6
def pc42_r : List PRes := [PRes.tmp 6 []]
def pc42 : PFunc := ⟨19, pc42_r, pc42_c7, false⟩
def pc42_a : Ann := {
  kr := fun
    | _ => none
  ka := fun
    | _ => 0
  kh := fun
    | _ => none }
theorem pc42_ok : compFn Try.prog pc42_a Try.f42 = some pc42 := by kernel_rfl


-- 35: vedette/vedettelaw14.known
def pc35_o1 : List POper := [{ dst := some 0, op := POp.mv (Operand.const (Value.bool false)), guard := none, hints := [] }]
def pc35_c1 : PCode := .region none false pc35_o1
def pc35_o2 : List POper := [{ dst := some 5, op := POp.gcall false false [300000, 300001, 300002, 300003, 300004, 300005, 300006, 300007] [] 36 [], guard := none, hints := [] },
  { dst := some 1, op := POp.mv (Operand.tmp 5), guard := none, hints := [] }]
def pc35_c2 : PCode := .region none false pc35_o2
def pc35_o3 : List POper := [{ dst := some 6, op := POp.build (Value.agg { toList := [Value.int IntKind.i64 0, Value.int IntKind.i64 0, Value.int IntKind.i64 0, Value.int IntKind.i64 0] }) [(0, 1, Operand.const (Value.int IntKind.i64 (-5))), (1, 1, Operand.const (Value.int IntKind.i64 1)), (2, 1, Operand.const (Value.int IntKind.i64 5)), (3, 1, Operand.const (Value.int IntKind.i64 100))], guard := none, hints := [] },
  { dst := some 2, op := POp.alloc 24 (Value.agg { toList := [Value.int IntKind.i64 0, Value.int IntKind.i64 0, Value.int IntKind.i64 0, Value.int IntKind.i64 0] }) [], guard := none, hints := [] },
  { dst := none, op := POp.store 4 (Operand.tmp 2) (Operand.tmp 6), guard := none, hints := [] }]
def pc35_c3 : PCode := .region none false pc35_o3
def pc35_o4 : List POper := [{ dst := some 7, op := POp.mv (Operand.tmp 1), guard := none, hints := [] },
  { dst := some 8, op := POp.pnil false (Operand.tmp 7), guard := none, hints := [] },
  { dst := some 9, op := POp.mv (Operand.tmp 8), guard := none, hints := [] },
  { dst := some 10, op := POp.mv (Operand.tmp 1), guard := some (9, false), hints := [] },
  { dst := some 11, op := POp.build (Value.agg { toList := [Value.int IntKind.i64 0, Value.int IntKind.i64 0, Value.int IntKind.i64 0, Value.int IntKind.i64 0, Value.int IntKind.i64 0, Value.int IntKind.i64 0, Value.int IntKind.i64 0, Value.string { data := { toList := [] } }, Value.int IntKind.i64 0, Value.string { data := { toList := [] } }, Value.int IntKind.i64 0, Value.string { data := { toList := [] } }, Value.int IntKind.i64 0, Value.string { data := { toList := [] } }, Value.int IntKind.i64 0, Value.string { data := { toList := [] } }, Value.int IntKind.i64 0, Value.int IntKind.i64 0, Value.int IntKind.i64 0, Value.int IntKind.i64 0, Value.int IntKind.i64 0, Value.int IntKind.i64 0] }) [(0, 1, Operand.const (Value.int IntKind.i64 7)), (17, 1, Operand.const (Value.int IntKind.i64 1))], guard := some (9, false), hints := [] },
  { dst := some 12, op := POp.call true [[], [], []] 39 [Operand.tmp 10, Operand.tmp 11, Operand.const (Value.int IntKind.i64 0)], guard := some (9, false), hints := [] },
  { dst := some 13, op := POp.prim (Prim.bin BinOp.neq 48 false true) [Operand.tmp 12, Operand.const (Value.int IntKind.i64 20)], guard := some (9, false), hints := [] },
  { dst := some 14, op := POp.pick (Operand.tmp 9) (Operand.const (Value.bool true)) (Operand.tmp 13), guard := none, hints := [] },
  { dst := some 15, op := POp.mv (Operand.tmp 14), guard := none, hints := [] },
  { dst := some 16, op := POp.mv (Operand.tmp 1), guard := some (15, false), hints := [] },
  { dst := some 17, op := POp.load true 4 (Operand.tmp 2), guard := some (15, false), hints := [] },
  { dst := some 18, op := POp.build (Value.agg { toList := [Value.int IntKind.i64 0, Value.int IntKind.i64 0, Value.int IntKind.i64 0, Value.int IntKind.i64 0, Value.int IntKind.i64 0, Value.int IntKind.i64 0, Value.int IntKind.i64 0, Value.string { data := { toList := [] } }, Value.int IntKind.i64 0, Value.string { data := { toList := [] } }, Value.int IntKind.i64 0, Value.string { data := { toList := [] } }, Value.int IntKind.i64 0, Value.string { data := { toList := [] } }, Value.int IntKind.i64 0, Value.string { data := { toList := [] } }, Value.int IntKind.i64 0, Value.int IntKind.i64 0, Value.int IntKind.i64 0, Value.int IntKind.i64 0, Value.int IntKind.i64 0, Value.int IntKind.i64 0] }) [(0, 1, Operand.const (Value.int IntKind.i64 6)), (17, 1, Operand.const (Value.int IntKind.i64 2)), (18, 4, Operand.tmp 17)], guard := some (15, false), hints := [] },
  { dst := some 19, op := POp.call true [[], [], []] 39 [Operand.tmp 16, Operand.tmp 18, Operand.const (Value.int IntKind.i64 7)], guard := some (15, false), hints := [] },
  { dst := some 20, op := POp.prim (Prim.bin BinOp.neq 48 false true) [Operand.tmp 19, Operand.const (Value.int IntKind.i64 0)], guard := some (15, false), hints := [] },
  { dst := some 21, op := POp.pick (Operand.tmp 15) (Operand.const (Value.bool true)) (Operand.tmp 20), guard := none, hints := [] },
  { dst := some 22, op := POp.mv (Operand.tmp 21), guard := none, hints := [] },
  { dst := some 23, op := POp.mv (Operand.tmp 1), guard := some (22, false), hints := [] },
  { dst := some 24, op := POp.build (Value.agg { toList := [Value.int IntKind.i64 0, Value.int IntKind.i64 0, Value.int IntKind.i64 0, Value.int IntKind.i64 0, Value.int IntKind.i64 0, Value.int IntKind.i64 0, Value.int IntKind.i64 0, Value.string { data := { toList := [] } }, Value.int IntKind.i64 0, Value.string { data := { toList := [] } }, Value.int IntKind.i64 0, Value.string { data := { toList := [] } }, Value.int IntKind.i64 0, Value.string { data := { toList := [] } }, Value.int IntKind.i64 0, Value.string { data := { toList := [] } }, Value.int IntKind.i64 0, Value.int IntKind.i64 0, Value.int IntKind.i64 0, Value.int IntKind.i64 0, Value.int IntKind.i64 0, Value.int IntKind.i64 0] }) [(0, 1, Operand.const (Value.int IntKind.i64 6)), (17, 1, Operand.const (Value.int IntKind.i64 2))], guard := some (22, false), hints := [] },
  { dst := some 25, op := POp.call true [[], [], []] 39 [Operand.tmp 23, Operand.tmp 24, Operand.const (Value.int IntKind.i64 8)], guard := some (22, false), hints := [] },
  { dst := some 26, op := POp.prim (Prim.bin BinOp.neq 48 false true) [Operand.tmp 25, Operand.const (Value.int IntKind.i64 20)], guard := some (22, false), hints := [] },
  { dst := some 27, op := POp.pick (Operand.tmp 22) (Operand.const (Value.bool true)) (Operand.tmp 26), guard := none, hints := [] },
  { dst := some 28, op := POp.mv (Operand.tmp 27), guard := none, hints := [] },
  { dst := some 29, op := POp.mv (Operand.tmp 1), guard := some (28, false), hints := [] },
  { dst := some 30, op := POp.build (Value.agg { toList := [Value.int IntKind.i64 0, Value.int IntKind.i64 0, Value.int IntKind.i64 0, Value.int IntKind.i64 0, Value.int IntKind.i64 0, Value.int IntKind.i64 0, Value.int IntKind.i64 0, Value.string { data := { toList := [] } }, Value.int IntKind.i64 0, Value.string { data := { toList := [] } }, Value.int IntKind.i64 0, Value.string { data := { toList := [] } }, Value.int IntKind.i64 0, Value.string { data := { toList := [] } }, Value.int IntKind.i64 0, Value.string { data := { toList := [] } }, Value.int IntKind.i64 0, Value.int IntKind.i64 0, Value.int IntKind.i64 0, Value.int IntKind.i64 0, Value.int IntKind.i64 0, Value.int IntKind.i64 0] }) [(0, 1, Operand.const (Value.int IntKind.i64 1))], guard := some (28, false), hints := [] },
  { dst := some 31, op := POp.call true [[], [], []] 39 [Operand.tmp 29, Operand.tmp 30, Operand.const (Value.int IntKind.i64 8)], guard := some (28, false), hints := [] },
  { dst := some 32, op := POp.prim (Prim.bin BinOp.neq 48 false true) [Operand.tmp 31, Operand.const (Value.int IntKind.i64 11)], guard := some (28, false), hints := [] },
  { dst := some 33, op := POp.pick (Operand.tmp 28) (Operand.const (Value.bool true)) (Operand.tmp 32), guard := none, hints := [] }]
def pc35_c4 : PCode := .region none false pc35_o4
def pc35_o5 : List POper := [{ dst := some 0, op := POp.mv (Operand.const (Value.bool false)), guard := none, hints := [] }]
def pc35_c5 : PCode := .region none false pc35_o5
def pc35_c6 : PCode := .ret
def pc35_c7 : PCode := .seq pc35_c5 pc35_c6
def pc35_c8 : PCode := .skip
def pc35_c9 : PCode := .cond (Operand.tmp 33) pc35_c7 pc35_c8
def pc35_c10 : PCode := .seq pc35_c4 pc35_c9
def pc35_o11 : List POper := [{ dst := some 34, op := POp.mv (Operand.tmp 1), guard := none, hints := [] },
  { dst := some 35, op := POp.call true [[], []] 44 [Operand.tmp 34, Operand.const (Value.int IntKind.i64 0)], guard := none, hints := [] },
  { dst := some 3, op := POp.alloc 68 (Value.agg { toList := [Value.bool false, Value.int IntKind.i64 0, Value.int IntKind.i64 0, Value.int IntKind.i64 0, Value.int IntKind.i64 0, Value.int IntKind.i64 0, Value.int IntKind.i64 0] }) [], guard := none, hints := [] },
  { dst := none, op := POp.store 7 (Operand.tmp 3) (Operand.tmp 35), guard := none, hints := [] }]
def pc35_c11 : PCode := .region none false pc35_o11
def pc35_o12 : List POper := [{ dst := some 36, op := POp.mv (Operand.tmp 1), guard := none, hints := [] },
  { dst := some 37, op := POp.gcall false false [300000, 300001, 300002, 300003, 300004, 300005, 300006, 300007] [[]] 38 [Operand.tmp 36], guard := none, hints := [] },
  { dst := some 4, op := POp.mv (Operand.tmp 37), guard := none, hints := [] }]
def pc35_c12 : PCode := .region none false pc35_o12
def pc35_o13 : List POper := [{ dst := some 38, op := POp.load true 7 (Operand.tmp 3), guard := none, hints := [(3, Hint.at_ 3 0)] },
  { dst := some 39, op := POp.build (Value.agg { toList := [Value.int IntKind.i64 0, Value.int IntKind.i64 0, Value.int IntKind.i64 0, Value.int IntKind.i64 0] }) [(1, 1, Operand.const (Value.int IntKind.i64 1)), (2, 1, Operand.const (Value.int IntKind.i64 5)), (3, 1, Operand.const (Value.int IntKind.i64 64))], guard := none, hints := [] },
  { dst := some 40, op := POp.build (Value.agg { toList := [Value.bool false, Value.int IntKind.i64 0, Value.int IntKind.i64 0, Value.int IntKind.i64 0, Value.int IntKind.i64 0, Value.int IntKind.i64 0, Value.int IntKind.i64 0] }) [(0, 1, Operand.const (Value.bool true)), (1, 1, Operand.const (Value.int IntKind.i64 2)), (2, 1, Operand.const (Value.int IntKind.i64 7)), (3, 4, Operand.tmp 39)], guard := none, hints := [(39, Hint.imm)] },
  { dst := some 41, op := POp.prim (Prim.bin BinOp.eql 68 false false) [Operand.tmp 38, Operand.tmp 40], guard := none, hints := [(38, Hint.imm), (40, Hint.imm)] },
  { dst := some 42, op := POp.mv (Operand.tmp 41), guard := none, hints := [(41, Hint.imm)] },
  { dst := some 43, op := POp.mv (Operand.tmp 1), guard := some (42, true), hints := [(1, Hint.at_ 300000 0)] },
  { dst := some 44, op := POp.build (Value.agg { toList := [Value.int IntKind.i64 0, Value.int IntKind.i64 0] }) [(0, 1, Operand.const (Value.int IntKind.i64 4)), (1, 1, Operand.const (Value.int IntKind.i64 1))], guard := some (42, true), hints := [] },
  { dst := some 45, op := POp.call true [[], [], []] 42 [Operand.tmp 43, Operand.const (Value.int IntKind.i64 0), Operand.tmp 44], guard := some (42, true), hints := [(43, Hint.at_ 300000 0), (44, Hint.imm)] },
  { dst := some 46, op := POp.pick (Operand.tmp 42) (Operand.tmp 45) (Operand.const (Value.bool false)), guard := none, hints := [(42, Hint.imm), (45, Hint.imm)] },
  { dst := some 47, op := POp.mv (Operand.tmp 46), guard := none, hints := [(46, Hint.imm)] },
  { dst := some 48, op := POp.mv (Operand.tmp 1), guard := some (47, true), hints := [(1, Hint.at_ 300000 0)] },
  { dst := some 49, op := POp.build (Value.agg { toList := [Value.int IntKind.i64 0, Value.int IntKind.i64 0] }) [(0, 1, Operand.const (Value.int IntKind.i64 5)), (1, 1, Operand.const (Value.int IntKind.i64 1))], guard := some (47, true), hints := [] },
  { dst := some 50, op := POp.call true [[], [], []] 42 [Operand.tmp 48, Operand.const (Value.int IntKind.i64 0), Operand.tmp 49], guard := some (47, true), hints := [(48, Hint.at_ 300000 0), (49, Hint.imm)] },
  { dst := some 51, op := POp.prim (Prim.un UnOp.not) [Operand.tmp 50], guard := some (47, true), hints := [(50, Hint.imm)] },
  { dst := some 52, op := POp.pick (Operand.tmp 47) (Operand.tmp 51) (Operand.const (Value.bool false)), guard := none, hints := [(47, Hint.imm), (51, Hint.imm)] },
  { dst := some 53, op := POp.mv (Operand.tmp 52), guard := none, hints := [(52, Hint.imm)] },
  { dst := some 54, op := POp.mv (Operand.tmp 1), guard := some (53, true), hints := [(1, Hint.at_ 300000 0)] },
  { dst := some 55, op := POp.build (Value.agg { toList := [Value.int IntKind.i64 0, Value.int IntKind.i64 0] }) [], guard := some (53, true), hints := [] },
  { dst := some 56, op := POp.call true [[], [], []] 42 [Operand.tmp 54, Operand.const (Value.int IntKind.i64 9), Operand.tmp 55], guard := some (53, true), hints := [(54, Hint.at_ 300000 0), (55, Hint.imm)] },
  { dst := some 57, op := POp.prim (Prim.un UnOp.not) [Operand.tmp 56], guard := some (53, true), hints := [(56, Hint.imm)] },
  { dst := some 58, op := POp.pick (Operand.tmp 53) (Operand.tmp 57) (Operand.const (Value.bool false)), guard := none, hints := [(53, Hint.imm), (57, Hint.imm)] },
  { dst := some 59, op := POp.mv (Operand.tmp 58), guard := none, hints := [(58, Hint.imm)] },
  { dst := some 60, op := POp.mv (Operand.tmp 1), guard := some (59, true), hints := [(1, Hint.at_ 300000 0)] },
  { dst := some 61, op := POp.call true [[], []] 44 [Operand.tmp 60, Operand.const (Value.int IntKind.i64 (-1))], guard := some (59, true), hints := [(60, Hint.at_ 300000 0)] },
  { dst := some 62, op := POp.build (Value.agg { toList := [Value.bool false, Value.int IntKind.i64 0, Value.int IntKind.i64 0, Value.int IntKind.i64 0, Value.int IntKind.i64 0, Value.int IntKind.i64 0, Value.int IntKind.i64 0] }) [], guard := some (59, true), hints := [] },
  { dst := some 63, op := POp.prim (Prim.bin BinOp.eql 68 false false) [Operand.tmp 61, Operand.tmp 62], guard := some (59, true), hints := [(61, Hint.imm), (62, Hint.imm)] },
  { dst := some 64, op := POp.pick (Operand.tmp 59) (Operand.tmp 63) (Operand.const (Value.bool false)), guard := none, hints := [(59, Hint.imm), (63, Hint.imm)] },
  { dst := some 65, op := POp.mv (Operand.tmp 64), guard := none, hints := [(64, Hint.imm)] },
  { dst := some 66, op := POp.mv (Operand.tmp 4), guard := some (65, true), hints := [(4, Hint.at_ 300001 0)] },
  { dst := some 67, op := POp.build (Value.agg { toList := [Value.int IntKind.i64 0, Value.int IntKind.i64 0, Value.int IntKind.i64 0, Value.int IntKind.i64 0, Value.int IntKind.i64 0, Value.int IntKind.i64 0, Value.int IntKind.i64 0, Value.string { data := { toList := [] } }, Value.int IntKind.i64 0, Value.string { data := { toList := [] } }, Value.int IntKind.i64 0, Value.string { data := { toList := [] } }, Value.int IntKind.i64 0, Value.string { data := { toList := [] } }, Value.int IntKind.i64 0, Value.string { data := { toList := [] } }, Value.int IntKind.i64 0, Value.int IntKind.i64 0, Value.int IntKind.i64 0, Value.int IntKind.i64 0, Value.int IntKind.i64 0, Value.int IntKind.i64 0] }) [(0, 1, Operand.const (Value.int IntKind.i64 8)), (17, 1, Operand.const (Value.int IntKind.i64 2))], guard := some (65, true), hints := [] },
  { dst := some 68, op := POp.call true [[], [], []] 39 [Operand.tmp 66, Operand.tmp 67, Operand.const (Value.int IntKind.i64 9)], guard := some (65, true), hints := [(66, Hint.at_ 300001 0), (67, Hint.imm)] },
  { dst := some 69, op := POp.prim (Prim.bin BinOp.eql 48 false true) [Operand.tmp 68, Operand.const (Value.int IntKind.i64 0)], guard := some (65, true), hints := [(68, Hint.imm)] },
  { dst := some 70, op := POp.pick (Operand.tmp 65) (Operand.tmp 69) (Operand.const (Value.bool false)), guard := none, hints := [(65, Hint.imm), (69, Hint.imm)] },
  { dst := some 71, op := POp.mv (Operand.tmp 70), guard := none, hints := [(70, Hint.imm)] },
  { dst := some 72, op := POp.mv (Operand.tmp 4), guard := some (71, true), hints := [(4, Hint.at_ 300001 0)] },
  { dst := some 73, op := POp.call true [[], []] 44 [Operand.tmp 72, Operand.const (Value.int IntKind.i64 0)], guard := some (71, true), hints := [(72, Hint.at_ 300001 0)] },
  { dst := some 74, op := POp.fld false 0 1 (Operand.tmp 73), guard := some (71, true), hints := [(73, Hint.imm)] },
  { dst := some 75, op := POp.prim (Prim.un UnOp.not) [Operand.tmp 74], guard := some (71, true), hints := [(74, Hint.imm)] },
  { dst := some 76, op := POp.pick (Operand.tmp 71) (Operand.tmp 75) (Operand.const (Value.bool false)), guard := none, hints := [(71, Hint.imm), (75, Hint.imm)] },
  { dst := some 77, op := POp.mv (Operand.tmp 76), guard := none, hints := [(76, Hint.imm)] },
  { dst := some 78, op := POp.mv (Operand.tmp 1), guard := some (77, true), hints := [(1, Hint.at_ 300000 0)] },
  { dst := some 79, op := POp.call true [[]] 41 [Operand.tmp 78], guard := some (77, true), hints := [(78, Hint.at_ 300000 0)] },
  { dst := some 80, op := POp.idx true 7 4 (Operand.tmp 79) (Operand.const (Value.int IntKind.i64 0)), guard := some (77, true), hints := [(79, Hint.imm)] },
  { dst := some 81, op := POp.fld false 0 1 (Operand.tmp 80), guard := some (77, true), hints := [(80, Hint.imm)] },
  { dst := some 82, op := POp.pick (Operand.tmp 77) (Operand.tmp 81) (Operand.const (Value.bool false)), guard := none, hints := [(77, Hint.imm), (81, Hint.imm)] },
  { dst := some 83, op := POp.mv (Operand.tmp 82), guard := none, hints := [(82, Hint.imm)] },
  { dst := some 84, op := POp.load true 4 (Operand.tmp 2), guard := some (83, true), hints := [(2, Hint.at_ 2 0)] },
  { dst := some 85, op := POp.call false [[]] 45 [Operand.tmp 84], guard := some (83, true), hints := [(84, Hint.imm)] },
  { dst := some 86, op := POp.faddr 3 (Operand.tmp 3), guard := some (83, true), hints := [(3, Hint.at_ 3 0)] },
  { dst := some 87, op := POp.load true 4 (Operand.tmp 86), guard := some (83, true), hints := [(86, Hint.at_ 3 3)] },
  { dst := some 88, op := POp.prim (Prim.bin BinOp.eql 24 false false) [Operand.tmp 85, Operand.tmp 87], guard := some (83, true), hints := [(85, Hint.imm), (87, Hint.imm)] },
  { dst := some 89, op := POp.pick (Operand.tmp 83) (Operand.tmp 88) (Operand.const (Value.bool false)), guard := none, hints := [(83, Hint.imm), (88, Hint.imm)] },
  { dst := some 0, op := POp.mv (Operand.tmp 89), guard := none, hints := [(89, Hint.imm)] }]
def pc35_c13 : PCode := .region none true pc35_o13
def pc35_c14 : PCode := .ret
def pc35_c15 : PCode := .seq pc35_c13 pc35_c14
def pc35_c16 : PCode := .seq pc35_c12 pc35_c15
def pc35_c17 : PCode := .seq pc35_c11 pc35_c16
def pc35_c18 : PCode := .seq pc35_c10 pc35_c17
def pc35_c19 : PCode := .seq pc35_c3 pc35_c18
def pc35_c20 : PCode := .seq pc35_c2 pc35_c19
def pc35_c21 : PCode := .seq pc35_c1 pc35_c20
def pc35_r : List PRes := [PRes.tmp 0 []]
def pc35 : PFunc := ⟨90, pc35_r, pc35_c21, false⟩
def pc35_a : Ann := {
  kr := fun
    | _ => none
  ka := fun
    | _ => 0
  kh := fun
    | 1 => some (Hint.at_ 300000 0)
    | 2 => some (Hint.at_ 2 0)
    | 3 => some (Hint.at_ 3 0)
    | 4 => some (Hint.at_ 300001 0)
    | 38 => some (Hint.imm)
    | 39 => some (Hint.imm)
    | 40 => some (Hint.imm)
    | 41 => some (Hint.imm)
    | 42 => some (Hint.imm)
    | 43 => some (Hint.at_ 300000 0)
    | 44 => some (Hint.imm)
    | 45 => some (Hint.imm)
    | 46 => some (Hint.imm)
    | 47 => some (Hint.imm)
    | 48 => some (Hint.at_ 300000 0)
    | 49 => some (Hint.imm)
    | 50 => some (Hint.imm)
    | 51 => some (Hint.imm)
    | 52 => some (Hint.imm)
    | 53 => some (Hint.imm)
    | 54 => some (Hint.at_ 300000 0)
    | 55 => some (Hint.imm)
    | 56 => some (Hint.imm)
    | 57 => some (Hint.imm)
    | 58 => some (Hint.imm)
    | 59 => some (Hint.imm)
    | 60 => some (Hint.at_ 300000 0)
    | 61 => some (Hint.imm)
    | 62 => some (Hint.imm)
    | 63 => some (Hint.imm)
    | 64 => some (Hint.imm)
    | 65 => some (Hint.imm)
    | 66 => some (Hint.at_ 300001 0)
    | 67 => some (Hint.imm)
    | 68 => some (Hint.imm)
    | 69 => some (Hint.imm)
    | 70 => some (Hint.imm)
    | 71 => some (Hint.imm)
    | 72 => some (Hint.at_ 300001 0)
    | 73 => some (Hint.imm)
    | 74 => some (Hint.imm)
    | 75 => some (Hint.imm)
    | 76 => some (Hint.imm)
    | 77 => some (Hint.imm)
    | 78 => some (Hint.at_ 300000 0)
    | 79 => some (Hint.imm)
    | 80 => some (Hint.imm)
    | 81 => some (Hint.imm)
    | 82 => some (Hint.imm)
    | 83 => some (Hint.imm)
    | 84 => some (Hint.imm)
    | 85 => some (Hint.imm)
    | 86 => some (Hint.at_ 3 3)
    | 87 => some (Hint.imm)
    | 88 => some (Hint.imm)
    | 89 => some (Hint.imm)
    | _ => none
  gf := fun d f => match d, f with
    | some 5, 36 => some (false, false, [300000, 300001, 300002, 300003, 300004, 300005, 300006, 300007])
    | some 37, 38 => some (false, false, [300000, 300001, 300002, 300003, 300004, 300005, 300006, 300007])
    | _, _ => none }
theorem pc35_ok : compFn Try.prog pc35_a Try.f35 = some pc35 := by kernel_rfl


-- 37: vedette/vedettelaw14.fewCmd
def pc37_o1 : List POper := [{ dst := some 1, op := POp.box 74 (Operand.tmp 0) [], guard := none, hints := [] },
  { dst := some 2, op := POp.mv (Operand.const (Value.bool false)), guard := none, hints := [] }]
def pc37_c1 : PCode := .region none false pc37_o1
def pc37_o2 : List POper := [{ dst := some 3, op := POp.mv (Operand.const (Value.int IntKind.i64 0)), guard := none, hints := [] }]
def pc37_c2 : PCode := .region none false pc37_o2
def pc37_o3 : List POper := [{ dst := some 4, op := POp.mv (Operand.tmp 3), guard := none, hints := [] },
  { dst := some 5, op := POp.prim (Prim.bin BinOp.lss 3 false true) [Operand.tmp 4, Operand.const (Value.int IntKind.i64 4)], guard := none, hints := [] }]
def pc37_c3 : PCode := .region (some ([1, 3], [1], [])) false pc37_o3
def pc37_c4 : PCode := .skip
def pc37_c5 : PCode := .exit 0
def pc37_c6 : PCode := .cond (Operand.tmp 5) pc37_c4 pc37_c5
def pc37_c7 : PCode := .seq pc37_c3 pc37_c6
def pc37_o8 : List POper := [{ dst := some 8, op := POp.mv (Operand.tmp 3), guard := none, hints := [] },
  { dst := some 9, op := POp.faddr 6 (Operand.tmp 1), guard := none, hints := [] },
  { dst := some 10, op := POp.iaddrA 4 2 (Operand.tmp 9) (Operand.tmp 8), guard := none, hints := [] },
  { dst := some 11, op := POp.faddr 1 (Operand.tmp 10), guard := none, hints := [] },
  { dst := some 12, op := POp.load false 1 (Operand.tmp 11), guard := none, hints := [] },
  { dst := some 13, op := POp.prim (Prim.len 9) [Operand.tmp 12], guard := none, hints := [] },
  { dst := some 14, op := POp.prim (Prim.bin BinOp.gtr 3 false true) [Operand.tmp 13, Operand.const (Value.int IntKind.i64 40)], guard := none, hints := [] }]
def pc37_c8 : PCode := .region none false pc37_o8
def pc37_o9 : List POper := [{ dst := some 2, op := POp.mv (Operand.const (Value.bool false)), guard := none, hints := [] }]
def pc37_c9 : PCode := .region none false pc37_o9
def pc37_c10 : PCode := .ret
def pc37_c11 : PCode := .seq pc37_c9 pc37_c10
def pc37_c12 : PCode := .skip
def pc37_c13 : PCode := .cond (Operand.tmp 14) pc37_c11 pc37_c12
def pc37_c14 : PCode := .seq pc37_c8 pc37_c13
def pc37_c15 : PCode := .block 1 pc37_c14
def pc37_o16 : List POper := [{ dst := some 6, op := POp.mv (Operand.tmp 3), guard := none, hints := [] },
  { dst := some 7, op := POp.prim (Prim.bin BinOp.add 3 false true) [Operand.tmp 6, Operand.const (Value.int IntKind.i64 1)], guard := none, hints := [] },
  { dst := some 3, op := POp.mv (Operand.tmp 7), guard := none, hints := [] }]
def pc37_c16 : PCode := .region none false pc37_o16
def pc37_c17 : PCode := .seq pc37_c15 pc37_c16
def pc37_c18 : PCode := .seq pc37_c7 pc37_c17
def pc37_c19 : PCode := .loop pc37_c18
def pc37_c20 : PCode := .block 0 pc37_c19
def pc37_c21 : PCode := .seq pc37_c2 pc37_c20
def pc37_o22 : List POper := [{ dst := some 15, op := POp.faddr 14 (Operand.tmp 1), guard := none, hints := [] },
  { dst := some 16, op := POp.faddr 1 (Operand.tmp 15), guard := none, hints := [] },
  { dst := some 17, op := POp.load false 1 (Operand.tmp 16), guard := none, hints := [] },
  { dst := some 18, op := POp.prim (Prim.len 9) [Operand.tmp 17], guard := none, hints := [] },
  { dst := some 19, op := POp.prim (Prim.bin BinOp.leq 3 false true) [Operand.tmp 18, Operand.const (Value.int IntKind.i64 40)], guard := none, hints := [] },
  { dst := some 2, op := POp.mv (Operand.tmp 19), guard := none, hints := [] }]
def pc37_c22 : PCode := .region none false pc37_o22
def pc37_c23 : PCode := .ret
def pc37_c24 : PCode := .seq pc37_c22 pc37_c23
def pc37_c25 : PCode := .seq pc37_c21 pc37_c24
def pc37_c26 : PCode := .seq pc37_c1 pc37_c25
def pc37_r : List PRes := [PRes.tmp 2 []]
def pc37 : PFunc := ⟨20, pc37_r, pc37_c26, false⟩
def pc37_a : Ann := {
  kr := fun
    | 2 => some ([1, 3], [1], [])
    | _ => none
  ka := fun
    | _ => 0
  kh := fun
    | _ => none }
theorem pc37_ok : compFn Try.prog pc37_a Try.f37 = some pc37 := by kernel_rfl


-- 12: vedette/vedettelaw14.WatchSessions
def pc12_o1 : List POper := [{ dst := some 3, op := POp.box 34 (Operand.tmp 1) [], guard := none, hints := [] },
  { dst := some 4, op := POp.mv (Operand.const (Value.bool false)), guard := none, hints := [] }]
def pc12_c1 : PCode := .region none false pc12_o1
def pc12_o2 : List POper := [{ dst := some 11, op := POp.call true [] 35 [], guard := none, hints := [] },
  { dst := some 12, op := POp.prim (Prim.un UnOp.not) [Operand.tmp 11], guard := none, hints := [] }]
def pc12_c2 : PCode := .region none false pc12_o2
def pc12_o3 : List POper := [{ dst := some 4, op := POp.mv (Operand.const (Value.bool false)), guard := none, hints := [] }]
def pc12_c3 : PCode := .region none false pc12_o3
def pc12_c4 : PCode := .ret
def pc12_c5 : PCode := .seq pc12_c3 pc12_c4
def pc12_c6 : PCode := .skip
def pc12_c7 : PCode := .cond (Operand.tmp 12) pc12_c5 pc12_c6
def pc12_c8 : PCode := .seq pc12_c2 pc12_c7
def pc12_o9 : List POper := [{ dst := some 13, op := POp.mv (Operand.tmp 0), guard := none, hints := [] },
  { dst := some 14, op := POp.lenS (Operand.tmp 13), guard := none, hints := [] },
  { dst := some 15, op := POp.prim (Prim.bin BinOp.gtr 3 false true) [Operand.tmp 14, Operand.const (Value.int IntKind.i64 60)], guard := none, hints := [] }]
def pc12_c9 : PCode := .region none false pc12_o9
def pc12_o10 : List POper := [{ dst := some 4, op := POp.mv (Operand.const (Value.bool true)), guard := none, hints := [] }]
def pc12_c10 : PCode := .region none false pc12_o10
def pc12_c11 : PCode := .ret
def pc12_c12 : PCode := .seq pc12_c10 pc12_c11
def pc12_c13 : PCode := .skip
def pc12_c14 : PCode := .cond (Operand.tmp 15) pc12_c12 pc12_c13
def pc12_c15 : PCode := .seq pc12_c9 pc12_c14
def pc12_o16 : List POper := [{ dst := some 16, op := POp.gcall false false [300000, 300001, 300002, 300003, 300004, 300005, 300006, 300007] [] 36 [], guard := none, hints := [] },
  { dst := some 5, op := POp.mv (Operand.tmp 16), guard := none, hints := [] }]
def pc12_c16 : PCode := .region none false pc12_o16
def pc12_o17 : List POper := [{ dst := some 6, op := POp.mv (Operand.const (Value.int IntKind.i64 0)), guard := none, hints := [] }]
def pc12_c17 : PCode := .region none false pc12_o17
def pc12_o18 : List POper := [{ dst := some 17, op := POp.mv (Operand.tmp 6), guard := none, hints := [] },
  { dst := some 18, op := POp.mv (Operand.tmp 0), guard := none, hints := [] },
  { dst := some 19, op := POp.lenS (Operand.tmp 18), guard := none, hints := [] },
  { dst := some 20, op := POp.prim (Prim.bin BinOp.lss 3 false false) [Operand.tmp 17, Operand.tmp 19], guard := none, hints := [] }]
def pc12_c18 : PCode := .region (some ([0, 3, 5, 6], [3, 7, 9, 300000], [])) false pc12_o18
def pc12_c19 : PCode := .skip
def pc12_c20 : PCode := .exit 0
def pc12_c21 : PCode := .cond (Operand.tmp 20) pc12_c19 pc12_c20
def pc12_c22 : PCode := .seq pc12_c18 pc12_c21
def pc12_o23 : List POper := [{ dst := some 23, op := POp.mv (Operand.tmp 0), guard := none, hints := [] },
  { dst := some 24, op := POp.mv (Operand.tmp 6), guard := none, hints := [] },
  { dst := some 25, op := POp.iaddrS 23 (Operand.tmp 23) (Operand.tmp 24), guard := none, hints := [] },
  { dst := some 26, op := POp.faddr 0 (Operand.tmp 25), guard := none, hints := [] },
  { dst := some 27, op := POp.load true 22 (Operand.tmp 26), guard := none, hints := [] },
  { dst := some 28, op := POp.call true [[]] 37 [Operand.tmp 27], guard := none, hints := [] },
  { dst := some 29, op := POp.prim (Prim.un UnOp.not) [Operand.tmp 28], guard := none, hints := [] }]
def pc12_c23 : PCode := .region none false pc12_o23
def pc12_o24 : List POper := [{ dst := some 4, op := POp.mv (Operand.const (Value.bool true)), guard := none, hints := [] }]
def pc12_c24 : PCode := .region none false pc12_o24
def pc12_c25 : PCode := .ret
def pc12_c26 : PCode := .seq pc12_c24 pc12_c25
def pc12_c27 : PCode := .skip
def pc12_c28 : PCode := .cond (Operand.tmp 29) pc12_c26 pc12_c27
def pc12_c29 : PCode := .seq pc12_c23 pc12_c28
def pc12_o30 : List POper := [{ dst := some 30, op := POp.mv (Operand.tmp 5), guard := none, hints := [] },
  { dst := some 31, op := POp.call true [[]] 41 [Operand.tmp 30], guard := none, hints := [] },
  { dst := some 7, op := POp.alloc 69 (Value.agg { toList := [Value.bool false, Value.int IntKind.i64 0, Value.int IntKind.i64 0, Value.int IntKind.i64 0, Value.int IntKind.i64 0, Value.int IntKind.i64 0, Value.int IntKind.i64 0, Value.bool false, Value.int IntKind.i64 0, Value.int IntKind.i64 0, Value.int IntKind.i64 0, Value.int IntKind.i64 0, Value.int IntKind.i64 0, Value.int IntKind.i64 0, Value.bool false, Value.int IntKind.i64 0, Value.int IntKind.i64 0, Value.int IntKind.i64 0, Value.int IntKind.i64 0, Value.int IntKind.i64 0, Value.int IntKind.i64 0, Value.bool false, Value.int IntKind.i64 0, Value.int IntKind.i64 0, Value.int IntKind.i64 0, Value.int IntKind.i64 0, Value.int IntKind.i64 0, Value.int IntKind.i64 0] }) [], guard := none, hints := [] },
  { dst := none, op := POp.store 28 (Operand.tmp 7) (Operand.tmp 31), guard := none, hints := [] }]
def pc12_c30 : PCode := .region none false pc12_o30
def pc12_o31 : List POper := [{ dst := some 32, op := POp.mv (Operand.tmp 5), guard := none, hints := [(5, Hint.at_ 300000 0)] },
  { dst := some 33, op := POp.mv (Operand.tmp 0), guard := none, hints := [(0, Hint.imm)] },
  { dst := some 34, op := POp.mv (Operand.tmp 6), guard := none, hints := [(6, Hint.imm)] },
  { dst := some 35, op := POp.iaddrS 23 (Operand.tmp 33) (Operand.tmp 34), guard := none, hints := [(33, Hint.imm), (34, Hint.imm)] },
  { dst := some 36, op := POp.faddr 0 (Operand.tmp 35), guard := none, hints := [(35, Hint.imm)] },
  { dst := some 37, op := POp.load true 22 (Operand.tmp 36), guard := none, hints := [(36, Hint.imm)] },
  { dst := some 38, op := POp.mv (Operand.tmp 0), guard := none, hints := [(0, Hint.imm)] },
  { dst := some 39, op := POp.mv (Operand.tmp 6), guard := none, hints := [(6, Hint.imm)] },
  { dst := some 40, op := POp.iaddrS 23 (Operand.tmp 38) (Operand.tmp 39), guard := none, hints := [(38, Hint.imm), (39, Hint.imm)] },
  { dst := some 41, op := POp.faddr 22 (Operand.tmp 40), guard := none, hints := [(40, Hint.imm)] },
  { dst := some 42, op := POp.load false 1 (Operand.tmp 41), guard := none, hints := [(41, Hint.imm)] },
  { dst := some 43, op := POp.call true [[], [], []] 39 [Operand.tmp 32, Operand.tmp 37, Operand.tmp 42], guard := none, hints := [(32, Hint.at_ 300000 0), (37, Hint.imm), (42, Hint.imm)] },
  { dst := some 8, op := POp.mv (Operand.tmp 43), guard := none, hints := [(43, Hint.imm)] }]
def pc12_c31 : PCode := .region none true pc12_o31
def pc12_o32 : List POper := [{ dst := some 44, op := POp.mv (Operand.tmp 5), guard := none, hints := [] },
  { dst := some 45, op := POp.call true [[]] 41 [Operand.tmp 44], guard := none, hints := [] },
  { dst := some 9, op := POp.alloc 69 (Value.agg { toList := [Value.bool false, Value.int IntKind.i64 0, Value.int IntKind.i64 0, Value.int IntKind.i64 0, Value.int IntKind.i64 0, Value.int IntKind.i64 0, Value.int IntKind.i64 0, Value.bool false, Value.int IntKind.i64 0, Value.int IntKind.i64 0, Value.int IntKind.i64 0, Value.int IntKind.i64 0, Value.int IntKind.i64 0, Value.int IntKind.i64 0, Value.bool false, Value.int IntKind.i64 0, Value.int IntKind.i64 0, Value.int IntKind.i64 0, Value.int IntKind.i64 0, Value.int IntKind.i64 0, Value.int IntKind.i64 0, Value.bool false, Value.int IntKind.i64 0, Value.int IntKind.i64 0, Value.int IntKind.i64 0, Value.int IntKind.i64 0, Value.int IntKind.i64 0, Value.int IntKind.i64 0] }) [], guard := none, hints := [] },
  { dst := none, op := POp.store 28 (Operand.tmp 9) (Operand.tmp 45), guard := none, hints := [] }]
def pc12_c32 : PCode := .region none false pc12_o32
def pc12_o33 : List POper := [{ dst := some 10, op := POp.mv (Operand.const (Value.int IntKind.i64 0)), guard := none, hints := [] }]
def pc12_c33 : PCode := .region none false pc12_o33
def pc12_o34 : List POper := [{ dst := some 46, op := POp.mv (Operand.tmp 10), guard := none, hints := [] },
  { dst := some 47, op := POp.prim (Prim.bin BinOp.lss 3 false true) [Operand.tmp 46, Operand.const (Value.int IntKind.i64 4)], guard := none, hints := [] }]
def pc12_c34 : PCode := .region (some ([0, 3, 5, 6, 7, 8, 9, 10], [3, 7, 9, 300000], [])) false pc12_o34
def pc12_c35 : PCode := .skip
def pc12_c36 : PCode := .exit 2
def pc12_c37 : PCode := .cond (Operand.tmp 47) pc12_c35 pc12_c36
def pc12_c38 : PCode := .seq pc12_c34 pc12_c37
def pc12_o39 : List POper := [{ dst := some 50, op := POp.mv (Operand.tmp 8), guard := none, hints := [(8, Hint.imm)] },
  { dst := some 51, op := POp.prim (Prim.bin BinOp.neq 48 false true) [Operand.tmp 50, Operand.const (Value.int IntKind.i64 0)], guard := none, hints := [(50, Hint.imm)] },
  { dst := some 52, op := POp.mv (Operand.tmp 51), guard := none, hints := [(51, Hint.imm)] },
  { dst := some 53, op := POp.mv (Operand.tmp 10), guard := some (52, false), hints := [(10, Hint.imm)] },
  { dst := some 54, op := POp.mv (Operand.tmp 0), guard := some (52, false), hints := [(0, Hint.imm)] },
  { dst := some 55, op := POp.mv (Operand.tmp 6), guard := some (52, false), hints := [(6, Hint.imm)] },
  { dst := some 56, op := POp.iaddrS 23 (Operand.tmp 54) (Operand.tmp 55), guard := some (52, false), hints := [(54, Hint.imm), (55, Hint.imm)] },
  { dst := some 57, op := POp.faddr 0 (Operand.tmp 56), guard := some (52, false), hints := [(56, Hint.imm)] },
  { dst := some 58, op := POp.faddr 16 (Operand.tmp 57), guard := some (52, false), hints := [(57, Hint.imm)] },
  { dst := some 59, op := POp.load false 1 (Operand.tmp 58), guard := some (52, false), hints := [(58, Hint.imm)] },
  { dst := some 60, op := POp.prim (Prim.bin BinOp.neq 3 false false) [Operand.tmp 53, Operand.tmp 59], guard := some (52, false), hints := [(53, Hint.imm), (59, Hint.imm)] },
  { dst := some 61, op := POp.pick (Operand.tmp 52) (Operand.const (Value.bool true)) (Operand.tmp 60), guard := none, hints := [(52, Hint.imm), (60, Hint.imm)] },
  { dst := some 62, op := POp.mv (Operand.tmp 61), guard := none, hints := [(61, Hint.imm)] },
  { dst := some 63, op := POp.mv (Operand.tmp 10), guard := some (62, true), hints := [(10, Hint.imm)] },
  { dst := some 64, op := POp.iaddrA 4 7 (Operand.tmp 9) (Operand.tmp 63), guard := some (62, true), hints := [(9, Hint.at_ 9 0), (63, Hint.imm)] },
  { dst := some 65, op := POp.load true 7 (Operand.tmp 64), guard := some (62, true), hints := [(64, Hint.obj 9)] },
  { dst := some 66, op := POp.mv (Operand.tmp 10), guard := some (62, true), hints := [(10, Hint.imm)] },
  { dst := some 67, op := POp.iaddrA 4 7 (Operand.tmp 7) (Operand.tmp 66), guard := some (62, true), hints := [(7, Hint.at_ 7 0), (66, Hint.imm)] },
  { dst := some 68, op := POp.load true 7 (Operand.tmp 67), guard := some (62, true), hints := [(67, Hint.obj 7)] },
  { dst := some 69, op := POp.prim (Prim.bin BinOp.neq 68 false false) [Operand.tmp 65, Operand.tmp 68], guard := some (62, true), hints := [(65, Hint.imm), (68, Hint.imm)] },
  { dst := some 70, op := POp.pick (Operand.tmp 62) (Operand.tmp 69) (Operand.const (Value.bool false)), guard := none, hints := [(62, Hint.imm), (69, Hint.imm)] },
  { dst := some 71, op := POp.mv (Operand.tmp 70), guard := none, hints := [(70, Hint.imm)] },
  { dst := some 72, op := POp.mv (Operand.tmp 10), guard := some (71, false), hints := [(10, Hint.imm)] },
  { dst := some 73, op := POp.iaddrA 4 7 (Operand.tmp 9) (Operand.tmp 72), guard := some (71, false), hints := [(9, Hint.at_ 9 0), (72, Hint.imm)] },
  { dst := some 74, op := POp.faddr 1 (Operand.tmp 73), guard := some (71, false), hints := [(73, Hint.obj 9)] },
  { dst := some 75, op := POp.load false 1 (Operand.tmp 74), guard := some (71, false), hints := [(74, Hint.obj 9)] },
  { dst := some 76, op := POp.mv (Operand.tmp 10), guard := some (71, false), hints := [(10, Hint.imm)] },
  { dst := some 77, op := POp.iaddrA 4 7 (Operand.tmp 7) (Operand.tmp 76), guard := some (71, false), hints := [(7, Hint.at_ 7 0), (76, Hint.imm)] },
  { dst := some 78, op := POp.faddr 1 (Operand.tmp 77), guard := some (71, false), hints := [(77, Hint.obj 7)] },
  { dst := some 79, op := POp.load false 1 (Operand.tmp 78), guard := some (71, false), hints := [(78, Hint.obj 7)] },
  { dst := some 80, op := POp.prim (Prim.bin BinOp.lss 3 false false) [Operand.tmp 75, Operand.tmp 79], guard := some (71, false), hints := [(75, Hint.imm), (79, Hint.imm)] },
  { dst := some 81, op := POp.pick (Operand.tmp 71) (Operand.const (Value.bool true)) (Operand.tmp 80), guard := none, hints := [(71, Hint.imm), (80, Hint.imm)] },
  { dst := some 82, op := POp.mv (Operand.tmp 81), guard := none, hints := [(81, Hint.imm)] },
  { dst := some 83, op := POp.mv (Operand.tmp 10), guard := some (82, false), hints := [(10, Hint.imm)] },
  { dst := some 84, op := POp.iaddrA 4 7 (Operand.tmp 9) (Operand.tmp 83), guard := some (82, false), hints := [(9, Hint.at_ 9 0), (83, Hint.imm)] },
  { dst := some 85, op := POp.faddr 0 (Operand.tmp 84), guard := some (82, false), hints := [(84, Hint.obj 9)] },
  { dst := some 86, op := POp.load false 1 (Operand.tmp 85), guard := some (82, false), hints := [(85, Hint.obj 9)] },
  { dst := some 87, op := POp.prim (Prim.un UnOp.not) [Operand.tmp 86], guard := some (82, false), hints := [(86, Hint.imm)] },
  { dst := some 88, op := POp.mv (Operand.tmp 87), guard := some (82, false), hints := [(87, Hint.imm)] },
  { dst := some 89, op := POp.mv (Operand.tmp 5), guard := some (88, true), hints := [(5, Hint.at_ 300000 0)] },
  { dst := some 90, op := POp.mv (Operand.tmp 10), guard := some (88, true), hints := [(10, Hint.imm)] },
  { dst := some 91, op := POp.load true 2 (Operand.tmp 3), guard := some (88, true), hints := [(3, Hint.at_ 3 0)] },
  { dst := some 92, op := POp.call true [[], [], []] 42 [Operand.tmp 89, Operand.tmp 90, Operand.tmp 91], guard := some (88, true), hints := [(89, Hint.at_ 300000 0), (90, Hint.imm), (91, Hint.imm)] },
  { dst := some 93, op := POp.pick (Operand.tmp 88) (Operand.tmp 92) (Operand.const (Value.bool false)), guard := some (82, false), hints := [(88, Hint.imm), (92, Hint.imm)] },
  { dst := some 94, op := POp.pick (Operand.tmp 82) (Operand.const (Value.bool true)) (Operand.tmp 93), guard := none, hints := [(82, Hint.imm), (93, Hint.imm)] },
  { dst := some 95, op := POp.mv (Operand.tmp 94), guard := none, hints := [(94, Hint.imm)] },
  { dst := some 96, op := POp.mv (Operand.tmp 10), guard := some (95, false), hints := [(10, Hint.imm)] },
  { dst := some 97, op := POp.iaddrA 4 7 (Operand.tmp 9) (Operand.tmp 96), guard := some (95, false), hints := [(9, Hint.at_ 9 0), (96, Hint.imm)] },
  { dst := some 98, op := POp.faddr 0 (Operand.tmp 97), guard := some (95, false), hints := [(97, Hint.obj 9)] },
  { dst := some 99, op := POp.load false 1 (Operand.tmp 98), guard := some (95, false), hints := [(98, Hint.obj 9)] },
  { dst := some 100, op := POp.mv (Operand.tmp 99), guard := some (95, false), hints := [(99, Hint.imm)] },
  { dst := some 101, op := POp.mv (Operand.tmp 10), guard := some (100, true), hints := [(10, Hint.imm)] },
  { dst := some 102, op := POp.iaddrA 4 7 (Operand.tmp 7) (Operand.tmp 101), guard := some (100, true), hints := [(7, Hint.at_ 7 0), (101, Hint.imm)] },
  { dst := some 103, op := POp.faddr 0 (Operand.tmp 102), guard := some (100, true), hints := [(102, Hint.obj 7)] },
  { dst := some 104, op := POp.load false 1 (Operand.tmp 103), guard := some (100, true), hints := [(103, Hint.obj 7)] },
  { dst := some 105, op := POp.prim (Prim.un UnOp.not) [Operand.tmp 104], guard := some (100, true), hints := [(104, Hint.imm)] },
  { dst := some 106, op := POp.pick (Operand.tmp 100) (Operand.tmp 105) (Operand.const (Value.bool false)), guard := some (95, false), hints := [(100, Hint.imm), (105, Hint.imm)] },
  { dst := some 107, op := POp.mv (Operand.tmp 106), guard := some (95, false), hints := [(106, Hint.imm)] },
  { dst := some 108, op := POp.mv (Operand.tmp 10), guard := some (107, true), hints := [(10, Hint.imm)] },
  { dst := some 109, op := POp.iaddrA 4 7 (Operand.tmp 9) (Operand.tmp 108), guard := some (107, true), hints := [(9, Hint.at_ 9 0), (108, Hint.imm)] },
  { dst := some 110, op := POp.faddr 1 (Operand.tmp 109), guard := some (107, true), hints := [(109, Hint.obj 9)] },
  { dst := some 111, op := POp.load false 1 (Operand.tmp 110), guard := some (107, true), hints := [(110, Hint.obj 9)] },
  { dst := some 112, op := POp.mv (Operand.tmp 10), guard := some (107, true), hints := [(10, Hint.imm)] },
  { dst := some 113, op := POp.iaddrA 4 7 (Operand.tmp 7) (Operand.tmp 112), guard := some (107, true), hints := [(7, Hint.at_ 7 0), (112, Hint.imm)] },
  { dst := some 114, op := POp.faddr 1 (Operand.tmp 113), guard := some (107, true), hints := [(113, Hint.obj 7)] },
  { dst := some 115, op := POp.load false 1 (Operand.tmp 114), guard := some (107, true), hints := [(114, Hint.obj 7)] },
  { dst := some 116, op := POp.prim (Prim.bin BinOp.eql 3 false false) [Operand.tmp 111, Operand.tmp 115], guard := some (107, true), hints := [(111, Hint.imm), (115, Hint.imm)] },
  { dst := some 117, op := POp.pick (Operand.tmp 107) (Operand.tmp 116) (Operand.const (Value.bool false)), guard := some (95, false), hints := [(107, Hint.imm), (116, Hint.imm)] },
  { dst := some 118, op := POp.pick (Operand.tmp 95) (Operand.const (Value.bool true)) (Operand.tmp 117), guard := none, hints := [(95, Hint.imm), (117, Hint.imm)] }]
def pc12_c39 : PCode := .region none true pc12_o39
def pc12_o40 : List POper := [{ dst := some 4, op := POp.mv (Operand.const (Value.bool false)), guard := none, hints := [] }]
def pc12_c40 : PCode := .region none false pc12_o40
def pc12_c41 : PCode := .ret
def pc12_c42 : PCode := .seq pc12_c40 pc12_c41
def pc12_c43 : PCode := .skip
def pc12_c44 : PCode := .cond (Operand.tmp 118) pc12_c42 pc12_c43
def pc12_c45 : PCode := .seq pc12_c39 pc12_c44
def pc12_c46 : PCode := .block 3 pc12_c45
def pc12_o47 : List POper := [{ dst := some 48, op := POp.mv (Operand.tmp 10), guard := none, hints := [] },
  { dst := some 49, op := POp.prim (Prim.bin BinOp.add 3 false true) [Operand.tmp 48, Operand.const (Value.int IntKind.i64 1)], guard := none, hints := [] },
  { dst := some 10, op := POp.mv (Operand.tmp 49), guard := none, hints := [] }]
def pc12_c47 : PCode := .region none false pc12_o47
def pc12_c48 : PCode := .seq pc12_c46 pc12_c47
def pc12_c49 : PCode := .seq pc12_c38 pc12_c48
def pc12_c50 : PCode := .loop pc12_c49
def pc12_c51 : PCode := .block 2 pc12_c50
def pc12_c52 : PCode := .seq pc12_c33 pc12_c51
def pc12_c53 : PCode := .seq pc12_c32 pc12_c52
def pc12_c54 : PCode := .seq pc12_c31 pc12_c53
def pc12_c55 : PCode := .seq pc12_c30 pc12_c54
def pc12_c56 : PCode := .seq pc12_c29 pc12_c55
def pc12_c57 : PCode := .block 1 pc12_c56
def pc12_o58 : List POper := [{ dst := some 21, op := POp.mv (Operand.tmp 6), guard := none, hints := [] },
  { dst := some 22, op := POp.prim (Prim.bin BinOp.add 3 false true) [Operand.tmp 21, Operand.const (Value.int IntKind.i64 1)], guard := none, hints := [] },
  { dst := some 6, op := POp.mv (Operand.tmp 22), guard := none, hints := [] }]
def pc12_c58 : PCode := .region none false pc12_o58
def pc12_c59 : PCode := .seq pc12_c57 pc12_c58
def pc12_c60 : PCode := .seq pc12_c22 pc12_c59
def pc12_c61 : PCode := .loop pc12_c60
def pc12_c62 : PCode := .block 0 pc12_c61
def pc12_c63 : PCode := .seq pc12_c17 pc12_c62
def pc12_o64 : List POper := [{ dst := some 4, op := POp.mv (Operand.const (Value.bool true)), guard := none, hints := [] }]
def pc12_c64 : PCode := .region none false pc12_o64
def pc12_c65 : PCode := .ret
def pc12_c66 : PCode := .seq pc12_c64 pc12_c65
def pc12_c67 : PCode := .seq pc12_c63 pc12_c66
def pc12_c68 : PCode := .seq pc12_c16 pc12_c67
def pc12_c69 : PCode := .seq pc12_c15 pc12_c68
def pc12_c70 : PCode := .seq pc12_c8 pc12_c69
def pc12_c71 : PCode := .seq pc12_c1 pc12_c70
def pc12_r : List PRes := [PRes.tmp 4 []]
def pc12 : PFunc := ⟨119, pc12_r, pc12_c71, false⟩
def pc12_a : Ann := {
  kr := fun
    | 7 => some ([0, 3, 5, 6], [3, 7, 9, 300000], [])
    | 15 => some ([0, 3, 5, 6, 7, 8, 9, 10], [3, 7, 9, 300000], [])
    | _ => none
  ka := fun
    | _ => 0
  kh := fun
    | 0 => some (Hint.imm)
    | 3 => some (Hint.at_ 3 0)
    | 5 => some (Hint.at_ 300000 0)
    | 6 => some (Hint.imm)
    | 7 => some (Hint.at_ 7 0)
    | 8 => some (Hint.imm)
    | 9 => some (Hint.at_ 9 0)
    | 10 => some (Hint.imm)
    | 32 => some (Hint.at_ 300000 0)
    | 33 => some (Hint.imm)
    | 34 => some (Hint.imm)
    | 35 => some (Hint.imm)
    | 36 => some (Hint.imm)
    | 37 => some (Hint.imm)
    | 38 => some (Hint.imm)
    | 39 => some (Hint.imm)
    | 40 => some (Hint.imm)
    | 41 => some (Hint.imm)
    | 42 => some (Hint.imm)
    | 43 => some (Hint.imm)
    | 50 => some (Hint.imm)
    | 51 => some (Hint.imm)
    | 52 => some (Hint.imm)
    | 53 => some (Hint.imm)
    | 54 => some (Hint.imm)
    | 55 => some (Hint.imm)
    | 56 => some (Hint.imm)
    | 57 => some (Hint.imm)
    | 58 => some (Hint.imm)
    | 59 => some (Hint.imm)
    | 60 => some (Hint.imm)
    | 61 => some (Hint.imm)
    | 62 => some (Hint.imm)
    | 63 => some (Hint.imm)
    | 64 => some (Hint.obj 9)
    | 65 => some (Hint.imm)
    | 66 => some (Hint.imm)
    | 67 => some (Hint.obj 7)
    | 68 => some (Hint.imm)
    | 69 => some (Hint.imm)
    | 70 => some (Hint.imm)
    | 71 => some (Hint.imm)
    | 72 => some (Hint.imm)
    | 73 => some (Hint.obj 9)
    | 74 => some (Hint.obj 9)
    | 75 => some (Hint.imm)
    | 76 => some (Hint.imm)
    | 77 => some (Hint.obj 7)
    | 78 => some (Hint.obj 7)
    | 79 => some (Hint.imm)
    | 80 => some (Hint.imm)
    | 81 => some (Hint.imm)
    | 82 => some (Hint.imm)
    | 83 => some (Hint.imm)
    | 84 => some (Hint.obj 9)
    | 85 => some (Hint.obj 9)
    | 86 => some (Hint.imm)
    | 87 => some (Hint.imm)
    | 88 => some (Hint.imm)
    | 89 => some (Hint.at_ 300000 0)
    | 90 => some (Hint.imm)
    | 91 => some (Hint.imm)
    | 92 => some (Hint.imm)
    | 93 => some (Hint.imm)
    | 94 => some (Hint.imm)
    | 95 => some (Hint.imm)
    | 96 => some (Hint.imm)
    | 97 => some (Hint.obj 9)
    | 98 => some (Hint.obj 9)
    | 99 => some (Hint.imm)
    | 100 => some (Hint.imm)
    | 101 => some (Hint.imm)
    | 102 => some (Hint.obj 7)
    | 103 => some (Hint.obj 7)
    | 104 => some (Hint.imm)
    | 105 => some (Hint.imm)
    | 106 => some (Hint.imm)
    | 107 => some (Hint.imm)
    | 108 => some (Hint.imm)
    | 109 => some (Hint.obj 9)
    | 110 => some (Hint.obj 9)
    | 111 => some (Hint.imm)
    | 112 => some (Hint.imm)
    | 113 => some (Hint.obj 7)
    | 114 => some (Hint.obj 7)
    | 115 => some (Hint.imm)
    | 116 => some (Hint.imm)
    | 117 => some (Hint.imm)
    | _ => none
  gf := fun d f => match d, f with
    | some 16, 36 => some (false, false, [300000, 300001, 300002, 300003, 300004, 300005, 300006, 300007])
    | _, _ => none }
theorem pc12_ok : compFn Try.prog pc12_a Try.f12 = some pc12 := by kernel_rfl


end Go.Proofs.Ytajfdeeepklfoaa
