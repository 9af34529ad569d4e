/-
  Code of functions, as the pure machine runs it. No condition.
-/
import Derived.Test.YtobeamaaifgllaaThingTellsT
namespace Go.Proofs.Ytobeamaaifgllaa
open Go Go.Rx
set_option maxRecDepth 100000
set_option linter.unusedVariables false
set_option linter.unusedSimpArgs false
set_option linter.unnecessarySimpa false
-- 67: vedette/geom.On
def pc67_o1 : List POper := [{ dst := some 1, op := POp.box 23 (Operand.tmp 0) [], guard := none, hints := [] },
  { dst := some 2, op := POp.mv (Operand.const (Value.bool false)), guard := none, hints := [] }]
def pc67_c1 : PCode := .region none false pc67_o1
def pc67_o2 : List POper := [{ dst := some 3, op := POp.faddr 0 (Operand.tmp 1), guard := none, hints := [] },
  { dst := some 4, op := POp.load false 1 (Operand.tmp 3), guard := none, hints := [] },
  { dst := some 5, op := POp.prim (Prim.bin BinOp.geq 3 false true) [Operand.tmp 4, Operand.const (Value.int IntKind.i64 0)], guard := none, hints := [] },
  { dst := some 6, op := POp.mv (Operand.tmp 5), guard := none, hints := [] },
  { dst := some 7, op := POp.faddr 0 (Operand.tmp 1), guard := some (6, true), hints := [] },
  { dst := some 8, op := POp.load false 1 (Operand.tmp 7), guard := some (6, true), hints := [] },
  { dst := some 9, op := POp.prim (Prim.bin BinOp.lss 3 false true) [Operand.tmp 8, Operand.const (Value.int IntKind.i64 64)], guard := some (6, true), hints := [] },
  { dst := some 10, op := POp.pick (Operand.tmp 6) (Operand.tmp 9) (Operand.const (Value.bool false)), guard := none, hints := [] },
  { dst := some 11, op := POp.mv (Operand.tmp 10), guard := none, hints := [] },
  { dst := some 12, op := POp.faddr 1 (Operand.tmp 1), guard := some (11, true), hints := [] },
  { dst := some 13, op := POp.load false 1 (Operand.tmp 12), guard := some (11, true), hints := [] },
  { dst := some 14, op := POp.prim (Prim.bin BinOp.geq 3 false true) [Operand.tmp 13, Operand.const (Value.int IntKind.i64 0)], guard := some (11, true), hints := [] },
  { dst := some 15, op := POp.pick (Operand.tmp 11) (Operand.tmp 14) (Operand.const (Value.bool false)), guard := none, hints := [] },
  { dst := some 16, op := POp.mv (Operand.tmp 15), guard := none, hints := [] },
  { dst := some 17, op := POp.faddr 1 (Operand.tmp 1), guard := some (16, true), hints := [] },
  { dst := some 18, op := POp.load false 1 (Operand.tmp 17), guard := some (16, true), hints := [] },
  { dst := some 19, op := POp.prim (Prim.bin BinOp.lss 3 false true) [Operand.tmp 18, Operand.const (Value.int IntKind.i64 64)], guard := some (16, true), hints := [] },
  { dst := some 20, op := POp.pick (Operand.tmp 16) (Operand.tmp 19) (Operand.const (Value.bool false)), guard := none, hints := [] },
  { dst := some 2, op := POp.mv (Operand.tmp 20), guard := none, hints := [] }]
def pc67_c2 : PCode := .region none false pc67_o2
def pc67_c3 : PCode := .ret
def pc67_c4 : PCode := .seq pc67_c2 pc67_c3
def pc67_c5 : PCode := .seq pc67_c1 pc67_c4
def pc67_r : List PRes := [PRes.tmp 2 []]
def pc67 : PFunc := ⟨21, pc67_r, pc67_c5, false⟩
def pc67_a : Ann := {
  kr := fun
    | _ => none
  ka := fun
    | _ => 0
  kh := fun
    | _ => none
  ow := fun t => match t with
    | 96 => [(1, 5, 1)]
    | _ => []
  tc := fun t => match t with
    | 96 => true
    | _ => false }
theorem pc67_ok : compFn Try.prog pc67_a Try.f67 = some pc67 := by kernel_rfl


-- 70: vedette/fields.IsField
def pc70_o1 : List POper := [{ dst := some 1, op := POp.box 25 (Operand.tmp 0) [], guard := none, hints := [] },
  { dst := some 2, op := POp.mv (Operand.const (Value.bool false)), guard := none, hints := [] }]
def pc70_c1 : PCode := .region none false pc70_o1
def pc70_o2 : List POper := [{ dst := some 3, op := POp.faddr 0 (Operand.tmp 1), guard := none, hints := [] },
  { dst := some 4, op := POp.load false 1 (Operand.tmp 3), guard := none, hints := [] },
  { dst := some 5, op := POp.prim (Prim.bin BinOp.eql 2 false true) [Operand.tmp 4, Operand.const (Value.int IntKind.i64 0)], guard := none, hints := [] },
  { dst := some 6, op := POp.mv (Operand.tmp 5), guard := none, hints := [] },
  { dst := some 7, op := POp.faddr 1 (Operand.tmp 1), guard := some (6, false), hints := [] },
  { dst := some 8, op := POp.load false 1 (Operand.tmp 7), guard := some (6, false), hints := [] },
  { dst := some 9, op := POp.prim (Prim.bin BinOp.eql 9 false true) [Operand.tmp 8, Operand.const (Value.string { data := { toList := [] } })], guard := some (6, false), hints := [] },
  { dst := some 10, op := POp.pick (Operand.tmp 6) (Operand.const (Value.bool true)) (Operand.tmp 9), guard := none, hints := [] },
  { dst := some 11, op := POp.mv (Operand.tmp 10), guard := none, hints := [] },
  { dst := some 12, op := POp.faddr 1 (Operand.tmp 1), guard := some (11, true), hints := [] },
  { dst := some 13, op := POp.load false 1 (Operand.tmp 12), guard := some (11, true), hints := [] },
  { dst := some 14, op := POp.prim (Prim.len 9) [Operand.tmp 13], guard := some (11, true), hints := [] },
  { dst := some 15, op := POp.prim (Prim.bin BinOp.leq 3 false true) [Operand.tmp 14, Operand.const (Value.int IntKind.i64 12)], guard := some (11, true), hints := [] },
  { dst := some 16, op := POp.pick (Operand.tmp 11) (Operand.tmp 15) (Operand.const (Value.bool false)), guard := none, hints := [] },
  { dst := some 2, op := POp.mv (Operand.tmp 16), guard := none, hints := [] }]
def pc70_c2 : PCode := .region none false pc70_o2
def pc70_c3 : PCode := .ret
def pc70_c4 : PCode := .seq pc70_c2 pc70_c3
def pc70_c5 : PCode := .seq pc70_c1 pc70_c4
def pc70_r : List PRes := [PRes.tmp 2 []]
def pc70 : PFunc := ⟨17, pc70_r, pc70_c5, false⟩
def pc70_a : Ann := {
  kr := fun
    | _ => none
  ka := fun
    | _ => 0
  kh := fun
    | _ => none
  ow := fun t => match t with
    | 96 => [(1, 5, 1)]
    | _ => []
  tc := fun t => match t with
    | 96 => true
    | _ => false }
theorem pc70_ok : compFn Try.prog pc70_a Try.f70 = some pc70 := by kernel_rfl


-- 69: vedette/thing.Is$1
def pc69_o1 : List POper := [{ dst := some 1, op := POp.box 25 (Operand.tmp 0) [], guard := none, hints := [] },
  { dst := some 2, op := POp.mv (Operand.const (Value.bool false)), guard := none, hints := [] }]
def pc69_c1 : PCode := .region none false pc69_o1
def pc69_o2 : List POper := [{ dst := some 3, op := POp.load true 2 (Operand.tmp 1), guard := none, hints := [] },
  { dst := some 4, op := POp.call true [[]] 70 [Operand.tmp 3], guard := none, hints := [] },
  { dst := some 5, op := POp.prim (Prim.un UnOp.not) [Operand.tmp 4], guard := none, hints := [] },
  { dst := some 2, op := POp.mv (Operand.tmp 5), guard := none, hints := [] }]
def pc69_c2 : PCode := .region none false pc69_o2
def pc69_c3 : PCode := .ret
def pc69_c4 : PCode := .seq pc69_c2 pc69_c3
def pc69_c5 : PCode := .seq pc69_c1 pc69_c4
def pc69_r : List PRes := [PRes.tmp 2 []]
def pc69 : PFunc := ⟨6, pc69_r, pc69_c5, false⟩
def pc69_a : Ann := {
  kr := fun
    | _ => none
  ka := fun
    | _ => 0
  kh := fun
    | _ => none
  ow := fun t => match t with
    | 96 => [(1, 5, 1)]
    | _ => []
  tc := fun t => match t with
    | 96 => true
    | _ => false }
theorem pc69_ok : compFn Try.prog pc69_a Try.f69 = some pc69 := by kernel_rfl


-- 103: slices.IndexFunc[[]vedette/api.Field,vedette/api.Field]
def pc103_o1 : List POper := [{ dst := some 4, op := POp.mv (Operand.const (Value.int IntKind.i64 0)), guard := none, hints := [] }]
def pc103_c1 : PCode := .region none false pc103_o1
def pc103_o2 : List POper := [{ dst := some 6, op := POp.mv (Operand.tmp 0), guard := none, hints := [] },
  { dst := some 7, op := POp.lenS (Operand.tmp 6), guard := none, hints := [] },
  { dst := some 8, op := POp.mv (Operand.const (Value.int IntKind.i64 0)), guard := none, hints := [] }]
def pc103_c2 : PCode := .region none false pc103_o2
def pc103_o3 : List POper := [{ dst := some 9, op := POp.prim (Prim.bin BinOp.lss 3 false false) [Operand.tmp 8, Operand.tmp 7], guard := none, hints := [] }]
def pc103_c3 : PCode := .region (some ([0, 1, 7, 8], [], [])) false pc103_o3
def pc103_c4 : PCode := .skip
def pc103_c5 : PCode := .exit 0
def pc103_c6 : PCode := .cond (Operand.tmp 9) pc103_c4 pc103_c5
def pc103_o7 : List POper := [{ dst := some 10, op := POp.mv (Operand.tmp 8), guard := none, hints := [] },
  { dst := some 5, op := POp.mv (Operand.tmp 10), guard := none, hints := [] }]
def pc103_c7 : PCode := .region none false pc103_o7
def pc103_o8 : List POper := [{ dst := some 11, op := POp.mv (Operand.tmp 1), guard := none, hints := [] },
  { dst := some 12, op := POp.mv (Operand.tmp 0), guard := none, hints := [] },
  { dst := some 13, op := POp.mv (Operand.tmp 5), guard := none, hints := [] },
  { dst := some 14, op := POp.iaddrS 2 (Operand.tmp 12) (Operand.tmp 13), guard := none, hints := [] },
  { dst := some 15, op := POp.load true 2 (Operand.tmp 14), guard := none, hints := [] },
  { dst := some 16, op := POp.callv true [[]] (Operand.tmp 11) [Operand.tmp 15], guard := none, hints := [] }]
def pc103_c8 : PCode := .region none false pc103_o8
def pc103_o9 : List POper := [{ dst := some 17, op := POp.mv (Operand.tmp 5), guard := none, hints := [] },
  { dst := some 4, op := POp.mv (Operand.tmp 17), guard := none, hints := [] }]
def pc103_c9 : PCode := .region none false pc103_o9
def pc103_c10 : PCode := .ret
def pc103_c11 : PCode := .seq pc103_c9 pc103_c10
def pc103_c12 : PCode := .skip
def pc103_c13 : PCode := .cond (Operand.tmp 16) pc103_c11 pc103_c12
def pc103_c14 : PCode := .seq pc103_c8 pc103_c13
def pc103_c15 : PCode := .seq pc103_c7 pc103_c14
def pc103_c16 : PCode := .block 1 pc103_c15
def pc103_o17 : List POper := [{ dst := some 18, op := POp.prim (Prim.bin BinOp.add 3 false true) [Operand.tmp 8, Operand.const (Value.int IntKind.i64 1)], guard := none, hints := [] },
  { dst := some 8, op := POp.mv (Operand.tmp 18), guard := none, hints := [] }]
def pc103_c17 : PCode := .region none false pc103_o17
def pc103_c18 : PCode := .seq pc103_c16 pc103_c17
def pc103_c19 : PCode := .seq pc103_c6 pc103_c18
def pc103_c20 : PCode := .seq pc103_c3 pc103_c19
def pc103_c21 : PCode := .loop pc103_c20
def pc103_c22 : PCode := .block 0 pc103_c21
def pc103_c23 : PCode := .seq pc103_c2 pc103_c22
def pc103_o24 : List POper := [{ dst := some 4, op := POp.mv (Operand.const (Value.int IntKind.i64 (-1))), guard := none, hints := [] }]
def pc103_c24 : PCode := .region none false pc103_o24
def pc103_c25 : PCode := .ret
def pc103_c26 : PCode := .seq pc103_c24 pc103_c25
def pc103_c27 : PCode := .seq pc103_c23 pc103_c26
def pc103_c28 : PCode := .seq pc103_c1 pc103_c27
def pc103_r : List PRes := [PRes.tmp 4 []]
def pc103 : PFunc := ⟨19, pc103_r, pc103_c28, false⟩
def pc103_a : Ann := {
  kr := fun
    | 2 => some ([0, 1, 7, 8], [], [])
    | _ => none
  ka := fun
    | _ => 0
  kh := fun
    | _ => none
  ow := fun t => match t with
    | 96 => [(1, 5, 1)]
    | _ => []
  tc := fun t => match t with
    | 96 => true
    | _ => false }
theorem pc103_ok : compFn Try.prog pc103_a Try.f103 = some pc103 := by kernel_rfl


-- 68: slices.ContainsFunc[[]vedette/api.Field,vedette/api.Field]
def pc68_o1 : List POper := [{ dst := some 4, op := POp.mv (Operand.const (Value.bool false)), guard := none, hints := [] }]
def pc68_c1 : PCode := .region none false pc68_o1
def pc68_o2 : List POper := [{ dst := some 5, op := POp.mv (Operand.tmp 0), guard := none, hints := [] },
  { dst := some 6, op := POp.mv (Operand.tmp 1), guard := none, hints := [] },
  { dst := some 7, op := POp.gcall false false [300000, 300001, 300002, 300003, 300004, 300005, 300006, 300007] [[(0, 2)], []] 103 [Operand.tmp 5, Operand.tmp 6], guard := none, hints := [] },
  { dst := some 8, op := POp.prim (Prim.bin BinOp.geq 3 false true) [Operand.tmp 7, Operand.const (Value.int IntKind.i64 0)], guard := none, hints := [] },
  { dst := some 4, op := POp.mv (Operand.tmp 8), guard := none, hints := [] }]
def pc68_c2 : PCode := .region none false pc68_o2
def pc68_c3 : PCode := .ret
def pc68_c4 : PCode := .seq pc68_c2 pc68_c3
def pc68_c5 : PCode := .seq pc68_c1 pc68_c4
def pc68_r : List PRes := [PRes.tmp 4 []]
def pc68 : PFunc := ⟨9, pc68_r, pc68_c5, false⟩
def pc68_a : Ann := {
  kr := fun
    | _ => none
  ka := fun
    | _ => 0
  kh := fun
    | _ => none
  gf := fun d f => match d, f with
    | some 7, 103 => some (false, false, [300000, 300001, 300002, 300003, 300004, 300005, 300006, 300007])
    | _, _ => none
  ow := fun t => match t with
    | 96 => [(1, 5, 1)]
    | _ => []
  tc := fun t => match t with
    | 96 => true
    | _ => false }
theorem pc68_ok : compFn Try.prog pc68_a Try.f68 = some pc68 := by kernel_rfl


-- 24: vedette/thing.Is
def pc24_o1 : List POper := [{ dst := some 1, op := POp.box 28 (Operand.tmp 0) [], guard := none, hints := [] },
  { dst := some 2, op := POp.mv (Operand.const (Value.bool false)), guard := none, hints := [] }]
def pc24_c1 : PCode := .region none false pc24_o1
def pc24_o2 : List POper := [{ dst := some 3, op := POp.faddr 0 (Operand.tmp 1), guard := none, hints := [] },
  { dst := some 4, op := POp.load false 1 (Operand.tmp 3), guard := none, hints := [] },
  { dst := some 5, op := POp.prim (Prim.bin BinOp.geq 3 false true) [Operand.tmp 4, Operand.const (Value.int IntKind.i64 0)], guard := none, hints := [] },
  { dst := some 6, op := POp.mv (Operand.tmp 5), guard := none, hints := [] },
  { dst := some 7, op := POp.faddr 0 (Operand.tmp 1), guard := some (6, true), hints := [] },
  { dst := some 8, op := POp.load false 1 (Operand.tmp 7), guard := some (6, true), hints := [] },
  { dst := some 9, op := POp.prim (Prim.bin BinOp.leq 3 false true) [Operand.tmp 8, Operand.const (Value.int IntKind.i64 1000000)], guard := some (6, true), hints := [] },
  { dst := some 10, op := POp.pick (Operand.tmp 6) (Operand.tmp 9) (Operand.const (Value.bool false)), guard := none, hints := [] },
  { dst := some 11, op := POp.mv (Operand.tmp 10), guard := none, hints := [] },
  { dst := some 12, op := POp.faddr 1 (Operand.tmp 1), guard := some (11, true), hints := [] },
  { dst := some 13, op := POp.load true 2 (Operand.tmp 12), guard := some (11, true), hints := [] },
  { dst := some 14, op := POp.call true [[]] 67 [Operand.tmp 13], guard := some (11, true), hints := [] },
  { dst := some 15, op := POp.pick (Operand.tmp 11) (Operand.tmp 14) (Operand.const (Value.bool false)), guard := none, hints := [] },
  { dst := some 16, op := POp.mv (Operand.tmp 15), guard := none, hints := [] },
  { dst := some 17, op := POp.faddr 3 (Operand.tmp 1), guard := some (16, true), hints := [] },
  { dst := some 18, op := POp.slcA 4 2 (Operand.tmp 17) none none, guard := some (16, true), hints := [] },
  { dst := some 19, op := POp.gcall false false [1, 300000, 300001, 300002, 300003, 300004, 300005, 300006, 300007] [[(0, 2)], []] 68 [Operand.tmp 18, Operand.func 69], guard := some (16, true), hints := [] },
  { dst := some 20, op := POp.prim (Prim.un UnOp.not) [Operand.tmp 19], guard := some (16, true), hints := [] },
  { dst := some 21, op := POp.pick (Operand.tmp 16) (Operand.tmp 20) (Operand.const (Value.bool false)), guard := none, hints := [] },
  { dst := some 2, op := POp.mv (Operand.tmp 21), guard := none, hints := [] }]
def pc24_c2 : PCode := .region none false pc24_o2
def pc24_c3 : PCode := .ret
def pc24_c4 : PCode := .seq pc24_c2 pc24_c3
def pc24_c5 : PCode := .seq pc24_c1 pc24_c4
def pc24_r : List PRes := [PRes.tmp 2 []]
def pc24 : PFunc := ⟨22, pc24_r, pc24_c5, false⟩
def pc24_a : Ann := {
  kr := fun
    | _ => none
  ka := fun
    | _ => 0
  kh := fun
    | _ => none
  gf := fun d f => match d, f with
    | some 19, 68 => some (false, false, [1, 300000, 300001, 300002, 300003, 300004, 300005, 300006, 300007])
    | _, _ => none
  ow := fun t => match t with
    | 96 => [(1, 5, 1)]
    | _ => []
  tc := fun t => match t with
    | 96 => true
    | _ => false }
theorem pc24_ok : compFn Try.prog pc24_a Try.f24 = some pc24 := by kernel_rfl


-- 65: vedette/num.Put
def pc65_o1 : List POper := [{ dst := some 2, op := POp.mv (Operand.const (Value.string { data := { toList := [] } })), guard := none, hints := [] }]
def pc65_c1 : PCode := .region none false pc65_o1
def pc65_o2 : List POper := [{ dst := some 3, op := POp.mv (Operand.const (Value.slice none 0 0)), guard := none, hints := [] }]
def pc65_c2 : PCode := .region none false pc65_o2
def pc65_o3 : List POper := [{ dst := some 4, op := POp.mv (Operand.tmp 0), guard := none, hints := [] },
  { dst := some 5, op := POp.prim (Prim.bin BinOp.geq 89 false true) [Operand.tmp 4, Operand.const (Value.int IntKind.u64 128)], guard := none, hints := [] }]
def pc65_c3 : PCode := .region (some ([0, 3], [100003], [(false, 3, 0, 100003, 5, 1)])) false pc65_o3
def pc65_c4 : PCode := .skip
def pc65_c5 : PCode := .exit 0
def pc65_c6 : PCode := .cond (Operand.tmp 5) pc65_c4 pc65_c5
def pc65_c7 : PCode := .seq pc65_c3 pc65_c6
def pc65_o8 : List POper := [{ dst := some 6, op := POp.mv (Operand.tmp 3), guard := none, hints := [] },
  { dst := some 7, op := POp.mv (Operand.tmp 0), guard := none, hints := [] },
  { dst := some 8, op := POp.prim (Prim.conv 89 5) [Operand.tmp 7], guard := none, hints := [] },
  { dst := some 9, op := POp.prim (Prim.bin BinOp.or 5 false true) [Operand.tmp 8, Operand.const (Value.int IntKind.u8 128)], guard := none, hints := [] },
  { dst := some 10, op := POp.bslice 5 1 [Operand.tmp 9], guard := none, hints := [] },
  { dst := some 11, op := POp.app 100003 5 1 1 (Operand.tmp 6) (Operand.tmp 10), guard := none, hints := [] },
  { dst := some 3, op := POp.mv (Operand.tmp 11), guard := none, hints := [] }]
def pc65_c8 : PCode := .region none false pc65_o8
def pc65_o9 : List POper := [{ dst := some 12, op := POp.mv (Operand.tmp 0), guard := none, hints := [] },
  { dst := some 13, op := POp.prim (Prim.bin BinOp.shr 89 false true) [Operand.tmp 12, Operand.const (Value.int IntKind.u64 7)], guard := none, hints := [] },
  { dst := some 0, op := POp.mv (Operand.tmp 13), guard := none, hints := [] }]
def pc65_c9 : PCode := .region none false pc65_o9
def pc65_c10 : PCode := .seq pc65_c8 pc65_c9
def pc65_c11 : PCode := .block 1 pc65_c10
def pc65_c12 : PCode := .seq pc65_c7 pc65_c11
def pc65_c13 : PCode := .loop pc65_c12
def pc65_c14 : PCode := .block 0 pc65_c13
def pc65_o15 : List POper := [{ dst := some 14, op := POp.mv (Operand.tmp 3), guard := none, hints := [] },
  { dst := some 15, op := POp.mv (Operand.tmp 0), guard := none, hints := [] },
  { dst := some 16, op := POp.prim (Prim.conv 89 5) [Operand.tmp 15], guard := none, hints := [] },
  { dst := some 17, op := POp.bslice 5 1 [Operand.tmp 16], guard := none, hints := [] },
  { dst := some 18, op := POp.app 100003 5 1 1 (Operand.tmp 14) (Operand.tmp 17), guard := none, hints := [] },
  { dst := some 19, op := POp.b2s (Operand.tmp 18), guard := none, hints := [] },
  { dst := some 2, op := POp.mv (Operand.tmp 19), guard := none, hints := [] }]
def pc65_c15 : PCode := .region none false pc65_o15
def pc65_c16 : PCode := .ret
def pc65_c17 : PCode := .seq pc65_c15 pc65_c16
def pc65_c18 : PCode := .seq pc65_c14 pc65_c17
def pc65_c19 : PCode := .seq pc65_c2 pc65_c18
def pc65_c20 : PCode := .seq pc65_c1 pc65_c19
def pc65_r : List PRes := [PRes.tmp 2 []]
def pc65 : PFunc := ⟨20, pc65_r, pc65_c20, false⟩
def pc65_a : Ann := {
  kr := fun
    | 2 => some ([0, 3], [100003], [(false, 3, 0, 100003, 5, 1)])
    | _ => none
  ka := fun
    | 11 => 100003
    | 18 => 100003
    | _ => 0
  kh := fun
    | _ => none
  ow := fun t => match t with
    | 96 => [(1, 5, 1)]
    | _ => []
  tc := fun t => match t with
    | 96 => true
    | _ => false }
theorem pc65_ok : compFn Try.prog pc65_a Try.f65 = some pc65 := by kernel_rfl


-- 99: vedette/fields.has
def pc99_o1 : List POper := [{ dst := some 4, op := POp.mv (Operand.const (Value.bool false)), guard := none, hints := [] }]
def pc99_c1 : PCode := .region none false pc99_o1
def pc99_o2 : List POper := [{ dst := some 5, op := POp.mv (Operand.tmp 0), guard := none, hints := [] },
  { dst := some 6, op := POp.mv (Operand.tmp 1), guard := none, hints := [] },
  { dst := some 7, op := POp.prim (Prim.bin BinOp.add 3 false true) [Operand.tmp 6, Operand.const (Value.int IntKind.i64 1)], guard := none, hints := [] },
  { dst := some 8, op := POp.prim (Prim.bin BinOp.shr 5 false false) [Operand.tmp 5, Operand.tmp 7], guard := none, hints := [] },
  { dst := some 9, op := POp.prim (Prim.bin BinOp.and 5 false true) [Operand.tmp 8, Operand.const (Value.int IntKind.u8 1)], guard := none, hints := [] },
  { dst := some 10, op := POp.prim (Prim.bin BinOp.eql 5 false true) [Operand.tmp 9, Operand.const (Value.int IntKind.u8 1)], guard := none, hints := [] },
  { dst := some 4, op := POp.mv (Operand.tmp 10), guard := none, hints := [] }]
def pc99_c2 : PCode := .region none false pc99_o2
def pc99_c3 : PCode := .ret
def pc99_c4 : PCode := .seq pc99_c2 pc99_c3
def pc99_c5 : PCode := .seq pc99_c1 pc99_c4
def pc99_r : List PRes := [PRes.tmp 4 []]
def pc99 : PFunc := ⟨11, pc99_r, pc99_c5, false⟩
def pc99_a : Ann := {
  kr := fun
    | _ => none
  ka := fun
    | _ => 0
  kh := fun
    | _ => none
  ow := fun t => match t with
    | 96 => [(1, 5, 1)]
    | _ => []
  tc := fun t => match t with
    | 96 => true
    | _ => false }
theorem pc99_ok : compFn Try.prog pc99_a Try.f99 = some pc99 := by kernel_rfl


-- 77: vedette/fields.IsDelta
def pc77_o1 : List POper := [{ dst := some 1, op := POp.box 35 (Operand.tmp 0) [], guard := none, hints := [] },
  { dst := some 2, op := POp.mv (Operand.const (Value.bool false)), guard := none, hints := [] }]
def pc77_c1 : PCode := .region none false pc77_o1
def pc77_o2 : List POper := [{ dst := some 5, op := POp.faddr 0 (Operand.tmp 1), guard := none, hints := [] },
  { dst := some 6, op := POp.load false 1 (Operand.tmp 5), guard := none, hints := [] },
  { dst := some 7, op := POp.prim (Prim.bin BinOp.lss 3 false true) [Operand.tmp 6, Operand.const (Value.int IntKind.i64 0)], guard := none, hints := [] },
  { dst := some 8, op := POp.mv (Operand.tmp 7), guard := none, hints := [] },
  { dst := some 9, op := POp.faddr 0 (Operand.tmp 1), guard := some (8, false), hints := [] },
  { dst := some 10, op := POp.load false 1 (Operand.tmp 9), guard := some (8, false), hints := [] },
  { dst := some 11, op := POp.prim (Prim.bin BinOp.gtr 3 false true) [Operand.tmp 10, Operand.const (Value.int IntKind.i64 1000000)], guard := some (8, false), hints := [] },
  { dst := some 12, op := POp.pick (Operand.tmp 8) (Operand.const (Value.bool true)) (Operand.tmp 11), guard := none, hints := [] },
  { dst := some 13, op := POp.mv (Operand.tmp 12), guard := none, hints := [] },
  { dst := some 14, op := POp.faddr 1 (Operand.tmp 1), guard := some (13, false), hints := [] },
  { dst := some 15, op := POp.load false 1 (Operand.tmp 14), guard := some (13, false), hints := [] },
  { dst := some 16, op := POp.prim (Prim.bin BinOp.eql 5 false true) [Operand.tmp 15, Operand.const (Value.int IntKind.u8 0)], guard := some (13, false), hints := [] },
  { dst := some 17, op := POp.pick (Operand.tmp 13) (Operand.const (Value.bool true)) (Operand.tmp 16), guard := none, hints := [] },
  { dst := some 18, op := POp.mv (Operand.tmp 17), guard := none, hints := [] },
  { dst := some 19, op := POp.faddr 1 (Operand.tmp 1), guard := some (18, false), hints := [] },
  { dst := some 20, op := POp.load false 1 (Operand.tmp 19), guard := some (18, false), hints := [] },
  { dst := some 21, op := POp.prim (Prim.bin BinOp.gtr 5 false true) [Operand.tmp 20, Operand.const (Value.int IntKind.u8 31)], guard := some (18, false), hints := [] },
  { dst := some 22, op := POp.pick (Operand.tmp 18) (Operand.const (Value.bool true)) (Operand.tmp 21), guard := none, hints := [] }]
def pc77_c2 : PCode := .region none false pc77_o2
def pc77_o3 : List POper := [{ dst := some 2, op := POp.mv (Operand.const (Value.bool false)), guard := none, hints := [] }]
def pc77_c3 : PCode := .region none false pc77_o3
def pc77_c4 : PCode := .ret
def pc77_c5 : PCode := .seq pc77_c3 pc77_c4
def pc77_c6 : PCode := .skip
def pc77_c7 : PCode := .cond (Operand.tmp 22) pc77_c5 pc77_c6
def pc77_c8 : PCode := .seq pc77_c2 pc77_c7
def pc77_o9 : List POper := [{ dst := some 23, op := POp.faddr 1 (Operand.tmp 1), guard := none, hints := [] },
  { dst := some 24, op := POp.load false 1 (Operand.tmp 23), guard := none, hints := [] },
  { dst := some 25, op := POp.prim (Prim.bin BinOp.and 5 false true) [Operand.tmp 24, Operand.const (Value.int IntKind.u8 1)], guard := none, hints := [] },
  { dst := some 26, op := POp.prim (Prim.bin BinOp.eql 5 false true) [Operand.tmp 25, Operand.const (Value.int IntKind.u8 0)], guard := none, hints := [] },
  { dst := some 27, op := POp.mv (Operand.tmp 26), guard := none, hints := [] },
  { dst := some 28, op := POp.faddr 2 (Operand.tmp 1), guard := some (27, true), hints := [] },
  { dst := some 29, op := POp.load true 2 (Operand.tmp 28), guard := some (27, true), hints := [] },
  { dst := some 30, op := POp.build (Value.agg { toList := [Value.int IntKind.i64 0, Value.int IntKind.i64 0] }) [], guard := some (27, true), hints := [] },
  { dst := some 31, op := POp.prim (Prim.bin BinOp.neq 23 false false) [Operand.tmp 29, Operand.tmp 30], guard := some (27, true), hints := [] },
  { dst := some 32, op := POp.pick (Operand.tmp 27) (Operand.tmp 31) (Operand.const (Value.bool false)), guard := none, hints := [] },
  { dst := some 33, op := POp.mv (Operand.tmp 32), guard := none, hints := [] },
  { dst := some 34, op := POp.faddr 2 (Operand.tmp 1), guard := some (33, false), hints := [] },
  { dst := some 35, op := POp.load true 2 (Operand.tmp 34), guard := some (33, false), hints := [] },
  { dst := some 36, op := POp.call true [[]] 67 [Operand.tmp 35], guard := some (33, false), hints := [] },
  { dst := some 37, op := POp.prim (Prim.un UnOp.not) [Operand.tmp 36], guard := some (33, false), hints := [] },
  { dst := some 38, op := POp.pick (Operand.tmp 33) (Operand.const (Value.bool true)) (Operand.tmp 37), guard := none, hints := [] }]
def pc77_c9 : PCode := .region none false pc77_o9
def pc77_o10 : List POper := [{ dst := some 2, op := POp.mv (Operand.const (Value.bool false)), guard := none, hints := [] }]
def pc77_c10 : PCode := .region none false pc77_o10
def pc77_c11 : PCode := .ret
def pc77_c12 : PCode := .seq pc77_c10 pc77_c11
def pc77_c13 : PCode := .skip
def pc77_c14 : PCode := .cond (Operand.tmp 38) pc77_c12 pc77_c13
def pc77_c15 : PCode := .seq pc77_c9 pc77_c14
def pc77_o16 : List POper := [{ dst := some 39, op := POp.faddr 4 (Operand.tmp 1), guard := none, hints := [] },
  { dst := some 40, op := POp.load true 8 (Operand.tmp 39), guard := none, hints := [] },
  { dst := some 41, op := POp.mv (Operand.const (Value.int IntKind.i64 0)), guard := none, hints := [] }]
def pc77_c16 : PCode := .region (some ([1], [1], [])) false pc77_o16
def pc77_o17 : List POper := [{ dst := some 42, op := POp.prim (Prim.bin BinOp.lss 3 false true) [Operand.tmp 41, Operand.const (Value.int IntKind.i64 4)], guard := none, hints := [] }]
def pc77_c17 : PCode := .region (some ([1, 40, 41], [1, 4], [])) false pc77_o17
def pc77_c18 : PCode := .skip
def pc77_c19 : PCode := .exit 0
def pc77_c20 : PCode := .cond (Operand.tmp 42) pc77_c18 pc77_c19
def pc77_o21 : List POper := [{ dst := some 43, op := POp.mv (Operand.tmp 41), guard := none, hints := [] },
  { dst := some 44, op := POp.idx true 2 4 (Operand.tmp 40) (Operand.tmp 41), guard := none, hints := [] },
  { dst := some 4, op := POp.alloc 25 (Value.agg { toList := [Value.int IntKind.i64 0, Value.string { data := { toList := [] } }] }) [], guard := none, hints := [] },
  { dst := some 3, op := POp.mv (Operand.tmp 43), guard := none, hints := [] },
  { dst := none, op := POp.store 2 (Operand.tmp 4) (Operand.tmp 44), guard := none, hints := [] }]
def pc77_c21 : PCode := .region none false pc77_o21
def pc77_o22 : List POper := [{ dst := some 45, op := POp.load true 2 (Operand.tmp 4), guard := none, hints := [] },
  { dst := some 46, op := POp.call true [[]] 70 [Operand.tmp 45], guard := none, hints := [] },
  { dst := some 47, op := POp.prim (Prim.un UnOp.not) [Operand.tmp 46], guard := none, hints := [] },
  { dst := some 48, op := POp.mv (Operand.tmp 47), guard := none, hints := [] },
  { dst := some 49, op := POp.faddr 1 (Operand.tmp 1), guard := some (48, false), hints := [] },
  { dst := some 50, op := POp.load false 1 (Operand.tmp 49), guard := some (48, false), hints := [] },
  { dst := some 51, op := POp.mv (Operand.tmp 3), guard := some (48, false), hints := [] },
  { dst := some 52, op := POp.call true [[], []] 99 [Operand.tmp 50, Operand.tmp 51], guard := some (48, false), hints := [] },
  { dst := some 53, op := POp.prim (Prim.un UnOp.not) [Operand.tmp 52], guard := some (48, false), hints := [] },
  { dst := some 54, op := POp.mv (Operand.tmp 53), guard := some (48, false), hints := [] },
  { dst := some 55, op := POp.load true 2 (Operand.tmp 4), guard := some (54, true), hints := [] },
  { dst := some 56, op := POp.build (Value.agg { toList := [Value.int IntKind.i64 0, Value.string { data := { toList := [] } }] }) [], guard := some (54, true), hints := [] },
  { dst := some 57, op := POp.prim (Prim.bin BinOp.neq 25 false false) [Operand.tmp 55, Operand.tmp 56], guard := some (54, true), hints := [] },
  { dst := some 58, op := POp.pick (Operand.tmp 54) (Operand.tmp 57) (Operand.const (Value.bool false)), guard := some (48, false), hints := [] },
  { dst := some 59, op := POp.pick (Operand.tmp 48) (Operand.const (Value.bool true)) (Operand.tmp 58), guard := none, hints := [] }]
def pc77_c22 : PCode := .region none false pc77_o22
def pc77_o23 : List POper := [{ dst := some 2, op := POp.mv (Operand.const (Value.bool false)), guard := none, hints := [] }]
def pc77_c23 : PCode := .region none false pc77_o23
def pc77_c24 : PCode := .ret
def pc77_c25 : PCode := .seq pc77_c23 pc77_c24
def pc77_c26 : PCode := .skip
def pc77_c27 : PCode := .cond (Operand.tmp 59) pc77_c25 pc77_c26
def pc77_c28 : PCode := .seq pc77_c22 pc77_c27
def pc77_c29 : PCode := .seq pc77_c21 pc77_c28
def pc77_c30 : PCode := .block 1 pc77_c29
def pc77_o31 : List POper := [{ dst := some 60, op := POp.prim (Prim.bin BinOp.add 3 false true) [Operand.tmp 41, Operand.const (Value.int IntKind.i64 1)], guard := none, hints := [] },
  { dst := some 41, op := POp.mv (Operand.tmp 60), guard := none, hints := [] }]
def pc77_c31 : PCode := .region none false pc77_o31
def pc77_c32 : PCode := .seq pc77_c30 pc77_c31
def pc77_c33 : PCode := .seq pc77_c20 pc77_c32
def pc77_c34 : PCode := .seq pc77_c17 pc77_c33
def pc77_c35 : PCode := .loop pc77_c34
def pc77_c36 : PCode := .block 0 pc77_c35
def pc77_c37 : PCode := .seq pc77_c16 pc77_c36
def pc77_o38 : List POper := [{ dst := some 2, op := POp.mv (Operand.const (Value.bool true)), guard := none, hints := [] }]
def pc77_c38 : PCode := .region none false pc77_o38
def pc77_c39 : PCode := .ret
def pc77_c40 : PCode := .seq pc77_c38 pc77_c39
def pc77_c41 : PCode := .seq pc77_c37 pc77_c40
def pc77_c42 : PCode := .seq pc77_c15 pc77_c41
def pc77_c43 : PCode := .seq pc77_c8 pc77_c42
def pc77_c44 : PCode := .seq pc77_c1 pc77_c43
def pc77_r : List PRes := [PRes.tmp 2 []]
def pc77 : PFunc := ⟨61, pc77_r, pc77_c44, false⟩
def pc77_a : Ann := {
  kr := fun
    | 5 => some ([1], [1], [])
    | 6 => some ([1, 40, 41], [1, 4], [])
    | _ => none
  ka := fun
    | _ => 0
  kh := fun
    | _ => none
  ow := fun t => match t with
    | 96 => [(1, 5, 1)]
    | _ => []
  tc := fun t => match t with
    | 96 => true
    | _ => false }
theorem pc77_ok : compFn Try.prog pc77_a Try.f77 = some pc77 := by kernel_rfl


-- 100: vedette/num.Text
def pc100_o1 : List POper := [{ dst := some 2, op := POp.mv (Operand.const (Value.string { data := { toList := [] } })), guard := none, hints := [] }]
def pc100_c1 : PCode := .region none false pc100_o1
def pc100_o2 : List POper := [{ dst := some 3, op := POp.mv (Operand.tmp 0), guard := none, hints := [] },
  { dst := some 4, op := POp.prim (Prim.len 9) [Operand.tmp 3], guard := none, hints := [] },
  { dst := some 5, op := POp.prim (Prim.conv 3 89) [Operand.tmp 4], guard := none, hints := [] },
  { dst := some 6, op := POp.call true [[]] 65 [Operand.tmp 5], guard := none, hints := [] },
  { dst := some 7, op := POp.mv (Operand.tmp 0), guard := none, hints := [] },
  { dst := some 8, op := POp.prim (Prim.bin BinOp.add 9 false false) [Operand.tmp 6, Operand.tmp 7], guard := none, hints := [] },
  { dst := some 2, op := POp.mv (Operand.tmp 8), guard := none, hints := [] }]
def pc100_c2 : PCode := .region none false pc100_o2
def pc100_c3 : PCode := .ret
def pc100_c4 : PCode := .seq pc100_c2 pc100_c3
def pc100_c5 : PCode := .seq pc100_c1 pc100_c4
def pc100_r : List PRes := [PRes.tmp 2 []]
def pc100 : PFunc := ⟨9, pc100_r, pc100_c5, false⟩
def pc100_a : Ann := {
  kr := fun
    | _ => none
  ka := fun
    | _ => 0
  kh := fun
    | _ => none
  ow := fun t => match t with
    | 96 => [(1, 5, 1)]
    | _ => []
  tc := fun t => match t with
    | 96 => true
    | _ => false }
theorem pc100_ok : compFn Try.prog pc100_a Try.f100 = some pc100 := by kernel_rfl


-- 114: vedette/num.Zig
def pc114_o1 : List POper := [{ dst := some 2, op := POp.mv (Operand.const (Value.int IntKind.u64 0)), guard := none, hints := [] }]
def pc114_c1 : PCode := .region none false pc114_o1
def pc114_o2 : List POper := [{ dst := some 3, op := POp.mv (Operand.tmp 0), guard := none, hints := [] },
  { dst := some 4, op := POp.prim (Prim.conv 2 89) [Operand.tmp 3], guard := none, hints := [] },
  { dst := some 5, op := POp.prim (Prim.bin BinOp.shl 89 false true) [Operand.tmp 4, Operand.const (Value.int IntKind.u64 1)], guard := none, hints := [] },
  { dst := some 6, op := POp.mv (Operand.tmp 0), guard := none, hints := [] },
  { dst := some 7, op := POp.prim (Prim.bin BinOp.shr 2 false true) [Operand.tmp 6, Operand.const (Value.int IntKind.u64 63)], guard := none, hints := [] },
  { dst := some 8, op := POp.prim (Prim.conv 2 89) [Operand.tmp 7], guard := none, hints := [] },
  { dst := some 9, op := POp.prim (Prim.bin BinOp.xor 89 false false) [Operand.tmp 5, Operand.tmp 8], guard := none, hints := [] },
  { dst := some 2, op := POp.mv (Operand.tmp 9), guard := none, hints := [] }]
def pc114_c2 : PCode := .region none false pc114_o2
def pc114_c3 : PCode := .ret
def pc114_c4 : PCode := .seq pc114_c2 pc114_c3
def pc114_c5 : PCode := .seq pc114_c1 pc114_c4
def pc114_r : List PRes := [PRes.tmp 2 []]
def pc114 : PFunc := ⟨10, pc114_r, pc114_c5, false⟩
def pc114_a : Ann := {
  kr := fun
    | _ => none
  ka := fun
    | _ => 0
  kh := fun
    | _ => none
  ow := fun t => match t with
    | 96 => [(1, 5, 1)]
    | _ => []
  tc := fun t => match t with
    | 96 => true
    | _ => false }
theorem pc114_ok : compFn Try.prog pc114_a Try.f114 = some pc114 := by kernel_rfl


-- 101: vedette/num.Int
def pc101_o1 : List POper := [{ dst := some 2, op := POp.mv (Operand.const (Value.string { data := { toList := [] } })), guard := none, hints := [] }]
def pc101_c1 : PCode := .region none false pc101_o1
def pc101_o2 : List POper := [{ dst := some 3, op := POp.mv (Operand.tmp 0), guard := none, hints := [] },
  { dst := some 4, op := POp.call true [[]] 114 [Operand.tmp 3], guard := none, hints := [] },
  { dst := some 5, op := POp.call true [[]] 65 [Operand.tmp 4], guard := none, hints := [] },
  { dst := some 2, op := POp.mv (Operand.tmp 5), guard := none, hints := [] }]
def pc101_c2 : PCode := .region none false pc101_o2
def pc101_c3 : PCode := .ret
def pc101_c4 : PCode := .seq pc101_c2 pc101_c3
def pc101_c5 : PCode := .seq pc101_c1 pc101_c4
def pc101_r : List PRes := [PRes.tmp 2 []]
def pc101 : PFunc := ⟨6, pc101_r, pc101_c5, false⟩
def pc101_a : Ann := {
  kr := fun
    | _ => none
  ka := fun
    | _ => 0
  kh := fun
    | _ => none
  ow := fun t => match t with
    | 96 => [(1, 5, 1)]
    | _ => []
  tc := fun t => match t with
    | 96 => true
    | _ => false }
theorem pc101_ok : compFn Try.prog pc101_a Try.f101 = some pc101 := by kernel_rfl


-- 63: vedette/fields.Bytes
def pc63_o1 : List POper := [{ dst := some 1, op := POp.box 35 (Operand.tmp 0) [], guard := none, hints := [] },
  { dst := some 2, op := POp.mv (Operand.const (Value.string { data := { toList := [] } })), guard := none, hints := [] },
  { dst := some 3, op := POp.mv (Operand.const (Value.int IntKind.i64 0)), guard := none, hints := [] }]
def pc63_c1 : PCode := .region none false pc63_o1
def pc63_o2 : List POper := [{ dst := some 7, op := POp.load true 12 (Operand.tmp 1), guard := none, hints := [] },
  { dst := some 8, op := POp.call true [[]] 77 [Operand.tmp 7], guard := none, hints := [] },
  { dst := some 9, op := POp.prim (Prim.un UnOp.not) [Operand.tmp 8], guard := none, hints := [] }]
def pc63_c2 : PCode := .region none false pc63_o2
def pc63_o3 : List POper := [{ dst := some 2, op := POp.mv (Operand.const (Value.string { data := { toList := [] } })), guard := none, hints := [] },
  { dst := some 3, op := POp.mv (Operand.const (Value.int IntKind.i64 11)), guard := none, hints := [] }]
def pc63_c3 : PCode := .region none false pc63_o3
def pc63_c4 : PCode := .ret
def pc63_c5 : PCode := .seq pc63_c3 pc63_c4
def pc63_c6 : PCode := .skip
def pc63_c7 : PCode := .cond (Operand.tmp 9) pc63_c5 pc63_c6
def pc63_c8 : PCode := .seq pc63_c2 pc63_c7
def pc63_o9 : List POper := [{ dst := some 10, op := POp.faddr 0 (Operand.tmp 1), guard := none, hints := [(1, Hint.at_ 1 0)] },
  { dst := some 11, op := POp.load false 1 (Operand.tmp 10), guard := none, hints := [(10, Hint.at_ 1 0)] },
  { dst := some 12, op := POp.prim (Prim.conv 3 89) [Operand.tmp 11], guard := none, hints := [(11, Hint.imm)] },
  { dst := some 13, op := POp.call false [[]] 65 [Operand.tmp 12], guard := none, hints := [(12, Hint.imm)] },
  { dst := some 14, op := POp.faddr 1 (Operand.tmp 1), guard := none, hints := [(1, Hint.at_ 1 0)] },
  { dst := some 15, op := POp.load false 1 (Operand.tmp 14), guard := none, hints := [(14, Hint.at_ 1 1)] },
  { dst := some 16, op := POp.prim (Prim.conv 5 89) [Operand.tmp 15], guard := none, hints := [(15, Hint.imm)] },
  { dst := some 17, op := POp.call false [[]] 65 [Operand.tmp 16], guard := none, hints := [(16, Hint.imm)] },
  { dst := some 18, op := POp.prim (Prim.bin BinOp.add 9 false false) [Operand.tmp 13, Operand.tmp 17], guard := none, hints := [(13, Hint.imm), (17, Hint.imm)] },
  { dst := some 4, op := POp.mv (Operand.tmp 18), guard := none, hints := [(18, Hint.imm)] }]
def pc63_c9 : PCode := .region none true pc63_o9
def pc63_o10 : List POper := [{ dst := some 19, op := POp.faddr 1 (Operand.tmp 1), guard := none, hints := [] },
  { dst := some 20, op := POp.load false 1 (Operand.tmp 19), guard := none, hints := [] },
  { dst := some 21, op := POp.prim (Prim.bin BinOp.and 5 false true) [Operand.tmp 20, Operand.const (Value.int IntKind.u8 1)], guard := none, hints := [] },
  { dst := some 22, op := POp.prim (Prim.bin BinOp.neq 5 false true) [Operand.tmp 21, Operand.const (Value.int IntKind.u8 0)], guard := none, hints := [] }]
def pc63_c10 : PCode := .region none false pc63_o10
def pc63_o11 : List POper := [{ dst := some 23, op := POp.mv (Operand.tmp 4), guard := none, hints := [(4, Hint.imm)] },
  { dst := some 24, op := POp.faddr 2 (Operand.tmp 1), guard := none, hints := [(1, Hint.at_ 1 0)] },
  { dst := some 25, op := POp.faddr 0 (Operand.tmp 24), guard := none, hints := [(24, Hint.at_ 1 2)] },
  { dst := some 26, op := POp.load false 1 (Operand.tmp 25), guard := none, hints := [(25, Hint.at_ 1 2)] },
  { dst := some 27, op := POp.prim (Prim.conv 3 89) [Operand.tmp 26], guard := none, hints := [(26, Hint.imm)] },
  { dst := some 28, op := POp.call false [[]] 65 [Operand.tmp 27], guard := none, hints := [(27, Hint.imm)] },
  { dst := some 29, op := POp.faddr 2 (Operand.tmp 1), guard := none, hints := [(1, Hint.at_ 1 0)] },
  { dst := some 30, op := POp.faddr 1 (Operand.tmp 29), guard := none, hints := [(29, Hint.at_ 1 2)] },
  { dst := some 31, op := POp.load false 1 (Operand.tmp 30), guard := none, hints := [(30, Hint.at_ 1 3)] },
  { dst := some 32, op := POp.prim (Prim.conv 3 89) [Operand.tmp 31], guard := none, hints := [(31, Hint.imm)] },
  { dst := some 33, op := POp.call false [[]] 65 [Operand.tmp 32], guard := none, hints := [(32, Hint.imm)] },
  { dst := some 34, op := POp.prim (Prim.bin BinOp.add 9 false false) [Operand.tmp 28, Operand.tmp 33], guard := none, hints := [(28, Hint.imm), (33, Hint.imm)] },
  { dst := some 35, op := POp.prim (Prim.bin BinOp.add 9 false false) [Operand.tmp 23, Operand.tmp 34], guard := none, hints := [(23, Hint.imm), (34, Hint.imm)] },
  { dst := some 4, op := POp.mv (Operand.tmp 35), guard := none, hints := [(35, Hint.imm)] }]
def pc63_c11 : PCode := .region none true pc63_o11
def pc63_c12 : PCode := .skip
def pc63_c13 : PCode := .cond (Operand.tmp 22) pc63_c11 pc63_c12
def pc63_c14 : PCode := .seq pc63_c10 pc63_c13
def pc63_o15 : List POper := [{ dst := some 36, op := POp.faddr 4 (Operand.tmp 1), guard := none, hints := [] },
  { dst := some 37, op := POp.load true 8 (Operand.tmp 36), guard := none, hints := [] },
  { dst := some 38, op := POp.mv (Operand.const (Value.int IntKind.i64 0)), guard := none, hints := [] }]
def pc63_c15 : PCode := .region (some ([1, 4], [1], [])) false pc63_o15
def pc63_o16 : List POper := [{ dst := some 39, op := POp.prim (Prim.bin BinOp.lss 3 false true) [Operand.tmp 38, Operand.const (Value.int IntKind.i64 4)], guard := none, hints := [] }]
def pc63_c16 : PCode := .region (some ([1, 4, 37, 38], [1, 6], [])) false pc63_o16
def pc63_c17 : PCode := .skip
def pc63_c18 : PCode := .exit 0
def pc63_c19 : PCode := .cond (Operand.tmp 39) pc63_c17 pc63_c18
def pc63_o20 : List POper := [{ dst := some 40, op := POp.mv (Operand.tmp 38), guard := none, hints := [] },
  { dst := some 41, op := POp.idx true 2 4 (Operand.tmp 37) (Operand.tmp 38), guard := none, hints := [] },
  { dst := some 6, op := POp.alloc 25 (Value.agg { toList := [Value.int IntKind.i64 0, Value.string { data := { toList := [] } }] }) [], guard := none, hints := [] },
  { dst := some 5, op := POp.mv (Operand.tmp 40), guard := none, hints := [] },
  { dst := none, op := POp.store 2 (Operand.tmp 6) (Operand.tmp 41), guard := none, hints := [] }]
def pc63_c20 : PCode := .region none false pc63_o20
def pc63_o21 : List POper := [{ dst := some 42, op := POp.faddr 1 (Operand.tmp 1), guard := none, hints := [] },
  { dst := some 43, op := POp.load false 1 (Operand.tmp 42), guard := none, hints := [] },
  { dst := some 44, op := POp.mv (Operand.tmp 5), guard := none, hints := [] },
  { dst := some 45, op := POp.call true [[], []] 99 [Operand.tmp 43, Operand.tmp 44], guard := none, hints := [] },
  { dst := some 46, op := POp.prim (Prim.un UnOp.not) [Operand.tmp 45], guard := none, hints := [] }]
def pc63_c21 : PCode := .region none false pc63_o21
def pc63_c22 : PCode := .exit 1
def pc63_c23 : PCode := .skip
def pc63_c24 : PCode := .cond (Operand.tmp 46) pc63_c22 pc63_c23
def pc63_c25 : PCode := .seq pc63_c21 pc63_c24
def pc63_o26 : List POper := [{ dst := some 47, op := POp.mv (Operand.tmp 4), guard := none, hints := [] },
  { dst := some 48, op := POp.faddr 1 (Operand.tmp 6), guard := none, hints := [] },
  { dst := some 49, op := POp.load false 1 (Operand.tmp 48), guard := none, hints := [] },
  { dst := some 50, op := POp.call true [[]] 100 [Operand.tmp 49], guard := none, hints := [] },
  { dst := some 51, op := POp.prim (Prim.bin BinOp.add 9 false false) [Operand.tmp 47, Operand.tmp 50], guard := none, hints := [] },
  { dst := some 4, op := POp.mv (Operand.tmp 51), guard := none, hints := [] }]
def pc63_c26 : PCode := .region none false pc63_o26
def pc63_o27 : List POper := [{ dst := some 52, op := POp.faddr 1 (Operand.tmp 6), guard := none, hints := [] },
  { dst := some 53, op := POp.load false 1 (Operand.tmp 52), guard := none, hints := [] },
  { dst := some 54, op := POp.prim (Prim.bin BinOp.eql 9 false true) [Operand.tmp 53, Operand.const (Value.string { data := { toList := [] } })], guard := none, hints := [] }]
def pc63_c27 : PCode := .region none false pc63_o27
def pc63_o28 : List POper := [{ dst := some 55, op := POp.mv (Operand.tmp 4), guard := none, hints := [] },
  { dst := some 56, op := POp.faddr 0 (Operand.tmp 6), guard := none, hints := [] },
  { dst := some 57, op := POp.load false 1 (Operand.tmp 56), guard := none, hints := [] },
  { dst := some 58, op := POp.call true [[]] 101 [Operand.tmp 57], guard := none, hints := [] },
  { dst := some 59, op := POp.prim (Prim.bin BinOp.add 9 false false) [Operand.tmp 55, Operand.tmp 58], guard := none, hints := [] },
  { dst := some 4, op := POp.mv (Operand.tmp 59), guard := none, hints := [] }]
def pc63_c28 : PCode := .region none false pc63_o28
def pc63_c29 : PCode := .skip
def pc63_c30 : PCode := .cond (Operand.tmp 54) pc63_c28 pc63_c29
def pc63_c31 : PCode := .seq pc63_c27 pc63_c30
def pc63_c32 : PCode := .seq pc63_c26 pc63_c31
def pc63_c33 : PCode := .seq pc63_c25 pc63_c32
def pc63_c34 : PCode := .seq pc63_c20 pc63_c33
def pc63_c35 : PCode := .block 1 pc63_c34
def pc63_o36 : List POper := [{ dst := some 60, op := POp.prim (Prim.bin BinOp.add 3 false true) [Operand.tmp 38, Operand.const (Value.int IntKind.i64 1)], guard := none, hints := [] },
  { dst := some 38, op := POp.mv (Operand.tmp 60), guard := none, hints := [] }]
def pc63_c36 : PCode := .region none false pc63_o36
def pc63_c37 : PCode := .seq pc63_c35 pc63_c36
def pc63_c38 : PCode := .seq pc63_c19 pc63_c37
def pc63_c39 : PCode := .seq pc63_c16 pc63_c38
def pc63_c40 : PCode := .loop pc63_c39
def pc63_c41 : PCode := .block 0 pc63_c40
def pc63_c42 : PCode := .seq pc63_c15 pc63_c41
def pc63_o43 : List POper := [{ dst := some 61, op := POp.mv (Operand.tmp 4), guard := none, hints := [] },
  { dst := some 2, op := POp.mv (Operand.tmp 61), guard := none, hints := [] },
  { dst := some 3, op := POp.mv (Operand.const (Value.int IntKind.i64 0)), guard := none, hints := [] }]
def pc63_c43 : PCode := .region none false pc63_o43
def pc63_c44 : PCode := .ret
def pc63_c45 : PCode := .seq pc63_c43 pc63_c44
def pc63_c46 : PCode := .seq pc63_c42 pc63_c45
def pc63_c47 : PCode := .seq pc63_c14 pc63_c46
def pc63_c48 : PCode := .seq pc63_c9 pc63_c47
def pc63_c49 : PCode := .seq pc63_c8 pc63_c48
def pc63_c50 : PCode := .seq pc63_c1 pc63_c49
def pc63_r : List PRes := [PRes.tmp 2 [], PRes.tmp 3 []]
def pc63 : PFunc := ⟨62, pc63_r, pc63_c50, false⟩
def pc63_a : Ann := {
  kr := fun
    | 6 => some ([1, 4], [1], [])
    | 7 => some ([1, 4, 37, 38], [1, 6], [])
    | _ => none
  ka := fun
    | _ => 0
  kh := fun
    | 1 => some (Hint.at_ 1 0)
    | 4 => some (Hint.imm)
    | 10 => some (Hint.at_ 1 0)
    | 11 => some (Hint.imm)
    | 12 => some (Hint.imm)
    | 13 => some (Hint.imm)
    | 14 => some (Hint.at_ 1 1)
    | 15 => some (Hint.imm)
    | 16 => some (Hint.imm)
    | 17 => some (Hint.imm)
    | 18 => some (Hint.imm)
    | 23 => some (Hint.imm)
    | 24 => some (Hint.at_ 1 2)
    | 25 => some (Hint.at_ 1 2)
    | 26 => some (Hint.imm)
    | 27 => some (Hint.imm)
    | 28 => some (Hint.imm)
    | 29 => some (Hint.at_ 1 2)
    | 30 => some (Hint.at_ 1 3)
    | 31 => some (Hint.imm)
    | 32 => some (Hint.imm)
    | 33 => some (Hint.imm)
    | 34 => some (Hint.imm)
    | 35 => some (Hint.imm)
    | _ => none
  ow := fun t => match t with
    | 96 => [(1, 5, 1)]
    | _ => []
  tc := fun t => match t with
    | 96 => true
    | _ => false }
theorem pc63_ok : compFn Try.prog pc63_a Try.f63 = some pc63 := by kernel_rfl


-- 21: vedette/thing.Bytes
def pc21_o1 : List POper := [{ dst := some 1, op := POp.box 28 (Operand.tmp 0) [], guard := none, hints := [] },
  { dst := some 2, op := POp.mv (Operand.const (Value.string { data := { toList := [] } })), guard := none, hints := [] },
  { dst := some 3, op := POp.mv (Operand.const (Value.int IntKind.i64 0)), guard := none, hints := [] }]
def pc21_c1 : PCode := .region none false pc21_o1
def pc21_o2 : List POper := [{ dst := some 4, op := POp.load true 11 (Operand.tmp 1), guard := none, hints := [] },
  { dst := some 5, op := POp.call true [[]] 24 [Operand.tmp 4], guard := none, hints := [] },
  { dst := some 6, op := POp.prim (Prim.un UnOp.not) [Operand.tmp 5], guard := none, hints := [] }]
def pc21_c2 : PCode := .region none false pc21_o2
def pc21_o3 : List POper := [{ dst := some 2, op := POp.mv (Operand.const (Value.string { data := { toList := [] } })), guard := none, hints := [] },
  { dst := some 3, op := POp.mv (Operand.const (Value.int IntKind.i64 11)), guard := none, hints := [] }]
def pc21_c3 : PCode := .region none false pc21_o3
def pc21_c4 : PCode := .ret
def pc21_c5 : PCode := .seq pc21_c3 pc21_c4
def pc21_c6 : PCode := .skip
def pc21_c7 : PCode := .cond (Operand.tmp 6) pc21_c5 pc21_c6
def pc21_c8 : PCode := .seq pc21_c2 pc21_c7
def pc21_o9 : List POper := [{ dst := some 7, op := POp.faddr 0 (Operand.tmp 1), guard := none, hints := [] },
  { dst := some 8, op := POp.load false 1 (Operand.tmp 7), guard := none, hints := [] },
  { dst := some 9, op := POp.faddr 1 (Operand.tmp 1), guard := none, hints := [] },
  { dst := some 10, op := POp.load true 2 (Operand.tmp 9), guard := none, hints := [] },
  { dst := some 11, op := POp.faddr 3 (Operand.tmp 1), guard := none, hints := [] },
  { dst := some 12, op := POp.load true 8 (Operand.tmp 11), guard := none, hints := [] },
  { dst := some 13, op := POp.build (Value.agg { toList := [Value.int IntKind.i64 0, Value.int IntKind.u8 0, Value.int IntKind.i64 0, Value.int IntKind.i64 0, Value.int IntKind.i64 0, Value.string { data := { toList := [] } }, Value.int IntKind.i64 0, Value.string { data := { toList := [] } }, Value.int IntKind.i64 0, Value.string { data := { toList := [] } }, Value.int IntKind.i64 0, Value.string { data := { toList := [] } }] }) [(0, 1, Operand.tmp 8), (1, 1, Operand.const (Value.int IntKind.u8 31)), (2, 2, Operand.tmp 10), (4, 8, Operand.tmp 12)], guard := none, hints := [] },
  { dst := some 14, op := POp.call true [[]] 63 [Operand.tmp 13], guard := none, hints := [] },
  { dst := some 15, op := POp.ext (Operand.tmp 14) 0, guard := none, hints := [] },
  { dst := some 16, op := POp.ext (Operand.tmp 14) 1, guard := none, hints := [] },
  { dst := some 2, op := POp.mv (Operand.tmp 15), guard := none, hints := [] },
  { dst := some 3, op := POp.mv (Operand.tmp 16), guard := none, hints := [] }]
def pc21_c9 : PCode := .region none false pc21_o9
def pc21_c10 : PCode := .ret
def pc21_c11 : PCode := .seq pc21_c9 pc21_c10
def pc21_c12 : PCode := .seq pc21_c8 pc21_c11
def pc21_c13 : PCode := .seq pc21_c1 pc21_c12
def pc21_r : List PRes := [PRes.tmp 2 [], PRes.tmp 3 []]
def pc21 : PFunc := ⟨17, pc21_r, pc21_c13, false⟩
def pc21_a : Ann := {
  kr := fun
    | _ => none
  ka := fun
    | _ => 0
  kh := fun
    | _ => none
  ow := fun t => match t with
    | 96 => [(1, 5, 1)]
    | _ => []
  tc := fun t => match t with
    | 96 => true
    | _ => false }
theorem pc21_ok : compFn Try.prog pc21_a Try.f21 = some pc21 := by kernel_rfl


-- 22: vedette/thing.All
def pc22_o1 : List POper := [{ dst := some 2, op := POp.mv (Operand.const (Value.string { data := { toList := [] } })), guard := none, hints := [] },
  { dst := some 3, op := POp.mv (Operand.const (Value.int IntKind.i64 0)), guard := none, hints := [] }]
def pc22_c1 : PCode := .region none false pc22_o1
def pc22_o2 : List POper := [{ dst := some 9, op := POp.mv (Operand.tmp 0), guard := none, hints := [] },
  { dst := some 10, op := POp.lenS (Operand.tmp 9), guard := none, hints := [] },
  { dst := some 11, op := POp.prim (Prim.bin BinOp.gtr 3 false true) [Operand.tmp 10, Operand.const (Value.int IntKind.i64 200)], guard := none, hints := [] }]
def pc22_c2 : PCode := .region none false pc22_o2
def pc22_o3 : List POper := [{ dst := some 2, op := POp.mv (Operand.const (Value.string { data := { toList := [] } })), guard := none, hints := [] },
  { dst := some 3, op := POp.mv (Operand.const (Value.int IntKind.i64 13)), guard := none, hints := [] }]
def pc22_c3 : PCode := .region none false pc22_o3
def pc22_c4 : PCode := .ret
def pc22_c5 : PCode := .seq pc22_c3 pc22_c4
def pc22_c6 : PCode := .skip
def pc22_c7 : PCode := .cond (Operand.tmp 11) pc22_c5 pc22_c6
def pc22_c8 : PCode := .seq pc22_c2 pc22_c7
def pc22_o9 : List POper := [{ dst := some 4, op := POp.allocT 96 (Value.agg { toList := [Value.pointer none, Value.slice none 0 0] }) [(1, 5, 1)], guard := none, hints := [] }]
def pc22_c9 : PCode := .region none false pc22_o9
def pc22_o10 : List POper := [{ dst := some 12, op := POp.mv (Operand.tmp 0), guard := none, hints := [] },
  { dst := some 13, op := POp.lenS (Operand.tmp 12), guard := none, hints := [] },
  { dst := some 14, op := POp.prim (Prim.conv 3 89) [Operand.tmp 13], guard := none, hints := [] },
  { dst := some 15, op := POp.call true [[]] 65 [Operand.tmp 14], guard := none, hints := [] },
  { dst := some 16, op := POp.gcall false false [4, 300000, 300001, 300002, 300003, 300004, 300005, 300006, 300007, 400032] [[(1, 1)], []] 64 [Operand.tmp 4, Operand.tmp 15], guard := none, hints := [] }]
def pc22_c10 : PCode := .region none false pc22_o10
def pc22_o11 : List POper := [{ dst := some 17, op := POp.mv (Operand.tmp 0), guard := none, hints := [] },
  { dst := some 18, op := POp.lenS (Operand.tmp 17), guard := none, hints := [] },
  { dst := some 19, op := POp.mv (Operand.const (Value.int IntKind.i64 0)), guard := none, hints := [] }]
def pc22_c11 : PCode := .region none false pc22_o11
def pc22_o12 : List POper := [{ dst := some 20, op := POp.prim (Prim.bin BinOp.lss 3 false false) [Operand.tmp 19, Operand.tmp 18], guard := none, hints := [] }]
def pc22_c12 : PCode := .region (some ([0, 4, 17, 18, 19], [4, 6, 400032], [])) false pc22_o12
def pc22_c13 : PCode := .skip
def pc22_c14 : PCode := .exit 0
def pc22_c15 : PCode := .cond (Operand.tmp 20) pc22_c13 pc22_c14
def pc22_o16 : List POper := [{ dst := some 21, op := POp.mv (Operand.tmp 19), guard := none, hints := [] },
  { dst := some 22, op := POp.iaddrS 11 (Operand.tmp 17) (Operand.tmp 19), guard := none, hints := [] },
  { dst := some 23, op := POp.load true 11 (Operand.tmp 22), guard := none, hints := [] },
  { dst := some 6, op := POp.alloc 28 (Value.agg { toList := [Value.int IntKind.i64 0, Value.int IntKind.i64 0, Value.int IntKind.i64 0, Value.int IntKind.i64 0, Value.string { data := { toList := [] } }, Value.int IntKind.i64 0, Value.string { data := { toList := [] } }, Value.int IntKind.i64 0, Value.string { data := { toList := [] } }, Value.int IntKind.i64 0, Value.string { data := { toList := [] } }] }) [], guard := none, hints := [] },
  { dst := some 5, op := POp.mv (Operand.tmp 21), guard := none, hints := [] },
  { dst := none, op := POp.store 11 (Operand.tmp 6) (Operand.tmp 23), guard := none, hints := [] }]
def pc22_c16 : PCode := .region none false pc22_o16
def pc22_o17 : List POper := [{ dst := some 25, op := POp.load true 11 (Operand.tmp 6), guard := none, hints := [] },
  { dst := some 26, op := POp.call true [[]] 21 [Operand.tmp 25], guard := none, hints := [] },
  { dst := some 24, op := POp.mv (Operand.tmp 26), guard := none, hints := [] },
  { dst := some 27, op := POp.ext (Operand.tmp 24) 0, guard := none, hints := [] },
  { dst := some 28, op := POp.ext (Operand.tmp 24) 1, guard := none, hints := [] },
  { dst := some 7, op := POp.mv (Operand.tmp 27), guard := none, hints := [] },
  { dst := some 8, op := POp.mv (Operand.tmp 28), guard := none, hints := [] }]
def pc22_c17 : PCode := .region none false pc22_o17
def pc22_o18 : List POper := [{ dst := some 29, op := POp.mv (Operand.tmp 8), guard := none, hints := [(8, Hint.imm)] },
  { dst := some 30, op := POp.prim (Prim.bin BinOp.neq 37 false true) [Operand.tmp 29, Operand.const (Value.int IntKind.i64 0)], guard := none, hints := [(29, Hint.imm)] },
  { dst := some 31, op := POp.mv (Operand.tmp 30), guard := none, hints := [(30, Hint.imm)] },
  { dst := some 32, op := POp.mv (Operand.tmp 5), guard := some (31, false), hints := [(5, Hint.imm)] },
  { dst := some 33, op := POp.prim (Prim.bin BinOp.gtr 3 false true) [Operand.tmp 32, Operand.const (Value.int IntKind.i64 0)], guard := some (31, false), hints := [(32, Hint.imm)] },
  { dst := some 34, op := POp.mv (Operand.tmp 33), guard := some (31, false), hints := [(33, Hint.imm)] },
  { dst := some 35, op := POp.faddr 0 (Operand.tmp 6), guard := some (34, true), hints := [(6, Hint.at_ 6 0)] },
  { dst := some 36, op := POp.load false 1 (Operand.tmp 35), guard := some (34, true), hints := [(35, Hint.at_ 6 0)] },
  { dst := some 37, op := POp.mv (Operand.tmp 0), guard := some (34, true), hints := [(0, Hint.imm)] },
  { dst := some 38, op := POp.mv (Operand.tmp 5), guard := some (34, true), hints := [(5, Hint.imm)] },
  { dst := some 39, op := POp.prim (Prim.bin BinOp.sub 3 false true) [Operand.tmp 38, Operand.const (Value.int IntKind.i64 1)], guard := some (34, true), hints := [(38, Hint.imm)] },
  { dst := some 40, op := POp.iaddrS 11 (Operand.tmp 37) (Operand.tmp 39), guard := some (34, true), hints := [(37, Hint.imm), (39, Hint.imm)] },
  { dst := some 41, op := POp.faddr 0 (Operand.tmp 40), guard := some (34, true), hints := [(40, Hint.imm)] },
  { dst := some 42, op := POp.load false 1 (Operand.tmp 41), guard := some (34, true), hints := [(41, Hint.imm)] },
  { dst := some 43, op := POp.prim (Prim.bin BinOp.leq 3 false false) [Operand.tmp 36, Operand.tmp 42], guard := some (34, true), hints := [(36, Hint.imm), (42, Hint.imm)] },
  { dst := some 44, op := POp.pick (Operand.tmp 34) (Operand.tmp 43) (Operand.const (Value.bool false)), guard := some (31, false), hints := [(34, Hint.imm), (43, Hint.imm)] },
  { dst := some 45, op := POp.pick (Operand.tmp 31) (Operand.const (Value.bool true)) (Operand.tmp 44), guard := none, hints := [(31, Hint.imm), (44, Hint.imm)] }]
def pc22_c18 : PCode := .region none true pc22_o18
def pc22_o19 : List POper := [{ dst := some 2, op := POp.mv (Operand.const (Value.string { data := { toList := [] } })), guard := none, hints := [] },
  { dst := some 3, op := POp.mv (Operand.const (Value.int IntKind.i64 11)), guard := none, hints := [] }]
def pc22_c19 : PCode := .region none false pc22_o19
def pc22_c20 : PCode := .ret
def pc22_c21 : PCode := .seq pc22_c19 pc22_c20
def pc22_c22 : PCode := .skip
def pc22_c23 : PCode := .cond (Operand.tmp 45) pc22_c21 pc22_c22
def pc22_c24 : PCode := .seq pc22_c18 pc22_c23
def pc22_o25 : List POper := [{ dst := some 46, op := POp.mv (Operand.tmp 7), guard := none, hints := [] },
  { dst := some 47, op := POp.gcall false false [4, 300000, 300001, 300002, 300003, 300004, 300005, 300006, 300007, 400032] [[(1, 1)], []] 64 [Operand.tmp 4, Operand.tmp 46], guard := none, hints := [] }]
def pc22_c25 : PCode := .region none false pc22_o25
def pc22_c26 : PCode := .seq pc22_c24 pc22_c25
def pc22_c27 : PCode := .seq pc22_c17 pc22_c26
def pc22_c28 : PCode := .seq pc22_c16 pc22_c27
def pc22_c29 : PCode := .block 1 pc22_c28
def pc22_o30 : List POper := [{ dst := some 48, op := POp.prim (Prim.bin BinOp.add 3 false true) [Operand.tmp 19, Operand.const (Value.int IntKind.i64 1)], guard := none, hints := [] },
  { dst := some 19, op := POp.mv (Operand.tmp 48), guard := none, hints := [] }]
def pc22_c30 : PCode := .region none false pc22_o30
def pc22_c31 : PCode := .seq pc22_c29 pc22_c30
def pc22_c32 : PCode := .seq pc22_c15 pc22_c31
def pc22_c33 : PCode := .seq pc22_c12 pc22_c32
def pc22_c34 : PCode := .loop pc22_c33
def pc22_c35 : PCode := .block 0 pc22_c34
def pc22_c36 : PCode := .seq pc22_c11 pc22_c35
def pc22_o37 : List POper := [{ dst := some 49, op := POp.gcall false false [4, 300000, 300001, 300002, 300003, 300004, 300005, 300006, 300007, 400032] [[(1, 1)]] 66 [Operand.tmp 4], guard := none, hints := [] },
  { dst := some 2, op := POp.mv (Operand.tmp 49), guard := none, hints := [] },
  { dst := some 3, op := POp.mv (Operand.const (Value.int IntKind.i64 0)), guard := none, hints := [] }]
def pc22_c37 : PCode := .region none false pc22_o37
def pc22_c38 : PCode := .ret
def pc22_c39 : PCode := .seq pc22_c37 pc22_c38
def pc22_c40 : PCode := .seq pc22_c36 pc22_c39
def pc22_c41 : PCode := .seq pc22_c10 pc22_c40
def pc22_c42 : PCode := .seq pc22_c9 pc22_c41
def pc22_c43 : PCode := .seq pc22_c8 pc22_c42
def pc22_c44 : PCode := .seq pc22_c1 pc22_c43
def pc22_r : List PRes := [PRes.tmp 2 [], PRes.tmp 3 []]
def pc22 : PFunc := ⟨50, pc22_r, pc22_c44, false⟩
def pc22_a : Ann := {
  kr := fun
    | 6 => some ([0, 4, 17, 18, 19], [4, 6, 400032], [])
    | _ => none
  ka := fun
    | _ => 0
  kh := fun
    | 0 => some (Hint.imm)
    | 5 => some (Hint.imm)
    | 6 => some (Hint.at_ 6 0)
    | 8 => some (Hint.imm)
    | 29 => some (Hint.imm)
    | 30 => some (Hint.imm)
    | 31 => some (Hint.imm)
    | 32 => some (Hint.imm)
    | 33 => some (Hint.imm)
    | 34 => some (Hint.imm)
    | 35 => some (Hint.at_ 6 0)
    | 36 => some (Hint.imm)
    | 37 => some (Hint.imm)
    | 38 => some (Hint.imm)
    | 39 => some (Hint.imm)
    | 40 => some (Hint.imm)
    | 41 => some (Hint.imm)
    | 42 => some (Hint.imm)
    | 43 => some (Hint.imm)
    | 44 => some (Hint.imm)
    | _ => none
  gf := fun d f => match d, f with
    | some 16, 64 => some (false, false, [4, 300000, 300001, 300002, 300003, 300004, 300005, 300006, 300007, 400032])
    | some 47, 64 => some (false, false, [4, 300000, 300001, 300002, 300003, 300004, 300005, 300006, 300007, 400032])
    | some 49, 66 => some (false, false, [4, 300000, 300001, 300002, 300003, 300004, 300005, 300006, 300007, 400032])
    | _, _ => none
  ow := fun t => match t with
    | 96 => [(1, 5, 1)]
    | _ => []
  tc := fun t => match t with
    | 96 => true
    | _ => false }
theorem pc22_ok : compFn Try.prog pc22_a Try.f22 = some pc22 := by kernel_rfl


-- 25: vedette/thing.Same
def pc25_o1 : List POper := [{ dst := some 2, op := POp.box 28 (Operand.tmp 0) [], guard := none, hints := [] },
  { dst := some 3, op := POp.box 28 (Operand.tmp 1) [], guard := none, hints := [] },
  { dst := some 4, op := POp.mv (Operand.const (Value.bool false)), guard := none, hints := [] }]
def pc25_c1 : PCode := .region none false pc25_o1
def pc25_o2 : List POper := [{ dst := some 5, op := POp.load true 11 (Operand.tmp 2), guard := none, hints := [] },
  { dst := some 6, op := POp.load true 11 (Operand.tmp 3), guard := none, hints := [] },
  { dst := some 7, op := POp.prim (Prim.bin BinOp.eql 28 false false) [Operand.tmp 5, Operand.tmp 6], guard := none, hints := [] },
  { dst := some 4, op := POp.mv (Operand.tmp 7), guard := none, hints := [] }]
def pc25_c2 : PCode := .region none false pc25_o2
def pc25_c3 : PCode := .ret
def pc25_c4 : PCode := .seq pc25_c2 pc25_c3
def pc25_c5 : PCode := .seq pc25_c1 pc25_c4
def pc25_r : List PRes := [PRes.tmp 4 []]
def pc25 : PFunc := ⟨8, pc25_r, pc25_c5, false⟩
def pc25_a : Ann := {
  kr := fun
    | _ => none
  ka := fun
    | _ => 0
  kh := fun
    | _ => none
  ow := fun t => match t with
    | 96 => [(1, 5, 1)]
    | _ => []
  tc := fun t => match t with
    | 96 => true
    | _ => false }
theorem pc25_ok : compFn Try.prog pc25_a Try.f25 = some pc25 := by kernel_rfl


-- 26: vedette/thing.Server
def pc26_o1 : List POper := [{ dst := some 2, op := POp.mv (Operand.const (Value.int IntKind.i64 0)), guard := none, hints := [] }]
def pc26_c1 : PCode := .region none false pc26_o1
def pc26_o2 : List POper := [{ dst := some 3, op := POp.mv (Operand.tmp 0), guard := none, hints := [] },
  { dst := some 4, op := POp.prim Prim.max [Operand.tmp 3, Operand.const (Value.int IntKind.i64 0)], guard := none, hints := [] },
  { dst := some 5, op := POp.prim (Prim.bin BinOp.rem 3 false true) [Operand.tmp 4, Operand.const (Value.int IntKind.i64 4)], guard := none, hints := [] },
  { dst := some 2, op := POp.mv (Operand.tmp 5), guard := none, hints := [] }]
def pc26_c2 : PCode := .region none false pc26_o2
def pc26_c3 : PCode := .ret
def pc26_c4 : PCode := .seq pc26_c2 pc26_c3
def pc26_c5 : PCode := .seq pc26_c1 pc26_c4
def pc26_r : List PRes := [PRes.tmp 2 []]
def pc26 : PFunc := ⟨6, pc26_r, pc26_c5, false⟩
def pc26_a : Ann := {
  kr := fun
    | _ => none
  ka := fun
    | _ => 0
  kh := fun
    | _ => none
  ow := fun t => match t with
    | 96 => [(1, 5, 1)]
    | _ => []
  tc := fun t => match t with
    | 96 => true
    | _ => false }
theorem pc26_ok : compFn Try.prog pc26_a Try.f26 = some pc26 := by kernel_rfl


-- 28: vedette/thing.Number
def pc28_o1 : List POper := [{ dst := some 4, op := POp.mv (Operand.const (Value.int IntKind.i64 0)), guard := none, hints := [] }]
def pc28_c1 : PCode := .region none false pc28_o1
def pc28_o2 : List POper := [{ dst := some 5, op := POp.mv (Operand.tmp 1), guard := none, hints := [] },
  { dst := some 6, op := POp.prim Prim.max [Operand.tmp 5, Operand.const (Value.int IntKind.i64 0)], guard := none, hints := [] },
  { dst := some 7, op := POp.prim Prim.min [Operand.tmp 6, Operand.const (Value.int IntKind.i64 200000)], guard := none, hints := [] },
  { dst := some 8, op := POp.prim (Prim.bin BinOp.mul 3 true false) [Operand.const (Value.int IntKind.i64 4), Operand.tmp 7], guard := none, hints := [] },
  { dst := some 9, op := POp.mv (Operand.tmp 0), guard := none, hints := [] },
  { dst := some 10, op := POp.prim Prim.max [Operand.tmp 9, Operand.const (Value.int IntKind.i64 0)], guard := none, hints := [] },
  { dst := some 11, op := POp.prim Prim.min [Operand.tmp 10, Operand.const (Value.int IntKind.i64 3)], guard := none, hints := [] },
  { dst := some 12, op := POp.prim (Prim.bin BinOp.add 3 false false) [Operand.tmp 8, Operand.tmp 11], guard := none, hints := [] },
  { dst := some 4, op := POp.mv (Operand.tmp 12), guard := none, hints := [] }]
def pc28_c2 : PCode := .region none false pc28_o2
def pc28_c3 : PCode := .ret
def pc28_c4 : PCode := .seq pc28_c2 pc28_c3
def pc28_c5 : PCode := .seq pc28_c1 pc28_c4
def pc28_r : List PRes := [PRes.tmp 4 []]
def pc28 : PFunc := ⟨13, pc28_r, pc28_c5, false⟩
def pc28_a : Ann := {
  kr := fun
    | _ => none
  ka := fun
    | _ => 0
  kh := fun
    | _ => none
  ow := fun t => match t with
    | 96 => [(1, 5, 1)]
    | _ => []
  tc := fun t => match t with
    | 96 => true
    | _ => false }
theorem pc28_ok : compFn Try.prog pc28_a Try.f28 = some pc28 := by kernel_rfl


-- 73: vedette/num.Get
def pc73_o1 : List POper := [{ dst := some 2, op := POp.mv (Operand.const (Value.int IntKind.u64 0)), guard := none, hints := [] },
  { dst := some 3, op := POp.mv (Operand.const (Value.int IntKind.i64 0)), guard := none, hints := [] },
  { dst := some 4, op := POp.mv (Operand.const (Value.int IntKind.i64 0)), guard := none, hints := [] }]
def pc73_c1 : PCode := .region none false pc73_o1
def pc73_o2 : List POper := [{ dst := some 5, op := POp.mv (Operand.const (Value.int IntKind.u64 0)), guard := none, hints := [] },
  { dst := some 6, op := POp.mv (Operand.const (Value.int IntKind.i64 0)), guard := none, hints := [] }]
def pc73_c2 : PCode := .region none false pc73_o2
def pc73_c3 : PCode := .label
def pc73_o4 : List POper := [{ dst := some 9, op := POp.mv (Operand.tmp 0), guard := none, hints := [] },
  { dst := some 10, op := POp.s2b 5 (Operand.tmp 9), guard := none, hints := [] },
  { dst := some 11, op := POp.lenS (Operand.tmp 10), guard := none, hints := [] },
  { dst := some 12, op := POp.mv (Operand.const (Value.int IntKind.i64 0)), guard := none, hints := [] }]
def pc73_c4 : PCode := .region none false pc73_o4
def pc73_o5 : List POper := [{ dst := some 13, op := POp.prim (Prim.bin BinOp.lss 3 false false) [Operand.tmp 12, Operand.tmp 11], guard := none, hints := [] }]
def pc73_c5 : PCode := .region (some ([5, 6, 10, 11, 12], [], [])) false pc73_o5
def pc73_c6 : PCode := .skip
def pc73_c7 : PCode := .exit 0
def pc73_c8 : PCode := .cond (Operand.tmp 13) pc73_c6 pc73_c7
def pc73_o9 : List POper := [{ dst := some 14, op := POp.mv (Operand.tmp 12), guard := none, hints := [] },
  { dst := some 15, op := POp.iaddrS 1 (Operand.tmp 10) (Operand.tmp 12), guard := none, hints := [] },
  { dst := some 16, op := POp.load false 1 (Operand.tmp 15), guard := none, hints := [] },
  { dst := some 7, op := POp.mv (Operand.tmp 14), guard := none, hints := [] },
  { dst := some 8, op := POp.mv (Operand.tmp 16), guard := none, hints := [] }]
def pc73_c9 : PCode := .region none false pc73_o9
def pc73_o10 : List POper := [{ dst := some 18, op := POp.mv (Operand.tmp 7), guard := none, hints := [] },
  { dst := some 19, op := POp.prim (Prim.bin BinOp.eql 3 false true) [Operand.tmp 18, Operand.const (Value.int IntKind.i64 9)], guard := none, hints := [] },
  { dst := some 20, op := POp.mv (Operand.tmp 19), guard := none, hints := [] },
  { dst := some 21, op := POp.mv (Operand.tmp 8), guard := some (20, true), hints := [] },
  { dst := some 22, op := POp.prim (Prim.bin BinOp.gtr 5 false true) [Operand.tmp 21, Operand.const (Value.int IntKind.u8 1)], guard := some (20, true), hints := [] },
  { dst := some 23, op := POp.pick (Operand.tmp 20) (Operand.tmp 22) (Operand.const (Value.bool false)), guard := none, hints := [] },
  { dst := some 17, op := POp.mv (Operand.tmp 23), guard := none, hints := [] }]
def pc73_c10 : PCode := .region none false pc73_o10
def pc73_c11 : PCode := .skip
def pc73_o12 : List POper := [{ dst := some 24, op := POp.mv (Operand.tmp 7), guard := none, hints := [] },
  { dst := some 25, op := POp.prim (Prim.bin BinOp.gtr 3 false true) [Operand.tmp 24, Operand.const (Value.int IntKind.i64 0)], guard := none, hints := [] },
  { dst := some 26, op := POp.mv (Operand.tmp 25), guard := none, hints := [] },
  { dst := some 27, op := POp.mv (Operand.tmp 8), guard := some (26, true), hints := [] },
  { dst := some 28, op := POp.prim (Prim.bin BinOp.eql 5 false true) [Operand.tmp 27, Operand.const (Value.int IntKind.u8 0)], guard := some (26, true), hints := [] },
  { dst := some 29, op := POp.pick (Operand.tmp 26) (Operand.tmp 28) (Operand.const (Value.bool false)), guard := none, hints := [] },
  { dst := some 17, op := POp.mv (Operand.tmp 29), guard := none, hints := [] }]
def pc73_c12 : PCode := .region (some ([5, 6, 7, 8, 10, 11, 12], [], [])) false pc73_o12
def pc73_c13 : PCode := .cond (Operand.tmp 17) pc73_c11 pc73_c12
def pc73_c14 : PCode := .seq pc73_c10 pc73_c13
def pc73_o15 : List POper := [{ dst := some 2, op := POp.mv (Operand.const (Value.int IntKind.u64 0)), guard := none, hints := [] },
  { dst := some 3, op := POp.mv (Operand.const (Value.int IntKind.i64 0)), guard := none, hints := [] },
  { dst := some 4, op := POp.mv (Operand.const (Value.int IntKind.i64 11)), guard := none, hints := [] }]
def pc73_c15 : PCode := .region none false pc73_o15
def pc73_c16 : PCode := .ret
def pc73_c17 : PCode := .seq pc73_c15 pc73_c16
def pc73_o18 : List POper := [{ dst := some 31, op := POp.mv (Operand.tmp 8), guard := none, hints := [] },
  { dst := some 32, op := POp.prim (Prim.bin BinOp.lss 5 false true) [Operand.tmp 31, Operand.const (Value.int IntKind.u8 128)], guard := none, hints := [] },
  { dst := some 30, op := POp.mv (Operand.tmp 32), guard := none, hints := [] }]
def pc73_c18 : PCode := .region (some ([5, 6, 7, 8, 10, 11, 12], [], [])) false pc73_o18
def pc73_o19 : List POper := [{ dst := some 33, op := POp.mv (Operand.tmp 5), guard := none, hints := [] },
  { dst := some 34, op := POp.mv (Operand.tmp 8), guard := none, hints := [] },
  { dst := some 35, op := POp.prim (Prim.conv 5 89) [Operand.tmp 34], guard := none, hints := [] },
  { dst := some 36, op := POp.mv (Operand.tmp 7), guard := none, hints := [] },
  { dst := some 37, op := POp.prim (Prim.bin BinOp.mul 3 true false) [Operand.const (Value.int IntKind.i64 7), Operand.tmp 36], guard := none, hints := [] },
  { dst := some 38, op := POp.prim (Prim.bin BinOp.shl 89 false false) [Operand.tmp 35, Operand.tmp 37], guard := none, hints := [] },
  { dst := some 39, op := POp.prim (Prim.bin BinOp.or 89 false false) [Operand.tmp 33, Operand.tmp 38], guard := none, hints := [] },
  { dst := some 5, op := POp.mv (Operand.tmp 39), guard := none, hints := [] }]
def pc73_c19 : PCode := .region none false pc73_o19
def pc73_o20 : List POper := [{ dst := some 40, op := POp.mv (Operand.tmp 7), guard := none, hints := [] },
  { dst := some 41, op := POp.prim (Prim.bin BinOp.add 3 false true) [Operand.tmp 40, Operand.const (Value.int IntKind.i64 1)], guard := none, hints := [] },
  { dst := some 6, op := POp.mv (Operand.tmp 41), guard := none, hints := [] }]
def pc73_c20 : PCode := .region none false pc73_o20
def pc73_c21 : PCode := .exit 0
def pc73_c22 : PCode := .seq pc73_c20 pc73_c21
def pc73_c23 : PCode := .seq pc73_c19 pc73_c22
def pc73_c24 : PCode := .skip
def pc73_c25 : PCode := .cond (Operand.tmp 30) pc73_c23 pc73_c24
def pc73_c26 : PCode := .seq pc73_c18 pc73_c25
def pc73_c27 : PCode := .cond (Operand.tmp 17) pc73_c17 pc73_c26
def pc73_c28 : PCode := .seq pc73_c14 pc73_c27
def pc73_c29 : PCode := .block 2 pc73_c28
def pc73_o30 : List POper := [{ dst := some 42, op := POp.mv (Operand.tmp 5), guard := none, hints := [] },
  { dst := some 43, op := POp.mv (Operand.tmp 8), guard := none, hints := [] },
  { dst := some 44, op := POp.prim (Prim.bin BinOp.andNot 5 false true) [Operand.tmp 43, Operand.const (Value.int IntKind.u8 128)], guard := none, hints := [] },
  { dst := some 45, op := POp.prim (Prim.conv 5 89) [Operand.tmp 44], guard := none, hints := [] },
  { dst := some 46, op := POp.mv (Operand.tmp 7), guard := none, hints := [] },
  { dst := some 47, op := POp.prim (Prim.bin BinOp.mul 3 true false) [Operand.const (Value.int IntKind.i64 7), Operand.tmp 46], guard := none, hints := [] },
  { dst := some 48, op := POp.prim (Prim.bin BinOp.shl 89 false false) [Operand.tmp 45, Operand.tmp 47], guard := none, hints := [] },
  { dst := some 49, op := POp.prim (Prim.bin BinOp.or 89 false false) [Operand.tmp 42, Operand.tmp 48], guard := none, hints := [] },
  { dst := some 5, op := POp.mv (Operand.tmp 49), guard := none, hints := [] }]
def pc73_c30 : PCode := .region none false pc73_o30
def pc73_c31 : PCode := .seq pc73_c29 pc73_c30
def pc73_c32 : PCode := .seq pc73_c9 pc73_c31
def pc73_c33 : PCode := .block 1 pc73_c32
def pc73_o34 : List POper := [{ dst := some 50, op := POp.prim (Prim.bin BinOp.add 3 false true) [Operand.tmp 12, Operand.const (Value.int IntKind.i64 1)], guard := none, hints := [] },
  { dst := some 12, op := POp.mv (Operand.tmp 50), guard := none, hints := [] }]
def pc73_c34 : PCode := .region none false pc73_o34
def pc73_c35 : PCode := .seq pc73_c33 pc73_c34
def pc73_c36 : PCode := .seq pc73_c8 pc73_c35
def pc73_c37 : PCode := .seq pc73_c5 pc73_c36
def pc73_c38 : PCode := .loop pc73_c37
def pc73_c39 : PCode := .block 0 pc73_c38
def pc73_c40 : PCode := .seq pc73_c4 pc73_c39
def pc73_o41 : List POper := [{ dst := some 51, op := POp.mv (Operand.tmp 6), guard := none, hints := [] },
  { dst := some 52, op := POp.prim (Prim.bin BinOp.eql 3 false true) [Operand.tmp 51, Operand.const (Value.int IntKind.i64 0)], guard := none, hints := [] }]
def pc73_c41 : PCode := .region (some ([5, 6], [], [])) false pc73_o41
def pc73_o42 : List POper := [{ dst := some 2, op := POp.mv (Operand.const (Value.int IntKind.u64 0)), guard := none, hints := [] },
  { dst := some 3, op := POp.mv (Operand.const (Value.int IntKind.i64 0)), guard := none, hints := [] },
  { dst := some 4, op := POp.mv (Operand.const (Value.int IntKind.i64 10)), guard := none, hints := [] }]
def pc73_c42 : PCode := .region none false pc73_o42
def pc73_c43 : PCode := .ret
def pc73_c44 : PCode := .seq pc73_c42 pc73_c43
def pc73_c45 : PCode := .skip
def pc73_c46 : PCode := .cond (Operand.tmp 52) pc73_c44 pc73_c45
def pc73_c47 : PCode := .seq pc73_c41 pc73_c46
def pc73_o48 : List POper := [{ dst := some 53, op := POp.mv (Operand.tmp 5), guard := none, hints := [] },
  { dst := some 54, op := POp.mv (Operand.tmp 6), guard := none, hints := [] },
  { dst := some 2, op := POp.mv (Operand.tmp 53), guard := none, hints := [] },
  { dst := some 3, op := POp.mv (Operand.tmp 54), guard := none, hints := [] },
  { dst := some 4, op := POp.mv (Operand.const (Value.int IntKind.i64 0)), guard := none, hints := [] }]
def pc73_c48 : PCode := .region none false pc73_o48
def pc73_c49 : PCode := .ret
def pc73_c50 : PCode := .seq pc73_c48 pc73_c49
def pc73_c51 : PCode := .seq pc73_c47 pc73_c50
def pc73_c52 : PCode := .seq pc73_c40 pc73_c51
def pc73_c53 : PCode := .seq pc73_c3 pc73_c52
def pc73_c54 : PCode := .seq pc73_c2 pc73_c53
def pc73_c55 : PCode := .scope pc73_c54
def pc73_c56 : PCode := .seq pc73_c1 pc73_c55
def pc73_r : List PRes := [PRes.tmp 2 [], PRes.tmp 3 [], PRes.tmp 4 []]
def pc73 : PFunc := ⟨55, pc73_r, pc73_c56, false⟩
def pc73_a : Ann := {
  kr := fun
    | 3 => some ([5, 6, 10, 11, 12], [], [])
    | 6 => some ([5, 6, 7, 8, 10, 11, 12], [], [])
    | 8 => some ([5, 6, 7, 8, 10, 11, 12], [], [])
    | 13 => some ([5, 6], [], [])
    | _ => none
  ka := fun
    | _ => 0
  kh := fun
    | _ => none
  ow := fun t => match t with
    | 96 => [(1, 5, 1)]
    | _ => []
  tc := fun t => match t with
    | 96 => true
    | _ => false }
theorem pc73_ok : compFn Try.prog pc73_a Try.f73 = some pc73 := by kernel_rfl


-- 116: (*vedette/fields.reader).took
def pc116_o1 : List POper := [{ dst := some 6, op := POp.mv (Operand.tmp 0), guard := none, hints := [] },
  { dst := some 7, op := POp.nilc (Operand.tmp 6), guard := none, hints := [] },
  { dst := some 8, op := POp.faddr 1 (Operand.tmp 7), guard := none, hints := [] },
  { dst := some 9, op := POp.load false 1 (Operand.tmp 8), guard := none, hints := [] },
  { dst := some 10, op := POp.mv (Operand.tmp 1), guard := none, hints := [] },
  { dst := some 11, op := POp.prim (Prim.bin BinOp.add 3 false false) [Operand.tmp 9, Operand.tmp 10], guard := none, hints := [] },
  { dst := some 12, op := POp.nilc (Operand.tmp 6), guard := none, hints := [] },
  { dst := some 13, op := POp.faddr 1 (Operand.tmp 12), guard := none, hints := [] },
  { dst := none, op := POp.store 1 (Operand.tmp 13) (Operand.tmp 11), guard := none, hints := [] }]
def pc116_c1 : PCode := .region none false pc116_o1
def pc116_o2 : List POper := [{ dst := some 14, op := POp.mv (Operand.tmp 0), guard := none, hints := [] },
  { dst := some 15, op := POp.mv (Operand.tmp 2), guard := none, hints := [] },
  { dst := some 16, op := POp.nilc (Operand.tmp 14), guard := none, hints := [] },
  { dst := some 17, op := POp.faddr 2 (Operand.tmp 16), guard := none, hints := [] },
  { dst := none, op := POp.store 1 (Operand.tmp 17) (Operand.tmp 15), guard := none, hints := [] }]
def pc116_c2 : PCode := .region none false pc116_o2
def pc116_c3 : PCode := .seq pc116_c1 pc116_c2
def pc116_r : List PRes := []
def pc116 : PFunc := ⟨18, pc116_r, pc116_c3, false⟩
def pc116_a : Ann := {
  kr := fun
    | _ => none
  ka := fun
    | _ => 0
  kh := fun
    | _ => none
  ow := fun t => match t with
    | 96 => [(1, 5, 1)]
    | _ => []
  tc := fun t => match t with
    | 96 => true
    | _ => false }
theorem pc116_ok : compFn Try.prog pc116_a Try.f116 = some pc116 := by kernel_rfl


-- 104: (*vedette/fields.reader).number
def pc104_o1 : List POper := [{ dst := some 2, op := POp.mv (Operand.const (Value.int IntKind.i64 0)), guard := none, hints := [] }]
def pc104_c1 : PCode := .region none false pc104_o1
def pc104_o2 : List POper := [{ dst := some 6, op := POp.mv (Operand.tmp 0), guard := none, hints := [] },
  { dst := some 7, op := POp.nilc (Operand.tmp 6), guard := none, hints := [] },
  { dst := some 8, op := POp.faddr 2 (Operand.tmp 7), guard := none, hints := [] },
  { dst := some 9, op := POp.load false 1 (Operand.tmp 8), guard := none, hints := [] },
  { dst := some 10, op := POp.prim (Prim.bin BinOp.neq 37 false true) [Operand.tmp 9, Operand.const (Value.int IntKind.i64 0)], guard := none, hints := [] }]
def pc104_c2 : PCode := .region none false pc104_o2
def pc104_o3 : List POper := [{ dst := some 2, op := POp.mv (Operand.const (Value.int IntKind.i64 0)), guard := none, hints := [] }]
def pc104_c3 : PCode := .region none false pc104_o3
def pc104_c4 : PCode := .ret
def pc104_c5 : PCode := .seq pc104_c3 pc104_c4
def pc104_c6 : PCode := .skip
def pc104_c7 : PCode := .cond (Operand.tmp 10) pc104_c5 pc104_c6
def pc104_c8 : PCode := .seq pc104_c2 pc104_c7
def pc104_o9 : List POper := [{ dst := some 12, op := POp.mv (Operand.tmp 0), guard := none, hints := [(0, Hint.at_ 1000000 0)] },
  { dst := some 13, op := POp.nilc (Operand.tmp 12), guard := none, hints := [(12, Hint.at_ 1000000 0)] },
  { dst := some 14, op := POp.faddr 0 (Operand.tmp 13), guard := none, hints := [(13, Hint.at_ 1000000 0)] },
  { dst := some 15, op := POp.load false 1 (Operand.tmp 14), guard := none, hints := [(14, Hint.at_ 1000000 0)] },
  { dst := some 16, op := POp.mv (Operand.tmp 0), guard := none, hints := [(0, Hint.at_ 1000000 0)] },
  { dst := some 17, op := POp.nilc (Operand.tmp 16), guard := none, hints := [(16, Hint.at_ 1000000 0)] },
  { dst := some 18, op := POp.faddr 1 (Operand.tmp 17), guard := none, hints := [(17, Hint.at_ 1000000 0)] },
  { dst := some 19, op := POp.load false 1 (Operand.tmp 18), guard := none, hints := [(18, Hint.at_ 1000000 1)] },
  { dst := some 20, op := POp.prim (Prim.slice 9 true false) [Operand.tmp 15, Operand.tmp 19], guard := none, hints := [(15, Hint.imm), (19, Hint.imm)] },
  { dst := some 21, op := POp.call false [[]] 73 [Operand.tmp 20], guard := none, hints := [(20, Hint.imm)] },
  { dst := some 11, op := POp.mv (Operand.tmp 21), guard := none, hints := [] },
  { dst := some 22, op := POp.ext (Operand.tmp 11) 0, guard := none, hints := [] },
  { dst := some 23, op := POp.ext (Operand.tmp 11) 1, guard := none, hints := [] },
  { dst := some 24, op := POp.ext (Operand.tmp 11) 2, guard := none, hints := [] },
  { dst := some 3, op := POp.mv (Operand.tmp 22), guard := none, hints := [(22, Hint.imm)] },
  { dst := some 4, op := POp.mv (Operand.tmp 23), guard := none, hints := [(23, Hint.imm)] },
  { dst := some 5, op := POp.mv (Operand.tmp 24), guard := none, hints := [(24, Hint.imm)] }]
def pc104_c9 : PCode := .region none true pc104_o9
def pc104_o10 : List POper := [{ dst := some 25, op := POp.mv (Operand.tmp 0), guard := none, hints := [] },
  { dst := some 26, op := POp.mv (Operand.tmp 4), guard := none, hints := [] },
  { dst := some 27, op := POp.mv (Operand.tmp 5), guard := none, hints := [] },
  { dst := some 28, op := POp.call true [[], [], []] 116 [Operand.tmp 25, Operand.tmp 26, Operand.tmp 27], guard := none, hints := [] }]
def pc104_c10 : PCode := .region none false pc104_o10
def pc104_o11 : List POper := [{ dst := some 29, op := POp.mv (Operand.tmp 3), guard := none, hints := [] },
  { dst := some 30, op := POp.prim Prim.min [Operand.tmp 29, Operand.const (Value.int IntKind.u64 1000001)], guard := none, hints := [] },
  { dst := some 31, op := POp.prim (Prim.conv 89 3) [Operand.tmp 30], guard := none, hints := [] },
  { dst := some 2, op := POp.mv (Operand.tmp 31), guard := none, hints := [] }]
def pc104_c11 : PCode := .region none false pc104_o11
def pc104_c12 : PCode := .ret
def pc104_c13 : PCode := .seq pc104_c11 pc104_c12
def pc104_c14 : PCode := .seq pc104_c10 pc104_c13
def pc104_c15 : PCode := .seq pc104_c9 pc104_c14
def pc104_c16 : PCode := .seq pc104_c8 pc104_c15
def pc104_c17 : PCode := .seq pc104_c1 pc104_c16
def pc104_r : List PRes := [PRes.tmp 2 []]
def pc104 : PFunc := ⟨32, pc104_r, pc104_c17, false⟩
def pc104_a : Ann := {
  kr := fun
    | _ => none
  ka := fun
    | _ => 0
  kh := fun
    | 0 => some (Hint.at_ 1000000 0)
    | 12 => some (Hint.at_ 1000000 0)
    | 13 => some (Hint.at_ 1000000 0)
    | 14 => some (Hint.at_ 1000000 0)
    | 15 => some (Hint.imm)
    | 16 => some (Hint.at_ 1000000 0)
    | 17 => some (Hint.at_ 1000000 0)
    | 18 => some (Hint.at_ 1000000 1)
    | 19 => some (Hint.imm)
    | 20 => some (Hint.imm)
    | 22 => some (Hint.imm)
    | 23 => some (Hint.imm)
    | 24 => some (Hint.imm)
    | _ => none
  ow := fun t => match t with
    | 96 => [(1, 5, 1)]
    | _ => []
  tc := fun t => match t with
    | 96 => true
    | _ => false }
theorem pc104_ok : compFn Try.prog pc104_a Try.f104 = some pc104 := by kernel_rfl


-- 117: vedette/num.Texts
def pc117_o1 : List POper := [{ dst := some 4, op := POp.mv (Operand.const (Value.string { data := { toList := [] } })), guard := none, hints := [] },
  { dst := some 5, op := POp.mv (Operand.const (Value.int IntKind.i64 0)), guard := none, hints := [] },
  { dst := some 6, op := POp.mv (Operand.const (Value.int IntKind.i64 0)), guard := none, hints := [] }]
def pc117_c1 : PCode := .region none false pc117_o1
def pc117_o2 : List POper := [{ dst := some 12, op := POp.mv (Operand.tmp 0), guard := none, hints := [] },
  { dst := some 13, op := POp.call true [[]] 73 [Operand.tmp 12], guard := none, hints := [] },
  { dst := some 11, op := POp.mv (Operand.tmp 13), guard := none, hints := [] },
  { dst := some 14, op := POp.ext (Operand.tmp 11) 0, guard := none, hints := [] },
  { dst := some 15, op := POp.ext (Operand.tmp 11) 1, guard := none, hints := [] },
  { dst := some 16, op := POp.ext (Operand.tmp 11) 2, guard := none, hints := [] },
  { dst := some 7, op := POp.mv (Operand.tmp 14), guard := none, hints := [] },
  { dst := some 8, op := POp.mv (Operand.tmp 15), guard := none, hints := [] },
  { dst := some 9, op := POp.mv (Operand.tmp 16), guard := none, hints := [] }]
def pc117_c2 : PCode := .region none false pc117_o2
def pc117_o3 : List POper := [{ dst := some 18, op := POp.mv (Operand.tmp 9), guard := none, hints := [] },
  { dst := some 19, op := POp.prim (Prim.bin BinOp.neq 37 false true) [Operand.tmp 18, Operand.const (Value.int IntKind.i64 0)], guard := none, hints := [] },
  { dst := some 17, op := POp.mv (Operand.tmp 19), guard := none, hints := [] }]
def pc117_c3 : PCode := .region none false pc117_o3
def pc117_o4 : List POper := [{ dst := some 20, op := POp.mv (Operand.tmp 9), guard := none, hints := [] },
  { dst := some 4, op := POp.mv (Operand.const (Value.string { data := { toList := [] } })), guard := none, hints := [] },
  { dst := some 5, op := POp.mv (Operand.const (Value.int IntKind.i64 0)), guard := none, hints := [] },
  { dst := some 6, op := POp.mv (Operand.tmp 20), guard := none, hints := [] }]
def pc117_c4 : PCode := .region none false pc117_o4
def pc117_c5 : PCode := .ret
def pc117_c6 : PCode := .seq pc117_c4 pc117_c5
def pc117_o7 : List POper := [{ dst := some 22, op := POp.mv (Operand.tmp 7), guard := none, hints := [] },
  { dst := some 23, op := POp.mv (Operand.tmp 1), guard := none, hints := [] },
  { dst := some 24, op := POp.prim Prim.max [Operand.tmp 23, Operand.const (Value.int IntKind.i64 0)], guard := none, hints := [] },
  { dst := some 25, op := POp.prim (Prim.conv 3 89) [Operand.tmp 24], guard := none, hints := [] },
  { dst := some 26, op := POp.prim (Prim.bin BinOp.gtr 89 false false) [Operand.tmp 22, Operand.tmp 25], guard := none, hints := [] },
  { dst := some 21, op := POp.mv (Operand.tmp 26), guard := none, hints := [] }]
def pc117_c7 : PCode := .region none false pc117_o7
def pc117_o8 : List POper := [{ dst := some 4, op := POp.mv (Operand.const (Value.string { data := { toList := [] } })), guard := none, hints := [] },
  { dst := some 5, op := POp.mv (Operand.const (Value.int IntKind.i64 0)), guard := none, hints := [] },
  { dst := some 6, op := POp.mv (Operand.const (Value.int IntKind.i64 13)), guard := none, hints := [] }]
def pc117_c8 : PCode := .region none false pc117_o8
def pc117_c9 : PCode := .ret
def pc117_c10 : PCode := .seq pc117_c8 pc117_c9
def pc117_o11 : List POper := [{ dst := some 28, op := POp.mv (Operand.tmp 7), guard := none, hints := [] },
  { dst := some 29, op := POp.mv (Operand.tmp 0), guard := none, hints := [] },
  { dst := some 30, op := POp.prim (Prim.len 9) [Operand.tmp 29], guard := none, hints := [] },
  { dst := some 31, op := POp.mv (Operand.tmp 8), guard := none, hints := [] },
  { dst := some 32, op := POp.prim (Prim.bin BinOp.sub 3 false false) [Operand.tmp 30, Operand.tmp 31], guard := none, hints := [] },
  { dst := some 33, op := POp.prim (Prim.conv 3 89) [Operand.tmp 32], guard := none, hints := [] },
  { dst := some 34, op := POp.prim (Prim.bin BinOp.gtr 89 false false) [Operand.tmp 28, Operand.tmp 33], guard := none, hints := [] },
  { dst := some 27, op := POp.mv (Operand.tmp 34), guard := none, hints := [] }]
def pc117_c11 : PCode := .region none false pc117_o11
def pc117_o12 : List POper := [{ dst := some 4, op := POp.mv (Operand.const (Value.string { data := { toList := [] } })), guard := none, hints := [] },
  { dst := some 5, op := POp.mv (Operand.const (Value.int IntKind.i64 0)), guard := none, hints := [] },
  { dst := some 6, op := POp.mv (Operand.const (Value.int IntKind.i64 10)), guard := none, hints := [] }]
def pc117_c12 : PCode := .region none false pc117_o12
def pc117_c13 : PCode := .ret
def pc117_c14 : PCode := .seq pc117_c12 pc117_c13
def pc117_c15 : PCode := .skip
def pc117_c16 : PCode := .cond (Operand.tmp 27) pc117_c14 pc117_c15
def pc117_c17 : PCode := .seq pc117_c11 pc117_c16
def pc117_c18 : PCode := .cond (Operand.tmp 21) pc117_c10 pc117_c17
def pc117_c19 : PCode := .seq pc117_c7 pc117_c18
def pc117_c20 : PCode := .cond (Operand.tmp 17) pc117_c6 pc117_c19
def pc117_c21 : PCode := .seq pc117_c3 pc117_c20
def pc117_c22 : PCode := .block 0 pc117_c21
def pc117_o23 : List POper := [{ dst := some 35, op := POp.mv (Operand.tmp 8), guard := none, hints := [] },
  { dst := some 36, op := POp.mv (Operand.tmp 7), guard := none, hints := [] },
  { dst := some 37, op := POp.prim (Prim.conv 89 3) [Operand.tmp 36], guard := none, hints := [] },
  { dst := some 38, op := POp.prim (Prim.bin BinOp.add 3 false false) [Operand.tmp 35, Operand.tmp 37], guard := none, hints := [] },
  { dst := some 10, op := POp.mv (Operand.tmp 38), guard := none, hints := [] }]
def pc117_c23 : PCode := .region none false pc117_o23
def pc117_o24 : List POper := [{ dst := some 39, op := POp.mv (Operand.tmp 0), guard := none, hints := [] },
  { dst := some 40, op := POp.mv (Operand.tmp 8), guard := none, hints := [] },
  { dst := some 41, op := POp.mv (Operand.tmp 10), guard := none, hints := [] },
  { dst := some 42, op := POp.prim (Prim.slice 9 true true) [Operand.tmp 39, Operand.tmp 40, Operand.tmp 41], guard := none, hints := [] },
  { dst := some 43, op := POp.mv (Operand.tmp 10), guard := none, hints := [] },
  { dst := some 4, op := POp.mv (Operand.tmp 42), guard := none, hints := [] },
  { dst := some 5, op := POp.mv (Operand.tmp 43), guard := none, hints := [] },
  { dst := some 6, op := POp.mv (Operand.const (Value.int IntKind.i64 0)), guard := none, hints := [] }]
def pc117_c24 : PCode := .region none false pc117_o24
def pc117_c25 : PCode := .ret
def pc117_c26 : PCode := .seq pc117_c24 pc117_c25
def pc117_c27 : PCode := .seq pc117_c23 pc117_c26
def pc117_c28 : PCode := .seq pc117_c22 pc117_c27
def pc117_c29 : PCode := .seq pc117_c2 pc117_c28
def pc117_c30 : PCode := .seq pc117_c1 pc117_c29
def pc117_r : List PRes := [PRes.tmp 4 [], PRes.tmp 5 [], PRes.tmp 6 []]
def pc117 : PFunc := ⟨44, pc117_r, pc117_c30, false⟩
def pc117_a : Ann := {
  kr := fun
    | _ => none
  ka := fun
    | _ => 0
  kh := fun
    | _ => none
  ow := fun t => match t with
    | 96 => [(1, 5, 1)]
    | _ => []
  tc := fun t => match t with
    | 96 => true
    | _ => false }
theorem pc117_ok : compFn Try.prog pc117_a Try.f117 = some pc117 := by kernel_rfl


-- 121: vedette/num.Zag
def pc121_o1 : List POper := [{ dst := some 2, op := POp.mv (Operand.const (Value.int IntKind.i64 0)), guard := none, hints := [] }]
def pc121_c1 : PCode := .region none false pc121_o1
def pc121_o2 : List POper := [{ dst := some 3, op := POp.mv (Operand.tmp 0), guard := none, hints := [] },
  { dst := some 4, op := POp.prim (Prim.bin BinOp.shr 89 false true) [Operand.tmp 3, Operand.const (Value.int IntKind.u64 1)], guard := none, hints := [] },
  { dst := some 5, op := POp.prim (Prim.conv 89 2) [Operand.tmp 4], guard := none, hints := [] },
  { dst := some 6, op := POp.mv (Operand.tmp 0), guard := none, hints := [] },
  { dst := some 7, op := POp.prim (Prim.bin BinOp.and 89 false true) [Operand.tmp 6, Operand.const (Value.int IntKind.u64 1)], guard := none, hints := [] },
  { dst := some 8, op := POp.prim (Prim.conv 89 2) [Operand.tmp 7], guard := none, hints := [] },
  { dst := some 9, op := POp.prim (Prim.un UnOp.neg) [Operand.tmp 8], guard := none, hints := [] },
  { dst := some 10, op := POp.prim (Prim.bin BinOp.xor 2 false false) [Operand.tmp 5, Operand.tmp 9], guard := none, hints := [] },
  { dst := some 2, op := POp.mv (Operand.tmp 10), guard := none, hints := [] }]
def pc121_c2 : PCode := .region none false pc121_o2
def pc121_c3 : PCode := .ret
def pc121_c4 : PCode := .seq pc121_c2 pc121_c3
def pc121_c5 : PCode := .seq pc121_c1 pc121_c4
def pc121_r : List PRes := [PRes.tmp 2 []]
def pc121 : PFunc := ⟨11, pc121_r, pc121_c5, false⟩
def pc121_a : Ann := {
  kr := fun
    | _ => none
  ka := fun
    | _ => 0
  kh := fun
    | _ => none
  ow := fun t => match t with
    | 96 => [(1, 5, 1)]
    | _ => []
  tc := fun t => match t with
    | 96 => true
    | _ => false }
theorem pc121_ok : compFn Try.prog pc121_a Try.f121 = some pc121 := by kernel_rfl


-- 118: vedette/num.Ints
def pc118_o1 : List POper := [{ dst := some 2, op := POp.mv (Operand.const (Value.int IntKind.i64 0)), guard := none, hints := [] },
  { dst := some 3, op := POp.mv (Operand.const (Value.int IntKind.i64 0)), guard := none, hints := [] },
  { dst := some 4, op := POp.mv (Operand.const (Value.int IntKind.i64 0)), guard := none, hints := [] }]
def pc118_c1 : PCode := .region none false pc118_o1
def pc118_o2 : List POper := [{ dst := some 9, op := POp.mv (Operand.tmp 0), guard := none, hints := [] },
  { dst := some 10, op := POp.call true [[]] 73 [Operand.tmp 9], guard := none, hints := [] },
  { dst := some 8, op := POp.mv (Operand.tmp 10), guard := none, hints := [] },
  { dst := some 11, op := POp.ext (Operand.tmp 8) 0, guard := none, hints := [] },
  { dst := some 12, op := POp.ext (Operand.tmp 8) 1, guard := none, hints := [] },
  { dst := some 13, op := POp.ext (Operand.tmp 8) 2, guard := none, hints := [] },
  { dst := some 5, op := POp.mv (Operand.tmp 11), guard := none, hints := [] },
  { dst := some 6, op := POp.mv (Operand.tmp 12), guard := none, hints := [] },
  { dst := some 7, op := POp.mv (Operand.tmp 13), guard := none, hints := [] }]
def pc118_c2 : PCode := .region none false pc118_o2
def pc118_o3 : List POper := [{ dst := some 14, op := POp.mv (Operand.tmp 5), guard := none, hints := [] },
  { dst := some 15, op := POp.call true [[]] 121 [Operand.tmp 14], guard := none, hints := [] },
  { dst := some 16, op := POp.mv (Operand.tmp 6), guard := none, hints := [] },
  { dst := some 17, op := POp.mv (Operand.tmp 7), guard := none, hints := [] },
  { dst := some 2, op := POp.mv (Operand.tmp 15), guard := none, hints := [] },
  { dst := some 3, op := POp.mv (Operand.tmp 16), guard := none, hints := [] },
  { dst := some 4, op := POp.mv (Operand.tmp 17), guard := none, hints := [] }]
def pc118_c3 : PCode := .region none false pc118_o3
def pc118_c4 : PCode := .ret
def pc118_c5 : PCode := .seq pc118_c3 pc118_c4
def pc118_c6 : PCode := .seq pc118_c2 pc118_c5
def pc118_c7 : PCode := .seq pc118_c1 pc118_c6
def pc118_r : List PRes := [PRes.tmp 2 [], PRes.tmp 3 [], PRes.tmp 4 []]
def pc118 : PFunc := ⟨18, pc118_r, pc118_c7, false⟩
def pc118_a : Ann := {
  kr := fun
    | _ => none
  ka := fun
    | _ => 0
  kh := fun
    | _ => none
  ow := fun t => match t with
    | 96 => [(1, 5, 1)]
    | _ => []
  tc := fun t => match t with
    | 96 => true
    | _ => false }
theorem pc118_ok : compFn Try.prog pc118_a Try.f118 = some pc118 := by kernel_rfl


-- 105: (*vedette/fields.reader).field
def pc105_o1 : List POper := [{ dst := some 2, op := POp.alloc 25 (Value.agg { toList := [Value.int IntKind.i64 0, Value.string { data := { toList := [] } }] }) [], guard := none, hints := [] }]
def pc105_c1 : PCode := .region none false pc105_o1
def pc105_o2 : List POper := [{ dst := some 3, op := POp.alloc 25 (Value.agg { toList := [Value.int IntKind.i64 0, Value.string { data := { toList := [] } }] }) [], guard := none, hints := [] }]
def pc105_c2 : PCode := .region none false pc105_o2
def pc105_o3 : List POper := [{ dst := some 10, op := POp.mv (Operand.tmp 0), guard := none, hints := [] },
  { dst := some 11, op := POp.nilc (Operand.tmp 10), guard := none, hints := [] },
  { dst := some 12, op := POp.faddr 2 (Operand.tmp 11), guard := none, hints := [] },
  { dst := some 13, op := POp.load false 1 (Operand.tmp 12), guard := none, hints := [] },
  { dst := some 14, op := POp.prim (Prim.bin BinOp.neq 37 false true) [Operand.tmp 13, Operand.const (Value.int IntKind.i64 0)], guard := none, hints := [] }]
def pc105_c3 : PCode := .region none false pc105_o3
def pc105_o4 : List POper := [{ dst := some 15, op := POp.load true 2 (Operand.tmp 3), guard := none, hints := [] },
  { dst := none, op := POp.store 2 (Operand.tmp 2) (Operand.tmp 15), guard := none, hints := [] }]
def pc105_c4 : PCode := .region none false pc105_o4
def pc105_c5 : PCode := .ret
def pc105_c6 : PCode := .seq pc105_c4 pc105_c5
def pc105_c7 : PCode := .skip
def pc105_c8 : PCode := .cond (Operand.tmp 14) pc105_c6 pc105_c7
def pc105_c9 : PCode := .seq pc105_c3 pc105_c8
def pc105_o10 : List POper := [{ dst := some 17, op := POp.mv (Operand.tmp 0), guard := none, hints := [(0, Hint.at_ 1000000 0)] },
  { dst := some 18, op := POp.nilc (Operand.tmp 17), guard := none, hints := [(17, Hint.at_ 1000000 0)] },
  { dst := some 19, op := POp.faddr 0 (Operand.tmp 18), guard := none, hints := [(18, Hint.at_ 1000000 0)] },
  { dst := some 20, op := POp.load false 1 (Operand.tmp 19), guard := none, hints := [(19, Hint.at_ 1000000 0)] },
  { dst := some 21, op := POp.mv (Operand.tmp 0), guard := none, hints := [(0, Hint.at_ 1000000 0)] },
  { dst := some 22, op := POp.nilc (Operand.tmp 21), guard := none, hints := [(21, Hint.at_ 1000000 0)] },
  { dst := some 23, op := POp.faddr 1 (Operand.tmp 22), guard := none, hints := [(22, Hint.at_ 1000000 0)] },
  { dst := some 24, op := POp.load false 1 (Operand.tmp 23), guard := none, hints := [(23, Hint.at_ 1000000 1)] },
  { dst := some 25, op := POp.prim (Prim.slice 9 true false) [Operand.tmp 20, Operand.tmp 24], guard := none, hints := [(20, Hint.imm), (24, Hint.imm)] },
  { dst := some 26, op := POp.call false [[], []] 117 [Operand.tmp 25, Operand.const (Value.int IntKind.i64 12)], guard := none, hints := [(25, Hint.imm)] },
  { dst := some 16, op := POp.mv (Operand.tmp 26), guard := none, hints := [] },
  { dst := some 27, op := POp.ext (Operand.tmp 16) 0, guard := none, hints := [] },
  { dst := some 28, op := POp.ext (Operand.tmp 16) 1, guard := none, hints := [] },
  { dst := some 29, op := POp.ext (Operand.tmp 16) 2, guard := none, hints := [] },
  { dst := some 4, op := POp.mv (Operand.tmp 27), guard := none, hints := [(27, Hint.imm)] },
  { dst := some 5, op := POp.mv (Operand.tmp 28), guard := none, hints := [(28, Hint.imm)] },
  { dst := some 6, op := POp.mv (Operand.tmp 29), guard := none, hints := [(29, Hint.imm)] }]
def pc105_c10 : PCode := .region none true pc105_o10
def pc105_o11 : List POper := [{ dst := some 30, op := POp.mv (Operand.tmp 0), guard := none, hints := [] },
  { dst := some 31, op := POp.mv (Operand.tmp 5), guard := none, hints := [] },
  { dst := some 32, op := POp.mv (Operand.tmp 6), guard := none, hints := [] },
  { dst := some 33, op := POp.call true [[], [], []] 116 [Operand.tmp 30, Operand.tmp 31, Operand.tmp 32], guard := none, hints := [] }]
def pc105_c11 : PCode := .region none false pc105_o11
def pc105_o12 : List POper := [{ dst := some 34, op := POp.mv (Operand.tmp 4), guard := none, hints := [] },
  { dst := some 35, op := POp.faddr 1 (Operand.tmp 3), guard := none, hints := [] },
  { dst := none, op := POp.store 1 (Operand.tmp 35) (Operand.tmp 34), guard := none, hints := [] }]
def pc105_c12 : PCode := .region none false pc105_o12
def pc105_o13 : List POper := [{ dst := some 36, op := POp.mv (Operand.tmp 4), guard := none, hints := [] },
  { dst := some 37, op := POp.prim (Prim.bin BinOp.eql 9 false true) [Operand.tmp 36, Operand.const (Value.string { data := { toList := [] } })], guard := none, hints := [] },
  { dst := some 38, op := POp.mv (Operand.tmp 37), guard := none, hints := [] },
  { dst := some 39, op := POp.mv (Operand.tmp 6), guard := some (38, true), hints := [] },
  { dst := some 40, op := POp.prim (Prim.bin BinOp.eql 37 false true) [Operand.tmp 39, Operand.const (Value.int IntKind.i64 0)], guard := some (38, true), hints := [] },
  { dst := some 41, op := POp.pick (Operand.tmp 38) (Operand.tmp 40) (Operand.const (Value.bool false)), guard := none, hints := [] }]
def pc105_c13 : PCode := .region none false pc105_o13
def pc105_o14 : List POper := [{ dst := some 43, op := POp.mv (Operand.tmp 0), guard := none, hints := [(0, Hint.at_ 1000000 0)] },
  { dst := some 44, op := POp.nilc (Operand.tmp 43), guard := none, hints := [(43, Hint.at_ 1000000 0)] },
  { dst := some 45, op := POp.faddr 0 (Operand.tmp 44), guard := none, hints := [(44, Hint.at_ 1000000 0)] },
  { dst := some 46, op := POp.load false 1 (Operand.tmp 45), guard := none, hints := [(45, Hint.at_ 1000000 0)] },
  { dst := some 47, op := POp.mv (Operand.tmp 0), guard := none, hints := [(0, Hint.at_ 1000000 0)] },
  { dst := some 48, op := POp.nilc (Operand.tmp 47), guard := none, hints := [(47, Hint.at_ 1000000 0)] },
  { dst := some 49, op := POp.faddr 1 (Operand.tmp 48), guard := none, hints := [(48, Hint.at_ 1000000 0)] },
  { dst := some 50, op := POp.load false 1 (Operand.tmp 49), guard := none, hints := [(49, Hint.at_ 1000000 1)] },
  { dst := some 51, op := POp.prim (Prim.slice 9 true false) [Operand.tmp 46, Operand.tmp 50], guard := none, hints := [(46, Hint.imm), (50, Hint.imm)] },
  { dst := some 52, op := POp.call false [[]] 118 [Operand.tmp 51], guard := none, hints := [(51, Hint.imm)] },
  { dst := some 42, op := POp.mv (Operand.tmp 52), guard := none, hints := [] },
  { dst := some 53, op := POp.ext (Operand.tmp 42) 0, guard := none, hints := [] },
  { dst := some 54, op := POp.ext (Operand.tmp 42) 1, guard := none, hints := [] },
  { dst := some 55, op := POp.ext (Operand.tmp 42) 2, guard := none, hints := [] },
  { dst := some 7, op := POp.mv (Operand.tmp 53), guard := none, hints := [(53, Hint.imm)] },
  { dst := some 8, op := POp.mv (Operand.tmp 54), guard := none, hints := [(54, Hint.imm)] },
  { dst := some 9, op := POp.mv (Operand.tmp 55), guard := none, hints := [(55, Hint.imm)] }]
def pc105_c14 : PCode := .region none true pc105_o14
def pc105_o15 : List POper := [{ dst := some 56, op := POp.mv (Operand.tmp 0), guard := none, hints := [] },
  { dst := some 57, op := POp.mv (Operand.tmp 8), guard := none, hints := [] },
  { dst := some 58, op := POp.mv (Operand.tmp 9), guard := none, hints := [] },
  { dst := some 59, op := POp.call true [[], [], []] 116 [Operand.tmp 56, Operand.tmp 57, Operand.tmp 58], guard := none, hints := [] }]
def pc105_c15 : PCode := .region none false pc105_o15
def pc105_o16 : List POper := [{ dst := some 60, op := POp.mv (Operand.tmp 7), guard := none, hints := [] },
  { dst := some 61, op := POp.faddr 0 (Operand.tmp 3), guard := none, hints := [] },
  { dst := none, op := POp.store 1 (Operand.tmp 61) (Operand.tmp 60), guard := none, hints := [] }]
def pc105_c16 : PCode := .region none false pc105_o16
def pc105_c17 : PCode := .seq pc105_c15 pc105_c16
def pc105_c18 : PCode := .seq pc105_c14 pc105_c17
def pc105_c19 : PCode := .skip
def pc105_c20 : PCode := .cond (Operand.tmp 41) pc105_c18 pc105_c19
def pc105_c21 : PCode := .seq pc105_c13 pc105_c20
def pc105_c22 : PCode := .seq pc105_c12 pc105_c21
def pc105_o23 : List POper := [{ dst := some 62, op := POp.load true 2 (Operand.tmp 3), guard := none, hints := [] },
  { dst := none, op := POp.store 2 (Operand.tmp 2) (Operand.tmp 62), guard := none, hints := [] }]
def pc105_c23 : PCode := .region none false pc105_o23
def pc105_c24 : PCode := .ret
def pc105_c25 : PCode := .seq pc105_c23 pc105_c24
def pc105_c26 : PCode := .seq pc105_c22 pc105_c25
def pc105_c27 : PCode := .seq pc105_c11 pc105_c26
def pc105_c28 : PCode := .seq pc105_c10 pc105_c27
def pc105_c29 : PCode := .seq pc105_c9 pc105_c28
def pc105_c30 : PCode := .seq pc105_c2 pc105_c29
def pc105_c31 : PCode := .seq pc105_c1 pc105_c30
def pc105_r : List PRes := [PRes.cell 2 true 2 []]
def pc105 : PFunc := ⟨63, pc105_r, pc105_c31, false⟩
def pc105_a : Ann := {
  kr := fun
    | _ => none
  ka := fun
    | _ => 0
  kh := fun
    | 0 => some (Hint.at_ 1000000 0)
    | 17 => some (Hint.at_ 1000000 0)
    | 18 => some (Hint.at_ 1000000 0)
    | 19 => some (Hint.at_ 1000000 0)
    | 20 => some (Hint.imm)
    | 21 => some (Hint.at_ 1000000 0)
    | 22 => some (Hint.at_ 1000000 0)
    | 23 => some (Hint.at_ 1000000 1)
    | 24 => some (Hint.imm)
    | 25 => some (Hint.imm)
    | 27 => some (Hint.imm)
    | 28 => some (Hint.imm)
    | 29 => some (Hint.imm)
    | 43 => some (Hint.at_ 1000000 0)
    | 44 => some (Hint.at_ 1000000 0)
    | 45 => some (Hint.at_ 1000000 0)
    | 46 => some (Hint.imm)
    | 47 => some (Hint.at_ 1000000 0)
    | 48 => some (Hint.at_ 1000000 0)
    | 49 => some (Hint.at_ 1000000 1)
    | 50 => some (Hint.imm)
    | 51 => some (Hint.imm)
    | 53 => some (Hint.imm)
    | 54 => some (Hint.imm)
    | 55 => some (Hint.imm)
    | _ => none
  ow := fun t => match t with
    | 96 => [(1, 5, 1)]
    | _ => []
  tc := fun t => match t with
    | 96 => true
    | _ => false }
theorem pc105_ok : compFn Try.prog pc105_a Try.f105 = some pc105 := by kernel_rfl


-- 71: vedette/fields.Read
def pc71_o1 : List POper := [{ dst := some 2, op := POp.alloc 35 (Value.agg { toList := [Value.int IntKind.i64 0, Value.int IntKind.u8 0, Value.int IntKind.i64 0, Value.int IntKind.i64 0, Value.int IntKind.i64 0, Value.string { data := { toList := [] } }, Value.int IntKind.i64 0, Value.string { data := { toList := [] } }, Value.int IntKind.i64 0, Value.string { data := { toList := [] } }, Value.int IntKind.i64 0, Value.string { data := { toList := [] } }] }) [], guard := none, hints := [] },
  { dst := some 3, op := POp.mv (Operand.const (Value.int IntKind.i64 0)), guard := none, hints := [] },
  { dst := some 4, op := POp.mv (Operand.const (Value.int IntKind.i64 0)), guard := none, hints := [] }]
def pc71_c1 : PCode := .region none false pc71_o1
def pc71_o2 : List POper := [{ dst := some 9, op := POp.mv (Operand.tmp 0), guard := none, hints := [] },
  { dst := some 10, op := POp.build (Value.agg { toList := [Value.string { data := { toList := [] } }, Value.int IntKind.i64 0, Value.int IntKind.i64 0] }) [(0, 1, Operand.tmp 9)], guard := none, hints := [] },
  { dst := some 11, op := POp.box 138 (Operand.tmp 10) [], guard := none, hints := [] },
  { dst := some 5, op := POp.mv (Operand.tmp 11), guard := none, hints := [] }]
def pc71_c2 : PCode := .region none false pc71_o2
def pc71_o3 : List POper := [{ dst := some 12, op := POp.mv (Operand.tmp 5), guard := none, hints := [] },
  { dst := some 13, op := POp.call true [[]] 104 [Operand.tmp 12], guard := none, hints := [] },
  { dst := some 14, op := POp.build (Value.agg { toList := [Value.int IntKind.i64 0, Value.int IntKind.u8 0, Value.int IntKind.i64 0, Value.int IntKind.i64 0, Value.int IntKind.i64 0, Value.string { data := { toList := [] } }, Value.int IntKind.i64 0, Value.string { data := { toList := [] } }, Value.int IntKind.i64 0, Value.string { data := { toList := [] } }, Value.int IntKind.i64 0, Value.string { data := { toList := [] } }] }) [(0, 1, Operand.tmp 13)], guard := none, hints := [] },
  { dst := some 6, op := POp.alloc 35 (Value.agg { toList := [Value.int IntKind.i64 0, Value.int IntKind.u8 0, Value.int IntKind.i64 0, Value.int IntKind.i64 0, Value.int IntKind.i64 0, Value.string { data := { toList := [] } }, Value.int IntKind.i64 0, Value.string { data := { toList := [] } }, Value.int IntKind.i64 0, Value.string { data := { toList := [] } }, Value.int IntKind.i64 0, Value.string { data := { toList := [] } }] }) [], guard := none, hints := [] },
  { dst := none, op := POp.store 12 (Operand.tmp 6) (Operand.tmp 14), guard := none, hints := [] }]
def pc71_c3 : PCode := .region none false pc71_o3
def pc71_o4 : List POper := [{ dst := some 15, op := POp.mv (Operand.tmp 5), guard := none, hints := [] },
  { dst := some 16, op := POp.call true [[]] 104 [Operand.tmp 15], guard := none, hints := [] },
  { dst := some 7, op := POp.mv (Operand.tmp 16), guard := none, hints := [] }]
def pc71_c4 : PCode := .region none false pc71_o4
def pc71_o5 : List POper := [{ dst := some 17, op := POp.mv (Operand.tmp 5), guard := none, hints := [] },
  { dst := some 18, op := POp.nilc (Operand.tmp 17), guard := none, hints := [] },
  { dst := some 19, op := POp.faddr 2 (Operand.tmp 18), guard := none, hints := [] },
  { dst := some 20, op := POp.load false 1 (Operand.tmp 19), guard := none, hints := [] },
  { dst := some 21, op := POp.prim (Prim.bin BinOp.eql 37 false true) [Operand.tmp 20, Operand.const (Value.int IntKind.i64 0)], guard := none, hints := [] },
  { dst := some 22, op := POp.mv (Operand.tmp 21), guard := none, hints := [] },
  { dst := some 23, op := POp.faddr 0 (Operand.tmp 6), guard := some (22, true), hints := [] },
  { dst := some 24, op := POp.load false 1 (Operand.tmp 23), guard := some (22, true), hints := [] },
  { dst := some 25, op := POp.prim (Prim.bin BinOp.gtr 3 false true) [Operand.tmp 24, Operand.const (Value.int IntKind.i64 1000000)], guard := some (22, true), hints := [] },
  { dst := some 26, op := POp.mv (Operand.tmp 25), guard := some (22, true), hints := [] },
  { dst := some 27, op := POp.mv (Operand.tmp 7), guard := some (26, false), hints := [] },
  { dst := some 28, op := POp.prim (Prim.bin BinOp.eql 3 false true) [Operand.tmp 27, Operand.const (Value.int IntKind.i64 0)], guard := some (26, false), hints := [] },
  { dst := some 29, op := POp.pick (Operand.tmp 26) (Operand.const (Value.bool true)) (Operand.tmp 28), guard := some (22, true), hints := [] },
  { dst := some 30, op := POp.mv (Operand.tmp 29), guard := some (22, true), hints := [] },
  { dst := some 31, op := POp.mv (Operand.tmp 7), guard := some (30, false), hints := [] },
  { dst := some 32, op := POp.prim (Prim.bin BinOp.gtr 3 false true) [Operand.tmp 31, Operand.const (Value.int IntKind.i64 31)], guard := some (30, false), hints := [] },
  { dst := some 33, op := POp.pick (Operand.tmp 30) (Operand.const (Value.bool true)) (Operand.tmp 32), guard := some (22, true), hints := [] },
  { dst := some 34, op := POp.pick (Operand.tmp 22) (Operand.tmp 33) (Operand.const (Value.bool false)), guard := none, hints := [] }]
def pc71_c5 : PCode := .region none false pc71_o5
def pc71_o6 : List POper := [{ dst := some 35, op := POp.build (Value.agg { toList := [Value.int IntKind.i64 0, Value.int IntKind.u8 0, Value.int IntKind.i64 0, Value.int IntKind.i64 0, Value.int IntKind.i64 0, Value.string { data := { toList := [] } }, Value.int IntKind.i64 0, Value.string { data := { toList := [] } }, Value.int IntKind.i64 0, Value.string { data := { toList := [] } }, Value.int IntKind.i64 0, Value.string { data := { toList := [] } }] }) [], guard := none, hints := [] },
  { dst := none, op := POp.store 12 (Operand.tmp 2) (Operand.tmp 35), guard := none, hints := [] },
  { dst := some 3, op := POp.mv (Operand.const (Value.int IntKind.i64 0)), guard := none, hints := [] },
  { dst := some 4, op := POp.mv (Operand.const (Value.int IntKind.i64 11)), guard := none, hints := [] }]
def pc71_c6 : PCode := .region none false pc71_o6
def pc71_c7 : PCode := .ret
def pc71_c8 : PCode := .seq pc71_c6 pc71_c7
def pc71_c9 : PCode := .skip
def pc71_c10 : PCode := .cond (Operand.tmp 34) pc71_c8 pc71_c9
def pc71_c11 : PCode := .seq pc71_c5 pc71_c10
def pc71_o12 : List POper := [{ dst := some 36, op := POp.mv (Operand.tmp 7), guard := none, hints := [] },
  { dst := some 37, op := POp.prim (Prim.conv 3 5) [Operand.tmp 36], guard := none, hints := [] },
  { dst := some 38, op := POp.faddr 1 (Operand.tmp 6), guard := none, hints := [] },
  { dst := none, op := POp.store 1 (Operand.tmp 38) (Operand.tmp 37), guard := none, hints := [] }]
def pc71_c12 : PCode := .region (some ([2, 5, 6, 7], [2, 6, 11], [])) false pc71_o12
def pc71_o13 : List POper := [{ dst := some 39, op := POp.faddr 1 (Operand.tmp 6), guard := none, hints := [] },
  { dst := some 40, op := POp.load false 1 (Operand.tmp 39), guard := none, hints := [] },
  { dst := some 41, op := POp.prim (Prim.bin BinOp.and 5 false true) [Operand.tmp 40, Operand.const (Value.int IntKind.u8 1)], guard := none, hints := [] },
  { dst := some 42, op := POp.prim (Prim.bin BinOp.neq 5 false true) [Operand.tmp 41, Operand.const (Value.int IntKind.u8 0)], guard := none, hints := [] }]
def pc71_c13 : PCode := .region none false pc71_o13
def pc71_o14 : List POper := [{ dst := some 43, op := POp.mv (Operand.tmp 5), guard := none, hints := [] },
  { dst := some 44, op := POp.call true [[]] 104 [Operand.tmp 43], guard := none, hints := [] },
  { dst := some 45, op := POp.faddr 2 (Operand.tmp 6), guard := none, hints := [] },
  { dst := some 46, op := POp.faddr 0 (Operand.tmp 45), guard := none, hints := [] },
  { dst := none, op := POp.store 1 (Operand.tmp 46) (Operand.tmp 44), guard := none, hints := [] }]
def pc71_c14 : PCode := .region none false pc71_o14
def pc71_o15 : List POper := [{ dst := some 47, op := POp.mv (Operand.tmp 5), guard := none, hints := [] },
  { dst := some 48, op := POp.call true [[]] 104 [Operand.tmp 47], guard := none, hints := [] },
  { dst := some 49, op := POp.faddr 2 (Operand.tmp 6), guard := none, hints := [] },
  { dst := some 50, op := POp.faddr 1 (Operand.tmp 49), guard := none, hints := [] },
  { dst := none, op := POp.store 1 (Operand.tmp 50) (Operand.tmp 48), guard := none, hints := [] }]
def pc71_c15 : PCode := .region none false pc71_o15
def pc71_c16 : PCode := .seq pc71_c14 pc71_c15
def pc71_c17 : PCode := .skip
def pc71_c18 : PCode := .cond (Operand.tmp 42) pc71_c16 pc71_c17
def pc71_c19 : PCode := .seq pc71_c13 pc71_c18
def pc71_c20 : PCode := .seq pc71_c12 pc71_c19
def pc71_c21 : PCode := .label
def pc71_o22 : List POper := [{ dst := some 51, op := POp.mv (Operand.const (Value.int IntKind.i64 0)), guard := none, hints := [] }]
def pc71_c22 : PCode := .region none false pc71_o22
def pc71_o23 : List POper := [{ dst := some 52, op := POp.prim (Prim.bin BinOp.lss 3 false true) [Operand.tmp 51, Operand.const (Value.int IntKind.i64 4)], guard := none, hints := [] }]
def pc71_c23 : PCode := .region (some ([2, 5, 6, 51], [2, 6, 11], [])) false pc71_o23
def pc71_c24 : PCode := .skip
def pc71_c25 : PCode := .exit 0
def pc71_c26 : PCode := .cond (Operand.tmp 52) pc71_c24 pc71_c25
def pc71_o27 : List POper := [{ dst := some 53, op := POp.mv (Operand.tmp 51), guard := none, hints := [] },
  { dst := some 8, op := POp.mv (Operand.tmp 53), guard := none, hints := [] }]
def pc71_c27 : PCode := .region none false pc71_o27
def pc71_o28 : List POper := [{ dst := some 55, op := POp.mv (Operand.tmp 5), guard := none, hints := [] },
  { dst := some 56, op := POp.nilc (Operand.tmp 55), guard := none, hints := [] },
  { dst := some 57, op := POp.faddr 2 (Operand.tmp 56), guard := none, hints := [] },
  { dst := some 58, op := POp.load false 1 (Operand.tmp 57), guard := none, hints := [] },
  { dst := some 59, op := POp.prim (Prim.bin BinOp.neq 37 false true) [Operand.tmp 58, Operand.const (Value.int IntKind.i64 0)], guard := none, hints := [] },
  { dst := some 54, op := POp.mv (Operand.tmp 59), guard := none, hints := [] }]
def pc71_c28 : PCode := .region none false pc71_o28
def pc71_c29 : PCode := .exit 0
def pc71_o30 : List POper := [{ dst := some 61, op := POp.faddr 1 (Operand.tmp 6), guard := none, hints := [] },
  { dst := some 62, op := POp.load false 1 (Operand.tmp 61), guard := none, hints := [] },
  { dst := some 63, op := POp.mv (Operand.tmp 8), guard := none, hints := [] },
  { dst := some 64, op := POp.call true [[], []] 99 [Operand.tmp 62, Operand.tmp 63], guard := none, hints := [] },
  { dst := some 60, op := POp.mv (Operand.tmp 64), guard := none, hints := [] }]
def pc71_c30 : PCode := .region none false pc71_o30
def pc71_o31 : List POper := [{ dst := some 65, op := POp.mv (Operand.tmp 8), guard := none, hints := [] },
  { dst := some 66, op := POp.mv (Operand.tmp 5), guard := none, hints := [] },
  { dst := some 67, op := POp.call true [[]] 105 [Operand.tmp 66], guard := none, hints := [] },
  { dst := some 68, op := POp.faddr 4 (Operand.tmp 6), guard := none, hints := [] },
  { dst := some 69, op := POp.iaddrA 4 2 (Operand.tmp 68) (Operand.tmp 65), guard := none, hints := [] },
  { dst := none, op := POp.store 2 (Operand.tmp 69) (Operand.tmp 67), guard := none, hints := [] }]
def pc71_c31 : PCode := .region none false pc71_o31
def pc71_c32 : PCode := .skip
def pc71_c33 : PCode := .cond (Operand.tmp 60) pc71_c31 pc71_c32
def pc71_c34 : PCode := .seq pc71_c30 pc71_c33
def pc71_c35 : PCode := .cond (Operand.tmp 54) pc71_c29 pc71_c34
def pc71_c36 : PCode := .seq pc71_c28 pc71_c35
def pc71_c37 : PCode := .block 2 pc71_c36
def pc71_c38 : PCode := .seq pc71_c27 pc71_c37
def pc71_c39 : PCode := .block 1 pc71_c38
def pc71_o40 : List POper := [{ dst := some 70, op := POp.prim (Prim.bin BinOp.add 3 false true) [Operand.tmp 51, Operand.const (Value.int IntKind.i64 1)], guard := none, hints := [] },
  { dst := some 51, op := POp.mv (Operand.tmp 70), guard := none, hints := [] }]
def pc71_c40 : PCode := .region none false pc71_o40
def pc71_c41 : PCode := .seq pc71_c39 pc71_c40
def pc71_c42 : PCode := .seq pc71_c26 pc71_c41
def pc71_c43 : PCode := .seq pc71_c23 pc71_c42
def pc71_c44 : PCode := .loop pc71_c43
def pc71_c45 : PCode := .block 0 pc71_c44
def pc71_c46 : PCode := .seq pc71_c22 pc71_c45
def pc71_o47 : List POper := [{ dst := some 71, op := POp.mv (Operand.tmp 5), guard := none, hints := [] },
  { dst := some 72, op := POp.nilc (Operand.tmp 71), guard := none, hints := [] },
  { dst := some 73, op := POp.faddr 2 (Operand.tmp 72), guard := none, hints := [] },
  { dst := some 74, op := POp.load false 1 (Operand.tmp 73), guard := none, hints := [] },
  { dst := some 75, op := POp.prim (Prim.bin BinOp.neq 37 false true) [Operand.tmp 74, Operand.const (Value.int IntKind.i64 0)], guard := none, hints := [] }]
def pc71_c47 : PCode := .region (some ([2, 5, 6], [2, 6, 11], [])) false pc71_o47
def pc71_o48 : List POper := [{ dst := some 76, op := POp.build (Value.agg { toList := [Value.int IntKind.i64 0, Value.int IntKind.u8 0, Value.int IntKind.i64 0, Value.int IntKind.i64 0, Value.int IntKind.i64 0, Value.string { data := { toList := [] } }, Value.int IntKind.i64 0, Value.string { data := { toList := [] } }, Value.int IntKind.i64 0, Value.string { data := { toList := [] } }, Value.int IntKind.i64 0, Value.string { data := { toList := [] } }] }) [], guard := none, hints := [] },
  { dst := some 77, op := POp.mv (Operand.tmp 5), guard := none, hints := [(5, Hint.at_ 11 0)] },
  { dst := some 78, op := POp.nilc (Operand.tmp 77), guard := none, hints := [(77, Hint.at_ 11 0)] },
  { dst := some 79, op := POp.faddr 2 (Operand.tmp 78), guard := none, hints := [(78, Hint.at_ 11 0)] },
  { dst := some 80, op := POp.load false 1 (Operand.tmp 79), guard := none, hints := [(79, Hint.at_ 11 2)] },
  { dst := none, op := POp.store 12 (Operand.tmp 2) (Operand.tmp 76), guard := none, hints := [(2, Hint.at_ 2 0), (76, Hint.imm)] },
  { dst := some 3, op := POp.mv (Operand.const (Value.int IntKind.i64 0)), guard := none, hints := [] },
  { dst := some 4, op := POp.mv (Operand.tmp 80), guard := none, hints := [(80, Hint.imm)] }]
def pc71_c48 : PCode := .region none true pc71_o48
def pc71_c49 : PCode := .ret
def pc71_c50 : PCode := .seq pc71_c48 pc71_c49
def pc71_c51 : PCode := .skip
def pc71_c52 : PCode := .cond (Operand.tmp 75) pc71_c50 pc71_c51
def pc71_c53 : PCode := .seq pc71_c47 pc71_c52
def pc71_o54 : List POper := [{ dst := some 81, op := POp.load true 12 (Operand.tmp 6), guard := none, hints := [] },
  { dst := some 82, op := POp.call true [[]] 77 [Operand.tmp 81], guard := none, hints := [] },
  { dst := some 83, op := POp.prim (Prim.un UnOp.not) [Operand.tmp 82], guard := none, hints := [] }]
def pc71_c54 : PCode := .region none false pc71_o54
def pc71_o55 : List POper := [{ dst := some 84, op := POp.build (Value.agg { toList := [Value.int IntKind.i64 0, Value.int IntKind.u8 0, Value.int IntKind.i64 0, Value.int IntKind.i64 0, Value.int IntKind.i64 0, Value.string { data := { toList := [] } }, Value.int IntKind.i64 0, Value.string { data := { toList := [] } }, Value.int IntKind.i64 0, Value.string { data := { toList := [] } }, Value.int IntKind.i64 0, Value.string { data := { toList := [] } }] }) [], guard := none, hints := [] },
  { dst := none, op := POp.store 12 (Operand.tmp 2) (Operand.tmp 84), guard := none, hints := [] },
  { dst := some 3, op := POp.mv (Operand.const (Value.int IntKind.i64 0)), guard := none, hints := [] },
  { dst := some 4, op := POp.mv (Operand.const (Value.int IntKind.i64 11)), guard := none, hints := [] }]
def pc71_c55 : PCode := .region none false pc71_o55
def pc71_c56 : PCode := .ret
def pc71_c57 : PCode := .seq pc71_c55 pc71_c56
def pc71_c58 : PCode := .skip
def pc71_c59 : PCode := .cond (Operand.tmp 83) pc71_c57 pc71_c58
def pc71_c60 : PCode := .seq pc71_c54 pc71_c59
def pc71_o61 : List POper := [{ dst := some 85, op := POp.load true 12 (Operand.tmp 6), guard := none, hints := [(6, Hint.at_ 6 0)] },
  { dst := some 86, op := POp.mv (Operand.tmp 5), guard := none, hints := [(5, Hint.at_ 11 0)] },
  { dst := some 87, op := POp.nilc (Operand.tmp 86), guard := none, hints := [(86, Hint.at_ 11 0)] },
  { dst := some 88, op := POp.faddr 1 (Operand.tmp 87), guard := none, hints := [(87, Hint.at_ 11 0)] },
  { dst := some 89, op := POp.load false 1 (Operand.tmp 88), guard := none, hints := [(88, Hint.at_ 11 1)] },
  { dst := none, op := POp.store 12 (Operand.tmp 2) (Operand.tmp 85), guard := none, hints := [(2, Hint.at_ 2 0), (85, Hint.imm)] },
  { dst := some 3, op := POp.mv (Operand.tmp 89), guard := none, hints := [(89, Hint.imm)] },
  { dst := some 4, op := POp.mv (Operand.const (Value.int IntKind.i64 0)), guard := none, hints := [] }]
def pc71_c61 : PCode := .region none true pc71_o61
def pc71_c62 : PCode := .ret
def pc71_c63 : PCode := .seq pc71_c61 pc71_c62
def pc71_c64 : PCode := .seq pc71_c60 pc71_c63
def pc71_c65 : PCode := .seq pc71_c53 pc71_c64
def pc71_c66 : PCode := .seq pc71_c46 pc71_c65
def pc71_c67 : PCode := .seq pc71_c21 pc71_c66
def pc71_c68 : PCode := .seq pc71_c20 pc71_c67
def pc71_c69 : PCode := .seq pc71_c11 pc71_c68
def pc71_c70 : PCode := .seq pc71_c4 pc71_c69
def pc71_c71 : PCode := .seq pc71_c3 pc71_c70
def pc71_c72 : PCode := .seq pc71_c2 pc71_c71
def pc71_c73 : PCode := .scope pc71_c72
def pc71_c74 : PCode := .seq pc71_c1 pc71_c73
def pc71_r : List PRes := [PRes.cell 2 true 12 [], PRes.tmp 3 [], PRes.tmp 4 []]
def pc71 : PFunc := ⟨90, pc71_r, pc71_c74, false⟩
def pc71_a : Ann := {
  kr := fun
    | 6 => some ([2, 5, 6, 7], [2, 6, 11], [])
    | 11 => some ([2, 5, 6, 51], [2, 6, 11], [])
    | 17 => some ([2, 5, 6], [2, 6, 11], [])
    | _ => none
  ka := fun
    | _ => 0
  kh := fun
    | 2 => some (Hint.at_ 2 0)
    | 5 => some (Hint.at_ 11 0)
    | 6 => some (Hint.at_ 6 0)
    | 76 => some (Hint.imm)
    | 77 => some (Hint.at_ 11 0)
    | 78 => some (Hint.at_ 11 0)
    | 79 => some (Hint.at_ 11 2)
    | 80 => some (Hint.imm)
    | 85 => some (Hint.imm)
    | 86 => some (Hint.at_ 11 0)
    | 87 => some (Hint.at_ 11 0)
    | 88 => some (Hint.at_ 11 1)
    | 89 => some (Hint.imm)
    | _ => none
  ow := fun t => match t with
    | 96 => [(1, 5, 1)]
    | _ => []
  tc := fun t => match t with
    | 96 => true
    | _ => false }
theorem pc71_ok : compFn Try.prog pc71_a Try.f71 = some pc71 := by kernel_rfl


-- 30: vedette/thing.Read
def pc30_o1 : List POper := [{ dst := some 2, op := POp.alloc 28 (Value.agg { toList := [Value.int IntKind.i64 0, Value.int IntKind.i64 0, Value.int IntKind.i64 0, Value.int IntKind.i64 0, Value.string { data := { toList := [] } }, Value.int IntKind.i64 0, Value.string { data := { toList := [] } }, Value.int IntKind.i64 0, Value.string { data := { toList := [] } }, Value.int IntKind.i64 0, Value.string { data := { toList := [] } }] }) [], guard := none, hints := [] },
  { dst := some 3, op := POp.mv (Operand.const (Value.int IntKind.i64 0)), guard := none, hints := [] },
  { dst := some 4, op := POp.mv (Operand.const (Value.int IntKind.i64 0)), guard := none, hints := [] }]
def pc30_c1 : PCode := .region none false pc30_o1
def pc30_o2 : List POper := [{ dst := some 9, op := POp.mv (Operand.tmp 0), guard := none, hints := [] },
  { dst := some 10, op := POp.call true [[]] 71 [Operand.tmp 9], guard := none, hints := [] },
  { dst := some 8, op := POp.mv (Operand.tmp 10), guard := none, hints := [] },
  { dst := some 11, op := POp.ext (Operand.tmp 8) 0, guard := none, hints := [] },
  { dst := some 12, op := POp.ext (Operand.tmp 8) 1, guard := none, hints := [] },
  { dst := some 13, op := POp.ext (Operand.tmp 8) 2, guard := none, hints := [] },
  { dst := some 5, op := POp.alloc 35 (Value.agg { toList := [Value.int IntKind.i64 0, Value.int IntKind.u8 0, Value.int IntKind.i64 0, Value.int IntKind.i64 0, Value.int IntKind.i64 0, Value.string { data := { toList := [] } }, Value.int IntKind.i64 0, Value.string { data := { toList := [] } }, Value.int IntKind.i64 0, Value.string { data := { toList := [] } }, Value.int IntKind.i64 0, Value.string { data := { toList := [] } }] }) [], guard := none, hints := [] },
  { dst := none, op := POp.store 12 (Operand.tmp 5) (Operand.tmp 11), guard := none, hints := [] },
  { dst := some 6, op := POp.mv (Operand.tmp 12), guard := none, hints := [] },
  { dst := some 7, op := POp.mv (Operand.tmp 13), guard := none, hints := [] }]
def pc30_c2 : PCode := .region none false pc30_o2
def pc30_o3 : List POper := [{ dst := some 15, op := POp.mv (Operand.tmp 7), guard := none, hints := [] },
  { dst := some 16, op := POp.prim (Prim.bin BinOp.neq 37 false true) [Operand.tmp 15, Operand.const (Value.int IntKind.i64 0)], guard := none, hints := [] },
  { dst := some 14, op := POp.mv (Operand.tmp 16), guard := none, hints := [] }]
def pc30_c3 : PCode := .region none false pc30_o3
def pc30_o4 : List POper := [{ dst := some 17, op := POp.build (Value.agg { toList := [Value.int IntKind.i64 0, Value.int IntKind.i64 0, Value.int IntKind.i64 0, Value.int IntKind.i64 0, Value.string { data := { toList := [] } }, Value.int IntKind.i64 0, Value.string { data := { toList := [] } }, Value.int IntKind.i64 0, Value.string { data := { toList := [] } }, Value.int IntKind.i64 0, Value.string { data := { toList := [] } }] }) [], guard := none, hints := [] },
  { dst := some 18, op := POp.mv (Operand.tmp 7), guard := none, hints := [] },
  { dst := none, op := POp.store 11 (Operand.tmp 2) (Operand.tmp 17), guard := none, hints := [] },
  { dst := some 3, op := POp.mv (Operand.const (Value.int IntKind.i64 0)), guard := none, hints := [] },
  { dst := some 4, op := POp.mv (Operand.tmp 18), guard := none, hints := [] }]
def pc30_c4 : PCode := .region none false pc30_o4
def pc30_c5 : PCode := .ret
def pc30_c6 : PCode := .seq pc30_c4 pc30_c5
def pc30_o7 : List POper := [{ dst := some 20, op := POp.faddr 1 (Operand.tmp 5), guard := none, hints := [] },
  { dst := some 21, op := POp.load false 1 (Operand.tmp 20), guard := none, hints := [] },
  { dst := some 22, op := POp.prim (Prim.bin BinOp.neq 5 false true) [Operand.tmp 21, Operand.const (Value.int IntKind.u8 31)], guard := none, hints := [] },
  { dst := some 19, op := POp.mv (Operand.tmp 22), guard := none, hints := [] }]
def pc30_c7 : PCode := .region none false pc30_o7
def pc30_o8 : List POper := [{ dst := some 23, op := POp.build (Value.agg { toList := [Value.int IntKind.i64 0, Value.int IntKind.i64 0, Value.int IntKind.i64 0, Value.int IntKind.i64 0, Value.string { data := { toList := [] } }, Value.int IntKind.i64 0, Value.string { data := { toList := [] } }, Value.int IntKind.i64 0, Value.string { data := { toList := [] } }, Value.int IntKind.i64 0, Value.string { data := { toList := [] } }] }) [], guard := none, hints := [] },
  { dst := none, op := POp.store 11 (Operand.tmp 2) (Operand.tmp 23), guard := none, hints := [] },
  { dst := some 3, op := POp.mv (Operand.const (Value.int IntKind.i64 0)), guard := none, hints := [] },
  { dst := some 4, op := POp.mv (Operand.const (Value.int IntKind.i64 11)), guard := none, hints := [] }]
def pc30_c8 : PCode := .region none false pc30_o8
def pc30_c9 : PCode := .ret
def pc30_c10 : PCode := .seq pc30_c8 pc30_c9
def pc30_c11 : PCode := .skip
def pc30_c12 : PCode := .cond (Operand.tmp 19) pc30_c10 pc30_c11
def pc30_c13 : PCode := .seq pc30_c7 pc30_c12
def pc30_c14 : PCode := .cond (Operand.tmp 14) pc30_c6 pc30_c13
def pc30_c15 : PCode := .seq pc30_c3 pc30_c14
def pc30_c16 : PCode := .block 0 pc30_c15
def pc30_o17 : List POper := [{ dst := some 24, op := POp.faddr 0 (Operand.tmp 5), guard := none, hints := [] },
  { dst := some 25, op := POp.load false 1 (Operand.tmp 24), guard := none, hints := [] },
  { dst := some 26, op := POp.faddr 2 (Operand.tmp 5), guard := none, hints := [] },
  { dst := some 27, op := POp.load true 2 (Operand.tmp 26), guard := none, hints := [] },
  { dst := some 28, op := POp.faddr 4 (Operand.tmp 5), guard := none, hints := [] },
  { dst := some 29, op := POp.load true 8 (Operand.tmp 28), guard := none, hints := [] },
  { dst := some 30, op := POp.build (Value.agg { toList := [Value.int IntKind.i64 0, Value.int IntKind.i64 0, Value.int IntKind.i64 0, Value.int IntKind.i64 0, Value.string { data := { toList := [] } }, Value.int IntKind.i64 0, Value.string { data := { toList := [] } }, Value.int IntKind.i64 0, Value.string { data := { toList := [] } }, Value.int IntKind.i64 0, Value.string { data := { toList := [] } }] }) [(0, 1, Operand.tmp 25), (1, 2, Operand.tmp 27), (3, 8, Operand.tmp 29)], guard := none, hints := [] },
  { dst := some 31, op := POp.mv (Operand.tmp 6), guard := none, hints := [] },
  { dst := none, op := POp.store 11 (Operand.tmp 2) (Operand.tmp 30), guard := none, hints := [] },
  { dst := some 3, op := POp.mv (Operand.tmp 31), guard := none, hints := [] },
  { dst := some 4, op := POp.mv (Operand.const (Value.int IntKind.i64 0)), guard := none, hints := [] }]
def pc30_c17 : PCode := .region none false pc30_o17
def pc30_c18 : PCode := .ret
def pc30_c19 : PCode := .seq pc30_c17 pc30_c18
def pc30_c20 : PCode := .seq pc30_c16 pc30_c19
def pc30_c21 : PCode := .seq pc30_c2 pc30_c20
def pc30_c22 : PCode := .seq pc30_c1 pc30_c21
def pc30_r : List PRes := [PRes.cell 2 true 11 [], PRes.tmp 3 [], PRes.tmp 4 []]
def pc30 : PFunc := ⟨32, pc30_r, pc30_c22, false⟩
def pc30_a : Ann := {
  kr := fun
    | _ => none
  ka := fun
    | _ => 0
  kh := fun
    | _ => none
  ow := fun t => match t with
    | 96 => [(1, 5, 1)]
    | _ => []
  tc := fun t => match t with
    | 96 => true
    | _ => false }
theorem pc30_ok : compFn Try.prog pc30_a Try.f30 = some pc30 := by kernel_rfl


-- 32: vedette/thing.Some
def pc32_o1 : List POper := [{ dst := some 2, op := POp.mv (Operand.const (Value.slice none 0 0)), guard := none, hints := [] },
  { dst := some 3, op := POp.mv (Operand.const (Value.int IntKind.i64 0)), guard := none, hints := [] },
  { dst := some 4, op := POp.mv (Operand.const (Value.int IntKind.i64 0)), guard := none, hints := [] }]
def pc32_c1 : PCode := .region none false pc32_o1
def pc32_o2 : List POper := [{ dst := some 13, op := POp.mv (Operand.tmp 0), guard := none, hints := [] },
  { dst := some 14, op := POp.call true [[]] 73 [Operand.tmp 13], guard := none, hints := [] },
  { dst := some 12, op := POp.mv (Operand.tmp 14), guard := none, hints := [] },
  { dst := some 15, op := POp.ext (Operand.tmp 12) 0, guard := none, hints := [] },
  { dst := some 16, op := POp.ext (Operand.tmp 12) 1, guard := none, hints := [] },
  { dst := some 17, op := POp.ext (Operand.tmp 12) 2, guard := none, hints := [] },
  { dst := some 5, op := POp.mv (Operand.tmp 15), guard := none, hints := [] },
  { dst := some 6, op := POp.mv (Operand.tmp 16), guard := none, hints := [] },
  { dst := some 7, op := POp.mv (Operand.tmp 17), guard := none, hints := [] }]
def pc32_c2 : PCode := .region none false pc32_o2
def pc32_o3 : List POper := [{ dst := some 19, op := POp.mv (Operand.tmp 7), guard := none, hints := [] },
  { dst := some 20, op := POp.prim (Prim.bin BinOp.neq 37 false true) [Operand.tmp 19, Operand.const (Value.int IntKind.i64 0)], guard := none, hints := [] },
  { dst := some 18, op := POp.mv (Operand.tmp 20), guard := none, hints := [] }]
def pc32_c3 : PCode := .region none false pc32_o3
def pc32_o4 : List POper := [{ dst := some 21, op := POp.mv (Operand.tmp 7), guard := none, hints := [] },
  { dst := some 2, op := POp.mv (Operand.const (Value.slice none 0 0)), guard := none, hints := [] },
  { dst := some 3, op := POp.mv (Operand.const (Value.int IntKind.i64 0)), guard := none, hints := [] },
  { dst := some 4, op := POp.mv (Operand.tmp 21), guard := none, hints := [] }]
def pc32_c4 : PCode := .region none false pc32_o4
def pc32_c5 : PCode := .ret
def pc32_c6 : PCode := .seq pc32_c4 pc32_c5
def pc32_o7 : List POper := [{ dst := some 23, op := POp.mv (Operand.tmp 5), guard := none, hints := [] },
  { dst := some 24, op := POp.prim (Prim.bin BinOp.gtr 89 false true) [Operand.tmp 23, Operand.const (Value.int IntKind.u64 200)], guard := none, hints := [] },
  { dst := some 22, op := POp.mv (Operand.tmp 24), guard := none, hints := [] }]
def pc32_c7 : PCode := .region none false pc32_o7
def pc32_o8 : List POper := [{ dst := some 2, op := POp.mv (Operand.const (Value.slice none 0 0)), guard := none, hints := [] },
  { dst := some 3, op := POp.mv (Operand.const (Value.int IntKind.i64 0)), guard := none, hints := [] },
  { dst := some 4, op := POp.mv (Operand.const (Value.int IntKind.i64 13)), guard := none, hints := [] }]
def pc32_c8 : PCode := .region none false pc32_o8
def pc32_c9 : PCode := .ret
def pc32_c10 : PCode := .seq pc32_c8 pc32_c9
def pc32_c11 : PCode := .skip
def pc32_c12 : PCode := .cond (Operand.tmp 22) pc32_c10 pc32_c11
def pc32_c13 : PCode := .seq pc32_c7 pc32_c12
def pc32_c14 : PCode := .cond (Operand.tmp 18) pc32_c6 pc32_c13
def pc32_c15 : PCode := .seq pc32_c3 pc32_c14
def pc32_c16 : PCode := .block 0 pc32_c15
def pc32_o17 : List POper := [{ dst := some 8, op := POp.mv (Operand.const (Value.slice none 0 0)), guard := none, hints := [] }]
def pc32_c17 : PCode := .region none false pc32_o17
def pc32_o18 : List POper := [{ dst := some 25, op := POp.mv (Operand.tmp 5), guard := none, hints := [] },
  { dst := some 26, op := POp.mv (Operand.const (Value.int IntKind.u64 0)), guard := none, hints := [] }]
def pc32_c18 : PCode := .region none false pc32_o18
def pc32_o19 : List POper := [{ dst := some 27, op := POp.prim (Prim.bin BinOp.lss 89 false false) [Operand.tmp 26, Operand.tmp 25], guard := none, hints := [] }]
def pc32_c19 : PCode := .region (some ([0, 6, 8, 25, 26], [9, 100008], [(false, 8, 0, 100008, 28, 11)])) false pc32_o19
def pc32_c20 : PCode := .skip
def pc32_c21 : PCode := .exit 1
def pc32_c22 : PCode := .cond (Operand.tmp 27) pc32_c20 pc32_c21
def pc32_o23 : List POper := [{ dst := some 29, op := POp.mv (Operand.tmp 0), guard := none, hints := [] },
  { dst := some 30, op := POp.mv (Operand.tmp 6), guard := none, hints := [] },
  { dst := some 31, op := POp.prim (Prim.slice 9 true false) [Operand.tmp 29, Operand.tmp 30], guard := none, hints := [] },
  { dst := some 32, op := POp.call true [[]] 30 [Operand.tmp 31], guard := none, hints := [] },
  { dst := some 28, op := POp.mv (Operand.tmp 32), guard := none, hints := [] },
  { dst := some 33, op := POp.ext (Operand.tmp 28) 0, guard := none, hints := [] },
  { dst := some 34, op := POp.ext (Operand.tmp 28) 1, guard := none, hints := [] },
  { dst := some 35, op := POp.ext (Operand.tmp 28) 2, guard := none, hints := [] },
  { dst := some 9, op := POp.alloc 28 (Value.agg { toList := [Value.int IntKind.i64 0, Value.int IntKind.i64 0, Value.int IntKind.i64 0, Value.int IntKind.i64 0, Value.string { data := { toList := [] } }, Value.int IntKind.i64 0, Value.string { data := { toList := [] } }, Value.int IntKind.i64 0, Value.string { data := { toList := [] } }, Value.int IntKind.i64 0, Value.string { data := { toList := [] } }] }) [], guard := none, hints := [] },
  { dst := none, op := POp.store 11 (Operand.tmp 9) (Operand.tmp 33), guard := none, hints := [] },
  { dst := some 10, op := POp.mv (Operand.tmp 34), guard := none, hints := [] },
  { dst := some 11, op := POp.mv (Operand.tmp 35), guard := none, hints := [] }]
def pc32_c23 : PCode := .region none false pc32_o23
def pc32_o24 : List POper := [{ dst := some 36, op := POp.mv (Operand.tmp 11), guard := none, hints := [] },
  { dst := some 37, op := POp.prim (Prim.bin BinOp.neq 37 false true) [Operand.tmp 36, Operand.const (Value.int IntKind.i64 0)], guard := none, hints := [] }]
def pc32_c24 : PCode := .region none false pc32_o24
def pc32_o25 : List POper := [{ dst := some 38, op := POp.mv (Operand.tmp 11), guard := none, hints := [] },
  { dst := some 2, op := POp.mv (Operand.const (Value.slice none 0 0)), guard := none, hints := [] },
  { dst := some 3, op := POp.mv (Operand.const (Value.int IntKind.i64 0)), guard := none, hints := [] },
  { dst := some 4, op := POp.mv (Operand.tmp 38), guard := none, hints := [] }]
def pc32_c25 : PCode := .region none false pc32_o25
def pc32_c26 : PCode := .ret
def pc32_c27 : PCode := .seq pc32_c25 pc32_c26
def pc32_c28 : PCode := .skip
def pc32_c29 : PCode := .cond (Operand.tmp 37) pc32_c27 pc32_c28
def pc32_c30 : PCode := .seq pc32_c24 pc32_c29
def pc32_o31 : List POper := [{ dst := some 39, op := POp.mv (Operand.tmp 8), guard := none, hints := [(8, Hint.obj 100008)] },
  { dst := some 40, op := POp.lenS (Operand.tmp 39), guard := none, hints := [(39, Hint.obj 100008)] },
  { dst := some 41, op := POp.prim (Prim.bin BinOp.gtr 3 false true) [Operand.tmp 40, Operand.const (Value.int IntKind.i64 0)], guard := none, hints := [(40, Hint.imm)] },
  { dst := some 42, op := POp.mv (Operand.tmp 41), guard := none, hints := [(41, Hint.imm)] },
  { dst := some 43, op := POp.faddr 0 (Operand.tmp 9), guard := some (42, true), hints := [(9, Hint.at_ 9 0)] },
  { dst := some 44, op := POp.load false 1 (Operand.tmp 43), guard := some (42, true), hints := [(43, Hint.at_ 9 0)] },
  { dst := some 45, op := POp.mv (Operand.tmp 8), guard := some (42, true), hints := [(8, Hint.obj 100008)] },
  { dst := some 46, op := POp.mv (Operand.tmp 8), guard := some (42, true), hints := [(8, Hint.obj 100008)] },
  { dst := some 47, op := POp.lenS (Operand.tmp 46), guard := some (42, true), hints := [(46, Hint.obj 100008)] },
  { dst := some 48, op := POp.prim (Prim.bin BinOp.sub 3 false true) [Operand.tmp 47, Operand.const (Value.int IntKind.i64 1)], guard := some (42, true), hints := [(47, Hint.imm)] },
  { dst := some 49, op := POp.iaddrS 11 (Operand.tmp 45) (Operand.tmp 48), guard := some (42, true), hints := [(45, Hint.obj 100008), (48, Hint.imm)] },
  { dst := some 50, op := POp.faddr 0 (Operand.tmp 49), guard := some (42, true), hints := [(49, Hint.obj 100008)] },
  { dst := some 51, op := POp.load false 1 (Operand.tmp 50), guard := some (42, true), hints := [(50, Hint.obj 100008)] },
  { dst := some 52, op := POp.prim (Prim.bin BinOp.leq 3 false false) [Operand.tmp 44, Operand.tmp 51], guard := some (42, true), hints := [(44, Hint.imm), (51, Hint.imm)] },
  { dst := some 53, op := POp.pick (Operand.tmp 42) (Operand.tmp 52) (Operand.const (Value.bool false)), guard := none, hints := [(42, Hint.imm), (52, Hint.imm)] }]
def pc32_c31 : PCode := .region none true pc32_o31
def pc32_o32 : List POper := [{ dst := some 2, op := POp.mv (Operand.const (Value.slice none 0 0)), guard := none, hints := [] },
  { dst := some 3, op := POp.mv (Operand.const (Value.int IntKind.i64 0)), guard := none, hints := [] },
  { dst := some 4, op := POp.mv (Operand.const (Value.int IntKind.i64 11)), guard := none, hints := [] }]
def pc32_c32 : PCode := .region none false pc32_o32
def pc32_c33 : PCode := .ret
def pc32_c34 : PCode := .seq pc32_c32 pc32_c33
def pc32_c35 : PCode := .skip
def pc32_c36 : PCode := .cond (Operand.tmp 53) pc32_c34 pc32_c35
def pc32_c37 : PCode := .seq pc32_c31 pc32_c36
def pc32_o38 : List POper := [{ dst := some 54, op := POp.mv (Operand.tmp 8), guard := none, hints := [] },
  { dst := some 55, op := POp.load true 11 (Operand.tmp 9), guard := none, hints := [] },
  { dst := some 56, op := POp.bslice 28 11 [Operand.tmp 55], guard := none, hints := [] },
  { dst := some 57, op := POp.app 100008 28 11 120 (Operand.tmp 54) (Operand.tmp 56), guard := none, hints := [] },
  { dst := some 8, op := POp.mv (Operand.tmp 57), guard := none, hints := [] }]
def pc32_c38 : PCode := .region (some ([0, 6, 8, 9, 10, 25, 26], [9, 100008], [])) false pc32_o38
def pc32_o39 : List POper := [{ dst := some 58, op := POp.mv (Operand.tmp 6), guard := none, hints := [] },
  { dst := some 59, op := POp.mv (Operand.tmp 10), guard := none, hints := [] },
  { dst := some 60, op := POp.prim (Prim.bin BinOp.add 3 false false) [Operand.tmp 58, Operand.tmp 59], guard := none, hints := [] },
  { dst := some 6, op := POp.mv (Operand.tmp 60), guard := none, hints := [] }]
def pc32_c39 : PCode := .region none false pc32_o39
def pc32_c40 : PCode := .seq pc32_c38 pc32_c39
def pc32_c41 : PCode := .seq pc32_c37 pc32_c40
def pc32_c42 : PCode := .seq pc32_c30 pc32_c41
def pc32_c43 : PCode := .seq pc32_c23 pc32_c42
def pc32_c44 : PCode := .block 2 pc32_c43
def pc32_o45 : List POper := [{ dst := some 61, op := POp.prim (Prim.bin BinOp.add 89 false true) [Operand.tmp 26, Operand.const (Value.int IntKind.u64 1)], guard := none, hints := [] },
  { dst := some 26, op := POp.mv (Operand.tmp 61), guard := none, hints := [] }]
def pc32_c45 : PCode := .region none false pc32_o45
def pc32_c46 : PCode := .seq pc32_c44 pc32_c45
def pc32_c47 : PCode := .seq pc32_c22 pc32_c46
def pc32_c48 : PCode := .seq pc32_c19 pc32_c47
def pc32_c49 : PCode := .loop pc32_c48
def pc32_c50 : PCode := .block 1 pc32_c49
def pc32_c51 : PCode := .seq pc32_c18 pc32_c50
def pc32_o52 : List POper := [{ dst := some 62, op := POp.mv (Operand.tmp 8), guard := none, hints := [] },
  { dst := some 63, op := POp.mv (Operand.tmp 6), guard := none, hints := [] },
  { dst := some 2, op := POp.mv (Operand.tmp 62), guard := none, hints := [] },
  { dst := some 3, op := POp.mv (Operand.tmp 63), guard := none, hints := [] },
  { dst := some 4, op := POp.mv (Operand.const (Value.int IntKind.i64 0)), guard := none, hints := [] }]
def pc32_c52 : PCode := .region none false pc32_o52
def pc32_c53 : PCode := .ret
def pc32_c54 : PCode := .seq pc32_c52 pc32_c53
def pc32_c55 : PCode := .seq pc32_c51 pc32_c54
def pc32_c56 : PCode := .seq pc32_c17 pc32_c55
def pc32_c57 : PCode := .seq pc32_c16 pc32_c56
def pc32_c58 : PCode := .seq pc32_c2 pc32_c57
def pc32_c59 : PCode := .seq pc32_c1 pc32_c58
def pc32_r : List PRes := [PRes.tmp 2 [(0, 11)], PRes.tmp 3 [], PRes.tmp 4 []]
def pc32 : PFunc := ⟨64, pc32_r, pc32_c59, false⟩
def pc32_a : Ann := {
  kr := fun
    | 8 => some ([0, 6, 8, 25, 26], [9, 100008], [(false, 8, 0, 100008, 28, 11)])
    | 14 => some ([0, 6, 8, 9, 10, 25, 26], [9, 100008], [])
    | _ => none
  ka := fun
    | 57 => 100008
    | _ => 0
  kh := fun
    | 8 => some (Hint.obj 100008)
    | 9 => some (Hint.at_ 9 0)
    | 39 => some (Hint.obj 100008)
    | 40 => some (Hint.imm)
    | 41 => some (Hint.imm)
    | 42 => some (Hint.imm)
    | 43 => some (Hint.at_ 9 0)
    | 44 => some (Hint.imm)
    | 45 => some (Hint.obj 100008)
    | 46 => some (Hint.obj 100008)
    | 47 => some (Hint.imm)
    | 48 => some (Hint.imm)
    | 49 => some (Hint.obj 100008)
    | 50 => some (Hint.obj 100008)
    | 51 => some (Hint.imm)
    | 52 => some (Hint.imm)
    | _ => none
  ow := fun t => match t with
    | 96 => [(1, 5, 1)]
    | _ => []
  tc := fun t => match t with
    | 96 => true
    | _ => false }
theorem pc32_ok : compFn Try.prog pc32_a Try.f32 = some pc32 := by kernel_rfl


-- 15: vedette/vedettelaw7.known
def pc15_o1 : List POper := [{ dst := some 0, op := POp.mv (Operand.const (Value.bool false)), guard := none, hints := [] }]
def pc15_c1 : PCode := .region none false pc15_o1
def pc15_o2 : List POper := [{ dst := some 14, op := POp.build (Value.agg { toList := [Value.int IntKind.i64 0, Value.int IntKind.i64 0] }) [(0, 1, Operand.const (Value.int IntKind.i64 3)), (1, 1, Operand.const (Value.int IntKind.i64 4))], guard := none, hints := [] },
  { dst := some 15, op := POp.build (Value.agg { toList := [Value.int IntKind.i64 0, Value.string { data := { toList := [] } }] }) [(0, 1, Operand.const (Value.int IntKind.i64 (-5)))], guard := none, hints := [] },
  { dst := some 16, op := POp.build (Value.agg { toList := [Value.int IntKind.i64 0, Value.string { data := { toList := [] } }] }) [(1, 1, Operand.const (Value.string { data := { toList := [97, 98] } }))], guard := none, hints := [] },
  { dst := some 17, op := POp.build (Value.agg { toList := [Value.int IntKind.i64 0, Value.string { data := { toList := [] } }, Value.int IntKind.i64 0, Value.string { data := { toList := [] } }, Value.int IntKind.i64 0, Value.string { data := { toList := [] } }, Value.int IntKind.i64 0, Value.string { data := { toList := [] } }] }) [(0, 2, Operand.tmp 15), (2, 2, Operand.tmp 16)], guard := none, hints := [] },
  { dst := some 18, op := POp.build (Value.agg { toList := [Value.int IntKind.i64 0, Value.int IntKind.i64 0, Value.int IntKind.i64 0, Value.int IntKind.i64 0, Value.string { data := { toList := [] } }, Value.int IntKind.i64 0, Value.string { data := { toList := [] } }, Value.int IntKind.i64 0, Value.string { data := { toList := [] } }, Value.int IntKind.i64 0, Value.string { data := { toList := [] } }] }) [(0, 1, Operand.const (Value.int IntKind.i64 9)), (1, 2, Operand.tmp 14), (3, 8, Operand.tmp 17)], guard := none, hints := [] },
  { dst := some 1, op := POp.alloc 28 (Value.agg { toList := [Value.int IntKind.i64 0, Value.int IntKind.i64 0, Value.int IntKind.i64 0, Value.int IntKind.i64 0, Value.string { data := { toList := [] } }, Value.int IntKind.i64 0, Value.string { data := { toList := [] } }, Value.int IntKind.i64 0, Value.string { data := { toList := [] } }, Value.int IntKind.i64 0, Value.string { data := { toList := [] } }] }) [], guard := none, hints := [] },
  { dst := none, op := POp.store 11 (Operand.tmp 1) (Operand.tmp 18), guard := none, hints := [] }]
def pc15_c2 : PCode := .region none false pc15_o2
def pc15_o3 : List POper := [{ dst := some 20, op := POp.load true 11 (Operand.tmp 1), guard := none, hints := [] },
  { dst := some 21, op := POp.call true [[]] 21 [Operand.tmp 20], guard := none, hints := [] },
  { dst := some 19, op := POp.mv (Operand.tmp 21), guard := none, hints := [] },
  { dst := some 22, op := POp.ext (Operand.tmp 19) 0, guard := none, hints := [] },
  { dst := some 23, op := POp.ext (Operand.tmp 19) 1, guard := none, hints := [] },
  { dst := some 2, op := POp.mv (Operand.tmp 22), guard := none, hints := [] },
  { dst := some 3, op := POp.mv (Operand.tmp 23), guard := none, hints := [] }]
def pc15_c3 : PCode := .region none false pc15_o3
def pc15_o4 : List POper := [{ dst := some 25, op := POp.mv (Operand.tmp 2), guard := none, hints := [] },
  { dst := some 26, op := POp.prim (Prim.bin BinOp.add 9 false true) [Operand.tmp 25, Operand.const (Value.string { data := { toList := [113] } })], guard := none, hints := [] },
  { dst := some 27, op := POp.call true [[]] 30 [Operand.tmp 26], guard := none, hints := [] },
  { dst := some 24, op := POp.mv (Operand.tmp 27), guard := none, hints := [] },
  { dst := some 28, op := POp.ext (Operand.tmp 24) 0, guard := none, hints := [] },
  { dst := some 29, op := POp.ext (Operand.tmp 24) 1, guard := none, hints := [] },
  { dst := some 30, op := POp.ext (Operand.tmp 24) 2, guard := none, hints := [] },
  { dst := some 4, op := POp.alloc 28 (Value.agg { toList := [Value.int IntKind.i64 0, Value.int IntKind.i64 0, Value.int IntKind.i64 0, Value.int IntKind.i64 0, Value.string { data := { toList := [] } }, Value.int IntKind.i64 0, Value.string { data := { toList := [] } }, Value.int IntKind.i64 0, Value.string { data := { toList := [] } }, Value.int IntKind.i64 0, Value.string { data := { toList := [] } }] }) [], guard := none, hints := [] },
  { dst := none, op := POp.store 11 (Operand.tmp 4) (Operand.tmp 28), guard := none, hints := [] },
  { dst := some 5, op := POp.mv (Operand.tmp 29), guard := none, hints := [] },
  { dst := some 6, op := POp.mv (Operand.tmp 30), guard := none, hints := [] }]
def pc15_c4 : PCode := .region none false pc15_o4
def pc15_o5 : List POper := [{ dst := some 32, op := POp.load true 11 (Operand.tmp 1), guard := none, hints := [] },
  { dst := some 33, op := POp.bslice 28 11 [Operand.tmp 32], guard := none, hints := [] },
  { dst := some 34, op := POp.call true [[(0, 11)]] 22 [Operand.tmp 33], guard := none, hints := [] },
  { dst := some 31, op := POp.mv (Operand.tmp 34), guard := none, hints := [] },
  { dst := some 35, op := POp.ext (Operand.tmp 31) 0, guard := none, hints := [] },
  { dst := some 36, op := POp.ext (Operand.tmp 31) 1, guard := none, hints := [] },
  { dst := some 7, op := POp.mv (Operand.tmp 35), guard := none, hints := [] },
  { dst := some 8, op := POp.mv (Operand.tmp 36), guard := none, hints := [] }]
def pc15_c5 : PCode := .region none false pc15_o5
def pc15_o6 : List POper := [{ dst := some 38, op := POp.mv (Operand.tmp 7), guard := none, hints := [] },
  { dst := some 39, op := POp.call true [[]] 32 [Operand.tmp 38], guard := none, hints := [] },
  { dst := some 37, op := POp.mv (Operand.tmp 39), guard := none, hints := [] },
  { dst := some 40, op := POp.ext (Operand.tmp 37) 0, guard := none, hints := [] },
  { dst := some 41, op := POp.ext (Operand.tmp 37) 1, guard := none, hints := [] },
  { dst := some 42, op := POp.ext (Operand.tmp 37) 2, guard := none, hints := [] },
  { dst := some 9, op := POp.mv (Operand.tmp 40), guard := none, hints := [] },
  { dst := some 10, op := POp.mv (Operand.tmp 41), guard := none, hints := [] },
  { dst := some 11, op := POp.mv (Operand.tmp 42), guard := none, hints := [] }]
def pc15_c6 : PCode := .region none false pc15_o6
def pc15_o7 : List POper := [{ dst := some 44, op := POp.load true 11 (Operand.tmp 1), guard := none, hints := [] },
  { dst := some 45, op := POp.load true 11 (Operand.tmp 1), guard := none, hints := [] },
  { dst := some 46, op := POp.bslice 28 11 [Operand.tmp 44, Operand.tmp 45], guard := none, hints := [] },
  { dst := some 47, op := POp.call true [[(0, 11)]] 22 [Operand.tmp 46], guard := none, hints := [] },
  { dst := some 43, op := POp.mv (Operand.tmp 47), guard := none, hints := [] },
  { dst := some 48, op := POp.ext (Operand.tmp 43) 0, guard := none, hints := [] },
  { dst := some 49, op := POp.ext (Operand.tmp 43) 1, guard := none, hints := [] },
  { dst := some 12, op := POp.mv (Operand.tmp 48), guard := none, hints := [] },
  { dst := some 13, op := POp.mv (Operand.tmp 49), guard := none, hints := [] }]
def pc15_c7 : PCode := .region none false pc15_o7
def pc15_o8 : List POper := [{ dst := some 50, op := POp.mv (Operand.tmp 3), guard := none, hints := [] },
  { dst := some 51, op := POp.prim (Prim.bin BinOp.eql 37 false true) [Operand.tmp 50, Operand.const (Value.int IntKind.i64 0)], guard := none, hints := [] },
  { dst := some 52, op := POp.mv (Operand.tmp 51), guard := none, hints := [] },
  { dst := some 53, op := POp.mv (Operand.tmp 6), guard := some (52, true), hints := [] },
  { dst := some 54, op := POp.prim (Prim.bin BinOp.eql 37 false true) [Operand.tmp 53, Operand.const (Value.int IntKind.i64 0)], guard := some (52, true), hints := [] },
  { dst := some 55, op := POp.pick (Operand.tmp 52) (Operand.tmp 54) (Operand.const (Value.bool false)), guard := none, hints := [] },
  { dst := some 56, op := POp.mv (Operand.tmp 55), guard := none, hints := [] },
  { dst := some 57, op := POp.mv (Operand.tmp 5), guard := some (56, true), hints := [] },
  { dst := some 58, op := POp.mv (Operand.tmp 2), guard := some (56, true), hints := [] },
  { dst := some 59, op := POp.prim (Prim.len 9) [Operand.tmp 58], guard := some (56, true), hints := [] },
  { dst := some 60, op := POp.prim (Prim.bin BinOp.eql 3 false false) [Operand.tmp 57, Operand.tmp 59], guard := some (56, true), hints := [] },
  { dst := some 61, op := POp.pick (Operand.tmp 56) (Operand.tmp 60) (Operand.const (Value.bool false)), guard := none, hints := [] },
  { dst := some 62, op := POp.mv (Operand.tmp 61), guard := none, hints := [] },
  { dst := some 63, op := POp.load true 11 (Operand.tmp 4), guard := some (62, true), hints := [] },
  { dst := some 64, op := POp.load true 11 (Operand.tmp 1), guard := some (62, true), hints := [] },
  { dst := some 65, op := POp.prim (Prim.bin BinOp.eql 28 false false) [Operand.tmp 63, Operand.tmp 64], guard := some (62, true), hints := [] },
  { dst := some 66, op := POp.pick (Operand.tmp 62) (Operand.tmp 65) (Operand.const (Value.bool false)), guard := none, hints := [] },
  { dst := some 67, op := POp.mv (Operand.tmp 66), guard := none, hints := [] },
  { dst := some 68, op := POp.mv (Operand.tmp 8), guard := some (67, true), hints := [] },
  { dst := some 69, op := POp.prim (Prim.bin BinOp.eql 37 false true) [Operand.tmp 68, Operand.const (Value.int IntKind.i64 0)], guard := some (67, true), hints := [] },
  { dst := some 70, op := POp.pick (Operand.tmp 67) (Operand.tmp 69) (Operand.const (Value.bool false)), guard := none, hints := [] },
  { dst := some 71, op := POp.mv (Operand.tmp 70), guard := none, hints := [] },
  { dst := some 72, op := POp.mv (Operand.tmp 11), guard := some (71, true), hints := [] },
  { dst := some 73, op := POp.prim (Prim.bin BinOp.eql 37 false true) [Operand.tmp 72, Operand.const (Value.int IntKind.i64 0)], guard := some (71, true), hints := [] },
  { dst := some 74, op := POp.pick (Operand.tmp 71) (Operand.tmp 73) (Operand.const (Value.bool false)), guard := none, hints := [] },
  { dst := some 75, op := POp.mv (Operand.tmp 74), guard := none, hints := [] },
  { dst := some 76, op := POp.mv (Operand.tmp 10), guard := some (75, true), hints := [] },
  { dst := some 77, op := POp.mv (Operand.tmp 7), guard := some (75, true), hints := [] },
  { dst := some 78, op := POp.prim (Prim.len 9) [Operand.tmp 77], guard := some (75, true), hints := [] },
  { dst := some 79, op := POp.prim (Prim.bin BinOp.eql 3 false false) [Operand.tmp 76, Operand.tmp 78], guard := some (75, true), hints := [] },
  { dst := some 80, op := POp.pick (Operand.tmp 75) (Operand.tmp 79) (Operand.const (Value.bool false)), guard := none, hints := [] },
  { dst := some 81, op := POp.mv (Operand.tmp 80), guard := none, hints := [] },
  { dst := some 82, op := POp.mv (Operand.tmp 9), guard := some (81, true), hints := [] },
  { dst := some 83, op := POp.lenS (Operand.tmp 82), guard := some (81, true), hints := [] },
  { dst := some 84, op := POp.prim (Prim.bin BinOp.eql 3 false true) [Operand.tmp 83, Operand.const (Value.int IntKind.i64 1)], guard := some (81, true), hints := [] },
  { dst := some 85, op := POp.pick (Operand.tmp 81) (Operand.tmp 84) (Operand.const (Value.bool false)), guard := none, hints := [] },
  { dst := some 86, op := POp.mv (Operand.tmp 85), guard := none, hints := [] },
  { dst := some 87, op := POp.mv (Operand.tmp 13), guard := some (86, true), hints := [] },
  { dst := some 88, op := POp.prim (Prim.bin BinOp.eql 37 false true) [Operand.tmp 87, Operand.const (Value.int IntKind.i64 11)], guard := some (86, true), hints := [] },
  { dst := some 89, op := POp.pick (Operand.tmp 86) (Operand.tmp 88) (Operand.const (Value.bool false)), guard := none, hints := [] },
  { dst := some 90, op := POp.mv (Operand.tmp 89), guard := none, hints := [] },
  { dst := some 91, op := POp.load true 11 (Operand.tmp 1), guard := some (90, true), hints := [] },
  { dst := some 92, op := POp.call true [[]] 24 [Operand.tmp 91], guard := some (90, true), hints := [] },
  { dst := some 93, op := POp.pick (Operand.tmp 90) (Operand.tmp 92) (Operand.const (Value.bool false)), guard := none, hints := [] },
  { dst := some 94, op := POp.mv (Operand.tmp 93), guard := none, hints := [] },
  { dst := some 95, op := POp.load true 11 (Operand.tmp 1), guard := some (94, true), hints := [] },
  { dst := some 96, op := POp.load true 11 (Operand.tmp 4), guard := some (94, true), hints := [] },
  { dst := some 97, op := POp.call true [[], []] 25 [Operand.tmp 95, Operand.tmp 96], guard := some (94, true), hints := [] },
  { dst := some 98, op := POp.pick (Operand.tmp 94) (Operand.tmp 97) (Operand.const (Value.bool false)), guard := none, hints := [] },
  { dst := some 99, op := POp.mv (Operand.tmp 98), guard := none, hints := [] },
  { dst := some 100, op := POp.call true [[]] 26 [Operand.const (Value.int IntKind.i64 9)], guard := some (99, true), hints := [] },
  { dst := some 101, op := POp.prim (Prim.bin BinOp.eql 3 false true) [Operand.tmp 100, Operand.const (Value.int IntKind.i64 1)], guard := some (99, true), hints := [] },
  { dst := some 102, op := POp.pick (Operand.tmp 99) (Operand.tmp 101) (Operand.const (Value.bool false)), guard := none, hints := [] },
  { dst := some 103, op := POp.mv (Operand.tmp 102), guard := none, hints := [] },
  { dst := some 104, op := POp.call true [[], []] 28 [Operand.const (Value.int IntKind.i64 1), Operand.const (Value.int IntKind.i64 2)], guard := some (103, true), hints := [] },
  { dst := some 105, op := POp.prim (Prim.bin BinOp.eql 3 false true) [Operand.tmp 104, Operand.const (Value.int IntKind.i64 9)], guard := some (103, true), hints := [] },
  { dst := some 106, op := POp.pick (Operand.tmp 103) (Operand.tmp 105) (Operand.const (Value.bool false)), guard := none, hints := [] },
  { dst := some 0, op := POp.mv (Operand.tmp 106), guard := none, hints := [] }]
def pc15_c8 : PCode := .region none false pc15_o8
def pc15_c9 : PCode := .ret
def pc15_c10 : PCode := .seq pc15_c8 pc15_c9
def pc15_c11 : PCode := .seq pc15_c7 pc15_c10
def pc15_c12 : PCode := .seq pc15_c6 pc15_c11
def pc15_c13 : PCode := .seq pc15_c5 pc15_c12
def pc15_c14 : PCode := .seq pc15_c4 pc15_c13
def pc15_c15 : PCode := .seq pc15_c3 pc15_c14
def pc15_c16 : PCode := .seq pc15_c2 pc15_c15
def pc15_c17 : PCode := .seq pc15_c1 pc15_c16
def pc15_r : List PRes := [PRes.tmp 0 []]
def pc15 : PFunc := ⟨107, pc15_r, pc15_c17, false⟩
def pc15_a : Ann := {
  kr := fun
    | _ => none
  ka := fun
    | _ => 0
  kh := fun
    | _ => none
  ow := fun t => match t with
    | 96 => [(1, 5, 1)]
    | _ => []
  tc := fun t => match t with
    | 96 => true
    | _ => false }
theorem pc15_ok : compFn Try.prog pc15_a Try.f15 = some pc15 := by kernel_rfl


-- 57: vedette/vedettelaw7.fewField
def pc57_o1 : List POper := [{ dst := some 1, op := POp.box 25 (Operand.tmp 0) [], guard := none, hints := [] },
  { dst := some 2, op := POp.mv (Operand.const (Value.bool false)), guard := none, hints := [] }]
def pc57_c1 : PCode := .region none false pc57_o1
def pc57_o2 : List POper := [{ dst := some 3, op := POp.faddr 1 (Operand.tmp 1), guard := none, hints := [] },
  { dst := some 4, op := POp.load false 1 (Operand.tmp 3), guard := none, hints := [] },
  { dst := some 5, op := POp.prim (Prim.len 9) [Operand.tmp 4], guard := none, hints := [] },
  { dst := some 6, op := POp.prim (Prim.bin BinOp.leq 3 false true) [Operand.tmp 5, Operand.const (Value.int IntKind.i64 40)], guard := none, hints := [] },
  { dst := some 2, op := POp.mv (Operand.tmp 6), guard := none, hints := [] }]
def pc57_c2 : PCode := .region none false pc57_o2
def pc57_c3 : PCode := .ret
def pc57_c4 : PCode := .seq pc57_c2 pc57_c3
def pc57_c5 : PCode := .seq pc57_c1 pc57_c4
def pc57_r : List PRes := [PRes.tmp 2 []]
def pc57 : PFunc := ⟨7, pc57_r, pc57_c5, false⟩
def pc57_a : Ann := {
  kr := fun
    | _ => none
  ka := fun
    | _ => 0
  kh := fun
    | _ => none
  ow := fun t => match t with
    | 96 => [(1, 5, 1)]
    | _ => []
  tc := fun t => match t with
    | 96 => true
    | _ => false }
theorem pc57_ok : compFn Try.prog pc57_a Try.f57 = some pc57 := by kernel_rfl


-- 16: vedette/vedettelaw7.fewThing
def pc16_o1 : List POper := [{ dst := some 1, op := POp.box 28 (Operand.tmp 0) [], guard := none, hints := [] },
  { dst := some 2, op := POp.mv (Operand.const (Value.bool false)), guard := none, hints := [] }]
def pc16_c1 : PCode := .region none false pc16_o1
def pc16_o2 : List POper := [{ dst := some 3, op := POp.mv (Operand.const (Value.int IntKind.i64 0)), guard := none, hints := [] }]
def pc16_c2 : PCode := .region none false pc16_o2
def pc16_o3 : List POper := [{ dst := some 4, op := POp.mv (Operand.tmp 3), guard := none, hints := [] },
  { dst := some 5, op := POp.prim (Prim.bin BinOp.lss 3 false true) [Operand.tmp 4, Operand.const (Value.int IntKind.i64 4)], guard := none, hints := [] }]
def pc16_c3 : PCode := .region (some ([1, 3], [1], [])) false pc16_o3
def pc16_c4 : PCode := .skip
def pc16_c5 : PCode := .exit 0
def pc16_c6 : PCode := .cond (Operand.tmp 5) pc16_c4 pc16_c5
def pc16_c7 : PCode := .seq pc16_c3 pc16_c6
def pc16_o8 : List POper := [{ dst := some 8, op := POp.mv (Operand.tmp 3), guard := none, hints := [] },
  { dst := some 9, op := POp.faddr 3 (Operand.tmp 1), guard := none, hints := [] },
  { dst := some 10, op := POp.iaddrA 4 2 (Operand.tmp 9) (Operand.tmp 8), guard := none, hints := [] },
  { dst := some 11, op := POp.load true 2 (Operand.tmp 10), guard := none, hints := [] },
  { dst := some 12, op := POp.call true [[]] 57 [Operand.tmp 11], guard := none, hints := [] },
  { dst := some 13, op := POp.prim (Prim.un UnOp.not) [Operand.tmp 12], guard := none, hints := [] }]
def pc16_c8 : PCode := .region none false pc16_o8
def pc16_o9 : List POper := [{ dst := some 2, op := POp.mv (Operand.const (Value.bool false)), guard := none, hints := [] }]
def pc16_c9 : PCode := .region none false pc16_o9
def pc16_c10 : PCode := .ret
def pc16_c11 : PCode := .seq pc16_c9 pc16_c10
def pc16_c12 : PCode := .skip
def pc16_c13 : PCode := .cond (Operand.tmp 13) pc16_c11 pc16_c12
def pc16_c14 : PCode := .seq pc16_c8 pc16_c13
def pc16_c15 : PCode := .block 1 pc16_c14
def pc16_o16 : List POper := [{ dst := some 6, op := POp.mv (Operand.tmp 3), guard := none, hints := [] },
  { dst := some 7, op := POp.prim (Prim.bin BinOp.add 3 false true) [Operand.tmp 6, Operand.const (Value.int IntKind.i64 1)], guard := none, hints := [] },
  { dst := some 3, op := POp.mv (Operand.tmp 7), guard := none, hints := [] }]
def pc16_c16 : PCode := .region none false pc16_o16
def pc16_c17 : PCode := .seq pc16_c15 pc16_c16
def pc16_c18 : PCode := .seq pc16_c7 pc16_c17
def pc16_c19 : PCode := .loop pc16_c18
def pc16_c20 : PCode := .block 0 pc16_c19
def pc16_c21 : PCode := .seq pc16_c2 pc16_c20
def pc16_o22 : List POper := [{ dst := some 2, op := POp.mv (Operand.const (Value.bool true)), guard := none, hints := [] }]
def pc16_c22 : PCode := .region none false pc16_o22
def pc16_c23 : PCode := .ret
def pc16_c24 : PCode := .seq pc16_c22 pc16_c23
def pc16_c25 : PCode := .seq pc16_c21 pc16_c24
def pc16_c26 : PCode := .seq pc16_c1 pc16_c25
def pc16_r : List PRes := [PRes.tmp 2 []]
def pc16 : PFunc := ⟨14, pc16_r, pc16_c26, false⟩
def pc16_a : Ann := {
  kr := fun
    | 2 => some ([1, 3], [1], [])
    | _ => none
  ka := fun
    | _ => 0
  kh := fun
    | _ => none
  ow := fun t => match t with
    | 96 => [(1, 5, 1)]
    | _ => []
  tc := fun t => match t with
    | 96 => true
    | _ => false }
theorem pc16_ok : compFn Try.prog pc16_a Try.f16 = some pc16 := by kernel_rfl


-- 17: vedette/vedettelaw7.fewThings
def pc17_o1 : List POper := [{ dst := some 2, op := POp.mv (Operand.const (Value.bool false)), guard := none, hints := [] }]
def pc17_c1 : PCode := .region none false pc17_o1
def pc17_o2 : List POper := [{ dst := some 3, op := POp.mv (Operand.const (Value.int IntKind.i64 0)), guard := none, hints := [] }]
def pc17_c2 : PCode := .region none false pc17_o2
def pc17_o3 : List POper := [{ dst := some 4, op := POp.mv (Operand.tmp 3), guard := none, hints := [] },
  { dst := some 5, op := POp.mv (Operand.tmp 0), guard := none, hints := [] },
  { dst := some 6, op := POp.lenS (Operand.tmp 5), guard := none, hints := [] },
  { dst := some 7, op := POp.prim (Prim.bin BinOp.lss 3 false false) [Operand.tmp 4, Operand.tmp 6], guard := none, hints := [] }]
def pc17_c3 : PCode := .region (some ([0, 3], [], [])) false pc17_o3
def pc17_c4 : PCode := .skip
def pc17_c5 : PCode := .exit 0
def pc17_c6 : PCode := .cond (Operand.tmp 7) pc17_c4 pc17_c5
def pc17_c7 : PCode := .seq pc17_c3 pc17_c6
def pc17_o8 : List POper := [{ dst := some 10, op := POp.mv (Operand.tmp 0), guard := none, hints := [] },
  { dst := some 11, op := POp.mv (Operand.tmp 3), guard := none, hints := [] },
  { dst := some 12, op := POp.iaddrS 11 (Operand.tmp 10) (Operand.tmp 11), guard := none, hints := [] },
  { dst := some 13, op := POp.load true 11 (Operand.tmp 12), guard := none, hints := [] },
  { dst := some 14, op := POp.call true [[]] 16 [Operand.tmp 13], guard := none, hints := [] },
  { dst := some 15, op := POp.prim (Prim.un UnOp.not) [Operand.tmp 14], guard := none, hints := [] }]
def pc17_c8 : PCode := .region none false pc17_o8
def pc17_o9 : List POper := [{ dst := some 2, op := POp.mv (Operand.const (Value.bool false)), guard := none, hints := [] }]
def pc17_c9 : PCode := .region none false pc17_o9
def pc17_c10 : PCode := .ret
def pc17_c11 : PCode := .seq pc17_c9 pc17_c10
def pc17_c12 : PCode := .skip
def pc17_c13 : PCode := .cond (Operand.tmp 15) pc17_c11 pc17_c12
def pc17_c14 : PCode := .seq pc17_c8 pc17_c13
def pc17_c15 : PCode := .block 1 pc17_c14
def pc17_o16 : List POper := [{ dst := some 8, op := POp.mv (Operand.tmp 3), guard := none, hints := [] },
  { dst := some 9, op := POp.prim (Prim.bin BinOp.add 3 false true) [Operand.tmp 8, Operand.const (Value.int IntKind.i64 1)], guard := none, hints := [] },
  { dst := some 3, op := POp.mv (Operand.tmp 9), guard := none, hints := [] }]
def pc17_c16 : PCode := .region none false pc17_o16
def pc17_c17 : PCode := .seq pc17_c15 pc17_c16
def pc17_c18 : PCode := .seq pc17_c7 pc17_c17
def pc17_c19 : PCode := .loop pc17_c18
def pc17_c20 : PCode := .block 0 pc17_c19
def pc17_c21 : PCode := .seq pc17_c2 pc17_c20
def pc17_o22 : List POper := [{ dst := some 16, op := POp.mv (Operand.tmp 0), guard := none, hints := [] },
  { dst := some 17, op := POp.lenS (Operand.tmp 16), guard := none, hints := [] },
  { dst := some 18, op := POp.prim (Prim.bin BinOp.leq 3 false true) [Operand.tmp 17, Operand.const (Value.int IntKind.i64 30)], guard := none, hints := [] },
  { dst := some 2, op := POp.mv (Operand.tmp 18), guard := none, hints := [] }]
def pc17_c22 : PCode := .region none false pc17_o22
def pc17_c23 : PCode := .ret
def pc17_c24 : PCode := .seq pc17_c22 pc17_c23
def pc17_c25 : PCode := .seq pc17_c21 pc17_c24
def pc17_c26 : PCode := .seq pc17_c1 pc17_c25
def pc17_r : List PRes := [PRes.tmp 2 []]
def pc17 : PFunc := ⟨19, pc17_r, pc17_c26, false⟩
def pc17_a : Ann := {
  kr := fun
    | 2 => some ([0, 3], [], [])
    | _ => none
  ka := fun
    | _ => 0
  kh := fun
    | _ => none
  ow := fun t => match t with
    | 96 => [(1, 5, 1)]
    | _ => []
  tc := fun t => match t with
    | 96 => true
    | _ => false }
theorem pc17_ok : compFn Try.prog pc17_a Try.f17 = some pc17 := by kernel_rfl


-- 58: vedette/vedetteref3.On
def pc58_o1 : List POper := [{ dst := some 1, op := POp.box 23 (Operand.tmp 0) [], guard := none, hints := [] },
  { dst := some 2, op := POp.mv (Operand.const (Value.bool false)), guard := none, hints := [] }]
def pc58_c1 : PCode := .region none false pc58_o1
def pc58_o2 : List POper := [{ dst := some 3, op := POp.faddr 0 (Operand.tmp 1), guard := none, hints := [] },
  { dst := some 4, op := POp.load false 1 (Operand.tmp 3), guard := none, hints := [] },
  { dst := some 5, op := POp.prim (Prim.bin BinOp.geq 3 false true) [Operand.tmp 4, Operand.const (Value.int IntKind.i64 0)], guard := none, hints := [] },
  { dst := some 6, op := POp.mv (Operand.tmp 5), guard := none, hints := [] },
  { dst := some 7, op := POp.faddr 0 (Operand.tmp 1), guard := some (6, true), hints := [] },
  { dst := some 8, op := POp.load false 1 (Operand.tmp 7), guard := some (6, true), hints := [] },
  { dst := some 9, op := POp.prim (Prim.bin BinOp.lss 3 false true) [Operand.tmp 8, Operand.const (Value.int IntKind.i64 64)], guard := some (6, true), hints := [] },
  { dst := some 10, op := POp.pick (Operand.tmp 6) (Operand.tmp 9) (Operand.const (Value.bool false)), guard := none, hints := [] },
  { dst := some 11, op := POp.mv (Operand.tmp 10), guard := none, hints := [] },
  { dst := some 12, op := POp.faddr 1 (Operand.tmp 1), guard := some (11, true), hints := [] },
  { dst := some 13, op := POp.load false 1 (Operand.tmp 12), guard := some (11, true), hints := [] },
  { dst := some 14, op := POp.prim (Prim.bin BinOp.geq 3 false true) [Operand.tmp 13, Operand.const (Value.int IntKind.i64 0)], guard := some (11, true), hints := [] },
  { dst := some 15, op := POp.pick (Operand.tmp 11) (Operand.tmp 14) (Operand.const (Value.bool false)), guard := none, hints := [] },
  { dst := some 16, op := POp.mv (Operand.tmp 15), guard := none, hints := [] },
  { dst := some 17, op := POp.faddr 1 (Operand.tmp 1), guard := some (16, true), hints := [] },
  { dst := some 18, op := POp.load false 1 (Operand.tmp 17), guard := some (16, true), hints := [] },
  { dst := some 19, op := POp.prim (Prim.bin BinOp.lss 3 false true) [Operand.tmp 18, Operand.const (Value.int IntKind.i64 64)], guard := some (16, true), hints := [] },
  { dst := some 20, op := POp.pick (Operand.tmp 16) (Operand.tmp 19) (Operand.const (Value.bool false)), guard := none, hints := [] },
  { dst := some 2, op := POp.mv (Operand.tmp 20), guard := none, hints := [] }]
def pc58_c2 : PCode := .region none false pc58_o2
def pc58_c3 : PCode := .ret
def pc58_c4 : PCode := .seq pc58_c2 pc58_c3
def pc58_c5 : PCode := .seq pc58_c1 pc58_c4
def pc58_r : List PRes := [PRes.tmp 2 []]
def pc58 : PFunc := ⟨21, pc58_r, pc58_c5, false⟩
def pc58_a : Ann := {
  kr := fun
    | _ => none
  ka := fun
    | _ => 0
  kh := fun
    | _ => none
  ow := fun t => match t with
    | 96 => [(1, 5, 1)]
    | _ => []
  tc := fun t => match t with
    | 96 => true
    | _ => false }
theorem pc58_ok : compFn Try.prog pc58_a Try.f58 = some pc58 := by kernel_rfl


-- 59: vedette/vedetteref6.IsField
def pc59_o1 : List POper := [{ dst := some 1, op := POp.box 25 (Operand.tmp 0) [], guard := none, hints := [] },
  { dst := some 2, op := POp.mv (Operand.const (Value.bool false)), guard := none, hints := [] }]
def pc59_c1 : PCode := .region none false pc59_o1
def pc59_o2 : List POper := [{ dst := some 3, op := POp.faddr 0 (Operand.tmp 1), guard := none, hints := [] },
  { dst := some 4, op := POp.load false 1 (Operand.tmp 3), guard := none, hints := [] },
  { dst := some 5, op := POp.prim (Prim.bin BinOp.eql 2 false true) [Operand.tmp 4, Operand.const (Value.int IntKind.i64 0)], guard := none, hints := [] },
  { dst := some 6, op := POp.mv (Operand.tmp 5), guard := none, hints := [] },
  { dst := some 7, op := POp.faddr 1 (Operand.tmp 1), guard := some (6, false), hints := [] },
  { dst := some 8, op := POp.load false 1 (Operand.tmp 7), guard := some (6, false), hints := [] },
  { dst := some 9, op := POp.prim (Prim.bin BinOp.eql 9 false true) [Operand.tmp 8, Operand.const (Value.string { data := { toList := [] } })], guard := some (6, false), hints := [] },
  { dst := some 10, op := POp.pick (Operand.tmp 6) (Operand.const (Value.bool true)) (Operand.tmp 9), guard := none, hints := [] },
  { dst := some 11, op := POp.mv (Operand.tmp 10), guard := none, hints := [] },
  { dst := some 12, op := POp.faddr 1 (Operand.tmp 1), guard := some (11, true), hints := [] },
  { dst := some 13, op := POp.load false 1 (Operand.tmp 12), guard := some (11, true), hints := [] },
  { dst := some 14, op := POp.prim (Prim.len 9) [Operand.tmp 13], guard := some (11, true), hints := [] },
  { dst := some 15, op := POp.prim (Prim.bin BinOp.leq 3 false true) [Operand.tmp 14, Operand.const (Value.int IntKind.i64 12)], guard := some (11, true), hints := [] },
  { dst := some 16, op := POp.pick (Operand.tmp 11) (Operand.tmp 15) (Operand.const (Value.bool false)), guard := none, hints := [] },
  { dst := some 2, op := POp.mv (Operand.tmp 16), guard := none, hints := [] }]
def pc59_c2 : PCode := .region none false pc59_o2
def pc59_c3 : PCode := .ret
def pc59_c4 : PCode := .seq pc59_c2 pc59_c3
def pc59_c5 : PCode := .seq pc59_c1 pc59_c4
def pc59_r : List PRes := [PRes.tmp 2 []]
def pc59 : PFunc := ⟨17, pc59_r, pc59_c5, false⟩
def pc59_a : Ann := {
  kr := fun
    | _ => none
  ka := fun
    | _ => 0
  kh := fun
    | _ => none
  ow := fun t => match t with
    | 96 => [(1, 5, 1)]
    | _ => []
  tc := fun t => match t with
    | 96 => true
    | _ => false }
theorem pc59_ok : compFn Try.prog pc59_a Try.f59 = some pc59 := by kernel_rfl


-- 18: vedette/vedetteref6.Is
def pc18_o1 : List POper := [{ dst := some 1, op := POp.box 28 (Operand.tmp 0) [], guard := none, hints := [] },
  { dst := some 2, op := POp.mv (Operand.const (Value.bool false)), guard := none, hints := [] }]
def pc18_c1 : PCode := .region none false pc18_o1
def pc18_o2 : List POper := [{ dst := some 5, op := POp.faddr 0 (Operand.tmp 1), guard := none, hints := [] },
  { dst := some 6, op := POp.load false 1 (Operand.tmp 5), guard := none, hints := [] },
  { dst := some 7, op := POp.prim (Prim.bin BinOp.geq 3 false true) [Operand.tmp 6, Operand.const (Value.int IntKind.i64 0)], guard := none, hints := [] },
  { dst := some 8, op := POp.mv (Operand.tmp 7), guard := none, hints := [] },
  { dst := some 9, op := POp.faddr 0 (Operand.tmp 1), guard := some (8, true), hints := [] },
  { dst := some 10, op := POp.load false 1 (Operand.tmp 9), guard := some (8, true), hints := [] },
  { dst := some 11, op := POp.prim (Prim.bin BinOp.leq 3 false true) [Operand.tmp 10, Operand.const (Value.int IntKind.i64 1000000)], guard := some (8, true), hints := [] },
  { dst := some 12, op := POp.pick (Operand.tmp 8) (Operand.tmp 11) (Operand.const (Value.bool false)), guard := none, hints := [] },
  { dst := some 13, op := POp.mv (Operand.tmp 12), guard := none, hints := [] },
  { dst := some 14, op := POp.faddr 1 (Operand.tmp 1), guard := some (13, true), hints := [] },
  { dst := some 15, op := POp.load true 2 (Operand.tmp 14), guard := some (13, true), hints := [] },
  { dst := some 16, op := POp.call true [[]] 58 [Operand.tmp 15], guard := some (13, true), hints := [] },
  { dst := some 17, op := POp.pick (Operand.tmp 13) (Operand.tmp 16) (Operand.const (Value.bool false)), guard := none, hints := [] },
  { dst := some 3, op := POp.mv (Operand.tmp 17), guard := none, hints := [] }]
def pc18_c2 : PCode := .region none false pc18_o2
def pc18_o3 : List POper := [{ dst := some 4, op := POp.mv (Operand.const (Value.int IntKind.i64 0)), guard := none, hints := [] }]
def pc18_c3 : PCode := .region (some ([1, 3], [1], [])) false pc18_o3
def pc18_o4 : List POper := [{ dst := some 18, op := POp.mv (Operand.tmp 4), guard := none, hints := [] },
  { dst := some 19, op := POp.prim (Prim.bin BinOp.lss 3 false true) [Operand.tmp 18, Operand.const (Value.int IntKind.i64 4)], guard := none, hints := [] }]
def pc18_c4 : PCode := .region (some ([1, 3, 4], [1], [])) false pc18_o4
def pc18_c5 : PCode := .skip
def pc18_c6 : PCode := .exit 0
def pc18_c7 : PCode := .cond (Operand.tmp 19) pc18_c5 pc18_c6
def pc18_c8 : PCode := .seq pc18_c4 pc18_c7
def pc18_o9 : List POper := [{ dst := some 22, op := POp.mv (Operand.tmp 3), guard := none, hints := [] },
  { dst := some 23, op := POp.mv (Operand.tmp 22), guard := none, hints := [] },
  { dst := some 24, op := POp.mv (Operand.tmp 4), guard := some (23, true), hints := [] },
  { dst := some 25, op := POp.faddr 3 (Operand.tmp 1), guard := some (23, true), hints := [] },
  { dst := some 26, op := POp.iaddrA 4 2 (Operand.tmp 25) (Operand.tmp 24), guard := some (23, true), hints := [] },
  { dst := some 27, op := POp.load true 2 (Operand.tmp 26), guard := some (23, true), hints := [] },
  { dst := some 28, op := POp.call true [[]] 59 [Operand.tmp 27], guard := some (23, true), hints := [] },
  { dst := some 29, op := POp.pick (Operand.tmp 23) (Operand.tmp 28) (Operand.const (Value.bool false)), guard := none, hints := [] },
  { dst := some 3, op := POp.mv (Operand.tmp 29), guard := none, hints := [] }]
def pc18_c9 : PCode := .region none false pc18_o9
def pc18_c10 : PCode := .block 1 pc18_c9
def pc18_o11 : List POper := [{ dst := some 20, op := POp.mv (Operand.tmp 4), guard := none, hints := [] },
  { dst := some 21, op := POp.prim (Prim.bin BinOp.add 3 false true) [Operand.tmp 20, Operand.const (Value.int IntKind.i64 1)], guard := none, hints := [] },
  { dst := some 4, op := POp.mv (Operand.tmp 21), guard := none, hints := [] }]
def pc18_c11 : PCode := .region none false pc18_o11
def pc18_c12 : PCode := .seq pc18_c10 pc18_c11
def pc18_c13 : PCode := .seq pc18_c8 pc18_c12
def pc18_c14 : PCode := .loop pc18_c13
def pc18_c15 : PCode := .block 0 pc18_c14
def pc18_c16 : PCode := .seq pc18_c3 pc18_c15
def pc18_o17 : List POper := [{ dst := some 30, op := POp.mv (Operand.tmp 3), guard := none, hints := [] },
  { dst := some 2, op := POp.mv (Operand.tmp 30), guard := none, hints := [] }]
def pc18_c17 : PCode := .region none false pc18_o17
def pc18_c18 : PCode := .ret
def pc18_c19 : PCode := .seq pc18_c17 pc18_c18
def pc18_c20 : PCode := .seq pc18_c16 pc18_c19
def pc18_c21 : PCode := .seq pc18_c2 pc18_c20
def pc18_c22 : PCode := .seq pc18_c1 pc18_c21
def pc18_r : List PRes := [PRes.tmp 2 []]
def pc18 : PFunc := ⟨31, pc18_r, pc18_c22, false⟩
def pc18_a : Ann := {
  kr := fun
    | 2 => some ([1, 3], [1], [])
    | 3 => some ([1, 3, 4], [1], [])
    | _ => none
  ka := fun
    | _ => 0
  kh := fun
    | _ => none
  ow := fun t => match t with
    | 96 => [(1, 5, 1)]
    | _ => []
  tc := fun t => match t with
    | 96 => true
    | _ => false }
theorem pc18_ok : compFn Try.prog pc18_a Try.f18 = some pc18 := by kernel_rfl


-- 60: vedette/vedetteref1.Put
def pc60_o1 : List POper := [{ dst := some 2, op := POp.mv (Operand.const (Value.string { data := { toList := [] } })), guard := none, hints := [] }]
def pc60_c1 : PCode := .region none false pc60_o1
def pc60_o2 : List POper := [{ dst := some 3, op := POp.mv (Operand.const (Value.string { data := { toList := [] } })), guard := none, hints := [] }]
def pc60_c2 : PCode := .region none false pc60_o2
def pc60_o3 : List POper := [{ dst := some 4, op := POp.mv (Operand.tmp 0), guard := none, hints := [] },
  { dst := some 5, op := POp.prim (Prim.bin BinOp.lss 89 false true) [Operand.tmp 4, Operand.const (Value.int IntKind.u64 128)], guard := none, hints := [] }]
def pc60_c3 : PCode := .region (some ([0, 3], [], [])) false pc60_o3
def pc60_o4 : List POper := [{ dst := some 6, op := POp.mv (Operand.tmp 3), guard := none, hints := [] },
  { dst := some 7, op := POp.mv (Operand.tmp 0), guard := none, hints := [] },
  { dst := some 8, op := POp.prim (Prim.conv 89 5) [Operand.tmp 7], guard := none, hints := [] },
  { dst := some 9, op := POp.bslice 5 1 [Operand.tmp 8], guard := none, hints := [] },
  { dst := some 10, op := POp.b2s (Operand.tmp 9), guard := none, hints := [] },
  { dst := some 11, op := POp.prim (Prim.bin BinOp.add 9 false false) [Operand.tmp 6, Operand.tmp 10], guard := none, hints := [] },
  { dst := some 2, op := POp.mv (Operand.tmp 11), guard := none, hints := [] }]
def pc60_c4 : PCode := .region none false pc60_o4
def pc60_c5 : PCode := .ret
def pc60_c6 : PCode := .seq pc60_c4 pc60_c5
def pc60_c7 : PCode := .skip
def pc60_c8 : PCode := .cond (Operand.tmp 5) pc60_c6 pc60_c7
def pc60_c9 : PCode := .seq pc60_c3 pc60_c8
def pc60_o10 : List POper := [{ dst := some 12, op := POp.mv (Operand.tmp 3), guard := none, hints := [] },
  { dst := some 13, op := POp.mv (Operand.tmp 0), guard := none, hints := [] },
  { dst := some 14, op := POp.prim (Prim.bin BinOp.and 89 false true) [Operand.tmp 13, Operand.const (Value.int IntKind.u64 127)], guard := none, hints := [] },
  { dst := some 15, op := POp.prim (Prim.conv 89 5) [Operand.tmp 14], guard := none, hints := [] },
  { dst := some 16, op := POp.prim (Prim.bin BinOp.or 5 false true) [Operand.tmp 15, Operand.const (Value.int IntKind.u8 128)], guard := none, hints := [] },
  { dst := some 17, op := POp.bslice 5 1 [Operand.tmp 16], guard := none, hints := [] },
  { dst := some 18, op := POp.b2s (Operand.tmp 17), guard := none, hints := [] },
  { dst := some 19, op := POp.prim (Prim.bin BinOp.add 9 false false) [Operand.tmp 12, Operand.tmp 18], guard := none, hints := [] },
  { dst := some 3, op := POp.mv (Operand.tmp 19), guard := none, hints := [] }]
def pc60_c10 : PCode := .region none false pc60_o10
def pc60_o11 : List POper := [{ dst := some 20, op := POp.mv (Operand.tmp 0), guard := none, hints := [] },
  { dst := some 21, op := POp.prim (Prim.bin BinOp.shr 89 false true) [Operand.tmp 20, Operand.const (Value.int IntKind.u64 7)], guard := none, hints := [] },
  { dst := some 0, op := POp.mv (Operand.tmp 21), guard := none, hints := [] }]
def pc60_c11 : PCode := .region none false pc60_o11
def pc60_c12 : PCode := .seq pc60_c10 pc60_c11
def pc60_c13 : PCode := .seq pc60_c9 pc60_c12
def pc60_c14 : PCode := .block 1 pc60_c13
def pc60_c15 : PCode := .loop pc60_c14
def pc60_c16 : PCode := .block 0 pc60_c15
def pc60_c17 : PCode := .seq pc60_c2 pc60_c16
def pc60_c18 : PCode := .seq pc60_c1 pc60_c17
def pc60_r : List PRes := [PRes.tmp 2 []]
def pc60 : PFunc := ⟨22, pc60_r, pc60_c18, false⟩
def pc60_a : Ann := {
  kr := fun
    | 2 => some ([0, 3], [], [])
    | _ => none
  ka := fun
    | _ => 0
  kh := fun
    | _ => none
  ow := fun t => match t with
    | 96 => [(1, 5, 1)]
    | _ => []
  tc := fun t => match t with
    | 96 => true
    | _ => false }
theorem pc60_ok : compFn Try.prog pc60_a Try.f60 = some pc60 := by kernel_rfl


-- 61: vedette/vedetteref1.Text
def pc61_o1 : List POper := [{ dst := some 2, op := POp.mv (Operand.const (Value.string { data := { toList := [] } })), guard := none, hints := [] }]
def pc61_c1 : PCode := .region none false pc61_o1
def pc61_o2 : List POper := [{ dst := some 3, op := POp.mv (Operand.tmp 0), guard := none, hints := [] },
  { dst := some 4, op := POp.prim (Prim.len 9) [Operand.tmp 3], guard := none, hints := [] },
  { dst := some 5, op := POp.prim (Prim.conv 3 89) [Operand.tmp 4], guard := none, hints := [] },
  { dst := some 6, op := POp.call true [[]] 60 [Operand.tmp 5], guard := none, hints := [] },
  { dst := some 7, op := POp.mv (Operand.tmp 0), guard := none, hints := [] },
  { dst := some 8, op := POp.prim (Prim.bin BinOp.add 9 false false) [Operand.tmp 6, Operand.tmp 7], guard := none, hints := [] },
  { dst := some 2, op := POp.mv (Operand.tmp 8), guard := none, hints := [] }]
def pc61_c2 : PCode := .region none false pc61_o2
def pc61_c3 : PCode := .ret
def pc61_c4 : PCode := .seq pc61_c2 pc61_c3
def pc61_c5 : PCode := .seq pc61_c1 pc61_c4
def pc61_r : List PRes := [PRes.tmp 2 []]
def pc61 : PFunc := ⟨9, pc61_r, pc61_c5, false⟩
def pc61_a : Ann := {
  kr := fun
    | _ => none
  ka := fun
    | _ => 0
  kh := fun
    | _ => none
  ow := fun t => match t with
    | 96 => [(1, 5, 1)]
    | _ => []
  tc := fun t => match t with
    | 96 => true
    | _ => false }
theorem pc61_ok : compFn Try.prog pc61_a Try.f61 = some pc61 := by kernel_rfl


-- 98: vedette/vedetteref1.Zig
def pc98_o1 : List POper := [{ dst := some 2, op := POp.mv (Operand.const (Value.int IntKind.u64 0)), guard := none, hints := [] }]
def pc98_c1 : PCode := .region none false pc98_o1
def pc98_o2 : List POper := [{ dst := some 3, op := POp.mv (Operand.tmp 0), guard := none, hints := [] },
  { dst := some 4, op := POp.prim (Prim.conv 2 89) [Operand.tmp 3], guard := none, hints := [] },
  { dst := some 5, op := POp.prim (Prim.bin BinOp.shl 89 false true) [Operand.tmp 4, Operand.const (Value.int IntKind.u64 1)], guard := none, hints := [] },
  { dst := some 6, op := POp.mv (Operand.tmp 0), guard := none, hints := [] },
  { dst := some 7, op := POp.prim (Prim.bin BinOp.shr 2 false true) [Operand.tmp 6, Operand.const (Value.int IntKind.u64 63)], guard := none, hints := [] },
  { dst := some 8, op := POp.prim (Prim.conv 2 89) [Operand.tmp 7], guard := none, hints := [] },
  { dst := some 9, op := POp.prim (Prim.bin BinOp.xor 89 false false) [Operand.tmp 5, Operand.tmp 8], guard := none, hints := [] },
  { dst := some 2, op := POp.mv (Operand.tmp 9), guard := none, hints := [] }]
def pc98_c2 : PCode := .region none false pc98_o2
def pc98_c3 : PCode := .ret
def pc98_c4 : PCode := .seq pc98_c2 pc98_c3
def pc98_c5 : PCode := .seq pc98_c1 pc98_c4
def pc98_r : List PRes := [PRes.tmp 2 []]
def pc98 : PFunc := ⟨10, pc98_r, pc98_c5, false⟩
def pc98_a : Ann := {
  kr := fun
    | _ => none
  ka := fun
    | _ => 0
  kh := fun
    | _ => none
  ow := fun t => match t with
    | 96 => [(1, 5, 1)]
    | _ => []
  tc := fun t => match t with
    | 96 => true
    | _ => false }
theorem pc98_ok : compFn Try.prog pc98_a Try.f98 = some pc98 := by kernel_rfl


-- 62: vedette/vedetteref1.Int
def pc62_o1 : List POper := [{ dst := some 2, op := POp.mv (Operand.const (Value.string { data := { toList := [] } })), guard := none, hints := [] }]
def pc62_c1 : PCode := .region none false pc62_o1
def pc62_o2 : List POper := [{ dst := some 3, op := POp.mv (Operand.tmp 0), guard := none, hints := [] },
  { dst := some 4, op := POp.call true [[]] 98 [Operand.tmp 3], guard := none, hints := [] },
  { dst := some 5, op := POp.call true [[]] 60 [Operand.tmp 4], guard := none, hints := [] },
  { dst := some 2, op := POp.mv (Operand.tmp 5), guard := none, hints := [] }]
def pc62_c2 : PCode := .region none false pc62_o2
def pc62_c3 : PCode := .ret
def pc62_c4 : PCode := .seq pc62_c2 pc62_c3
def pc62_c5 : PCode := .seq pc62_c1 pc62_c4
def pc62_r : List PRes := [PRes.tmp 2 []]
def pc62 : PFunc := ⟨6, pc62_r, pc62_c5, false⟩
def pc62_a : Ann := {
  kr := fun
    | _ => none
  ka := fun
    | _ => 0
  kh := fun
    | _ => none
  ow := fun t => match t with
    | 96 => [(1, 5, 1)]
    | _ => []
  tc := fun t => match t with
    | 96 => true
    | _ => false }
theorem pc62_ok : compFn Try.prog pc62_a Try.f62 = some pc62 := by kernel_rfl


-- 19: vedette/vedetteref6.Bytes
def pc19_o1 : List POper := [{ dst := some 1, op := POp.box 35 (Operand.tmp 0) [], guard := none, hints := [] },
  { dst := some 2, op := POp.mv (Operand.const (Value.string { data := { toList := [] } })), guard := none, hints := [] }]
def pc19_c1 : PCode := .region none false pc19_o1
def pc19_o2 : List POper := [{ dst := some 5, op := POp.faddr 0 (Operand.tmp 1), guard := none, hints := [(1, Hint.at_ 1 0)] },
  { dst := some 6, op := POp.load false 1 (Operand.tmp 5), guard := none, hints := [(5, Hint.at_ 1 0)] },
  { dst := some 7, op := POp.prim (Prim.conv 3 89) [Operand.tmp 6], guard := none, hints := [(6, Hint.imm)] },
  { dst := some 8, op := POp.call false [[]] 60 [Operand.tmp 7], guard := none, hints := [(7, Hint.imm)] },
  { dst := some 9, op := POp.faddr 1 (Operand.tmp 1), guard := none, hints := [(1, Hint.at_ 1 0)] },
  { dst := some 10, op := POp.load false 1 (Operand.tmp 9), guard := none, hints := [(9, Hint.at_ 1 1)] },
  { dst := some 11, op := POp.prim (Prim.conv 5 89) [Operand.tmp 10], guard := none, hints := [(10, Hint.imm)] },
  { dst := some 12, op := POp.call false [[]] 60 [Operand.tmp 11], guard := none, hints := [(11, Hint.imm)] },
  { dst := some 13, op := POp.prim (Prim.bin BinOp.add 9 false false) [Operand.tmp 8, Operand.tmp 12], guard := none, hints := [(8, Hint.imm), (12, Hint.imm)] },
  { dst := some 3, op := POp.mv (Operand.tmp 13), guard := none, hints := [(13, Hint.imm)] }]
def pc19_c2 : PCode := .region none true pc19_o2
def pc19_o3 : List POper := [{ dst := some 14, op := POp.faddr 1 (Operand.tmp 1), guard := none, hints := [] },
  { dst := some 15, op := POp.load false 1 (Operand.tmp 14), guard := none, hints := [] },
  { dst := some 16, op := POp.prim (Prim.bin BinOp.and 5 false true) [Operand.tmp 15, Operand.const (Value.int IntKind.u8 1)], guard := none, hints := [] },
  { dst := some 17, op := POp.prim (Prim.bin BinOp.neq 5 false true) [Operand.tmp 16, Operand.const (Value.int IntKind.u8 0)], guard := none, hints := [] }]
def pc19_c3 : PCode := .region none false pc19_o3
def pc19_o4 : List POper := [{ dst := some 18, op := POp.mv (Operand.tmp 3), guard := none, hints := [(3, Hint.imm)] },
  { dst := some 19, op := POp.faddr 2 (Operand.tmp 1), guard := none, hints := [(1, Hint.at_ 1 0)] },
  { dst := some 20, op := POp.faddr 0 (Operand.tmp 19), guard := none, hints := [(19, Hint.at_ 1 2)] },
  { dst := some 21, op := POp.load false 1 (Operand.tmp 20), guard := none, hints := [(20, Hint.at_ 1 2)] },
  { dst := some 22, op := POp.prim (Prim.conv 3 89) [Operand.tmp 21], guard := none, hints := [(21, Hint.imm)] },
  { dst := some 23, op := POp.call false [[]] 60 [Operand.tmp 22], guard := none, hints := [(22, Hint.imm)] },
  { dst := some 24, op := POp.prim (Prim.bin BinOp.add 9 false false) [Operand.tmp 18, Operand.tmp 23], guard := none, hints := [(18, Hint.imm), (23, Hint.imm)] },
  { dst := some 25, op := POp.faddr 2 (Operand.tmp 1), guard := none, hints := [(1, Hint.at_ 1 0)] },
  { dst := some 26, op := POp.faddr 1 (Operand.tmp 25), guard := none, hints := [(25, Hint.at_ 1 2)] },
  { dst := some 27, op := POp.load false 1 (Operand.tmp 26), guard := none, hints := [(26, Hint.at_ 1 3)] },
  { dst := some 28, op := POp.prim (Prim.conv 3 89) [Operand.tmp 27], guard := none, hints := [(27, Hint.imm)] },
  { dst := some 29, op := POp.call false [[]] 60 [Operand.tmp 28], guard := none, hints := [(28, Hint.imm)] },
  { dst := some 30, op := POp.prim (Prim.bin BinOp.add 9 false false) [Operand.tmp 24, Operand.tmp 29], guard := none, hints := [(24, Hint.imm), (29, Hint.imm)] },
  { dst := some 3, op := POp.mv (Operand.tmp 30), guard := none, hints := [(30, Hint.imm)] }]
def pc19_c4 : PCode := .region none true pc19_o4
def pc19_c5 : PCode := .skip
def pc19_c6 : PCode := .cond (Operand.tmp 17) pc19_c4 pc19_c5
def pc19_c7 : PCode := .seq pc19_c3 pc19_c6
def pc19_o8 : List POper := [{ dst := some 4, op := POp.mv (Operand.const (Value.int IntKind.i64 0)), guard := none, hints := [] }]
def pc19_c8 : PCode := .region (some ([1, 3], [1], [])) false pc19_o8
def pc19_o9 : List POper := [{ dst := some 31, op := POp.mv (Operand.tmp 4), guard := none, hints := [] },
  { dst := some 32, op := POp.prim (Prim.bin BinOp.lss 3 false true) [Operand.tmp 31, Operand.const (Value.int IntKind.i64 4)], guard := none, hints := [] }]
def pc19_c9 : PCode := .region (some ([1, 3, 4], [1], [])) false pc19_o9
def pc19_c10 : PCode := .skip
def pc19_c11 : PCode := .exit 0
def pc19_c12 : PCode := .cond (Operand.tmp 32) pc19_c10 pc19_c11
def pc19_c13 : PCode := .seq pc19_c9 pc19_c12
def pc19_o14 : List POper := [{ dst := some 35, op := POp.faddr 1 (Operand.tmp 1), guard := none, hints := [] },
  { dst := some 36, op := POp.load false 1 (Operand.tmp 35), guard := none, hints := [] },
  { dst := some 37, op := POp.mv (Operand.tmp 4), guard := none, hints := [] },
  { dst := some 38, op := POp.prim (Prim.bin BinOp.add 3 false true) [Operand.tmp 37, Operand.const (Value.int IntKind.i64 1)], guard := none, hints := [] },
  { dst := some 39, op := POp.prim (Prim.conv 3 90) [Operand.tmp 38], guard := none, hints := [] },
  { dst := some 40, op := POp.prim (Prim.bin BinOp.shr 5 false false) [Operand.tmp 36, Operand.tmp 39], guard := none, hints := [] },
  { dst := some 41, op := POp.prim (Prim.bin BinOp.and 5 false true) [Operand.tmp 40, Operand.const (Value.int IntKind.u8 1)], guard := none, hints := [] },
  { dst := some 42, op := POp.prim (Prim.bin BinOp.neq 5 false true) [Operand.tmp 41, Operand.const (Value.int IntKind.u8 0)], guard := none, hints := [] }]
def pc19_c14 : PCode := .region none false pc19_o14
def pc19_o15 : List POper := [{ dst := some 43, op := POp.mv (Operand.tmp 3), guard := none, hints := [] },
  { dst := some 44, op := POp.mv (Operand.tmp 4), guard := none, hints := [] },
  { dst := some 45, op := POp.faddr 4 (Operand.tmp 1), guard := none, hints := [] },
  { dst := some 46, op := POp.iaddrA 4 2 (Operand.tmp 45) (Operand.tmp 44), guard := none, hints := [] },
  { dst := some 47, op := POp.faddr 1 (Operand.tmp 46), guard := none, hints := [] },
  { dst := some 48, op := POp.load false 1 (Operand.tmp 47), guard := none, hints := [] },
  { dst := some 49, op := POp.call true [[]] 61 [Operand.tmp 48], guard := none, hints := [] },
  { dst := some 50, op := POp.prim (Prim.bin BinOp.add 9 false false) [Operand.tmp 43, Operand.tmp 49], guard := none, hints := [] },
  { dst := some 3, op := POp.mv (Operand.tmp 50), guard := none, hints := [] }]
def pc19_c15 : PCode := .region none false pc19_o15
def pc19_o16 : List POper := [{ dst := some 51, op := POp.mv (Operand.tmp 4), guard := none, hints := [] },
  { dst := some 52, op := POp.faddr 4 (Operand.tmp 1), guard := none, hints := [] },
  { dst := some 53, op := POp.iaddrA 4 2 (Operand.tmp 52) (Operand.tmp 51), guard := none, hints := [] },
  { dst := some 54, op := POp.faddr 1 (Operand.tmp 53), guard := none, hints := [] },
  { dst := some 55, op := POp.load false 1 (Operand.tmp 54), guard := none, hints := [] },
  { dst := some 56, op := POp.prim (Prim.bin BinOp.eql 9 false true) [Operand.tmp 55, Operand.const (Value.string { data := { toList := [] } })], guard := none, hints := [] }]
def pc19_c16 : PCode := .region none false pc19_o16
def pc19_o17 : List POper := [{ dst := some 57, op := POp.mv (Operand.tmp 3), guard := none, hints := [] },
  { dst := some 58, op := POp.mv (Operand.tmp 4), guard := none, hints := [] },
  { dst := some 59, op := POp.faddr 4 (Operand.tmp 1), guard := none, hints := [] },
  { dst := some 60, op := POp.iaddrA 4 2 (Operand.tmp 59) (Operand.tmp 58), guard := none, hints := [] },
  { dst := some 61, op := POp.faddr 0 (Operand.tmp 60), guard := none, hints := [] },
  { dst := some 62, op := POp.load false 1 (Operand.tmp 61), guard := none, hints := [] },
  { dst := some 63, op := POp.call true [[]] 62 [Operand.tmp 62], guard := none, hints := [] },
  { dst := some 64, op := POp.prim (Prim.bin BinOp.add 9 false false) [Operand.tmp 57, Operand.tmp 63], guard := none, hints := [] },
  { dst := some 3, op := POp.mv (Operand.tmp 64), guard := none, hints := [] }]
def pc19_c17 : PCode := .region none false pc19_o17
def pc19_c18 : PCode := .skip
def pc19_c19 : PCode := .cond (Operand.tmp 56) pc19_c17 pc19_c18
def pc19_c20 : PCode := .seq pc19_c16 pc19_c19
def pc19_c21 : PCode := .seq pc19_c15 pc19_c20
def pc19_c22 : PCode := .skip
def pc19_c23 : PCode := .cond (Operand.tmp 42) pc19_c21 pc19_c22
def pc19_c24 : PCode := .seq pc19_c14 pc19_c23
def pc19_c25 : PCode := .block 1 pc19_c24
def pc19_o26 : List POper := [{ dst := some 33, op := POp.mv (Operand.tmp 4), guard := none, hints := [] },
  { dst := some 34, op := POp.prim (Prim.bin BinOp.add 3 false true) [Operand.tmp 33, Operand.const (Value.int IntKind.i64 1)], guard := none, hints := [] },
  { dst := some 4, op := POp.mv (Operand.tmp 34), guard := none, hints := [] }]
def pc19_c26 : PCode := .region none false pc19_o26
def pc19_c27 : PCode := .seq pc19_c25 pc19_c26
def pc19_c28 : PCode := .seq pc19_c13 pc19_c27
def pc19_c29 : PCode := .loop pc19_c28
def pc19_c30 : PCode := .block 0 pc19_c29
def pc19_c31 : PCode := .seq pc19_c8 pc19_c30
def pc19_o32 : List POper := [{ dst := some 65, op := POp.mv (Operand.tmp 3), guard := none, hints := [] },
  { dst := some 2, op := POp.mv (Operand.tmp 65), guard := none, hints := [] }]
def pc19_c32 : PCode := .region none false pc19_o32
def pc19_c33 : PCode := .ret
def pc19_c34 : PCode := .seq pc19_c32 pc19_c33
def pc19_c35 : PCode := .seq pc19_c31 pc19_c34
def pc19_c36 : PCode := .seq pc19_c7 pc19_c35
def pc19_c37 : PCode := .seq pc19_c2 pc19_c36
def pc19_c38 : PCode := .seq pc19_c1 pc19_c37
def pc19_r : List PRes := [PRes.tmp 2 []]
def pc19 : PFunc := ⟨66, pc19_r, pc19_c38, false⟩
def pc19_a : Ann := {
  kr := fun
    | 4 => some ([1, 3], [1], [])
    | 5 => some ([1, 3, 4], [1], [])
    | _ => none
  ka := fun
    | _ => 0
  kh := fun
    | 1 => some (Hint.at_ 1 0)
    | 3 => some (Hint.imm)
    | 5 => some (Hint.at_ 1 0)
    | 6 => some (Hint.imm)
    | 7 => some (Hint.imm)
    | 8 => some (Hint.imm)
    | 9 => some (Hint.at_ 1 1)
    | 10 => some (Hint.imm)
    | 11 => some (Hint.imm)
    | 12 => some (Hint.imm)
    | 13 => some (Hint.imm)
    | 18 => some (Hint.imm)
    | 19 => some (Hint.at_ 1 2)
    | 20 => some (Hint.at_ 1 2)
    | 21 => some (Hint.imm)
    | 22 => some (Hint.imm)
    | 23 => some (Hint.imm)
    | 24 => some (Hint.imm)
    | 25 => some (Hint.at_ 1 2)
    | 26 => some (Hint.at_ 1 3)
    | 27 => some (Hint.imm)
    | 28 => some (Hint.imm)
    | 29 => some (Hint.imm)
    | 30 => some (Hint.imm)
    | _ => none
  ow := fun t => match t with
    | 96 => [(1, 5, 1)]
    | _ => []
  tc := fun t => match t with
    | 96 => true
    | _ => false }
theorem pc19_ok : compFn Try.prog pc19_a Try.f19 = some pc19 := by kernel_rfl


-- 20: vedette/vedetteref6.Full
def pc20_o1 : List POper := [{ dst := some 1, op := POp.box 28 (Operand.tmp 0) [], guard := none, hints := [] },
  { dst := some 2, op := POp.alloc 35 (Value.agg { toList := [Value.int IntKind.i64 0, Value.int IntKind.u8 0, Value.int IntKind.i64 0, Value.int IntKind.i64 0, Value.int IntKind.i64 0, Value.string { data := { toList := [] } }, Value.int IntKind.i64 0, Value.string { data := { toList := [] } }, Value.int IntKind.i64 0, Value.string { data := { toList := [] } }, Value.int IntKind.i64 0, Value.string { data := { toList := [] } }] }) [], guard := none, hints := [] }]
def pc20_c1 : PCode := .region none false pc20_o1
def pc20_o2 : List POper := [{ dst := some 3, op := POp.faddr 0 (Operand.tmp 1), guard := none, hints := [] },
  { dst := some 4, op := POp.load false 1 (Operand.tmp 3), guard := none, hints := [] },
  { dst := some 5, op := POp.faddr 1 (Operand.tmp 1), guard := none, hints := [] },
  { dst := some 6, op := POp.load true 2 (Operand.tmp 5), guard := none, hints := [] },
  { dst := some 7, op := POp.faddr 3 (Operand.tmp 1), guard := none, hints := [] },
  { dst := some 8, op := POp.load true 8 (Operand.tmp 7), guard := none, hints := [] },
  { dst := some 9, op := POp.build (Value.agg { toList := [Value.int IntKind.i64 0, Value.int IntKind.u8 0, Value.int IntKind.i64 0, Value.int IntKind.i64 0, Value.int IntKind.i64 0, Value.string { data := { toList := [] } }, Value.int IntKind.i64 0, Value.string { data := { toList := [] } }, Value.int IntKind.i64 0, Value.string { data := { toList := [] } }, Value.int IntKind.i64 0, Value.string { data := { toList := [] } }] }) [(0, 1, Operand.tmp 4), (1, 1, Operand.const (Value.int IntKind.u8 31)), (2, 2, Operand.tmp 6), (4, 8, Operand.tmp 8)], guard := none, hints := [] },
  { dst := none, op := POp.store 12 (Operand.tmp 2) (Operand.tmp 9), guard := none, hints := [] }]
def pc20_c2 : PCode := .region none false pc20_o2
def pc20_c3 : PCode := .ret
def pc20_c4 : PCode := .seq pc20_c2 pc20_c3
def pc20_c5 : PCode := .seq pc20_c1 pc20_c4
def pc20_r : List PRes := [PRes.cell 2 true 12 []]
def pc20 : PFunc := ⟨10, pc20_r, pc20_c5, false⟩
def pc20_a : Ann := {
  kr := fun
    | _ => none
  ka := fun
    | _ => 0
  kh := fun
    | _ => none
  ow := fun t => match t with
    | 96 => [(1, 5, 1)]
    | _ => []
  tc := fun t => match t with
    | 96 => true
    | _ => false }
theorem pc20_ok : compFn Try.prog pc20_a Try.f20 = some pc20 := by kernel_rfl


end Go.Proofs.Ytobeamaaifgllaa
