/-
  Code of functions, as the pure machine runs it. No condition.
-/
import Derived.Test.YthmbegagkgdopaaFieldsOneT
namespace Go.Proofs.Ythmbegagkgdopaa
open Go Go.Rx
set_option maxRecDepth 100000
set_option linter.unusedVariables false
set_option linter.unusedSimpArgs false
set_option linter.unnecessarySimpa false
-- 3: vedette/vedettelaw6.FieldsTell
def pc3_o1 : List POper := [{ dst := some 4, op := POp.box 28 (Operand.tmp 0), guard := none, hints := [] },
  { dst := some 5, op := POp.box 28 (Operand.tmp 1), guard := none, hints := [] },
  { dst := some 6, op := POp.box 30 (Operand.tmp 2), guard := none, hints := [] },
  { dst := some 7, op := POp.box 25 (Operand.tmp 3), guard := none, hints := [] },
  { dst := some 8, op := POp.mv (Operand.const (Value.bool false)), guard := none, hints := [] }]
def pc3_c1 : PCode := .region none false pc3_o1
def pc3_o2 : List POper := [{ dst := some 16, op := POp.call true [] 14 [], guard := none, hints := [] },
  { dst := some 17, op := POp.prim (Prim.un UnOp.not) [Operand.tmp 16], guard := none, hints := [] }]
def pc3_c2 : PCode := .region none false pc3_o2
def pc3_o3 : List POper := [{ dst := some 8, op := POp.mv (Operand.const (Value.bool false)), guard := none, hints := [] }]
def pc3_c3 : PCode := .region none false pc3_o3
def pc3_c4 : PCode := .ret
def pc3_c5 : PCode := .seq pc3_c3 pc3_c4
def pc3_c6 : PCode := .skip
def pc3_c7 : PCode := .cond (Operand.tmp 17) pc3_c5 pc3_c6
def pc3_c8 : PCode := .seq pc3_c2 pc3_c7
def pc3_o9 : List POper := [{ dst := some 18, op := POp.load true 11 (Operand.tmp 4), guard := none, hints := [] },
  { dst := some 19, op := POp.call true [[]] 15 [Operand.tmp 18], guard := none, hints := [] },
  { dst := some 20, op := POp.prim (Prim.un UnOp.not) [Operand.tmp 19], guard := none, hints := [] },
  { dst := some 21, op := POp.mv (Operand.tmp 20), guard := none, hints := [] },
  { dst := some 22, op := POp.load true 11 (Operand.tmp 5), guard := some (21, false), hints := [] },
  { dst := some 23, op := POp.call true [[]] 15 [Operand.tmp 22], guard := some (21, false), hints := [] },
  { dst := some 24, op := POp.prim (Prim.un UnOp.not) [Operand.tmp 23], guard := some (21, false), hints := [] },
  { dst := some 25, op := POp.pick (Operand.tmp 21) (Operand.const (Value.bool true)) (Operand.tmp 24), guard := none, hints := [] },
  { dst := some 26, op := POp.mv (Operand.tmp 25), guard := none, hints := [] },
  { dst := some 27, op := POp.load true 12 (Operand.tmp 6), guard := some (26, false), hints := [] },
  { dst := some 28, op := POp.call true [[]] 16 [Operand.tmp 27], guard := some (26, false), hints := [] },
  { dst := some 29, op := POp.prim (Prim.un UnOp.not) [Operand.tmp 28], guard := some (26, false), hints := [] },
  { dst := some 30, op := POp.pick (Operand.tmp 26) (Operand.const (Value.bool true)) (Operand.tmp 29), guard := none, hints := [] },
  { dst := some 31, op := POp.mv (Operand.tmp 30), guard := none, hints := [] },
  { dst := some 32, op := POp.load true 2 (Operand.tmp 7), guard := some (31, false), hints := [] },
  { dst := some 33, op := POp.call true [[]] 17 [Operand.tmp 32], guard := some (31, false), hints := [] },
  { dst := some 34, op := POp.prim (Prim.un UnOp.not) [Operand.tmp 33], guard := some (31, false), hints := [] },
  { dst := some 35, op := POp.pick (Operand.tmp 31) (Operand.const (Value.bool true)) (Operand.tmp 34), guard := none, hints := [] }]
def pc3_c9 : PCode := .region none false pc3_o9
def pc3_o10 : List POper := [{ dst := some 8, op := POp.mv (Operand.const (Value.bool true)), guard := none, hints := [] }]
def pc3_c10 : PCode := .region none false pc3_o10
def pc3_c11 : PCode := .ret
def pc3_c12 : PCode := .seq pc3_c10 pc3_c11
def pc3_c13 : PCode := .skip
def pc3_c14 : PCode := .cond (Operand.tmp 35) pc3_c12 pc3_c13
def pc3_c15 : PCode := .seq pc3_c9 pc3_c14
def pc3_o16 : List POper := [{ dst := some 37, op := POp.load true 11 (Operand.tmp 4), guard := none, hints := [] },
  { dst := some 38, op := POp.load true 11 (Operand.tmp 5), guard := none, hints := [] },
  { dst := some 39, op := POp.call true [[], []] 18 [Operand.tmp 37, Operand.tmp 38], guard := none, hints := [] },
  { dst := some 36, op := POp.mv (Operand.tmp 39), guard := none, hints := [] },
  { dst := some 40, op := POp.ext (Operand.tmp 36) 0, guard := none, hints := [] },
  { dst := some 41, op := POp.ext (Operand.tmp 36) 1, guard := none, hints := [] },
  { dst := some 9, op := POp.alloc 30 (Value.agg { toList := [Value.int IntKind.i64 0, Value.int IntKind.u8 0, Value.int IntKind.i64 0, Value.int IntKind.i64 0, Value.int IntKind.i64 0, Value.string { data := { toList := [] } }, Value.int IntKind.i64 0, Value.string { data := { toList := [] } }, Value.int IntKind.i64 0, Value.string { data := { toList := [] } }, Value.int IntKind.i64 0, Value.string { data := { toList := [] } }] }), guard := none, hints := [] },
  { dst := none, op := POp.store 12 (Operand.tmp 9) (Operand.tmp 40), guard := none, hints := [] },
  { dst := some 10, op := POp.mv (Operand.tmp 41), guard := none, hints := [] }]
def pc3_c16 : PCode := .region none false pc3_o16
def pc3_o17 : List POper := [{ dst := some 43, op := POp.load true 11 (Operand.tmp 4), guard := none, hints := [] },
  { dst := some 44, op := POp.load true 11 (Operand.tmp 5), guard := none, hints := [] },
  { dst := some 45, op := POp.call true [[], []] 19 [Operand.tmp 43, Operand.tmp 44], guard := none, hints := [] },
  { dst := some 42, op := POp.mv (Operand.tmp 45), guard := none, hints := [] },
  { dst := some 46, op := POp.ext (Operand.tmp 42) 0, guard := none, hints := [] },
  { dst := some 47, op := POp.ext (Operand.tmp 42) 1, guard := none, hints := [] },
  { dst := some 11, op := POp.alloc 30 (Value.agg { toList := [Value.int IntKind.i64 0, Value.int IntKind.u8 0, Value.int IntKind.i64 0, Value.int IntKind.i64 0, Value.int IntKind.i64 0, Value.string { data := { toList := [] } }, Value.int IntKind.i64 0, Value.string { data := { toList := [] } }, Value.int IntKind.i64 0, Value.string { data := { toList := [] } }, Value.int IntKind.i64 0, Value.string { data := { toList := [] } }] }), guard := none, hints := [] },
  { dst := none, op := POp.store 12 (Operand.tmp 11) (Operand.tmp 46), guard := none, hints := [] },
  { dst := some 12, op := POp.mv (Operand.tmp 47), guard := none, hints := [] }]
def pc3_c17 : PCode := .region none false pc3_o17
def pc3_o18 : List POper := [{ dst := some 49, op := POp.load true 12 (Operand.tmp 6), guard := none, hints := [] },
  { dst := some 50, op := POp.call true [[]] 20 [Operand.tmp 49], guard := none, hints := [] },
  { dst := some 48, op := POp.mv (Operand.tmp 50), guard := none, hints := [] },
  { dst := some 51, op := POp.ext (Operand.tmp 48) 0, guard := none, hints := [] },
  { dst := some 52, op := POp.ext (Operand.tmp 48) 1, guard := none, hints := [] },
  { dst := some 13, op := POp.mv (Operand.tmp 51), guard := none, hints := [] },
  { dst := some 14, op := POp.mv (Operand.tmp 52), guard := none, hints := [] }]
def pc3_c18 : PCode := .region none false pc3_o18
def pc3_o19 : List POper := [{ dst := some 15, op := POp.mv (Operand.const (Value.string { data := { toList := [] } })), guard := none, hints := [] }]
def pc3_c19 : PCode := .region none false pc3_o19
def pc3_o20 : List POper := [{ dst := some 53, op := POp.load true 12 (Operand.tmp 6), guard := none, hints := [] },
  { dst := some 54, op := POp.call true [[]] 21 [Operand.tmp 53], guard := none, hints := [] }]
def pc3_c20 : PCode := .region none false pc3_o20
def pc3_o21 : List POper := [{ dst := some 55, op := POp.load true 12 (Operand.tmp 6), guard := none, hints := [] },
  { dst := some 56, op := POp.call true [[]] 22 [Operand.tmp 55], guard := none, hints := [] },
  { dst := some 15, op := POp.mv (Operand.tmp 56), guard := none, hints := [] }]
def pc3_c21 : PCode := .region none false pc3_o21
def pc3_c22 : PCode := .skip
def pc3_c23 : PCode := .cond (Operand.tmp 54) pc3_c21 pc3_c22
def pc3_c24 : PCode := .seq pc3_c20 pc3_c23
def pc3_o25 : List POper := [{ dst := some 57, op := POp.mv (Operand.tmp 10), guard := none, hints := [(10, Hint.imm)] },
  { dst := some 58, op := POp.mv (Operand.tmp 12), guard := none, hints := [(12, Hint.imm)] },
  { dst := some 59, op := POp.prim (Prim.bin BinOp.eql 4 false false) [Operand.tmp 57, Operand.tmp 58], guard := none, hints := [(57, Hint.imm), (58, Hint.imm)] },
  { dst := some 60, op := POp.mv (Operand.tmp 59), guard := none, hints := [(59, Hint.imm)] },
  { dst := some 61, op := POp.mv (Operand.tmp 10), guard := some (60, true), hints := [(10, Hint.imm)] },
  { dst := some 62, op := POp.prim (Prim.un UnOp.not) [Operand.tmp 61], guard := some (60, true), hints := [(61, Hint.imm)] },
  { dst := some 63, op := POp.mv (Operand.tmp 62), guard := some (60, true), hints := [(62, Hint.imm)] },
  { dst := some 64, op := POp.load true 12 (Operand.tmp 9), guard := some (63, false), hints := [(9, Hint.at_ 9 0)] },
  { dst := some 65, op := POp.load true 12 (Operand.tmp 11), guard := some (63, false), hints := [(11, Hint.at_ 11 0)] },
  { dst := some 66, op := POp.prim (Prim.bin BinOp.eql 30 false false) [Operand.tmp 64, Operand.tmp 65], guard := some (63, false), hints := [(64, Hint.imm), (65, Hint.imm)] },
  { dst := some 67, op := POp.pick (Operand.tmp 63) (Operand.const (Value.bool true)) (Operand.tmp 66), guard := some (60, true), hints := [(63, Hint.imm), (66, Hint.imm)] },
  { dst := some 68, op := POp.pick (Operand.tmp 60) (Operand.tmp 67) (Operand.const (Value.bool false)), guard := none, hints := [(60, Hint.imm), (67, Hint.imm)] },
  { dst := some 69, op := POp.mv (Operand.tmp 68), guard := none, hints := [(68, Hint.imm)] },
  { dst := some 70, op := POp.load true 11 (Operand.tmp 4), guard := some (69, true), hints := [(4, Hint.at_ 4 0)] },
  { dst := some 71, op := POp.load true 12 (Operand.tmp 6), guard := some (69, true), hints := [(6, Hint.at_ 6 0)] },
  { dst := some 72, op := POp.call false [[], []] 23 [Operand.tmp 70, Operand.tmp 71], guard := some (69, true), hints := [(70, Hint.imm), (71, Hint.imm)] },
  { dst := some 73, op := POp.load true 11 (Operand.tmp 4), guard := some (69, true), hints := [(4, Hint.at_ 4 0)] },
  { dst := some 74, op := POp.load true 12 (Operand.tmp 6), guard := some (69, true), hints := [(6, Hint.at_ 6 0)] },
  { dst := some 75, op := POp.call false [[], []] 24 [Operand.tmp 73, Operand.tmp 74], guard := some (69, true), hints := [(73, Hint.imm), (74, Hint.imm)] },
  { dst := some 76, op := POp.prim (Prim.bin BinOp.eql 28 false false) [Operand.tmp 72, Operand.tmp 75], guard := some (69, true), hints := [(72, Hint.imm), (75, Hint.imm)] },
  { dst := some 77, op := POp.pick (Operand.tmp 69) (Operand.tmp 76) (Operand.const (Value.bool false)), guard := none, hints := [(69, Hint.imm), (76, Hint.imm)] },
  { dst := some 78, op := POp.mv (Operand.tmp 77), guard := none, hints := [(77, Hint.imm)] },
  { dst := some 79, op := POp.load true 12 (Operand.tmp 6), guard := some (78, true), hints := [(6, Hint.at_ 6 0)] },
  { dst := some 80, op := POp.call false [[]] 25 [Operand.tmp 79], guard := some (78, true), hints := [(79, Hint.imm)] },
  { dst := some 81, op := POp.load true 12 (Operand.tmp 6), guard := some (78, true), hints := [(6, Hint.at_ 6 0)] },
  { dst := some 82, op := POp.call false [[]] 21 [Operand.tmp 81], guard := some (78, true), hints := [(81, Hint.imm)] },
  { dst := some 83, op := POp.prim (Prim.bin BinOp.eql 4 false false) [Operand.tmp 80, Operand.tmp 82], guard := some (78, true), hints := [(80, Hint.imm), (82, Hint.imm)] },
  { dst := some 84, op := POp.pick (Operand.tmp 78) (Operand.tmp 83) (Operand.const (Value.bool false)), guard := none, hints := [(78, Hint.imm), (83, Hint.imm)] },
  { dst := some 85, op := POp.mv (Operand.tmp 84), guard := none, hints := [(84, Hint.imm)] },
  { dst := some 86, op := POp.load true 2 (Operand.tmp 7), guard := some (85, true), hints := [(7, Hint.at_ 7 0)] },
  { dst := some 87, op := POp.call false [[]] 26 [Operand.tmp 86], guard := some (85, true), hints := [(86, Hint.imm)] },
  { dst := some 88, op := POp.load true 2 (Operand.tmp 7), guard := some (85, true), hints := [(7, Hint.at_ 7 0)] },
  { dst := some 89, op := POp.call false [[]] 27 [Operand.tmp 88], guard := some (85, true), hints := [(88, Hint.imm)] },
  { dst := some 90, op := POp.prim (Prim.bin BinOp.eql 4 false false) [Operand.tmp 87, Operand.tmp 89], guard := some (85, true), hints := [(87, Hint.imm), (89, Hint.imm)] },
  { dst := some 91, op := POp.pick (Operand.tmp 85) (Operand.tmp 90) (Operand.const (Value.bool false)), guard := none, hints := [(85, Hint.imm), (90, Hint.imm)] },
  { dst := some 92, op := POp.mv (Operand.tmp 91), guard := none, hints := [(91, Hint.imm)] },
  { dst := some 93, op := POp.mv (Operand.tmp 13), guard := some (92, true), hints := [(13, Hint.imm)] },
  { dst := some 94, op := POp.mv (Operand.tmp 15), guard := some (92, true), hints := [(15, Hint.imm)] },
  { dst := some 95, op := POp.prim (Prim.bin BinOp.eql 9 false false) [Operand.tmp 93, Operand.tmp 94], guard := some (92, true), hints := [(93, Hint.imm), (94, Hint.imm)] },
  { dst := some 96, op := POp.pick (Operand.tmp 92) (Operand.tmp 95) (Operand.const (Value.bool false)), guard := none, hints := [(92, Hint.imm), (95, Hint.imm)] },
  { dst := some 97, op := POp.mv (Operand.tmp 96), guard := none, hints := [(96, Hint.imm)] },
  { dst := some 98, op := POp.mv (Operand.tmp 14), guard := some (97, true), hints := [(14, Hint.imm)] },
  { dst := some 99, op := POp.prim (Prim.bin BinOp.eql 37 false true) [Operand.tmp 98, Operand.const (Value.int IntKind.i64 0)], guard := some (97, true), hints := [(98, Hint.imm)] },
  { dst := some 100, op := POp.load true 12 (Operand.tmp 6), guard := some (97, true), hints := [(6, Hint.at_ 6 0)] },
  { dst := some 101, op := POp.call false [[]] 21 [Operand.tmp 100], guard := some (97, true), hints := [(100, Hint.imm)] },
  { dst := some 102, op := POp.prim (Prim.bin BinOp.eql 4 false false) [Operand.tmp 99, Operand.tmp 101], guard := some (97, true), hints := [(99, Hint.imm), (101, Hint.imm)] },
  { dst := some 103, op := POp.pick (Operand.tmp 97) (Operand.tmp 102) (Operand.const (Value.bool false)), guard := none, hints := [(97, Hint.imm), (102, Hint.imm)] },
  { dst := some 104, op := POp.mv (Operand.tmp 103), guard := none, hints := [(103, Hint.imm)] },
  { dst := some 105, op := POp.mv (Operand.tmp 14), guard := some (104, true), hints := [(14, Hint.imm)] },
  { dst := some 106, op := POp.prim (Prim.bin BinOp.eql 37 false true) [Operand.tmp 105, Operand.const (Value.int IntKind.i64 0)], guard := some (104, true), hints := [(105, Hint.imm)] },
  { dst := some 107, op := POp.mv (Operand.tmp 106), guard := some (104, true), hints := [(106, Hint.imm)] },
  { dst := some 108, op := POp.mv (Operand.tmp 14), guard := some (107, false), hints := [(14, Hint.imm)] },
  { dst := some 109, op := POp.prim (Prim.bin BinOp.eql 37 false true) [Operand.tmp 108, Operand.const (Value.int IntKind.i64 11)], guard := some (107, false), hints := [(108, Hint.imm)] },
  { dst := some 110, op := POp.pick (Operand.tmp 107) (Operand.const (Value.bool true)) (Operand.tmp 109), guard := some (104, true), hints := [(107, Hint.imm), (109, Hint.imm)] },
  { dst := some 111, op := POp.pick (Operand.tmp 104) (Operand.tmp 110) (Operand.const (Value.bool false)), guard := none, hints := [(104, Hint.imm), (110, Hint.imm)] },
  { dst := some 112, op := POp.mv (Operand.tmp 111), guard := none, hints := [(111, Hint.imm)] },
  { dst := some 113, op := POp.load true 12 (Operand.tmp 6), guard := some (112, true), hints := [(6, Hint.at_ 6 0)] },
  { dst := some 114, op := POp.load true 12 (Operand.tmp 9), guard := some (112, true), hints := [(9, Hint.at_ 9 0)] },
  { dst := some 115, op := POp.call false [[], []] 28 [Operand.tmp 113, Operand.tmp 114], guard := some (112, true), hints := [(113, Hint.imm), (114, Hint.imm)] },
  { dst := some 116, op := POp.load true 12 (Operand.tmp 6), guard := some (112, true), hints := [(6, Hint.at_ 6 0)] },
  { dst := some 117, op := POp.load true 12 (Operand.tmp 9), guard := some (112, true), hints := [(9, Hint.at_ 9 0)] },
  { dst := some 118, op := POp.prim (Prim.bin BinOp.eql 30 false false) [Operand.tmp 116, Operand.tmp 117], guard := some (112, true), hints := [(116, Hint.imm), (117, Hint.imm)] },
  { dst := some 119, op := POp.prim (Prim.bin BinOp.eql 4 false false) [Operand.tmp 115, Operand.tmp 118], guard := some (112, true), hints := [(115, Hint.imm), (118, Hint.imm)] },
  { dst := some 120, op := POp.pick (Operand.tmp 112) (Operand.tmp 119) (Operand.const (Value.bool false)), guard := none, hints := [(112, Hint.imm), (119, Hint.imm)] },
  { dst := some 8, op := POp.mv (Operand.tmp 120), guard := none, hints := [(120, Hint.imm)] }]
def pc3_c25 : PCode := .region (some ([4, 6, 7, 9, 10, 11, 12, 13, 14, 15], [4, 5, 6, 7, 9, 11])) true pc3_o25
def pc3_c26 : PCode := .ret
def pc3_c27 : PCode := .seq pc3_c25 pc3_c26
def pc3_c28 : PCode := .seq pc3_c24 pc3_c27
def pc3_c29 : PCode := .seq pc3_c19 pc3_c28
def pc3_c30 : PCode := .seq pc3_c18 pc3_c29
def pc3_c31 : PCode := .seq pc3_c17 pc3_c30
def pc3_c32 : PCode := .seq pc3_c16 pc3_c31
def pc3_c33 : PCode := .seq pc3_c15 pc3_c32
def pc3_c34 : PCode := .seq pc3_c8 pc3_c33
def pc3_c35 : PCode := .seq pc3_c1 pc3_c34
def pc3_r : List PRes := [PRes.tmp 8 []]
def pc3 : PFunc := ⟨121, pc3_r, pc3_c35⟩
def pc3_a : Ann := {
  kr := fun
    | 11 => some ([4, 6, 7, 9, 10, 11, 12, 13, 14, 15], [4, 5, 6, 7, 9, 11])
    | _ => none
  ka := fun
    | _ => 0
  kh := fun
    | 4 => some (Hint.at_ 4 0)
    | 6 => some (Hint.at_ 6 0)
    | 7 => some (Hint.at_ 7 0)
    | 9 => some (Hint.at_ 9 0)
    | 10 => some (Hint.imm)
    | 11 => some (Hint.at_ 11 0)
    | 12 => some (Hint.imm)
    | 13 => some (Hint.imm)
    | 14 => some (Hint.imm)
    | 15 => some (Hint.imm)
    | 57 => some (Hint.imm)
    | 58 => some (Hint.imm)
    | 59 => some (Hint.imm)
    | 60 => some (Hint.imm)
    | 61 => some (Hint.imm)
    | 62 => some (Hint.imm)
    | 63 => some (Hint.imm)
    | 64 => some (Hint.imm)
    | 65 => some (Hint.imm)
    | 66 => some (Hint.imm)
    | 67 => some (Hint.imm)
    | 68 => some (Hint.imm)
    | 69 => some (Hint.imm)
    | 70 => some (Hint.imm)
    | 71 => some (Hint.imm)
    | 72 => some (Hint.imm)
    | 73 => some (Hint.imm)
    | 74 => some (Hint.imm)
    | 75 => some (Hint.imm)
    | 76 => some (Hint.imm)
    | 77 => some (Hint.imm)
    | 78 => some (Hint.imm)
    | 79 => some (Hint.imm)
    | 80 => some (Hint.imm)
    | 81 => some (Hint.imm)
    | 82 => some (Hint.imm)
    | 83 => some (Hint.imm)
    | 84 => some (Hint.imm)
    | 85 => some (Hint.imm)
    | 86 => some (Hint.imm)
    | 87 => some (Hint.imm)
    | 88 => some (Hint.imm)
    | 89 => some (Hint.imm)
    | 90 => some (Hint.imm)
    | 91 => some (Hint.imm)
    | 92 => some (Hint.imm)
    | 93 => some (Hint.imm)
    | 94 => some (Hint.imm)
    | 95 => some (Hint.imm)
    | 96 => some (Hint.imm)
    | 97 => some (Hint.imm)
    | 98 => some (Hint.imm)
    | 99 => some (Hint.imm)
    | 100 => some (Hint.imm)
    | 101 => some (Hint.imm)
    | 102 => some (Hint.imm)
    | 103 => some (Hint.imm)
    | 104 => some (Hint.imm)
    | 105 => some (Hint.imm)
    | 106 => some (Hint.imm)
    | 107 => some (Hint.imm)
    | 108 => some (Hint.imm)
    | 109 => some (Hint.imm)
    | 110 => some (Hint.imm)
    | 111 => some (Hint.imm)
    | 112 => some (Hint.imm)
    | 113 => some (Hint.imm)
    | 114 => some (Hint.imm)
    | 115 => some (Hint.imm)
    | 116 => some (Hint.imm)
    | 117 => some (Hint.imm)
    | 118 => some (Hint.imm)
    | 119 => some (Hint.imm)
    | 120 => some (Hint.imm)
    | _ => none }
theorem pc3_ok : compFn Try.prog pc3_a Try.f3 = some pc3 := by kernel_rfl


-- 6: vedette/vedettelaw6.FieldsChain
def pc6_o1 : List POper := [{ dst := some 3, op := POp.box 28 (Operand.tmp 0), guard := none, hints := [] },
  { dst := some 4, op := POp.box 28 (Operand.tmp 1), guard := none, hints := [] },
  { dst := some 5, op := POp.box 28 (Operand.tmp 2), guard := none, hints := [] },
  { dst := some 6, op := POp.mv (Operand.const (Value.bool false)), guard := none, hints := [] }]
def pc6_c1 : PCode := .region none false pc6_o1
def pc6_o2 : List POper := [{ dst := some 15, op := POp.call true [] 14 [], guard := none, hints := [] },
  { dst := some 16, op := POp.prim (Prim.un UnOp.not) [Operand.tmp 15], guard := none, hints := [] }]
def pc6_c2 : PCode := .region none false pc6_o2
def pc6_o3 : List POper := [{ dst := some 6, op := POp.mv (Operand.const (Value.bool false)), guard := none, hints := [] }]
def pc6_c3 : PCode := .region none false pc6_o3
def pc6_c4 : PCode := .ret
def pc6_c5 : PCode := .seq pc6_c3 pc6_c4
def pc6_c6 : PCode := .skip
def pc6_c7 : PCode := .cond (Operand.tmp 16) pc6_c5 pc6_c6
def pc6_c8 : PCode := .seq pc6_c2 pc6_c7
def pc6_o9 : List POper := [{ dst := some 17, op := POp.load true 11 (Operand.tmp 3), guard := none, hints := [] },
  { dst := some 18, op := POp.call true [[]] 15 [Operand.tmp 17], guard := none, hints := [] },
  { dst := some 19, op := POp.prim (Prim.un UnOp.not) [Operand.tmp 18], guard := none, hints := [] },
  { dst := some 20, op := POp.mv (Operand.tmp 19), guard := none, hints := [] },
  { dst := some 21, op := POp.load true 11 (Operand.tmp 4), guard := some (20, false), hints := [] },
  { dst := some 22, op := POp.call true [[]] 15 [Operand.tmp 21], guard := some (20, false), hints := [] },
  { dst := some 23, op := POp.prim (Prim.un UnOp.not) [Operand.tmp 22], guard := some (20, false), hints := [] },
  { dst := some 24, op := POp.pick (Operand.tmp 20) (Operand.const (Value.bool true)) (Operand.tmp 23), guard := none, hints := [] },
  { dst := some 25, op := POp.mv (Operand.tmp 24), guard := none, hints := [] },
  { dst := some 26, op := POp.load true 11 (Operand.tmp 5), guard := some (25, false), hints := [] },
  { dst := some 27, op := POp.call true [[]] 15 [Operand.tmp 26], guard := some (25, false), hints := [] },
  { dst := some 28, op := POp.prim (Prim.un UnOp.not) [Operand.tmp 27], guard := some (25, false), hints := [] },
  { dst := some 29, op := POp.pick (Operand.tmp 25) (Operand.const (Value.bool true)) (Operand.tmp 28), guard := none, hints := [] }]
def pc6_c9 : PCode := .region none false pc6_o9
def pc6_o10 : List POper := [{ dst := some 6, op := POp.mv (Operand.const (Value.bool true)), guard := none, hints := [] }]
def pc6_c10 : PCode := .region none false pc6_o10
def pc6_c11 : PCode := .ret
def pc6_c12 : PCode := .seq pc6_c10 pc6_c11
def pc6_c13 : PCode := .skip
def pc6_c14 : PCode := .cond (Operand.tmp 29) pc6_c12 pc6_c13
def pc6_c15 : PCode := .seq pc6_c9 pc6_c14
def pc6_o16 : List POper := [{ dst := some 30, op := POp.faddr 0 (Operand.tmp 3), guard := none, hints := [(3, Hint.at_ 3 0)] },
  { dst := some 31, op := POp.load false 1 (Operand.tmp 30), guard := none, hints := [(30, Hint.at_ 3 0)] },
  { dst := some 32, op := POp.faddr 0 (Operand.tmp 3), guard := none, hints := [(3, Hint.at_ 3 0)] },
  { dst := some 33, op := POp.load false 1 (Operand.tmp 32), guard := none, hints := [(32, Hint.at_ 3 0)] },
  { dst := some 34, op := POp.faddr 0 (Operand.tmp 4), guard := none, hints := [(4, Hint.at_ 4 0)] },
  { dst := none, op := POp.store 1 (Operand.tmp 34) (Operand.tmp 31), guard := none, hints := [(34, Hint.at_ 4 0), (31, Hint.imm)] },
  { dst := some 35, op := POp.faddr 0 (Operand.tmp 5), guard := none, hints := [(5, Hint.at_ 5 0)] },
  { dst := none, op := POp.store 1 (Operand.tmp 35) (Operand.tmp 33), guard := none, hints := [(35, Hint.at_ 5 0), (33, Hint.imm)] }]
def pc6_c16 : PCode := .region none true pc6_o16
def pc6_o17 : List POper := [{ dst := some 37, op := POp.load true 11 (Operand.tmp 3), guard := none, hints := [] },
  { dst := some 38, op := POp.load true 11 (Operand.tmp 4), guard := none, hints := [] },
  { dst := some 39, op := POp.call true [[], []] 18 [Operand.tmp 37, Operand.tmp 38], guard := none, hints := [] },
  { dst := some 36, op := POp.mv (Operand.tmp 39), guard := none, hints := [] },
  { dst := some 40, op := POp.ext (Operand.tmp 36) 0, guard := none, hints := [] },
  { dst := some 41, op := POp.ext (Operand.tmp 36) 1, guard := none, hints := [] },
  { dst := some 7, op := POp.alloc 30 (Value.agg { toList := [Value.int IntKind.i64 0, Value.int IntKind.u8 0, Value.int IntKind.i64 0, Value.int IntKind.i64 0, Value.int IntKind.i64 0, Value.string { data := { toList := [] } }, Value.int IntKind.i64 0, Value.string { data := { toList := [] } }, Value.int IntKind.i64 0, Value.string { data := { toList := [] } }, Value.int IntKind.i64 0, Value.string { data := { toList := [] } }] }), guard := none, hints := [] },
  { dst := none, op := POp.store 12 (Operand.tmp 7) (Operand.tmp 40), guard := none, hints := [] },
  { dst := some 8, op := POp.mv (Operand.tmp 41), guard := none, hints := [] }]
def pc6_c17 : PCode := .region none false pc6_o17
def pc6_o18 : List POper := [{ dst := some 43, op := POp.load true 11 (Operand.tmp 4), guard := none, hints := [] },
  { dst := some 44, op := POp.load true 11 (Operand.tmp 5), guard := none, hints := [] },
  { dst := some 45, op := POp.call true [[], []] 18 [Operand.tmp 43, Operand.tmp 44], guard := none, hints := [] },
  { dst := some 42, op := POp.mv (Operand.tmp 45), guard := none, hints := [] },
  { dst := some 46, op := POp.ext (Operand.tmp 42) 0, guard := none, hints := [] },
  { dst := some 47, op := POp.ext (Operand.tmp 42) 1, guard := none, hints := [] },
  { dst := some 9, op := POp.alloc 30 (Value.agg { toList := [Value.int IntKind.i64 0, Value.int IntKind.u8 0, Value.int IntKind.i64 0, Value.int IntKind.i64 0, Value.int IntKind.i64 0, Value.string { data := { toList := [] } }, Value.int IntKind.i64 0, Value.string { data := { toList := [] } }, Value.int IntKind.i64 0, Value.string { data := { toList := [] } }, Value.int IntKind.i64 0, Value.string { data := { toList := [] } }] }), guard := none, hints := [] },
  { dst := none, op := POp.store 12 (Operand.tmp 9) (Operand.tmp 46), guard := none, hints := [] },
  { dst := some 10, op := POp.mv (Operand.tmp 47), guard := none, hints := [] }]
def pc6_c18 : PCode := .region none false pc6_o18
def pc6_o19 : List POper := [{ dst := some 49, op := POp.load true 11 (Operand.tmp 3), guard := none, hints := [] },
  { dst := some 50, op := POp.load true 11 (Operand.tmp 5), guard := none, hints := [] },
  { dst := some 51, op := POp.call true [[], []] 18 [Operand.tmp 49, Operand.tmp 50], guard := none, hints := [] },
  { dst := some 48, op := POp.mv (Operand.tmp 51), guard := none, hints := [] },
  { dst := some 52, op := POp.ext (Operand.tmp 48) 0, guard := none, hints := [] },
  { dst := some 53, op := POp.ext (Operand.tmp 48) 1, guard := none, hints := [] },
  { dst := some 11, op := POp.alloc 30 (Value.agg { toList := [Value.int IntKind.i64 0, Value.int IntKind.u8 0, Value.int IntKind.i64 0, Value.int IntKind.i64 0, Value.int IntKind.i64 0, Value.string { data := { toList := [] } }, Value.int IntKind.i64 0, Value.string { data := { toList := [] } }, Value.int IntKind.i64 0, Value.string { data := { toList := [] } }, Value.int IntKind.i64 0, Value.string { data := { toList := [] } }] }), guard := none, hints := [] },
  { dst := none, op := POp.store 12 (Operand.tmp 11) (Operand.tmp 52), guard := none, hints := [] },
  { dst := some 12, op := POp.mv (Operand.tmp 53), guard := none, hints := [] }]
def pc6_c19 : PCode := .region none false pc6_o19
def pc6_o20 : List POper := [{ dst := some 54, op := POp.load true 11 (Operand.tmp 3), guard := none, hints := [] },
  { dst := some 13, op := POp.alloc 28 (Value.agg { toList := [Value.int IntKind.i64 0, Value.int IntKind.i64 0, Value.int IntKind.i64 0, Value.int IntKind.i64 0, Value.string { data := { toList := [] } }, Value.int IntKind.i64 0, Value.string { data := { toList := [] } }, Value.int IntKind.i64 0, Value.string { data := { toList := [] } }, Value.int IntKind.i64 0, Value.string { data := { toList := [] } }] }), guard := none, hints := [] },
  { dst := none, op := POp.store 11 (Operand.tmp 13) (Operand.tmp 54), guard := none, hints := [] }]
def pc6_c20 : PCode := .region none false pc6_o20
def pc6_o21 : List POper := [{ dst := some 55, op := POp.mv (Operand.tmp 8), guard := none, hints := [] }]
def pc6_c21 : PCode := .region none false pc6_o21
def pc6_o22 : List POper := [{ dst := some 56, op := POp.load true 11 (Operand.tmp 13), guard := none, hints := [] },
  { dst := some 57, op := POp.load true 12 (Operand.tmp 7), guard := none, hints := [] },
  { dst := some 58, op := POp.call true [[], []] 23 [Operand.tmp 56, Operand.tmp 57], guard := none, hints := [] },
  { dst := none, op := POp.store 11 (Operand.tmp 13) (Operand.tmp 58), guard := none, hints := [] }]
def pc6_c22 : PCode := .region none false pc6_o22
def pc6_c23 : PCode := .skip
def pc6_c24 : PCode := .cond (Operand.tmp 55) pc6_c22 pc6_c23
def pc6_c25 : PCode := .seq pc6_c21 pc6_c24
def pc6_o26 : List POper := [{ dst := some 59, op := POp.mv (Operand.tmp 10), guard := none, hints := [] }]
def pc6_c26 : PCode := .region (some ([3, 5, 7, 8, 9, 10, 11, 12, 13], [3, 4, 5, 7, 9, 11, 13])) false pc6_o26
def pc6_o27 : List POper := [{ dst := some 60, op := POp.load true 11 (Operand.tmp 13), guard := none, hints := [] },
  { dst := some 61, op := POp.load true 12 (Operand.tmp 9), guard := none, hints := [] },
  { dst := some 62, op := POp.call true [[], []] 23 [Operand.tmp 60, Operand.tmp 61], guard := none, hints := [] },
  { dst := none, op := POp.store 11 (Operand.tmp 13) (Operand.tmp 62), guard := none, hints := [] }]
def pc6_c27 : PCode := .region none false pc6_o27
def pc6_c28 : PCode := .skip
def pc6_c29 : PCode := .cond (Operand.tmp 59) pc6_c27 pc6_c28
def pc6_c30 : PCode := .seq pc6_c26 pc6_c29
def pc6_o31 : List POper := [{ dst := some 63, op := POp.load true 11 (Operand.tmp 3), guard := none, hints := [] },
  { dst := some 14, op := POp.alloc 28 (Value.agg { toList := [Value.int IntKind.i64 0, Value.int IntKind.i64 0, Value.int IntKind.i64 0, Value.int IntKind.i64 0, Value.string { data := { toList := [] } }, Value.int IntKind.i64 0, Value.string { data := { toList := [] } }, Value.int IntKind.i64 0, Value.string { data := { toList := [] } }, Value.int IntKind.i64 0, Value.string { data := { toList := [] } }] }), guard := none, hints := [] },
  { dst := none, op := POp.store 11 (Operand.tmp 14) (Operand.tmp 63), guard := none, hints := [] }]
def pc6_c31 : PCode := .region (some ([3, 5, 7, 8, 9, 10, 11, 12, 13], [3, 5, 7, 9, 11, 13])) false pc6_o31
def pc6_o32 : List POper := [{ dst := some 64, op := POp.mv (Operand.tmp 12), guard := none, hints := [] }]
def pc6_c32 : PCode := .region none false pc6_o32
def pc6_o33 : List POper := [{ dst := some 65, op := POp.load true 11 (Operand.tmp 14), guard := none, hints := [] },
  { dst := some 66, op := POp.load true 12 (Operand.tmp 11), guard := none, hints := [] },
  { dst := some 67, op := POp.call true [[], []] 23 [Operand.tmp 65, Operand.tmp 66], guard := none, hints := [] },
  { dst := none, op := POp.store 11 (Operand.tmp 14) (Operand.tmp 67), guard := none, hints := [] }]
def pc6_c33 : PCode := .region none false pc6_o33
def pc6_c34 : PCode := .skip
def pc6_c35 : PCode := .cond (Operand.tmp 64) pc6_c33 pc6_c34
def pc6_c36 : PCode := .seq pc6_c32 pc6_c35
def pc6_o37 : List POper := [{ dst := some 68, op := POp.load true 11 (Operand.tmp 13), guard := none, hints := [] },
  { dst := some 69, op := POp.load true 11 (Operand.tmp 5), guard := none, hints := [] },
  { dst := some 70, op := POp.prim (Prim.bin BinOp.eql 28 false false) [Operand.tmp 68, Operand.tmp 69], guard := none, hints := [] },
  { dst := some 71, op := POp.mv (Operand.tmp 70), guard := none, hints := [] },
  { dst := some 72, op := POp.load true 11 (Operand.tmp 14), guard := some (71, true), hints := [] },
  { dst := some 73, op := POp.load true 11 (Operand.tmp 5), guard := some (71, true), hints := [] },
  { dst := some 74, op := POp.prim (Prim.bin BinOp.eql 28 false false) [Operand.tmp 72, Operand.tmp 73], guard := some (71, true), hints := [] },
  { dst := some 75, op := POp.pick (Operand.tmp 71) (Operand.tmp 74) (Operand.const (Value.bool false)), guard := none, hints := [] },
  { dst := some 76, op := POp.mv (Operand.tmp 75), guard := none, hints := [] },
  { dst := some 77, op := POp.mv (Operand.tmp 8), guard := some (76, true), hints := [] },
  { dst := some 78, op := POp.prim (Prim.un UnOp.not) [Operand.tmp 77], guard := some (76, true), hints := [] },
  { dst := some 79, op := POp.mv (Operand.tmp 78), guard := some (76, true), hints := [] },
  { dst := some 80, op := POp.mv (Operand.tmp 10), guard := some (79, false), hints := [] },
  { dst := some 81, op := POp.prim (Prim.un UnOp.not) [Operand.tmp 80], guard := some (79, false), hints := [] },
  { dst := some 82, op := POp.pick (Operand.tmp 79) (Operand.const (Value.bool true)) (Operand.tmp 81), guard := some (76, true), hints := [] },
  { dst := some 83, op := POp.mv (Operand.tmp 82), guard := some (76, true), hints := [] },
  { dst := some 84, op := POp.mv (Operand.tmp 12), guard := some (83, false), hints := [] },
  { dst := some 85, op := POp.prim (Prim.un UnOp.not) [Operand.tmp 84], guard := some (83, false), hints := [] },
  { dst := some 86, op := POp.pick (Operand.tmp 83) (Operand.const (Value.bool true)) (Operand.tmp 85), guard := some (76, true), hints := [] },
  { dst := some 87, op := POp.mv (Operand.tmp 86), guard := some (76, true), hints := [] },
  { dst := some 88, op := POp.faddr 1 (Operand.tmp 7), guard := some (87, false), hints := [] },
  { dst := some 89, op := POp.load false 1 (Operand.tmp 88), guard := some (87, false), hints := [] },
  { dst := some 90, op := POp.faddr 1 (Operand.tmp 9), guard := some (87, false), hints := [] },
  { dst := some 91, op := POp.load false 1 (Operand.tmp 90), guard := some (87, false), hints := [] },
  { dst := some 92, op := POp.prim (Prim.bin BinOp.or 5 false false) [Operand.tmp 89, Operand.tmp 91], guard := some (87, false), hints := [] },
  { dst := some 93, op := POp.faddr 1 (Operand.tmp 11), guard := some (87, false), hints := [] },
  { dst := some 94, op := POp.load false 1 (Operand.tmp 93), guard := some (87, false), hints := [] },
  { dst := some 95, op := POp.prim (Prim.bin BinOp.or 5 false false) [Operand.tmp 92, Operand.tmp 94], guard := some (87, false), hints := [] },
  { dst := some 96, op := POp.faddr 1 (Operand.tmp 7), guard := some (87, false), hints := [] },
  { dst := some 97, op := POp.load false 1 (Operand.tmp 96), guard := some (87, false), hints := [] },
  { dst := some 98, op := POp.faddr 1 (Operand.tmp 9), guard := some (87, false), hints := [] },
  { dst := some 99, op := POp.load false 1 (Operand.tmp 98), guard := some (87, false), hints := [] },
  { dst := some 100, op := POp.prim (Prim.bin BinOp.or 5 false false) [Operand.tmp 97, Operand.tmp 99], guard := some (87, false), hints := [] },
  { dst := some 101, op := POp.prim (Prim.bin BinOp.eql 5 false false) [Operand.tmp 95, Operand.tmp 100], guard := some (87, false), hints := [] },
  { dst := some 102, op := POp.pick (Operand.tmp 87) (Operand.const (Value.bool true)) (Operand.tmp 101), guard := some (76, true), hints := [] },
  { dst := some 103, op := POp.pick (Operand.tmp 76) (Operand.tmp 102) (Operand.const (Value.bool false)), guard := none, hints := [] },
  { dst := some 6, op := POp.mv (Operand.tmp 103), guard := none, hints := [] }]
def pc6_c37 : PCode := .region (some ([5, 7, 8, 9, 10, 11, 12, 13, 14], [3, 5, 7, 9, 11, 13, 14])) false pc6_o37
def pc6_c38 : PCode := .ret
def pc6_c39 : PCode := .seq pc6_c37 pc6_c38
def pc6_c40 : PCode := .seq pc6_c36 pc6_c39
def pc6_c41 : PCode := .seq pc6_c31 pc6_c40
def pc6_c42 : PCode := .seq pc6_c30 pc6_c41
def pc6_c43 : PCode := .seq pc6_c25 pc6_c42
def pc6_c44 : PCode := .seq pc6_c20 pc6_c43
def pc6_c45 : PCode := .seq pc6_c19 pc6_c44
def pc6_c46 : PCode := .seq pc6_c18 pc6_c45
def pc6_c47 : PCode := .seq pc6_c17 pc6_c46
def pc6_c48 : PCode := .seq pc6_c16 pc6_c47
def pc6_c49 : PCode := .seq pc6_c15 pc6_c48
def pc6_c50 : PCode := .seq pc6_c8 pc6_c49
def pc6_c51 : PCode := .seq pc6_c1 pc6_c50
def pc6_r : List PRes := [PRes.tmp 6 []]
def pc6 : PFunc := ⟨104, pc6_r, pc6_c51⟩
def pc6_a : Ann := {
  kr := fun
    | 12 => some ([3, 5, 7, 8, 9, 10, 11, 12, 13], [3, 4, 5, 7, 9, 11, 13])
    | 14 => some ([3, 5, 7, 8, 9, 10, 11, 12, 13], [3, 5, 7, 9, 11, 13])
    | 17 => some ([5, 7, 8, 9, 10, 11, 12, 13, 14], [3, 5, 7, 9, 11, 13, 14])
    | _ => none
  ka := fun
    | _ => 0
  kh := fun
    | 3 => some (Hint.at_ 3 0)
    | 4 => some (Hint.at_ 4 0)
    | 5 => some (Hint.at_ 5 0)
    | 30 => some (Hint.at_ 3 0)
    | 31 => some (Hint.imm)
    | 32 => some (Hint.at_ 3 0)
    | 33 => some (Hint.imm)
    | 34 => some (Hint.at_ 4 0)
    | 35 => some (Hint.at_ 5 0)
    | _ => none }
theorem pc6_ok : compFn Try.prog pc6_a Try.f6 = some pc6 := by kernel_rfl


-- 7: vedette/vedettelaw6.FieldsOne
def pc7_o1 : List POper := [{ dst := some 6, op := POp.mv (Operand.const (Value.bool false)), guard := none, hints := [] }]
def pc7_c1 : PCode := .region none false pc7_o1
def pc7_o2 : List POper := [{ dst := some 14, op := POp.call true [] 14 [], guard := none, hints := [] },
  { dst := some 15, op := POp.prim (Prim.un UnOp.not) [Operand.tmp 14], guard := none, hints := [] }]
def pc7_c2 : PCode := .region none false pc7_o2
def pc7_o3 : List POper := [{ dst := some 6, op := POp.mv (Operand.const (Value.bool false)), guard := none, hints := [] }]
def pc7_c3 : PCode := .region none false pc7_o3
def pc7_c4 : PCode := .ret
def pc7_c5 : PCode := .seq pc7_c3 pc7_c4
def pc7_c6 : PCode := .skip
def pc7_c7 : PCode := .cond (Operand.tmp 15) pc7_c5 pc7_c6
def pc7_c8 : PCode := .seq pc7_c2 pc7_c7
def pc7_o9 : List POper := [{ dst := some 16, op := POp.mv (Operand.tmp 2), guard := none, hints := [] },
  { dst := some 17, op := POp.prim (Prim.len 9) [Operand.tmp 16], guard := none, hints := [] },
  { dst := some 18, op := POp.prim (Prim.bin BinOp.gtr 3 false true) [Operand.tmp 17, Operand.const (Value.int IntKind.i64 12)], guard := none, hints := [] }]
def pc7_c9 : PCode := .region none false pc7_o9
def pc7_o10 : List POper := [{ dst := some 6, op := POp.mv (Operand.const (Value.bool true)), guard := none, hints := [] }]
def pc7_c10 : PCode := .region none false pc7_o10
def pc7_c11 : PCode := .ret
def pc7_c12 : PCode := .seq pc7_c10 pc7_c11
def pc7_c13 : PCode := .skip
def pc7_c14 : PCode := .cond (Operand.tmp 18) pc7_c12 pc7_c13
def pc7_c15 : PCode := .seq pc7_c9 pc7_c14
def pc7_o16 : List POper := [{ dst := some 19, op := POp.mv (Operand.tmp 0), guard := none, hints := [] },
  { dst := some 20, op := POp.prim (Prim.bin BinOp.rem 5 false true) [Operand.tmp 19, Operand.const (Value.int IntKind.u8 4)], guard := none, hints := [] },
  { dst := some 21, op := POp.prim (Prim.conv 5 3) [Operand.tmp 20], guard := none, hints := [] },
  { dst := some 7, op := POp.mv (Operand.tmp 21), guard := none, hints := [] }]
def pc7_c16 : PCode := .region none false pc7_o16
def pc7_o17 : List POper := [{ dst := some 22, op := POp.build (Value.agg { toList := [Value.int IntKind.i64 0, Value.int IntKind.i64 0] }) [(0, 1, Operand.const (Value.int IntKind.i64 1)), (1, 1, Operand.const (Value.int IntKind.i64 2))], guard := none, hints := [] },
  { dst := some 23, op := POp.build (Value.agg { toList := [Value.int IntKind.i64 0, Value.int IntKind.i64 0, Value.int IntKind.i64 0, Value.int IntKind.i64 0, Value.string { data := { toList := [] } }, Value.int IntKind.i64 0, Value.string { data := { toList := [] } }, Value.int IntKind.i64 0, Value.string { data := { toList := [] } }, Value.int IntKind.i64 0, Value.string { data := { toList := [] } }] }) [(0, 1, Operand.const (Value.int IntKind.i64 7)), (1, 2, Operand.tmp 22)], guard := none, hints := [] },
  { dst := some 8, op := POp.alloc 28 (Value.agg { toList := [Value.int IntKind.i64 0, Value.int IntKind.i64 0, Value.int IntKind.i64 0, Value.int IntKind.i64 0, Value.string { data := { toList := [] } }, Value.int IntKind.i64 0, Value.string { data := { toList := [] } }, Value.int IntKind.i64 0, Value.string { data := { toList := [] } }, Value.int IntKind.i64 0, Value.string { data := { toList := [] } }] }), guard := none, hints := [] },
  { dst := none, op := POp.store 11 (Operand.tmp 8) (Operand.tmp 23), guard := none, hints := [] }]
def pc7_c17 : PCode := .region none false pc7_o17
def pc7_o18 : List POper := [{ dst := some 24, op := POp.load true 11 (Operand.tmp 8), guard := none, hints := [] },
  { dst := some 9, op := POp.alloc 28 (Value.agg { toList := [Value.int IntKind.i64 0, Value.int IntKind.i64 0, Value.int IntKind.i64 0, Value.int IntKind.i64 0, Value.string { data := { toList := [] } }, Value.int IntKind.i64 0, Value.string { data := { toList := [] } }, Value.int IntKind.i64 0, Value.string { data := { toList := [] } }, Value.int IntKind.i64 0, Value.string { data := { toList := [] } }] }), guard := none, hints := [] },
  { dst := none, op := POp.store 11 (Operand.tmp 9) (Operand.tmp 24), guard := none, hints := [] }]
def pc7_c18 : PCode := .region none false pc7_o18
def pc7_o19 : List POper := [{ dst := some 25, op := POp.mv (Operand.tmp 7), guard := none, hints := [] },
  { dst := some 26, op := POp.mv (Operand.tmp 1), guard := none, hints := [] },
  { dst := some 27, op := POp.build (Value.agg { toList := [Value.int IntKind.i64 0, Value.string { data := { toList := [] } }] }) [(0, 1, Operand.tmp 26)], guard := none, hints := [] },
  { dst := some 28, op := POp.faddr 3 (Operand.tmp 9), guard := none, hints := [] },
  { dst := some 29, op := POp.iaddrA 4 2 (Operand.tmp 28) (Operand.tmp 25), guard := none, hints := [] },
  { dst := none, op := POp.store 2 (Operand.tmp 29) (Operand.tmp 27), guard := none, hints := [] }]
def pc7_c19 : PCode := .region none false pc7_o19
def pc7_o20 : List POper := [{ dst := some 30, op := POp.mv (Operand.tmp 2), guard := none, hints := [] },
  { dst := some 31, op := POp.prim (Prim.bin BinOp.neq 9 false true) [Operand.tmp 30, Operand.const (Value.string { data := { toList := [] } })], guard := none, hints := [] }]
def pc7_c20 : PCode := .region (some ([2, 7, 8, 9], [8, 9])) false pc7_o20
def pc7_o21 : List POper := [{ dst := some 32, op := POp.mv (Operand.tmp 7), guard := none, hints := [] },
  { dst := some 33, op := POp.mv (Operand.tmp 2), guard := none, hints := [] },
  { dst := some 34, op := POp.build (Value.agg { toList := [Value.int IntKind.i64 0, Value.string { data := { toList := [] } }] }) [(1, 1, Operand.tmp 33)], guard := none, hints := [] },
  { dst := some 35, op := POp.faddr 3 (Operand.tmp 9), guard := none, hints := [] },
  { dst := some 36, op := POp.iaddrA 4 2 (Operand.tmp 35) (Operand.tmp 32), guard := none, hints := [] },
  { dst := none, op := POp.store 2 (Operand.tmp 36) (Operand.tmp 34), guard := none, hints := [] }]
def pc7_c21 : PCode := .region none false pc7_o21
def pc7_c22 : PCode := .skip
def pc7_c23 : PCode := .cond (Operand.tmp 31) pc7_c21 pc7_c22
def pc7_c24 : PCode := .seq pc7_c20 pc7_c23
def pc7_o25 : List POper := [{ dst := some 38, op := POp.load true 11 (Operand.tmp 8), guard := none, hints := [] },
  { dst := some 39, op := POp.load true 11 (Operand.tmp 9), guard := none, hints := [] },
  { dst := some 40, op := POp.call true [[], []] 18 [Operand.tmp 38, Operand.tmp 39], guard := none, hints := [] },
  { dst := some 37, op := POp.mv (Operand.tmp 40), guard := none, hints := [] },
  { dst := some 41, op := POp.ext (Operand.tmp 37) 0, guard := none, hints := [] },
  { dst := some 42, op := POp.ext (Operand.tmp 37) 1, guard := none, hints := [] },
  { dst := some 10, op := POp.alloc 30 (Value.agg { toList := [Value.int IntKind.i64 0, Value.int IntKind.u8 0, Value.int IntKind.i64 0, Value.int IntKind.i64 0, Value.int IntKind.i64 0, Value.string { data := { toList := [] } }, Value.int IntKind.i64 0, Value.string { data := { toList := [] } }, Value.int IntKind.i64 0, Value.string { data := { toList := [] } }, Value.int IntKind.i64 0, Value.string { data := { toList := [] } }] }), guard := none, hints := [] },
  { dst := none, op := POp.store 12 (Operand.tmp 10) (Operand.tmp 41), guard := none, hints := [] },
  { dst := some 11, op := POp.mv (Operand.tmp 42), guard := none, hints := [] }]
def pc7_c25 : PCode := .region (some ([2, 7, 8, 9], [8, 9])) false pc7_o25
def pc7_o26 : List POper := [{ dst := some 44, op := POp.load true 12 (Operand.tmp 10), guard := none, hints := [] },
  { dst := some 45, op := POp.call true [[]] 20 [Operand.tmp 44], guard := none, hints := [] },
  { dst := some 43, op := POp.mv (Operand.tmp 45), guard := none, hints := [] },
  { dst := some 46, op := POp.ext (Operand.tmp 43) 0, guard := none, hints := [] },
  { dst := some 47, op := POp.ext (Operand.tmp 43) 1, guard := none, hints := [] },
  { dst := some 12, op := POp.mv (Operand.tmp 46), guard := none, hints := [] },
  { dst := some 13, op := POp.mv (Operand.tmp 47), guard := none, hints := [] }]
def pc7_c26 : PCode := .region none false pc7_o26
def pc7_o27 : List POper := [{ dst := some 48, op := POp.load true 11 (Operand.tmp 9), guard := none, hints := [] },
  { dst := some 49, op := POp.load true 11 (Operand.tmp 8), guard := none, hints := [] },
  { dst := some 50, op := POp.prim (Prim.bin BinOp.eql 28 false false) [Operand.tmp 48, Operand.tmp 49], guard := none, hints := [] }]
def pc7_c27 : PCode := .region none false pc7_o27
def pc7_o28 : List POper := [{ dst := some 51, op := POp.mv (Operand.tmp 11), guard := none, hints := [] },
  { dst := some 52, op := POp.prim (Prim.un UnOp.not) [Operand.tmp 51], guard := none, hints := [] },
  { dst := some 6, op := POp.mv (Operand.tmp 52), guard := none, hints := [] }]
def pc7_c28 : PCode := .region none false pc7_o28
def pc7_c29 : PCode := .ret
def pc7_c30 : PCode := .seq pc7_c28 pc7_c29
def pc7_c31 : PCode := .skip
def pc7_c32 : PCode := .cond (Operand.tmp 50) pc7_c30 pc7_c31
def pc7_c33 : PCode := .seq pc7_c27 pc7_c32
def pc7_o34 : List POper := [{ dst := some 53, op := POp.mv (Operand.tmp 11), guard := none, hints := [] },
  { dst := some 54, op := POp.prim (Prim.un UnOp.not) [Operand.tmp 53], guard := none, hints := [] },
  { dst := some 55, op := POp.mv (Operand.tmp 54), guard := none, hints := [] },
  { dst := some 56, op := POp.faddr 1 (Operand.tmp 10), guard := some (55, false), hints := [] },
  { dst := some 57, op := POp.load false 1 (Operand.tmp 56), guard := some (55, false), hints := [] },
  { dst := some 58, op := POp.mv (Operand.tmp 7), guard := some (55, false), hints := [] },
  { dst := some 59, op := POp.prim (Prim.conv 3 51) [Operand.tmp 58], guard := some (55, false), hints := [] },
  { dst := some 60, op := POp.prim (Prim.bin BinOp.shl 5 true false) [Operand.const (Value.int IntKind.u8 2), Operand.tmp 59], guard := some (55, false), hints := [] },
  { dst := some 61, op := POp.prim (Prim.bin BinOp.neq 5 false false) [Operand.tmp 57, Operand.tmp 60], guard := some (55, false), hints := [] },
  { dst := some 62, op := POp.pick (Operand.tmp 55) (Operand.const (Value.bool true)) (Operand.tmp 61), guard := none, hints := [] },
  { dst := some 63, op := POp.mv (Operand.tmp 62), guard := none, hints := [] },
  { dst := some 64, op := POp.mv (Operand.tmp 13), guard := some (63, false), hints := [] },
  { dst := some 65, op := POp.prim (Prim.bin BinOp.neq 37 false true) [Operand.tmp 64, Operand.const (Value.int IntKind.i64 0)], guard := some (63, false), hints := [] },
  { dst := some 66, op := POp.pick (Operand.tmp 63) (Operand.const (Value.bool true)) (Operand.tmp 65), guard := none, hints := [] },
  { dst := some 67, op := POp.mv (Operand.tmp 66), guard := none, hints := [] },
  { dst := some 68, op := POp.mv (Operand.tmp 12), guard := some (67, false), hints := [] },
  { dst := some 69, op := POp.prim (Prim.len 9) [Operand.tmp 68], guard := some (67, false), hints := [] },
  { dst := some 70, op := POp.prim (Prim.bin BinOp.lss 3 false true) [Operand.tmp 69, Operand.const (Value.int IntKind.i64 3)], guard := some (67, false), hints := [] },
  { dst := some 71, op := POp.pick (Operand.tmp 67) (Operand.const (Value.bool true)) (Operand.tmp 70), guard := none, hints := [] }]
def pc7_c34 : PCode := .region none false pc7_o34
def pc7_o35 : List POper := [{ dst := some 6, op := POp.mv (Operand.const (Value.bool false)), guard := none, hints := [] }]
def pc7_c35 : PCode := .region none false pc7_o35
def pc7_c36 : PCode := .ret
def pc7_c37 : PCode := .seq pc7_c35 pc7_c36
def pc7_c38 : PCode := .skip
def pc7_c39 : PCode := .cond (Operand.tmp 71) pc7_c37 pc7_c38
def pc7_c40 : PCode := .seq pc7_c34 pc7_c39
def pc7_o41 : List POper := [{ dst := some 72, op := POp.mv (Operand.tmp 2), guard := none, hints := [] },
  { dst := some 73, op := POp.prim (Prim.bin BinOp.neq 9 false true) [Operand.tmp 72, Operand.const (Value.string { data := { toList := [] } })], guard := none, hints := [] }]
def pc7_c41 : PCode := .region none false pc7_o41
def pc7_o42 : List POper := [{ dst := some 74, op := POp.mv (Operand.tmp 12), guard := none, hints := [] },
  { dst := some 75, op := POp.prim (Prim.len 9) [Operand.tmp 74], guard := none, hints := [] },
  { dst := some 76, op := POp.mv (Operand.tmp 2), guard := none, hints := [] },
  { dst := some 77, op := POp.prim (Prim.len 9) [Operand.tmp 76], guard := none, hints := [] },
  { dst := some 78, op := POp.prim (Prim.bin BinOp.add 3 true false) [Operand.const (Value.int IntKind.i64 3), Operand.tmp 77], guard := none, hints := [] },
  { dst := some 79, op := POp.prim (Prim.bin BinOp.eql 3 false false) [Operand.tmp 75, Operand.tmp 78], guard := none, hints := [] },
  { dst := some 6, op := POp.mv (Operand.tmp 79), guard := none, hints := [] }]
def pc7_c42 : PCode := .region none false pc7_o42
def pc7_c43 : PCode := .ret
def pc7_c44 : PCode := .seq pc7_c42 pc7_c43
def pc7_c45 : PCode := .skip
def pc7_c46 : PCode := .cond (Operand.tmp 73) pc7_c44 pc7_c45
def pc7_c47 : PCode := .seq pc7_c41 pc7_c46
def pc7_o48 : List POper := [{ dst := some 80, op := POp.mv (Operand.tmp 12), guard := none, hints := [] },
  { dst := some 81, op := POp.prim (Prim.len 9) [Operand.tmp 80], guard := none, hints := [] },
  { dst := some 82, op := POp.prim (Prim.bin BinOp.leq 3 false true) [Operand.tmp 81, Operand.const (Value.int IntKind.i64 13)], guard := none, hints := [] },
  { dst := some 6, op := POp.mv (Operand.tmp 82), guard := none, hints := [] }]
def pc7_c48 : PCode := .region none false pc7_o48
def pc7_c49 : PCode := .ret
def pc7_c50 : PCode := .seq pc7_c48 pc7_c49
def pc7_c51 : PCode := .seq pc7_c47 pc7_c50
def pc7_c52 : PCode := .seq pc7_c40 pc7_c51
def pc7_c53 : PCode := .seq pc7_c33 pc7_c52
def pc7_c54 : PCode := .seq pc7_c26 pc7_c53
def pc7_c55 : PCode := .seq pc7_c25 pc7_c54
def pc7_c56 : PCode := .seq pc7_c24 pc7_c55
def pc7_c57 : PCode := .seq pc7_c19 pc7_c56
def pc7_c58 : PCode := .seq pc7_c18 pc7_c57
def pc7_c59 : PCode := .seq pc7_c17 pc7_c58
def pc7_c60 : PCode := .seq pc7_c16 pc7_c59
def pc7_c61 : PCode := .seq pc7_c15 pc7_c60
def pc7_c62 : PCode := .seq pc7_c8 pc7_c61
def pc7_c63 : PCode := .seq pc7_c1 pc7_c62
def pc7_r : List PRes := [PRes.tmp 6 []]
def pc7 : PFunc := ⟨83, pc7_r, pc7_c63⟩
def pc7_a : Ann := {
  kr := fun
    | 9 => some ([2, 7, 8, 9], [8, 9])
    | 11 => some ([2, 7, 8, 9], [8, 9])
    | _ => none
  ka := fun
    | _ => 0
  kh := fun
    | _ => none }
theorem pc7_ok : compFn Try.prog pc7_a Try.f7 = some pc7 := by kernel_rfl


-- 8: vedette/vedettelaw6.FieldsSpoils
def pc8_o1 : List POper := [{ dst := some 2, op := POp.box 30 (Operand.tmp 0), guard := none, hints := [] },
  { dst := some 4, op := POp.mv (Operand.const (Value.bool false)), guard := none, hints := [] }]
def pc8_c1 : PCode := .region none false pc8_o1
def pc8_o2 : List POper := [{ dst := some 8, op := POp.call true [] 14 [], guard := none, hints := [] },
  { dst := some 9, op := POp.prim (Prim.un UnOp.not) [Operand.tmp 8], guard := none, hints := [] }]
def pc8_c2 : PCode := .region none false pc8_o2
def pc8_o3 : List POper := [{ dst := some 4, op := POp.mv (Operand.const (Value.bool false)), guard := none, hints := [] }]
def pc8_c3 : PCode := .region none false pc8_o3
def pc8_c4 : PCode := .ret
def pc8_c5 : PCode := .seq pc8_c3 pc8_c4
def pc8_c6 : PCode := .skip
def pc8_c7 : PCode := .cond (Operand.tmp 9) pc8_c5 pc8_c6
def pc8_c8 : PCode := .seq pc8_c2 pc8_c7
def pc8_o9 : List POper := [{ dst := some 10, op := POp.load true 12 (Operand.tmp 2), guard := none, hints := [] },
  { dst := some 11, op := POp.call true [[]] 16 [Operand.tmp 10], guard := none, hints := [] },
  { dst := some 12, op := POp.prim (Prim.un UnOp.not) [Operand.tmp 11], guard := none, hints := [] },
  { dst := some 13, op := POp.mv (Operand.tmp 12), guard := none, hints := [] },
  { dst := some 14, op := POp.load true 12 (Operand.tmp 2), guard := some (13, false), hints := [] },
  { dst := some 15, op := POp.call true [[]] 25 [Operand.tmp 14], guard := some (13, false), hints := [] },
  { dst := some 16, op := POp.prim (Prim.un UnOp.not) [Operand.tmp 15], guard := some (13, false), hints := [] },
  { dst := some 17, op := POp.pick (Operand.tmp 13) (Operand.const (Value.bool true)) (Operand.tmp 16), guard := none, hints := [] }]
def pc8_c9 : PCode := .region none false pc8_o9
def pc8_o10 : List POper := [{ dst := some 4, op := POp.mv (Operand.const (Value.bool true)), guard := none, hints := [] }]
def pc8_c10 : PCode := .region none false pc8_o10
def pc8_c11 : PCode := .ret
def pc8_c12 : PCode := .seq pc8_c10 pc8_c11
def pc8_c13 : PCode := .skip
def pc8_c14 : PCode := .cond (Operand.tmp 17) pc8_c12 pc8_c13
def pc8_c15 : PCode := .seq pc8_c9 pc8_c14
def pc8_o16 : List POper := [{ dst := some 18, op := POp.load true 12 (Operand.tmp 2), guard := none, hints := [] },
  { dst := some 5, op := POp.alloc 30 (Value.agg { toList := [Value.int IntKind.i64 0, Value.int IntKind.u8 0, Value.int IntKind.i64 0, Value.int IntKind.i64 0, Value.int IntKind.i64 0, Value.string { data := { toList := [] } }, Value.int IntKind.i64 0, Value.string { data := { toList := [] } }, Value.int IntKind.i64 0, Value.string { data := { toList := [] } }, Value.int IntKind.i64 0, Value.string { data := { toList := [] } }] }), guard := none, hints := [] },
  { dst := none, op := POp.store 12 (Operand.tmp 5) (Operand.tmp 18), guard := none, hints := [] }]
def pc8_c16 : PCode := .region none false pc8_o16
def pc8_o17 : List POper := [{ dst := some 19, op := POp.mv (Operand.tmp 1), guard := none, hints := [] },
  { dst := some 20, op := POp.prim (Prim.bin BinOp.rem 5 false true) [Operand.tmp 19, Operand.const (Value.int IntKind.u8 6)], guard := none, hints := [] }]
def pc8_c17 : PCode := .region none false pc8_o17
def pc8_o18 : List POper := [{ dst := some 23, op := POp.prim (Prim.bin BinOp.eql 5 false true) [Operand.tmp 20, Operand.const (Value.int IntKind.u8 0)], guard := none, hints := [] },
  { dst := some 22, op := POp.mv (Operand.tmp 23), guard := none, hints := [] }]
def pc8_c18 : PCode := .region none false pc8_o18
def pc8_o19 : List POper := [{ dst := some 24, op := POp.faddr 0 (Operand.tmp 5), guard := none, hints := [] },
  { dst := none, op := POp.store 1 (Operand.tmp 24) (Operand.const (Value.int IntKind.i64 (-1))), guard := none, hints := [] }]
def pc8_c19 : PCode := .region none false pc8_o19
def pc8_o20 : List POper := [{ dst := some 26, op := POp.prim (Prim.bin BinOp.eql 5 false true) [Operand.tmp 20, Operand.const (Value.int IntKind.u8 1)], guard := none, hints := [] },
  { dst := some 25, op := POp.mv (Operand.tmp 26), guard := none, hints := [] }]
def pc8_c20 : PCode := .region none false pc8_o20
def pc8_o21 : List POper := [{ dst := some 27, op := POp.faddr 1 (Operand.tmp 5), guard := none, hints := [] },
  { dst := some 28, op := POp.load false 1 (Operand.tmp 27), guard := none, hints := [] },
  { dst := some 29, op := POp.prim (Prim.bin BinOp.or 5 false true) [Operand.tmp 28, Operand.const (Value.int IntKind.u8 32)], guard := none, hints := [] },
  { dst := some 30, op := POp.faddr 1 (Operand.tmp 5), guard := none, hints := [] },
  { dst := none, op := POp.store 1 (Operand.tmp 30) (Operand.tmp 29), guard := none, hints := [] }]
def pc8_c21 : PCode := .region none false pc8_o21
def pc8_o22 : List POper := [{ dst := some 32, op := POp.prim (Prim.bin BinOp.eql 5 false true) [Operand.tmp 20, Operand.const (Value.int IntKind.u8 2)], guard := none, hints := [] },
  { dst := some 31, op := POp.mv (Operand.tmp 32), guard := none, hints := [] }]
def pc8_c22 : PCode := .region none false pc8_o22
def pc8_o23 : List POper := [{ dst := some 33, op := POp.faddr 1 (Operand.tmp 5), guard := none, hints := [] },
  { dst := none, op := POp.store 1 (Operand.tmp 33) (Operand.const (Value.int IntKind.u8 0)), guard := none, hints := [] }]
def pc8_c23 : PCode := .region none false pc8_o23
def pc8_o24 : List POper := [{ dst := some 35, op := POp.prim (Prim.bin BinOp.eql 5 false true) [Operand.tmp 20, Operand.const (Value.int IntKind.u8 3)], guard := none, hints := [] },
  { dst := some 34, op := POp.mv (Operand.tmp 35), guard := none, hints := [] }]
def pc8_c24 : PCode := .region none false pc8_o24
def pc8_o25 : List POper := [{ dst := some 36, op := POp.build (Value.agg { toList := [Value.int IntKind.i64 0, Value.int IntKind.i64 0] }) [(0, 1, Operand.const (Value.int IntKind.i64 64))], guard := none, hints := [] },
  { dst := some 37, op := POp.faddr 2 (Operand.tmp 5), guard := none, hints := [] },
  { dst := none, op := POp.store 2 (Operand.tmp 37) (Operand.tmp 36), guard := none, hints := [] }]
def pc8_c25 : PCode := .region none false pc8_o25
def pc8_o26 : List POper := [{ dst := some 39, op := POp.prim (Prim.bin BinOp.eql 5 false true) [Operand.tmp 20, Operand.const (Value.int IntKind.u8 4)], guard := none, hints := [] },
  { dst := some 38, op := POp.mv (Operand.tmp 39), guard := none, hints := [] }]
def pc8_c26 : PCode := .region none false pc8_o26
def pc8_o27 : List POper := [{ dst := some 40, op := POp.mv (Operand.tmp 1), guard := none, hints := [] },
  { dst := some 41, op := POp.prim (Prim.bin BinOp.quo 5 false true) [Operand.tmp 40, Operand.const (Value.int IntKind.u8 6)], guard := none, hints := [] },
  { dst := some 42, op := POp.prim (Prim.conv 5 3) [Operand.tmp 41], guard := none, hints := [] },
  { dst := some 43, op := POp.prim (Prim.bin BinOp.rem 3 false true) [Operand.tmp 42, Operand.const (Value.int IntKind.i64 4)], guard := none, hints := [] },
  { dst := some 44, op := POp.build (Value.agg { toList := [Value.int IntKind.i64 0, Value.string { data := { toList := [] } }] }) [(0, 1, Operand.const (Value.int IntKind.i64 1)), (1, 1, Operand.const (Value.string { data := { toList := [97] } }))], guard := none, hints := [] },
  { dst := some 45, op := POp.faddr 4 (Operand.tmp 5), guard := none, hints := [] },
  { dst := some 46, op := POp.iaddrA 4 2 (Operand.tmp 45) (Operand.tmp 43), guard := none, hints := [] },
  { dst := none, op := POp.store 2 (Operand.tmp 46) (Operand.tmp 44), guard := none, hints := [] }]
def pc8_c27 : PCode := .region none false pc8_o27
def pc8_o28 : List POper := [{ dst := some 21, op := POp.faddr 0 (Operand.tmp 5), guard := none, hints := [] },
  { dst := none, op := POp.store 1 (Operand.tmp 21) (Operand.const (Value.int IntKind.i64 1000001)), guard := none, hints := [] }]
def pc8_c28 : PCode := .region none false pc8_o28
def pc8_c29 : PCode := .cond (Operand.tmp 38) pc8_c27 pc8_c28
def pc8_c30 : PCode := .seq pc8_c26 pc8_c29
def pc8_c31 : PCode := .cond (Operand.tmp 34) pc8_c25 pc8_c30
def pc8_c32 : PCode := .seq pc8_c24 pc8_c31
def pc8_c33 : PCode := .cond (Operand.tmp 31) pc8_c23 pc8_c32
def pc8_c34 : PCode := .seq pc8_c22 pc8_c33
def pc8_c35 : PCode := .cond (Operand.tmp 25) pc8_c21 pc8_c34
def pc8_c36 : PCode := .seq pc8_c20 pc8_c35
def pc8_c37 : PCode := .cond (Operand.tmp 22) pc8_c19 pc8_c36
def pc8_c38 : PCode := .seq pc8_c18 pc8_c37
def pc8_c39 : PCode := .block 0 pc8_c38
def pc8_c40 : PCode := .seq pc8_c17 pc8_c39
def pc8_o41 : List POper := [{ dst := some 48, op := POp.load true 12 (Operand.tmp 5), guard := none, hints := [] },
  { dst := some 49, op := POp.call true [[]] 20 [Operand.tmp 48], guard := none, hints := [] },
  { dst := some 47, op := POp.mv (Operand.tmp 49), guard := none, hints := [] },
  { dst := some 50, op := POp.ext (Operand.tmp 47) 0, guard := none, hints := [] },
  { dst := some 51, op := POp.ext (Operand.tmp 47) 1, guard := none, hints := [] },
  { dst := some 6, op := POp.mv (Operand.tmp 50), guard := none, hints := [] },
  { dst := some 7, op := POp.mv (Operand.tmp 51), guard := none, hints := [] }]
def pc8_c41 : PCode := .region (some ([2, 5], [2, 5])) false pc8_o41
def pc8_o42 : List POper := [{ dst := some 52, op := POp.load true 12 (Operand.tmp 5), guard := none, hints := [] },
  { dst := some 53, op := POp.call true [[]] 25 [Operand.tmp 52], guard := none, hints := [] },
  { dst := some 54, op := POp.prim (Prim.un UnOp.not) [Operand.tmp 53], guard := none, hints := [] },
  { dst := some 55, op := POp.mv (Operand.tmp 54), guard := none, hints := [] },
  { dst := some 56, op := POp.mv (Operand.tmp 7), guard := some (55, true), hints := [] },
  { dst := some 57, op := POp.prim (Prim.bin BinOp.eql 37 false true) [Operand.tmp 56, Operand.const (Value.int IntKind.i64 11)], guard := some (55, true), hints := [] },
  { dst := some 58, op := POp.pick (Operand.tmp 55) (Operand.tmp 57) (Operand.const (Value.bool false)), guard := none, hints := [] },
  { dst := some 59, op := POp.mv (Operand.tmp 58), guard := none, hints := [] },
  { dst := some 60, op := POp.load true 12 (Operand.tmp 2), guard := some (59, true), hints := [] },
  { dst := some 61, op := POp.load true 12 (Operand.tmp 5), guard := some (59, true), hints := [] },
  { dst := some 62, op := POp.call true [[], []] 28 [Operand.tmp 60, Operand.tmp 61], guard := some (59, true), hints := [] },
  { dst := some 63, op := POp.prim (Prim.un UnOp.not) [Operand.tmp 62], guard := some (59, true), hints := [] },
  { dst := some 64, op := POp.pick (Operand.tmp 59) (Operand.tmp 63) (Operand.const (Value.bool false)), guard := none, hints := [] },
  { dst := some 65, op := POp.mv (Operand.tmp 64), guard := none, hints := [] },
  { dst := some 66, op := POp.load true 12 (Operand.tmp 2), guard := some (65, true), hints := [] },
  { dst := some 67, op := POp.call true [[]] 21 [Operand.tmp 66], guard := some (65, true), hints := [] },
  { dst := some 68, op := POp.pick (Operand.tmp 65) (Operand.tmp 67) (Operand.const (Value.bool false)), guard := none, hints := [] },
  { dst := some 4, op := POp.mv (Operand.tmp 68), guard := none, hints := [] }]
def pc8_c42 : PCode := .region none false pc8_o42
def pc8_c43 : PCode := .ret
def pc8_c44 : PCode := .seq pc8_c42 pc8_c43
def pc8_c45 : PCode := .seq pc8_c41 pc8_c44
def pc8_c46 : PCode := .seq pc8_c40 pc8_c45
def pc8_c47 : PCode := .seq pc8_c16 pc8_c46
def pc8_c48 : PCode := .seq pc8_c15 pc8_c47
def pc8_c49 : PCode := .seq pc8_c8 pc8_c48
def pc8_c50 : PCode := .seq pc8_c1 pc8_c49
def pc8_r : List PRes := [PRes.tmp 4 []]
def pc8 : PFunc := ⟨69, pc8_r, pc8_c50⟩
def pc8_a : Ann := {
  kr := fun
    | 18 => some ([2, 5], [2, 5])
    | _ => none
  ka := fun
    | _ => 0
  kh := fun
    | _ => none }
theorem pc8_ok : compFn Try.prog pc8_a Try.f8 = some pc8 := by kernel_rfl


end Go.Proofs.Ythmbegagkgdopaa
