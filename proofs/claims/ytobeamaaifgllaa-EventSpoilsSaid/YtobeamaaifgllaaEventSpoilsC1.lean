/-
  Code of functions, as the pure machine runs it. No condition.
-/
import Derived.Test.YtobeamaaifgllaaEventSpoilsT
namespace Go.Proofs.Ytobeamaaifgllaa
open Go Go.Rx
set_option maxRecDepth 100000
set_option linter.unusedVariables false
set_option linter.unusedSimpArgs false
set_option linter.unnecessarySimpa false
-- 19: vedette/vedetteref6.Bytes
def pc19_o1 : List POper := [⟨some 1, .box 35 (.tmp 0) [], none, []⟩,
  ⟨some 2, .mv (.const (.string { data := { toList := [] } })), none, []⟩]
def pc19_c1 : PCode := .region none false pc19_o1
def pc19_o2 : List POper := [⟨some 5, .faddr 0 (.tmp 1), none, [(1, .at_ 1 0)]⟩,
  ⟨some 6, .load false 1 (.tmp 5), none, [(5, .at_ 1 0)]⟩,
  ⟨some 7, .prim (.conv 3 89) [.tmp 6], none, [(6, .imm)]⟩,
  ⟨some 8, .call false [[]] 60 [.tmp 7], none, [(7, .imm)]⟩,
  ⟨some 9, .faddr 1 (.tmp 1), none, [(1, .at_ 1 0)]⟩,
  ⟨some 10, .load false 1 (.tmp 9), none, [(9, .at_ 1 1)]⟩,
  ⟨some 11, .prim (.conv 5 89) [.tmp 10], none, [(10, .imm)]⟩,
  ⟨some 12, .call false [[]] 60 [.tmp 11], none, [(11, .imm)]⟩,
  ⟨some 13, .prim (.bin .add 9 false false) [.tmp 8, .tmp 12], none, [(8, .imm), (12, .imm)]⟩,
  ⟨some 3, .mv (.tmp 13), none, [(13, .imm)]⟩]
def pc19_c2 : PCode := .region none true pc19_o2
def pc19_o3 : List POper := [⟨some 14, .faddr 1 (.tmp 1), none, []⟩,
  ⟨some 15, .load false 1 (.tmp 14), none, []⟩,
  ⟨some 16, .prim (.bin .and 5 false true) [.tmp 15, .const (.int .u8 1)], none, []⟩,
  ⟨some 17, .prim (.bin .neq 5 false true) [.tmp 16, .const (.int .u8 0)], none, []⟩]
def pc19_c3 : PCode := .region none false pc19_o3
def pc19_o4 : List POper := [⟨some 18, .mv (.tmp 3), none, [(3, .imm)]⟩,
  ⟨some 19, .faddr 2 (.tmp 1), none, [(1, .at_ 1 0)]⟩,
  ⟨some 20, .faddr 0 (.tmp 19), none, [(19, .at_ 1 2)]⟩,
  ⟨some 21, .load false 1 (.tmp 20), none, [(20, .at_ 1 2)]⟩,
  ⟨some 22, .prim (.conv 3 89) [.tmp 21], none, [(21, .imm)]⟩,
  ⟨some 23, .call false [[]] 60 [.tmp 22], none, [(22, .imm)]⟩,
  ⟨some 24, .prim (.bin .add 9 false false) [.tmp 18, .tmp 23], none, [(18, .imm), (23, .imm)]⟩,
  ⟨some 25, .faddr 2 (.tmp 1), none, [(1, .at_ 1 0)]⟩,
  ⟨some 26, .faddr 1 (.tmp 25), none, [(25, .at_ 1 2)]⟩,
  ⟨some 27, .load false 1 (.tmp 26), none, [(26, .at_ 1 3)]⟩,
  ⟨some 28, .prim (.conv 3 89) [.tmp 27], none, [(27, .imm)]⟩,
  ⟨some 29, .call false [[]] 60 [.tmp 28], none, [(28, .imm)]⟩,
  ⟨some 30, .prim (.bin .add 9 false false) [.tmp 24, .tmp 29], none, [(24, .imm), (29, .imm)]⟩,
  ⟨some 3, .mv (.tmp 30), none, [(30, .imm)]⟩]
def pc19_c4 : PCode := .region none true pc19_o4
def pc19_c5 : PCode := .skip
def pc19_c6 : PCode := .cond (.tmp 17) pc19_c4 pc19_c5
def pc19_c7 : PCode := .seq pc19_c3 pc19_c6
def pc19_o8 : List POper := [⟨some 4, .mv (.const (.int .i64 0)), none, []⟩]
def pc19_c8 : PCode := .region (some ([1, 3], [1], [])) false pc19_o8
def pc19_o9 : List POper := [⟨some 31, .mv (.tmp 4), none, []⟩,
  ⟨some 32, .prim (.bin .lss 3 false true) [.tmp 31, .const (.int .i64 4)], none, []⟩]
def pc19_c9 : PCode := .region (some ([1, 3, 4], [1], [])) false pc19_o9
def pc19_c10 : PCode := .skip
def pc19_c11 : PCode := .exit 0
def pc19_c12 : PCode := .cond (.tmp 32) pc19_c10 pc19_c11
def pc19_c13 : PCode := .seq pc19_c9 pc19_c12
def pc19_o14 : List POper := [⟨some 35, .faddr 1 (.tmp 1), none, []⟩,
  ⟨some 36, .load false 1 (.tmp 35), none, []⟩,
  ⟨some 37, .mv (.tmp 4), none, []⟩,
  ⟨some 38, .prim (.bin .add 3 false true) [.tmp 37, .const (.int .i64 1)], none, []⟩,
  ⟨some 39, .prim (.conv 3 90) [.tmp 38], none, []⟩,
  ⟨some 40, .prim (.bin .shr 5 false false) [.tmp 36, .tmp 39], none, []⟩,
  ⟨some 41, .prim (.bin .and 5 false true) [.tmp 40, .const (.int .u8 1)], none, []⟩,
  ⟨some 42, .prim (.bin .neq 5 false true) [.tmp 41, .const (.int .u8 0)], none, []⟩]
def pc19_c14 : PCode := .region none false pc19_o14
def pc19_o15 : List POper := [⟨some 43, .mv (.tmp 3), none, []⟩,
  ⟨some 44, .mv (.tmp 4), none, []⟩,
  ⟨some 45, .faddr 4 (.tmp 1), none, []⟩,
  ⟨some 46, .iaddrA 4 2 (.tmp 45) (.tmp 44), none, []⟩,
  ⟨some 47, .faddr 1 (.tmp 46), none, []⟩,
  ⟨some 48, .load false 1 (.tmp 47), none, []⟩,
  ⟨some 49, .call true [[]] 61 [.tmp 48], none, []⟩,
  ⟨some 50, .prim (.bin .add 9 false false) [.tmp 43, .tmp 49], none, []⟩,
  ⟨some 3, .mv (.tmp 50), none, []⟩]
def pc19_c15 : PCode := .region none false pc19_o15
def pc19_o16 : List POper := [⟨some 51, .mv (.tmp 4), none, []⟩,
  ⟨some 52, .faddr 4 (.tmp 1), none, []⟩,
  ⟨some 53, .iaddrA 4 2 (.tmp 52) (.tmp 51), none, []⟩,
  ⟨some 54, .faddr 1 (.tmp 53), none, []⟩,
  ⟨some 55, .load false 1 (.tmp 54), none, []⟩,
  ⟨some 56, .prim (.bin .eql 9 false true) [.tmp 55, .const (.string { data := { toList := [] } })], none, []⟩]
def pc19_c16 : PCode := .region none false pc19_o16
def pc19_o17 : List POper := [⟨some 57, .mv (.tmp 3), none, []⟩,
  ⟨some 58, .mv (.tmp 4), none, []⟩,
  ⟨some 59, .faddr 4 (.tmp 1), none, []⟩,
  ⟨some 60, .iaddrA 4 2 (.tmp 59) (.tmp 58), none, []⟩,
  ⟨some 61, .faddr 0 (.tmp 60), none, []⟩,
  ⟨some 62, .load false 1 (.tmp 61), none, []⟩,
  ⟨some 63, .call true [[]] 62 [.tmp 62], none, []⟩,
  ⟨some 64, .prim (.bin .add 9 false false) [.tmp 57, .tmp 63], none, []⟩,
  ⟨some 3, .mv (.tmp 64), none, []⟩]
def pc19_c17 : PCode := .region none false pc19_o17
def pc19_c18 : PCode := .skip
def pc19_c19 : PCode := .cond (.tmp 56) pc19_c17 pc19_c18
def pc19_c20 : PCode := .seq pc19_c16 pc19_c19
def pc19_c21 : PCode := .seq pc19_c15 pc19_c20
def pc19_c22 : PCode := .skip
def pc19_c23 : PCode := .cond (.tmp 42) pc19_c21 pc19_c22
def pc19_c24 : PCode := .seq pc19_c14 pc19_c23
def pc19_c25 : PCode := .block 1 pc19_c24
def pc19_o26 : List POper := [⟨some 33, .mv (.tmp 4), none, []⟩,
  ⟨some 34, .prim (.bin .add 3 false true) [.tmp 33, .const (.int .i64 1)], none, []⟩,
  ⟨some 4, .mv (.tmp 34), none, []⟩]
def pc19_c26 : PCode := .region none false pc19_o26
def pc19_c27 : PCode := .seq pc19_c25 pc19_c26
def pc19_c28 : PCode := .seq pc19_c13 pc19_c27
def pc19_c29 : PCode := .loop pc19_c28
def pc19_c30 : PCode := .block 0 pc19_c29
def pc19_c31 : PCode := .seq pc19_c8 pc19_c30
def pc19_o32 : List POper := [⟨some 65, .mv (.tmp 3), none, []⟩,
  ⟨some 2, .mv (.tmp 65), none, []⟩]
def pc19_c32 : PCode := .region none false pc19_o32
def pc19_c33 : PCode := .ret
def pc19_c34 : PCode := .seq pc19_c32 pc19_c33
def pc19_c35 : PCode := .seq pc19_c31 pc19_c34
def pc19_c36 : PCode := .seq pc19_c7 pc19_c35
def pc19_c37 : PCode := .seq pc19_c2 pc19_c36
def pc19_c38 : PCode := .seq pc19_c1 pc19_c37
def pc19_r : List PRes := [PRes.tmp 2 []]
def pc19 : PFunc := ⟨66, pc19_r, pc19_c38, false⟩
def pc19_a : Ann := {
  kr := fun
    | 4 => some ([1, 3], [1], [])
    | 5 => some ([1, 3, 4], [1], [])
    | _ => none
  ka := fun
    | _ => 0
  kh := fun
    | 1 => some (.at_ 1 0)
    | 3 => some (.imm)
    | 5 => some (.at_ 1 0)
    | 6 => some (.imm)
    | 7 => some (.imm)
    | 8 => some (.imm)
    | 9 => some (.at_ 1 1)
    | 10 => some (.imm)
    | 11 => some (.imm)
    | 12 => some (.imm)
    | 13 => some (.imm)
    | 18 => some (.imm)
    | 19 => some (.at_ 1 2)
    | 20 => some (.at_ 1 2)
    | 21 => some (.imm)
    | 22 => some (.imm)
    | 23 => some (.imm)
    | 24 => some (.imm)
    | 25 => some (.at_ 1 2)
    | 26 => some (.at_ 1 3)
    | 27 => some (.imm)
    | 28 => some (.imm)
    | 29 => some (.imm)
    | 30 => some (.imm)
    | _ => none
  ow := fun t => match t with
    | 96 => [(1, 5, 1)]
    | _ => []
  tc := fun t => match t with
    | 96 => true
    | _ => false }
theorem pc19_ok : compFn Try.prog pc19_a Try.f19 = some pc19 := by kernel_rfl


-- 20: vedette/vedetteref6.Full
def pc20_o1 : List POper := [⟨some 1, .box 28 (.tmp 0) [], none, []⟩,
  ⟨some 2, .alloc 35 (.agg { toList := [.int .i64 0, .int .u8 0, .int .i64 0, .int .i64 0, .int .i64 0, .string { data := { toList := [] } }, .int .i64 0, .string { data := { toList := [] } }, .int .i64 0, .string { data := { toList := [] } }, .int .i64 0, .string { data := { toList := [] } }] }) [], none, []⟩]
def pc20_c1 : PCode := .region none false pc20_o1
def pc20_o2 : List POper := [⟨some 3, .faddr 0 (.tmp 1), none, []⟩,
  ⟨some 4, .load false 1 (.tmp 3), none, []⟩,
  ⟨some 5, .faddr 1 (.tmp 1), none, []⟩,
  ⟨some 6, .load true 2 (.tmp 5), none, []⟩,
  ⟨some 7, .faddr 3 (.tmp 1), none, []⟩,
  ⟨some 8, .load true 8 (.tmp 7), none, []⟩,
  ⟨some 9, .build (.agg { toList := [.int .i64 0, .int .u8 0, .int .i64 0, .int .i64 0, .int .i64 0, .string { data := { toList := [] } }, .int .i64 0, .string { data := { toList := [] } }, .int .i64 0, .string { data := { toList := [] } }, .int .i64 0, .string { data := { toList := [] } }] }) [(0, 1, .tmp 4), (1, 1, .const (.int .u8 31)), (2, 2, .tmp 6), (4, 8, .tmp 8)], none, []⟩,
  ⟨none, .store 12 (.tmp 2) (.tmp 9), none, []⟩]
def pc20_c2 : PCode := .region none false pc20_o2
def pc20_c3 : PCode := .ret
def pc20_c4 : PCode := .seq pc20_c2 pc20_c3
def pc20_c5 : PCode := .seq pc20_c1 pc20_c4
def pc20_r : List PRes := [PRes.cell 2 true 12 []]
def pc20 : PFunc := ⟨10, pc20_r, pc20_c5, false⟩
def pc20_a : Ann := {
  kr := fun
    | _ => none
  ka := fun
    | _ => 0
  kh := fun
    | _ => none
  ow := fun t => match t with
    | 96 => [(1, 5, 1)]
    | _ => []
  tc := fun t => match t with
    | 96 => true
    | _ => false }
theorem pc20_ok : compFn Try.prog pc20_a Try.f20 = some pc20 := by kernel_rfl


-- 94: vedette/vedetteref6.IsDelta
def pc94_o1 : List POper := [⟨some 1, .box 35 (.tmp 0) [], none, []⟩,
  ⟨some 2, .mv (.const (.bool false)), none, []⟩]
def pc94_c1 : PCode := .region none false pc94_o1
def pc94_o2 : List POper := [⟨some 4, .faddr 0 (.tmp 1), none, []⟩,
  ⟨some 5, .load false 1 (.tmp 4), none, []⟩,
  ⟨some 6, .prim (.bin .lss 3 false true) [.tmp 5, .const (.int .i64 0)], none, []⟩,
  ⟨some 7, .mv (.tmp 6), none, []⟩,
  ⟨some 8, .faddr 0 (.tmp 1), some (7, false), []⟩,
  ⟨some 9, .load false 1 (.tmp 8), some (7, false), []⟩,
  ⟨some 10, .prim (.bin .gtr 3 false true) [.tmp 9, .const (.int .i64 1000000)], some (7, false), []⟩,
  ⟨some 11, .pick (.tmp 7) (.const (.bool true)) (.tmp 10), none, []⟩,
  ⟨some 12, .mv (.tmp 11), none, []⟩,
  ⟨some 13, .faddr 1 (.tmp 1), some (12, false), []⟩,
  ⟨some 14, .load false 1 (.tmp 13), some (12, false), []⟩,
  ⟨some 15, .prim (.bin .lss 5 false true) [.tmp 14, .const (.int .u8 1)], some (12, false), []⟩,
  ⟨some 16, .pick (.tmp 12) (.const (.bool true)) (.tmp 15), none, []⟩,
  ⟨some 17, .mv (.tmp 16), none, []⟩,
  ⟨some 18, .faddr 1 (.tmp 1), some (17, false), []⟩,
  ⟨some 19, .load false 1 (.tmp 18), some (17, false), []⟩,
  ⟨some 20, .prim (.bin .gtr 5 false true) [.tmp 19, .const (.int .u8 31)], some (17, false), []⟩,
  ⟨some 21, .pick (.tmp 17) (.const (.bool true)) (.tmp 20), none, []⟩]
def pc94_c2 : PCode := .region none false pc94_o2
def pc94_o3 : List POper := [⟨some 2, .mv (.const (.bool false)), none, []⟩]
def pc94_c3 : PCode := .region none false pc94_o3
def pc94_c4 : PCode := .ret
def pc94_c5 : PCode := .seq pc94_c3 pc94_c4
def pc94_c6 : PCode := .skip
def pc94_c7 : PCode := .cond (.tmp 21) pc94_c5 pc94_c6
def pc94_c8 : PCode := .seq pc94_c2 pc94_c7
def pc94_o9 : List POper := [⟨some 22, .faddr 1 (.tmp 1), none, []⟩,
  ⟨some 23, .load false 1 (.tmp 22), none, []⟩,
  ⟨some 24, .prim (.bin .and 5 false true) [.tmp 23, .const (.int .u8 1)], none, []⟩,
  ⟨some 25, .prim (.bin .neq 5 false true) [.tmp 24, .const (.int .u8 0)], none, []⟩,
  ⟨some 26, .mv (.tmp 25), none, []⟩,
  ⟨some 27, .faddr 2 (.tmp 1), some (26, true), []⟩,
  ⟨some 28, .load true 2 (.tmp 27), some (26, true), []⟩,
  ⟨some 29, .call true [[]] 58 [.tmp 28], some (26, true), []⟩,
  ⟨some 30, .prim (.un .not) [.tmp 29], some (26, true), []⟩,
  ⟨some 31, .pick (.tmp 26) (.tmp 30) (.const (.bool false)), none, []⟩,
  ⟨some 32, .mv (.tmp 31), none, []⟩,
  ⟨some 33, .faddr 1 (.tmp 1), some (32, false), []⟩,
  ⟨some 34, .load false 1 (.tmp 33), some (32, false), []⟩,
  ⟨some 35, .prim (.bin .and 5 false true) [.tmp 34, .const (.int .u8 1)], some (32, false), []⟩,
  ⟨some 36, .prim (.bin .eql 5 false true) [.tmp 35, .const (.int .u8 0)], some (32, false), []⟩,
  ⟨some 37, .mv (.tmp 36), some (32, false), []⟩,
  ⟨some 38, .faddr 2 (.tmp 1), some (37, true), []⟩,
  ⟨some 39, .load true 2 (.tmp 38), some (37, true), []⟩,
  ⟨some 40, .build (.agg { toList := [.int .i64 0, .int .i64 0] }) [], some (37, true), []⟩,
  ⟨some 41, .prim (.bin .neq 23 false false) [.tmp 39, .tmp 40], some (37, true), []⟩,
  ⟨some 42, .pick (.tmp 37) (.tmp 41) (.const (.bool false)), some (32, false), []⟩,
  ⟨some 43, .pick (.tmp 32) (.const (.bool true)) (.tmp 42), none, []⟩]
def pc94_c9 : PCode := .region none false pc94_o9
def pc94_o10 : List POper := [⟨some 2, .mv (.const (.bool false)), none, []⟩]
def pc94_c10 : PCode := .region none false pc94_o10
def pc94_c11 : PCode := .ret
def pc94_c12 : PCode := .seq pc94_c10 pc94_c11
def pc94_c13 : PCode := .skip
def pc94_c14 : PCode := .cond (.tmp 43) pc94_c12 pc94_c13
def pc94_c15 : PCode := .seq pc94_c9 pc94_c14
def pc94_o16 : List POper := [⟨some 3, .mv (.const (.int .i64 0)), none, []⟩]
def pc94_c16 : PCode := .region (some ([1], [1], [])) false pc94_o16
def pc94_o17 : List POper := [⟨some 44, .mv (.tmp 3), none, []⟩,
  ⟨some 45, .prim (.bin .lss 3 false true) [.tmp 44, .const (.int .i64 4)], none, []⟩]
def pc94_c17 : PCode := .region (some ([1, 3], [1], [])) false pc94_o17
def pc94_c18 : PCode := .skip
def pc94_c19 : PCode := .exit 0
def pc94_c20 : PCode := .cond (.tmp 45) pc94_c18 pc94_c19
def pc94_c21 : PCode := .seq pc94_c17 pc94_c20
def pc94_o22 : List POper := [⟨some 48, .mv (.tmp 3), none, []⟩,
  ⟨some 49, .faddr 4 (.tmp 1), none, []⟩,
  ⟨some 50, .iaddrA 4 2 (.tmp 49) (.tmp 48), none, []⟩,
  ⟨some 51, .load true 2 (.tmp 50), none, []⟩,
  ⟨some 52, .call true [[]] 59 [.tmp 51], none, []⟩,
  ⟨some 53, .prim (.un .not) [.tmp 52], none, []⟩,
  ⟨some 54, .mv (.tmp 53), none, []⟩,
  ⟨some 55, .faddr 1 (.tmp 1), some (54, false), []⟩,
  ⟨some 56, .load false 1 (.tmp 55), some (54, false), []⟩,
  ⟨some 57, .mv (.tmp 3), some (54, false), []⟩,
  ⟨some 58, .prim (.bin .add 3 false true) [.tmp 57, .const (.int .i64 1)], some (54, false), []⟩,
  ⟨some 59, .prim (.conv 3 90) [.tmp 58], some (54, false), []⟩,
  ⟨some 60, .prim (.bin .shr 5 false false) [.tmp 56, .tmp 59], some (54, false), []⟩,
  ⟨some 61, .prim (.bin .and 5 false true) [.tmp 60, .const (.int .u8 1)], some (54, false), []⟩,
  ⟨some 62, .prim (.bin .eql 5 false true) [.tmp 61, .const (.int .u8 0)], some (54, false), []⟩,
  ⟨some 63, .mv (.tmp 62), some (54, false), []⟩,
  ⟨some 64, .mv (.tmp 3), some (63, true), []⟩,
  ⟨some 65, .faddr 4 (.tmp 1), some (63, true), []⟩,
  ⟨some 66, .iaddrA 4 2 (.tmp 65) (.tmp 64), some (63, true), []⟩,
  ⟨some 67, .load true 2 (.tmp 66), some (63, true), []⟩,
  ⟨some 68, .build (.agg { toList := [.int .i64 0, .string { data := { toList := [] } }] }) [], some (63, true), []⟩,
  ⟨some 69, .prim (.bin .neq 25 false false) [.tmp 67, .tmp 68], some (63, true), []⟩,
  ⟨some 70, .pick (.tmp 63) (.tmp 69) (.const (.bool false)), some (54, false), []⟩,
  ⟨some 71, .pick (.tmp 54) (.const (.bool true)) (.tmp 70), none, []⟩]
def pc94_c22 : PCode := .region none false pc94_o22
def pc94_o23 : List POper := [⟨some 2, .mv (.const (.bool false)), none, []⟩]
def pc94_c23 : PCode := .region none false pc94_o23
def pc94_c24 : PCode := .ret
def pc94_c25 : PCode := .seq pc94_c23 pc94_c24
def pc94_c26 : PCode := .skip
def pc94_c27 : PCode := .cond (.tmp 71) pc94_c25 pc94_c26
def pc94_c28 : PCode := .seq pc94_c22 pc94_c27
def pc94_c29 : PCode := .block 1 pc94_c28
def pc94_o30 : List POper := [⟨some 46, .mv (.tmp 3), none, []⟩,
  ⟨some 47, .prim (.bin .add 3 false true) [.tmp 46, .const (.int .i64 1)], none, []⟩,
  ⟨some 3, .mv (.tmp 47), none, []⟩]
def pc94_c30 : PCode := .region none false pc94_o30
def pc94_c31 : PCode := .seq pc94_c29 pc94_c30
def pc94_c32 : PCode := .seq pc94_c21 pc94_c31
def pc94_c33 : PCode := .loop pc94_c32
def pc94_c34 : PCode := .block 0 pc94_c33
def pc94_c35 : PCode := .seq pc94_c16 pc94_c34
def pc94_o36 : List POper := [⟨some 2, .mv (.const (.bool true)), none, []⟩]
def pc94_c36 : PCode := .region none false pc94_o36
def pc94_c37 : PCode := .ret
def pc94_c38 : PCode := .seq pc94_c36 pc94_c37
def pc94_c39 : PCode := .seq pc94_c35 pc94_c38
def pc94_c40 : PCode := .seq pc94_c15 pc94_c39
def pc94_c41 : PCode := .seq pc94_c8 pc94_c40
def pc94_c42 : PCode := .seq pc94_c1 pc94_c41
def pc94_r : List PRes := [PRes.tmp 2 []]
def pc94 : PFunc := ⟨72, pc94_r, pc94_c42, false⟩
def pc94_a : Ann := {
  kr := fun
    | 5 => some ([1], [1], [])
    | 6 => some ([1, 3], [1], [])
    | _ => none
  ka := fun
    | _ => 0
  kh := fun
    | _ => none
  ow := fun t => match t with
    | 96 => [(1, 5, 1)]
    | _ => []
  tc := fun t => match t with
    | 96 => true
    | _ => false }
theorem pc94_ok : compFn Try.prog pc94_a Try.f94 = some pc94 := by kernel_rfl


-- 53: vedette/vedetteref15.Is
def pc53_o1 : List POper := [⟨some 1, .box 67 (.tmp 0) [], none, []⟩,
  ⟨some 2, .mv (.const (.bool false)), none, []⟩]
def pc53_c1 : PCode := .region none false pc53_o1
def pc53_o2 : List POper := [⟨some 3, .faddr 0 (.tmp 1), none, []⟩,
  ⟨some 4, .load false 1 (.tmp 3), none, []⟩]
def pc53_c2 : PCode := .region none false pc53_o2
def pc53_o3 : List POper := [⟨some 6, .prim (.bin .eql 3 false true) [.tmp 4, .const (.int .i64 1)], none, []⟩,
  ⟨some 5, .mv (.tmp 6), none, []⟩]
def pc53_c3 : PCode := .region none false pc53_o3
def pc53_o4 : List POper := [⟨some 7, .faddr 2 (.tmp 1), none, []⟩,
  ⟨some 8, .load true 11 (.tmp 7), none, []⟩,
  ⟨some 9, .call true [[]] 18 [.tmp 8], none, []⟩,
  ⟨some 10, .mv (.tmp 9), none, []⟩,
  ⟨some 11, .faddr 1 (.tmp 1), some (10, true), []⟩,
  ⟨some 12, .load false 1 (.tmp 11), some (10, true), []⟩,
  ⟨some 13, .faddr 2 (.tmp 1), some (10, true), []⟩,
  ⟨some 14, .faddr 0 (.tmp 13), some (10, true), []⟩,
  ⟨some 15, .load false 1 (.tmp 14), some (10, true), []⟩,
  ⟨some 16, .prim (.bin .eql 3 false false) [.tmp 12, .tmp 15], some (10, true), []⟩,
  ⟨some 17, .pick (.tmp 10) (.tmp 16) (.const (.bool false)), none, []⟩,
  ⟨some 18, .mv (.tmp 17), none, []⟩,
  ⟨some 19, .faddr 13 (.tmp 1), some (18, true), []⟩,
  ⟨some 20, .load true 12 (.tmp 19), some (18, true), []⟩,
  ⟨some 21, .build (.agg { toList := [.int .i64 0, .int .u8 0, .int .i64 0, .int .i64 0, .int .i64 0, .string { data := { toList := [] } }, .int .i64 0, .string { data := { toList := [] } }, .int .i64 0, .string { data := { toList := [] } }, .int .i64 0, .string { data := { toList := [] } }] }) [], some (18, true), []⟩,
  ⟨some 22, .prim (.bin .eql 35 false false) [.tmp 20, .tmp 21], some (18, true), []⟩,
  ⟨some 23, .pick (.tmp 18) (.tmp 22) (.const (.bool false)), none, []⟩,
  ⟨some 2, .mv (.tmp 23), none, []⟩]
def pc53_c4 : PCode := .region none false pc53_o4
def pc53_c5 : PCode := .ret
def pc53_c6 : PCode := .seq pc53_c4 pc53_c5
def pc53_o7 : List POper := [⟨some 25, .prim (.bin .eql 3 false true) [.tmp 4, .const (.int .i64 2)], none, []⟩,
  ⟨some 24, .mv (.tmp 25), none, []⟩]
def pc53_c7 : PCode := .region none false pc53_o7
def pc53_o8 : List POper := [⟨some 26, .faddr 13 (.tmp 1), none, []⟩,
  ⟨some 27, .load true 12 (.tmp 26), none, []⟩,
  ⟨some 28, .call true [[]] 94 [.tmp 27], none, []⟩,
  ⟨some 29, .mv (.tmp 28), none, []⟩,
  ⟨some 30, .faddr 1 (.tmp 1), some (29, true), []⟩,
  ⟨some 31, .load false 1 (.tmp 30), some (29, true), []⟩,
  ⟨some 32, .faddr 13 (.tmp 1), some (29, true), []⟩,
  ⟨some 33, .faddr 0 (.tmp 32), some (29, true), []⟩,
  ⟨some 34, .load false 1 (.tmp 33), some (29, true), []⟩,
  ⟨some 35, .prim (.bin .eql 3 false false) [.tmp 31, .tmp 34], some (29, true), []⟩,
  ⟨some 36, .pick (.tmp 29) (.tmp 35) (.const (.bool false)), none, []⟩,
  ⟨some 37, .mv (.tmp 36), none, []⟩,
  ⟨some 38, .faddr 2 (.tmp 1), some (37, true), []⟩,
  ⟨some 39, .load true 11 (.tmp 38), some (37, true), []⟩,
  ⟨some 40, .build (.agg { toList := [.int .i64 0, .int .i64 0, .int .i64 0, .int .i64 0, .string { data := { toList := [] } }, .int .i64 0, .string { data := { toList := [] } }, .int .i64 0, .string { data := { toList := [] } }, .int .i64 0, .string { data := { toList := [] } }] }) [], some (37, true), []⟩,
  ⟨some 41, .prim (.bin .eql 28 false false) [.tmp 39, .tmp 40], some (37, true), []⟩,
  ⟨some 42, .pick (.tmp 37) (.tmp 41) (.const (.bool false)), none, []⟩,
  ⟨some 2, .mv (.tmp 42), none, []⟩]
def pc53_c8 : PCode := .region none false pc53_o8
def pc53_c9 : PCode := .ret
def pc53_c10 : PCode := .seq pc53_c8 pc53_c9
def pc53_o11 : List POper := [⟨some 44, .prim (.bin .eql 3 false true) [.tmp 4, .const (.int .i64 3)], none, []⟩,
  ⟨some 43, .mv (.tmp 44), none, []⟩]
def pc53_c11 : PCode := .region none false pc53_o11
def pc53_o12 : List POper := [⟨some 45, .faddr 1 (.tmp 1), none, []⟩,
  ⟨some 46, .load false 1 (.tmp 45), none, []⟩,
  ⟨some 47, .prim (.bin .geq 3 false true) [.tmp 46, .const (.int .i64 0)], none, []⟩,
  ⟨some 48, .mv (.tmp 47), none, []⟩,
  ⟨some 49, .faddr 1 (.tmp 1), some (48, true), []⟩,
  ⟨some 50, .load false 1 (.tmp 49), some (48, true), []⟩,
  ⟨some 51, .prim (.bin .leq 3 false true) [.tmp 50, .const (.int .i64 1000000)], some (48, true), []⟩,
  ⟨some 52, .pick (.tmp 48) (.tmp 51) (.const (.bool false)), none, []⟩,
  ⟨some 53, .mv (.tmp 52), none, []⟩,
  ⟨some 54, .faddr 2 (.tmp 1), some (53, true), []⟩,
  ⟨some 55, .load true 11 (.tmp 54), some (53, true), []⟩,
  ⟨some 56, .build (.agg { toList := [.int .i64 0, .int .i64 0, .int .i64 0, .int .i64 0, .string { data := { toList := [] } }, .int .i64 0, .string { data := { toList := [] } }, .int .i64 0, .string { data := { toList := [] } }, .int .i64 0, .string { data := { toList := [] } }] }) [], some (53, true), []⟩,
  ⟨some 57, .prim (.bin .eql 28 false false) [.tmp 55, .tmp 56], some (53, true), []⟩,
  ⟨some 58, .pick (.tmp 53) (.tmp 57) (.const (.bool false)), none, []⟩,
  ⟨some 59, .mv (.tmp 58), none, []⟩,
  ⟨some 60, .faddr 13 (.tmp 1), some (59, true), []⟩,
  ⟨some 61, .load true 12 (.tmp 60), some (59, true), []⟩,
  ⟨some 62, .build (.agg { toList := [.int .i64 0, .int .u8 0, .int .i64 0, .int .i64 0, .int .i64 0, .string { data := { toList := [] } }, .int .i64 0, .string { data := { toList := [] } }, .int .i64 0, .string { data := { toList := [] } }, .int .i64 0, .string { data := { toList := [] } }] }) [], some (59, true), []⟩,
  ⟨some 63, .prim (.bin .eql 35 false false) [.tmp 61, .tmp 62], some (59, true), []⟩,
  ⟨some 64, .pick (.tmp 59) (.tmp 63) (.const (.bool false)), none, []⟩,
  ⟨some 2, .mv (.tmp 64), none, []⟩]
def pc53_c12 : PCode := .region none false pc53_o12
def pc53_c13 : PCode := .ret
def pc53_c14 : PCode := .seq pc53_c12 pc53_c13
def pc53_c15 : PCode := .skip
def pc53_c16 : PCode := .cond (.tmp 43) pc53_c14 pc53_c15
def pc53_c17 : PCode := .seq pc53_c11 pc53_c16
def pc53_c18 : PCode := .cond (.tmp 24) pc53_c10 pc53_c17
def pc53_c19 : PCode := .seq pc53_c7 pc53_c18
def pc53_c20 : PCode := .cond (.tmp 5) pc53_c6 pc53_c19
def pc53_c21 : PCode := .seq pc53_c3 pc53_c20
def pc53_c22 : PCode := .block 0 pc53_c21
def pc53_c23 : PCode := .seq pc53_c2 pc53_c22
def pc53_o24 : List POper := [⟨some 2, .mv (.const (.bool false)), none, []⟩]
def pc53_c24 : PCode := .region none false pc53_o24
def pc53_c25 : PCode := .ret
def pc53_c26 : PCode := .seq pc53_c24 pc53_c25
def pc53_c27 : PCode := .seq pc53_c23 pc53_c26
def pc53_c28 : PCode := .seq pc53_c1 pc53_c27
def pc53_r : List PRes := [PRes.tmp 2 []]
def pc53 : PFunc := ⟨65, pc53_r, pc53_c28, false⟩
def pc53_a : Ann := {
  kr := fun
    | _ => none
  ka := fun
    | _ => 0
  kh := fun
    | _ => none
  ow := fun t => match t with
    | 96 => [(1, 5, 1)]
    | _ => []
  tc := fun t => match t with
    | 96 => true
    | _ => false }
theorem pc53_ok : compFn Try.prog pc53_a Try.f53 = some pc53 := by kernel_rfl


end Go.Proofs.Ytobeamaaifgllaa
