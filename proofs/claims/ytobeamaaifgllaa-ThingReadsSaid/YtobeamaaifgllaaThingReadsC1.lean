/-
  Code of functions, as the pure machine runs it. No condition.
-/
import Derived.Test.YtobeamaaifgllaaThingReadsT
namespace Go.Proofs.Ytobeamaaifgllaa
open Go Go.Rx
set_option maxRecDepth 100000
set_option linter.unusedVariables false
set_option linter.unusedSimpArgs false
set_option linter.unnecessarySimpa false
-- 19: vedette/vedetteref6.Bytes
def pc19_o1 : List POper := [⟨some 1, .box 35 (.tmp 0) [], none, []⟩,
  ⟨some 2, .mv (.const (.string { data := { toList := [] } })), none, []⟩]
def pc19_c1 : PCode := .region none false pc19_o1
def pc19_o2 : List POper := [⟨some 5, .faddr 0 (.tmp 1), none, [(1, .at_ 1 0)]⟩,
  ⟨some 6, .load false 1 (.tmp 5), none, [(5, .at_ 1 0)]⟩,
  ⟨some 7, .prim (.conv 3 89) [.tmp 6], none, [(6, .imm)]⟩,
  ⟨some 8, .call false [[]] 60 [.tmp 7], none, [(7, .imm)]⟩,
  ⟨some 9, .faddr 1 (.tmp 1), none, [(1, .at_ 1 0)]⟩,
  ⟨some 10, .load false 1 (.tmp 9), none, [(9, .at_ 1 1)]⟩,
  ⟨some 11, .prim (.conv 5 89) [.tmp 10], none, [(10, .imm)]⟩,
  ⟨some 12, .call false [[]] 60 [.tmp 11], none, [(11, .imm)]⟩,
  ⟨some 13, .prim (.bin .add 9 false false) [.tmp 8, .tmp 12], none, [(8, .imm), (12, .imm)]⟩,
  ⟨some 3, .mv (.tmp 13), none, [(13, .imm)]⟩]
def pc19_c2 : PCode := .region none true pc19_o2
def pc19_o3 : List POper := [⟨some 14, .faddr 1 (.tmp 1), none, []⟩,
  ⟨some 15, .load false 1 (.tmp 14), none, []⟩,
  ⟨some 16, .prim (.bin .and 5 false true) [.tmp 15, .const (.int .u8 1)], none, []⟩,
  ⟨some 17, .prim (.bin .neq 5 false true) [.tmp 16, .const (.int .u8 0)], none, []⟩]
def pc19_c3 : PCode := .region none false pc19_o3
def pc19_o4 : List POper := [⟨some 18, .mv (.tmp 3), none, [(3, .imm)]⟩,
  ⟨some 19, .faddr 2 (.tmp 1), none, [(1, .at_ 1 0)]⟩,
  ⟨some 20, .faddr 0 (.tmp 19), none, [(19, .at_ 1 2)]⟩,
  ⟨some 21, .load false 1 (.tmp 20), none, [(20, .at_ 1 2)]⟩,
  ⟨some 22, .prim (.conv 3 89) [.tmp 21], none, [(21, .imm)]⟩,
  ⟨some 23, .call false [[]] 60 [.tmp 22], none, [(22, .imm)]⟩,
  ⟨some 24, .prim (.bin .add 9 false false) [.tmp 18, .tmp 23], none, [(18, .imm), (23, .imm)]⟩,
  ⟨some 25, .faddr 2 (.tmp 1), none, [(1, .at_ 1 0)]⟩,
  ⟨some 26, .faddr 1 (.tmp 25), none, [(25, .at_ 1 2)]⟩,
  ⟨some 27, .load false 1 (.tmp 26), none, [(26, .at_ 1 3)]⟩,
  ⟨some 28, .prim (.conv 3 89) [.tmp 27], none, [(27, .imm)]⟩,
  ⟨some 29, .call false [[]] 60 [.tmp 28], none, [(28, .imm)]⟩,
  ⟨some 30, .prim (.bin .add 9 false false) [.tmp 24, .tmp 29], none, [(24, .imm), (29, .imm)]⟩,
  ⟨some 3, .mv (.tmp 30), none, [(30, .imm)]⟩]
def pc19_c4 : PCode := .region none true pc19_o4
def pc19_c5 : PCode := .skip
def pc19_c6 : PCode := .cond (.tmp 17) pc19_c4 pc19_c5
def pc19_c7 : PCode := .seq pc19_c3 pc19_c6
def pc19_o8 : List POper := [⟨some 4, .mv (.const (.int .i64 0)), none, []⟩]
def pc19_c8 : PCode := .region (some ([1, 3], [1], [])) false pc19_o8
def pc19_o9 : List POper := [⟨some 31, .mv (.tmp 4), none, []⟩,
  ⟨some 32, .prim (.bin .lss 3 false true) [.tmp 31, .const (.int .i64 4)], none, []⟩]
def pc19_c9 : PCode := .region (some ([1, 3, 4], [1], [])) false pc19_o9
def pc19_c10 : PCode := .skip
def pc19_c11 : PCode := .exit 0
def pc19_c12 : PCode := .cond (.tmp 32) pc19_c10 pc19_c11
def pc19_c13 : PCode := .seq pc19_c9 pc19_c12
def pc19_o14 : List POper := [⟨some 35, .faddr 1 (.tmp 1), none, []⟩,
  ⟨some 36, .load false 1 (.tmp 35), none, []⟩,
  ⟨some 37, .mv (.tmp 4), none, []⟩,
  ⟨some 38, .prim (.bin .add 3 false true) [.tmp 37, .const (.int .i64 1)], none, []⟩,
  ⟨some 39, .prim (.conv 3 90) [.tmp 38], none, []⟩,
  ⟨some 40, .prim (.bin .shr 5 false false) [.tmp 36, .tmp 39], none, []⟩,
  ⟨some 41, .prim (.bin .and 5 false true) [.tmp 40, .const (.int .u8 1)], none, []⟩,
  ⟨some 42, .prim (.bin .neq 5 false true) [.tmp 41, .const (.int .u8 0)], none, []⟩]
def pc19_c14 : PCode := .region none false pc19_o14
def pc19_o15 : List POper := [⟨some 43, .mv (.tmp 3), none, []⟩,
  ⟨some 44, .mv (.tmp 4), none, []⟩,
  ⟨some 45, .faddr 4 (.tmp 1), none, []⟩,
  ⟨some 46, .iaddrA 4 2 (.tmp 45) (.tmp 44), none, []⟩,
  ⟨some 47, .faddr 1 (.tmp 46), none, []⟩,
  ⟨some 48, .load false 1 (.tmp 47), none, []⟩,
  ⟨some 49, .call true [[]] 61 [.tmp 48], none, []⟩,
  ⟨some 50, .prim (.bin .add 9 false false) [.tmp 43, .tmp 49], none, []⟩,
  ⟨some 3, .mv (.tmp 50), none, []⟩]
def pc19_c15 : PCode := .region none false pc19_o15
def pc19_o16 : List POper := [⟨some 51, .mv (.tmp 4), none, []⟩,
  ⟨some 52, .faddr 4 (.tmp 1), none, []⟩,
  ⟨some 53, .iaddrA 4 2 (.tmp 52) (.tmp 51), none, []⟩,
  ⟨some 54, .faddr 1 (.tmp 53), none, []⟩,
  ⟨some 55, .load false 1 (.tmp 54), none, []⟩,
  ⟨some 56, .prim (.bin .eql 9 false true) [.tmp 55, .const (.string { data := { toList := [] } })], none, []⟩]
def pc19_c16 : PCode := .region none false pc19_o16
def pc19_o17 : List POper := [⟨some 57, .mv (.tmp 3), none, []⟩,
  ⟨some 58, .mv (.tmp 4), none, []⟩,
  ⟨some 59, .faddr 4 (.tmp 1), none, []⟩,
  ⟨some 60, .iaddrA 4 2 (.tmp 59) (.tmp 58), none, []⟩,
  ⟨some 61, .faddr 0 (.tmp 60), none, []⟩,
  ⟨some 62, .load false 1 (.tmp 61), none, []⟩,
  ⟨some 63, .call true [[]] 62 [.tmp 62], none, []⟩,
  ⟨some 64, .prim (.bin .add 9 false false) [.tmp 57, .tmp 63], none, []⟩,
  ⟨some 3, .mv (.tmp 64), none, []⟩]
def pc19_c17 : PCode := .region none false pc19_o17
def pc19_c18 : PCode := .skip
def pc19_c19 : PCode := .cond (.tmp 56) pc19_c17 pc19_c18
def pc19_c20 : PCode := .seq pc19_c16 pc19_c19
def pc19_c21 : PCode := .seq pc19_c15 pc19_c20
def pc19_c22 : PCode := .skip
def pc19_c23 : PCode := .cond (.tmp 42) pc19_c21 pc19_c22
def pc19_c24 : PCode := .seq pc19_c14 pc19_c23
def pc19_c25 : PCode := .block 1 pc19_c24
def pc19_o26 : List POper := [⟨some 33, .mv (.tmp 4), none, []⟩,
  ⟨some 34, .prim (.bin .add 3 false true) [.tmp 33, .const (.int .i64 1)], none, []⟩,
  ⟨some 4, .mv (.tmp 34), none, []⟩]
def pc19_c26 : PCode := .region none false pc19_o26
def pc19_c27 : PCode := .seq pc19_c25 pc19_c26
def pc19_c28 : PCode := .seq pc19_c13 pc19_c27
def pc19_c29 : PCode := .loop pc19_c28
def pc19_c30 : PCode := .block 0 pc19_c29
def pc19_c31 : PCode := .seq pc19_c8 pc19_c30
def pc19_o32 : List POper := [⟨some 65, .mv (.tmp 3), none, []⟩,
  ⟨some 2, .mv (.tmp 65), none, []⟩]
def pc19_c32 : PCode := .region none false pc19_o32
def pc19_c33 : PCode := .ret
def pc19_c34 : PCode := .seq pc19_c32 pc19_c33
def pc19_c35 : PCode := .seq pc19_c31 pc19_c34
def pc19_c36 : PCode := .seq pc19_c7 pc19_c35
def pc19_c37 : PCode := .seq pc19_c2 pc19_c36
def pc19_c38 : PCode := .seq pc19_c1 pc19_c37
def pc19_r : List PRes := [PRes.tmp 2 []]
def pc19 : PFunc := ⟨66, pc19_r, pc19_c38, false⟩
def pc19_a : Ann := {
  kr := fun
    | 4 => some ([1, 3], [1], [])
    | 5 => some ([1, 3, 4], [1], [])
    | _ => none
  ka := fun
    | _ => 0
  kh := fun
    | 1 => some (.at_ 1 0)
    | 3 => some (.imm)
    | 5 => some (.at_ 1 0)
    | 6 => some (.imm)
    | 7 => some (.imm)
    | 8 => some (.imm)
    | 9 => some (.at_ 1 1)
    | 10 => some (.imm)
    | 11 => some (.imm)
    | 12 => some (.imm)
    | 13 => some (.imm)
    | 18 => some (.imm)
    | 19 => some (.at_ 1 2)
    | 20 => some (.at_ 1 2)
    | 21 => some (.imm)
    | 22 => some (.imm)
    | 23 => some (.imm)
    | 24 => some (.imm)
    | 25 => some (.at_ 1 2)
    | 26 => some (.at_ 1 3)
    | 27 => some (.imm)
    | 28 => some (.imm)
    | 29 => some (.imm)
    | 30 => some (.imm)
    | _ => none
  ow := fun t => match t with
    | 96 => [(1, 5, 1)]
    | _ => []
  tc := fun t => match t with
    | 96 => true
    | _ => false }
theorem pc19_ok : compFn Try.prog pc19_a Try.f19 = some pc19 := by kernel_rfl


-- 76: vedette/fields.Diff
def pc76_o1 : List POper := [⟨some 2, .box 28 (.tmp 0) [], none, []⟩,
  ⟨some 3, .box 28 (.tmp 1) [], none, []⟩,
  ⟨some 4, .alloc 35 (.agg { toList := [.int .i64 0, .int .u8 0, .int .i64 0, .int .i64 0, .int .i64 0, .string { data := { toList := [] } }, .int .i64 0, .string { data := { toList := [] } }, .int .i64 0, .string { data := { toList := [] } }, .int .i64 0, .string { data := { toList := [] } }] }) [], none, []⟩,
  ⟨some 5, .mv (.const (.bool false)), none, []⟩]
def pc76_c1 : PCode := .region none false pc76_o1
def pc76_o2 : List POper := [⟨some 9, .faddr 0 (.tmp 3), none, []⟩,
  ⟨some 10, .load false 1 (.tmp 9), none, []⟩,
  ⟨some 11, .build (.agg { toList := [.int .i64 0, .int .u8 0, .int .i64 0, .int .i64 0, .int .i64 0, .string { data := { toList := [] } }, .int .i64 0, .string { data := { toList := [] } }, .int .i64 0, .string { data := { toList := [] } }, .int .i64 0, .string { data := { toList := [] } }] }) [(0, 1, .tmp 10)], none, []⟩,
  ⟨some 6, .alloc 35 (.agg { toList := [.int .i64 0, .int .u8 0, .int .i64 0, .int .i64 0, .int .i64 0, .string { data := { toList := [] } }, .int .i64 0, .string { data := { toList := [] } }, .int .i64 0, .string { data := { toList := [] } }, .int .i64 0, .string { data := { toList := [] } }] }) [], none, []⟩,
  ⟨none, .store 12 (.tmp 6) (.tmp 11), none, []⟩]
def pc76_c2 : PCode := .region none false pc76_o2
def pc76_o3 : List POper := [⟨some 12, .faddr 1 (.tmp 2), none, []⟩,
  ⟨some 13, .load true 2 (.tmp 12), none, []⟩,
  ⟨some 14, .faddr 1 (.tmp 3), none, []⟩,
  ⟨some 15, .load true 2 (.tmp 14), none, []⟩,
  ⟨some 16, .prim (.bin .neq 23 false false) [.tmp 13, .tmp 15], none, []⟩]
def pc76_c3 : PCode := .region none false pc76_o3
def pc76_o4 : List POper := [⟨some 17, .faddr 1 (.tmp 3), none, [(3, .at_ 3 0)]⟩,
  ⟨some 18, .load true 2 (.tmp 17), none, [(17, .at_ 3 1)]⟩,
  ⟨some 19, .faddr 1 (.tmp 6), none, [(6, .at_ 6 0)]⟩,
  ⟨none, .store 1 (.tmp 19) (.const (.int .u8 1)), none, [(19, .at_ 6 1)]⟩,
  ⟨some 20, .faddr 2 (.tmp 6), none, [(6, .at_ 6 0)]⟩,
  ⟨none, .store 2 (.tmp 20) (.tmp 18), none, [(20, .at_ 6 2), (18, .imm)]⟩]
def pc76_c4 : PCode := .region none true pc76_o4
def pc76_c5 : PCode := .skip
def pc76_c6 : PCode := .cond (.tmp 16) pc76_c4 pc76_c5
def pc76_c7 : PCode := .seq pc76_c3 pc76_c6
def pc76_o8 : List POper := [⟨some 21, .faddr 3 (.tmp 3), none, []⟩,
  ⟨some 22, .load true 8 (.tmp 21), none, []⟩,
  ⟨some 23, .mv (.const (.int .i64 0)), none, []⟩]
def pc76_c8 : PCode := .region (some ([2, 3, 4, 6], [2, 3, 4, 6], [])) false pc76_o8
def pc76_o9 : List POper := [⟨some 24, .prim (.bin .lss 3 false true) [.tmp 23, .const (.int .i64 4)], none, []⟩]
def pc76_c9 : PCode := .region (some ([2, 4, 6, 22, 23], [2, 3, 4, 6, 8], [])) false pc76_o9
def pc76_c10 : PCode := .skip
def pc76_c11 : PCode := .exit 0
def pc76_c12 : PCode := .cond (.tmp 24) pc76_c10 pc76_c11
def pc76_o13 : List POper := [⟨some 25, .mv (.tmp 23), none, []⟩,
  ⟨some 26, .idx true 2 4 (.tmp 22) (.tmp 23), none, []⟩,
  ⟨some 8, .alloc 25 (.agg { toList := [.int .i64 0, .string { data := { toList := [] } }] }) [], none, []⟩,
  ⟨some 7, .mv (.tmp 25), none, []⟩,
  ⟨none, .store 2 (.tmp 8) (.tmp 26), none, []⟩]
def pc76_c13 : PCode := .region none false pc76_o13
def pc76_o14 : List POper := [⟨some 27, .mv (.tmp 7), none, [(7, .imm)]⟩,
  ⟨some 28, .faddr 3 (.tmp 2), none, [(2, .at_ 2 0)]⟩,
  ⟨some 29, .iaddrA 4 2 (.tmp 28) (.tmp 27), none, [(28, .at_ 2 3), (27, .imm)]⟩,
  ⟨some 30, .load true 2 (.tmp 29), none, [(29, .obj 2)]⟩,
  ⟨some 31, .load true 2 (.tmp 8), none, [(8, .at_ 8 0)]⟩,
  ⟨some 32, .prim (.bin .neq 25 false false) [.tmp 30, .tmp 31], none, [(30, .imm), (31, .imm)]⟩]
def pc76_c14 : PCode := .region none true pc76_o14
def pc76_o15 : List POper := [⟨some 33, .faddr 1 (.tmp 6), none, [(6, .at_ 6 0)]⟩,
  ⟨some 34, .load false 1 (.tmp 33), none, [(33, .at_ 6 1)]⟩,
  ⟨some 35, .mv (.tmp 7), none, [(7, .imm)]⟩,
  ⟨some 36, .prim (.bin .shl 5 true false) [.const (.int .u8 2), .tmp 35], none, [(35, .imm)]⟩,
  ⟨some 37, .prim (.bin .or 5 false false) [.tmp 34, .tmp 36], none, [(34, .imm), (36, .imm)]⟩,
  ⟨some 38, .faddr 1 (.tmp 6), none, [(6, .at_ 6 0)]⟩,
  ⟨none, .store 1 (.tmp 38) (.tmp 37), none, [(38, .at_ 6 1), (37, .imm)]⟩]
def pc76_c15 : PCode := .region none true pc76_o15
def pc76_o16 : List POper := [⟨some 39, .mv (.tmp 7), none, []⟩,
  ⟨some 40, .load true 2 (.tmp 8), none, []⟩,
  ⟨some 41, .faddr 4 (.tmp 6), none, []⟩,
  ⟨some 42, .iaddrA 4 2 (.tmp 41) (.tmp 39), none, []⟩,
  ⟨none, .store 2 (.tmp 42) (.tmp 40), none, []⟩]
def pc76_c16 : PCode := .region none false pc76_o16
def pc76_c17 : PCode := .seq pc76_c15 pc76_c16
def pc76_c18 : PCode := .skip
def pc76_c19 : PCode := .cond (.tmp 32) pc76_c17 pc76_c18
def pc76_c20 : PCode := .seq pc76_c14 pc76_c19
def pc76_c21 : PCode := .seq pc76_c13 pc76_c20
def pc76_c22 : PCode := .block 1 pc76_c21
def pc76_o23 : List POper := [⟨some 43, .prim (.bin .add 3 false true) [.tmp 23, .const (.int .i64 1)], none, []⟩,
  ⟨some 23, .mv (.tmp 43), none, []⟩]
def pc76_c23 : PCode := .region none false pc76_o23
def pc76_c24 : PCode := .seq pc76_c22 pc76_c23
def pc76_c25 : PCode := .seq pc76_c12 pc76_c24
def pc76_c26 : PCode := .seq pc76_c9 pc76_c25
def pc76_c27 : PCode := .loop pc76_c26
def pc76_c28 : PCode := .block 0 pc76_c27
def pc76_c29 : PCode := .seq pc76_c8 pc76_c28
def pc76_o30 : List POper := [⟨some 44, .load true 12 (.tmp 6), none, [(6, .at_ 6 0)]⟩,
  ⟨some 45, .faddr 1 (.tmp 6), none, [(6, .at_ 6 0)]⟩,
  ⟨some 46, .load false 1 (.tmp 45), none, [(45, .at_ 6 1)]⟩,
  ⟨some 47, .prim (.bin .neq 5 false true) [.tmp 46, .const (.int .u8 0)], none, [(46, .imm)]⟩,
  ⟨none, .store 12 (.tmp 4) (.tmp 44), none, [(4, .at_ 4 0), (44, .imm)]⟩,
  ⟨some 5, .mv (.tmp 47), none, [(47, .imm)]⟩]
def pc76_c30 : PCode := .region none true pc76_o30
def pc76_c31 : PCode := .ret
def pc76_c32 : PCode := .seq pc76_c30 pc76_c31
def pc76_c33 : PCode := .seq pc76_c29 pc76_c32
def pc76_c34 : PCode := .seq pc76_c7 pc76_c33
def pc76_c35 : PCode := .seq pc76_c2 pc76_c34
def pc76_c36 : PCode := .seq pc76_c1 pc76_c35
def pc76_r : List PRes := [PRes.cell 4 true 12 [], PRes.tmp 5 []]
def pc76 : PFunc := ⟨48, pc76_r, pc76_c36, false⟩
def pc76_a : Ann := {
  kr := fun
    | 4 => some ([2, 3, 4, 6], [2, 3, 4, 6], [])
    | 5 => some ([2, 4, 6, 22, 23], [2, 3, 4, 6, 8], [])
    | _ => none
  ka := fun
    | _ => 0
  kh := fun
    | 2 => some (.at_ 2 0)
    | 3 => some (.at_ 3 0)
    | 4 => some (.at_ 4 0)
    | 6 => some (.at_ 6 0)
    | 7 => some (.imm)
    | 8 => some (.at_ 8 0)
    | 17 => some (.at_ 3 1)
    | 18 => some (.imm)
    | 19 => some (.at_ 6 1)
    | 20 => some (.at_ 6 2)
    | 27 => some (.imm)
    | 28 => some (.at_ 2 3)
    | 29 => some (.obj 2)
    | 30 => some (.imm)
    | 31 => some (.imm)
    | 33 => some (.at_ 6 1)
    | 34 => some (.imm)
    | 35 => some (.imm)
    | 36 => some (.imm)
    | 37 => some (.imm)
    | 38 => some (.at_ 6 1)
    | 44 => some (.imm)
    | 45 => some (.at_ 6 1)
    | 46 => some (.imm)
    | 47 => some (.imm)
    | _ => none
  ow := fun t => match t with
    | 96 => [(1, 5, 1)]
    | _ => []
  tc := fun t => match t with
    | 96 => true
    | _ => false }
theorem pc76_ok : compFn Try.prog pc76_a Try.f76 = some pc76 := by kernel_rfl


-- 88: vedette/fields.Apply
def pc88_o1 : List POper := [⟨some 2, .box 28 (.tmp 0) [], none, []⟩,
  ⟨some 3, .box 35 (.tmp 1) [], none, []⟩,
  ⟨some 4, .alloc 28 (.agg { toList := [.int .i64 0, .int .i64 0, .int .i64 0, .int .i64 0, .string { data := { toList := [] } }, .int .i64 0, .string { data := { toList := [] } }, .int .i64 0, .string { data := { toList := [] } }, .int .i64 0, .string { data := { toList := [] } }] }) [], none, []⟩]
def pc88_c1 : PCode := .region none false pc88_o1
def pc88_o2 : List POper := [⟨some 7, .faddr 1 (.tmp 3), none, []⟩,
  ⟨some 8, .load false 1 (.tmp 7), none, []⟩,
  ⟨some 9, .prim (.bin .and 5 false true) [.tmp 8, .const (.int .u8 1)], none, []⟩,
  ⟨some 10, .prim (.bin .neq 5 false true) [.tmp 9, .const (.int .u8 0)], none, []⟩]
def pc88_c2 : PCode := .region none false pc88_o2
def pc88_o3 : List POper := [⟨some 11, .faddr 2 (.tmp 3), none, []⟩,
  ⟨some 12, .load true 2 (.tmp 11), none, []⟩,
  ⟨some 13, .faddr 1 (.tmp 2), none, []⟩,
  ⟨none, .store 2 (.tmp 13) (.tmp 12), none, []⟩]
def pc88_c3 : PCode := .region none false pc88_o3
def pc88_c4 : PCode := .skip
def pc88_c5 : PCode := .cond (.tmp 10) pc88_c3 pc88_c4
def pc88_c6 : PCode := .seq pc88_c2 pc88_c5
def pc88_o7 : List POper := [⟨some 14, .faddr 4 (.tmp 3), none, []⟩,
  ⟨some 15, .load true 8 (.tmp 14), none, []⟩,
  ⟨some 16, .mv (.const (.int .i64 0)), none, []⟩]
def pc88_c7 : PCode := .region (some ([2, 3, 4], [2, 3, 4], [])) false pc88_o7
def pc88_o8 : List POper := [⟨some 17, .prim (.bin .lss 3 false true) [.tmp 16, .const (.int .i64 4)], none, []⟩]
def pc88_c8 : PCode := .region (some ([2, 3, 4, 15, 16], [2, 3, 4, 6], [])) false pc88_o8
def pc88_c9 : PCode := .skip
def pc88_c10 : PCode := .exit 0
def pc88_c11 : PCode := .cond (.tmp 17) pc88_c9 pc88_c10
def pc88_o12 : List POper := [⟨some 18, .mv (.tmp 16), none, []⟩,
  ⟨some 19, .idx true 2 4 (.tmp 15) (.tmp 16), none, []⟩,
  ⟨some 6, .alloc 25 (.agg { toList := [.int .i64 0, .string { data := { toList := [] } }] }) [], none, []⟩,
  ⟨some 5, .mv (.tmp 18), none, []⟩,
  ⟨none, .store 2 (.tmp 6) (.tmp 19), none, []⟩]
def pc88_c12 : PCode := .region none false pc88_o12
def pc88_o13 : List POper := [⟨some 20, .faddr 1 (.tmp 3), none, []⟩,
  ⟨some 21, .load false 1 (.tmp 20), none, []⟩,
  ⟨some 22, .mv (.tmp 5), none, []⟩,
  ⟨some 23, .call true [[], []] 99 [.tmp 21, .tmp 22], none, []⟩]
def pc88_c13 : PCode := .region none false pc88_o13
def pc88_o14 : List POper := [⟨some 24, .mv (.tmp 5), none, []⟩,
  ⟨some 25, .load true 2 (.tmp 6), none, []⟩,
  ⟨some 26, .faddr 3 (.tmp 2), none, []⟩,
  ⟨some 27, .iaddrA 4 2 (.tmp 26) (.tmp 24), none, []⟩,
  ⟨none, .store 2 (.tmp 27) (.tmp 25), none, []⟩]
def pc88_c14 : PCode := .region none false pc88_o14
def pc88_c15 : PCode := .skip
def pc88_c16 : PCode := .cond (.tmp 23) pc88_c14 pc88_c15
def pc88_c17 : PCode := .seq pc88_c13 pc88_c16
def pc88_c18 : PCode := .seq pc88_c12 pc88_c17
def pc88_c19 : PCode := .block 1 pc88_c18
def pc88_o20 : List POper := [⟨some 28, .prim (.bin .add 3 false true) [.tmp 16, .const (.int .i64 1)], none, []⟩,
  ⟨some 16, .mv (.tmp 28), none, []⟩]
def pc88_c20 : PCode := .region none false pc88_o20
def pc88_c21 : PCode := .seq pc88_c19 pc88_c20
def pc88_c22 : PCode := .seq pc88_c11 pc88_c21
def pc88_c23 : PCode := .seq pc88_c8 pc88_c22
def pc88_c24 : PCode := .loop pc88_c23
def pc88_c25 : PCode := .block 0 pc88_c24
def pc88_c26 : PCode := .seq pc88_c7 pc88_c25
def pc88_o27 : List POper := [⟨some 29, .load true 11 (.tmp 2), none, []⟩,
  ⟨none, .store 11 (.tmp 4) (.tmp 29), none, []⟩]
def pc88_c27 : PCode := .region none false pc88_o27
def pc88_c28 : PCode := .ret
def pc88_c29 : PCode := .seq pc88_c27 pc88_c28
def pc88_c30 : PCode := .seq pc88_c26 pc88_c29
def pc88_c31 : PCode := .seq pc88_c6 pc88_c30
def pc88_c32 : PCode := .seq pc88_c1 pc88_c31
def pc88_r : List PRes := [PRes.cell 4 true 11 []]
def pc88 : PFunc := ⟨30, pc88_r, pc88_c32, false⟩
def pc88_a : Ann := {
  kr := fun
    | 3 => some ([2, 3, 4], [2, 3, 4], [])
    | 4 => some ([2, 3, 4, 15, 16], [2, 3, 4, 6], [])
    | _ => none
  ka := fun
    | _ => 0
  kh := fun
    | _ => none
  ow := fun t => match t with
    | 96 => [(1, 5, 1)]
    | _ => []
  tc := fun t => match t with
    | 96 => true
    | _ => false }
theorem pc88_ok : compFn Try.prog pc88_a Try.f88 = some pc88 := by kernel_rfl


end Go.Proofs.Ytobeamaaifgllaa
