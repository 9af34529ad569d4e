/-
  Code of functions, as the pure machine runs it. No condition.
-/
import Derived.Test.YtobeamaaifgllaaEventReadsT
namespace Go.Proofs.Ytobeamaaifgllaa
open Go Go.Rx
set_option maxRecDepth 100000
set_option linter.unusedVariables false
set_option linter.unusedSimpArgs false
set_option linter.unnecessarySimpa false
-- 108: vedette/vedetteref1.Ints
def pc108_o1 : List POper := [⟨some 2, .mv (.const (.int .i64 0)), none, []⟩,
  ⟨some 3, .mv (.const (.int .i64 0)), none, []⟩,
  ⟨some 4, .mv (.const (.int .i64 0)), none, []⟩]
def pc108_c1 : PCode := .region none false pc108_o1
def pc108_o2 : List POper := [⟨some 9, .mv (.tmp 0), none, []⟩,
  ⟨some 10, .call true [[]] 74 [.tmp 9], none, []⟩,
  ⟨some 8, .mv (.tmp 10), none, []⟩,
  ⟨some 11, .ext (.tmp 8) 0, none, []⟩,
  ⟨some 12, .ext (.tmp 8) 1, none, []⟩,
  ⟨some 13, .ext (.tmp 8) 2, none, []⟩,
  ⟨some 5, .mv (.tmp 11), none, []⟩,
  ⟨some 6, .mv (.tmp 12), none, []⟩,
  ⟨some 7, .mv (.tmp 13), none, []⟩]
def pc108_c2 : PCode := .region none false pc108_o2
def pc108_o3 : List POper := [⟨some 14, .mv (.tmp 5), none, []⟩,
  ⟨some 15, .call true [[]] 119 [.tmp 14], none, []⟩,
  ⟨some 16, .mv (.tmp 6), none, []⟩,
  ⟨some 17, .mv (.tmp 7), none, []⟩,
  ⟨some 2, .mv (.tmp 15), none, []⟩,
  ⟨some 3, .mv (.tmp 16), none, []⟩,
  ⟨some 4, .mv (.tmp 17), none, []⟩]
def pc108_c3 : PCode := .region none false pc108_o3
def pc108_c4 : PCode := .ret
def pc108_c5 : PCode := .seq pc108_c3 pc108_c4
def pc108_c6 : PCode := .seq pc108_c2 pc108_c5
def pc108_c7 : PCode := .seq pc108_c1 pc108_c6
def pc108_r : List PRes := [PRes.tmp 2 [], PRes.tmp 3 [], PRes.tmp 4 []]
def pc108 : PFunc := ⟨18, pc108_r, pc108_c7, false⟩
def pc108_a : Ann := {
  kr := fun
    | _ => none
  ka := fun
    | _ => 0
  kh := fun
    | _ => none
  ow := fun t => match t with
    | 96 => [(1, 5, 1)]
    | _ => []
  tc := fun t => match t with
    | 96 => true
    | _ => false }
theorem pc108_ok : compFn Try.prog pc108_a Try.f108 = some pc108 := by kernel_rfl


-- 72: vedette/vedetteref6.Read
def pc72_o1 : List POper := [⟨some 2, .alloc 35 (.agg { toList := [.int .i64 0, .int .u8 0, .int .i64 0, .int .i64 0, .int .i64 0, .string { data := { toList := [] } }, .int .i64 0, .string { data := { toList := [] } }, .int .i64 0, .string { data := { toList := [] } }, .int .i64 0, .string { data := { toList := [] } }] }) [], none, []⟩,
  ⟨some 3, .mv (.const (.int .i64 0)), none, []⟩,
  ⟨some 4, .mv (.const (.int .i64 0)), none, []⟩]
def pc72_c1 : PCode := .region none false pc72_o1
def pc72_o2 : List POper := [⟨some 18, .build (.agg { toList := [.int .i64 0, .int .u8 0, .int .i64 0, .int .i64 0, .int .i64 0, .string { data := { toList := [] } }, .int .i64 0, .string { data := { toList := [] } }, .int .i64 0, .string { data := { toList := [] } }, .int .i64 0, .string { data := { toList := [] } }] }) [], none, []⟩,
  ⟨some 5, .alloc 35 (.agg { toList := [.int .i64 0, .int .u8 0, .int .i64 0, .int .i64 0, .int .i64 0, .string { data := { toList := [] } }, .int .i64 0, .string { data := { toList := [] } }, .int .i64 0, .string { data := { toList := [] } }, .int .i64 0, .string { data := { toList := [] } }] }) [], none, []⟩,
  ⟨none, .store 12 (.tmp 5) (.tmp 18), none, []⟩]
def pc72_c2 : PCode := .region none false pc72_o2
def pc72_o3 : List POper := [⟨some 19, .build (.agg { toList := [.int .i64 0, .int .u8 0, .int .i64 0, .int .i64 0, .int .i64 0, .string { data := { toList := [] } }, .int .i64 0, .string { data := { toList := [] } }, .int .i64 0, .string { data := { toList := [] } }, .int .i64 0, .string { data := { toList := [] } }] }) [], none, []⟩,
  ⟨some 6, .alloc 35 (.agg { toList := [.int .i64 0, .int .u8 0, .int .i64 0, .int .i64 0, .int .i64 0, .string { data := { toList := [] } }, .int .i64 0, .string { data := { toList := [] } }, .int .i64 0, .string { data := { toList := [] } }, .int .i64 0, .string { data := { toList := [] } }] }) [], none, []⟩,
  ⟨none, .store 12 (.tmp 6) (.tmp 19), none, []⟩]
def pc72_c3 : PCode := .region none false pc72_o3
def pc72_o4 : List POper := [⟨some 21, .mv (.tmp 0), none, []⟩,
  ⟨some 22, .call true [[], [], []] 106 [.tmp 21, .const (.int .i64 0), .const (.int .u64 1000000)], none, []⟩,
  ⟨some 20, .mv (.tmp 22), none, []⟩,
  ⟨some 23, .ext (.tmp 20) 0, none, []⟩,
  ⟨some 24, .ext (.tmp 20) 1, none, []⟩,
  ⟨some 25, .ext (.tmp 20) 2, none, []⟩,
  ⟨some 7, .mv (.tmp 23), none, []⟩,
  ⟨some 8, .mv (.tmp 24), none, []⟩,
  ⟨some 9, .mv (.tmp 25), none, []⟩]
def pc72_c4 : PCode := .region none false pc72_o4
def pc72_o5 : List POper := [⟨some 26, .mv (.tmp 9), none, []⟩,
  ⟨some 27, .prim (.bin .neq 3 false true) [.tmp 26, .const (.int .i64 0)], none, []⟩]
def pc72_c5 : PCode := .region none false pc72_o5
def pc72_o6 : List POper := [⟨some 28, .load true 12 (.tmp 5), none, []⟩,
  ⟨some 29, .mv (.tmp 9), none, []⟩,
  ⟨none, .store 12 (.tmp 2) (.tmp 28), none, []⟩,
  ⟨some 3, .mv (.const (.int .i64 0)), none, []⟩,
  ⟨some 4, .mv (.tmp 29), none, []⟩]
def pc72_c6 : PCode := .region none false pc72_o6
def pc72_c7 : PCode := .ret
def pc72_c8 : PCode := .seq pc72_c6 pc72_c7
def pc72_c9 : PCode := .skip
def pc72_c10 : PCode := .cond (.tmp 27) pc72_c8 pc72_c9
def pc72_c11 : PCode := .seq pc72_c5 pc72_c10
def pc72_o12 : List POper := [⟨some 31, .mv (.tmp 0), none, []⟩,
  ⟨some 32, .mv (.tmp 8), none, []⟩,
  ⟨some 33, .call true [[], [], []] 106 [.tmp 31, .tmp 32, .const (.int .u64 31)], none, []⟩,
  ⟨some 30, .mv (.tmp 33), none, []⟩,
  ⟨some 34, .ext (.tmp 30) 0, none, []⟩,
  ⟨some 35, .ext (.tmp 30) 1, none, []⟩,
  ⟨some 36, .ext (.tmp 30) 2, none, []⟩,
  ⟨some 10, .mv (.tmp 34), none, []⟩,
  ⟨some 8, .mv (.tmp 35), none, []⟩,
  ⟨some 9, .mv (.tmp 36), none, []⟩]
def pc72_c12 : PCode := .region none false pc72_o12
def pc72_o13 : List POper := [⟨some 37, .mv (.tmp 9), none, []⟩,
  ⟨some 38, .prim (.bin .neq 3 false true) [.tmp 37, .const (.int .i64 0)], none, []⟩]
def pc72_c13 : PCode := .region none false pc72_o13
def pc72_o14 : List POper := [⟨some 39, .load true 12 (.tmp 5), none, []⟩,
  ⟨some 40, .mv (.tmp 9), none, []⟩,
  ⟨none, .store 12 (.tmp 2) (.tmp 39), none, []⟩,
  ⟨some 3, .mv (.const (.int .i64 0)), none, []⟩,
  ⟨some 4, .mv (.tmp 40), none, []⟩]
def pc72_c14 : PCode := .region none false pc72_o14
def pc72_c15 : PCode := .ret
def pc72_c16 : PCode := .seq pc72_c14 pc72_c15
def pc72_c17 : PCode := .skip
def pc72_c18 : PCode := .cond (.tmp 38) pc72_c16 pc72_c17
def pc72_c19 : PCode := .seq pc72_c13 pc72_c18
def pc72_o20 : List POper := [⟨some 41, .mv (.tmp 7), none, []⟩,
  ⟨some 42, .prim (.bin .gtr 3 false true) [.tmp 41, .const (.int .i64 1000000)], none, []⟩,
  ⟨some 43, .mv (.tmp 42), none, []⟩,
  ⟨some 44, .mv (.tmp 10), some (43, false), []⟩,
  ⟨some 45, .prim (.bin .lss 3 false true) [.tmp 44, .const (.int .i64 1)], some (43, false), []⟩,
  ⟨some 46, .pick (.tmp 43) (.const (.bool true)) (.tmp 45), none, []⟩,
  ⟨some 47, .mv (.tmp 46), none, []⟩,
  ⟨some 48, .mv (.tmp 10), some (47, false), []⟩,
  ⟨some 49, .prim (.bin .gtr 3 false true) [.tmp 48, .const (.int .i64 31)], some (47, false), []⟩,
  ⟨some 50, .pick (.tmp 47) (.const (.bool true)) (.tmp 49), none, []⟩]
def pc72_c20 : PCode := .region none false pc72_o20
def pc72_o21 : List POper := [⟨some 51, .load true 12 (.tmp 5), none, []⟩,
  ⟨none, .store 12 (.tmp 2) (.tmp 51), none, []⟩,
  ⟨some 3, .mv (.const (.int .i64 0)), none, []⟩,
  ⟨some 4, .mv (.const (.int .i64 11)), none, []⟩]
def pc72_c21 : PCode := .region none false pc72_o21
def pc72_c22 : PCode := .ret
def pc72_c23 : PCode := .seq pc72_c21 pc72_c22
def pc72_c24 : PCode := .skip
def pc72_c25 : PCode := .cond (.tmp 50) pc72_c23 pc72_c24
def pc72_c26 : PCode := .seq pc72_c20 pc72_c25
def pc72_o27 : List POper := [⟨some 52, .mv (.tmp 7), none, []⟩,
  ⟨some 53, .mv (.tmp 10), none, []⟩,
  ⟨some 54, .prim (.conv 3 5) [.tmp 53], none, []⟩,
  ⟨some 55, .faddr 0 (.tmp 6), none, []⟩,
  ⟨none, .store 1 (.tmp 55) (.tmp 52), none, []⟩,
  ⟨some 56, .faddr 1 (.tmp 6), none, []⟩,
  ⟨none, .store 1 (.tmp 56) (.tmp 54), none, []⟩]
def pc72_c27 : PCode := .region none false pc72_o27
def pc72_o28 : List POper := [⟨some 57, .faddr 1 (.tmp 6), none, []⟩,
  ⟨some 58, .load false 1 (.tmp 57), none, []⟩,
  ⟨some 59, .prim (.bin .and 5 false true) [.tmp 58, .const (.int .u8 1)], none, []⟩,
  ⟨some 60, .prim (.bin .neq 5 false true) [.tmp 59, .const (.int .u8 0)], none, []⟩]
def pc72_c28 : PCode := .region none false pc72_o28
def pc72_o29 : List POper := [⟨some 62, .mv (.tmp 0), none, []⟩,
  ⟨some 63, .mv (.tmp 8), none, []⟩,
  ⟨some 64, .call true [[], [], []] 106 [.tmp 62, .tmp 63, .const (.int .u64 1048576)], none, []⟩,
  ⟨some 61, .mv (.tmp 64), none, []⟩,
  ⟨some 65, .ext (.tmp 61) 0, none, []⟩,
  ⟨some 66, .ext (.tmp 61) 1, none, []⟩,
  ⟨some 67, .ext (.tmp 61) 2, none, []⟩,
  ⟨some 68, .faddr 2 (.tmp 6), none, []⟩,
  ⟨some 69, .faddr 0 (.tmp 68), none, []⟩,
  ⟨none, .store 1 (.tmp 69) (.tmp 65), none, []⟩,
  ⟨some 8, .mv (.tmp 66), none, []⟩,
  ⟨some 9, .mv (.tmp 67), none, []⟩]
def pc72_c29 : PCode := .region none false pc72_o29
def pc72_o30 : List POper := [⟨some 70, .mv (.tmp 9), none, []⟩,
  ⟨some 71, .prim (.bin .neq 3 false true) [.tmp 70, .const (.int .i64 0)], none, []⟩]
def pc72_c30 : PCode := .region none false pc72_o30
def pc72_o31 : List POper := [⟨some 72, .load true 12 (.tmp 5), none, []⟩,
  ⟨some 73, .mv (.tmp 9), none, []⟩,
  ⟨none, .store 12 (.tmp 2) (.tmp 72), none, []⟩,
  ⟨some 3, .mv (.const (.int .i64 0)), none, []⟩,
  ⟨some 4, .mv (.tmp 73), none, []⟩]
def pc72_c31 : PCode := .region none false pc72_o31
def pc72_c32 : PCode := .ret
def pc72_c33 : PCode := .seq pc72_c31 pc72_c32
def pc72_c34 : PCode := .skip
def pc72_c35 : PCode := .cond (.tmp 71) pc72_c33 pc72_c34
def pc72_c36 : PCode := .seq pc72_c30 pc72_c35
def pc72_o37 : List POper := [⟨some 75, .mv (.tmp 0), none, []⟩,
  ⟨some 76, .mv (.tmp 8), none, []⟩,
  ⟨some 77, .call true [[], [], []] 106 [.tmp 75, .tmp 76, .const (.int .u64 1048576)], none, []⟩,
  ⟨some 74, .mv (.tmp 77), none, []⟩,
  ⟨some 78, .ext (.tmp 74) 0, none, []⟩,
  ⟨some 79, .ext (.tmp 74) 1, none, []⟩,
  ⟨some 80, .ext (.tmp 74) 2, none, []⟩,
  ⟨some 81, .faddr 2 (.tmp 6), none, []⟩,
  ⟨some 82, .faddr 1 (.tmp 81), none, []⟩,
  ⟨none, .store 1 (.tmp 82) (.tmp 78), none, []⟩,
  ⟨some 8, .mv (.tmp 79), none, []⟩,
  ⟨some 9, .mv (.tmp 80), none, []⟩]
def pc72_c37 : PCode := .region none false pc72_o37
def pc72_o38 : List POper := [⟨some 83, .mv (.tmp 9), none, []⟩,
  ⟨some 84, .prim (.bin .neq 3 false true) [.tmp 83, .const (.int .i64 0)], none, []⟩]
def pc72_c38 : PCode := .region none false pc72_o38
def pc72_o39 : List POper := [⟨some 85, .load true 12 (.tmp 5), none, []⟩,
  ⟨some 86, .mv (.tmp 9), none, []⟩,
  ⟨none, .store 12 (.tmp 2) (.tmp 85), none, []⟩,
  ⟨some 3, .mv (.const (.int .i64 0)), none, []⟩,
  ⟨some 4, .mv (.tmp 86), none, []⟩]
def pc72_c39 : PCode := .region none false pc72_o39
def pc72_c40 : PCode := .ret
def pc72_c41 : PCode := .seq pc72_c39 pc72_c40
def pc72_c42 : PCode := .skip
def pc72_c43 : PCode := .cond (.tmp 84) pc72_c41 pc72_c42
def pc72_c44 : PCode := .seq pc72_c38 pc72_c43
def pc72_c45 : PCode := .seq pc72_c37 pc72_c44
def pc72_c46 : PCode := .seq pc72_c36 pc72_c45
def pc72_c47 : PCode := .seq pc72_c29 pc72_c46
def pc72_c48 : PCode := .skip
def pc72_c49 : PCode := .cond (.tmp 60) pc72_c47 pc72_c48
def pc72_c50 : PCode := .seq pc72_c28 pc72_c49
def pc72_o51 : List POper := [⟨some 11, .mv (.const (.int .i64 0)), none, []⟩]
def pc72_c51 : PCode := .region (some ([0, 2, 5, 6, 8], [2, 5, 6], [])) false pc72_o51
def pc72_o52 : List POper := [⟨some 87, .mv (.tmp 11), none, []⟩,
  ⟨some 88, .prim (.bin .lss 3 false true) [.tmp 87, .const (.int .i64 4)], none, []⟩]
def pc72_c52 : PCode := .region (some ([0, 2, 5, 6, 8, 11], [2, 5, 6], [])) false pc72_o52
def pc72_c53 : PCode := .skip
def pc72_c54 : PCode := .exit 0
def pc72_c55 : PCode := .cond (.tmp 88) pc72_c53 pc72_c54
def pc72_c56 : PCode := .seq pc72_c52 pc72_c55
def pc72_o57 : List POper := [⟨some 91, .faddr 1 (.tmp 6), none, []⟩,
  ⟨some 92, .load false 1 (.tmp 91), none, []⟩,
  ⟨some 93, .mv (.tmp 11), none, []⟩,
  ⟨some 94, .prim (.bin .add 3 false true) [.tmp 93, .const (.int .i64 1)], none, []⟩,
  ⟨some 95, .prim (.conv 3 90) [.tmp 94], none, []⟩,
  ⟨some 96, .prim (.bin .shr 5 false false) [.tmp 92, .tmp 95], none, []⟩,
  ⟨some 97, .prim (.bin .and 5 false true) [.tmp 96, .const (.int .u8 1)], none, []⟩,
  ⟨some 98, .prim (.bin .eql 5 false true) [.tmp 97, .const (.int .u8 0)], none, []⟩]
def pc72_c57 : PCode := .region none false pc72_o57
def pc72_c58 : PCode := .exit 1
def pc72_c59 : PCode := .skip
def pc72_c60 : PCode := .cond (.tmp 98) pc72_c58 pc72_c59
def pc72_c61 : PCode := .seq pc72_c57 pc72_c60
def pc72_o62 : List POper := [⟨some 100, .mv (.tmp 0), none, []⟩,
  ⟨some 101, .mv (.tmp 8), none, []⟩,
  ⟨some 102, .prim (.slice 9 true false) [.tmp 100, .tmp 101], none, []⟩,
  ⟨some 103, .call true [[], []] 107 [.tmp 102, .const (.int .i64 12)], none, []⟩,
  ⟨some 99, .mv (.tmp 103), none, []⟩,
  ⟨some 104, .ext (.tmp 99) 0, none, []⟩,
  ⟨some 105, .ext (.tmp 99) 1, none, []⟩,
  ⟨some 106, .ext (.tmp 99) 2, none, []⟩,
  ⟨some 12, .mv (.tmp 104), none, []⟩,
  ⟨some 13, .mv (.tmp 105), none, []⟩,
  ⟨some 14, .mv (.tmp 106), none, []⟩]
def pc72_c62 : PCode := .region none false pc72_o62
def pc72_o63 : List POper := [⟨some 107, .mv (.tmp 14), none, []⟩,
  ⟨some 108, .prim (.bin .neq 3 false true) [.tmp 107, .const (.int .i64 0)], none, []⟩]
def pc72_c63 : PCode := .region none false pc72_o63
def pc72_o64 : List POper := [⟨some 109, .load true 12 (.tmp 5), none, []⟩,
  ⟨some 110, .mv (.tmp 14), none, []⟩,
  ⟨none, .store 12 (.tmp 2) (.tmp 109), none, []⟩,
  ⟨some 3, .mv (.const (.int .i64 0)), none, []⟩,
  ⟨some 4, .mv (.tmp 110), none, []⟩]
def pc72_c64 : PCode := .region none false pc72_o64
def pc72_c65 : PCode := .ret
def pc72_c66 : PCode := .seq pc72_c64 pc72_c65
def pc72_c67 : PCode := .skip
def pc72_c68 : PCode := .cond (.tmp 108) pc72_c66 pc72_c67
def pc72_c69 : PCode := .seq pc72_c63 pc72_c68
def pc72_o70 : List POper := [⟨some 111, .mv (.tmp 11), none, []⟩,
  ⟨some 112, .mv (.tmp 12), none, []⟩,
  ⟨some 113, .mv (.tmp 8), none, []⟩,
  ⟨some 114, .mv (.tmp 13), none, []⟩,
  ⟨some 115, .prim (.bin .add 3 false false) [.tmp 113, .tmp 114], none, []⟩,
  ⟨some 116, .faddr 4 (.tmp 6), none, []⟩,
  ⟨some 117, .iaddrA 4 2 (.tmp 116) (.tmp 111), none, []⟩,
  ⟨some 118, .faddr 1 (.tmp 117), none, []⟩,
  ⟨none, .store 1 (.tmp 118) (.tmp 112), none, []⟩,
  ⟨some 8, .mv (.tmp 115), none, []⟩]
def pc72_c70 : PCode := .region none false pc72_o70
def pc72_o71 : List POper := [⟨some 119, .mv (.tmp 12), none, []⟩,
  ⟨some 120, .prim (.bin .eql 9 false true) [.tmp 119, .const (.string { data := { toList := [] } })], none, []⟩]
def pc72_c71 : PCode := .region none false pc72_o71
def pc72_o72 : List POper := [⟨some 122, .mv (.tmp 0), none, []⟩,
  ⟨some 123, .mv (.tmp 8), none, []⟩,
  ⟨some 124, .prim (.slice 9 true false) [.tmp 122, .tmp 123], none, []⟩,
  ⟨some 125, .call true [[]] 108 [.tmp 124], none, []⟩,
  ⟨some 121, .mv (.tmp 125), none, []⟩,
  ⟨some 126, .ext (.tmp 121) 0, none, []⟩,
  ⟨some 127, .ext (.tmp 121) 1, none, []⟩,
  ⟨some 128, .ext (.tmp 121) 2, none, []⟩,
  ⟨some 15, .mv (.tmp 126), none, []⟩,
  ⟨some 16, .mv (.tmp 127), none, []⟩,
  ⟨some 17, .mv (.tmp 128), none, []⟩]
def pc72_c72 : PCode := .region none false pc72_o72
def pc72_o73 : List POper := [⟨some 129, .mv (.tmp 17), none, []⟩,
  ⟨some 130, .prim (.bin .neq 3 false true) [.tmp 129, .const (.int .i64 0)], none, []⟩]
def pc72_c73 : PCode := .region none false pc72_o73
def pc72_o74 : List POper := [⟨some 131, .load true 12 (.tmp 5), none, []⟩,
  ⟨some 132, .mv (.tmp 17), none, []⟩,
  ⟨none, .store 12 (.tmp 2) (.tmp 131), none, []⟩,
  ⟨some 3, .mv (.const (.int .i64 0)), none, []⟩,
  ⟨some 4, .mv (.tmp 132), none, []⟩]
def pc72_c74 : PCode := .region none false pc72_o74
def pc72_c75 : PCode := .ret
def pc72_c76 : PCode := .seq pc72_c74 pc72_c75
def pc72_c77 : PCode := .skip
def pc72_c78 : PCode := .cond (.tmp 130) pc72_c76 pc72_c77
def pc72_c79 : PCode := .seq pc72_c73 pc72_c78
def pc72_o80 : List POper := [⟨some 133, .mv (.tmp 11), none, []⟩,
  ⟨some 134, .mv (.tmp 15), none, []⟩,
  ⟨some 135, .mv (.tmp 8), none, []⟩,
  ⟨some 136, .mv (.tmp 16), none, []⟩,
  ⟨some 137, .prim (.bin .add 3 false false) [.tmp 135, .tmp 136], none, []⟩,
  ⟨some 138, .faddr 4 (.tmp 6), none, []⟩,
  ⟨some 139, .iaddrA 4 2 (.tmp 138) (.tmp 133), none, []⟩,
  ⟨some 140, .faddr 0 (.tmp 139), none, []⟩,
  ⟨none, .store 1 (.tmp 140) (.tmp 134), none, []⟩,
  ⟨some 8, .mv (.tmp 137), none, []⟩]
def pc72_c80 : PCode := .region none false pc72_o80
def pc72_c81 : PCode := .seq pc72_c79 pc72_c80
def pc72_c82 : PCode := .seq pc72_c72 pc72_c81
def pc72_c83 : PCode := .skip
def pc72_c84 : PCode := .cond (.tmp 120) pc72_c82 pc72_c83
def pc72_c85 : PCode := .seq pc72_c71 pc72_c84
def pc72_c86 : PCode := .seq pc72_c70 pc72_c85
def pc72_c87 : PCode := .seq pc72_c69 pc72_c86
def pc72_c88 : PCode := .seq pc72_c62 pc72_c87
def pc72_c89 : PCode := .seq pc72_c61 pc72_c88
def pc72_c90 : PCode := .block 1 pc72_c89
def pc72_o91 : List POper := [⟨some 89, .mv (.tmp 11), none, []⟩,
  ⟨some 90, .prim (.bin .add 3 false true) [.tmp 89, .const (.int .i64 1)], none, []⟩,
  ⟨some 11, .mv (.tmp 90), none, []⟩]
def pc72_c91 : PCode := .region none false pc72_o91
def pc72_c92 : PCode := .seq pc72_c90 pc72_c91
def pc72_c93 : PCode := .seq pc72_c56 pc72_c92
def pc72_c94 : PCode := .loop pc72_c93
def pc72_c95 : PCode := .block 0 pc72_c94
def pc72_c96 : PCode := .seq pc72_c51 pc72_c95
def pc72_o97 : List POper := [⟨some 141, .load true 12 (.tmp 6), none, []⟩,
  ⟨some 142, .call true [[]] 94 [.tmp 141], none, []⟩,
  ⟨some 143, .prim (.un .not) [.tmp 142], none, []⟩]
def pc72_c97 : PCode := .region none false pc72_o97
def pc72_o98 : List POper := [⟨some 144, .load true 12 (.tmp 5), none, []⟩,
  ⟨none, .store 12 (.tmp 2) (.tmp 144), none, []⟩,
  ⟨some 3, .mv (.const (.int .i64 0)), none, []⟩,
  ⟨some 4, .mv (.const (.int .i64 11)), none, []⟩]
def pc72_c98 : PCode := .region none false pc72_o98
def pc72_c99 : PCode := .ret
def pc72_c100 : PCode := .seq pc72_c98 pc72_c99
def pc72_c101 : PCode := .skip
def pc72_c102 : PCode := .cond (.tmp 143) pc72_c100 pc72_c101
def pc72_c103 : PCode := .seq pc72_c97 pc72_c102
def pc72_o104 : List POper := [⟨some 145, .load true 12 (.tmp 6), none, []⟩,
  ⟨some 146, .mv (.tmp 8), none, []⟩,
  ⟨none, .store 12 (.tmp 2) (.tmp 145), none, []⟩,
  ⟨some 3, .mv (.tmp 146), none, []⟩,
  ⟨some 4, .mv (.const (.int .i64 0)), none, []⟩]
def pc72_c104 : PCode := .region none false pc72_o104
def pc72_c105 : PCode := .ret
def pc72_c106 : PCode := .seq pc72_c104 pc72_c105
def pc72_c107 : PCode := .seq pc72_c103 pc72_c106
def pc72_c108 : PCode := .seq pc72_c96 pc72_c107
def pc72_c109 : PCode := .seq pc72_c50 pc72_c108
def pc72_c110 : PCode := .seq pc72_c27 pc72_c109
def pc72_c111 : PCode := .seq pc72_c26 pc72_c110
def pc72_c112 : PCode := .seq pc72_c19 pc72_c111
def pc72_c113 : PCode := .seq pc72_c12 pc72_c112
def pc72_c114 : PCode := .seq pc72_c11 pc72_c113
def pc72_c115 : PCode := .seq pc72_c4 pc72_c114
def pc72_c116 : PCode := .seq pc72_c3 pc72_c115
def pc72_c117 : PCode := .seq pc72_c2 pc72_c116
def pc72_c118 : PCode := .seq pc72_c1 pc72_c117
def pc72_r : List PRes := [PRes.cell 2 true 12 [], PRes.tmp 3 [], PRes.tmp 4 []]
def pc72 : PFunc := ⟨147, pc72_r, pc72_c118, false⟩
def pc72_a : Ann := {
  kr := fun
    | 19 => some ([0, 2, 5, 6, 8], [2, 5, 6], [])
    | 20 => some ([0, 2, 5, 6, 8, 11], [2, 5, 6], [])
    | _ => none
  ka := fun
    | _ => 0
  kh := fun
    | _ => none
  ow := fun t => match t with
    | 96 => [(1, 5, 1)]
    | _ => []
  tc := fun t => match t with
    | 96 => true
    | _ => false }
theorem pc72_ok : compFn Try.prog pc72_a Try.f72 = some pc72 := by kernel_rfl


-- 31: vedette/vedetteref6.ReadThing
def pc31_o1 : List POper := [⟨some 2, .alloc 28 (.agg { toList := [.int .i64 0, .int .i64 0, .int .i64 0, .int .i64 0, .string { data := { toList := [] } }, .int .i64 0, .string { data := { toList := [] } }, .int .i64 0, .string { data := { toList := [] } }, .int .i64 0, .string { data := { toList := [] } }] }) [], none, []⟩,
  ⟨some 3, .mv (.const (.int .i64 0)), none, []⟩,
  ⟨some 4, .mv (.const (.int .i64 0)), none, []⟩]
def pc31_c1 : PCode := .region none false pc31_o1
def pc31_o2 : List POper := [⟨some 9, .mv (.tmp 0), none, []⟩,
  ⟨some 10, .call true [[]] 72 [.tmp 9], none, []⟩,
  ⟨some 8, .mv (.tmp 10), none, []⟩,
  ⟨some 11, .ext (.tmp 8) 0, none, []⟩,
  ⟨some 12, .ext (.tmp 8) 1, none, []⟩,
  ⟨some 13, .ext (.tmp 8) 2, none, []⟩,
  ⟨some 5, .alloc 35 (.agg { toList := [.int .i64 0, .int .u8 0, .int .i64 0, .int .i64 0, .int .i64 0, .string { data := { toList := [] } }, .int .i64 0, .string { data := { toList := [] } }, .int .i64 0, .string { data := { toList := [] } }, .int .i64 0, .string { data := { toList := [] } }] }) [], none, []⟩,
  ⟨none, .store 12 (.tmp 5) (.tmp 11), none, []⟩,
  ⟨some 6, .mv (.tmp 12), none, []⟩,
  ⟨some 7, .mv (.tmp 13), none, []⟩]
def pc31_c2 : PCode := .region none false pc31_o2
def pc31_o3 : List POper := [⟨some 14, .mv (.tmp 7), none, []⟩,
  ⟨some 15, .prim (.bin .neq 3 false true) [.tmp 14, .const (.int .i64 0)], none, []⟩]
def pc31_c3 : PCode := .region none false pc31_o3
def pc31_o4 : List POper := [⟨some 16, .build (.agg { toList := [.int .i64 0, .int .i64 0, .int .i64 0, .int .i64 0, .string { data := { toList := [] } }, .int .i64 0, .string { data := { toList := [] } }, .int .i64 0, .string { data := { toList := [] } }, .int .i64 0, .string { data := { toList := [] } }] }) [], none, []⟩,
  ⟨some 17, .mv (.tmp 7), none, []⟩,
  ⟨none, .store 11 (.tmp 2) (.tmp 16), none, []⟩,
  ⟨some 3, .mv (.const (.int .i64 0)), none, []⟩,
  ⟨some 4, .mv (.tmp 17), none, []⟩]
def pc31_c4 : PCode := .region none false pc31_o4
def pc31_c5 : PCode := .ret
def pc31_c6 : PCode := .seq pc31_c4 pc31_c5
def pc31_c7 : PCode := .skip
def pc31_c8 : PCode := .cond (.tmp 15) pc31_c6 pc31_c7
def pc31_c9 : PCode := .seq pc31_c3 pc31_c8
def pc31_o10 : List POper := [⟨some 18, .faddr 1 (.tmp 5), none, []⟩,
  ⟨some 19, .load false 1 (.tmp 18), none, []⟩,
  ⟨some 20, .prim (.bin .neq 5 false true) [.tmp 19, .const (.int .u8 31)], none, []⟩]
def pc31_c10 : PCode := .region none false pc31_o10
def pc31_o11 : List POper := [⟨some 21, .build (.agg { toList := [.int .i64 0, .int .i64 0, .int .i64 0, .int .i64 0, .string { data := { toList := [] } }, .int .i64 0, .string { data := { toList := [] } }, .int .i64 0, .string { data := { toList := [] } }, .int .i64 0, .string { data := { toList := [] } }] }) [], none, []⟩,
  ⟨none, .store 11 (.tmp 2) (.tmp 21), none, []⟩,
  ⟨some 3, .mv (.const (.int .i64 0)), none, []⟩,
  ⟨some 4, .mv (.const (.int .i64 11)), none, []⟩]
def pc31_c11 : PCode := .region none false pc31_o11
def pc31_c12 : PCode := .ret
def pc31_c13 : PCode := .seq pc31_c11 pc31_c12
def pc31_c14 : PCode := .skip
def pc31_c15 : PCode := .cond (.tmp 20) pc31_c13 pc31_c14
def pc31_c16 : PCode := .seq pc31_c10 pc31_c15
def pc31_o17 : List POper := [⟨some 22, .faddr 0 (.tmp 5), none, []⟩,
  ⟨some 23, .load false 1 (.tmp 22), none, []⟩,
  ⟨some 24, .faddr 2 (.tmp 5), none, []⟩,
  ⟨some 25, .load true 2 (.tmp 24), none, []⟩,
  ⟨some 26, .faddr 4 (.tmp 5), none, []⟩,
  ⟨some 27, .load true 8 (.tmp 26), none, []⟩,
  ⟨some 28, .build (.agg { toList := [.int .i64 0, .int .i64 0, .int .i64 0, .int .i64 0, .string { data := { toList := [] } }, .int .i64 0, .string { data := { toList := [] } }, .int .i64 0, .string { data := { toList := [] } }, .int .i64 0, .string { data := { toList := [] } }] }) [(0, 1, .tmp 23), (1, 2, .tmp 25), (3, 8, .tmp 27)], none, []⟩,
  ⟨some 29, .mv (.tmp 6), none, []⟩,
  ⟨none, .store 11 (.tmp 2) (.tmp 28), none, []⟩,
  ⟨some 3, .mv (.tmp 29), none, []⟩,
  ⟨some 4, .mv (.const (.int .i64 0)), none, []⟩]
def pc31_c17 : PCode := .region none false pc31_o17
def pc31_c18 : PCode := .ret
def pc31_c19 : PCode := .seq pc31_c17 pc31_c18
def pc31_c20 : PCode := .seq pc31_c16 pc31_c19
def pc31_c21 : PCode := .seq pc31_c9 pc31_c20
def pc31_c22 : PCode := .seq pc31_c2 pc31_c21
def pc31_c23 : PCode := .seq pc31_c1 pc31_c22
def pc31_r : List PRes := [PRes.cell 2 true 11 [], PRes.tmp 3 [], PRes.tmp 4 []]
def pc31 : PFunc := ⟨30, pc31_r, pc31_c23, false⟩
def pc31_a : Ann := {
  kr := fun
    | _ => none
  ka := fun
    | _ => 0
  kh := fun
    | _ => none
  ow := fun t => match t with
    | 96 => [(1, 5, 1)]
    | _ => []
  tc := fun t => match t with
    | 96 => true
    | _ => false }
theorem pc31_ok : compFn Try.prog pc31_a Try.f31 = some pc31 := by kernel_rfl


-- 96: vedette/vedetteref15.one
def pc96_o1 : List POper := [⟨some 2, .alloc 67 (.agg { toList := [.int .i64 0, .int .i64 0, .int .i64 0, .int .i64 0, .int .i64 0, .int .i64 0, .string { data := { toList := [] } }, .int .i64 0, .string { data := { toList := [] } }, .int .i64 0, .string { data := { toList := [] } }, .int .i64 0, .string { data := { toList := [] } }, .int .i64 0, .int .u8 0, .int .i64 0, .int .i64 0, .int .i64 0, .string { data := { toList := [] } }, .int .i64 0, .string { data := { toList := [] } }, .int .i64 0, .string { data := { toList := [] } }, .int .i64 0, .string { data := { toList := [] } }] }) [], none, []⟩,
  ⟨some 3, .mv (.const (.int .i64 0)), none, []⟩,
  ⟨some 4, .mv (.const (.int .i64 0)), none, []⟩]
def pc96_c1 : PCode := .region none false pc96_o1
def pc96_o2 : List POper := [⟨some 18, .mv (.tmp 0), none, []⟩,
  ⟨some 19, .call true [[]] 74 [.tmp 18], none, []⟩,
  ⟨some 17, .mv (.tmp 19), none, []⟩,
  ⟨some 20, .ext (.tmp 17) 0, none, []⟩,
  ⟨some 21, .ext (.tmp 17) 1, none, []⟩,
  ⟨some 22, .ext (.tmp 17) 2, none, []⟩,
  ⟨some 5, .mv (.tmp 20), none, []⟩,
  ⟨some 6, .mv (.tmp 21), none, []⟩,
  ⟨some 7, .mv (.tmp 22), none, []⟩]
def pc96_c2 : PCode := .region none false pc96_o2
def pc96_o3 : List POper := [⟨some 23, .mv (.tmp 7), none, []⟩,
  ⟨some 24, .prim (.bin .neq 3 false true) [.tmp 23, .const (.int .i64 0)], none, []⟩]
def pc96_c3 : PCode := .region none false pc96_o3
def pc96_o4 : List POper := [⟨some 25, .build (.agg { toList := [.int .i64 0, .int .i64 0, .int .i64 0, .int .i64 0, .int .i64 0, .int .i64 0, .string { data := { toList := [] } }, .int .i64 0, .string { data := { toList := [] } }, .int .i64 0, .string { data := { toList := [] } }, .int .i64 0, .string { data := { toList := [] } }, .int .i64 0, .int .u8 0, .int .i64 0, .int .i64 0, .int .i64 0, .string { data := { toList := [] } }, .int .i64 0, .string { data := { toList := [] } }, .int .i64 0, .string { data := { toList := [] } }, .int .i64 0, .string { data := { toList := [] } }] }) [], none, []⟩,
  ⟨some 26, .mv (.tmp 7), none, []⟩,
  ⟨none, .store 25 (.tmp 2) (.tmp 25), none, []⟩,
  ⟨some 3, .mv (.const (.int .i64 0)), none, []⟩,
  ⟨some 4, .mv (.tmp 26), none, []⟩]
def pc96_c4 : PCode := .region none false pc96_o4
def pc96_c5 : PCode := .ret
def pc96_c6 : PCode := .seq pc96_c4 pc96_c5
def pc96_c7 : PCode := .skip
def pc96_c8 : PCode := .cond (.tmp 24) pc96_c6 pc96_c7
def pc96_c9 : PCode := .seq pc96_c3 pc96_c8
def pc96_o10 : List POper := [⟨some 27, .mv (.tmp 5), none, []⟩]
def pc96_c10 : PCode := .region none false pc96_o10
def pc96_o11 : List POper := [⟨some 29, .prim (.bin .eql 89 false true) [.tmp 27, .const (.int .u64 1)], none, []⟩,
  ⟨some 28, .mv (.tmp 29), none, []⟩]
def pc96_c11 : PCode := .region none false pc96_o11
def pc96_o12 : List POper := [⟨some 31, .mv (.tmp 0), none, []⟩,
  ⟨some 32, .mv (.tmp 6), none, []⟩,
  ⟨some 33, .prim (.slice 9 true false) [.tmp 31, .tmp 32], none, []⟩,
  ⟨some 34, .call true [[]] 31 [.tmp 33], none, []⟩,
  ⟨some 30, .mv (.tmp 34), none, []⟩,
  ⟨some 35, .ext (.tmp 30) 0, none, []⟩,
  ⟨some 36, .ext (.tmp 30) 1, none, []⟩,
  ⟨some 37, .ext (.tmp 30) 2, none, []⟩,
  ⟨some 8, .alloc 28 (.agg { toList := [.int .i64 0, .int .i64 0, .int .i64 0, .int .i64 0, .string { data := { toList := [] } }, .int .i64 0, .string { data := { toList := [] } }, .int .i64 0, .string { data := { toList := [] } }, .int .i64 0, .string { data := { toList := [] } }] }) [], none, []⟩,
  ⟨none, .store 11 (.tmp 8) (.tmp 35), none, []⟩,
  ⟨some 9, .mv (.tmp 36), none, []⟩,
  ⟨some 10, .mv (.tmp 37), none, []⟩]
def pc96_c12 : PCode := .region none false pc96_o12
def pc96_o13 : List POper := [⟨some 38, .faddr 0 (.tmp 8), none, []⟩,
  ⟨some 39, .load false 1 (.tmp 38), none, []⟩,
  ⟨some 40, .load true 11 (.tmp 8), none, []⟩,
  ⟨some 41, .build (.agg { toList := [.int .i64 0, .int .i64 0, .int .i64 0, .int .i64 0, .int .i64 0, .int .i64 0, .string { data := { toList := [] } }, .int .i64 0, .string { data := { toList := [] } }, .int .i64 0, .string { data := { toList := [] } }, .int .i64 0, .string { data := { toList := [] } }, .int .i64 0, .int .u8 0, .int .i64 0, .int .i64 0, .int .i64 0, .string { data := { toList := [] } }, .int .i64 0, .string { data := { toList := [] } }, .int .i64 0, .string { data := { toList := [] } }, .int .i64 0, .string { data := { toList := [] } }] }) [(0, 1, .const (.int .i64 1)), (1, 1, .tmp 39), (2, 11, .tmp 40)], none, []⟩,
  ⟨some 42, .mv (.tmp 6), none, []⟩,
  ⟨some 43, .mv (.tmp 9), none, []⟩,
  ⟨some 44, .prim (.bin .add 3 false false) [.tmp 42, .tmp 43], none, []⟩,
  ⟨some 45, .mv (.tmp 10), none, []⟩,
  ⟨none, .store 25 (.tmp 2) (.tmp 41), none, []⟩,
  ⟨some 3, .mv (.tmp 44), none, []⟩,
  ⟨some 4, .mv (.tmp 45), none, []⟩]
def pc96_c13 : PCode := .region none false pc96_o13
def pc96_c14 : PCode := .ret
def pc96_c15 : PCode := .seq pc96_c13 pc96_c14
def pc96_c16 : PCode := .seq pc96_c12 pc96_c15
def pc96_o17 : List POper := [⟨some 47, .prim (.bin .eql 89 false true) [.tmp 27, .const (.int .u64 2)], none, []⟩,
  ⟨some 46, .mv (.tmp 47), none, []⟩]
def pc96_c17 : PCode := .region none false pc96_o17
def pc96_o18 : List POper := [⟨some 49, .mv (.tmp 0), none, []⟩,
  ⟨some 50, .mv (.tmp 6), none, []⟩,
  ⟨some 51, .prim (.slice 9 true false) [.tmp 49, .tmp 50], none, []⟩,
  ⟨some 52, .call true [[]] 72 [.tmp 51], none, []⟩,
  ⟨some 48, .mv (.tmp 52), none, []⟩,
  ⟨some 53, .ext (.tmp 48) 0, none, []⟩,
  ⟨some 54, .ext (.tmp 48) 1, none, []⟩,
  ⟨some 55, .ext (.tmp 48) 2, none, []⟩,
  ⟨some 11, .alloc 35 (.agg { toList := [.int .i64 0, .int .u8 0, .int .i64 0, .int .i64 0, .int .i64 0, .string { data := { toList := [] } }, .int .i64 0, .string { data := { toList := [] } }, .int .i64 0, .string { data := { toList := [] } }, .int .i64 0, .string { data := { toList := [] } }] }) [], none, []⟩,
  ⟨none, .store 12 (.tmp 11) (.tmp 53), none, []⟩,
  ⟨some 12, .mv (.tmp 54), none, []⟩,
  ⟨some 13, .mv (.tmp 55), none, []⟩]
def pc96_c18 : PCode := .region none false pc96_o18
def pc96_o19 : List POper := [⟨some 56, .faddr 0 (.tmp 11), none, []⟩,
  ⟨some 57, .load false 1 (.tmp 56), none, []⟩,
  ⟨some 58, .load true 12 (.tmp 11), none, []⟩,
  ⟨some 59, .build (.agg { toList := [.int .i64 0, .int .i64 0, .int .i64 0, .int .i64 0, .int .i64 0, .int .i64 0, .string { data := { toList := [] } }, .int .i64 0, .string { data := { toList := [] } }, .int .i64 0, .string { data := { toList := [] } }, .int .i64 0, .string { data := { toList := [] } }, .int .i64 0, .int .u8 0, .int .i64 0, .int .i64 0, .int .i64 0, .string { data := { toList := [] } }, .int .i64 0, .string { data := { toList := [] } }, .int .i64 0, .string { data := { toList := [] } }, .int .i64 0, .string { data := { toList := [] } }] }) [(0, 1, .const (.int .i64 2)), (1, 1, .tmp 57), (13, 12, .tmp 58)], none, []⟩,
  ⟨some 60, .mv (.tmp 6), none, []⟩,
  ⟨some 61, .mv (.tmp 12), none, []⟩,
  ⟨some 62, .prim (.bin .add 3 false false) [.tmp 60, .tmp 61], none, []⟩,
  ⟨some 63, .mv (.tmp 13), none, []⟩,
  ⟨none, .store 25 (.tmp 2) (.tmp 59), none, []⟩,
  ⟨some 3, .mv (.tmp 62), none, []⟩,
  ⟨some 4, .mv (.tmp 63), none, []⟩]
def pc96_c19 : PCode := .region none false pc96_o19
def pc96_c20 : PCode := .ret
def pc96_c21 : PCode := .seq pc96_c19 pc96_c20
def pc96_c22 : PCode := .seq pc96_c18 pc96_c21
def pc96_o23 : List POper := [⟨some 65, .prim (.bin .eql 89 false true) [.tmp 27, .const (.int .u64 3)], none, []⟩,
  ⟨some 64, .mv (.tmp 65), none, []⟩]
def pc96_c23 : PCode := .region none false pc96_o23
def pc96_o24 : List POper := [⟨some 67, .mv (.tmp 0), none, []⟩,
  ⟨some 68, .mv (.tmp 6), none, []⟩,
  ⟨some 69, .prim (.slice 9 true false) [.tmp 67, .tmp 68], none, []⟩,
  ⟨some 70, .call true [[]] 74 [.tmp 69], none, []⟩,
  ⟨some 66, .mv (.tmp 70), none, []⟩,
  ⟨some 71, .ext (.tmp 66) 0, none, []⟩,
  ⟨some 72, .ext (.tmp 66) 1, none, []⟩,
  ⟨some 73, .ext (.tmp 66) 2, none, []⟩,
  ⟨some 14, .mv (.tmp 71), none, []⟩,
  ⟨some 15, .mv (.tmp 72), none, []⟩,
  ⟨some 16, .mv (.tmp 73), none, []⟩]
def pc96_c24 : PCode := .region none false pc96_o24
def pc96_o25 : List POper := [⟨some 74, .mv (.tmp 16), none, []⟩,
  ⟨some 75, .prim (.bin .eql 3 false true) [.tmp 74, .const (.int .i64 0)], none, []⟩,
  ⟨some 76, .mv (.tmp 75), none, []⟩,
  ⟨some 77, .mv (.tmp 14), some (76, true), []⟩,
  ⟨some 78, .prim (.bin .gtr 89 false true) [.tmp 77, .const (.int .u64 1000000)], some (76, true), []⟩,
  ⟨some 79, .pick (.tmp 76) (.tmp 78) (.const (.bool false)), none, []⟩]
def pc96_c25 : PCode := .region none false pc96_o25
def pc96_o26 : List POper := [⟨some 16, .mv (.const (.int .i64 11)), none, []⟩]
def pc96_c26 : PCode := .region none false pc96_o26
def pc96_c27 : PCode := .skip
def pc96_c28 : PCode := .cond (.tmp 79) pc96_c26 pc96_c27
def pc96_c29 : PCode := .seq pc96_c25 pc96_c28
def pc96_o30 : List POper := [⟨some 80, .mv (.tmp 14), none, []⟩,
  ⟨some 81, .prim .min [.tmp 80, .const (.int .u64 1000000)], none, []⟩,
  ⟨some 82, .prim (.conv 89 3) [.tmp 81], none, []⟩,
  ⟨some 83, .build (.agg { toList := [.int .i64 0, .int .i64 0, .int .i64 0, .int .i64 0, .int .i64 0, .int .i64 0, .string { data := { toList := [] } }, .int .i64 0, .string { data := { toList := [] } }, .int .i64 0, .string { data := { toList := [] } }, .int .i64 0, .string { data := { toList := [] } }, .int .i64 0, .int .u8 0, .int .i64 0, .int .i64 0, .int .i64 0, .string { data := { toList := [] } }, .int .i64 0, .string { data := { toList := [] } }, .int .i64 0, .string { data := { toList := [] } }, .int .i64 0, .string { data := { toList := [] } }] }) [(0, 1, .const (.int .i64 3)), (1, 1, .tmp 82)], none, []⟩,
  ⟨some 84, .mv (.tmp 6), none, []⟩,
  ⟨some 85, .mv (.tmp 15), none, []⟩,
  ⟨some 86, .prim (.bin .add 3 false false) [.tmp 84, .tmp 85], none, []⟩,
  ⟨some 87, .mv (.tmp 16), none, []⟩,
  ⟨none, .store 25 (.tmp 2) (.tmp 83), none, []⟩,
  ⟨some 3, .mv (.tmp 86), none, []⟩,
  ⟨some 4, .mv (.tmp 87), none, []⟩]
def pc96_c30 : PCode := .region (some ([2, 6, 14, 15, 16], [2], [])) false pc96_o30
def pc96_c31 : PCode := .ret
def pc96_c32 : PCode := .seq pc96_c30 pc96_c31
def pc96_c33 : PCode := .seq pc96_c29 pc96_c32
def pc96_c34 : PCode := .seq pc96_c24 pc96_c33
def pc96_c35 : PCode := .skip
def pc96_c36 : PCode := .cond (.tmp 64) pc96_c34 pc96_c35
def pc96_c37 : PCode := .seq pc96_c23 pc96_c36
def pc96_c38 : PCode := .cond (.tmp 46) pc96_c22 pc96_c37
def pc96_c39 : PCode := .seq pc96_c17 pc96_c38
def pc96_c40 : PCode := .cond (.tmp 28) pc96_c16 pc96_c39
def pc96_c41 : PCode := .seq pc96_c11 pc96_c40
def pc96_c42 : PCode := .block 0 pc96_c41
def pc96_c43 : PCode := .seq pc96_c10 pc96_c42
def pc96_o44 : List POper := [⟨some 88, .build (.agg { toList := [.int .i64 0, .int .i64 0, .int .i64 0, .int .i64 0, .int .i64 0, .int .i64 0, .string { data := { toList := [] } }, .int .i64 0, .string { data := { toList := [] } }, .int .i64 0, .string { data := { toList := [] } }, .int .i64 0, .string { data := { toList := [] } }, .int .i64 0, .int .u8 0, .int .i64 0, .int .i64 0, .int .i64 0, .string { data := { toList := [] } }, .int .i64 0, .string { data := { toList := [] } }, .int .i64 0, .string { data := { toList := [] } }, .int .i64 0, .string { data := { toList := [] } }] }) [], none, []⟩,
  ⟨none, .store 25 (.tmp 2) (.tmp 88), none, []⟩,
  ⟨some 3, .mv (.const (.int .i64 0)), none, []⟩,
  ⟨some 4, .mv (.const (.int .i64 11)), none, []⟩]
def pc96_c44 : PCode := .region none false pc96_o44
def pc96_c45 : PCode := .ret
def pc96_c46 : PCode := .seq pc96_c44 pc96_c45
def pc96_c47 : PCode := .seq pc96_c43 pc96_c46
def pc96_c48 : PCode := .seq pc96_c9 pc96_c47
def pc96_c49 : PCode := .seq pc96_c2 pc96_c48
def pc96_c50 : PCode := .seq pc96_c1 pc96_c49
def pc96_r : List PRes := [PRes.cell 2 true 25 [], PRes.tmp 3 [], PRes.tmp 4 []]
def pc96 : PFunc := ⟨89, pc96_r, pc96_c50, false⟩
def pc96_a : Ann := {
  kr := fun
    | 15 => some ([2, 6, 14, 15, 16], [2], [])
    | _ => none
  ka := fun
    | _ => 0
  kh := fun
    | _ => none
  ow := fun t => match t with
    | 96 => [(1, 5, 1)]
    | _ => []
  tc := fun t => match t with
    | 96 => true
    | _ => false }
theorem pc96_ok : compFn Try.prog pc96_a Try.f96 = some pc96 := by kernel_rfl


-- 55: vedette/vedetteref15.Read
def pc55_o1 : List POper := [⟨some 2, .mv (.const (.slice none 0 0)), none, []⟩,
  ⟨some 3, .mv (.const (.int .i64 0)), none, []⟩,
  ⟨some 4, .mv (.const (.int .i64 0)), none, []⟩]
def pc55_c1 : PCode := .region none false pc55_o1
def pc55_o2 : List POper := [⟨some 14, .mv (.tmp 0), none, []⟩,
  ⟨some 15, .call true [[]] 74 [.tmp 14], none, []⟩,
  ⟨some 13, .mv (.tmp 15), none, []⟩,
  ⟨some 16, .ext (.tmp 13) 0, none, []⟩,
  ⟨some 17, .ext (.tmp 13) 1, none, []⟩,
  ⟨some 18, .ext (.tmp 13) 2, none, []⟩,
  ⟨some 5, .mv (.tmp 16), none, []⟩,
  ⟨some 6, .mv (.tmp 17), none, []⟩,
  ⟨some 7, .mv (.tmp 18), none, []⟩]
def pc55_c2 : PCode := .region none false pc55_o2
def pc55_o3 : List POper := [⟨some 19, .mv (.tmp 7), none, []⟩,
  ⟨some 20, .prim (.bin .neq 3 false true) [.tmp 19, .const (.int .i64 0)], none, []⟩]
def pc55_c3 : PCode := .region none false pc55_o3
def pc55_o4 : List POper := [⟨some 21, .mv (.tmp 7), none, []⟩,
  ⟨some 2, .mv (.const (.slice none 0 0)), none, []⟩,
  ⟨some 3, .mv (.const (.int .i64 0)), none, []⟩,
  ⟨some 4, .mv (.tmp 21), none, []⟩]
def pc55_c4 : PCode := .region none false pc55_o4
def pc55_c5 : PCode := .ret
def pc55_c6 : PCode := .seq pc55_c4 pc55_c5
def pc55_c7 : PCode := .skip
def pc55_c8 : PCode := .cond (.tmp 20) pc55_c6 pc55_c7
def pc55_c9 : PCode := .seq pc55_c3 pc55_c8
def pc55_o10 : List POper := [⟨some 22, .mv (.tmp 5), none, []⟩,
  ⟨some 23, .prim (.bin .gtr 89 false true) [.tmp 22, .const (.int .u64 400)], none, []⟩]
def pc55_c10 : PCode := .region none false pc55_o10
def pc55_o11 : List POper := [⟨some 2, .mv (.const (.slice none 0 0)), none, []⟩,
  ⟨some 3, .mv (.const (.int .i64 0)), none, []⟩,
  ⟨some 4, .mv (.const (.int .i64 13)), none, []⟩]
def pc55_c11 : PCode := .region none false pc55_o11
def pc55_c12 : PCode := .ret
def pc55_c13 : PCode := .seq pc55_c11 pc55_c12
def pc55_c14 : PCode := .skip
def pc55_c15 : PCode := .cond (.tmp 23) pc55_c13 pc55_c14
def pc55_c16 : PCode := .seq pc55_c10 pc55_c15
def pc55_o17 : List POper := [⟨some 8, .mv (.const (.slice none 0 0)), none, []⟩]
def pc55_c17 : PCode := .region none false pc55_o17
def pc55_o18 : List POper := [⟨some 9, .mv (.const (.int .i64 0)), none, []⟩]
def pc55_c18 : PCode := .region none false pc55_o18
def pc55_o19 : List POper := [⟨some 24, .mv (.tmp 9), none, []⟩,
  ⟨some 25, .mv (.tmp 5), none, []⟩,
  ⟨some 26, .prim (.conv 89 3) [.tmp 25], none, []⟩,
  ⟨some 27, .prim (.bin .lss 3 false false) [.tmp 24, .tmp 26], none, []⟩]
def pc55_c19 : PCode := .region (some ([0, 5, 6, 8, 9], [10, 100008], [(false, 8, 0, 100008, 67, 25)])) false pc55_o19
def pc55_c20 : PCode := .skip
def pc55_c21 : PCode := .exit 0
def pc55_c22 : PCode := .cond (.tmp 27) pc55_c20 pc55_c21
def pc55_c23 : PCode := .seq pc55_c19 pc55_c22
def pc55_o24 : List POper := [⟨some 31, .mv (.tmp 0), none, []⟩,
  ⟨some 32, .mv (.tmp 6), none, []⟩,
  ⟨some 33, .prim (.slice 9 true false) [.tmp 31, .tmp 32], none, []⟩,
  ⟨some 34, .call true [[]] 96 [.tmp 33], none, []⟩,
  ⟨some 30, .mv (.tmp 34), none, []⟩,
  ⟨some 35, .ext (.tmp 30) 0, none, []⟩,
  ⟨some 36, .ext (.tmp 30) 1, none, []⟩,
  ⟨some 37, .ext (.tmp 30) 2, none, []⟩,
  ⟨some 10, .alloc 67 (.agg { toList := [.int .i64 0, .int .i64 0, .int .i64 0, .int .i64 0, .int .i64 0, .int .i64 0, .string { data := { toList := [] } }, .int .i64 0, .string { data := { toList := [] } }, .int .i64 0, .string { data := { toList := [] } }, .int .i64 0, .string { data := { toList := [] } }, .int .i64 0, .int .u8 0, .int .i64 0, .int .i64 0, .int .i64 0, .string { data := { toList := [] } }, .int .i64 0, .string { data := { toList := [] } }, .int .i64 0, .string { data := { toList := [] } }, .int .i64 0, .string { data := { toList := [] } }] }) [], none, []⟩,
  ⟨none, .store 25 (.tmp 10) (.tmp 35), none, []⟩,
  ⟨some 11, .mv (.tmp 36), none, []⟩,
  ⟨some 12, .mv (.tmp 37), none, []⟩]
def pc55_c24 : PCode := .region none false pc55_o24
def pc55_o25 : List POper := [⟨some 38, .mv (.tmp 12), none, []⟩,
  ⟨some 39, .prim (.bin .neq 3 false true) [.tmp 38, .const (.int .i64 0)], none, []⟩]
def pc55_c25 : PCode := .region none false pc55_o25
def pc55_o26 : List POper := [⟨some 40, .mv (.tmp 12), none, []⟩,
  ⟨some 2, .mv (.const (.slice none 0 0)), none, []⟩,
  ⟨some 3, .mv (.const (.int .i64 0)), none, []⟩,
  ⟨some 4, .mv (.tmp 40), none, []⟩]
def pc55_c26 : PCode := .region none false pc55_o26
def pc55_c27 : PCode := .ret
def pc55_c28 : PCode := .seq pc55_c26 pc55_c27
def pc55_c29 : PCode := .skip
def pc55_c30 : PCode := .cond (.tmp 39) pc55_c28 pc55_c29
def pc55_c31 : PCode := .seq pc55_c25 pc55_c30
def pc55_o32 : List POper := [⟨some 41, .mv (.tmp 8), none, []⟩,
  ⟨some 42, .load true 25 (.tmp 10), none, []⟩,
  ⟨some 43, .bslice 67 25 [.tmp 42], none, []⟩,
  ⟨some 44, .app 100008 67 25 264 (.tmp 41) (.tmp 43), none, []⟩,
  ⟨some 8, .mv (.tmp 44), none, []⟩]
def pc55_c32 : PCode := .region none false pc55_o32
def pc55_o33 : List POper := [⟨some 45, .mv (.tmp 6), none, []⟩,
  ⟨some 46, .mv (.tmp 11), none, []⟩,
  ⟨some 47, .prim (.bin .add 3 false false) [.tmp 45, .tmp 46], none, []⟩,
  ⟨some 6, .mv (.tmp 47), none, []⟩]
def pc55_c33 : PCode := .region none false pc55_o33
def pc55_c34 : PCode := .seq pc55_c32 pc55_c33
def pc55_c35 : PCode := .seq pc55_c31 pc55_c34
def pc55_c36 : PCode := .seq pc55_c24 pc55_c35
def pc55_c37 : PCode := .block 1 pc55_c36
def pc55_o38 : List POper := [⟨some 28, .mv (.tmp 9), none, []⟩,
  ⟨some 29, .prim (.bin .add 3 false true) [.tmp 28, .const (.int .i64 1)], none, []⟩,
  ⟨some 9, .mv (.tmp 29), none, []⟩]
def pc55_c38 : PCode := .region none false pc55_o38
def pc55_c39 : PCode := .seq pc55_c37 pc55_c38
def pc55_c40 : PCode := .seq pc55_c23 pc55_c39
def pc55_c41 : PCode := .loop pc55_c40
def pc55_c42 : PCode := .block 0 pc55_c41
def pc55_c43 : PCode := .seq pc55_c18 pc55_c42
def pc55_o44 : List POper := [⟨some 48, .mv (.tmp 8), none, []⟩,
  ⟨some 49, .mv (.tmp 6), none, []⟩,
  ⟨some 2, .mv (.tmp 48), none, []⟩,
  ⟨some 3, .mv (.tmp 49), none, []⟩,
  ⟨some 4, .mv (.const (.int .i64 0)), none, []⟩]
def pc55_c44 : PCode := .region none false pc55_o44
def pc55_c45 : PCode := .ret
def pc55_c46 : PCode := .seq pc55_c44 pc55_c45
def pc55_c47 : PCode := .seq pc55_c43 pc55_c46
def pc55_c48 : PCode := .seq pc55_c17 pc55_c47
def pc55_c49 : PCode := .seq pc55_c16 pc55_c48
def pc55_c50 : PCode := .seq pc55_c9 pc55_c49
def pc55_c51 : PCode := .seq pc55_c2 pc55_c50
def pc55_c52 : PCode := .seq pc55_c1 pc55_c51
def pc55_r : List PRes := [PRes.tmp 2 [(0, 25)], PRes.tmp 3 [], PRes.tmp 4 []]
def pc55 : PFunc := ⟨50, pc55_r, pc55_c52, false⟩
def pc55_a : Ann := {
  kr := fun
    | 8 => some ([0, 5, 6, 8, 9], [10, 100008], [(false, 8, 0, 100008, 67, 25)])
    | _ => none
  ka := fun
    | 44 => 100008
    | _ => 0
  kh := fun
    | _ => none
  ow := fun t => match t with
    | 96 => [(1, 5, 1)]
    | _ => []
  tc := fun t => match t with
    | 96 => true
    | _ => false }
theorem pc55_ok : compFn Try.prog pc55_a Try.f55 = some pc55 := by kernel_rfl


-- 11: vedette/vedettelaw15.EventReads
def pc11_o1 : List POper := [⟨some 2, .mv (.const (.bool false)), none, []⟩]
def pc11_c1 : PCode := .region none false pc11_o1
def pc11_o2 : List POper := [⟨some 9, .call true [] 42 [], none, []⟩,
  ⟨some 10, .prim (.un .not) [.tmp 9], none, []⟩]
def pc11_c2 : PCode := .region none false pc11_o2
def pc11_o3 : List POper := [⟨some 2, .mv (.const (.bool false)), none, []⟩]
def pc11_c3 : PCode := .region none false pc11_o3
def pc11_c4 : PCode := .ret
def pc11_c5 : PCode := .seq pc11_c3 pc11_c4
def pc11_c6 : PCode := .skip
def pc11_c7 : PCode := .cond (.tmp 10) pc11_c5 pc11_c6
def pc11_c8 : PCode := .seq pc11_c2 pc11_c7
def pc11_o9 : List POper := [⟨some 11, .mv (.tmp 0), none, []⟩,
  ⟨some 12, .prim (.len 9) [.tmp 11], none, []⟩,
  ⟨some 13, .prim (.bin .gtr 3 false true) [.tmp 12, .const (.int .i64 800)], none, []⟩]
def pc11_c9 : PCode := .region none false pc11_o9
def pc11_o10 : List POper := [⟨some 2, .mv (.const (.bool true)), none, []⟩]
def pc11_c10 : PCode := .region none false pc11_o10
def pc11_c11 : PCode := .ret
def pc11_c12 : PCode := .seq pc11_c10 pc11_c11
def pc11_c13 : PCode := .skip
def pc11_c14 : PCode := .cond (.tmp 13) pc11_c12 pc11_c13
def pc11_c15 : PCode := .seq pc11_c9 pc11_c14
def pc11_o16 : List POper := [⟨some 15, .mv (.tmp 0), none, []⟩,
  ⟨some 16, .call true [[]] 54 [.tmp 15], none, []⟩,
  ⟨some 14, .mv (.tmp 16), none, []⟩,
  ⟨some 17, .ext (.tmp 14) 0, none, []⟩,
  ⟨some 18, .ext (.tmp 14) 1, none, []⟩,
  ⟨some 19, .ext (.tmp 14) 2, none, []⟩,
  ⟨some 3, .mv (.tmp 17), none, []⟩,
  ⟨some 4, .mv (.tmp 18), none, []⟩,
  ⟨some 5, .mv (.tmp 19), none, []⟩]
def pc11_c16 : PCode := .region none false pc11_o16
def pc11_o17 : List POper := [⟨some 21, .mv (.tmp 0), none, []⟩,
  ⟨some 22, .call true [[]] 55 [.tmp 21], none, []⟩,
  ⟨some 20, .mv (.tmp 22), none, []⟩,
  ⟨some 23, .ext (.tmp 20) 0, none, []⟩,
  ⟨some 24, .ext (.tmp 20) 1, none, []⟩,
  ⟨some 25, .ext (.tmp 20) 2, none, []⟩,
  ⟨some 6, .mv (.tmp 23), none, []⟩,
  ⟨some 7, .mv (.tmp 24), none, []⟩,
  ⟨some 8, .mv (.tmp 25), none, []⟩]
def pc11_c17 : PCode := .region none false pc11_o17
def pc11_o18 : List POper := [⟨some 26, .mv (.tmp 3), none, []⟩,
  ⟨some 27, .mv (.tmp 6), none, []⟩,
  ⟨some 28, .call true [[(0, 25)], [(0, 25)]] 50 [.tmp 26, .tmp 27], none, []⟩,
  ⟨some 29, .mv (.tmp 28), none, []⟩,
  ⟨some 30, .mv (.tmp 4), some (29, true), []⟩,
  ⟨some 31, .mv (.tmp 7), some (29, true), []⟩,
  ⟨some 32, .prim (.bin .eql 3 false false) [.tmp 30, .tmp 31], some (29, true), []⟩,
  ⟨some 33, .pick (.tmp 29) (.tmp 32) (.const (.bool false)), none, []⟩,
  ⟨some 34, .mv (.tmp 33), none, []⟩,
  ⟨some 35, .mv (.tmp 5), some (34, true), []⟩,
  ⟨some 36, .mv (.tmp 8), some (34, true), []⟩,
  ⟨some 37, .prim (.bin .eql 3 false false) [.tmp 35, .tmp 36], some (34, true), []⟩,
  ⟨some 38, .pick (.tmp 34) (.tmp 37) (.const (.bool false)), none, []⟩,
  ⟨some 2, .mv (.tmp 38), none, []⟩]
def pc11_c18 : PCode := .region none false pc11_o18
def pc11_c19 : PCode := .ret
def pc11_c20 : PCode := .seq pc11_c18 pc11_c19
def pc11_c21 : PCode := .seq pc11_c17 pc11_c20
def pc11_c22 : PCode := .seq pc11_c16 pc11_c21
def pc11_c23 : PCode := .seq pc11_c15 pc11_c22
def pc11_c24 : PCode := .seq pc11_c8 pc11_c23
def pc11_c25 : PCode := .seq pc11_c1 pc11_c24
def pc11_r : List PRes := [PRes.tmp 2 []]
def pc11 : PFunc := ⟨39, pc11_r, pc11_c25, false⟩
def pc11_a : Ann := {
  kr := fun
    | _ => none
  ka := fun
    | _ => 0
  kh := fun
    | _ => none
  ow := fun t => match t with
    | 96 => [(1, 5, 1)]
    | _ => []
  tc := fun t => match t with
    | 96 => true
    | _ => false }
theorem pc11_ok : compFn Try.prog pc11_a Try.f11 = some pc11 := by kernel_rfl


-- 18: vedette/vedetteref6.Is
def pc18_o1 : List POper := [⟨some 1, .box 28 (.tmp 0) [], none, []⟩,
  ⟨some 2, .mv (.const (.bool false)), none, []⟩]
def pc18_c1 : PCode := .region none false pc18_o1
def pc18_o2 : List POper := [⟨some 5, .faddr 0 (.tmp 1), none, []⟩,
  ⟨some 6, .load false 1 (.tmp 5), none, []⟩,
  ⟨some 7, .prim (.bin .geq 3 false true) [.tmp 6, .const (.int .i64 0)], none, []⟩,
  ⟨some 8, .mv (.tmp 7), none, []⟩,
  ⟨some 9, .faddr 0 (.tmp 1), some (8, true), []⟩,
  ⟨some 10, .load false 1 (.tmp 9), some (8, true), []⟩,
  ⟨some 11, .prim (.bin .leq 3 false true) [.tmp 10, .const (.int .i64 1000000)], some (8, true), []⟩,
  ⟨some 12, .pick (.tmp 8) (.tmp 11) (.const (.bool false)), none, []⟩,
  ⟨some 13, .mv (.tmp 12), none, []⟩,
  ⟨some 14, .faddr 1 (.tmp 1), some (13, true), []⟩,
  ⟨some 15, .load true 2 (.tmp 14), some (13, true), []⟩,
  ⟨some 16, .call true [[]] 58 [.tmp 15], some (13, true), []⟩,
  ⟨some 17, .pick (.tmp 13) (.tmp 16) (.const (.bool false)), none, []⟩,
  ⟨some 3, .mv (.tmp 17), none, []⟩]
def pc18_c2 : PCode := .region none false pc18_o2
def pc18_o3 : List POper := [⟨some 4, .mv (.const (.int .i64 0)), none, []⟩]
def pc18_c3 : PCode := .region (some ([1, 3], [1], [])) false pc18_o3
def pc18_o4 : List POper := [⟨some 18, .mv (.tmp 4), none, []⟩,
  ⟨some 19, .prim (.bin .lss 3 false true) [.tmp 18, .const (.int .i64 4)], none, []⟩]
def pc18_c4 : PCode := .region (some ([1, 3, 4], [1], [])) false pc18_o4
def pc18_c5 : PCode := .skip
def pc18_c6 : PCode := .exit 0
def pc18_c7 : PCode := .cond (.tmp 19) pc18_c5 pc18_c6
def pc18_c8 : PCode := .seq pc18_c4 pc18_c7
def pc18_o9 : List POper := [⟨some 22, .mv (.tmp 3), none, []⟩,
  ⟨some 23, .mv (.tmp 22), none, []⟩,
  ⟨some 24, .mv (.tmp 4), some (23, true), []⟩,
  ⟨some 25, .faddr 3 (.tmp 1), some (23, true), []⟩,
  ⟨some 26, .iaddrA 4 2 (.tmp 25) (.tmp 24), some (23, true), []⟩,
  ⟨some 27, .load true 2 (.tmp 26), some (23, true), []⟩,
  ⟨some 28, .call true [[]] 59 [.tmp 27], some (23, true), []⟩,
  ⟨some 29, .pick (.tmp 23) (.tmp 28) (.const (.bool false)), none, []⟩,
  ⟨some 3, .mv (.tmp 29), none, []⟩]
def pc18_c9 : PCode := .region none false pc18_o9
def pc18_c10 : PCode := .block 1 pc18_c9
def pc18_o11 : List POper := [⟨some 20, .mv (.tmp 4), none, []⟩,
  ⟨some 21, .prim (.bin .add 3 false true) [.tmp 20, .const (.int .i64 1)], none, []⟩,
  ⟨some 4, .mv (.tmp 21), none, []⟩]
def pc18_c11 : PCode := .region none false pc18_o11
def pc18_c12 : PCode := .seq pc18_c10 pc18_c11
def pc18_c13 : PCode := .seq pc18_c8 pc18_c12
def pc18_c14 : PCode := .loop pc18_c13
def pc18_c15 : PCode := .block 0 pc18_c14
def pc18_c16 : PCode := .seq pc18_c3 pc18_c15
def pc18_o17 : List POper := [⟨some 30, .mv (.tmp 3), none, []⟩,
  ⟨some 2, .mv (.tmp 30), none, []⟩]
def pc18_c17 : PCode := .region none false pc18_o17
def pc18_c18 : PCode := .ret
def pc18_c19 : PCode := .seq pc18_c17 pc18_c18
def pc18_c20 : PCode := .seq pc18_c16 pc18_c19
def pc18_c21 : PCode := .seq pc18_c2 pc18_c20
def pc18_c22 : PCode := .seq pc18_c1 pc18_c21
def pc18_r : List PRes := [PRes.tmp 2 []]
def pc18 : PFunc := ⟨31, pc18_r, pc18_c22, false⟩
def pc18_a : Ann := {
  kr := fun
    | 2 => some ([1, 3], [1], [])
    | 3 => some ([1, 3, 4], [1], [])
    | _ => none
  ka := fun
    | _ => 0
  kh := fun
    | _ => none
  ow := fun t => match t with
    | 96 => [(1, 5, 1)]
    | _ => []
  tc := fun t => match t with
    | 96 => true
    | _ => false }
theorem pc18_ok : compFn Try.prog pc18_a Try.f18 = some pc18 := by kernel_rfl


-- 20: vedette/vedetteref6.Full
def pc20_o1 : List POper := [⟨some 1, .box 28 (.tmp 0) [], none, []⟩,
  ⟨some 2, .alloc 35 (.agg { toList := [.int .i64 0, .int .u8 0, .int .i64 0, .int .i64 0, .int .i64 0, .string { data := { toList := [] } }, .int .i64 0, .string { data := { toList := [] } }, .int .i64 0, .string { data := { toList := [] } }, .int .i64 0, .string { data := { toList := [] } }] }) [], none, []⟩]
def pc20_c1 : PCode := .region none false pc20_o1
def pc20_o2 : List POper := [⟨some 3, .faddr 0 (.tmp 1), none, []⟩,
  ⟨some 4, .load false 1 (.tmp 3), none, []⟩,
  ⟨some 5, .faddr 1 (.tmp 1), none, []⟩,
  ⟨some 6, .load true 2 (.tmp 5), none, []⟩,
  ⟨some 7, .faddr 3 (.tmp 1), none, []⟩,
  ⟨some 8, .load true 8 (.tmp 7), none, []⟩,
  ⟨some 9, .build (.agg { toList := [.int .i64 0, .int .u8 0, .int .i64 0, .int .i64 0, .int .i64 0, .string { data := { toList := [] } }, .int .i64 0, .string { data := { toList := [] } }, .int .i64 0, .string { data := { toList := [] } }, .int .i64 0, .string { data := { toList := [] } }] }) [(0, 1, .tmp 4), (1, 1, .const (.int .u8 31)), (2, 2, .tmp 6), (4, 8, .tmp 8)], none, []⟩,
  ⟨none, .store 12 (.tmp 2) (.tmp 9), none, []⟩]
def pc20_c2 : PCode := .region none false pc20_o2
def pc20_c3 : PCode := .ret
def pc20_c4 : PCode := .seq pc20_c2 pc20_c3
def pc20_c5 : PCode := .seq pc20_c1 pc20_c4
def pc20_r : List PRes := [PRes.cell 2 true 12 []]
def pc20 : PFunc := ⟨10, pc20_r, pc20_c5, false⟩
def pc20_a : Ann := {
  kr := fun
    | _ => none
  ka := fun
    | _ => 0
  kh := fun
    | _ => none
  ow := fun t => match t with
    | 96 => [(1, 5, 1)]
    | _ => []
  tc := fun t => match t with
    | 96 => true
    | _ => false }
theorem pc20_ok : compFn Try.prog pc20_a Try.f20 = some pc20 := by kernel_rfl


-- 53: vedette/vedetteref15.Is
def pc53_o1 : List POper := [⟨some 1, .box 67 (.tmp 0) [], none, []⟩,
  ⟨some 2, .mv (.const (.bool false)), none, []⟩]
def pc53_c1 : PCode := .region none false pc53_o1
def pc53_o2 : List POper := [⟨some 3, .faddr 0 (.tmp 1), none, []⟩,
  ⟨some 4, .load false 1 (.tmp 3), none, []⟩]
def pc53_c2 : PCode := .region none false pc53_o2
def pc53_o3 : List POper := [⟨some 6, .prim (.bin .eql 3 false true) [.tmp 4, .const (.int .i64 1)], none, []⟩,
  ⟨some 5, .mv (.tmp 6), none, []⟩]
def pc53_c3 : PCode := .region none false pc53_o3
def pc53_o4 : List POper := [⟨some 7, .faddr 2 (.tmp 1), none, []⟩,
  ⟨some 8, .load true 11 (.tmp 7), none, []⟩,
  ⟨some 9, .call true [[]] 18 [.tmp 8], none, []⟩,
  ⟨some 10, .mv (.tmp 9), none, []⟩,
  ⟨some 11, .faddr 1 (.tmp 1), some (10, true), []⟩,
  ⟨some 12, .load false 1 (.tmp 11), some (10, true), []⟩,
  ⟨some 13, .faddr 2 (.tmp 1), some (10, true), []⟩,
  ⟨some 14, .faddr 0 (.tmp 13), some (10, true), []⟩,
  ⟨some 15, .load false 1 (.tmp 14), some (10, true), []⟩,
  ⟨some 16, .prim (.bin .eql 3 false false) [.tmp 12, .tmp 15], some (10, true), []⟩,
  ⟨some 17, .pick (.tmp 10) (.tmp 16) (.const (.bool false)), none, []⟩,
  ⟨some 18, .mv (.tmp 17), none, []⟩,
  ⟨some 19, .faddr 13 (.tmp 1), some (18, true), []⟩,
  ⟨some 20, .load true 12 (.tmp 19), some (18, true), []⟩,
  ⟨some 21, .build (.agg { toList := [.int .i64 0, .int .u8 0, .int .i64 0, .int .i64 0, .int .i64 0, .string { data := { toList := [] } }, .int .i64 0, .string { data := { toList := [] } }, .int .i64 0, .string { data := { toList := [] } }, .int .i64 0, .string { data := { toList := [] } }] }) [], some (18, true), []⟩,
  ⟨some 22, .prim (.bin .eql 35 false false) [.tmp 20, .tmp 21], some (18, true), []⟩,
  ⟨some 23, .pick (.tmp 18) (.tmp 22) (.const (.bool false)), none, []⟩,
  ⟨some 2, .mv (.tmp 23), none, []⟩]
def pc53_c4 : PCode := .region none false pc53_o4
def pc53_c5 : PCode := .ret
def pc53_c6 : PCode := .seq pc53_c4 pc53_c5
def pc53_o7 : List POper := [⟨some 25, .prim (.bin .eql 3 false true) [.tmp 4, .const (.int .i64 2)], none, []⟩,
  ⟨some 24, .mv (.tmp 25), none, []⟩]
def pc53_c7 : PCode := .region none false pc53_o7
def pc53_o8 : List POper := [⟨some 26, .faddr 13 (.tmp 1), none, []⟩,
  ⟨some 27, .load true 12 (.tmp 26), none, []⟩,
  ⟨some 28, .call true [[]] 94 [.tmp 27], none, []⟩,
  ⟨some 29, .mv (.tmp 28), none, []⟩,
  ⟨some 30, .faddr 1 (.tmp 1), some (29, true), []⟩,
  ⟨some 31, .load false 1 (.tmp 30), some (29, true), []⟩,
  ⟨some 32, .faddr 13 (.tmp 1), some (29, true), []⟩,
  ⟨some 33, .faddr 0 (.tmp 32), some (29, true), []⟩,
  ⟨some 34, .load false 1 (.tmp 33), some (29, true), []⟩,
  ⟨some 35, .prim (.bin .eql 3 false false) [.tmp 31, .tmp 34], some (29, true), []⟩,
  ⟨some 36, .pick (.tmp 29) (.tmp 35) (.const (.bool false)), none, []⟩,
  ⟨some 37, .mv (.tmp 36), none, []⟩,
  ⟨some 38, .faddr 2 (.tmp 1), some (37, true), []⟩,
  ⟨some 39, .load true 11 (.tmp 38), some (37, true), []⟩,
  ⟨some 40, .build (.agg { toList := [.int .i64 0, .int .i64 0, .int .i64 0, .int .i64 0, .string { data := { toList := [] } }, .int .i64 0, .string { data := { toList := [] } }, .int .i64 0, .string { data := { toList := [] } }, .int .i64 0, .string { data := { toList := [] } }] }) [], some (37, true), []⟩,
  ⟨some 41, .prim (.bin .eql 28 false false) [.tmp 39, .tmp 40], some (37, true), []⟩,
  ⟨some 42, .pick (.tmp 37) (.tmp 41) (.const (.bool false)), none, []⟩,
  ⟨some 2, .mv (.tmp 42), none, []⟩]
def pc53_c8 : PCode := .region none false pc53_o8
def pc53_c9 : PCode := .ret
def pc53_c10 : PCode := .seq pc53_c8 pc53_c9
def pc53_o11 : List POper := [⟨some 44, .prim (.bin .eql 3 false true) [.tmp 4, .const (.int .i64 3)], none, []⟩,
  ⟨some 43, .mv (.tmp 44), none, []⟩]
def pc53_c11 : PCode := .region none false pc53_o11
def pc53_o12 : List POper := [⟨some 45, .faddr 1 (.tmp 1), none, []⟩,
  ⟨some 46, .load false 1 (.tmp 45), none, []⟩,
  ⟨some 47, .prim (.bin .geq 3 false true) [.tmp 46, .const (.int .i64 0)], none, []⟩,
  ⟨some 48, .mv (.tmp 47), none, []⟩,
  ⟨some 49, .faddr 1 (.tmp 1), some (48, true), []⟩,
  ⟨some 50, .load false 1 (.tmp 49), some (48, true), []⟩,
  ⟨some 51, .prim (.bin .leq 3 false true) [.tmp 50, .const (.int .i64 1000000)], some (48, true), []⟩,
  ⟨some 52, .pick (.tmp 48) (.tmp 51) (.const (.bool false)), none, []⟩,
  ⟨some 53, .mv (.tmp 52), none, []⟩,
  ⟨some 54, .faddr 2 (.tmp 1), some (53, true), []⟩,
  ⟨some 55, .load true 11 (.tmp 54), some (53, true), []⟩,
  ⟨some 56, .build (.agg { toList := [.int .i64 0, .int .i64 0, .int .i64 0, .int .i64 0, .string { data := { toList := [] } }, .int .i64 0, .string { data := { toList := [] } }, .int .i64 0, .string { data := { toList := [] } }, .int .i64 0, .string { data := { toList := [] } }] }) [], some (53, true), []⟩,
  ⟨some 57, .prim (.bin .eql 28 false false) [.tmp 55, .tmp 56], some (53, true), []⟩,
  ⟨some 58, .pick (.tmp 53) (.tmp 57) (.const (.bool false)), none, []⟩,
  ⟨some 59, .mv (.tmp 58), none, []⟩,
  ⟨some 60, .faddr 13 (.tmp 1), some (59, true), []⟩,
  ⟨some 61, .load true 12 (.tmp 60), some (59, true), []⟩,
  ⟨some 62, .build (.agg { toList := [.int .i64 0, .int .u8 0, .int .i64 0, .int .i64 0, .int .i64 0, .string { data := { toList := [] } }, .int .i64 0, .string { data := { toList := [] } }, .int .i64 0, .string { data := { toList := [] } }, .int .i64 0, .string { data := { toList := [] } }] }) [], some (59, true), []⟩,
  ⟨some 63, .prim (.bin .eql 35 false false) [.tmp 61, .tmp 62], some (59, true), []⟩,
  ⟨some 64, .pick (.tmp 59) (.tmp 63) (.const (.bool false)), none, []⟩,
  ⟨some 2, .mv (.tmp 64), none, []⟩]
def pc53_c12 : PCode := .region none false pc53_o12
def pc53_c13 : PCode := .ret
def pc53_c14 : PCode := .seq pc53_c12 pc53_c13
def pc53_c15 : PCode := .skip
def pc53_c16 : PCode := .cond (.tmp 43) pc53_c14 pc53_c15
def pc53_c17 : PCode := .seq pc53_c11 pc53_c16
def pc53_c18 : PCode := .cond (.tmp 24) pc53_c10 pc53_c17
def pc53_c19 : PCode := .seq pc53_c7 pc53_c18
def pc53_c20 : PCode := .cond (.tmp 5) pc53_c6 pc53_c19
def pc53_c21 : PCode := .seq pc53_c3 pc53_c20
def pc53_c22 : PCode := .block 0 pc53_c21
def pc53_c23 : PCode := .seq pc53_c2 pc53_c22
def pc53_o24 : List POper := [⟨some 2, .mv (.const (.bool false)), none, []⟩]
def pc53_c24 : PCode := .region none false pc53_o24
def pc53_c25 : PCode := .ret
def pc53_c26 : PCode := .seq pc53_c24 pc53_c25
def pc53_c27 : PCode := .seq pc53_c23 pc53_c26
def pc53_c28 : PCode := .seq pc53_c1 pc53_c27
def pc53_r : List PRes := [PRes.tmp 2 []]
def pc53 : PFunc := ⟨65, pc53_r, pc53_c28, false⟩
def pc53_a : Ann := {
  kr := fun
    | _ => none
  ka := fun
    | _ => 0
  kh := fun
    | _ => none
  ow := fun t => match t with
    | 96 => [(1, 5, 1)]
    | _ => []
  tc := fun t => match t with
    | 96 => true
    | _ => false }
theorem pc53_ok : compFn Try.prog pc53_a Try.f53 = some pc53 := by kernel_rfl


end Go.Proofs.Ytobeamaaifgllaa
