/-
  Code of functions, as the pure machine runs it. No condition.
-/
import Derived.Test.YtobeamaaifgllaaDiffFoldsT
namespace Go.Proofs.Ytobeamaaifgllaa
open Go Go.Rx
set_option maxRecDepth 100000
set_option linter.unusedVariables false
set_option linter.unusedSimpArgs false
set_option linter.unnecessarySimpa false
-- 34: vedette/vedetteref6.SameAll
def pc34_o1 : List POper := [zo 4 (.mv (.const (.bool false)))]
def pc34_c1 : PCode := .region none false pc34_o1
def pc34_o2 : List POper := [zo 6 (.mv (.tmp 0)),
  zo 7 (.lenS (.tmp 6)),
  zo 8 (.mv (.tmp 1)),
  zo 9 (.lenS (.tmp 8)),
  zo 10 (.prim (.bin .neq 3 false false) [.tmp 7, .tmp 9])]
def pc34_c2 : PCode := .region none false pc34_o2
def pc34_o3 : List POper := [zo 4 (.mv (.const (.bool false)))]
def pc34_c3 : PCode := .region none false pc34_o3
def pc34_c4 : PCode := .ret
def pc34_c5 : PCode := .seq pc34_c3 pc34_c4
def pc34_c6 : PCode := .skip
def pc34_c7 : PCode := .cond (.tmp 10) pc34_c5 pc34_c6
def pc34_c8 : PCode := .seq pc34_c2 pc34_c7
def pc34_o9 : List POper := [zo 5 (.mv (.const (.int .i64 0)))]
def pc34_c9 : PCode := .region none false pc34_o9
def pc34_o10 : List POper := [zo 11 (.mv (.tmp 5)),
  zo 12 (.mv (.tmp 0)),
  zo 13 (.lenS (.tmp 12)),
  zo 14 (.prim (.bin .lss 3 false false) [.tmp 11, .tmp 13])]
def pc34_c10 : PCode := .region (some ([0, 1, 5], [], [])) false pc34_o10
def pc34_c11 : PCode := .skip
def pc34_c12 : PCode := .exit 0
def pc34_c13 : PCode := .cond (.tmp 14) pc34_c11 pc34_c12
def pc34_c14 : PCode := .seq pc34_c10 pc34_c13
def pc34_o15 : List POper := [⟨some 17, .mv (.tmp 0), none, [(0, .imm)]⟩,
  ⟨some 18, .mv (.tmp 5), none, [(5, .imm)]⟩,
  ⟨some 19, .iaddrS 11 (.tmp 17) (.tmp 18), none, [(17, .imm), (18, .imm)]⟩,
  ⟨some 20, .load true 11 (.tmp 19), none, [(19, .imm)]⟩,
  ⟨some 21, .mv (.tmp 1), none, [(1, .imm)]⟩,
  ⟨some 22, .mv (.tmp 5), none, [(5, .imm)]⟩,
  ⟨some 23, .iaddrS 11 (.tmp 21) (.tmp 22), none, [(21, .imm), (22, .imm)]⟩,
  ⟨some 24, .load true 11 (.tmp 23), none, [(23, .imm)]⟩,
  ⟨some 25, .prim (.bin .neq 28 false false) [.tmp 20, .tmp 24], none, [(20, .imm), (24, .imm)]⟩]
def pc34_c15 : PCode := .region none true pc34_o15
def pc34_o16 : List POper := [zo 4 (.mv (.const (.bool false)))]
def pc34_c16 : PCode := .region none false pc34_o16
def pc34_c17 : PCode := .ret
def pc34_c18 : PCode := .seq pc34_c16 pc34_c17
def pc34_c19 : PCode := .skip
def pc34_c20 : PCode := .cond (.tmp 25) pc34_c18 pc34_c19
def pc34_c21 : PCode := .seq pc34_c15 pc34_c20
def pc34_c22 : PCode := .block 1 pc34_c21
def pc34_o23 : List POper := [zo 15 (.mv (.tmp 5)),
  zo 16 (.prim (.bin .add 3 false true) [.tmp 15, .const (.int .i64 1)]),
  zo 5 (.mv (.tmp 16))]
def pc34_c23 : PCode := .region none false pc34_o23
def pc34_c24 : PCode := .seq pc34_c22 pc34_c23
def pc34_c25 : PCode := .seq pc34_c14 pc34_c24
def pc34_c26 : PCode := .loop pc34_c25
def pc34_c27 : PCode := .block 0 pc34_c26
def pc34_c28 : PCode := .seq pc34_c9 pc34_c27
def pc34_o29 : List POper := [zo 4 (.mv (.const (.bool true)))]
def pc34_c29 : PCode := .region none false pc34_o29
def pc34_c30 : PCode := .ret
def pc34_c31 : PCode := .seq pc34_c29 pc34_c30
def pc34_c32 : PCode := .seq pc34_c28 pc34_c31
def pc34_c33 : PCode := .seq pc34_c8 pc34_c32
def pc34_c34 : PCode := .seq pc34_c1 pc34_c33
def pc34_r : List PRes := [PRes.tmp 4 []]
def pc34 : PFunc := ⟨26, pc34_r, pc34_c34, false⟩
def pc34_a : Ann := {
  kr := fun
    | 4 => some ([0, 1, 5], [], [])
    | _ => none
  ka := fun
    | _ => 0
  kh := fun
    | 0 => some (.imm)
    | 1 => some (.imm)
    | 5 => some (.imm)
    | 17 => some (.imm)
    | 18 => some (.imm)
    | 19 => some (.imm)
    | 20 => some (.imm)
    | 21 => some (.imm)
    | 22 => some (.imm)
    | 23 => some (.imm)
    | 24 => some (.imm)
    | _ => none
  ow := fun t => match t with
    | 96 => [(1, 5, 1)]
    | _ => []
  tc := fun t => match t with
    | 96 => true
    | _ => false }
theorem pc34_ok : compFn Try.prog pc34_a Try.f34 = some pc34 := by kernel_rfl


-- 79: vedette/geom.In
def pc79_o1 : List POper := [zo 2 (.box 62 (.tmp 0) []),
  zo 3 (.box 23 (.tmp 1) []),
  zo 4 (.mv (.const (.bool false)))]
def pc79_c1 : PCode := .region none false pc79_o1
def pc79_o2 : List POper := [zo 5 (.faddr 0 (.tmp 3)),
  zo 6 (.load false 1 (.tmp 5)),
  zo 7 (.faddr 0 (.tmp 2)),
  zo 8 (.load false 1 (.tmp 7)),
  zo 9 (.prim (.bin .geq 3 false false) [.tmp 6, .tmp 8]),
  zo 10 (.mv (.tmp 9)),
  ⟨some 11, .faddr 0 (.tmp 3), some (10, true), []⟩,
  ⟨some 12, .load false 1 (.tmp 11), some (10, true), []⟩,
  ⟨some 13, .faddr 2 (.tmp 2), some (10, true), []⟩,
  ⟨some 14, .load false 1 (.tmp 13), some (10, true), []⟩,
  ⟨some 15, .prim (.bin .lss 3 false false) [.tmp 12, .tmp 14], some (10, true), []⟩,
  zo 16 (.pick (.tmp 10) (.tmp 15) (.const (.bool false))),
  zo 17 (.mv (.tmp 16)),
  ⟨some 18, .faddr 1 (.tmp 3), some (17, true), []⟩,
  ⟨some 19, .load false 1 (.tmp 18), some (17, true), []⟩,
  ⟨some 20, .faddr 1 (.tmp 2), some (17, true), []⟩,
  ⟨some 21, .load false 1 (.tmp 20), some (17, true), []⟩,
  ⟨some 22, .prim (.bin .geq 3 false false) [.tmp 19, .tmp 21], some (17, true), []⟩,
  zo 23 (.pick (.tmp 17) (.tmp 22) (.const (.bool false))),
  zo 24 (.mv (.tmp 23)),
  ⟨some 25, .faddr 1 (.tmp 3), some (24, true), []⟩,
  ⟨some 26, .load false 1 (.tmp 25), some (24, true), []⟩,
  ⟨some 27, .faddr 3 (.tmp 2), some (24, true), []⟩,
  ⟨some 28, .load false 1 (.tmp 27), some (24, true), []⟩,
  ⟨some 29, .prim (.bin .lss 3 false false) [.tmp 26, .tmp 28], some (24, true), []⟩,
  zo 30 (.pick (.tmp 24) (.tmp 29) (.const (.bool false))),
  zo 4 (.mv (.tmp 30))]
def pc79_c2 : PCode := .region none false pc79_o2
def pc79_c3 : PCode := .ret
def pc79_c4 : PCode := .seq pc79_c2 pc79_c3
def pc79_c5 : PCode := .seq pc79_c1 pc79_c4
def pc79_r : List PRes := [PRes.tmp 4 []]
def pc79 : PFunc := ⟨31, pc79_r, pc79_c5, false⟩
def pc79_a : Ann := {
  kr := fun
    | _ => none
  ka := fun
    | _ => 0
  kh := fun
    | _ => none
  ow := fun t => match t with
    | 96 => [(1, 5, 1)]
    | _ => []
  tc := fun t => match t with
    | 96 => true
    | _ => false }
theorem pc79_ok : compFn Try.prog pc79_a Try.f79 = some pc79 := by kernel_rfl


-- 41: vedette/diff.Seen
def pc41_o1 : List POper := [zo 3 (.box 62 (.tmp 1) []),
  zo 4 (.mv (.const (.slice none 0 0)))]
def pc41_c1 : PCode := .region none false pc41_o1
def pc41_o2 : List POper := [zo 5 (.mv (.const (.slice none 0 0)))]
def pc41_c2 : PCode := .region none false pc41_o2
def pc41_o3 : List POper := [zo 8 (.mv (.tmp 0)),
  zo 9 (.lenS (.tmp 8)),
  zo 10 (.mv (.const (.int .i64 0)))]
def pc41_c3 : PCode := .region none false pc41_o3
def pc41_o4 : List POper := [zo 11 (.prim (.bin .lss 3 false false) [.tmp 10, .tmp 9])]
def pc41_c4 : PCode := .region (some ([3, 5, 8, 9, 10], [3, 7, 100005], [(false, 5, 0, 100005, 28, 11)])) false pc41_o4
def pc41_c5 : PCode := .skip
def pc41_c6 : PCode := .exit 0
def pc41_c7 : PCode := .cond (.tmp 11) pc41_c5 pc41_c6
def pc41_o8 : List POper := [zo 12 (.iaddrS 11 (.tmp 8) (.tmp 10)),
  zo 13 (.load true 11 (.tmp 12)),
  zo 7 (.alloc 28 (.agg { toList := [.int .i64 0, .int .i64 0, .int .i64 0, .int .i64 0, .string { data := { toList := [] } }, .int .i64 0, .string { data := { toList := [] } }, .int .i64 0, .string { data := { toList := [] } }, .int .i64 0, .string { data := { toList := [] } }] }) []),
  ⟨none, .store 11 (.tmp 7) (.tmp 13), none, []⟩]
def pc41_c8 : PCode := .region none false pc41_o8
def pc41_o9 : List POper := [zo 14 (.load true 4 (.tmp 3)),
  zo 15 (.faddr 1 (.tmp 7)),
  zo 16 (.load true 2 (.tmp 15)),
  zo 17 (.call true [[], []] 79 [.tmp 14, .tmp 16])]
def pc41_c9 : PCode := .region none false pc41_o9
def pc41_o10 : List POper := [zo 18 (.mv (.tmp 5)),
  zo 19 (.load true 11 (.tmp 7)),
  zo 20 (.bslice 28 11 [.tmp 19]),
  zo 21 (.app 100005 28 11 120 (.tmp 18) (.tmp 20)),
  zo 5 (.mv (.tmp 21))]
def pc41_c10 : PCode := .region none false pc41_o10
def pc41_c11 : PCode := .skip
def pc41_c12 : PCode := .cond (.tmp 17) pc41_c10 pc41_c11
def pc41_c13 : PCode := .seq pc41_c9 pc41_c12
def pc41_c14 : PCode := .seq pc41_c8 pc41_c13
def pc41_c15 : PCode := .block 1 pc41_c14
def pc41_o16 : List POper := [zo 22 (.prim (.bin .add 3 false true) [.tmp 10, .const (.int .i64 1)]),
  zo 10 (.mv (.tmp 22))]
def pc41_c16 : PCode := .region none false pc41_o16
def pc41_c17 : PCode := .seq pc41_c15 pc41_c16
def pc41_c18 : PCode := .seq pc41_c7 pc41_c17
def pc41_c19 : PCode := .seq pc41_c4 pc41_c18
def pc41_c20 : PCode := .loop pc41_c19
def pc41_c21 : PCode := .block 0 pc41_c20
def pc41_c22 : PCode := .seq pc41_c3 pc41_c21
def pc41_o23 : List POper := [zo 23 (.mv (.tmp 5)),
  zo 4 (.mv (.tmp 23))]
def pc41_c23 : PCode := .region none false pc41_o23
def pc41_c24 : PCode := .ret
def pc41_c25 : PCode := .seq pc41_c23 pc41_c24
def pc41_c26 : PCode := .seq pc41_c22 pc41_c25
def pc41_c27 : PCode := .seq pc41_c2 pc41_c26
def pc41_c28 : PCode := .seq pc41_c1 pc41_c27
def pc41_r : List PRes := [PRes.tmp 4 [(0, 11)]]
def pc41 : PFunc := ⟨24, pc41_r, pc41_c28, false⟩
def pc41_a : Ann := {
  kr := fun
    | 3 => some ([3, 5, 8, 9, 10], [3, 7, 100005], [(false, 5, 0, 100005, 28, 11)])
    | _ => none
  ka := fun
    | 21 => 100005
    | _ => 0
  kh := fun
    | _ => none
  ow := fun t => match t with
    | 96 => [(1, 5, 1)]
    | _ => []
  tc := fun t => match t with
    | 96 => true
    | _ => false }
theorem pc41_ok : compFn Try.prog pc41_a Try.f41 = some pc41 := by kernel_rfl


-- 76: vedette/fields.Diff
def pc76_o1 : List POper := [zo 2 (.box 28 (.tmp 0) []),
  zo 3 (.box 28 (.tmp 1) []),
  zo 4 (.alloc 35 (.agg { toList := [.int .i64 0, .int .u8 0, .int .i64 0, .int .i64 0, .int .i64 0, .string { data := { toList := [] } }, .int .i64 0, .string { data := { toList := [] } }, .int .i64 0, .string { data := { toList := [] } }, .int .i64 0, .string { data := { toList := [] } }] }) []),
  zo 5 (.mv (.const (.bool false)))]
def pc76_c1 : PCode := .region none false pc76_o1
def pc76_o2 : List POper := [zo 9 (.faddr 0 (.tmp 3)),
  zo 10 (.load false 1 (.tmp 9)),
  zo 11 (.build (.agg { toList := [.int .i64 0, .int .u8 0, .int .i64 0, .int .i64 0, .int .i64 0, .string { data := { toList := [] } }, .int .i64 0, .string { data := { toList := [] } }, .int .i64 0, .string { data := { toList := [] } }, .int .i64 0, .string { data := { toList := [] } }] }) [(0, 1, .tmp 10)]),
  zo 6 (.alloc 35 (.agg { toList := [.int .i64 0, .int .u8 0, .int .i64 0, .int .i64 0, .int .i64 0, .string { data := { toList := [] } }, .int .i64 0, .string { data := { toList := [] } }, .int .i64 0, .string { data := { toList := [] } }, .int .i64 0, .string { data := { toList := [] } }] }) []),
  ⟨none, .store 12 (.tmp 6) (.tmp 11), none, []⟩]
def pc76_c2 : PCode := .region none false pc76_o2
def pc76_o3 : List POper := [zo 12 (.faddr 1 (.tmp 2)),
  zo 13 (.load true 2 (.tmp 12)),
  zo 14 (.faddr 1 (.tmp 3)),
  zo 15 (.load true 2 (.tmp 14)),
  zo 16 (.prim (.bin .neq 23 false false) [.tmp 13, .tmp 15])]
def pc76_c3 : PCode := .region none false pc76_o3
def pc76_o4 : List POper := [⟨some 17, .faddr 1 (.tmp 3), none, [(3, .at_ 3 0)]⟩,
  ⟨some 18, .load true 2 (.tmp 17), none, [(17, .at_ 3 1)]⟩,
  ⟨some 19, .faddr 1 (.tmp 6), none, [(6, .at_ 6 0)]⟩,
  ⟨none, .store 1 (.tmp 19) (.const (.int .u8 1)), none, [(19, .at_ 6 1)]⟩,
  ⟨some 20, .faddr 2 (.tmp 6), none, [(6, .at_ 6 0)]⟩,
  ⟨none, .store 2 (.tmp 20) (.tmp 18), none, [(20, .at_ 6 2), (18, .imm)]⟩]
def pc76_c4 : PCode := .region none true pc76_o4
def pc76_c5 : PCode := .skip
def pc76_c6 : PCode := .cond (.tmp 16) pc76_c4 pc76_c5
def pc76_c7 : PCode := .seq pc76_c3 pc76_c6
def pc76_o8 : List POper := [zo 21 (.faddr 3 (.tmp 3)),
  zo 22 (.load true 8 (.tmp 21)),
  zo 23 (.mv (.const (.int .i64 0)))]
def pc76_c8 : PCode := .region (some ([2, 3, 4, 6], [2, 3, 4, 6], [])) false pc76_o8
def pc76_o9 : List POper := [zo 24 (.prim (.bin .lss 3 false true) [.tmp 23, .const (.int .i64 4)])]
def pc76_c9 : PCode := .region (some ([2, 4, 6, 22, 23], [2, 3, 4, 6, 8], [])) false pc76_o9
def pc76_c10 : PCode := .skip
def pc76_c11 : PCode := .exit 0
def pc76_c12 : PCode := .cond (.tmp 24) pc76_c10 pc76_c11
def pc76_o13 : List POper := [zo 25 (.mv (.tmp 23)),
  zo 26 (.idx true 2 4 (.tmp 22) (.tmp 23)),
  zo 8 (.alloc 25 (.agg { toList := [.int .i64 0, .string { data := { toList := [] } }] }) []),
  zo 7 (.mv (.tmp 25)),
  ⟨none, .store 2 (.tmp 8) (.tmp 26), none, []⟩]
def pc76_c13 : PCode := .region none false pc76_o13
def pc76_o14 : List POper := [⟨some 27, .mv (.tmp 7), none, [(7, .imm)]⟩,
  ⟨some 28, .faddr 3 (.tmp 2), none, [(2, .at_ 2 0)]⟩,
  ⟨some 29, .iaddrA 4 2 (.tmp 28) (.tmp 27), none, [(28, .at_ 2 3), (27, .imm)]⟩,
  ⟨some 30, .load true 2 (.tmp 29), none, [(29, .obj 2)]⟩,
  ⟨some 31, .load true 2 (.tmp 8), none, [(8, .at_ 8 0)]⟩,
  ⟨some 32, .prim (.bin .neq 25 false false) [.tmp 30, .tmp 31], none, [(30, .imm), (31, .imm)]⟩]
def pc76_c14 : PCode := .region none true pc76_o14
def pc76_o15 : List POper := [⟨some 33, .faddr 1 (.tmp 6), none, [(6, .at_ 6 0)]⟩,
  ⟨some 34, .load false 1 (.tmp 33), none, [(33, .at_ 6 1)]⟩,
  ⟨some 35, .mv (.tmp 7), none, [(7, .imm)]⟩,
  ⟨some 36, .prim (.bin .shl 5 true false) [.const (.int .u8 2), .tmp 35], none, [(35, .imm)]⟩,
  ⟨some 37, .prim (.bin .or 5 false false) [.tmp 34, .tmp 36], none, [(34, .imm), (36, .imm)]⟩,
  ⟨some 38, .faddr 1 (.tmp 6), none, [(6, .at_ 6 0)]⟩,
  ⟨none, .store 1 (.tmp 38) (.tmp 37), none, [(38, .at_ 6 1), (37, .imm)]⟩]
def pc76_c15 : PCode := .region none true pc76_o15
def pc76_o16 : List POper := [zo 39 (.mv (.tmp 7)),
  zo 40 (.load true 2 (.tmp 8)),
  zo 41 (.faddr 4 (.tmp 6)),
  zo 42 (.iaddrA 4 2 (.tmp 41) (.tmp 39)),
  ⟨none, .store 2 (.tmp 42) (.tmp 40), none, []⟩]
def pc76_c16 : PCode := .region none false pc76_o16
def pc76_c17 : PCode := .seq pc76_c15 pc76_c16
def pc76_c18 : PCode := .skip
def pc76_c19 : PCode := .cond (.tmp 32) pc76_c17 pc76_c18
def pc76_c20 : PCode := .seq pc76_c14 pc76_c19
def pc76_c21 : PCode := .seq pc76_c13 pc76_c20
def pc76_c22 : PCode := .block 1 pc76_c21
def pc76_o23 : List POper := [zo 43 (.prim (.bin .add 3 false true) [.tmp 23, .const (.int .i64 1)]),
  zo 23 (.mv (.tmp 43))]
def pc76_c23 : PCode := .region none false pc76_o23
def pc76_c24 : PCode := .seq pc76_c22 pc76_c23
def pc76_c25 : PCode := .seq pc76_c12 pc76_c24
def pc76_c26 : PCode := .seq pc76_c9 pc76_c25
def pc76_c27 : PCode := .loop pc76_c26
def pc76_c28 : PCode := .block 0 pc76_c27
def pc76_c29 : PCode := .seq pc76_c8 pc76_c28
def pc76_o30 : List POper := [⟨some 44, .load true 12 (.tmp 6), none, [(6, .at_ 6 0)]⟩,
  ⟨some 45, .faddr 1 (.tmp 6), none, [(6, .at_ 6 0)]⟩,
  ⟨some 46, .load false 1 (.tmp 45), none, [(45, .at_ 6 1)]⟩,
  ⟨some 47, .prim (.bin .neq 5 false true) [.tmp 46, .const (.int .u8 0)], none, [(46, .imm)]⟩,
  ⟨none, .store 12 (.tmp 4) (.tmp 44), none, [(4, .at_ 4 0), (44, .imm)]⟩,
  ⟨some 5, .mv (.tmp 47), none, [(47, .imm)]⟩]
def pc76_c30 : PCode := .region none true pc76_o30
def pc76_c31 : PCode := .ret
def pc76_c32 : PCode := .seq pc76_c30 pc76_c31
def pc76_c33 : PCode := .seq pc76_c29 pc76_c32
def pc76_c34 : PCode := .seq pc76_c7 pc76_c33
def pc76_c35 : PCode := .seq pc76_c2 pc76_c34
def pc76_c36 : PCode := .seq pc76_c1 pc76_c35
def pc76_r : List PRes := [PRes.cell 4 true 12 [], PRes.tmp 5 []]
def pc76 : PFunc := ⟨48, pc76_r, pc76_c36, false⟩
def pc76_a : Ann := {
  kr := fun
    | 4 => some ([2, 3, 4, 6], [2, 3, 4, 6], [])
    | 5 => some ([2, 4, 6, 22, 23], [2, 3, 4, 6, 8], [])
    | _ => none
  ka := fun
    | _ => 0
  kh := fun
    | 2 => some (.at_ 2 0)
    | 3 => some (.at_ 3 0)
    | 4 => some (.at_ 4 0)
    | 6 => some (.at_ 6 0)
    | 7 => some (.imm)
    | 8 => some (.at_ 8 0)
    | 17 => some (.at_ 3 1)
    | 18 => some (.imm)
    | 19 => some (.at_ 6 1)
    | 20 => some (.at_ 6 2)
    | 27 => some (.imm)
    | 28 => some (.at_ 2 3)
    | 29 => some (.obj 2)
    | 30 => some (.imm)
    | 31 => some (.imm)
    | 33 => some (.at_ 6 1)
    | 34 => some (.imm)
    | 35 => some (.imm)
    | 36 => some (.imm)
    | 37 => some (.imm)
    | 38 => some (.at_ 6 1)
    | 44 => some (.imm)
    | 45 => some (.at_ 6 1)
    | 46 => some (.imm)
    | 47 => some (.imm)
    | _ => none
  ow := fun t => match t with
    | 96 => [(1, 5, 1)]
    | _ => []
  tc := fun t => match t with
    | 96 => true
    | _ => false }
theorem pc76_ok : compFn Try.prog pc76_a Try.f76 = some pc76 := by kernel_rfl


-- 38: vedette/diff.Of
def pc38_o1 : List POper := [zo 5 (.box 62 (.tmp 1) []),
  zo 7 (.box 62 (.tmp 3) []),
  zo 8 (.mv (.const (.slice none 0 0)))]
def pc38_c1 : PCode := .region none false pc38_o1
def pc38_o2 : List POper := [⟨some 14, .mv (.tmp 0), none, [(0, .imm)]⟩,
  ⟨some 15, .load true 4 (.tmp 5), none, [(5, .at_ 5 0)]⟩,
  ⟨some 16, .call false [[(0, 11)], []] 41 [.tmp 14, .tmp 15], none, [(14, .imm), (15, .imm)]⟩,
  ⟨some 17, .mv (.tmp 2), none, [(2, .imm)]⟩,
  ⟨some 18, .load true 4 (.tmp 7), none, [(7, .at_ 7 0)]⟩,
  ⟨some 19, .call false [[(0, 11)], []] 41 [.tmp 17, .tmp 18], none, [(17, .imm), (18, .imm)]⟩,
  ⟨some 9, .mv (.tmp 16), none, [(16, .imm)]⟩,
  ⟨some 10, .mv (.tmp 19), none, [(19, .imm)]⟩]
def pc38_c2 : PCode := .region none true pc38_o2
def pc38_o3 : List POper := [zo 11 (.mv (.const (.slice none 0 0)))]
def pc38_c3 : PCode := .region none false pc38_o3
def pc38_c4 : PCode := .label
def pc38_o5 : List POper := [zo 43 (.mv (.tmp 9)),
  zo 44 (.lenS (.tmp 43)),
  zo 45 (.prim (.bin .eql 3 false true) [.tmp 44, .const (.int .i64 0)]),
  zo 46 (.mv (.tmp 45)),
  ⟨some 47, .mv (.tmp 10), some (46, true), []⟩,
  ⟨some 48, .lenS (.tmp 47), some (46, true), []⟩,
  ⟨some 49, .prim (.bin .eql 3 false true) [.tmp 48, .const (.int .i64 0)], some (46, true), []⟩,
  zo 50 (.pick (.tmp 46) (.tmp 49) (.const (.bool false))),
  zo 42 (.mv (.tmp 50))]
def pc38_c5 : PCode := .region (some ([9, 10, 11], [5, 7, 100011], [(false, 11, 0, 100011, 67, 25)])) false pc38_o5
def pc38_c6 : PCode := .exit 0
def pc38_o7 : List POper := [⟨some 52, .mv (.tmp 9), none, [(9, .imm)]⟩,
  ⟨some 53, .lenS (.tmp 52), none, [(52, .imm)]⟩,
  ⟨some 54, .prim (.bin .eql 3 false true) [.tmp 53, .const (.int .i64 0)], none, [(53, .imm)]⟩,
  ⟨some 55, .mv (.tmp 54), none, [(54, .imm)]⟩,
  ⟨some 56, .mv (.tmp 10), some (55, false), [(10, .imm)]⟩,
  ⟨some 57, .lenS (.tmp 56), some (55, false), [(56, .imm)]⟩,
  ⟨some 58, .prim (.bin .gtr 3 false true) [.tmp 57, .const (.int .i64 0)], some (55, false), [(57, .imm)]⟩,
  ⟨some 59, .mv (.tmp 58), some (55, false), [(58, .imm)]⟩,
  ⟨some 60, .mv (.tmp 10), some (59, true), [(10, .imm)]⟩,
  ⟨some 61, .iaddrS 11 (.tmp 60) (.const (.int .i64 0)), some (59, true), [(60, .imm)]⟩,
  ⟨some 62, .faddr 0 (.tmp 61), some (59, true), [(61, .imm)]⟩,
  ⟨some 63, .load false 1 (.tmp 62), some (59, true), [(62, .imm)]⟩,
  ⟨some 64, .mv (.tmp 9), some (59, true), [(9, .imm)]⟩,
  ⟨some 65, .iaddrS 11 (.tmp 64) (.const (.int .i64 0)), some (59, true), [(64, .imm)]⟩,
  ⟨some 66, .faddr 0 (.tmp 65), some (59, true), [(65, .imm)]⟩,
  ⟨some 67, .load false 1 (.tmp 66), some (59, true), [(66, .imm)]⟩,
  ⟨some 68, .prim (.bin .lss 3 false false) [.tmp 63, .tmp 67], some (59, true), [(63, .imm), (67, .imm)]⟩,
  ⟨some 69, .pick (.tmp 59) (.tmp 68) (.const (.bool false)), some (55, false), [(59, .imm), (68, .imm)]⟩,
  ⟨some 70, .pick (.tmp 55) (.const (.bool true)) (.tmp 69), none, [(55, .imm), (69, .imm)]⟩,
  ⟨some 51, .mv (.tmp 70), none, [(70, .imm)]⟩]
def pc38_c7 : PCode := .region (some ([9, 10, 11], [100011], [])) true pc38_o7
def pc38_o8 : List POper := [⟨some 71, .mv (.tmp 11), none, [(11, .obj 100011)]⟩,
  ⟨some 72, .mv (.tmp 10), none, [(10, .imm)]⟩,
  ⟨some 73, .iaddrS 11 (.tmp 72) (.const (.int .i64 0)), none, [(72, .imm)]⟩,
  ⟨some 74, .faddr 0 (.tmp 73), none, [(73, .imm)]⟩,
  ⟨some 75, .load false 1 (.tmp 74), none, [(74, .imm)]⟩,
  ⟨some 76, .mv (.tmp 10), none, [(10, .imm)]⟩,
  ⟨some 77, .iaddrS 11 (.tmp 76) (.const (.int .i64 0)), none, [(76, .imm)]⟩,
  ⟨some 78, .load true 11 (.tmp 77), none, [(77, .imm)]⟩,
  ⟨some 79, .build (.agg { toList := [.int .i64 0, .int .i64 0, .int .i64 0, .int .i64 0, .int .i64 0, .int .i64 0, .string { data := { toList := [] } }, .int .i64 0, .string { data := { toList := [] } }, .int .i64 0, .string { data := { toList := [] } }, .int .i64 0, .string { data := { toList := [] } }, .int .i64 0, .int .u8 0, .int .i64 0, .int .i64 0, .int .i64 0, .string { data := { toList := [] } }, .int .i64 0, .string { data := { toList := [] } }, .int .i64 0, .string { data := { toList := [] } }, .int .i64 0, .string { data := { toList := [] } }] }) [(0, 1, .const (.int .i64 1)), (1, 1, .tmp 75), (2, 11, .tmp 78)], none, [(75, .imm), (78, .imm)]⟩,
  ⟨some 80, .bslice 67 25 [.tmp 79], none, [(79, .imm)]⟩,
  ⟨some 81, .app 100011 67 25 264 (.tmp 71) (.tmp 80), none, [(71, .obj 100011), (80, .imm)]⟩,
  ⟨some 11, .mv (.tmp 81), none, [(81, .obj 100011)]⟩]
def pc38_c8 : PCode := .region (some ([9, 10, 11], [100011], [])) true pc38_o8
def pc38_o9 : List POper := [zo 82 (.mv (.tmp 10)),
  zo 83 (.slc 11 (.tmp 82) (some (.const (.int .i64 1))) none),
  zo 10 (.mv (.tmp 83))]
def pc38_c9 : PCode := .region none false pc38_o9
def pc38_c10 : PCode := .seq pc38_c8 pc38_c9
def pc38_o11 : List POper := [⟨some 85, .mv (.tmp 10), none, [(10, .imm)]⟩,
  ⟨some 86, .lenS (.tmp 85), none, [(85, .imm)]⟩,
  ⟨some 87, .prim (.bin .eql 3 false true) [.tmp 86, .const (.int .i64 0)], none, [(86, .imm)]⟩,
  ⟨some 88, .mv (.tmp 87), none, [(87, .imm)]⟩,
  ⟨some 89, .mv (.tmp 9), some (88, false), [(9, .imm)]⟩,
  ⟨some 90, .iaddrS 11 (.tmp 89) (.const (.int .i64 0)), some (88, false), [(89, .imm)]⟩,
  ⟨some 91, .faddr 0 (.tmp 90), some (88, false), [(90, .imm)]⟩,
  ⟨some 92, .load false 1 (.tmp 91), some (88, false), [(91, .imm)]⟩,
  ⟨some 93, .mv (.tmp 10), some (88, false), [(10, .imm)]⟩,
  ⟨some 94, .iaddrS 11 (.tmp 93) (.const (.int .i64 0)), some (88, false), [(93, .imm)]⟩,
  ⟨some 95, .faddr 0 (.tmp 94), some (88, false), [(94, .imm)]⟩,
  ⟨some 96, .load false 1 (.tmp 95), some (88, false), [(95, .imm)]⟩,
  ⟨some 97, .prim (.bin .lss 3 false false) [.tmp 92, .tmp 96], some (88, false), [(92, .imm), (96, .imm)]⟩,
  ⟨some 98, .pick (.tmp 88) (.const (.bool true)) (.tmp 97), none, [(88, .imm), (97, .imm)]⟩,
  ⟨some 84, .mv (.tmp 98), none, [(98, .imm)]⟩]
def pc38_c11 : PCode := .region (some ([9, 10, 11], [100011], [])) true pc38_o11
def pc38_o12 : List POper := [zo 99 (.mv (.tmp 11)),
  zo 100 (.mv (.tmp 9)),
  zo 101 (.iaddrS 11 (.tmp 100) (.const (.int .i64 0))),
  zo 102 (.faddr 0 (.tmp 101)),
  zo 103 (.load false 1 (.tmp 102)),
  zo 104 (.build (.agg { toList := [.int .i64 0, .int .i64 0, .int .i64 0, .int .i64 0, .int .i64 0, .int .i64 0, .string { data := { toList := [] } }, .int .i64 0, .string { data := { toList := [] } }, .int .i64 0, .string { data := { toList := [] } }, .int .i64 0, .string { data := { toList := [] } }, .int .i64 0, .int .u8 0, .int .i64 0, .int .i64 0, .int .i64 0, .string { data := { toList := [] } }, .int .i64 0, .string { data := { toList := [] } }, .int .i64 0, .string { data := { toList := [] } }, .int .i64 0, .string { data := { toList := [] } }] }) [(0, 1, .const (.int .i64 3)), (1, 1, .tmp 103)]),
  zo 105 (.bslice 67 25 [.tmp 104]),
  zo 106 (.app 100011 67 25 264 (.tmp 99) (.tmp 105)),
  zo 11 (.mv (.tmp 106))]
def pc38_c12 : PCode := .region (some ([9, 10, 11], [100011], [])) false pc38_o12
def pc38_o13 : List POper := [zo 107 (.mv (.tmp 9)),
  zo 108 (.slc 11 (.tmp 107) (some (.const (.int .i64 1))) none),
  zo 9 (.mv (.tmp 108))]
def pc38_c13 : PCode := .region none false pc38_o13
def pc38_c14 : PCode := .seq pc38_c12 pc38_c13
def pc38_o15 : List POper := [⟨some 21, .mv (.tmp 9), none, [(9, .imm)]⟩,
  ⟨some 22, .iaddrS 11 (.tmp 21) (.const (.int .i64 0)), none, [(21, .imm)]⟩,
  ⟨some 23, .load true 11 (.tmp 22), none, [(22, .imm)]⟩,
  ⟨some 24, .mv (.tmp 10), none, [(10, .imm)]⟩,
  ⟨some 25, .iaddrS 11 (.tmp 24) (.const (.int .i64 0)), none, [(24, .imm)]⟩,
  ⟨some 26, .load true 11 (.tmp 25), none, [(25, .imm)]⟩,
  ⟨some 27, .call false [[], []] 76 [.tmp 23, .tmp 26], none, [(23, .imm), (26, .imm)]⟩,
  zo 20 (.mv (.tmp 27)),
  zo 28 (.ext (.tmp 20) 0),
  zo 29 (.ext (.tmp 20) 1),
  zo 12 (.alloc 35 (.agg { toList := [.int .i64 0, .int .u8 0, .int .i64 0, .int .i64 0, .int .i64 0, .string { data := { toList := [] } }, .int .i64 0, .string { data := { toList := [] } }, .int .i64 0, .string { data := { toList := [] } }, .int .i64 0, .string { data := { toList := [] } }] }) []),
  ⟨none, .store 12 (.tmp 12) (.tmp 28), none, [(12, .at_ 12 0), (28, .imm)]⟩,
  ⟨some 13, .mv (.tmp 29), none, [(29, .imm)]⟩]
def pc38_c15 : PCode := .region none true pc38_o15
def pc38_o16 : List POper := [zo 30 (.mv (.tmp 13))]
def pc38_c16 : PCode := .region none false pc38_o16
def pc38_o17 : List POper := [zo 31 (.mv (.tmp 11)),
  zo 32 (.faddr 0 (.tmp 12)),
  zo 33 (.load false 1 (.tmp 32)),
  zo 34 (.load true 12 (.tmp 12)),
  zo 35 (.build (.agg { toList := [.int .i64 0, .int .i64 0, .int .i64 0, .int .i64 0, .int .i64 0, .int .i64 0, .string { data := { toList := [] } }, .int .i64 0, .string { data := { toList := [] } }, .int .i64 0, .string { data := { toList := [] } }, .int .i64 0, .string { data := { toList := [] } }, .int .i64 0, .int .u8 0, .int .i64 0, .int .i64 0, .int .i64 0, .string { data := { toList := [] } }, .int .i64 0, .string { data := { toList := [] } }, .int .i64 0, .string { data := { toList := [] } }, .int .i64 0, .string { data := { toList := [] } }] }) [(0, 1, .const (.int .i64 2)), (1, 1, .tmp 33), (13, 12, .tmp 34)]),
  zo 36 (.bslice 67 25 [.tmp 35]),
  zo 37 (.app 100011 67 25 264 (.tmp 31) (.tmp 36)),
  zo 11 (.mv (.tmp 37))]
def pc38_c17 : PCode := .region none false pc38_o17
def pc38_c18 : PCode := .skip
def pc38_c19 : PCode := .cond (.tmp 30) pc38_c17 pc38_c18
def pc38_c20 : PCode := .seq pc38_c16 pc38_c19
def pc38_c21 : PCode := .seq pc38_c15 pc38_c20
def pc38_o22 : List POper := [⟨some 38, .mv (.tmp 9), none, [(9, .imm)]⟩,
  ⟨some 39, .slc 11 (.tmp 38) (some (.const (.int .i64 1))) none, none, [(38, .imm)]⟩,
  ⟨some 40, .mv (.tmp 10), none, [(10, .imm)]⟩,
  ⟨some 41, .slc 11 (.tmp 40) (some (.const (.int .i64 1))) none, none, [(40, .imm)]⟩,
  ⟨some 9, .mv (.tmp 39), none, [(39, .imm)]⟩,
  ⟨some 10, .mv (.tmp 41), none, [(41, .imm)]⟩]
def pc38_c22 : PCode := .region (some ([9, 10, 11], [12, 100011], [(false, 11, 0, 100011, 67, 25)])) true pc38_o22
def pc38_c23 : PCode := .seq pc38_c21 pc38_c22
def pc38_c24 : PCode := .cond (.tmp 84) pc38_c14 pc38_c23
def pc38_c25 : PCode := .seq pc38_c11 pc38_c24
def pc38_c26 : PCode := .cond (.tmp 51) pc38_c10 pc38_c25
def pc38_c27 : PCode := .seq pc38_c7 pc38_c26
def pc38_c28 : PCode := .cond (.tmp 42) pc38_c6 pc38_c27
def pc38_c29 : PCode := .seq pc38_c5 pc38_c28
def pc38_c30 : PCode := .block 2 pc38_c29
def pc38_c31 : PCode := .block 1 pc38_c30
def pc38_c32 : PCode := .loop pc38_c31
def pc38_c33 : PCode := .block 0 pc38_c32
def pc38_o34 : List POper := [zo 109 (.mv (.tmp 11)),
  zo 8 (.mv (.tmp 109))]
def pc38_c34 : PCode := .region none false pc38_o34
def pc38_c35 : PCode := .ret
def pc38_c36 : PCode := .seq pc38_c34 pc38_c35
def pc38_c37 : PCode := .seq pc38_c33 pc38_c36
def pc38_c38 : PCode := .seq pc38_c4 pc38_c37
def pc38_c39 : PCode := .seq pc38_c3 pc38_c38
def pc38_c40 : PCode := .seq pc38_c2 pc38_c39
def pc38_c41 : PCode := .scope pc38_c40
def pc38_c42 : PCode := .seq pc38_c1 pc38_c41
def pc38_r : List PRes := [PRes.tmp 8 [(0, 25)]]
def pc38 : PFunc := ⟨110, pc38_r, pc38_c42, false⟩
def pc38_a : Ann := {
  kr := fun
    | 6 => some ([9, 10, 11], [12, 100011], [(false, 11, 0, 100011, 67, 25)])
    | 7 => some ([9, 10, 11], [5, 7, 100011], [(false, 11, 0, 100011, 67, 25)])
    | 8 => some ([9, 10, 11], [100011], [])
    | 9 => some ([9, 10, 11], [100011], [])
    | 11 => some ([9, 10, 11], [100011], [])
    | 12 => some ([9, 10, 11], [100011], [])
    | _ => none
  ka := fun
    | 37 => 100011
    | 81 => 100011
    | 106 => 100011
    | _ => 0
  kh := fun
    | 0 => some (.imm)
    | 2 => some (.imm)
    | 5 => some (.at_ 5 0)
    | 7 => some (.at_ 7 0)
    | 9 => some (.imm)
    | 10 => some (.imm)
    | 11 => some (.obj 100011)
    | 12 => some (.at_ 12 0)
    | 14 => some (.imm)
    | 15 => some (.imm)
    | 16 => some (.imm)
    | 17 => some (.imm)
    | 18 => some (.imm)
    | 19 => some (.imm)
    | 21 => some (.imm)
    | 22 => some (.imm)
    | 23 => some (.imm)
    | 24 => some (.imm)
    | 25 => some (.imm)
    | 26 => some (.imm)
    | 28 => some (.imm)
    | 29 => some (.imm)
    | 38 => some (.imm)
    | 39 => some (.imm)
    | 40 => some (.imm)
    | 41 => some (.imm)
    | 52 => some (.imm)
    | 53 => some (.imm)
    | 54 => some (.imm)
    | 55 => some (.imm)
    | 56 => some (.imm)
    | 57 => some (.imm)
    | 58 => some (.imm)
    | 59 => some (.imm)
    | 60 => some (.imm)
    | 61 => some (.imm)
    | 62 => some (.imm)
    | 63 => some (.imm)
    | 64 => some (.imm)
    | 65 => some (.imm)
    | 66 => some (.imm)
    | 67 => some (.imm)
    | 68 => some (.imm)
    | 69 => some (.imm)
    | 70 => some (.imm)
    | 71 => some (.obj 100011)
    | 72 => some (.imm)
    | 73 => some (.imm)
    | 74 => some (.imm)
    | 75 => some (.imm)
    | 76 => some (.imm)
    | 77 => some (.imm)
    | 78 => some (.imm)
    | 79 => some (.imm)
    | 80 => some (.imm)
    | 81 => some (.obj 100011)
    | 85 => some (.imm)
    | 86 => some (.imm)
    | 87 => some (.imm)
    | 88 => some (.imm)
    | 89 => some (.imm)
    | 90 => some (.imm)
    | 91 => some (.imm)
    | 92 => some (.imm)
    | 93 => some (.imm)
    | 94 => some (.imm)
    | 95 => some (.imm)
    | 96 => some (.imm)
    | 97 => some (.imm)
    | 98 => some (.imm)
    | _ => none
  ow := fun t => match t with
    | 96 => [(1, 5, 1)]
    | _ => []
  tc := fun t => match t with
    | 96 => true
    | _ => false }
theorem pc38_ok : compFn Try.prog pc38_a Try.f38 = some pc38 := by kernel_rfl


-- 35: vedette/vedettelaw16.known
def pc35_o1 : List POper := [zo 0 (.mv (.const (.bool false)))]
def pc35_c1 : PCode := .region none false pc35_o1
def pc35_o2 : List POper := [zo 5 (.build (.agg { toList := [.int .i64 0, .int .i64 0] }) [(0, 1, .const (.int .i64 1))]),
  zo 6 (.build (.agg { toList := [.int .i64 0, .int .i64 0, .int .i64 0, .int .i64 0, .string { data := { toList := [] } }, .int .i64 0, .string { data := { toList := [] } }, .int .i64 0, .string { data := { toList := [] } }, .int .i64 0, .string { data := { toList := [] } }] }) [(0, 1, .const (.int .i64 1)), (1, 2, .tmp 5)]),
  zo 7 (.build (.agg { toList := [.int .i64 0, .int .i64 0] }) [(0, 1, .const (.int .i64 9))]),
  zo 8 (.build (.agg { toList := [.int .i64 0, .int .i64 0, .int .i64 0, .int .i64 0, .string { data := { toList := [] } }, .int .i64 0, .string { data := { toList := [] } }, .int .i64 0, .string { data := { toList := [] } }, .int .i64 0, .string { data := { toList := [] } }] }) [(0, 1, .const (.int .i64 2)), (1, 2, .tmp 7)]),
  zo 9 (.bslice 28 11 [.tmp 6, .tmp 8]),
  zo 1 (.mv (.tmp 9))]
def pc35_c2 : PCode := .region none false pc35_o2
def pc35_o3 : List POper := [zo 10 (.build (.agg { toList := [.int .i64 0, .int .i64 0] }) [(0, 1, .const (.int .i64 2))]),
  zo 11 (.build (.agg { toList := [.int .i64 0, .int .i64 0, .int .i64 0, .int .i64 0, .string { data := { toList := [] } }, .int .i64 0, .string { data := { toList := [] } }, .int .i64 0, .string { data := { toList := [] } }, .int .i64 0, .string { data := { toList := [] } }] }) [(0, 1, .const (.int .i64 2)), (1, 2, .tmp 10)]),
  zo 12 (.bslice 28 11 [.tmp 11]),
  zo 2 (.mv (.tmp 12))]
def pc35_c3 : PCode := .region none false pc35_o3
def pc35_o4 : List POper := [zo 13 (.build (.agg { toList := [.int .i64 0, .int .i64 0, .int .i64 0, .int .i64 0] }) [(2, 1, .const (.int .i64 5)), (3, 1, .const (.int .i64 5))]),
  zo 3 (.alloc 62 (.agg { toList := [.int .i64 0, .int .i64 0, .int .i64 0, .int .i64 0] }) []),
  ⟨none, .store 4 (.tmp 3) (.tmp 13), none, []⟩]
def pc35_c4 : PCode := .region none false pc35_o4
def pc35_o5 : List POper := [zo 14 (.mv (.tmp 1)),
  zo 15 (.load true 4 (.tmp 3)),
  zo 16 (.mv (.tmp 2)),
  zo 17 (.load true 4 (.tmp 3)),
  zo 18 (.call true [[(0, 11)], [], [(0, 11)], []] 38 [.tmp 14, .tmp 15, .tmp 16, .tmp 17]),
  zo 4 (.mv (.tmp 18))]
def pc35_c5 : PCode := .region none false pc35_o5
def pc35_o6 : List POper := [⟨some 19, .mv (.tmp 4), none, [(4, .imm)]⟩,
  ⟨some 20, .lenS (.tmp 19), none, [(19, .imm)]⟩,
  ⟨some 21, .prim (.bin .eql 3 false true) [.tmp 20, .const (.int .i64 2)], none, [(20, .imm)]⟩,
  ⟨some 22, .mv (.tmp 21), none, [(21, .imm)]⟩,
  ⟨some 23, .mv (.tmp 4), some (22, true), [(4, .imm)]⟩,
  ⟨some 24, .iaddrS 25 (.tmp 23) (.const (.int .i64 0)), some (22, true), [(23, .imm)]⟩,
  ⟨some 25, .faddr 0 (.tmp 24), some (22, true), [(24, .imm)]⟩,
  ⟨some 26, .load false 1 (.tmp 25), some (22, true), [(25, .imm)]⟩,
  ⟨some 27, .prim (.bin .eql 3 false true) [.tmp 26, .const (.int .i64 3)], some (22, true), [(26, .imm)]⟩,
  ⟨some 28, .pick (.tmp 22) (.tmp 27) (.const (.bool false)), none, [(22, .imm), (27, .imm)]⟩,
  ⟨some 29, .mv (.tmp 28), none, [(28, .imm)]⟩,
  ⟨some 30, .mv (.tmp 4), some (29, true), [(4, .imm)]⟩,
  ⟨some 31, .iaddrS 25 (.tmp 30) (.const (.int .i64 0)), some (29, true), [(30, .imm)]⟩,
  ⟨some 32, .faddr 1 (.tmp 31), some (29, true), [(31, .imm)]⟩,
  ⟨some 33, .load false 1 (.tmp 32), some (29, true), [(32, .imm)]⟩,
  ⟨some 34, .prim (.bin .eql 3 false true) [.tmp 33, .const (.int .i64 1)], some (29, true), [(33, .imm)]⟩,
  ⟨some 35, .pick (.tmp 29) (.tmp 34) (.const (.bool false)), none, [(29, .imm), (34, .imm)]⟩,
  ⟨some 36, .mv (.tmp 35), none, [(35, .imm)]⟩,
  ⟨some 37, .mv (.tmp 4), some (36, true), [(4, .imm)]⟩,
  ⟨some 38, .iaddrS 25 (.tmp 37) (.const (.int .i64 1)), some (36, true), [(37, .imm)]⟩,
  ⟨some 39, .faddr 0 (.tmp 38), some (36, true), [(38, .imm)]⟩,
  ⟨some 40, .load false 1 (.tmp 39), some (36, true), [(39, .imm)]⟩,
  ⟨some 41, .prim (.bin .eql 3 false true) [.tmp 40, .const (.int .i64 1)], some (36, true), [(40, .imm)]⟩,
  ⟨some 42, .pick (.tmp 36) (.tmp 41) (.const (.bool false)), none, [(36, .imm), (41, .imm)]⟩,
  ⟨some 43, .mv (.tmp 42), none, [(42, .imm)]⟩,
  ⟨some 44, .mv (.tmp 4), some (43, true), [(4, .imm)]⟩,
  ⟨some 45, .iaddrS 25 (.tmp 44) (.const (.int .i64 1)), some (43, true), [(44, .imm)]⟩,
  ⟨some 46, .faddr 2 (.tmp 45), some (43, true), [(45, .imm)]⟩,
  ⟨some 47, .load true 11 (.tmp 46), some (43, true), [(46, .imm)]⟩,
  ⟨some 48, .mv (.tmp 2), some (43, true), [(2, .imm)]⟩,
  ⟨some 49, .iaddrS 11 (.tmp 48) (.const (.int .i64 0)), some (43, true), [(48, .imm)]⟩,
  ⟨some 50, .load true 11 (.tmp 49), some (43, true), [(49, .imm)]⟩,
  ⟨some 51, .prim (.bin .eql 28 false false) [.tmp 47, .tmp 50], some (43, true), [(47, .imm), (50, .imm)]⟩,
  ⟨some 52, .pick (.tmp 43) (.tmp 51) (.const (.bool false)), none, [(43, .imm), (51, .imm)]⟩,
  ⟨some 53, .mv (.tmp 52), none, [(52, .imm)]⟩,
  ⟨some 54, .mv (.tmp 1), some (53, true), [(1, .imm)]⟩,
  ⟨some 55, .load true 4 (.tmp 3), some (53, true), [(3, .at_ 3 0)]⟩,
  ⟨some 56, .call false [[(0, 11)], []] 41 [.tmp 54, .tmp 55], some (53, true), [(54, .imm), (55, .imm)]⟩,
  ⟨some 57, .lenS (.tmp 56), some (53, true), [(56, .imm)]⟩,
  ⟨some 58, .prim (.bin .eql 3 false true) [.tmp 57, .const (.int .i64 1)], some (53, true), [(57, .imm)]⟩,
  ⟨some 59, .pick (.tmp 53) (.tmp 58) (.const (.bool false)), none, [(53, .imm), (58, .imm)]⟩,
  ⟨some 60, .mv (.tmp 59), none, [(59, .imm)]⟩,
  ⟨some 61, .mv (.tmp 1), some (60, true), [(1, .imm)]⟩,
  ⟨some 62, .load true 4 (.tmp 3), some (60, true), [(3, .at_ 3 0)]⟩,
  ⟨some 63, .mv (.tmp 1), some (60, true), [(1, .imm)]⟩,
  ⟨some 64, .load true 4 (.tmp 3), some (60, true), [(3, .at_ 3 0)]⟩,
  ⟨some 65, .call false [[(0, 11)], [], [(0, 11)], []] 38 [.tmp 61, .tmp 62, .tmp 63, .tmp 64], some (60, true), [(61, .imm), (62, .imm), (63, .imm), (64, .imm)]⟩,
  ⟨some 66, .lenS (.tmp 65), some (60, true), [(65, .imm)]⟩,
  ⟨some 67, .prim (.bin .eql 3 false true) [.tmp 66, .const (.int .i64 0)], some (60, true), [(66, .imm)]⟩,
  ⟨some 68, .pick (.tmp 60) (.tmp 67) (.const (.bool false)), none, [(60, .imm), (67, .imm)]⟩,
  ⟨some 0, .mv (.tmp 68), none, [(68, .imm)]⟩]
def pc35_c6 : PCode := .region none true pc35_o6
def pc35_c7 : PCode := .ret
def pc35_c8 : PCode := .seq pc35_c6 pc35_c7
def pc35_c9 : PCode := .seq pc35_c5 pc35_c8
def pc35_c10 : PCode := .seq pc35_c4 pc35_c9
def pc35_c11 : PCode := .seq pc35_c3 pc35_c10
def pc35_c12 : PCode := .seq pc35_c2 pc35_c11
def pc35_c13 : PCode := .seq pc35_c1 pc35_c12
def pc35_r : List PRes := [PRes.tmp 0 []]
def pc35 : PFunc := ⟨69, pc35_r, pc35_c13, false⟩
def pc35_a : Ann := {
  kr := fun
    | _ => none
  ka := fun
    | _ => 0
  kh := fun
    | 1 => some (.imm)
    | 2 => some (.imm)
    | 3 => some (.at_ 3 0)
    | 4 => some (.imm)
    | 19 => some (.imm)
    | 20 => some (.imm)
    | 21 => some (.imm)
    | 22 => some (.imm)
    | 23 => some (.imm)
    | 24 => some (.imm)
    | 25 => some (.imm)
    | 26 => some (.imm)
    | 27 => some (.imm)
    | 28 => some (.imm)
    | 29 => some (.imm)
    | 30 => some (.imm)
    | 31 => some (.imm)
    | 32 => some (.imm)
    | 33 => some (.imm)
    | 34 => some (.imm)
    | 35 => some (.imm)
    | 36 => some (.imm)
    | 37 => some (.imm)
    | 38 => some (.imm)
    | 39 => some (.imm)
    | 40 => some (.imm)
    | 41 => some (.imm)
    | 42 => some (.imm)
    | 43 => some (.imm)
    | 44 => some (.imm)
    | 45 => some (.imm)
    | 46 => some (.imm)
    | 47 => some (.imm)
    | 48 => some (.imm)
    | 49 => some (.imm)
    | 50 => some (.imm)
    | 51 => some (.imm)
    | 52 => some (.imm)
    | 53 => some (.imm)
    | 54 => some (.imm)
    | 55 => some (.imm)
    | 56 => some (.imm)
    | 57 => some (.imm)
    | 58 => some (.imm)
    | 59 => some (.imm)
    | 60 => some (.imm)
    | 61 => some (.imm)
    | 62 => some (.imm)
    | 63 => some (.imm)
    | 64 => some (.imm)
    | 65 => some (.imm)
    | 66 => some (.imm)
    | 67 => some (.imm)
    | 68 => some (.imm)
    | _ => none
  ow := fun t => match t with
    | 96 => [(1, 5, 1)]
    | _ => []
  tc := fun t => match t with
    | 96 => true
    | _ => false }
theorem pc35_ok : compFn Try.prog pc35_a Try.f35 = some pc35 := by kernel_rfl


-- 109: vedette/vedettelaw16.fewField
def pc109_o1 : List POper := [zo 1 (.box 25 (.tmp 0) []),
  zo 2 (.mv (.const (.bool false)))]
def pc109_c1 : PCode := .region none false pc109_o1
def pc109_o2 : List POper := [zo 3 (.faddr 1 (.tmp 1)),
  zo 4 (.load false 1 (.tmp 3)),
  zo 5 (.prim (.len 9) [.tmp 4]),
  zo 6 (.prim (.bin .leq 3 false true) [.tmp 5, .const (.int .i64 40)]),
  zo 2 (.mv (.tmp 6))]
def pc109_c2 : PCode := .region none false pc109_o2
def pc109_c3 : PCode := .ret
def pc109_c4 : PCode := .seq pc109_c2 pc109_c3
def pc109_c5 : PCode := .seq pc109_c1 pc109_c4
def pc109_r : List PRes := [PRes.tmp 2 []]
def pc109 : PFunc := ⟨7, pc109_r, pc109_c5, false⟩
def pc109_a : Ann := {
  kr := fun
    | _ => none
  ka := fun
    | _ => 0
  kh := fun
    | _ => none
  ow := fun t => match t with
    | 96 => [(1, 5, 1)]
    | _ => []
  tc := fun t => match t with
    | 96 => true
    | _ => false }
theorem pc109_ok : compFn Try.prog pc109_a Try.f109 = some pc109 := by kernel_rfl


-- 75: vedette/vedettelaw16.fewThing
def pc75_o1 : List POper := [zo 1 (.box 28 (.tmp 0) []),
  zo 2 (.mv (.const (.bool false)))]
def pc75_c1 : PCode := .region none false pc75_o1
def pc75_o2 : List POper := [zo 3 (.mv (.const (.int .i64 0)))]
def pc75_c2 : PCode := .region none false pc75_o2
def pc75_o3 : List POper := [zo 4 (.mv (.tmp 3)),
  zo 5 (.prim (.bin .lss 3 false true) [.tmp 4, .const (.int .i64 4)])]
def pc75_c3 : PCode := .region (some ([1, 3], [1], [])) false pc75_o3
def pc75_c4 : PCode := .skip
def pc75_c5 : PCode := .exit 0
def pc75_c6 : PCode := .cond (.tmp 5) pc75_c4 pc75_c5
def pc75_c7 : PCode := .seq pc75_c3 pc75_c6
def pc75_o8 : List POper := [zo 8 (.mv (.tmp 3)),
  zo 9 (.faddr 3 (.tmp 1)),
  zo 10 (.iaddrA 4 2 (.tmp 9) (.tmp 8)),
  zo 11 (.load true 2 (.tmp 10)),
  zo 12 (.call true [[]] 109 [.tmp 11]),
  zo 13 (.prim (.un .not) [.tmp 12])]
def pc75_c8 : PCode := .region none false pc75_o8
def pc75_o9 : List POper := [zo 2 (.mv (.const (.bool false)))]
def pc75_c9 : PCode := .region none false pc75_o9
def pc75_c10 : PCode := .ret
def pc75_c11 : PCode := .seq pc75_c9 pc75_c10
def pc75_c12 : PCode := .skip
def pc75_c13 : PCode := .cond (.tmp 13) pc75_c11 pc75_c12
def pc75_c14 : PCode := .seq pc75_c8 pc75_c13
def pc75_c15 : PCode := .block 1 pc75_c14
def pc75_o16 : List POper := [zo 6 (.mv (.tmp 3)),
  zo 7 (.prim (.bin .add 3 false true) [.tmp 6, .const (.int .i64 1)]),
  zo 3 (.mv (.tmp 7))]
def pc75_c16 : PCode := .region none false pc75_o16
def pc75_c17 : PCode := .seq pc75_c15 pc75_c16
def pc75_c18 : PCode := .seq pc75_c7 pc75_c17
def pc75_c19 : PCode := .loop pc75_c18
def pc75_c20 : PCode := .block 0 pc75_c19
def pc75_c21 : PCode := .seq pc75_c2 pc75_c20
def pc75_o22 : List POper := [zo 2 (.mv (.const (.bool true)))]
def pc75_c22 : PCode := .region none false pc75_o22
def pc75_c23 : PCode := .ret
def pc75_c24 : PCode := .seq pc75_c22 pc75_c23
def pc75_c25 : PCode := .seq pc75_c21 pc75_c24
def pc75_c26 : PCode := .seq pc75_c1 pc75_c25
def pc75_r : List PRes := [PRes.tmp 2 []]
def pc75 : PFunc := ⟨14, pc75_r, pc75_c26, false⟩
def pc75_a : Ann := {
  kr := fun
    | 2 => some ([1, 3], [1], [])
    | _ => none
  ka := fun
    | _ => 0
  kh := fun
    | _ => none
  ow := fun t => match t with
    | 96 => [(1, 5, 1)]
    | _ => []
  tc := fun t => match t with
    | 96 => true
    | _ => false }
theorem pc75_ok : compFn Try.prog pc75_a Try.f75 = some pc75 := by kernel_rfl


-- 36: vedette/vedettelaw16.fewThings
def pc36_o1 : List POper := [zo 2 (.mv (.const (.bool false)))]
def pc36_c1 : PCode := .region none false pc36_o1
def pc36_o2 : List POper := [zo 3 (.mv (.const (.int .i64 0)))]
def pc36_c2 : PCode := .region none false pc36_o2
def pc36_o3 : List POper := [zo 4 (.mv (.tmp 3)),
  zo 5 (.mv (.tmp 0)),
  zo 6 (.lenS (.tmp 5)),
  zo 7 (.prim (.bin .lss 3 false false) [.tmp 4, .tmp 6])]
def pc36_c3 : PCode := .region (some ([0, 3], [], [])) false pc36_o3
def pc36_c4 : PCode := .skip
def pc36_c5 : PCode := .exit 0
def pc36_c6 : PCode := .cond (.tmp 7) pc36_c4 pc36_c5
def pc36_c7 : PCode := .seq pc36_c3 pc36_c6
def pc36_o8 : List POper := [zo 10 (.mv (.tmp 0)),
  zo 11 (.mv (.tmp 3)),
  zo 12 (.iaddrS 11 (.tmp 10) (.tmp 11)),
  zo 13 (.load true 11 (.tmp 12)),
  zo 14 (.call true [[]] 75 [.tmp 13]),
  zo 15 (.prim (.un .not) [.tmp 14])]
def pc36_c8 : PCode := .region none false pc36_o8
def pc36_o9 : List POper := [zo 2 (.mv (.const (.bool false)))]
def pc36_c9 : PCode := .region none false pc36_o9
def pc36_c10 : PCode := .ret
def pc36_c11 : PCode := .seq pc36_c9 pc36_c10
def pc36_c12 : PCode := .skip
def pc36_c13 : PCode := .cond (.tmp 15) pc36_c11 pc36_c12
def pc36_c14 : PCode := .seq pc36_c8 pc36_c13
def pc36_c15 : PCode := .block 1 pc36_c14
def pc36_o16 : List POper := [zo 8 (.mv (.tmp 3)),
  zo 9 (.prim (.bin .add 3 false true) [.tmp 8, .const (.int .i64 1)]),
  zo 3 (.mv (.tmp 9))]
def pc36_c16 : PCode := .region none false pc36_o16
def pc36_c17 : PCode := .seq pc36_c15 pc36_c16
def pc36_c18 : PCode := .seq pc36_c7 pc36_c17
def pc36_c19 : PCode := .loop pc36_c18
def pc36_c20 : PCode := .block 0 pc36_c19
def pc36_c21 : PCode := .seq pc36_c2 pc36_c20
def pc36_o22 : List POper := [zo 16 (.mv (.tmp 0)),
  zo 17 (.lenS (.tmp 16)),
  zo 18 (.prim (.bin .leq 3 false true) [.tmp 17, .const (.int .i64 30)]),
  zo 2 (.mv (.tmp 18))]
def pc36_c22 : PCode := .region none false pc36_o22
def pc36_c23 : PCode := .ret
def pc36_c24 : PCode := .seq pc36_c22 pc36_c23
def pc36_c25 : PCode := .seq pc36_c21 pc36_c24
def pc36_c26 : PCode := .seq pc36_c1 pc36_c25
def pc36_r : List PRes := [PRes.tmp 2 []]
def pc36 : PFunc := ⟨19, pc36_r, pc36_c26, false⟩
def pc36_a : Ann := {
  kr := fun
    | 2 => some ([0, 3], [], [])
    | _ => none
  ka := fun
    | _ => 0
  kh := fun
    | _ => none
  ow := fun t => match t with
    | 96 => [(1, 5, 1)]
    | _ => []
  tc := fun t => match t with
    | 96 => true
    | _ => false }
theorem pc36_ok : compFn Try.prog pc36_a Try.f36 = some pc36 := by kernel_rfl


-- 58: vedette/vedetteref3.On
def pc58_o1 : List POper := [zo 1 (.box 23 (.tmp 0) []),
  zo 2 (.mv (.const (.bool false)))]
def pc58_c1 : PCode := .region none false pc58_o1
def pc58_o2 : List POper := [zo 3 (.faddr 0 (.tmp 1)),
  zo 4 (.load false 1 (.tmp 3)),
  zo 5 (.prim (.bin .geq 3 false true) [.tmp 4, .const (.int .i64 0)]),
  zo 6 (.mv (.tmp 5)),
  ⟨some 7, .faddr 0 (.tmp 1), some (6, true), []⟩,
  ⟨some 8, .load false 1 (.tmp 7), some (6, true), []⟩,
  ⟨some 9, .prim (.bin .lss 3 false true) [.tmp 8, .const (.int .i64 64)], some (6, true), []⟩,
  zo 10 (.pick (.tmp 6) (.tmp 9) (.const (.bool false))),
  zo 11 (.mv (.tmp 10)),
  ⟨some 12, .faddr 1 (.tmp 1), some (11, true), []⟩,
  ⟨some 13, .load false 1 (.tmp 12), some (11, true), []⟩,
  ⟨some 14, .prim (.bin .geq 3 false true) [.tmp 13, .const (.int .i64 0)], some (11, true), []⟩,
  zo 15 (.pick (.tmp 11) (.tmp 14) (.const (.bool false))),
  zo 16 (.mv (.tmp 15)),
  ⟨some 17, .faddr 1 (.tmp 1), some (16, true), []⟩,
  ⟨some 18, .load false 1 (.tmp 17), some (16, true), []⟩,
  ⟨some 19, .prim (.bin .lss 3 false true) [.tmp 18, .const (.int .i64 64)], some (16, true), []⟩,
  zo 20 (.pick (.tmp 16) (.tmp 19) (.const (.bool false))),
  zo 2 (.mv (.tmp 20))]
def pc58_c2 : PCode := .region none false pc58_o2
def pc58_c3 : PCode := .ret
def pc58_c4 : PCode := .seq pc58_c2 pc58_c3
def pc58_c5 : PCode := .seq pc58_c1 pc58_c4
def pc58_r : List PRes := [PRes.tmp 2 []]
def pc58 : PFunc := ⟨21, pc58_r, pc58_c5, false⟩
def pc58_a : Ann := {
  kr := fun
    | _ => none
  ka := fun
    | _ => 0
  kh := fun
    | _ => none
  ow := fun t => match t with
    | 96 => [(1, 5, 1)]
    | _ => []
  tc := fun t => match t with
    | 96 => true
    | _ => false }
theorem pc58_ok : compFn Try.prog pc58_a Try.f58 = some pc58 := by kernel_rfl


-- 59: vedette/vedetteref6.IsField
def pc59_o1 : List POper := [zo 1 (.box 25 (.tmp 0) []),
  zo 2 (.mv (.const (.bool false)))]
def pc59_c1 : PCode := .region none false pc59_o1
def pc59_o2 : List POper := [zo 3 (.faddr 0 (.tmp 1)),
  zo 4 (.load false 1 (.tmp 3)),
  zo 5 (.prim (.bin .eql 2 false true) [.tmp 4, .const (.int .i64 0)]),
  zo 6 (.mv (.tmp 5)),
  ⟨some 7, .faddr 1 (.tmp 1), some (6, false), []⟩,
  ⟨some 8, .load false 1 (.tmp 7), some (6, false), []⟩,
  ⟨some 9, .prim (.bin .eql 9 false true) [.tmp 8, .const (.string { data := { toList := [] } })], some (6, false), []⟩,
  zo 10 (.pick (.tmp 6) (.const (.bool true)) (.tmp 9)),
  zo 11 (.mv (.tmp 10)),
  ⟨some 12, .faddr 1 (.tmp 1), some (11, true), []⟩,
  ⟨some 13, .load false 1 (.tmp 12), some (11, true), []⟩,
  ⟨some 14, .prim (.len 9) [.tmp 13], some (11, true), []⟩,
  ⟨some 15, .prim (.bin .leq 3 false true) [.tmp 14, .const (.int .i64 12)], some (11, true), []⟩,
  zo 16 (.pick (.tmp 11) (.tmp 15) (.const (.bool false))),
  zo 2 (.mv (.tmp 16))]
def pc59_c2 : PCode := .region none false pc59_o2
def pc59_c3 : PCode := .ret
def pc59_c4 : PCode := .seq pc59_c2 pc59_c3
def pc59_c5 : PCode := .seq pc59_c1 pc59_c4
def pc59_r : List PRes := [PRes.tmp 2 []]
def pc59 : PFunc := ⟨17, pc59_r, pc59_c5, false⟩
def pc59_a : Ann := {
  kr := fun
    | _ => none
  ka := fun
    | _ => 0
  kh := fun
    | _ => none
  ow := fun t => match t with
    | 96 => [(1, 5, 1)]
    | _ => []
  tc := fun t => match t with
    | 96 => true
    | _ => false }
theorem pc59_ok : compFn Try.prog pc59_a Try.f59 = some pc59 := by kernel_rfl


-- 18: vedette/vedetteref6.Is
def pc18_o1 : List POper := [zo 1 (.box 28 (.tmp 0) []),
  zo 2 (.mv (.const (.bool false)))]
def pc18_c1 : PCode := .region none false pc18_o1
def pc18_o2 : List POper := [zo 5 (.faddr 0 (.tmp 1)),
  zo 6 (.load false 1 (.tmp 5)),
  zo 7 (.prim (.bin .geq 3 false true) [.tmp 6, .const (.int .i64 0)]),
  zo 8 (.mv (.tmp 7)),
  ⟨some 9, .faddr 0 (.tmp 1), some (8, true), []⟩,
  ⟨some 10, .load false 1 (.tmp 9), some (8, true), []⟩,
  ⟨some 11, .prim (.bin .leq 3 false true) [.tmp 10, .const (.int .i64 1000000)], some (8, true), []⟩,
  zo 12 (.pick (.tmp 8) (.tmp 11) (.const (.bool false))),
  zo 13 (.mv (.tmp 12)),
  ⟨some 14, .faddr 1 (.tmp 1), some (13, true), []⟩,
  ⟨some 15, .load true 2 (.tmp 14), some (13, true), []⟩,
  ⟨some 16, .call true [[]] 58 [.tmp 15], some (13, true), []⟩,
  zo 17 (.pick (.tmp 13) (.tmp 16) (.const (.bool false))),
  zo 3 (.mv (.tmp 17))]
def pc18_c2 : PCode := .region none false pc18_o2
def pc18_o3 : List POper := [zo 4 (.mv (.const (.int .i64 0)))]
def pc18_c3 : PCode := .region (some ([1, 3], [1], [])) false pc18_o3
def pc18_o4 : List POper := [zo 18 (.mv (.tmp 4)),
  zo 19 (.prim (.bin .lss 3 false true) [.tmp 18, .const (.int .i64 4)])]
def pc18_c4 : PCode := .region (some ([1, 3, 4], [1], [])) false pc18_o4
def pc18_c5 : PCode := .skip
def pc18_c6 : PCode := .exit 0
def pc18_c7 : PCode := .cond (.tmp 19) pc18_c5 pc18_c6
def pc18_c8 : PCode := .seq pc18_c4 pc18_c7
def pc18_o9 : List POper := [zo 22 (.mv (.tmp 3)),
  zo 23 (.mv (.tmp 22)),
  ⟨some 24, .mv (.tmp 4), some (23, true), []⟩,
  ⟨some 25, .faddr 3 (.tmp 1), some (23, true), []⟩,
  ⟨some 26, .iaddrA 4 2 (.tmp 25) (.tmp 24), some (23, true), []⟩,
  ⟨some 27, .load true 2 (.tmp 26), some (23, true), []⟩,
  ⟨some 28, .call true [[]] 59 [.tmp 27], some (23, true), []⟩,
  zo 29 (.pick (.tmp 23) (.tmp 28) (.const (.bool false))),
  zo 3 (.mv (.tmp 29))]
def pc18_c9 : PCode := .region none false pc18_o9
def pc18_c10 : PCode := .block 1 pc18_c9
def pc18_o11 : List POper := [zo 20 (.mv (.tmp 4)),
  zo 21 (.prim (.bin .add 3 false true) [.tmp 20, .const (.int .i64 1)]),
  zo 4 (.mv (.tmp 21))]
def pc18_c11 : PCode := .region none false pc18_o11
def pc18_c12 : PCode := .seq pc18_c10 pc18_c11
def pc18_c13 : PCode := .seq pc18_c8 pc18_c12
def pc18_c14 : PCode := .loop pc18_c13
def pc18_c15 : PCode := .block 0 pc18_c14
def pc18_c16 : PCode := .seq pc18_c3 pc18_c15
def pc18_o17 : List POper := [zo 30 (.mv (.tmp 3)),
  zo 2 (.mv (.tmp 30))]
def pc18_c17 : PCode := .region none false pc18_o17
def pc18_c18 : PCode := .ret
def pc18_c19 : PCode := .seq pc18_c17 pc18_c18
def pc18_c20 : PCode := .seq pc18_c16 pc18_c19
def pc18_c21 : PCode := .seq pc18_c2 pc18_c20
def pc18_c22 : PCode := .seq pc18_c1 pc18_c21
def pc18_r : List PRes := [PRes.tmp 2 []]
def pc18 : PFunc := ⟨31, pc18_r, pc18_c22, false⟩
def pc18_a : Ann := {
  kr := fun
    | 2 => some ([1, 3], [1], [])
    | 3 => some ([1, 3, 4], [1], [])
    | _ => none
  ka := fun
    | _ => 0
  kh := fun
    | _ => none
  ow := fun t => match t with
    | 96 => [(1, 5, 1)]
    | _ => []
  tc := fun t => match t with
    | 96 => true
    | _ => false }
theorem pc18_ok : compFn Try.prog pc18_a Try.f18 = some pc18 := by kernel_rfl


-- 37: vedette/vedettelaw16.rising
def pc37_o1 : List POper := [zo 2 (.mv (.const (.bool false)))]
def pc37_c1 : PCode := .region none false pc37_o1
def pc37_o2 : List POper := [zo 3 (.mv (.const (.int .i64 0)))]
def pc37_c2 : PCode := .region none false pc37_o2
def pc37_o3 : List POper := [zo 4 (.mv (.tmp 3)),
  zo 5 (.mv (.tmp 0)),
  zo 6 (.lenS (.tmp 5)),
  zo 7 (.prim (.bin .lss 3 false false) [.tmp 4, .tmp 6])]
def pc37_c3 : PCode := .region (some ([0, 3], [], [])) false pc37_o3
def pc37_c4 : PCode := .skip
def pc37_c5 : PCode := .exit 0
def pc37_c6 : PCode := .cond (.tmp 7) pc37_c4 pc37_c5
def pc37_c7 : PCode := .seq pc37_c3 pc37_c6
def pc37_o8 : List POper := [⟨some 10, .mv (.tmp 0), none, [(0, .imm)]⟩,
  ⟨some 11, .mv (.tmp 3), none, [(3, .imm)]⟩,
  ⟨some 12, .iaddrS 11 (.tmp 10) (.tmp 11), none, [(10, .imm), (11, .imm)]⟩,
  ⟨some 13, .load true 11 (.tmp 12), none, [(12, .imm)]⟩,
  ⟨some 14, .call false [[]] 18 [.tmp 13], none, [(13, .imm)]⟩,
  ⟨some 15, .prim (.un .not) [.tmp 14], none, [(14, .imm)]⟩,
  ⟨some 16, .mv (.tmp 15), none, [(15, .imm)]⟩,
  ⟨some 17, .mv (.tmp 3), some (16, false), [(3, .imm)]⟩,
  ⟨some 18, .prim (.bin .gtr 3 false true) [.tmp 17, .const (.int .i64 0)], some (16, false), [(17, .imm)]⟩,
  ⟨some 19, .mv (.tmp 18), some (16, false), [(18, .imm)]⟩,
  ⟨some 20, .mv (.tmp 0), some (19, true), [(0, .imm)]⟩,
  ⟨some 21, .mv (.tmp 3), some (19, true), [(3, .imm)]⟩,
  ⟨some 22, .iaddrS 11 (.tmp 20) (.tmp 21), some (19, true), [(20, .imm), (21, .imm)]⟩,
  ⟨some 23, .faddr 0 (.tmp 22), some (19, true), [(22, .imm)]⟩,
  ⟨some 24, .load false 1 (.tmp 23), some (19, true), [(23, .imm)]⟩,
  ⟨some 25, .mv (.tmp 0), some (19, true), [(0, .imm)]⟩,
  ⟨some 26, .mv (.tmp 3), some (19, true), [(3, .imm)]⟩,
  ⟨some 27, .prim (.bin .sub 3 false true) [.tmp 26, .const (.int .i64 1)], some (19, true), [(26, .imm)]⟩,
  ⟨some 28, .iaddrS 11 (.tmp 25) (.tmp 27), some (19, true), [(25, .imm), (27, .imm)]⟩,
  ⟨some 29, .faddr 0 (.tmp 28), some (19, true), [(28, .imm)]⟩,
  ⟨some 30, .load false 1 (.tmp 29), some (19, true), [(29, .imm)]⟩,
  ⟨some 31, .prim (.bin .leq 3 false false) [.tmp 24, .tmp 30], some (19, true), [(24, .imm), (30, .imm)]⟩,
  ⟨some 32, .pick (.tmp 19) (.tmp 31) (.const (.bool false)), some (16, false), [(19, .imm), (31, .imm)]⟩,
  ⟨some 33, .pick (.tmp 16) (.const (.bool true)) (.tmp 32), none, [(16, .imm), (32, .imm)]⟩]
def pc37_c8 : PCode := .region none true pc37_o8
def pc37_o9 : List POper := [zo 2 (.mv (.const (.bool false)))]
def pc37_c9 : PCode := .region none false pc37_o9
def pc37_c10 : PCode := .ret
def pc37_c11 : PCode := .seq pc37_c9 pc37_c10
def pc37_c12 : PCode := .skip
def pc37_c13 : PCode := .cond (.tmp 33) pc37_c11 pc37_c12
def pc37_c14 : PCode := .seq pc37_c8 pc37_c13
def pc37_c15 : PCode := .block 1 pc37_c14
def pc37_o16 : List POper := [zo 8 (.mv (.tmp 3)),
  zo 9 (.prim (.bin .add 3 false true) [.tmp 8, .const (.int .i64 1)]),
  zo 3 (.mv (.tmp 9))]
def pc37_c16 : PCode := .region none false pc37_o16
def pc37_c17 : PCode := .seq pc37_c15 pc37_c16
def pc37_c18 : PCode := .seq pc37_c7 pc37_c17
def pc37_c19 : PCode := .loop pc37_c18
def pc37_c20 : PCode := .block 0 pc37_c19
def pc37_c21 : PCode := .seq pc37_c2 pc37_c20
def pc37_o22 : List POper := [zo 2 (.mv (.const (.bool true)))]
def pc37_c22 : PCode := .region none false pc37_o22
def pc37_c23 : PCode := .ret
def pc37_c24 : PCode := .seq pc37_c22 pc37_c23
def pc37_c25 : PCode := .seq pc37_c21 pc37_c24
def pc37_c26 : PCode := .seq pc37_c1 pc37_c25
def pc37_r : List PRes := [PRes.tmp 2 []]
def pc37 : PFunc := ⟨34, pc37_r, pc37_c26, false⟩
def pc37_a : Ann := {
  kr := fun
    | 2 => some ([0, 3], [], [])
    | _ => none
  ka := fun
    | _ => 0
  kh := fun
    | 0 => some (.imm)
    | 3 => some (.imm)
    | 10 => some (.imm)
    | 11 => some (.imm)
    | 12 => some (.imm)
    | 13 => some (.imm)
    | 14 => some (.imm)
    | 15 => some (.imm)
    | 16 => some (.imm)
    | 17 => some (.imm)
    | 18 => some (.imm)
    | 19 => some (.imm)
    | 20 => some (.imm)
    | 21 => some (.imm)
    | 22 => some (.imm)
    | 23 => some (.imm)
    | 24 => some (.imm)
    | 25 => some (.imm)
    | 26 => some (.imm)
    | 27 => some (.imm)
    | 28 => some (.imm)
    | 29 => some (.imm)
    | 30 => some (.imm)
    | 31 => some (.imm)
    | 32 => some (.imm)
    | _ => none
  ow := fun t => match t with
    | 96 => [(1, 5, 1)]
    | _ => []
  tc := fun t => match t with
    | 96 => true
    | _ => false }
theorem pc37_ok : compFn Try.prog pc37_a Try.f37 = some pc37 := by kernel_rfl


-- 67: vedette/geom.On
def pc67_o1 : List POper := [zo 1 (.box 23 (.tmp 0) []),
  zo 2 (.mv (.const (.bool false)))]
def pc67_c1 : PCode := .region none false pc67_o1
def pc67_o2 : List POper := [zo 3 (.faddr 0 (.tmp 1)),
  zo 4 (.load false 1 (.tmp 3)),
  zo 5 (.prim (.bin .geq 3 false true) [.tmp 4, .const (.int .i64 0)]),
  zo 6 (.mv (.tmp 5)),
  ⟨some 7, .faddr 0 (.tmp 1), some (6, true), []⟩,
  ⟨some 8, .load false 1 (.tmp 7), some (6, true), []⟩,
  ⟨some 9, .prim (.bin .lss 3 false true) [.tmp 8, .const (.int .i64 64)], some (6, true), []⟩,
  zo 10 (.pick (.tmp 6) (.tmp 9) (.const (.bool false))),
  zo 11 (.mv (.tmp 10)),
  ⟨some 12, .faddr 1 (.tmp 1), some (11, true), []⟩,
  ⟨some 13, .load false 1 (.tmp 12), some (11, true), []⟩,
  ⟨some 14, .prim (.bin .geq 3 false true) [.tmp 13, .const (.int .i64 0)], some (11, true), []⟩,
  zo 15 (.pick (.tmp 11) (.tmp 14) (.const (.bool false))),
  zo 16 (.mv (.tmp 15)),
  ⟨some 17, .faddr 1 (.tmp 1), some (16, true), []⟩,
  ⟨some 18, .load false 1 (.tmp 17), some (16, true), []⟩,
  ⟨some 19, .prim (.bin .lss 3 false true) [.tmp 18, .const (.int .i64 64)], some (16, true), []⟩,
  zo 20 (.pick (.tmp 16) (.tmp 19) (.const (.bool false))),
  zo 2 (.mv (.tmp 20))]
def pc67_c2 : PCode := .region none false pc67_o2
def pc67_c3 : PCode := .ret
def pc67_c4 : PCode := .seq pc67_c2 pc67_c3
def pc67_c5 : PCode := .seq pc67_c1 pc67_c4
def pc67_r : List PRes := [PRes.tmp 2 []]
def pc67 : PFunc := ⟨21, pc67_r, pc67_c5, false⟩
def pc67_a : Ann := {
  kr := fun
    | _ => none
  ka := fun
    | _ => 0
  kh := fun
    | _ => none
  ow := fun t => match t with
    | 96 => [(1, 5, 1)]
    | _ => []
  tc := fun t => match t with
    | 96 => true
    | _ => false }
theorem pc67_ok : compFn Try.prog pc67_a Try.f67 = some pc67 := by kernel_rfl


-- 70: vedette/fields.IsField
def pc70_o1 : List POper := [zo 1 (.box 25 (.tmp 0) []),
  zo 2 (.mv (.const (.bool false)))]
def pc70_c1 : PCode := .region none false pc70_o1
def pc70_o2 : List POper := [zo 3 (.faddr 0 (.tmp 1)),
  zo 4 (.load false 1 (.tmp 3)),
  zo 5 (.prim (.bin .eql 2 false true) [.tmp 4, .const (.int .i64 0)]),
  zo 6 (.mv (.tmp 5)),
  ⟨some 7, .faddr 1 (.tmp 1), some (6, false), []⟩,
  ⟨some 8, .load false 1 (.tmp 7), some (6, false), []⟩,
  ⟨some 9, .prim (.bin .eql 9 false true) [.tmp 8, .const (.string { data := { toList := [] } })], some (6, false), []⟩,
  zo 10 (.pick (.tmp 6) (.const (.bool true)) (.tmp 9)),
  zo 11 (.mv (.tmp 10)),
  ⟨some 12, .faddr 1 (.tmp 1), some (11, true), []⟩,
  ⟨some 13, .load false 1 (.tmp 12), some (11, true), []⟩,
  ⟨some 14, .prim (.len 9) [.tmp 13], some (11, true), []⟩,
  ⟨some 15, .prim (.bin .leq 3 false true) [.tmp 14, .const (.int .i64 12)], some (11, true), []⟩,
  zo 16 (.pick (.tmp 11) (.tmp 15) (.const (.bool false))),
  zo 2 (.mv (.tmp 16))]
def pc70_c2 : PCode := .region none false pc70_o2
def pc70_c3 : PCode := .ret
def pc70_c4 : PCode := .seq pc70_c2 pc70_c3
def pc70_c5 : PCode := .seq pc70_c1 pc70_c4
def pc70_r : List PRes := [PRes.tmp 2 []]
def pc70 : PFunc := ⟨17, pc70_r, pc70_c5, false⟩
def pc70_a : Ann := {
  kr := fun
    | _ => none
  ka := fun
    | _ => 0
  kh := fun
    | _ => none
  ow := fun t => match t with
    | 96 => [(1, 5, 1)]
    | _ => []
  tc := fun t => match t with
    | 96 => true
    | _ => false }
theorem pc70_ok : compFn Try.prog pc70_a Try.f70 = some pc70 := by kernel_rfl


-- 69: vedette/thing.Is$1
def pc69_o1 : List POper := [zo 1 (.box 25 (.tmp 0) []),
  zo 2 (.mv (.const (.bool false)))]
def pc69_c1 : PCode := .region none false pc69_o1
def pc69_o2 : List POper := [zo 3 (.load true 2 (.tmp 1)),
  zo 4 (.call true [[]] 70 [.tmp 3]),
  zo 5 (.prim (.un .not) [.tmp 4]),
  zo 2 (.mv (.tmp 5))]
def pc69_c2 : PCode := .region none false pc69_o2
def pc69_c3 : PCode := .ret
def pc69_c4 : PCode := .seq pc69_c2 pc69_c3
def pc69_c5 : PCode := .seq pc69_c1 pc69_c4
def pc69_r : List PRes := [PRes.tmp 2 []]
def pc69 : PFunc := ⟨6, pc69_r, pc69_c5, false⟩
def pc69_a : Ann := {
  kr := fun
    | _ => none
  ka := fun
    | _ => 0
  kh := fun
    | _ => none
  ow := fun t => match t with
    | 96 => [(1, 5, 1)]
    | _ => []
  tc := fun t => match t with
    | 96 => true
    | _ => false }
theorem pc69_ok : compFn Try.prog pc69_a Try.f69 = some pc69 := by kernel_rfl


-- 103: slices.IndexFunc[[]vedette/api.Field,vedette/api.Field]
def pc103_o1 : List POper := [zo 4 (.mv (.const (.int .i64 0)))]
def pc103_c1 : PCode := .region none false pc103_o1
def pc103_o2 : List POper := [zo 6 (.mv (.tmp 0)),
  zo 7 (.lenS (.tmp 6)),
  zo 8 (.mv (.const (.int .i64 0)))]
def pc103_c2 : PCode := .region none false pc103_o2
def pc103_o3 : List POper := [zo 9 (.prim (.bin .lss 3 false false) [.tmp 8, .tmp 7])]
def pc103_c3 : PCode := .region (some ([0, 1, 7, 8], [], [])) false pc103_o3
def pc103_c4 : PCode := .skip
def pc103_c5 : PCode := .exit 0
def pc103_c6 : PCode := .cond (.tmp 9) pc103_c4 pc103_c5
def pc103_o7 : List POper := [zo 10 (.mv (.tmp 8)),
  zo 5 (.mv (.tmp 10))]
def pc103_c7 : PCode := .region none false pc103_o7
def pc103_o8 : List POper := [zo 11 (.mv (.tmp 1)),
  zo 12 (.mv (.tmp 0)),
  zo 13 (.mv (.tmp 5)),
  zo 14 (.iaddrS 2 (.tmp 12) (.tmp 13)),
  zo 15 (.load true 2 (.tmp 14)),
  zo 16 (.callv true [[]] (.tmp 11) [.tmp 15])]
def pc103_c8 : PCode := .region none false pc103_o8
def pc103_o9 : List POper := [zo 17 (.mv (.tmp 5)),
  zo 4 (.mv (.tmp 17))]
def pc103_c9 : PCode := .region none false pc103_o9
def pc103_c10 : PCode := .ret
def pc103_c11 : PCode := .seq pc103_c9 pc103_c10
def pc103_c12 : PCode := .skip
def pc103_c13 : PCode := .cond (.tmp 16) pc103_c11 pc103_c12
def pc103_c14 : PCode := .seq pc103_c8 pc103_c13
def pc103_c15 : PCode := .seq pc103_c7 pc103_c14
def pc103_c16 : PCode := .block 1 pc103_c15
def pc103_o17 : List POper := [zo 18 (.prim (.bin .add 3 false true) [.tmp 8, .const (.int .i64 1)]),
  zo 8 (.mv (.tmp 18))]
def pc103_c17 : PCode := .region none false pc103_o17
def pc103_c18 : PCode := .seq pc103_c16 pc103_c17
def pc103_c19 : PCode := .seq pc103_c6 pc103_c18
def pc103_c20 : PCode := .seq pc103_c3 pc103_c19
def pc103_c21 : PCode := .loop pc103_c20
def pc103_c22 : PCode := .block 0 pc103_c21
def pc103_c23 : PCode := .seq pc103_c2 pc103_c22
def pc103_o24 : List POper := [zo 4 (.mv (.const (.int .i64 (-1))))]
def pc103_c24 : PCode := .region none false pc103_o24
def pc103_c25 : PCode := .ret
def pc103_c26 : PCode := .seq pc103_c24 pc103_c25
def pc103_c27 : PCode := .seq pc103_c23 pc103_c26
def pc103_c28 : PCode := .seq pc103_c1 pc103_c27
def pc103_r : List PRes := [PRes.tmp 4 []]
def pc103 : PFunc := ⟨19, pc103_r, pc103_c28, false⟩
def pc103_a : Ann := {
  kr := fun
    | 2 => some ([0, 1, 7, 8], [], [])
    | _ => none
  ka := fun
    | _ => 0
  kh := fun
    | _ => none
  ow := fun t => match t with
    | 96 => [(1, 5, 1)]
    | _ => []
  tc := fun t => match t with
    | 96 => true
    | _ => false }
theorem pc103_ok : compFn Try.prog pc103_a Try.f103 = some pc103 := by kernel_rfl


-- 68: slices.ContainsFunc[[]vedette/api.Field,vedette/api.Field]
def pc68_o1 : List POper := [zo 4 (.mv (.const (.bool false)))]
def pc68_c1 : PCode := .region none false pc68_o1
def pc68_o2 : List POper := [zo 5 (.mv (.tmp 0)),
  zo 6 (.mv (.tmp 1)),
  zo 7 (.gcall false false [300000, 300001, 300002, 300003, 300004, 300005, 300006, 300007] [[(0, 2)], []] 103 [.tmp 5, .tmp 6]),
  zo 8 (.prim (.bin .geq 3 false true) [.tmp 7, .const (.int .i64 0)]),
  zo 4 (.mv (.tmp 8))]
def pc68_c2 : PCode := .region none false pc68_o2
def pc68_c3 : PCode := .ret
def pc68_c4 : PCode := .seq pc68_c2 pc68_c3
def pc68_c5 : PCode := .seq pc68_c1 pc68_c4
def pc68_r : List PRes := [PRes.tmp 4 []]
def pc68 : PFunc := ⟨9, pc68_r, pc68_c5, false⟩
def pc68_a : Ann := {
  kr := fun
    | _ => none
  ka := fun
    | _ => 0
  kh := fun
    | _ => none
  gf := fun d f => match d, f with
    | some 7, 103 => some (false, false, [300000, 300001, 300002, 300003, 300004, 300005, 300006, 300007])
    | _, _ => none
  ow := fun t => match t with
    | 96 => [(1, 5, 1)]
    | _ => []
  tc := fun t => match t with
    | 96 => true
    | _ => false }
theorem pc68_ok : compFn Try.prog pc68_a Try.f68 = some pc68 := by kernel_rfl


-- 24: vedette/thing.Is
def pc24_o1 : List POper := [zo 1 (.box 28 (.tmp 0) []),
  zo 2 (.mv (.const (.bool false)))]
def pc24_c1 : PCode := .region none false pc24_o1
def pc24_o2 : List POper := [zo 3 (.faddr 0 (.tmp 1)),
  zo 4 (.load false 1 (.tmp 3)),
  zo 5 (.prim (.bin .geq 3 false true) [.tmp 4, .const (.int .i64 0)]),
  zo 6 (.mv (.tmp 5)),
  ⟨some 7, .faddr 0 (.tmp 1), some (6, true), []⟩,
  ⟨some 8, .load false 1 (.tmp 7), some (6, true), []⟩,
  ⟨some 9, .prim (.bin .leq 3 false true) [.tmp 8, .const (.int .i64 1000000)], some (6, true), []⟩,
  zo 10 (.pick (.tmp 6) (.tmp 9) (.const (.bool false))),
  zo 11 (.mv (.tmp 10)),
  ⟨some 12, .faddr 1 (.tmp 1), some (11, true), []⟩,
  ⟨some 13, .load true 2 (.tmp 12), some (11, true), []⟩,
  ⟨some 14, .call true [[]] 67 [.tmp 13], some (11, true), []⟩,
  zo 15 (.pick (.tmp 11) (.tmp 14) (.const (.bool false))),
  zo 16 (.mv (.tmp 15)),
  ⟨some 17, .faddr 3 (.tmp 1), some (16, true), []⟩,
  ⟨some 18, .slcA 4 2 (.tmp 17) none none, some (16, true), []⟩,
  ⟨some 19, .gcall false false [1, 300000, 300001, 300002, 300003, 300004, 300005, 300006, 300007] [[(0, 2)], []] 68 [.tmp 18, .func 69], some (16, true), []⟩,
  ⟨some 20, .prim (.un .not) [.tmp 19], some (16, true), []⟩,
  zo 21 (.pick (.tmp 16) (.tmp 20) (.const (.bool false))),
  zo 2 (.mv (.tmp 21))]
def pc24_c2 : PCode := .region none false pc24_o2
def pc24_c3 : PCode := .ret
def pc24_c4 : PCode := .seq pc24_c2 pc24_c3
def pc24_c5 : PCode := .seq pc24_c1 pc24_c4
def pc24_r : List PRes := [PRes.tmp 2 []]
def pc24 : PFunc := ⟨22, pc24_r, pc24_c5, false⟩
def pc24_a : Ann := {
  kr := fun
    | _ => none
  ka := fun
    | _ => 0
  kh := fun
    | _ => none
  gf := fun d f => match d, f with
    | some 19, 68 => some (false, false, [1, 300000, 300001, 300002, 300003, 300004, 300005, 300006, 300007])
    | _, _ => none
  ow := fun t => match t with
    | 96 => [(1, 5, 1)]
    | _ => []
  tc := fun t => match t with
    | 96 => true
    | _ => false }
theorem pc24_ok : compFn Try.prog pc24_a Try.f24 = some pc24 := by kernel_rfl


-- 99: vedette/fields.has
def pc99_o1 : List POper := [zo 4 (.mv (.const (.bool false)))]
def pc99_c1 : PCode := .region none false pc99_o1
def pc99_o2 : List POper := [zo 5 (.mv (.tmp 0)),
  zo 6 (.mv (.tmp 1)),
  zo 7 (.prim (.bin .add 3 false true) [.tmp 6, .const (.int .i64 1)]),
  zo 8 (.prim (.bin .shr 5 false false) [.tmp 5, .tmp 7]),
  zo 9 (.prim (.bin .and 5 false true) [.tmp 8, .const (.int .u8 1)]),
  zo 10 (.prim (.bin .eql 5 false true) [.tmp 9, .const (.int .u8 1)]),
  zo 4 (.mv (.tmp 10))]
def pc99_c2 : PCode := .region none false pc99_o2
def pc99_c3 : PCode := .ret
def pc99_c4 : PCode := .seq pc99_c2 pc99_c3
def pc99_c5 : PCode := .seq pc99_c1 pc99_c4
def pc99_r : List PRes := [PRes.tmp 4 []]
def pc99 : PFunc := ⟨11, pc99_r, pc99_c5, false⟩
def pc99_a : Ann := {
  kr := fun
    | _ => none
  ka := fun
    | _ => 0
  kh := fun
    | _ => none
  ow := fun t => match t with
    | 96 => [(1, 5, 1)]
    | _ => []
  tc := fun t => match t with
    | 96 => true
    | _ => false }
theorem pc99_ok : compFn Try.prog pc99_a Try.f99 = some pc99 := by kernel_rfl


-- 77: vedette/fields.IsDelta
def pc77_o1 : List POper := [zo 1 (.box 35 (.tmp 0) []),
  zo 2 (.mv (.const (.bool false)))]
def pc77_c1 : PCode := .region none false pc77_o1
def pc77_o2 : List POper := [zo 5 (.faddr 0 (.tmp 1)),
  zo 6 (.load false 1 (.tmp 5)),
  zo 7 (.prim (.bin .lss 3 false true) [.tmp 6, .const (.int .i64 0)]),
  zo 8 (.mv (.tmp 7)),
  ⟨some 9, .faddr 0 (.tmp 1), some (8, false), []⟩,
  ⟨some 10, .load false 1 (.tmp 9), some (8, false), []⟩,
  ⟨some 11, .prim (.bin .gtr 3 false true) [.tmp 10, .const (.int .i64 1000000)], some (8, false), []⟩,
  zo 12 (.pick (.tmp 8) (.const (.bool true)) (.tmp 11)),
  zo 13 (.mv (.tmp 12)),
  ⟨some 14, .faddr 1 (.tmp 1), some (13, false), []⟩,
  ⟨some 15, .load false 1 (.tmp 14), some (13, false), []⟩,
  ⟨some 16, .prim (.bin .eql 5 false true) [.tmp 15, .const (.int .u8 0)], some (13, false), []⟩,
  zo 17 (.pick (.tmp 13) (.const (.bool true)) (.tmp 16)),
  zo 18 (.mv (.tmp 17)),
  ⟨some 19, .faddr 1 (.tmp 1), some (18, false), []⟩,
  ⟨some 20, .load false 1 (.tmp 19), some (18, false), []⟩,
  ⟨some 21, .prim (.bin .gtr 5 false true) [.tmp 20, .const (.int .u8 31)], some (18, false), []⟩,
  zo 22 (.pick (.tmp 18) (.const (.bool true)) (.tmp 21))]
def pc77_c2 : PCode := .region none false pc77_o2
def pc77_o3 : List POper := [zo 2 (.mv (.const (.bool false)))]
def pc77_c3 : PCode := .region none false pc77_o3
def pc77_c4 : PCode := .ret
def pc77_c5 : PCode := .seq pc77_c3 pc77_c4
def pc77_c6 : PCode := .skip
def pc77_c7 : PCode := .cond (.tmp 22) pc77_c5 pc77_c6
def pc77_c8 : PCode := .seq pc77_c2 pc77_c7
def pc77_o9 : List POper := [zo 23 (.faddr 1 (.tmp 1)),
  zo 24 (.load false 1 (.tmp 23)),
  zo 25 (.prim (.bin .and 5 false true) [.tmp 24, .const (.int .u8 1)]),
  zo 26 (.prim (.bin .eql 5 false true) [.tmp 25, .const (.int .u8 0)]),
  zo 27 (.mv (.tmp 26)),
  ⟨some 28, .faddr 2 (.tmp 1), some (27, true), []⟩,
  ⟨some 29, .load true 2 (.tmp 28), some (27, true), []⟩,
  ⟨some 30, .build (.agg { toList := [.int .i64 0, .int .i64 0] }) [], some (27, true), []⟩,
  ⟨some 31, .prim (.bin .neq 23 false false) [.tmp 29, .tmp 30], some (27, true), []⟩,
  zo 32 (.pick (.tmp 27) (.tmp 31) (.const (.bool false))),
  zo 33 (.mv (.tmp 32)),
  ⟨some 34, .faddr 2 (.tmp 1), some (33, false), []⟩,
  ⟨some 35, .load true 2 (.tmp 34), some (33, false), []⟩,
  ⟨some 36, .call true [[]] 67 [.tmp 35], some (33, false), []⟩,
  ⟨some 37, .prim (.un .not) [.tmp 36], some (33, false), []⟩,
  zo 38 (.pick (.tmp 33) (.const (.bool true)) (.tmp 37))]
def pc77_c9 : PCode := .region none false pc77_o9
def pc77_o10 : List POper := [zo 2 (.mv (.const (.bool false)))]
def pc77_c10 : PCode := .region none false pc77_o10
def pc77_c11 : PCode := .ret
def pc77_c12 : PCode := .seq pc77_c10 pc77_c11
def pc77_c13 : PCode := .skip
def pc77_c14 : PCode := .cond (.tmp 38) pc77_c12 pc77_c13
def pc77_c15 : PCode := .seq pc77_c9 pc77_c14
def pc77_o16 : List POper := [zo 39 (.faddr 4 (.tmp 1)),
  zo 40 (.load true 8 (.tmp 39)),
  zo 41 (.mv (.const (.int .i64 0)))]
def pc77_c16 : PCode := .region (some ([1], [1], [])) false pc77_o16
def pc77_o17 : List POper := [zo 42 (.prim (.bin .lss 3 false true) [.tmp 41, .const (.int .i64 4)])]
def pc77_c17 : PCode := .region (some ([1, 40, 41], [1, 4], [])) false pc77_o17
def pc77_c18 : PCode := .skip
def pc77_c19 : PCode := .exit 0
def pc77_c20 : PCode := .cond (.tmp 42) pc77_c18 pc77_c19
def pc77_o21 : List POper := [zo 43 (.mv (.tmp 41)),
  zo 44 (.idx true 2 4 (.tmp 40) (.tmp 41)),
  zo 4 (.alloc 25 (.agg { toList := [.int .i64 0, .string { data := { toList := [] } }] }) []),
  zo 3 (.mv (.tmp 43)),
  ⟨none, .store 2 (.tmp 4) (.tmp 44), none, []⟩]
def pc77_c21 : PCode := .region none false pc77_o21
def pc77_o22 : List POper := [zo 45 (.load true 2 (.tmp 4)),
  zo 46 (.call true [[]] 70 [.tmp 45]),
  zo 47 (.prim (.un .not) [.tmp 46]),
  zo 48 (.mv (.tmp 47)),
  ⟨some 49, .faddr 1 (.tmp 1), some (48, false), []⟩,
  ⟨some 50, .load false 1 (.tmp 49), some (48, false), []⟩,
  ⟨some 51, .mv (.tmp 3), some (48, false), []⟩,
  ⟨some 52, .call true [[], []] 99 [.tmp 50, .tmp 51], some (48, false), []⟩,
  ⟨some 53, .prim (.un .not) [.tmp 52], some (48, false), []⟩,
  ⟨some 54, .mv (.tmp 53), some (48, false), []⟩,
  ⟨some 55, .load true 2 (.tmp 4), some (54, true), []⟩,
  ⟨some 56, .build (.agg { toList := [.int .i64 0, .string { data := { toList := [] } }] }) [], some (54, true), []⟩,
  ⟨some 57, .prim (.bin .neq 25 false false) [.tmp 55, .tmp 56], some (54, true), []⟩,
  ⟨some 58, .pick (.tmp 54) (.tmp 57) (.const (.bool false)), some (48, false), []⟩,
  zo 59 (.pick (.tmp 48) (.const (.bool true)) (.tmp 58))]
def pc77_c22 : PCode := .region none false pc77_o22
def pc77_o23 : List POper := [zo 2 (.mv (.const (.bool false)))]
def pc77_c23 : PCode := .region none false pc77_o23
def pc77_c24 : PCode := .ret
def pc77_c25 : PCode := .seq pc77_c23 pc77_c24
def pc77_c26 : PCode := .skip
def pc77_c27 : PCode := .cond (.tmp 59) pc77_c25 pc77_c26
def pc77_c28 : PCode := .seq pc77_c22 pc77_c27
def pc77_c29 : PCode := .seq pc77_c21 pc77_c28
def pc77_c30 : PCode := .block 1 pc77_c29
def pc77_o31 : List POper := [zo 60 (.prim (.bin .add 3 false true) [.tmp 41, .const (.int .i64 1)]),
  zo 41 (.mv (.tmp 60))]
def pc77_c31 : PCode := .region none false pc77_o31
def pc77_c32 : PCode := .seq pc77_c30 pc77_c31
def pc77_c33 : PCode := .seq pc77_c20 pc77_c32
def pc77_c34 : PCode := .seq pc77_c17 pc77_c33
def pc77_c35 : PCode := .loop pc77_c34
def pc77_c36 : PCode := .block 0 pc77_c35
def pc77_c37 : PCode := .seq pc77_c16 pc77_c36
def pc77_o38 : List POper := [zo 2 (.mv (.const (.bool true)))]
def pc77_c38 : PCode := .region none false pc77_o38
def pc77_c39 : PCode := .ret
def pc77_c40 : PCode := .seq pc77_c38 pc77_c39
def pc77_c41 : PCode := .seq pc77_c37 pc77_c40
def pc77_c42 : PCode := .seq pc77_c15 pc77_c41
def pc77_c43 : PCode := .seq pc77_c8 pc77_c42
def pc77_c44 : PCode := .seq pc77_c1 pc77_c43
def pc77_r : List PRes := [PRes.tmp 2 []]
def pc77 : PFunc := ⟨61, pc77_r, pc77_c44, false⟩
def pc77_a : Ann := {
  kr := fun
    | 5 => some ([1], [1], [])
    | 6 => some ([1, 40, 41], [1, 4], [])
    | _ => none
  ka := fun
    | _ => 0
  kh := fun
    | _ => none
  ow := fun t => match t with
    | 96 => [(1, 5, 1)]
    | _ => []
  tc := fun t => match t with
    | 96 => true
    | _ => false }
theorem pc77_ok : compFn Try.prog pc77_a Try.f77 = some pc77 := by kernel_rfl


-- 39: vedette/event.Is
def pc39_o1 : List POper := [zo 1 (.box 67 (.tmp 0) []),
  zo 2 (.mv (.const (.bool false)))]
def pc39_c1 : PCode := .region none false pc39_o1
def pc39_o2 : List POper := [⟨some 5, .faddr 2 (.tmp 1), none, [(1, .at_ 1 0)]⟩,
  ⟨some 6, .load true 11 (.tmp 5), none, [(5, .at_ 1 2)]⟩,
  zo 7 (.build (.agg { toList := [.int .i64 0, .int .i64 0, .int .i64 0, .int .i64 0, .string { data := { toList := [] } }, .int .i64 0, .string { data := { toList := [] } }, .int .i64 0, .string { data := { toList := [] } }, .int .i64 0, .string { data := { toList := [] } }] }) []),
  ⟨some 8, .prim (.bin .eql 28 false false) [.tmp 6, .tmp 7], none, [(6, .imm), (7, .imm)]⟩,
  ⟨some 9, .faddr 13 (.tmp 1), none, [(1, .at_ 1 0)]⟩,
  ⟨some 10, .load true 12 (.tmp 9), none, [(9, .at_ 1 13)]⟩,
  zo 11 (.build (.agg { toList := [.int .i64 0, .int .u8 0, .int .i64 0, .int .i64 0, .int .i64 0, .string { data := { toList := [] } }, .int .i64 0, .string { data := { toList := [] } }, .int .i64 0, .string { data := { toList := [] } }, .int .i64 0, .string { data := { toList := [] } }] }) []),
  ⟨some 12, .prim (.bin .eql 35 false false) [.tmp 10, .tmp 11], none, [(10, .imm), (11, .imm)]⟩,
  ⟨some 3, .mv (.tmp 8), none, [(8, .imm)]⟩,
  ⟨some 4, .mv (.tmp 12), none, [(12, .imm)]⟩]
def pc39_c2 : PCode := .region none true pc39_o2
def pc39_o3 : List POper := [zo 13 (.faddr 0 (.tmp 1)),
  zo 14 (.load false 1 (.tmp 13))]
def pc39_c3 : PCode := .region none false pc39_o3
def pc39_o4 : List POper := [zo 16 (.prim (.bin .eql 3 false true) [.tmp 14, .const (.int .i64 1)]),
  zo 15 (.mv (.tmp 16))]
def pc39_c4 : PCode := .region none false pc39_o4
def pc39_o5 : List POper := [zo 17 (.faddr 2 (.tmp 1)),
  zo 18 (.load true 11 (.tmp 17)),
  zo 19 (.call true [[]] 24 [.tmp 18]),
  zo 20 (.mv (.tmp 19)),
  ⟨some 21, .faddr 1 (.tmp 1), some (20, true), []⟩,
  ⟨some 22, .load false 1 (.tmp 21), some (20, true), []⟩,
  ⟨some 23, .faddr 2 (.tmp 1), some (20, true), []⟩,
  ⟨some 24, .faddr 0 (.tmp 23), some (20, true), []⟩,
  ⟨some 25, .load false 1 (.tmp 24), some (20, true), []⟩,
  ⟨some 26, .prim (.bin .eql 3 false false) [.tmp 22, .tmp 25], some (20, true), []⟩,
  zo 27 (.pick (.tmp 20) (.tmp 26) (.const (.bool false))),
  zo 28 (.mv (.tmp 27)),
  ⟨some 29, .mv (.tmp 4), some (28, true), []⟩,
  zo 30 (.pick (.tmp 28) (.tmp 29) (.const (.bool false))),
  zo 2 (.mv (.tmp 30))]
def pc39_c5 : PCode := .region none false pc39_o5
def pc39_c6 : PCode := .ret
def pc39_c7 : PCode := .seq pc39_c5 pc39_c6
def pc39_o8 : List POper := [zo 32 (.prim (.bin .eql 3 false true) [.tmp 14, .const (.int .i64 2)]),
  zo 31 (.mv (.tmp 32))]
def pc39_c8 : PCode := .region none false pc39_o8
def pc39_o9 : List POper := [zo 33 (.faddr 13 (.tmp 1)),
  zo 34 (.load true 12 (.tmp 33)),
  zo 35 (.call true [[]] 77 [.tmp 34]),
  zo 36 (.mv (.tmp 35)),
  ⟨some 37, .faddr 1 (.tmp 1), some (36, true), []⟩,
  ⟨some 38, .load false 1 (.tmp 37), some (36, true), []⟩,
  ⟨some 39, .faddr 13 (.tmp 1), some (36, true), []⟩,
  ⟨some 40, .faddr 0 (.tmp 39), some (36, true), []⟩,
  ⟨some 41, .load false 1 (.tmp 40), some (36, true), []⟩,
  ⟨some 42, .prim (.bin .eql 3 false false) [.tmp 38, .tmp 41], some (36, true), []⟩,
  zo 43 (.pick (.tmp 36) (.tmp 42) (.const (.bool false))),
  zo 44 (.mv (.tmp 43)),
  ⟨some 45, .mv (.tmp 3), some (44, true), []⟩,
  zo 46 (.pick (.tmp 44) (.tmp 45) (.const (.bool false))),
  zo 2 (.mv (.tmp 46))]
def pc39_c9 : PCode := .region none false pc39_o9
def pc39_c10 : PCode := .ret
def pc39_c11 : PCode := .seq pc39_c9 pc39_c10
def pc39_o12 : List POper := [zo 48 (.prim (.bin .eql 3 false true) [.tmp 14, .const (.int .i64 3)]),
  zo 47 (.mv (.tmp 48))]
def pc39_c12 : PCode := .region none false pc39_o12
def pc39_o13 : List POper := [zo 49 (.faddr 1 (.tmp 1)),
  zo 50 (.load false 1 (.tmp 49)),
  zo 51 (.prim (.bin .geq 3 false true) [.tmp 50, .const (.int .i64 0)]),
  zo 52 (.mv (.tmp 51)),
  ⟨some 53, .faddr 1 (.tmp 1), some (52, true), []⟩,
  ⟨some 54, .load false 1 (.tmp 53), some (52, true), []⟩,
  ⟨some 55, .prim (.bin .leq 3 false true) [.tmp 54, .const (.int .i64 1000000)], some (52, true), []⟩,
  zo 56 (.pick (.tmp 52) (.tmp 55) (.const (.bool false))),
  zo 57 (.mv (.tmp 56)),
  ⟨some 58, .mv (.tmp 3), some (57, true), []⟩,
  zo 59 (.pick (.tmp 57) (.tmp 58) (.const (.bool false))),
  zo 60 (.mv (.tmp 59)),
  ⟨some 61, .mv (.tmp 4), some (60, true), []⟩,
  zo 62 (.pick (.tmp 60) (.tmp 61) (.const (.bool false))),
  zo 2 (.mv (.tmp 62))]
def pc39_c13 : PCode := .region none false pc39_o13
def pc39_c14 : PCode := .ret
def pc39_c15 : PCode := .seq pc39_c13 pc39_c14
def pc39_c16 : PCode := .skip
def pc39_c17 : PCode := .cond (.tmp 47) pc39_c15 pc39_c16
def pc39_c18 : PCode := .seq pc39_c12 pc39_c17
def pc39_c19 : PCode := .cond (.tmp 31) pc39_c11 pc39_c18
def pc39_c20 : PCode := .seq pc39_c8 pc39_c19
def pc39_c21 : PCode := .cond (.tmp 15) pc39_c7 pc39_c20
def pc39_c22 : PCode := .seq pc39_c4 pc39_c21
def pc39_c23 : PCode := .block 0 pc39_c22
def pc39_c24 : PCode := .seq pc39_c3 pc39_c23
def pc39_o25 : List POper := [zo 2 (.mv (.const (.bool false)))]
def pc39_c25 : PCode := .region none false pc39_o25
def pc39_c26 : PCode := .ret
def pc39_c27 : PCode := .seq pc39_c25 pc39_c26
def pc39_c28 : PCode := .seq pc39_c24 pc39_c27
def pc39_c29 : PCode := .seq pc39_c2 pc39_c28
def pc39_c30 : PCode := .seq pc39_c1 pc39_c29
def pc39_r : List PRes := [PRes.tmp 2 []]
def pc39 : PFunc := ⟨63, pc39_r, pc39_c30, false⟩
def pc39_a : Ann := {
  kr := fun
    | _ => none
  ka := fun
    | _ => 0
  kh := fun
    | 1 => some (.at_ 1 0)
    | 5 => some (.at_ 1 2)
    | 6 => some (.imm)
    | 7 => some (.imm)
    | 8 => some (.imm)
    | 9 => some (.at_ 1 13)
    | 10 => some (.imm)
    | 11 => some (.imm)
    | 12 => some (.imm)
    | _ => none
  ow := fun t => match t with
    | 96 => [(1, 5, 1)]
    | _ => []
  tc := fun t => match t with
    | 96 => true
    | _ => false }
theorem pc39_ok : compFn Try.prog pc39_a Try.f39 = some pc39 := by kernel_rfl


-- 111: cmp.isNaN[int]
def pc111_o1 : List POper := [zo 2 (.mv (.const (.bool false)))]
def pc111_c1 : PCode := .region none false pc111_o1
def pc111_o2 : List POper := [zo 3 (.mv (.tmp 0)),
  zo 4 (.mv (.tmp 0)),
  zo 5 (.prim (.bin .neq 3 false false) [.tmp 3, .tmp 4]),
  zo 2 (.mv (.tmp 5))]
def pc111_c2 : PCode := .region none false pc111_o2
def pc111_c3 : PCode := .ret
def pc111_c4 : PCode := .seq pc111_c2 pc111_c3
def pc111_c5 : PCode := .seq pc111_c1 pc111_c4
def pc111_r : List PRes := [PRes.tmp 2 []]
def pc111 : PFunc := ⟨6, pc111_r, pc111_c5, false⟩
def pc111_a : Ann := {
  kr := fun
    | _ => none
  ka := fun
    | _ => 0
  kh := fun
    | _ => none
  ow := fun t => match t with
    | 96 => [(1, 5, 1)]
    | _ => []
  tc := fun t => match t with
    | 96 => true
    | _ => false }
theorem pc111_ok : compFn Try.prog pc111_a Try.f111 = some pc111 := by kernel_rfl


-- 86: cmp.Compare[int]
def pc86_o1 : List POper := [zo 4 (.mv (.const (.int .i64 0)))]
def pc86_c1 : PCode := .region none false pc86_o1
def pc86_o2 : List POper := [zo 7 (.mv (.tmp 0)),
  zo 8 (.call true [[]] 111 [.tmp 7]),
  zo 5 (.mv (.tmp 8))]
def pc86_c2 : PCode := .region none false pc86_o2
def pc86_o3 : List POper := [zo 9 (.mv (.tmp 1)),
  zo 10 (.call true [[]] 111 [.tmp 9]),
  zo 6 (.mv (.tmp 10))]
def pc86_c3 : PCode := .region none false pc86_o3
def pc86_o4 : List POper := [zo 11 (.mv (.tmp 5))]
def pc86_c4 : PCode := .region none false pc86_o4
def pc86_o5 : List POper := [zo 12 (.mv (.tmp 6))]
def pc86_c5 : PCode := .region none false pc86_o5
def pc86_o6 : List POper := [zo 4 (.mv (.const (.int .i64 0)))]
def pc86_c6 : PCode := .region none false pc86_o6
def pc86_c7 : PCode := .ret
def pc86_c8 : PCode := .seq pc86_c6 pc86_c7
def pc86_c9 : PCode := .skip
def pc86_c10 : PCode := .cond (.tmp 12) pc86_c8 pc86_c9
def pc86_c11 : PCode := .seq pc86_c5 pc86_c10
def pc86_o12 : List POper := [zo 4 (.mv (.const (.int .i64 (-1))))]
def pc86_c12 : PCode := .region none false pc86_o12
def pc86_c13 : PCode := .ret
def pc86_c14 : PCode := .seq pc86_c12 pc86_c13
def pc86_c15 : PCode := .seq pc86_c11 pc86_c14
def pc86_c16 : PCode := .skip
def pc86_c17 : PCode := .cond (.tmp 11) pc86_c15 pc86_c16
def pc86_c18 : PCode := .seq pc86_c4 pc86_c17
def pc86_o19 : List POper := [zo 13 (.mv (.tmp 6))]
def pc86_c19 : PCode := .region none false pc86_o19
def pc86_o20 : List POper := [zo 4 (.mv (.const (.int .i64 1)))]
def pc86_c20 : PCode := .region none false pc86_o20
def pc86_c21 : PCode := .ret
def pc86_c22 : PCode := .seq pc86_c20 pc86_c21
def pc86_c23 : PCode := .skip
def pc86_c24 : PCode := .cond (.tmp 13) pc86_c22 pc86_c23
def pc86_c25 : PCode := .seq pc86_c19 pc86_c24
def pc86_o26 : List POper := [zo 14 (.mv (.tmp 0)),
  zo 15 (.mv (.tmp 1)),
  zo 16 (.prim (.bin .lss 3 false false) [.tmp 14, .tmp 15])]
def pc86_c26 : PCode := .region none false pc86_o26
def pc86_o27 : List POper := [zo 4 (.mv (.const (.int .i64 (-1))))]
def pc86_c27 : PCode := .region none false pc86_o27
def pc86_c28 : PCode := .ret
def pc86_c29 : PCode := .seq pc86_c27 pc86_c28
def pc86_c30 : PCode := .skip
def pc86_c31 : PCode := .cond (.tmp 16) pc86_c29 pc86_c30
def pc86_c32 : PCode := .seq pc86_c26 pc86_c31
def pc86_o33 : List POper := [zo 17 (.mv (.tmp 0)),
  zo 18 (.mv (.tmp 1)),
  zo 19 (.prim (.bin .gtr 3 false false) [.tmp 17, .tmp 18])]
def pc86_c33 : PCode := .region none false pc86_o33
def pc86_o34 : List POper := [zo 4 (.mv (.const (.int .i64 1)))]
def pc86_c34 : PCode := .region none false pc86_o34
def pc86_c35 : PCode := .ret
def pc86_c36 : PCode := .seq pc86_c34 pc86_c35
def pc86_c37 : PCode := .skip
def pc86_c38 : PCode := .cond (.tmp 19) pc86_c36 pc86_c37
def pc86_c39 : PCode := .seq pc86_c33 pc86_c38
def pc86_o40 : List POper := [zo 4 (.mv (.const (.int .i64 0)))]
def pc86_c40 : PCode := .region none false pc86_o40
def pc86_c41 : PCode := .ret
def pc86_c42 : PCode := .seq pc86_c40 pc86_c41
def pc86_c43 : PCode := .seq pc86_c39 pc86_c42
def pc86_c44 : PCode := .seq pc86_c32 pc86_c43
def pc86_c45 : PCode := .seq pc86_c25 pc86_c44
def pc86_c46 : PCode := .seq pc86_c18 pc86_c45
def pc86_c47 : PCode := .seq pc86_c3 pc86_c46
def pc86_c48 : PCode := .seq pc86_c2 pc86_c47
def pc86_c49 : PCode := .seq pc86_c1 pc86_c48
def pc86_r : List PRes := [PRes.tmp 4 []]
def pc86 : PFunc := ⟨20, pc86_r, pc86_c49, false⟩
def pc86_a : Ann := {
  kr := fun
    | _ => none
  ka := fun
    | _ => 0
  kh := fun
    | _ => none
  ow := fun t => match t with
    | 96 => [(1, 5, 1)]
    | _ => []
  tc := fun t => match t with
    | 96 => true
    | _ => false }
theorem pc86_ok : compFn Try.prog pc86_a Try.f86 = some pc86 := by kernel_rfl


-- 85: vedette/event.Apply$1
def pc85_o1 : List POper := [zo 2 (.box 28 (.tmp 0) []),
  zo 4 (.mv (.const (.int .i64 0)))]
def pc85_c1 : PCode := .region none false pc85_o1
def pc85_o2 : List POper := [zo 5 (.faddr 0 (.tmp 2)),
  zo 6 (.load false 1 (.tmp 5)),
  zo 7 (.mv (.tmp 1)),
  zo 8 (.call true [[], []] 86 [.tmp 6, .tmp 7]),
  zo 4 (.mv (.tmp 8))]
def pc85_c2 : PCode := .region none false pc85_o2
def pc85_c3 : PCode := .ret
def pc85_c4 : PCode := .seq pc85_c2 pc85_c3
def pc85_c5 : PCode := .seq pc85_c1 pc85_c4
def pc85_r : List PRes := [PRes.tmp 4 []]
def pc85 : PFunc := ⟨9, pc85_r, pc85_c5, false⟩
def pc85_a : Ann := {
  kr := fun
    | _ => none
  ka := fun
    | _ => 0
  kh := fun
    | _ => none
  ow := fun t => match t with
    | 96 => [(1, 5, 1)]
    | _ => []
  tc := fun t => match t with
    | 96 => true
    | _ => false }
theorem pc85_ok : compFn Try.prog pc85_a Try.f85 = some pc85 := by kernel_rfl


-- 84: slices.BinarySearchFunc[[]vedette/api.Thing,vedette/api.Thing,int]
def pc84_o1 : List POper := [zo 6 (.mv (.const (.int .i64 0))),
  zo 7 (.mv (.const (.bool false)))]
def pc84_c1 : PCode := .region none false pc84_o1
def pc84_o2 : List POper := [zo 12 (.mv (.tmp 0)),
  zo 13 (.lenS (.tmp 12)),
  zo 8 (.mv (.tmp 13))]
def pc84_c2 : PCode := .region none false pc84_o2
def pc84_o3 : List POper := [zo 14 (.mv (.tmp 8)),
  zo 9 (.mv (.const (.int .i64 0))),
  zo 10 (.mv (.tmp 14))]
def pc84_c3 : PCode := .region none false pc84_o3
def pc84_o4 : List POper := [zo 15 (.mv (.tmp 9)),
  zo 16 (.mv (.tmp 10)),
  zo 17 (.prim (.bin .lss 3 false false) [.tmp 15, .tmp 16])]
def pc84_c4 : PCode := .region (some ([0, 1, 2, 8, 9, 10], [], [])) false pc84_o4
def pc84_c5 : PCode := .skip
def pc84_c6 : PCode := .exit 0
def pc84_c7 : PCode := .cond (.tmp 17) pc84_c5 pc84_c6
def pc84_c8 : PCode := .seq pc84_c4 pc84_c7
def pc84_o9 : List POper := [zo 18 (.mv (.tmp 9)),
  zo 19 (.mv (.tmp 10)),
  zo 20 (.prim (.bin .add 3 false false) [.tmp 18, .tmp 19]),
  zo 21 (.prim (.conv 3 90) [.tmp 20]),
  zo 22 (.prim (.bin .shr 90 false true) [.tmp 21, .const (.int .u64 1)]),
  zo 23 (.prim (.conv 90 3) [.tmp 22]),
  zo 11 (.mv (.tmp 23))]
def pc84_c9 : PCode := .region none false pc84_o9
def pc84_o10 : List POper := [zo 24 (.mv (.tmp 2)),
  zo 25 (.mv (.tmp 0)),
  zo 26 (.mv (.tmp 11)),
  zo 27 (.iaddrS 11 (.tmp 25) (.tmp 26)),
  zo 28 (.load true 11 (.tmp 27)),
  zo 29 (.mv (.tmp 1)),
  zo 30 (.callv true [[], []] (.tmp 24) [.tmp 28, .tmp 29]),
  zo 31 (.prim (.bin .lss 3 false true) [.tmp 30, .const (.int .i64 0)])]
def pc84_c10 : PCode := .region none false pc84_o10
def pc84_o11 : List POper := [zo 32 (.mv (.tmp 11)),
  zo 33 (.prim (.bin .add 3 false true) [.tmp 32, .const (.int .i64 1)]),
  zo 9 (.mv (.tmp 33))]
def pc84_c11 : PCode := .region none false pc84_o11
def pc84_o12 : List POper := [zo 34 (.mv (.tmp 11)),
  zo 10 (.mv (.tmp 34))]
def pc84_c12 : PCode := .region none false pc84_o12
def pc84_c13 : PCode := .cond (.tmp 31) pc84_c11 pc84_c12
def pc84_c14 : PCode := .seq pc84_c10 pc84_c13
def pc84_c15 : PCode := .seq pc84_c9 pc84_c14
def pc84_c16 : PCode := .block 1 pc84_c15
def pc84_c17 : PCode := .seq pc84_c8 pc84_c16
def pc84_c18 : PCode := .loop pc84_c17
def pc84_c19 : PCode := .block 0 pc84_c18
def pc84_o20 : List POper := [zo 35 (.mv (.tmp 9)),
  zo 36 (.mv (.tmp 9)),
  zo 37 (.mv (.tmp 8)),
  zo 38 (.prim (.bin .lss 3 false false) [.tmp 36, .tmp 37]),
  zo 39 (.mv (.tmp 38)),
  ⟨some 40, .mv (.tmp 2), some (39, true), []⟩,
  ⟨some 41, .mv (.tmp 0), some (39, true), []⟩,
  ⟨some 42, .mv (.tmp 9), some (39, true), []⟩,
  ⟨some 43, .iaddrS 11 (.tmp 41) (.tmp 42), some (39, true), []⟩,
  ⟨some 44, .load true 11 (.tmp 43), some (39, true), []⟩,
  ⟨some 45, .mv (.tmp 1), some (39, true), []⟩,
  ⟨some 46, .callv true [[], []] (.tmp 40) [.tmp 44, .tmp 45], some (39, true), []⟩,
  ⟨some 47, .prim (.bin .eql 3 false true) [.tmp 46, .const (.int .i64 0)], some (39, true), []⟩,
  zo 48 (.pick (.tmp 39) (.tmp 47) (.const (.bool false))),
  zo 6 (.mv (.tmp 35)),
  zo 7 (.mv (.tmp 48))]
def pc84_c20 : PCode := .region none false pc84_o20
def pc84_c21 : PCode := .ret
def pc84_c22 : PCode := .seq pc84_c20 pc84_c21
def pc84_c23 : PCode := .seq pc84_c19 pc84_c22
def pc84_c24 : PCode := .seq pc84_c3 pc84_c23
def pc84_c25 : PCode := .seq pc84_c2 pc84_c24
def pc84_c26 : PCode := .seq pc84_c1 pc84_c25
def pc84_r : List PRes := [PRes.tmp 6 [], PRes.tmp 7 []]
def pc84 : PFunc := ⟨49, pc84_r, pc84_c26, false⟩
def pc84_a : Ann := {
  kr := fun
    | 3 => some ([0, 1, 2, 8, 9, 10], [], [])
    | _ => none
  ka := fun
    | _ => 0
  kh := fun
    | _ => none
  ow := fun t => match t with
    | 96 => [(1, 5, 1)]
    | _ => []
  tc := fun t => match t with
    | 96 => true
    | _ => false }
theorem pc84_ok : compFn Try.prog pc84_a Try.f84 = some pc84 := by kernel_rfl


-- 88: vedette/fields.Apply
def pc88_o1 : List POper := [zo 2 (.box 28 (.tmp 0) []),
  zo 3 (.box 35 (.tmp 1) []),
  zo 4 (.alloc 28 (.agg { toList := [.int .i64 0, .int .i64 0, .int .i64 0, .int .i64 0, .string { data := { toList := [] } }, .int .i64 0, .string { data := { toList := [] } }, .int .i64 0, .string { data := { toList := [] } }, .int .i64 0, .string { data := { toList := [] } }] }) [])]
def pc88_c1 : PCode := .region none false pc88_o1
def pc88_o2 : List POper := [zo 7 (.faddr 1 (.tmp 3)),
  zo 8 (.load false 1 (.tmp 7)),
  zo 9 (.prim (.bin .and 5 false true) [.tmp 8, .const (.int .u8 1)]),
  zo 10 (.prim (.bin .neq 5 false true) [.tmp 9, .const (.int .u8 0)])]
def pc88_c2 : PCode := .region none false pc88_o2
def pc88_o3 : List POper := [zo 11 (.faddr 2 (.tmp 3)),
  zo 12 (.load true 2 (.tmp 11)),
  zo 13 (.faddr 1 (.tmp 2)),
  ⟨none, .store 2 (.tmp 13) (.tmp 12), none, []⟩]
def pc88_c3 : PCode := .region none false pc88_o3
def pc88_c4 : PCode := .skip
def pc88_c5 : PCode := .cond (.tmp 10) pc88_c3 pc88_c4
def pc88_c6 : PCode := .seq pc88_c2 pc88_c5
def pc88_o7 : List POper := [zo 14 (.faddr 4 (.tmp 3)),
  zo 15 (.load true 8 (.tmp 14)),
  zo 16 (.mv (.const (.int .i64 0)))]
def pc88_c7 : PCode := .region (some ([2, 3, 4], [2, 3, 4], [])) false pc88_o7
def pc88_o8 : List POper := [zo 17 (.prim (.bin .lss 3 false true) [.tmp 16, .const (.int .i64 4)])]
def pc88_c8 : PCode := .region (some ([2, 3, 4, 15, 16], [2, 3, 4, 6], [])) false pc88_o8
def pc88_c9 : PCode := .skip
def pc88_c10 : PCode := .exit 0
def pc88_c11 : PCode := .cond (.tmp 17) pc88_c9 pc88_c10
def pc88_o12 : List POper := [zo 18 (.mv (.tmp 16)),
  zo 19 (.idx true 2 4 (.tmp 15) (.tmp 16)),
  zo 6 (.alloc 25 (.agg { toList := [.int .i64 0, .string { data := { toList := [] } }] }) []),
  zo 5 (.mv (.tmp 18)),
  ⟨none, .store 2 (.tmp 6) (.tmp 19), none, []⟩]
def pc88_c12 : PCode := .region none false pc88_o12
def pc88_o13 : List POper := [zo 20 (.faddr 1 (.tmp 3)),
  zo 21 (.load false 1 (.tmp 20)),
  zo 22 (.mv (.tmp 5)),
  zo 23 (.call true [[], []] 99 [.tmp 21, .tmp 22])]
def pc88_c13 : PCode := .region none false pc88_o13
def pc88_o14 : List POper := [zo 24 (.mv (.tmp 5)),
  zo 25 (.load true 2 (.tmp 6)),
  zo 26 (.faddr 3 (.tmp 2)),
  zo 27 (.iaddrA 4 2 (.tmp 26) (.tmp 24)),
  ⟨none, .store 2 (.tmp 27) (.tmp 25), none, []⟩]
def pc88_c14 : PCode := .region none false pc88_o14
def pc88_c15 : PCode := .skip
def pc88_c16 : PCode := .cond (.tmp 23) pc88_c14 pc88_c15
def pc88_c17 : PCode := .seq pc88_c13 pc88_c16
def pc88_c18 : PCode := .seq pc88_c12 pc88_c17
def pc88_c19 : PCode := .block 1 pc88_c18
def pc88_o20 : List POper := [zo 28 (.prim (.bin .add 3 false true) [.tmp 16, .const (.int .i64 1)]),
  zo 16 (.mv (.tmp 28))]
def pc88_c20 : PCode := .region none false pc88_o20
def pc88_c21 : PCode := .seq pc88_c19 pc88_c20
def pc88_c22 : PCode := .seq pc88_c11 pc88_c21
def pc88_c23 : PCode := .seq pc88_c8 pc88_c22
def pc88_c24 : PCode := .loop pc88_c23
def pc88_c25 : PCode := .block 0 pc88_c24
def pc88_c26 : PCode := .seq pc88_c7 pc88_c25
def pc88_o27 : List POper := [zo 29 (.load true 11 (.tmp 2)),
  ⟨none, .store 11 (.tmp 4) (.tmp 29), none, []⟩]
def pc88_c27 : PCode := .region none false pc88_o27
def pc88_c28 : PCode := .ret
def pc88_c29 : PCode := .seq pc88_c27 pc88_c28
def pc88_c30 : PCode := .seq pc88_c26 pc88_c29
def pc88_c31 : PCode := .seq pc88_c6 pc88_c30
def pc88_c32 : PCode := .seq pc88_c1 pc88_c31
def pc88_r : List PRes := [PRes.cell 4 true 11 []]
def pc88 : PFunc := ⟨30, pc88_r, pc88_c32, false⟩
def pc88_a : Ann := {
  kr := fun
    | 3 => some ([2, 3, 4], [2, 3, 4], [])
    | 4 => some ([2, 3, 4, 15, 16], [2, 3, 4, 6], [])
    | _ => none
  ka := fun
    | _ => 0
  kh := fun
    | _ => none
  ow := fun t => match t with
    | 96 => [(1, 5, 1)]
    | _ => []
  tc := fun t => match t with
    | 96 => true
    | _ => false }
theorem pc88_ok : compFn Try.prog pc88_a Try.f88 = some pc88 := by kernel_rfl


-- 51: vedette/event.Apply
def pc51_o1 : List POper := [zo 3 (.box 67 (.tmp 1) []),
  zo 4 (.mv (.const (.slice none 0 0))),
  zo 5 (.mv (.const (.bool false)))]
def pc51_c1 : PCode := .region none false pc51_o1
def pc51_o2 : List POper := [zo 10 (.mv (.tmp 0)),
  zo 11 (.faddr 1 (.tmp 3)),
  zo 12 (.load false 1 (.tmp 11)),
  zo 13 (.gcall false false [300000, 300001, 300002, 300003, 300004, 300005, 300006, 300007] [[(0, 11)], [], []] 84 [.tmp 10, .tmp 12, .func 85]),
  zo 9 (.mv (.tmp 13)),
  zo 14 (.ext (.tmp 9) 0),
  zo 15 (.ext (.tmp 9) 1),
  zo 6 (.mv (.tmp 14)),
  zo 7 (.mv (.tmp 15))]
def pc51_c2 : PCode := .region none false pc51_o2
def pc51_o3 : List POper := [zo 16 (.load true 25 (.tmp 3)),
  zo 17 (.call true [[]] 39 [.tmp 16]),
  zo 18 (.prim (.un .not) [.tmp 17]),
  zo 19 (.mv (.tmp 18)),
  ⟨some 20, .mv (.tmp 7), some (19, false), []⟩,
  ⟨some 21, .faddr 0 (.tmp 3), some (19, false), []⟩,
  ⟨some 22, .load false 1 (.tmp 21), some (19, false), []⟩,
  ⟨some 23, .prim (.bin .eql 3 false true) [.tmp 22, .const (.int .i64 1)], some (19, false), []⟩,
  ⟨some 24, .prim (.bin .eql 4 false false) [.tmp 20, .tmp 23], some (19, false), []⟩,
  zo 25 (.pick (.tmp 19) (.const (.bool true)) (.tmp 24))]
def pc51_c3 : PCode := .region none false pc51_o3
def pc51_o4 : List POper := [zo 26 (.mv (.tmp 0)),
  zo 27 (.gcall false false [300000, 300001, 300002, 300003, 300004, 300005, 300006, 300007] [[(0, 11)]] 78 [.tmp 26]),
  zo 4 (.mv (.tmp 27)),
  zo 5 (.mv (.const (.bool false)))]
def pc51_c4 : PCode := .region none false pc51_o4
def pc51_c5 : PCode := .ret
def pc51_c6 : PCode := .seq pc51_c4 pc51_c5
def pc51_c7 : PCode := .skip
def pc51_c8 : PCode := .cond (.tmp 25) pc51_c6 pc51_c7
def pc51_c9 : PCode := .seq pc51_c3 pc51_c8
def pc51_o10 : List POper := [zo 28 (.mv (.tmp 0)),
  zo 29 (.gcall false false [300000, 300001, 300002, 300003, 300004, 300005, 300006, 300007] [[(0, 11)]] 78 [.tmp 28]),
  zo 8 (.mv (.tmp 29))]
def pc51_c10 : PCode := .region none false pc51_o10
def pc51_o11 : List POper := [zo 30 (.faddr 0 (.tmp 3)),
  zo 31 (.load false 1 (.tmp 30))]
def pc51_c11 : PCode := .region none false pc51_o11
def pc51_o12 : List POper := [zo 38 (.prim (.bin .eql 3 false true) [.tmp 31, .const (.int .i64 1)]),
  zo 37 (.mv (.tmp 38))]
def pc51_c12 : PCode := .region none false pc51_o12
def pc51_o13 : List POper := [zo 39 (.mv (.tmp 8)),
  zo 40 (.mv (.tmp 6)),
  zo 41 (.faddr 2 (.tmp 3)),
  zo 42 (.load true 11 (.tmp 41)),
  zo 43 (.bptrs 11 [.tmp 42]),
  zo 44 (.gcall true false [43, 300000, 300001, 300002, 300003, 300004, 300005, 300006, 300007] [[(0, 11)], [], [(0, 11)]] 87 [.tmp 39, .tmp 40, .tmp 43]),
  zo 8 (.mv (.tmp 44))]
def pc51_c13 : PCode := .region none false pc51_o13
def pc51_o14 : List POper := [zo 46 (.prim (.bin .eql 3 false true) [.tmp 31, .const (.int .i64 2)]),
  zo 45 (.mv (.tmp 46))]
def pc51_c14 : PCode := .region none false pc51_o14
def pc51_o15 : List POper := [⟨some 47, .mv (.tmp 8), none, [(8, .obj 300000)]⟩,
  ⟨some 48, .mv (.tmp 6), none, [(6, .imm)]⟩,
  ⟨some 49, .mv (.tmp 8), none, [(8, .obj 300000)]⟩,
  ⟨some 50, .mv (.tmp 6), none, [(6, .imm)]⟩,
  ⟨some 51, .iaddrS 11 (.tmp 49) (.tmp 50), none, [(49, .obj 300000), (50, .imm)]⟩,
  ⟨some 52, .load true 11 (.tmp 51), none, [(51, .obj 300000)]⟩,
  ⟨some 53, .faddr 13 (.tmp 3), none, [(3, .at_ 3 0)]⟩,
  ⟨some 54, .load true 12 (.tmp 53), none, [(53, .at_ 3 13)]⟩,
  ⟨some 55, .call false [[], []] 88 [.tmp 52, .tmp 54], none, [(52, .imm), (54, .imm)]⟩,
  ⟨some 56, .iaddrS 11 (.tmp 47) (.tmp 48), none, [(47, .obj 300000), (48, .imm)]⟩,
  ⟨none, .store 11 (.tmp 56) (.tmp 55), none, [(56, .obj 300000), (55, .imm)]⟩]
def pc51_c15 : PCode := .region none true pc51_o15
def pc51_o16 : List POper := [zo 32 (.mv (.tmp 8)),
  zo 33 (.mv (.tmp 6)),
  zo 34 (.mv (.tmp 6)),
  zo 35 (.prim (.bin .add 3 false true) [.tmp 34, .const (.int .i64 1)]),
  zo 36 (.gcall true false [300000, 300001, 300002, 300003, 300004, 300005, 300006, 300007] [[(0, 11)], [], []] 89 [.tmp 32, .tmp 33, .tmp 35]),
  zo 8 (.mv (.tmp 36))]
def pc51_c16 : PCode := .region none false pc51_o16
def pc51_c17 : PCode := .cond (.tmp 45) pc51_c15 pc51_c16
def pc51_c18 : PCode := .seq pc51_c14 pc51_c17
def pc51_c19 : PCode := .cond (.tmp 37) pc51_c13 pc51_c18
def pc51_c20 : PCode := .seq pc51_c12 pc51_c19
def pc51_c21 : PCode := .block 0 pc51_c20
def pc51_c22 : PCode := .seq pc51_c11 pc51_c21
def pc51_o23 : List POper := [zo 57 (.mv (.tmp 8)),
  zo 4 (.mv (.tmp 57)),
  zo 5 (.mv (.const (.bool true)))]
def pc51_c23 : PCode := .region none false pc51_o23
def pc51_c24 : PCode := .ret
def pc51_c25 : PCode := .seq pc51_c23 pc51_c24
def pc51_c26 : PCode := .seq pc51_c22 pc51_c25
def pc51_c27 : PCode := .seq pc51_c10 pc51_c26
def pc51_c28 : PCode := .seq pc51_c9 pc51_c27
def pc51_c29 : PCode := .seq pc51_c2 pc51_c28
def pc51_c30 : PCode := .seq pc51_c1 pc51_c29
def pc51_r : List PRes := [PRes.tmp 4 [(0, 11)], PRes.tmp 5 []]
def pc51 : PFunc := ⟨58, pc51_r, pc51_c30, false⟩
def pc51_a : Ann := {
  kr := fun
    | _ => none
  ka := fun
    | _ => 0
  kh := fun
    | 3 => some (.at_ 3 0)
    | 6 => some (.imm)
    | 8 => some (.obj 300000)
    | 47 => some (.obj 300000)
    | 48 => some (.imm)
    | 49 => some (.obj 300000)
    | 50 => some (.imm)
    | 51 => some (.obj 300000)
    | 52 => some (.imm)
    | 53 => some (.at_ 3 13)
    | 54 => some (.imm)
    | 55 => some (.imm)
    | 56 => some (.obj 300000)
    | _ => none
  gf := fun d f => match d, f with
    | some 13, 84 => some (false, false, [300000, 300001, 300002, 300003, 300004, 300005, 300006, 300007])
    | some 27, 78 => some (false, false, [300000, 300001, 300002, 300003, 300004, 300005, 300006, 300007])
    | some 29, 78 => some (false, false, [300000, 300001, 300002, 300003, 300004, 300005, 300006, 300007])
    | some 36, 89 => some (true, false, [300000, 300001, 300002, 300003, 300004, 300005, 300006, 300007])
    | some 44, 87 => some (true, false, [43, 300000, 300001, 300002, 300003, 300004, 300005, 300006, 300007])
    | _, _ => none
  ow := fun t => match t with
    | 96 => [(1, 5, 1)]
    | _ => []
  tc := fun t => match t with
    | 96 => true
    | _ => false
  bv := fun d => match d with
    | some 43 => true
    | _ => false }
theorem pc51_ok : compFn Try.prog pc51_a Try.f51 = some pc51 := by kernel_rfl


-- 40: vedette/event.Fold
def pc40_o1 : List POper := [zo 4 (.mv (.const (.slice none 0 0))),
  zo 5 (.mv (.const (.bool false)))]
def pc40_c1 : PCode := .region none false pc40_o1
def pc40_o2 : List POper := [zo 10 (.mv (.tmp 0)),
  zo 11 (.gcall false true [300000, 300001, 300002, 300003, 300004, 300005, 300006, 300007] [[(0, 11)]] 78 [.tmp 10]),
  zo 6 (.mv (.tmp 11)),
  zo 7 (.mv (.const (.bool true)))]
def pc40_c2 : PCode := .region none false pc40_o2
def pc40_c3 : PCode := .label
def pc40_o4 : List POper := [zo 12 (.mv (.tmp 1)),
  zo 13 (.lenS (.tmp 12)),
  zo 14 (.mv (.const (.int .i64 0)))]
def pc40_c4 : PCode := .region none false pc40_o4
def pc40_o5 : List POper := [zo 15 (.prim (.bin .lss 3 false false) [.tmp 14, .tmp 13])]
def pc40_c5 : PCode := .region (some ([0, 6, 7, 12, 13, 14], [9], [])) false pc40_o5
def pc40_c6 : PCode := .skip
def pc40_c7 : PCode := .exit 0
def pc40_c8 : PCode := .cond (.tmp 15) pc40_c6 pc40_c7
def pc40_o9 : List POper := [zo 16 (.iaddrS 25 (.tmp 12) (.tmp 14)),
  zo 17 (.load true 25 (.tmp 16)),
  zo 9 (.alloc 67 (.agg { toList := [.int .i64 0, .int .i64 0, .int .i64 0, .int .i64 0, .int .i64 0, .int .i64 0, .string { data := { toList := [] } }, .int .i64 0, .string { data := { toList := [] } }, .int .i64 0, .string { data := { toList := [] } }, .int .i64 0, .string { data := { toList := [] } }, .int .i64 0, .int .u8 0, .int .i64 0, .int .i64 0, .int .i64 0, .string { data := { toList := [] } }, .int .i64 0, .string { data := { toList := [] } }, .int .i64 0, .string { data := { toList := [] } }, .int .i64 0, .string { data := { toList := [] } }] }) []),
  ⟨none, .store 25 (.tmp 9) (.tmp 17), none, []⟩]
def pc40_c9 : PCode := .region none false pc40_o9
def pc40_o10 : List POper := [zo 19 (.mv (.tmp 6)),
  zo 20 (.load true 25 (.tmp 9)),
  zo 21 (.call true [[(0, 11)], []] 51 [.tmp 19, .tmp 20]),
  zo 18 (.mv (.tmp 21)),
  zo 22 (.ext (.tmp 18) 0),
  zo 23 (.ext (.tmp 18) 1),
  zo 6 (.mv (.tmp 22)),
  zo 7 (.mv (.tmp 23))]
def pc40_c10 : PCode := .region none false pc40_o10
def pc40_o11 : List POper := [zo 24 (.mv (.tmp 7)),
  zo 25 (.prim (.un .not) [.tmp 24])]
def pc40_c11 : PCode := .region none false pc40_o11
def pc40_c12 : PCode := .exit 0
def pc40_c13 : PCode := .skip
def pc40_c14 : PCode := .cond (.tmp 25) pc40_c12 pc40_c13
def pc40_c15 : PCode := .seq pc40_c11 pc40_c14
def pc40_c16 : PCode := .seq pc40_c10 pc40_c15
def pc40_c17 : PCode := .seq pc40_c9 pc40_c16
def pc40_c18 : PCode := .block 1 pc40_c17
def pc40_o19 : List POper := [zo 26 (.prim (.bin .add 3 false true) [.tmp 14, .const (.int .i64 1)]),
  zo 14 (.mv (.tmp 26))]
def pc40_c19 : PCode := .region none false pc40_o19
def pc40_c20 : PCode := .seq pc40_c18 pc40_c19
def pc40_c21 : PCode := .seq pc40_c8 pc40_c20
def pc40_c22 : PCode := .seq pc40_c5 pc40_c21
def pc40_c23 : PCode := .loop pc40_c22
def pc40_c24 : PCode := .block 0 pc40_c23
def pc40_c25 : PCode := .seq pc40_c4 pc40_c24
def pc40_o26 : List POper := [zo 27 (.mv (.tmp 7)),
  zo 28 (.prim (.un .not) [.tmp 27])]
def pc40_c26 : PCode := .region (some ([0, 6, 7], [9], [])) false pc40_o26
def pc40_o27 : List POper := [zo 29 (.mv (.tmp 0)),
  zo 30 (.gcall false true [300000, 300001, 300002, 300003, 300004, 300005, 300006, 300007] [[(0, 11)]] 78 [.tmp 29]),
  zo 4 (.mv (.tmp 30)),
  zo 5 (.mv (.const (.bool false)))]
def pc40_c27 : PCode := .region none false pc40_o27
def pc40_c28 : PCode := .ret
def pc40_c29 : PCode := .seq pc40_c27 pc40_c28
def pc40_c30 : PCode := .skip
def pc40_c31 : PCode := .cond (.tmp 28) pc40_c29 pc40_c30
def pc40_c32 : PCode := .seq pc40_c26 pc40_c31
def pc40_o33 : List POper := [zo 31 (.mv (.tmp 6)),
  zo 4 (.mv (.tmp 31)),
  zo 5 (.mv (.const (.bool true)))]
def pc40_c33 : PCode := .region none false pc40_o33
def pc40_c34 : PCode := .ret
def pc40_c35 : PCode := .seq pc40_c33 pc40_c34
def pc40_c36 : PCode := .seq pc40_c32 pc40_c35
def pc40_c37 : PCode := .seq pc40_c25 pc40_c36
def pc40_c38 : PCode := .seq pc40_c3 pc40_c37
def pc40_c39 : PCode := .seq pc40_c2 pc40_c38
def pc40_c40 : PCode := .scope pc40_c39
def pc40_c41 : PCode := .seq pc40_c1 pc40_c40
def pc40_r : List PRes := [PRes.tmp 4 [(0, 11)], PRes.tmp 5 []]
def pc40 : PFunc := ⟨32, pc40_r, pc40_c41, false⟩
def pc40_a : Ann := {
  kr := fun
    | 3 => some ([0, 6, 7, 12, 13, 14], [9], [])
    | 8 => some ([0, 6, 7], [9], [])
    | _ => none
  ka := fun
    | _ => 0
  kh := fun
    | _ => none
  gf := fun d f => match d, f with
    | some 11, 78 => some (false, true, [300000, 300001, 300002, 300003, 300004, 300005, 300006, 300007])
    | some 30, 78 => some (false, true, [300000, 300001, 300002, 300003, 300004, 300005, 300006, 300007])
    | _, _ => none
  ow := fun t => match t with
    | 96 => [(1, 5, 1)]
    | _ => []
  tc := fun t => match t with
    | 96 => true
    | _ => false }
theorem pc40_ok : compFn Try.prog pc40_a Try.f40 = some pc40 := by kernel_rfl


-- 9: vedette/vedettelaw16.DiffFolds
def pc9_o1 : List POper := [zo 6 (.box 62 (.tmp 2) []),
  zo 7 (.box 62 (.tmp 3) []),
  zo 8 (.mv (.const (.bool false)))]
def pc9_c1 : PCode := .region none false pc9_o1
def pc9_o2 : List POper := [zo 13 (.call true [] 35 []),
  zo 14 (.prim (.un .not) [.tmp 13])]
def pc9_c2 : PCode := .region none false pc9_o2
def pc9_o3 : List POper := [zo 8 (.mv (.const (.bool false)))]
def pc9_c3 : PCode := .region none false pc9_o3
def pc9_c4 : PCode := .ret
def pc9_c5 : PCode := .seq pc9_c3 pc9_c4
def pc9_c6 : PCode := .skip
def pc9_c7 : PCode := .cond (.tmp 14) pc9_c5 pc9_c6
def pc9_c8 : PCode := .seq pc9_c2 pc9_c7
def pc9_o9 : List POper := [zo 15 (.mv (.tmp 0)),
  zo 16 (.call true [[(0, 11)]] 36 [.tmp 15]),
  zo 17 (.prim (.un .not) [.tmp 16]),
  zo 18 (.mv (.tmp 17)),
  ⟨some 19, .mv (.tmp 1), some (18, false), []⟩,
  ⟨some 20, .call true [[(0, 11)]] 36 [.tmp 19], some (18, false), []⟩,
  ⟨some 21, .prim (.un .not) [.tmp 20], some (18, false), []⟩,
  zo 22 (.pick (.tmp 18) (.const (.bool true)) (.tmp 21)),
  zo 23 (.mv (.tmp 22)),
  ⟨some 24, .mv (.tmp 0), some (23, false), []⟩,
  ⟨some 25, .call true [[(0, 11)]] 37 [.tmp 24], some (23, false), []⟩,
  ⟨some 26, .prim (.un .not) [.tmp 25], some (23, false), []⟩,
  zo 27 (.pick (.tmp 23) (.const (.bool true)) (.tmp 26)),
  zo 28 (.mv (.tmp 27)),
  ⟨some 29, .mv (.tmp 1), some (28, false), []⟩,
  ⟨some 30, .call true [[(0, 11)]] 37 [.tmp 29], some (28, false), []⟩,
  ⟨some 31, .prim (.un .not) [.tmp 30], some (28, false), []⟩,
  zo 32 (.pick (.tmp 28) (.const (.bool true)) (.tmp 31))]
def pc9_c9 : PCode := .region none false pc9_o9
def pc9_o10 : List POper := [zo 8 (.mv (.const (.bool true)))]
def pc9_c10 : PCode := .region none false pc9_o10
def pc9_c11 : PCode := .ret
def pc9_c12 : PCode := .seq pc9_c10 pc9_c11
def pc9_c13 : PCode := .skip
def pc9_c14 : PCode := .cond (.tmp 32) pc9_c12 pc9_c13
def pc9_c15 : PCode := .seq pc9_c9 pc9_c14
def pc9_o16 : List POper := [zo 33 (.mv (.tmp 0)),
  zo 34 (.load true 4 (.tmp 6)),
  zo 35 (.mv (.tmp 1)),
  zo 36 (.load true 4 (.tmp 7)),
  zo 37 (.call true [[(0, 11)], [], [(0, 11)], []] 38 [.tmp 33, .tmp 34, .tmp 35, .tmp 36]),
  zo 9 (.mv (.tmp 37))]
def pc9_c16 : PCode := .region none false pc9_o16
def pc9_o17 : List POper := [zo 10 (.mv (.const (.int .i64 0)))]
def pc9_c17 : PCode := .region none false pc9_o17
def pc9_o18 : List POper := [zo 38 (.mv (.tmp 10)),
  zo 39 (.mv (.tmp 9)),
  zo 40 (.lenS (.tmp 39)),
  zo 41 (.prim (.bin .lss 3 false false) [.tmp 38, .tmp 40])]
def pc9_c18 : PCode := .region (some ([0, 1, 6, 7, 9, 10], [6, 7], [])) false pc9_o18
def pc9_c19 : PCode := .skip
def pc9_c20 : PCode := .exit 0
def pc9_c21 : PCode := .cond (.tmp 41) pc9_c19 pc9_c20
def pc9_c22 : PCode := .seq pc9_c18 pc9_c21
def pc9_o23 : List POper := [⟨some 44, .mv (.tmp 9), none, [(9, .imm)]⟩,
  ⟨some 45, .mv (.tmp 10), none, [(10, .imm)]⟩,
  ⟨some 46, .iaddrS 25 (.tmp 44) (.tmp 45), none, [(44, .imm), (45, .imm)]⟩,
  ⟨some 47, .load true 25 (.tmp 46), none, [(46, .imm)]⟩,
  ⟨some 48, .call false [[]] 39 [.tmp 47], none, [(47, .imm)]⟩,
  ⟨some 49, .prim (.un .not) [.tmp 48], none, [(48, .imm)]⟩,
  ⟨some 50, .mv (.tmp 49), none, [(49, .imm)]⟩,
  ⟨some 51, .mv (.tmp 10), some (50, false), [(10, .imm)]⟩,
  ⟨some 52, .prim (.bin .gtr 3 false true) [.tmp 51, .const (.int .i64 0)], some (50, false), [(51, .imm)]⟩,
  ⟨some 53, .mv (.tmp 52), some (50, false), [(52, .imm)]⟩,
  ⟨some 54, .mv (.tmp 9), some (53, true), [(9, .imm)]⟩,
  ⟨some 55, .mv (.tmp 10), some (53, true), [(10, .imm)]⟩,
  ⟨some 56, .iaddrS 25 (.tmp 54) (.tmp 55), some (53, true), [(54, .imm), (55, .imm)]⟩,
  ⟨some 57, .faddr 1 (.tmp 56), some (53, true), [(56, .imm)]⟩,
  ⟨some 58, .load false 1 (.tmp 57), some (53, true), [(57, .imm)]⟩,
  ⟨some 59, .mv (.tmp 9), some (53, true), [(9, .imm)]⟩,
  ⟨some 60, .mv (.tmp 10), some (53, true), [(10, .imm)]⟩,
  ⟨some 61, .prim (.bin .sub 3 false true) [.tmp 60, .const (.int .i64 1)], some (53, true), [(60, .imm)]⟩,
  ⟨some 62, .iaddrS 25 (.tmp 59) (.tmp 61), some (53, true), [(59, .imm), (61, .imm)]⟩,
  ⟨some 63, .faddr 1 (.tmp 62), some (53, true), [(62, .imm)]⟩,
  ⟨some 64, .load false 1 (.tmp 63), some (53, true), [(63, .imm)]⟩,
  ⟨some 65, .prim (.bin .leq 3 false false) [.tmp 58, .tmp 64], some (53, true), [(58, .imm), (64, .imm)]⟩,
  ⟨some 66, .pick (.tmp 53) (.tmp 65) (.const (.bool false)), some (50, false), [(53, .imm), (65, .imm)]⟩,
  ⟨some 67, .pick (.tmp 50) (.const (.bool true)) (.tmp 66), none, [(50, .imm), (66, .imm)]⟩]
def pc9_c23 : PCode := .region none true pc9_o23
def pc9_o24 : List POper := [zo 8 (.mv (.const (.bool false)))]
def pc9_c24 : PCode := .region none false pc9_o24
def pc9_c25 : PCode := .ret
def pc9_c26 : PCode := .seq pc9_c24 pc9_c25
def pc9_c27 : PCode := .skip
def pc9_c28 : PCode := .cond (.tmp 67) pc9_c26 pc9_c27
def pc9_c29 : PCode := .seq pc9_c23 pc9_c28
def pc9_c30 : PCode := .block 1 pc9_c29
def pc9_o31 : List POper := [zo 42 (.mv (.tmp 10)),
  zo 43 (.prim (.bin .add 3 false true) [.tmp 42, .const (.int .i64 1)]),
  zo 10 (.mv (.tmp 43))]
def pc9_c31 : PCode := .region none false pc9_o31
def pc9_c32 : PCode := .seq pc9_c30 pc9_c31
def pc9_c33 : PCode := .seq pc9_c22 pc9_c32
def pc9_c34 : PCode := .loop pc9_c33
def pc9_c35 : PCode := .block 0 pc9_c34
def pc9_c36 : PCode := .seq pc9_c17 pc9_c35
def pc9_o37 : List POper := [zo 69 (.mv (.tmp 0)),
  zo 70 (.load true 4 (.tmp 6)),
  zo 71 (.call true [[(0, 11)], []] 41 [.tmp 69, .tmp 70]),
  zo 72 (.mv (.tmp 9)),
  zo 73 (.call true [[(0, 11)], [(0, 25)]] 40 [.tmp 71, .tmp 72]),
  zo 68 (.mv (.tmp 73)),
  zo 74 (.ext (.tmp 68) 0),
  zo 75 (.ext (.tmp 68) 1),
  zo 11 (.mv (.tmp 74)),
  zo 12 (.mv (.tmp 75))]
def pc9_c37 : PCode := .region none false pc9_o37
def pc9_o38 : List POper := [zo 76 (.mv (.tmp 12)),
  zo 77 (.mv (.tmp 76)),
  ⟨some 78, .mv (.tmp 11), some (77, true), []⟩,
  ⟨some 79, .mv (.tmp 1), some (77, true), []⟩,
  ⟨some 80, .load true 4 (.tmp 7), some (77, true), []⟩,
  ⟨some 81, .call true [[(0, 11)], []] 41 [.tmp 79, .tmp 80], some (77, true), []⟩,
  ⟨some 82, .call true [[(0, 11)], [(0, 11)]] 34 [.tmp 78, .tmp 81], some (77, true), []⟩,
  zo 83 (.pick (.tmp 77) (.tmp 82) (.const (.bool false))),
  zo 84 (.mv (.tmp 83)),
  ⟨some 85, .mv (.tmp 0), some (84, true), []⟩,
  ⟨some 86, .load true 4 (.tmp 6), some (84, true), []⟩,
  ⟨some 87, .mv (.tmp 0), some (84, true), []⟩,
  ⟨some 88, .load true 4 (.tmp 6), some (84, true), []⟩,
  ⟨some 89, .call true [[(0, 11)], [], [(0, 11)], []] 38 [.tmp 85, .tmp 86, .tmp 87, .tmp 88], some (84, true), []⟩,
  ⟨some 90, .lenS (.tmp 89), some (84, true), []⟩,
  ⟨some 91, .prim (.bin .eql 3 false true) [.tmp 90, .const (.int .i64 0)], some (84, true), []⟩,
  zo 92 (.pick (.tmp 84) (.tmp 91) (.const (.bool false))),
  zo 8 (.mv (.tmp 92))]
def pc9_c38 : PCode := .region none false pc9_o38
def pc9_c39 : PCode := .ret
def pc9_c40 : PCode := .seq pc9_c38 pc9_c39
def pc9_c41 : PCode := .seq pc9_c37 pc9_c40
def pc9_c42 : PCode := .seq pc9_c36 pc9_c41
def pc9_c43 : PCode := .seq pc9_c16 pc9_c42
def pc9_c44 : PCode := .seq pc9_c15 pc9_c43
def pc9_c45 : PCode := .seq pc9_c8 pc9_c44
def pc9_c46 : PCode := .seq pc9_c1 pc9_c45
def pc9_r : List PRes := [PRes.tmp 8 []]
def pc9 : PFunc := ⟨93, pc9_r, pc9_c46, false⟩
def pc9_a : Ann := {
  kr := fun
    | 7 => some ([0, 1, 6, 7, 9, 10], [6, 7], [])
    | _ => none
  ka := fun
    | _ => 0
  kh := fun
    | 9 => some (.imm)
    | 10 => some (.imm)
    | 44 => some (.imm)
    | 45 => some (.imm)
    | 46 => some (.imm)
    | 47 => some (.imm)
    | 48 => some (.imm)
    | 49 => some (.imm)
    | 50 => some (.imm)
    | 51 => some (.imm)
    | 52 => some (.imm)
    | 53 => some (.imm)
    | 54 => some (.imm)
    | 55 => some (.imm)
    | 56 => some (.imm)
    | 57 => some (.imm)
    | 58 => some (.imm)
    | 59 => some (.imm)
    | 60 => some (.imm)
    | 61 => some (.imm)
    | 62 => some (.imm)
    | 63 => some (.imm)
    | 64 => some (.imm)
    | 65 => some (.imm)
    | 66 => some (.imm)
    | _ => none
  ow := fun t => match t with
    | 96 => [(1, 5, 1)]
    | _ => []
  tc := fun t => match t with
    | 96 => true
    | _ => false }
theorem pc9_ok : compFn Try.prog pc9_a Try.f9 = some pc9 := by kernel_rfl


end Go.Proofs.Ytobeamaaifgllaa
