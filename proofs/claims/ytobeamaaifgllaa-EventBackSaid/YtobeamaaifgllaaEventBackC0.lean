/-
  Code of functions, as the pure machine runs it. No condition.
-/
import Derived.Test.YtobeamaaifgllaaEventBackT
namespace Go.Proofs.Ytobeamaaifgllaa
open Go Go.Rx
set_option maxRecDepth 100000
set_option linter.unusedVariables false
set_option linter.unusedSimpArgs false
set_option linter.unnecessarySimpa false
-- 34: vedette/vedetteref6.SameAll
def pc34_o1 : List POper := [zo 4 (.mv (.const (.bool false)))]
def pc34_c1 : PCode := .region none false pc34_o1
def pc34_o2 : List POper := [zo 6 (.mv (.tmp 0)),
  zo 7 (.lenS (.tmp 6)),
  zo 8 (.mv (.tmp 1)),
  zo 9 (.lenS (.tmp 8)),
  zo 10 (.prim (.bin .neq 3 false false) [.tmp 7, .tmp 9])]
def pc34_c2 : PCode := .region none false pc34_o2
def pc34_o3 : List POper := [zo 4 (.mv (.const (.bool false)))]
def pc34_c3 : PCode := .region none false pc34_o3
def pc34_c4 : PCode := .ret
def pc34_c5 : PCode := .seq pc34_c3 pc34_c4
def pc34_c6 : PCode := .skip
def pc34_c7 : PCode := .cond (.tmp 10) pc34_c5 pc34_c6
def pc34_c8 : PCode := .seq pc34_c2 pc34_c7
def pc34_o9 : List POper := [zo 5 (.mv (.const (.int .i64 0)))]
def pc34_c9 : PCode := .region none false pc34_o9
def pc34_o10 : List POper := [zo 11 (.mv (.tmp 5)),
  zo 12 (.mv (.tmp 0)),
  zo 13 (.lenS (.tmp 12)),
  zo 14 (.prim (.bin .lss 3 false false) [.tmp 11, .tmp 13])]
def pc34_c10 : PCode := .region (some ([0, 1, 5], [], [])) false pc34_o10
def pc34_c11 : PCode := .skip
def pc34_c12 : PCode := .exit 0
def pc34_c13 : PCode := .cond (.tmp 14) pc34_c11 pc34_c12
def pc34_c14 : PCode := .seq pc34_c10 pc34_c13
def pc34_o15 : List POper := [⟨some 17, .mv (.tmp 0), none, [(0, .imm)]⟩,
  ⟨some 18, .mv (.tmp 5), none, [(5, .imm)]⟩,
  ⟨some 19, .iaddrS 11 (.tmp 17) (.tmp 18), none, [(17, .imm), (18, .imm)]⟩,
  ⟨some 20, .load true 11 (.tmp 19), none, [(19, .imm)]⟩,
  ⟨some 21, .mv (.tmp 1), none, [(1, .imm)]⟩,
  ⟨some 22, .mv (.tmp 5), none, [(5, .imm)]⟩,
  ⟨some 23, .iaddrS 11 (.tmp 21) (.tmp 22), none, [(21, .imm), (22, .imm)]⟩,
  ⟨some 24, .load true 11 (.tmp 23), none, [(23, .imm)]⟩,
  ⟨some 25, .prim (.bin .neq 28 false false) [.tmp 20, .tmp 24], none, [(20, .imm), (24, .imm)]⟩]
def pc34_c15 : PCode := .region none true pc34_o15
def pc34_o16 : List POper := [zo 4 (.mv (.const (.bool false)))]
def pc34_c16 : PCode := .region none false pc34_o16
def pc34_c17 : PCode := .ret
def pc34_c18 : PCode := .seq pc34_c16 pc34_c17
def pc34_c19 : PCode := .skip
def pc34_c20 : PCode := .cond (.tmp 25) pc34_c18 pc34_c19
def pc34_c21 : PCode := .seq pc34_c15 pc34_c20
def pc34_c22 : PCode := .block 1 pc34_c21
def pc34_o23 : List POper := [zo 15 (.mv (.tmp 5)),
  zo 16 (.prim (.bin .add 3 false true) [.tmp 15, .const (.int .i64 1)]),
  zo 5 (.mv (.tmp 16))]
def pc34_c23 : PCode := .region none false pc34_o23
def pc34_c24 : PCode := .seq pc34_c22 pc34_c23
def pc34_c25 : PCode := .seq pc34_c14 pc34_c24
def pc34_c26 : PCode := .loop pc34_c25
def pc34_c27 : PCode := .block 0 pc34_c26
def pc34_c28 : PCode := .seq pc34_c9 pc34_c27
def pc34_o29 : List POper := [zo 4 (.mv (.const (.bool true)))]
def pc34_c29 : PCode := .region none false pc34_o29
def pc34_c30 : PCode := .ret
def pc34_c31 : PCode := .seq pc34_c29 pc34_c30
def pc34_c32 : PCode := .seq pc34_c28 pc34_c31
def pc34_c33 : PCode := .seq pc34_c8 pc34_c32
def pc34_c34 : PCode := .seq pc34_c1 pc34_c33
def pc34_r : List PRes := [PRes.tmp 4 []]
def pc34 : PFunc := ⟨26, pc34_r, pc34_c34, false⟩
def pc34_a : Ann := {
  kr := fun
    | 4 => some ([0, 1, 5], [], [])
    | _ => none
  ka := fun
    | _ => 0
  kh := fun
    | 0 => some (.imm)
    | 1 => some (.imm)
    | 5 => some (.imm)
    | 17 => some (.imm)
    | 18 => some (.imm)
    | 19 => some (.imm)
    | 20 => some (.imm)
    | 21 => some (.imm)
    | 22 => some (.imm)
    | 23 => some (.imm)
    | 24 => some (.imm)
    | _ => none
  ow := fun t => match t with
    | 96 => [(1, 5, 1)]
    | _ => []
  tc := fun t => match t with
    | 96 => true
    | _ => false }
theorem pc34_ok : compFn Try.prog pc34_a Try.f34 = some pc34 := by kernel_rfl


-- 67: vedette/geom.On
def pc67_o1 : List POper := [zo 1 (.box 23 (.tmp 0) []),
  zo 2 (.mv (.const (.bool false)))]
def pc67_c1 : PCode := .region none false pc67_o1
def pc67_o2 : List POper := [zo 3 (.faddr 0 (.tmp 1)),
  zo 4 (.load false 1 (.tmp 3)),
  zo 5 (.prim (.bin .geq 3 false true) [.tmp 4, .const (.int .i64 0)]),
  zo 6 (.mv (.tmp 5)),
  ⟨some 7, .faddr 0 (.tmp 1), some (6, true), []⟩,
  ⟨some 8, .load false 1 (.tmp 7), some (6, true), []⟩,
  ⟨some 9, .prim (.bin .lss 3 false true) [.tmp 8, .const (.int .i64 64)], some (6, true), []⟩,
  zo 10 (.pick (.tmp 6) (.tmp 9) (.const (.bool false))),
  zo 11 (.mv (.tmp 10)),
  ⟨some 12, .faddr 1 (.tmp 1), some (11, true), []⟩,
  ⟨some 13, .load false 1 (.tmp 12), some (11, true), []⟩,
  ⟨some 14, .prim (.bin .geq 3 false true) [.tmp 13, .const (.int .i64 0)], some (11, true), []⟩,
  zo 15 (.pick (.tmp 11) (.tmp 14) (.const (.bool false))),
  zo 16 (.mv (.tmp 15)),
  ⟨some 17, .faddr 1 (.tmp 1), some (16, true), []⟩,
  ⟨some 18, .load false 1 (.tmp 17), some (16, true), []⟩,
  ⟨some 19, .prim (.bin .lss 3 false true) [.tmp 18, .const (.int .i64 64)], some (16, true), []⟩,
  zo 20 (.pick (.tmp 16) (.tmp 19) (.const (.bool false))),
  zo 2 (.mv (.tmp 20))]
def pc67_c2 : PCode := .region none false pc67_o2
def pc67_c3 : PCode := .ret
def pc67_c4 : PCode := .seq pc67_c2 pc67_c3
def pc67_c5 : PCode := .seq pc67_c1 pc67_c4
def pc67_r : List PRes := [PRes.tmp 2 []]
def pc67 : PFunc := ⟨21, pc67_r, pc67_c5, false⟩
def pc67_a : Ann := {
  kr := fun
    | _ => none
  ka := fun
    | _ => 0
  kh := fun
    | _ => none
  ow := fun t => match t with
    | 96 => [(1, 5, 1)]
    | _ => []
  tc := fun t => match t with
    | 96 => true
    | _ => false }
theorem pc67_ok : compFn Try.prog pc67_a Try.f67 = some pc67 := by kernel_rfl


-- 70: vedette/fields.IsField
def pc70_o1 : List POper := [zo 1 (.box 25 (.tmp 0) []),
  zo 2 (.mv (.const (.bool false)))]
def pc70_c1 : PCode := .region none false pc70_o1
def pc70_o2 : List POper := [zo 3 (.faddr 0 (.tmp 1)),
  zo 4 (.load false 1 (.tmp 3)),
  zo 5 (.prim (.bin .eql 2 false true) [.tmp 4, .const (.int .i64 0)]),
  zo 6 (.mv (.tmp 5)),
  ⟨some 7, .faddr 1 (.tmp 1), some (6, false), []⟩,
  ⟨some 8, .load false 1 (.tmp 7), some (6, false), []⟩,
  ⟨some 9, .prim (.bin .eql 9 false true) [.tmp 8, .const (.string { data := { toList := [] } })], some (6, false), []⟩,
  zo 10 (.pick (.tmp 6) (.const (.bool true)) (.tmp 9)),
  zo 11 (.mv (.tmp 10)),
  ⟨some 12, .faddr 1 (.tmp 1), some (11, true), []⟩,
  ⟨some 13, .load false 1 (.tmp 12), some (11, true), []⟩,
  ⟨some 14, .prim (.len 9) [.tmp 13], some (11, true), []⟩,
  ⟨some 15, .prim (.bin .leq 3 false true) [.tmp 14, .const (.int .i64 12)], some (11, true), []⟩,
  zo 16 (.pick (.tmp 11) (.tmp 15) (.const (.bool false))),
  zo 2 (.mv (.tmp 16))]
def pc70_c2 : PCode := .region none false pc70_o2
def pc70_c3 : PCode := .ret
def pc70_c4 : PCode := .seq pc70_c2 pc70_c3
def pc70_c5 : PCode := .seq pc70_c1 pc70_c4
def pc70_r : List PRes := [PRes.tmp 2 []]
def pc70 : PFunc := ⟨17, pc70_r, pc70_c5, false⟩
def pc70_a : Ann := {
  kr := fun
    | _ => none
  ka := fun
    | _ => 0
  kh := fun
    | _ => none
  ow := fun t => match t with
    | 96 => [(1, 5, 1)]
    | _ => []
  tc := fun t => match t with
    | 96 => true
    | _ => false }
theorem pc70_ok : compFn Try.prog pc70_a Try.f70 = some pc70 := by kernel_rfl


-- 69: vedette/thing.Is$1
def pc69_o1 : List POper := [zo 1 (.box 25 (.tmp 0) []),
  zo 2 (.mv (.const (.bool false)))]
def pc69_c1 : PCode := .region none false pc69_o1
def pc69_o2 : List POper := [zo 3 (.load true 2 (.tmp 1)),
  zo 4 (.call true [[]] 70 [.tmp 3]),
  zo 5 (.prim (.un .not) [.tmp 4]),
  zo 2 (.mv (.tmp 5))]
def pc69_c2 : PCode := .region none false pc69_o2
def pc69_c3 : PCode := .ret
def pc69_c4 : PCode := .seq pc69_c2 pc69_c3
def pc69_c5 : PCode := .seq pc69_c1 pc69_c4
def pc69_r : List PRes := [PRes.tmp 2 []]
def pc69 : PFunc := ⟨6, pc69_r, pc69_c5, false⟩
def pc69_a : Ann := {
  kr := fun
    | _ => none
  ka := fun
    | _ => 0
  kh := fun
    | _ => none
  ow := fun t => match t with
    | 96 => [(1, 5, 1)]
    | _ => []
  tc := fun t => match t with
    | 96 => true
    | _ => false }
theorem pc69_ok : compFn Try.prog pc69_a Try.f69 = some pc69 := by kernel_rfl


-- 103: slices.IndexFunc[[]vedette/api.Field,vedette/api.Field]
def pc103_o1 : List POper := [zo 4 (.mv (.const (.int .i64 0)))]
def pc103_c1 : PCode := .region none false pc103_o1
def pc103_o2 : List POper := [zo 6 (.mv (.tmp 0)),
  zo 7 (.lenS (.tmp 6)),
  zo 8 (.mv (.const (.int .i64 0)))]
def pc103_c2 : PCode := .region none false pc103_o2
def pc103_o3 : List POper := [zo 9 (.prim (.bin .lss 3 false false) [.tmp 8, .tmp 7])]
def pc103_c3 : PCode := .region (some ([0, 1, 7, 8], [], [])) false pc103_o3
def pc103_c4 : PCode := .skip
def pc103_c5 : PCode := .exit 0
def pc103_c6 : PCode := .cond (.tmp 9) pc103_c4 pc103_c5
def pc103_o7 : List POper := [zo 10 (.mv (.tmp 8)),
  zo 5 (.mv (.tmp 10))]
def pc103_c7 : PCode := .region none false pc103_o7
def pc103_o8 : List POper := [zo 11 (.mv (.tmp 1)),
  zo 12 (.mv (.tmp 0)),
  zo 13 (.mv (.tmp 5)),
  zo 14 (.iaddrS 2 (.tmp 12) (.tmp 13)),
  zo 15 (.load true 2 (.tmp 14)),
  zo 16 (.callv true [[]] (.tmp 11) [.tmp 15])]
def pc103_c8 : PCode := .region none false pc103_o8
def pc103_o9 : List POper := [zo 17 (.mv (.tmp 5)),
  zo 4 (.mv (.tmp 17))]
def pc103_c9 : PCode := .region none false pc103_o9
def pc103_c10 : PCode := .ret
def pc103_c11 : PCode := .seq pc103_c9 pc103_c10
def pc103_c12 : PCode := .skip
def pc103_c13 : PCode := .cond (.tmp 16) pc103_c11 pc103_c12
def pc103_c14 : PCode := .seq pc103_c8 pc103_c13
def pc103_c15 : PCode := .seq pc103_c7 pc103_c14
def pc103_c16 : PCode := .block 1 pc103_c15
def pc103_o17 : List POper := [zo 18 (.prim (.bin .add 3 false true) [.tmp 8, .const (.int .i64 1)]),
  zo 8 (.mv (.tmp 18))]
def pc103_c17 : PCode := .region none false pc103_o17
def pc103_c18 : PCode := .seq pc103_c16 pc103_c17
def pc103_c19 : PCode := .seq pc103_c6 pc103_c18
def pc103_c20 : PCode := .seq pc103_c3 pc103_c19
def pc103_c21 : PCode := .loop pc103_c20
def pc103_c22 : PCode := .block 0 pc103_c21
def pc103_c23 : PCode := .seq pc103_c2 pc103_c22
def pc103_o24 : List POper := [zo 4 (.mv (.const (.int .i64 (-1))))]
def pc103_c24 : PCode := .region none false pc103_o24
def pc103_c25 : PCode := .ret
def pc103_c26 : PCode := .seq pc103_c24 pc103_c25
def pc103_c27 : PCode := .seq pc103_c23 pc103_c26
def pc103_c28 : PCode := .seq pc103_c1 pc103_c27
def pc103_r : List PRes := [PRes.tmp 4 []]
def pc103 : PFunc := ⟨19, pc103_r, pc103_c28, false⟩
def pc103_a : Ann := {
  kr := fun
    | 2 => some ([0, 1, 7, 8], [], [])
    | _ => none
  ka := fun
    | _ => 0
  kh := fun
    | _ => none
  ow := fun t => match t with
    | 96 => [(1, 5, 1)]
    | _ => []
  tc := fun t => match t with
    | 96 => true
    | _ => false }
theorem pc103_ok : compFn Try.prog pc103_a Try.f103 = some pc103 := by kernel_rfl


-- 68: slices.ContainsFunc[[]vedette/api.Field,vedette/api.Field]
def pc68_o1 : List POper := [zo 4 (.mv (.const (.bool false)))]
def pc68_c1 : PCode := .region none false pc68_o1
def pc68_o2 : List POper := [zo 5 (.mv (.tmp 0)),
  zo 6 (.mv (.tmp 1)),
  zo 7 (.gcall false false [300000, 300001, 300002, 300003, 300004, 300005, 300006, 300007] [[(0, 2)], []] 103 [.tmp 5, .tmp 6]),
  zo 8 (.prim (.bin .geq 3 false true) [.tmp 7, .const (.int .i64 0)]),
  zo 4 (.mv (.tmp 8))]
def pc68_c2 : PCode := .region none false pc68_o2
def pc68_c3 : PCode := .ret
def pc68_c4 : PCode := .seq pc68_c2 pc68_c3
def pc68_c5 : PCode := .seq pc68_c1 pc68_c4
def pc68_r : List PRes := [PRes.tmp 4 []]
def pc68 : PFunc := ⟨9, pc68_r, pc68_c5, false⟩
def pc68_a : Ann := {
  kr := fun
    | _ => none
  ka := fun
    | _ => 0
  kh := fun
    | _ => none
  gf := fun d f => match d, f with
    | some 7, 103 => some (false, false, [300000, 300001, 300002, 300003, 300004, 300005, 300006, 300007])
    | _, _ => none
  ow := fun t => match t with
    | 96 => [(1, 5, 1)]
    | _ => []
  tc := fun t => match t with
    | 96 => true
    | _ => false }
theorem pc68_ok : compFn Try.prog pc68_a Try.f68 = some pc68 := by kernel_rfl


-- 24: vedette/thing.Is
def pc24_o1 : List POper := [zo 1 (.box 28 (.tmp 0) []),
  zo 2 (.mv (.const (.bool false)))]
def pc24_c1 : PCode := .region none false pc24_o1
def pc24_o2 : List POper := [zo 3 (.faddr 0 (.tmp 1)),
  zo 4 (.load false 1 (.tmp 3)),
  zo 5 (.prim (.bin .geq 3 false true) [.tmp 4, .const (.int .i64 0)]),
  zo 6 (.mv (.tmp 5)),
  ⟨some 7, .faddr 0 (.tmp 1), some (6, true), []⟩,
  ⟨some 8, .load false 1 (.tmp 7), some (6, true), []⟩,
  ⟨some 9, .prim (.bin .leq 3 false true) [.tmp 8, .const (.int .i64 1000000)], some (6, true), []⟩,
  zo 10 (.pick (.tmp 6) (.tmp 9) (.const (.bool false))),
  zo 11 (.mv (.tmp 10)),
  ⟨some 12, .faddr 1 (.tmp 1), some (11, true), []⟩,
  ⟨some 13, .load true 2 (.tmp 12), some (11, true), []⟩,
  ⟨some 14, .call true [[]] 67 [.tmp 13], some (11, true), []⟩,
  zo 15 (.pick (.tmp 11) (.tmp 14) (.const (.bool false))),
  zo 16 (.mv (.tmp 15)),
  ⟨some 17, .faddr 3 (.tmp 1), some (16, true), []⟩,
  ⟨some 18, .slcA 4 2 (.tmp 17) none none, some (16, true), []⟩,
  ⟨some 19, .gcall false false [1, 300000, 300001, 300002, 300003, 300004, 300005, 300006, 300007] [[(0, 2)], []] 68 [.tmp 18, .func 69], some (16, true), []⟩,
  ⟨some 20, .prim (.un .not) [.tmp 19], some (16, true), []⟩,
  zo 21 (.pick (.tmp 16) (.tmp 20) (.const (.bool false))),
  zo 2 (.mv (.tmp 21))]
def pc24_c2 : PCode := .region none false pc24_o2
def pc24_c3 : PCode := .ret
def pc24_c4 : PCode := .seq pc24_c2 pc24_c3
def pc24_c5 : PCode := .seq pc24_c1 pc24_c4
def pc24_r : List PRes := [PRes.tmp 2 []]
def pc24 : PFunc := ⟨22, pc24_r, pc24_c5, false⟩
def pc24_a : Ann := {
  kr := fun
    | _ => none
  ka := fun
    | _ => 0
  kh := fun
    | _ => none
  gf := fun d f => match d, f with
    | some 19, 68 => some (false, false, [1, 300000, 300001, 300002, 300003, 300004, 300005, 300006, 300007])
    | _, _ => none
  ow := fun t => match t with
    | 96 => [(1, 5, 1)]
    | _ => []
  tc := fun t => match t with
    | 96 => true
    | _ => false }
theorem pc24_ok : compFn Try.prog pc24_a Try.f24 = some pc24 := by kernel_rfl


-- 99: vedette/fields.has
def pc99_o1 : List POper := [zo 4 (.mv (.const (.bool false)))]
def pc99_c1 : PCode := .region none false pc99_o1
def pc99_o2 : List POper := [zo 5 (.mv (.tmp 0)),
  zo 6 (.mv (.tmp 1)),
  zo 7 (.prim (.bin .add 3 false true) [.tmp 6, .const (.int .i64 1)]),
  zo 8 (.prim (.bin .shr 5 false false) [.tmp 5, .tmp 7]),
  zo 9 (.prim (.bin .and 5 false true) [.tmp 8, .const (.int .u8 1)]),
  zo 10 (.prim (.bin .eql 5 false true) [.tmp 9, .const (.int .u8 1)]),
  zo 4 (.mv (.tmp 10))]
def pc99_c2 : PCode := .region none false pc99_o2
def pc99_c3 : PCode := .ret
def pc99_c4 : PCode := .seq pc99_c2 pc99_c3
def pc99_c5 : PCode := .seq pc99_c1 pc99_c4
def pc99_r : List PRes := [PRes.tmp 4 []]
def pc99 : PFunc := ⟨11, pc99_r, pc99_c5, false⟩
def pc99_a : Ann := {
  kr := fun
    | _ => none
  ka := fun
    | _ => 0
  kh := fun
    | _ => none
  ow := fun t => match t with
    | 96 => [(1, 5, 1)]
    | _ => []
  tc := fun t => match t with
    | 96 => true
    | _ => false }
theorem pc99_ok : compFn Try.prog pc99_a Try.f99 = some pc99 := by kernel_rfl


-- 77: vedette/fields.IsDelta
def pc77_o1 : List POper := [zo 1 (.box 35 (.tmp 0) []),
  zo 2 (.mv (.const (.bool false)))]
def pc77_c1 : PCode := .region none false pc77_o1
def pc77_o2 : List POper := [zo 5 (.faddr 0 (.tmp 1)),
  zo 6 (.load false 1 (.tmp 5)),
  zo 7 (.prim (.bin .lss 3 false true) [.tmp 6, .const (.int .i64 0)]),
  zo 8 (.mv (.tmp 7)),
  ⟨some 9, .faddr 0 (.tmp 1), some (8, false), []⟩,
  ⟨some 10, .load false 1 (.tmp 9), some (8, false), []⟩,
  ⟨some 11, .prim (.bin .gtr 3 false true) [.tmp 10, .const (.int .i64 1000000)], some (8, false), []⟩,
  zo 12 (.pick (.tmp 8) (.const (.bool true)) (.tmp 11)),
  zo 13 (.mv (.tmp 12)),
  ⟨some 14, .faddr 1 (.tmp 1), some (13, false), []⟩,
  ⟨some 15, .load false 1 (.tmp 14), some (13, false), []⟩,
  ⟨some 16, .prim (.bin .eql 5 false true) [.tmp 15, .const (.int .u8 0)], some (13, false), []⟩,
  zo 17 (.pick (.tmp 13) (.const (.bool true)) (.tmp 16)),
  zo 18 (.mv (.tmp 17)),
  ⟨some 19, .faddr 1 (.tmp 1), some (18, false), []⟩,
  ⟨some 20, .load false 1 (.tmp 19), some (18, false), []⟩,
  ⟨some 21, .prim (.bin .gtr 5 false true) [.tmp 20, .const (.int .u8 31)], some (18, false), []⟩,
  zo 22 (.pick (.tmp 18) (.const (.bool true)) (.tmp 21))]
def pc77_c2 : PCode := .region none false pc77_o2
def pc77_o3 : List POper := [zo 2 (.mv (.const (.bool false)))]
def pc77_c3 : PCode := .region none false pc77_o3
def pc77_c4 : PCode := .ret
def pc77_c5 : PCode := .seq pc77_c3 pc77_c4
def pc77_c6 : PCode := .skip
def pc77_c7 : PCode := .cond (.tmp 22) pc77_c5 pc77_c6
def pc77_c8 : PCode := .seq pc77_c2 pc77_c7
def pc77_o9 : List POper := [zo 23 (.faddr 1 (.tmp 1)),
  zo 24 (.load false 1 (.tmp 23)),
  zo 25 (.prim (.bin .and 5 false true) [.tmp 24, .const (.int .u8 1)]),
  zo 26 (.prim (.bin .eql 5 false true) [.tmp 25, .const (.int .u8 0)]),
  zo 27 (.mv (.tmp 26)),
  ⟨some 28, .faddr 2 (.tmp 1), some (27, true), []⟩,
  ⟨some 29, .load true 2 (.tmp 28), some (27, true), []⟩,
  ⟨some 30, .build (.agg { toList := [.int .i64 0, .int .i64 0] }) [], some (27, true), []⟩,
  ⟨some 31, .prim (.bin .neq 23 false false) [.tmp 29, .tmp 30], some (27, true), []⟩,
  zo 32 (.pick (.tmp 27) (.tmp 31) (.const (.bool false))),
  zo 33 (.mv (.tmp 32)),
  ⟨some 34, .faddr 2 (.tmp 1), some (33, false), []⟩,
  ⟨some 35, .load true 2 (.tmp 34), some (33, false), []⟩,
  ⟨some 36, .call true [[]] 67 [.tmp 35], some (33, false), []⟩,
  ⟨some 37, .prim (.un .not) [.tmp 36], some (33, false), []⟩,
  zo 38 (.pick (.tmp 33) (.const (.bool true)) (.tmp 37))]
def pc77_c9 : PCode := .region none false pc77_o9
def pc77_o10 : List POper := [zo 2 (.mv (.const (.bool false)))]
def pc77_c10 : PCode := .region none false pc77_o10
def pc77_c11 : PCode := .ret
def pc77_c12 : PCode := .seq pc77_c10 pc77_c11
def pc77_c13 : PCode := .skip
def pc77_c14 : PCode := .cond (.tmp 38) pc77_c12 pc77_c13
def pc77_c15 : PCode := .seq pc77_c9 pc77_c14
def pc77_o16 : List POper := [zo 39 (.faddr 4 (.tmp 1)),
  zo 40 (.load true 8 (.tmp 39)),
  zo 41 (.mv (.const (.int .i64 0)))]
def pc77_c16 : PCode := .region (some ([1], [1], [])) false pc77_o16
def pc77_o17 : List POper := [zo 42 (.prim (.bin .lss 3 false true) [.tmp 41, .const (.int .i64 4)])]
def pc77_c17 : PCode := .region (some ([1, 40, 41], [1, 4], [])) false pc77_o17
def pc77_c18 : PCode := .skip
def pc77_c19 : PCode := .exit 0
def pc77_c20 : PCode := .cond (.tmp 42) pc77_c18 pc77_c19
def pc77_o21 : List POper := [zo 43 (.mv (.tmp 41)),
  zo 44 (.idx true 2 4 (.tmp 40) (.tmp 41)),
  zo 4 (.alloc 25 (.agg { toList := [.int .i64 0, .string { data := { toList := [] } }] }) []),
  zo 3 (.mv (.tmp 43)),
  ⟨none, .store 2 (.tmp 4) (.tmp 44), none, []⟩]
def pc77_c21 : PCode := .region none false pc77_o21
def pc77_o22 : List POper := [zo 45 (.load true 2 (.tmp 4)),
  zo 46 (.call true [[]] 70 [.tmp 45]),
  zo 47 (.prim (.un .not) [.tmp 46]),
  zo 48 (.mv (.tmp 47)),
  ⟨some 49, .faddr 1 (.tmp 1), some (48, false), []⟩,
  ⟨some 50, .load false 1 (.tmp 49), some (48, false), []⟩,
  ⟨some 51, .mv (.tmp 3), some (48, false), []⟩,
  ⟨some 52, .call true [[], []] 99 [.tmp 50, .tmp 51], some (48, false), []⟩,
  ⟨some 53, .prim (.un .not) [.tmp 52], some (48, false), []⟩,
  ⟨some 54, .mv (.tmp 53), some (48, false), []⟩,
  ⟨some 55, .load true 2 (.tmp 4), some (54, true), []⟩,
  ⟨some 56, .build (.agg { toList := [.int .i64 0, .string { data := { toList := [] } }] }) [], some (54, true), []⟩,
  ⟨some 57, .prim (.bin .neq 25 false false) [.tmp 55, .tmp 56], some (54, true), []⟩,
  ⟨some 58, .pick (.tmp 54) (.tmp 57) (.const (.bool false)), some (48, false), []⟩,
  zo 59 (.pick (.tmp 48) (.const (.bool true)) (.tmp 58))]
def pc77_c22 : PCode := .region none false pc77_o22
def pc77_o23 : List POper := [zo 2 (.mv (.const (.bool false)))]
def pc77_c23 : PCode := .region none false pc77_o23
def pc77_c24 : PCode := .ret
def pc77_c25 : PCode := .seq pc77_c23 pc77_c24
def pc77_c26 : PCode := .skip
def pc77_c27 : PCode := .cond (.tmp 59) pc77_c25 pc77_c26
def pc77_c28 : PCode := .seq pc77_c22 pc77_c27
def pc77_c29 : PCode := .seq pc77_c21 pc77_c28
def pc77_c30 : PCode := .block 1 pc77_c29
def pc77_o31 : List POper := [zo 60 (.prim (.bin .add 3 false true) [.tmp 41, .const (.int .i64 1)]),
  zo 41 (.mv (.tmp 60))]
def pc77_c31 : PCode := .region none false pc77_o31
def pc77_c32 : PCode := .seq pc77_c30 pc77_c31
def pc77_c33 : PCode := .seq pc77_c20 pc77_c32
def pc77_c34 : PCode := .seq pc77_c17 pc77_c33
def pc77_c35 : PCode := .loop pc77_c34
def pc77_c36 : PCode := .block 0 pc77_c35
def pc77_c37 : PCode := .seq pc77_c16 pc77_c36
def pc77_o38 : List POper := [zo 2 (.mv (.const (.bool true)))]
def pc77_c38 : PCode := .region none false pc77_o38
def pc77_c39 : PCode := .ret
def pc77_c40 : PCode := .seq pc77_c38 pc77_c39
def pc77_c41 : PCode := .seq pc77_c37 pc77_c40
def pc77_c42 : PCode := .seq pc77_c15 pc77_c41
def pc77_c43 : PCode := .seq pc77_c8 pc77_c42
def pc77_c44 : PCode := .seq pc77_c1 pc77_c43
def pc77_r : List PRes := [PRes.tmp 2 []]
def pc77 : PFunc := ⟨61, pc77_r, pc77_c44, false⟩
def pc77_a : Ann := {
  kr := fun
    | 5 => some ([1], [1], [])
    | 6 => some ([1, 40, 41], [1, 4], [])
    | _ => none
  ka := fun
    | _ => 0
  kh := fun
    | _ => none
  ow := fun t => match t with
    | 96 => [(1, 5, 1)]
    | _ => []
  tc := fun t => match t with
    | 96 => true
    | _ => false }
theorem pc77_ok : compFn Try.prog pc77_a Try.f77 = some pc77 := by kernel_rfl


-- 39: vedette/event.Is
def pc39_o1 : List POper := [zo 1 (.box 67 (.tmp 0) []),
  zo 2 (.mv (.const (.bool false)))]
def pc39_c1 : PCode := .region none false pc39_o1
def pc39_o2 : List POper := [⟨some 5, .faddr 2 (.tmp 1), none, [(1, .at_ 1 0)]⟩,
  ⟨some 6, .load true 11 (.tmp 5), none, [(5, .at_ 1 2)]⟩,
  zo 7 (.build (.agg { toList := [.int .i64 0, .int .i64 0, .int .i64 0, .int .i64 0, .string { data := { toList := [] } }, .int .i64 0, .string { data := { toList := [] } }, .int .i64 0, .string { data := { toList := [] } }, .int .i64 0, .string { data := { toList := [] } }] }) []),
  ⟨some 8, .prim (.bin .eql 28 false false) [.tmp 6, .tmp 7], none, [(6, .imm), (7, .imm)]⟩,
  ⟨some 9, .faddr 13 (.tmp 1), none, [(1, .at_ 1 0)]⟩,
  ⟨some 10, .load true 12 (.tmp 9), none, [(9, .at_ 1 13)]⟩,
  zo 11 (.build (.agg { toList := [.int .i64 0, .int .u8 0, .int .i64 0, .int .i64 0, .int .i64 0, .string { data := { toList := [] } }, .int .i64 0, .string { data := { toList := [] } }, .int .i64 0, .string { data := { toList := [] } }, .int .i64 0, .string { data := { toList := [] } }] }) []),
  ⟨some 12, .prim (.bin .eql 35 false false) [.tmp 10, .tmp 11], none, [(10, .imm), (11, .imm)]⟩,
  ⟨some 3, .mv (.tmp 8), none, [(8, .imm)]⟩,
  ⟨some 4, .mv (.tmp 12), none, [(12, .imm)]⟩]
def pc39_c2 : PCode := .region none true pc39_o2
def pc39_o3 : List POper := [zo 13 (.faddr 0 (.tmp 1)),
  zo 14 (.load false 1 (.tmp 13))]
def pc39_c3 : PCode := .region none false pc39_o3
def pc39_o4 : List POper := [zo 16 (.prim (.bin .eql 3 false true) [.tmp 14, .const (.int .i64 1)]),
  zo 15 (.mv (.tmp 16))]
def pc39_c4 : PCode := .region none false pc39_o4
def pc39_o5 : List POper := [zo 17 (.faddr 2 (.tmp 1)),
  zo 18 (.load true 11 (.tmp 17)),
  zo 19 (.call true [[]] 24 [.tmp 18]),
  zo 20 (.mv (.tmp 19)),
  ⟨some 21, .faddr 1 (.tmp 1), some (20, true), []⟩,
  ⟨some 22, .load false 1 (.tmp 21), some (20, true), []⟩,
  ⟨some 23, .faddr 2 (.tmp 1), some (20, true), []⟩,
  ⟨some 24, .faddr 0 (.tmp 23), some (20, true), []⟩,
  ⟨some 25, .load false 1 (.tmp 24), some (20, true), []⟩,
  ⟨some 26, .prim (.bin .eql 3 false false) [.tmp 22, .tmp 25], some (20, true), []⟩,
  zo 27 (.pick (.tmp 20) (.tmp 26) (.const (.bool false))),
  zo 28 (.mv (.tmp 27)),
  ⟨some 29, .mv (.tmp 4), some (28, true), []⟩,
  zo 30 (.pick (.tmp 28) (.tmp 29) (.const (.bool false))),
  zo 2 (.mv (.tmp 30))]
def pc39_c5 : PCode := .region none false pc39_o5
def pc39_c6 : PCode := .ret
def pc39_c7 : PCode := .seq pc39_c5 pc39_c6
def pc39_o8 : List POper := [zo 32 (.prim (.bin .eql 3 false true) [.tmp 14, .const (.int .i64 2)]),
  zo 31 (.mv (.tmp 32))]
def pc39_c8 : PCode := .region none false pc39_o8
def pc39_o9 : List POper := [zo 33 (.faddr 13 (.tmp 1)),
  zo 34 (.load true 12 (.tmp 33)),
  zo 35 (.call true [[]] 77 [.tmp 34]),
  zo 36 (.mv (.tmp 35)),
  ⟨some 37, .faddr 1 (.tmp 1), some (36, true), []⟩,
  ⟨some 38, .load false 1 (.tmp 37), some (36, true), []⟩,
  ⟨some 39, .faddr 13 (.tmp 1), some (36, true), []⟩,
  ⟨some 40, .faddr 0 (.tmp 39), some (36, true), []⟩,
  ⟨some 41, .load false 1 (.tmp 40), some (36, true), []⟩,
  ⟨some 42, .prim (.bin .eql 3 false false) [.tmp 38, .tmp 41], some (36, true), []⟩,
  zo 43 (.pick (.tmp 36) (.tmp 42) (.const (.bool false))),
  zo 44 (.mv (.tmp 43)),
  ⟨some 45, .mv (.tmp 3), some (44, true), []⟩,
  zo 46 (.pick (.tmp 44) (.tmp 45) (.const (.bool false))),
  zo 2 (.mv (.tmp 46))]
def pc39_c9 : PCode := .region none false pc39_o9
def pc39_c10 : PCode := .ret
def pc39_c11 : PCode := .seq pc39_c9 pc39_c10
def pc39_o12 : List POper := [zo 48 (.prim (.bin .eql 3 false true) [.tmp 14, .const (.int .i64 3)]),
  zo 47 (.mv (.tmp 48))]
def pc39_c12 : PCode := .region none false pc39_o12
def pc39_o13 : List POper := [zo 49 (.faddr 1 (.tmp 1)),
  zo 50 (.load false 1 (.tmp 49)),
  zo 51 (.prim (.bin .geq 3 false true) [.tmp 50, .const (.int .i64 0)]),
  zo 52 (.mv (.tmp 51)),
  ⟨some 53, .faddr 1 (.tmp 1), some (52, true), []⟩,
  ⟨some 54, .load false 1 (.tmp 53), some (52, true), []⟩,
  ⟨some 55, .prim (.bin .leq 3 false true) [.tmp 54, .const (.int .i64 1000000)], some (52, true), []⟩,
  zo 56 (.pick (.tmp 52) (.tmp 55) (.const (.bool false))),
  zo 57 (.mv (.tmp 56)),
  ⟨some 58, .mv (.tmp 3), some (57, true), []⟩,
  zo 59 (.pick (.tmp 57) (.tmp 58) (.const (.bool false))),
  zo 60 (.mv (.tmp 59)),
  ⟨some 61, .mv (.tmp 4), some (60, true), []⟩,
  zo 62 (.pick (.tmp 60) (.tmp 61) (.const (.bool false))),
  zo 2 (.mv (.tmp 62))]
def pc39_c13 : PCode := .region none false pc39_o13
def pc39_c14 : PCode := .ret
def pc39_c15 : PCode := .seq pc39_c13 pc39_c14
def pc39_c16 : PCode := .skip
def pc39_c17 : PCode := .cond (.tmp 47) pc39_c15 pc39_c16
def pc39_c18 : PCode := .seq pc39_c12 pc39_c17
def pc39_c19 : PCode := .cond (.tmp 31) pc39_c11 pc39_c18
def pc39_c20 : PCode := .seq pc39_c8 pc39_c19
def pc39_c21 : PCode := .cond (.tmp 15) pc39_c7 pc39_c20
def pc39_c22 : PCode := .seq pc39_c4 pc39_c21
def pc39_c23 : PCode := .block 0 pc39_c22
def pc39_c24 : PCode := .seq pc39_c3 pc39_c23
def pc39_o25 : List POper := [zo 2 (.mv (.const (.bool false)))]
def pc39_c25 : PCode := .region none false pc39_o25
def pc39_c26 : PCode := .ret
def pc39_c27 : PCode := .seq pc39_c25 pc39_c26
def pc39_c28 : PCode := .seq pc39_c24 pc39_c27
def pc39_c29 : PCode := .seq pc39_c2 pc39_c28
def pc39_c30 : PCode := .seq pc39_c1 pc39_c29
def pc39_r : List PRes := [PRes.tmp 2 []]
def pc39 : PFunc := ⟨63, pc39_r, pc39_c30, false⟩
def pc39_a : Ann := {
  kr := fun
    | _ => none
  ka := fun
    | _ => 0
  kh := fun
    | 1 => some (.at_ 1 0)
    | 5 => some (.at_ 1 2)
    | 6 => some (.imm)
    | 7 => some (.imm)
    | 8 => some (.imm)
    | 9 => some (.at_ 1 13)
    | 10 => some (.imm)
    | 11 => some (.imm)
    | 12 => some (.imm)
    | _ => none
  ow := fun t => match t with
    | 96 => [(1, 5, 1)]
    | _ => []
  tc := fun t => match t with
    | 96 => true
    | _ => false }
theorem pc39_ok : compFn Try.prog pc39_a Try.f39 = some pc39 := by kernel_rfl


-- 111: cmp.isNaN[int]
def pc111_o1 : List POper := [zo 2 (.mv (.const (.bool false)))]
def pc111_c1 : PCode := .region none false pc111_o1
def pc111_o2 : List POper := [zo 3 (.mv (.tmp 0)),
  zo 4 (.mv (.tmp 0)),
  zo 5 (.prim (.bin .neq 3 false false) [.tmp 3, .tmp 4]),
  zo 2 (.mv (.tmp 5))]
def pc111_c2 : PCode := .region none false pc111_o2
def pc111_c3 : PCode := .ret
def pc111_c4 : PCode := .seq pc111_c2 pc111_c3
def pc111_c5 : PCode := .seq pc111_c1 pc111_c4
def pc111_r : List PRes := [PRes.tmp 2 []]
def pc111 : PFunc := ⟨6, pc111_r, pc111_c5, false⟩
def pc111_a : Ann := {
  kr := fun
    | _ => none
  ka := fun
    | _ => 0
  kh := fun
    | _ => none
  ow := fun t => match t with
    | 96 => [(1, 5, 1)]
    | _ => []
  tc := fun t => match t with
    | 96 => true
    | _ => false }
theorem pc111_ok : compFn Try.prog pc111_a Try.f111 = some pc111 := by kernel_rfl


-- 86: cmp.Compare[int]
def pc86_o1 : List POper := [zo 4 (.mv (.const (.int .i64 0)))]
def pc86_c1 : PCode := .region none false pc86_o1
def pc86_o2 : List POper := [zo 7 (.mv (.tmp 0)),
  zo 8 (.call true [[]] 111 [.tmp 7]),
  zo 5 (.mv (.tmp 8))]
def pc86_c2 : PCode := .region none false pc86_o2
def pc86_o3 : List POper := [zo 9 (.mv (.tmp 1)),
  zo 10 (.call true [[]] 111 [.tmp 9]),
  zo 6 (.mv (.tmp 10))]
def pc86_c3 : PCode := .region none false pc86_o3
def pc86_o4 : List POper := [zo 11 (.mv (.tmp 5))]
def pc86_c4 : PCode := .region none false pc86_o4
def pc86_o5 : List POper := [zo 12 (.mv (.tmp 6))]
def pc86_c5 : PCode := .region none false pc86_o5
def pc86_o6 : List POper := [zo 4 (.mv (.const (.int .i64 0)))]
def pc86_c6 : PCode := .region none false pc86_o6
def pc86_c7 : PCode := .ret
def pc86_c8 : PCode := .seq pc86_c6 pc86_c7
def pc86_c9 : PCode := .skip
def pc86_c10 : PCode := .cond (.tmp 12) pc86_c8 pc86_c9
def pc86_c11 : PCode := .seq pc86_c5 pc86_c10
def pc86_o12 : List POper := [zo 4 (.mv (.const (.int .i64 (-1))))]
def pc86_c12 : PCode := .region none false pc86_o12
def pc86_c13 : PCode := .ret
def pc86_c14 : PCode := .seq pc86_c12 pc86_c13
def pc86_c15 : PCode := .seq pc86_c11 pc86_c14
def pc86_c16 : PCode := .skip
def pc86_c17 : PCode := .cond (.tmp 11) pc86_c15 pc86_c16
def pc86_c18 : PCode := .seq pc86_c4 pc86_c17
def pc86_o19 : List POper := [zo 13 (.mv (.tmp 6))]
def pc86_c19 : PCode := .region none false pc86_o19
def pc86_o20 : List POper := [zo 4 (.mv (.const (.int .i64 1)))]
def pc86_c20 : PCode := .region none false pc86_o20
def pc86_c21 : PCode := .ret
def pc86_c22 : PCode := .seq pc86_c20 pc86_c21
def pc86_c23 : PCode := .skip
def pc86_c24 : PCode := .cond (.tmp 13) pc86_c22 pc86_c23
def pc86_c25 : PCode := .seq pc86_c19 pc86_c24
def pc86_o26 : List POper := [zo 14 (.mv (.tmp 0)),
  zo 15 (.mv (.tmp 1)),
  zo 16 (.prim (.bin .lss 3 false false) [.tmp 14, .tmp 15])]
def pc86_c26 : PCode := .region none false pc86_o26
def pc86_o27 : List POper := [zo 4 (.mv (.const (.int .i64 (-1))))]
def pc86_c27 : PCode := .region none false pc86_o27
def pc86_c28 : PCode := .ret
def pc86_c29 : PCode := .seq pc86_c27 pc86_c28
def pc86_c30 : PCode := .skip
def pc86_c31 : PCode := .cond (.tmp 16) pc86_c29 pc86_c30
def pc86_c32 : PCode := .seq pc86_c26 pc86_c31
def pc86_o33 : List POper := [zo 17 (.mv (.tmp 0)),
  zo 18 (.mv (.tmp 1)),
  zo 19 (.prim (.bin .gtr 3 false false) [.tmp 17, .tmp 18])]
def pc86_c33 : PCode := .region none false pc86_o33
def pc86_o34 : List POper := [zo 4 (.mv (.const (.int .i64 1)))]
def pc86_c34 : PCode := .region none false pc86_o34
def pc86_c35 : PCode := .ret
def pc86_c36 : PCode := .seq pc86_c34 pc86_c35
def pc86_c37 : PCode := .skip
def pc86_c38 : PCode := .cond (.tmp 19) pc86_c36 pc86_c37
def pc86_c39 : PCode := .seq pc86_c33 pc86_c38
def pc86_o40 : List POper := [zo 4 (.mv (.const (.int .i64 0)))]
def pc86_c40 : PCode := .region none false pc86_o40
def pc86_c41 : PCode := .ret
def pc86_c42 : PCode := .seq pc86_c40 pc86_c41
def pc86_c43 : PCode := .seq pc86_c39 pc86_c42
def pc86_c44 : PCode := .seq pc86_c32 pc86_c43
def pc86_c45 : PCode := .seq pc86_c25 pc86_c44
def pc86_c46 : PCode := .seq pc86_c18 pc86_c45
def pc86_c47 : PCode := .seq pc86_c3 pc86_c46
def pc86_c48 : PCode := .seq pc86_c2 pc86_c47
def pc86_c49 : PCode := .seq pc86_c1 pc86_c48
def pc86_r : List PRes := [PRes.tmp 4 []]
def pc86 : PFunc := ⟨20, pc86_r, pc86_c49, false⟩
def pc86_a : Ann := {
  kr := fun
    | _ => none
  ka := fun
    | _ => 0
  kh := fun
    | _ => none
  ow := fun t => match t with
    | 96 => [(1, 5, 1)]
    | _ => []
  tc := fun t => match t with
    | 96 => true
    | _ => false }
theorem pc86_ok : compFn Try.prog pc86_a Try.f86 = some pc86 := by kernel_rfl


-- 85: vedette/event.Apply$1
def pc85_o1 : List POper := [zo 2 (.box 28 (.tmp 0) []),
  zo 4 (.mv (.const (.int .i64 0)))]
def pc85_c1 : PCode := .region none false pc85_o1
def pc85_o2 : List POper := [zo 5 (.faddr 0 (.tmp 2)),
  zo 6 (.load false 1 (.tmp 5)),
  zo 7 (.mv (.tmp 1)),
  zo 8 (.call true [[], []] 86 [.tmp 6, .tmp 7]),
  zo 4 (.mv (.tmp 8))]
def pc85_c2 : PCode := .region none false pc85_o2
def pc85_c3 : PCode := .ret
def pc85_c4 : PCode := .seq pc85_c2 pc85_c3
def pc85_c5 : PCode := .seq pc85_c1 pc85_c4
def pc85_r : List PRes := [PRes.tmp 4 []]
def pc85 : PFunc := ⟨9, pc85_r, pc85_c5, false⟩
def pc85_a : Ann := {
  kr := fun
    | _ => none
  ka := fun
    | _ => 0
  kh := fun
    | _ => none
  ow := fun t => match t with
    | 96 => [(1, 5, 1)]
    | _ => []
  tc := fun t => match t with
    | 96 => true
    | _ => false }
theorem pc85_ok : compFn Try.prog pc85_a Try.f85 = some pc85 := by kernel_rfl


-- 84: slices.BinarySearchFunc[[]vedette/api.Thing,vedette/api.Thing,int]
def pc84_o1 : List POper := [zo 6 (.mv (.const (.int .i64 0))),
  zo 7 (.mv (.const (.bool false)))]
def pc84_c1 : PCode := .region none false pc84_o1
def pc84_o2 : List POper := [zo 12 (.mv (.tmp 0)),
  zo 13 (.lenS (.tmp 12)),
  zo 8 (.mv (.tmp 13))]
def pc84_c2 : PCode := .region none false pc84_o2
def pc84_o3 : List POper := [zo 14 (.mv (.tmp 8)),
  zo 9 (.mv (.const (.int .i64 0))),
  zo 10 (.mv (.tmp 14))]
def pc84_c3 : PCode := .region none false pc84_o3
def pc84_o4 : List POper := [zo 15 (.mv (.tmp 9)),
  zo 16 (.mv (.tmp 10)),
  zo 17 (.prim (.bin .lss 3 false false) [.tmp 15, .tmp 16])]
def pc84_c4 : PCode := .region (some ([0, 1, 2, 8, 9, 10], [], [])) false pc84_o4
def pc84_c5 : PCode := .skip
def pc84_c6 : PCode := .exit 0
def pc84_c7 : PCode := .cond (.tmp 17) pc84_c5 pc84_c6
def pc84_c8 : PCode := .seq pc84_c4 pc84_c7
def pc84_o9 : List POper := [zo 18 (.mv (.tmp 9)),
  zo 19 (.mv (.tmp 10)),
  zo 20 (.prim (.bin .add 3 false false) [.tmp 18, .tmp 19]),
  zo 21 (.prim (.conv 3 90) [.tmp 20]),
  zo 22 (.prim (.bin .shr 90 false true) [.tmp 21, .const (.int .u64 1)]),
  zo 23 (.prim (.conv 90 3) [.tmp 22]),
  zo 11 (.mv (.tmp 23))]
def pc84_c9 : PCode := .region none false pc84_o9
def pc84_o10 : List POper := [zo 24 (.mv (.tmp 2)),
  zo 25 (.mv (.tmp 0)),
  zo 26 (.mv (.tmp 11)),
  zo 27 (.iaddrS 11 (.tmp 25) (.tmp 26)),
  zo 28 (.load true 11 (.tmp 27)),
  zo 29 (.mv (.tmp 1)),
  zo 30 (.callv true [[], []] (.tmp 24) [.tmp 28, .tmp 29]),
  zo 31 (.prim (.bin .lss 3 false true) [.tmp 30, .const (.int .i64 0)])]
def pc84_c10 : PCode := .region none false pc84_o10
def pc84_o11 : List POper := [zo 32 (.mv (.tmp 11)),
  zo 33 (.prim (.bin .add 3 false true) [.tmp 32, .const (.int .i64 1)]),
  zo 9 (.mv (.tmp 33))]
def pc84_c11 : PCode := .region none false pc84_o11
def pc84_o12 : List POper := [zo 34 (.mv (.tmp 11)),
  zo 10 (.mv (.tmp 34))]
def pc84_c12 : PCode := .region none false pc84_o12
def pc84_c13 : PCode := .cond (.tmp 31) pc84_c11 pc84_c12
def pc84_c14 : PCode := .seq pc84_c10 pc84_c13
def pc84_c15 : PCode := .seq pc84_c9 pc84_c14
def pc84_c16 : PCode := .block 1 pc84_c15
def pc84_c17 : PCode := .seq pc84_c8 pc84_c16
def pc84_c18 : PCode := .loop pc84_c17
def pc84_c19 : PCode := .block 0 pc84_c18
def pc84_o20 : List POper := [zo 35 (.mv (.tmp 9)),
  zo 36 (.mv (.tmp 9)),
  zo 37 (.mv (.tmp 8)),
  zo 38 (.prim (.bin .lss 3 false false) [.tmp 36, .tmp 37]),
  zo 39 (.mv (.tmp 38)),
  ⟨some 40, .mv (.tmp 2), some (39, true), []⟩,
  ⟨some 41, .mv (.tmp 0), some (39, true), []⟩,
  ⟨some 42, .mv (.tmp 9), some (39, true), []⟩,
  ⟨some 43, .iaddrS 11 (.tmp 41) (.tmp 42), some (39, true), []⟩,
  ⟨some 44, .load true 11 (.tmp 43), some (39, true), []⟩,
  ⟨some 45, .mv (.tmp 1), some (39, true), []⟩,
  ⟨some 46, .callv true [[], []] (.tmp 40) [.tmp 44, .tmp 45], some (39, true), []⟩,
  ⟨some 47, .prim (.bin .eql 3 false true) [.tmp 46, .const (.int .i64 0)], some (39, true), []⟩,
  zo 48 (.pick (.tmp 39) (.tmp 47) (.const (.bool false))),
  zo 6 (.mv (.tmp 35)),
  zo 7 (.mv (.tmp 48))]
def pc84_c20 : PCode := .region none false pc84_o20
def pc84_c21 : PCode := .ret
def pc84_c22 : PCode := .seq pc84_c20 pc84_c21
def pc84_c23 : PCode := .seq pc84_c19 pc84_c22
def pc84_c24 : PCode := .seq pc84_c3 pc84_c23
def pc84_c25 : PCode := .seq pc84_c2 pc84_c24
def pc84_c26 : PCode := .seq pc84_c1 pc84_c25
def pc84_r : List PRes := [PRes.tmp 6 [], PRes.tmp 7 []]
def pc84 : PFunc := ⟨49, pc84_r, pc84_c26, false⟩
def pc84_a : Ann := {
  kr := fun
    | 3 => some ([0, 1, 2, 8, 9, 10], [], [])
    | _ => none
  ka := fun
    | _ => 0
  kh := fun
    | _ => none
  ow := fun t => match t with
    | 96 => [(1, 5, 1)]
    | _ => []
  tc := fun t => match t with
    | 96 => true
    | _ => false }
theorem pc84_ok : compFn Try.prog pc84_a Try.f84 = some pc84 := by kernel_rfl


-- 88: vedette/fields.Apply
def pc88_o1 : List POper := [zo 2 (.box 28 (.tmp 0) []),
  zo 3 (.box 35 (.tmp 1) []),
  zo 4 (.alloc 28 (.agg { toList := [.int .i64 0, .int .i64 0, .int .i64 0, .int .i64 0, .string { data := { toList := [] } }, .int .i64 0, .string { data := { toList := [] } }, .int .i64 0, .string { data := { toList := [] } }, .int .i64 0, .string { data := { toList := [] } }] }) [])]
def pc88_c1 : PCode := .region none false pc88_o1
def pc88_o2 : List POper := [zo 7 (.faddr 1 (.tmp 3)),
  zo 8 (.load false 1 (.tmp 7)),
  zo 9 (.prim (.bin .and 5 false true) [.tmp 8, .const (.int .u8 1)]),
  zo 10 (.prim (.bin .neq 5 false true) [.tmp 9, .const (.int .u8 0)])]
def pc88_c2 : PCode := .region none false pc88_o2
def pc88_o3 : List POper := [zo 11 (.faddr 2 (.tmp 3)),
  zo 12 (.load true 2 (.tmp 11)),
  zo 13 (.faddr 1 (.tmp 2)),
  ⟨none, .store 2 (.tmp 13) (.tmp 12), none, []⟩]
def pc88_c3 : PCode := .region none false pc88_o3
def pc88_c4 : PCode := .skip
def pc88_c5 : PCode := .cond (.tmp 10) pc88_c3 pc88_c4
def pc88_c6 : PCode := .seq pc88_c2 pc88_c5
def pc88_o7 : List POper := [zo 14 (.faddr 4 (.tmp 3)),
  zo 15 (.load true 8 (.tmp 14)),
  zo 16 (.mv (.const (.int .i64 0)))]
def pc88_c7 : PCode := .region (some ([2, 3, 4], [2, 3, 4], [])) false pc88_o7
def pc88_o8 : List POper := [zo 17 (.prim (.bin .lss 3 false true) [.tmp 16, .const (.int .i64 4)])]
def pc88_c8 : PCode := .region (some ([2, 3, 4, 15, 16], [2, 3, 4, 6], [])) false pc88_o8
def pc88_c9 : PCode := .skip
def pc88_c10 : PCode := .exit 0
def pc88_c11 : PCode := .cond (.tmp 17) pc88_c9 pc88_c10
def pc88_o12 : List POper := [zo 18 (.mv (.tmp 16)),
  zo 19 (.idx true 2 4 (.tmp 15) (.tmp 16)),
  zo 6 (.alloc 25 (.agg { toList := [.int .i64 0, .string { data := { toList := [] } }] }) []),
  zo 5 (.mv (.tmp 18)),
  ⟨none, .store 2 (.tmp 6) (.tmp 19), none, []⟩]
def pc88_c12 : PCode := .region none false pc88_o12
def pc88_o13 : List POper := [zo 20 (.faddr 1 (.tmp 3)),
  zo 21 (.load false 1 (.tmp 20)),
  zo 22 (.mv (.tmp 5)),
  zo 23 (.call true [[], []] 99 [.tmp 21, .tmp 22])]
def pc88_c13 : PCode := .region none false pc88_o13
def pc88_o14 : List POper := [zo 24 (.mv (.tmp 5)),
  zo 25 (.load true 2 (.tmp 6)),
  zo 26 (.faddr 3 (.tmp 2)),
  zo 27 (.iaddrA 4 2 (.tmp 26) (.tmp 24)),
  ⟨none, .store 2 (.tmp 27) (.tmp 25), none, []⟩]
def pc88_c14 : PCode := .region none false pc88_o14
def pc88_c15 : PCode := .skip
def pc88_c16 : PCode := .cond (.tmp 23) pc88_c14 pc88_c15
def pc88_c17 : PCode := .seq pc88_c13 pc88_c16
def pc88_c18 : PCode := .seq pc88_c12 pc88_c17
def pc88_c19 : PCode := .block 1 pc88_c18
def pc88_o20 : List POper := [zo 28 (.prim (.bin .add 3 false true) [.tmp 16, .const (.int .i64 1)]),
  zo 16 (.mv (.tmp 28))]
def pc88_c20 : PCode := .region none false pc88_o20
def pc88_c21 : PCode := .seq pc88_c19 pc88_c20
def pc88_c22 : PCode := .seq pc88_c11 pc88_c21
def pc88_c23 : PCode := .seq pc88_c8 pc88_c22
def pc88_c24 : PCode := .loop pc88_c23
def pc88_c25 : PCode := .block 0 pc88_c24
def pc88_c26 : PCode := .seq pc88_c7 pc88_c25
def pc88_o27 : List POper := [zo 29 (.load true 11 (.tmp 2)),
  ⟨none, .store 11 (.tmp 4) (.tmp 29), none, []⟩]
def pc88_c27 : PCode := .region none false pc88_o27
def pc88_c28 : PCode := .ret
def pc88_c29 : PCode := .seq pc88_c27 pc88_c28
def pc88_c30 : PCode := .seq pc88_c26 pc88_c29
def pc88_c31 : PCode := .seq pc88_c6 pc88_c30
def pc88_c32 : PCode := .seq pc88_c1 pc88_c31
def pc88_r : List PRes := [PRes.cell 4 true 11 []]
def pc88 : PFunc := ⟨30, pc88_r, pc88_c32, false⟩
def pc88_a : Ann := {
  kr := fun
    | 3 => some ([2, 3, 4], [2, 3, 4], [])
    | 4 => some ([2, 3, 4, 15, 16], [2, 3, 4, 6], [])
    | _ => none
  ka := fun
    | _ => 0
  kh := fun
    | _ => none
  ow := fun t => match t with
    | 96 => [(1, 5, 1)]
    | _ => []
  tc := fun t => match t with
    | 96 => true
    | _ => false }
theorem pc88_ok : compFn Try.prog pc88_a Try.f88 = some pc88 := by kernel_rfl


-- 51: vedette/event.Apply
def pc51_o1 : List POper := [zo 3 (.box 67 (.tmp 1) []),
  zo 4 (.mv (.const (.slice none 0 0))),
  zo 5 (.mv (.const (.bool false)))]
def pc51_c1 : PCode := .region none false pc51_o1
def pc51_o2 : List POper := [zo 10 (.mv (.tmp 0)),
  zo 11 (.faddr 1 (.tmp 3)),
  zo 12 (.load false 1 (.tmp 11)),
  zo 13 (.gcall false false [300000, 300001, 300002, 300003, 300004, 300005, 300006, 300007] [[(0, 11)], [], []] 84 [.tmp 10, .tmp 12, .func 85]),
  zo 9 (.mv (.tmp 13)),
  zo 14 (.ext (.tmp 9) 0),
  zo 15 (.ext (.tmp 9) 1),
  zo 6 (.mv (.tmp 14)),
  zo 7 (.mv (.tmp 15))]
def pc51_c2 : PCode := .region none false pc51_o2
def pc51_o3 : List POper := [zo 16 (.load true 25 (.tmp 3)),
  zo 17 (.call true [[]] 39 [.tmp 16]),
  zo 18 (.prim (.un .not) [.tmp 17]),
  zo 19 (.mv (.tmp 18)),
  ⟨some 20, .mv (.tmp 7), some (19, false), []⟩,
  ⟨some 21, .faddr 0 (.tmp 3), some (19, false), []⟩,
  ⟨some 22, .load false 1 (.tmp 21), some (19, false), []⟩,
  ⟨some 23, .prim (.bin .eql 3 false true) [.tmp 22, .const (.int .i64 1)], some (19, false), []⟩,
  ⟨some 24, .prim (.bin .eql 4 false false) [.tmp 20, .tmp 23], some (19, false), []⟩,
  zo 25 (.pick (.tmp 19) (.const (.bool true)) (.tmp 24))]
def pc51_c3 : PCode := .region none false pc51_o3
def pc51_o4 : List POper := [zo 26 (.mv (.tmp 0)),
  zo 27 (.gcall false false [300000, 300001, 300002, 300003, 300004, 300005, 300006, 300007] [[(0, 11)]] 78 [.tmp 26]),
  zo 4 (.mv (.tmp 27)),
  zo 5 (.mv (.const (.bool false)))]
def pc51_c4 : PCode := .region none false pc51_o4
def pc51_c5 : PCode := .ret
def pc51_c6 : PCode := .seq pc51_c4 pc51_c5
def pc51_c7 : PCode := .skip
def pc51_c8 : PCode := .cond (.tmp 25) pc51_c6 pc51_c7
def pc51_c9 : PCode := .seq pc51_c3 pc51_c8
def pc51_o10 : List POper := [zo 28 (.mv (.tmp 0)),
  zo 29 (.gcall false false [300000, 300001, 300002, 300003, 300004, 300005, 300006, 300007] [[(0, 11)]] 78 [.tmp 28]),
  zo 8 (.mv (.tmp 29))]
def pc51_c10 : PCode := .region none false pc51_o10
def pc51_o11 : List POper := [zo 30 (.faddr 0 (.tmp 3)),
  zo 31 (.load false 1 (.tmp 30))]
def pc51_c11 : PCode := .region none false pc51_o11
def pc51_o12 : List POper := [zo 38 (.prim (.bin .eql 3 false true) [.tmp 31, .const (.int .i64 1)]),
  zo 37 (.mv (.tmp 38))]
def pc51_c12 : PCode := .region none false pc51_o12
def pc51_o13 : List POper := [zo 39 (.mv (.tmp 8)),
  zo 40 (.mv (.tmp 6)),
  zo 41 (.faddr 2 (.tmp 3)),
  zo 42 (.load true 11 (.tmp 41)),
  zo 43 (.bptrs 11 [.tmp 42]),
  zo 44 (.gcall true false [43, 300000, 300001, 300002, 300003, 300004, 300005, 300006, 300007] [[(0, 11)], [], [(0, 11)]] 87 [.tmp 39, .tmp 40, .tmp 43]),
  zo 8 (.mv (.tmp 44))]
def pc51_c13 : PCode := .region none false pc51_o13
def pc51_o14 : List POper := [zo 46 (.prim (.bin .eql 3 false true) [.tmp 31, .const (.int .i64 2)]),
  zo 45 (.mv (.tmp 46))]
def pc51_c14 : PCode := .region none false pc51_o14
def pc51_o15 : List POper := [⟨some 47, .mv (.tmp 8), none, [(8, .obj 300000)]⟩,
  ⟨some 48, .mv (.tmp 6), none, [(6, .imm)]⟩,
  ⟨some 49, .mv (.tmp 8), none, [(8, .obj 300000)]⟩,
  ⟨some 50, .mv (.tmp 6), none, [(6, .imm)]⟩,
  ⟨some 51, .iaddrS 11 (.tmp 49) (.tmp 50), none, [(49, .obj 300000), (50, .imm)]⟩,
  ⟨some 52, .load true 11 (.tmp 51), none, [(51, .obj 300000)]⟩,
  ⟨some 53, .faddr 13 (.tmp 3), none, [(3, .at_ 3 0)]⟩,
  ⟨some 54, .load true 12 (.tmp 53), none, [(53, .at_ 3 13)]⟩,
  ⟨some 55, .call false [[], []] 88 [.tmp 52, .tmp 54], none, [(52, .imm), (54, .imm)]⟩,
  ⟨some 56, .iaddrS 11 (.tmp 47) (.tmp 48), none, [(47, .obj 300000), (48, .imm)]⟩,
  ⟨none, .store 11 (.tmp 56) (.tmp 55), none, [(56, .obj 300000), (55, .imm)]⟩]
def pc51_c15 : PCode := .region none true pc51_o15
def pc51_o16 : List POper := [zo 32 (.mv (.tmp 8)),
  zo 33 (.mv (.tmp 6)),
  zo 34 (.mv (.tmp 6)),
  zo 35 (.prim (.bin .add 3 false true) [.tmp 34, .const (.int .i64 1)]),
  zo 36 (.gcall true false [300000, 300001, 300002, 300003, 300004, 300005, 300006, 300007] [[(0, 11)], [], []] 89 [.tmp 32, .tmp 33, .tmp 35]),
  zo 8 (.mv (.tmp 36))]
def pc51_c16 : PCode := .region none false pc51_o16
def pc51_c17 : PCode := .cond (.tmp 45) pc51_c15 pc51_c16
def pc51_c18 : PCode := .seq pc51_c14 pc51_c17
def pc51_c19 : PCode := .cond (.tmp 37) pc51_c13 pc51_c18
def pc51_c20 : PCode := .seq pc51_c12 pc51_c19
def pc51_c21 : PCode := .block 0 pc51_c20
def pc51_c22 : PCode := .seq pc51_c11 pc51_c21
def pc51_o23 : List POper := [zo 57 (.mv (.tmp 8)),
  zo 4 (.mv (.tmp 57)),
  zo 5 (.mv (.const (.bool true)))]
def pc51_c23 : PCode := .region none false pc51_o23
def pc51_c24 : PCode := .ret
def pc51_c25 : PCode := .seq pc51_c23 pc51_c24
def pc51_c26 : PCode := .seq pc51_c22 pc51_c25
def pc51_c27 : PCode := .seq pc51_c10 pc51_c26
def pc51_c28 : PCode := .seq pc51_c9 pc51_c27
def pc51_c29 : PCode := .seq pc51_c2 pc51_c28
def pc51_c30 : PCode := .seq pc51_c1 pc51_c29
def pc51_r : List PRes := [PRes.tmp 4 [(0, 11)], PRes.tmp 5 []]
def pc51 : PFunc := ⟨58, pc51_r, pc51_c30, false⟩
def pc51_a : Ann := {
  kr := fun
    | _ => none
  ka := fun
    | _ => 0
  kh := fun
    | 3 => some (.at_ 3 0)
    | 6 => some (.imm)
    | 8 => some (.obj 300000)
    | 47 => some (.obj 300000)
    | 48 => some (.imm)
    | 49 => some (.obj 300000)
    | 50 => some (.imm)
    | 51 => some (.obj 300000)
    | 52 => some (.imm)
    | 53 => some (.at_ 3 13)
    | 54 => some (.imm)
    | 55 => some (.imm)
    | 56 => some (.obj 300000)
    | _ => none
  gf := fun d f => match d, f with
    | some 13, 84 => some (false, false, [300000, 300001, 300002, 300003, 300004, 300005, 300006, 300007])
    | some 27, 78 => some (false, false, [300000, 300001, 300002, 300003, 300004, 300005, 300006, 300007])
    | some 29, 78 => some (false, false, [300000, 300001, 300002, 300003, 300004, 300005, 300006, 300007])
    | some 36, 89 => some (true, false, [300000, 300001, 300002, 300003, 300004, 300005, 300006, 300007])
    | some 44, 87 => some (true, false, [43, 300000, 300001, 300002, 300003, 300004, 300005, 300006, 300007])
    | _, _ => none
  ow := fun t => match t with
    | 96 => [(1, 5, 1)]
    | _ => []
  tc := fun t => match t with
    | 96 => true
    | _ => false
  bv := fun d => match d with
    | some 43 => true
    | _ => false }
theorem pc51_ok : compFn Try.prog pc51_a Try.f51 = some pc51 := by kernel_rfl


-- 40: vedette/event.Fold
def pc40_o1 : List POper := [zo 4 (.mv (.const (.slice none 0 0))),
  zo 5 (.mv (.const (.bool false)))]
def pc40_c1 : PCode := .region none false pc40_o1
def pc40_o2 : List POper := [zo 10 (.mv (.tmp 0)),
  zo 11 (.gcall false true [300000, 300001, 300002, 300003, 300004, 300005, 300006, 300007] [[(0, 11)]] 78 [.tmp 10]),
  zo 6 (.mv (.tmp 11)),
  zo 7 (.mv (.const (.bool true)))]
def pc40_c2 : PCode := .region none false pc40_o2
def pc40_c3 : PCode := .label
def pc40_o4 : List POper := [zo 12 (.mv (.tmp 1)),
  zo 13 (.lenS (.tmp 12)),
  zo 14 (.mv (.const (.int .i64 0)))]
def pc40_c4 : PCode := .region none false pc40_o4
def pc40_o5 : List POper := [zo 15 (.prim (.bin .lss 3 false false) [.tmp 14, .tmp 13])]
def pc40_c5 : PCode := .region (some ([0, 6, 7, 12, 13, 14], [9], [])) false pc40_o5
def pc40_c6 : PCode := .skip
def pc40_c7 : PCode := .exit 0
def pc40_c8 : PCode := .cond (.tmp 15) pc40_c6 pc40_c7
def pc40_o9 : List POper := [zo 16 (.iaddrS 25 (.tmp 12) (.tmp 14)),
  zo 17 (.load true 25 (.tmp 16)),
  zo 9 (.alloc 67 (.agg { toList := [.int .i64 0, .int .i64 0, .int .i64 0, .int .i64 0, .int .i64 0, .int .i64 0, .string { data := { toList := [] } }, .int .i64 0, .string { data := { toList := [] } }, .int .i64 0, .string { data := { toList := [] } }, .int .i64 0, .string { data := { toList := [] } }, .int .i64 0, .int .u8 0, .int .i64 0, .int .i64 0, .int .i64 0, .string { data := { toList := [] } }, .int .i64 0, .string { data := { toList := [] } }, .int .i64 0, .string { data := { toList := [] } }, .int .i64 0, .string { data := { toList := [] } }] }) []),
  ⟨none, .store 25 (.tmp 9) (.tmp 17), none, []⟩]
def pc40_c9 : PCode := .region none false pc40_o9
def pc40_o10 : List POper := [zo 19 (.mv (.tmp 6)),
  zo 20 (.load true 25 (.tmp 9)),
  zo 21 (.call true [[(0, 11)], []] 51 [.tmp 19, .tmp 20]),
  zo 18 (.mv (.tmp 21)),
  zo 22 (.ext (.tmp 18) 0),
  zo 23 (.ext (.tmp 18) 1),
  zo 6 (.mv (.tmp 22)),
  zo 7 (.mv (.tmp 23))]
def pc40_c10 : PCode := .region none false pc40_o10
def pc40_o11 : List POper := [zo 24 (.mv (.tmp 7)),
  zo 25 (.prim (.un .not) [.tmp 24])]
def pc40_c11 : PCode := .region none false pc40_o11
def pc40_c12 : PCode := .exit 0
def pc40_c13 : PCode := .skip
def pc40_c14 : PCode := .cond (.tmp 25) pc40_c12 pc40_c13
def pc40_c15 : PCode := .seq pc40_c11 pc40_c14
def pc40_c16 : PCode := .seq pc40_c10 pc40_c15
def pc40_c17 : PCode := .seq pc40_c9 pc40_c16
def pc40_c18 : PCode := .block 1 pc40_c17
def pc40_o19 : List POper := [zo 26 (.prim (.bin .add 3 false true) [.tmp 14, .const (.int .i64 1)]),
  zo 14 (.mv (.tmp 26))]
def pc40_c19 : PCode := .region none false pc40_o19
def pc40_c20 : PCode := .seq pc40_c18 pc40_c19
def pc40_c21 : PCode := .seq pc40_c8 pc40_c20
def pc40_c22 : PCode := .seq pc40_c5 pc40_c21
def pc40_c23 : PCode := .loop pc40_c22
def pc40_c24 : PCode := .block 0 pc40_c23
def pc40_c25 : PCode := .seq pc40_c4 pc40_c24
def pc40_o26 : List POper := [zo 27 (.mv (.tmp 7)),
  zo 28 (.prim (.un .not) [.tmp 27])]
def pc40_c26 : PCode := .region (some ([0, 6, 7], [9], [])) false pc40_o26
def pc40_o27 : List POper := [zo 29 (.mv (.tmp 0)),
  zo 30 (.gcall false true [300000, 300001, 300002, 300003, 300004, 300005, 300006, 300007] [[(0, 11)]] 78 [.tmp 29]),
  zo 4 (.mv (.tmp 30)),
  zo 5 (.mv (.const (.bool false)))]
def pc40_c27 : PCode := .region none false pc40_o27
def pc40_c28 : PCode := .ret
def pc40_c29 : PCode := .seq pc40_c27 pc40_c28
def pc40_c30 : PCode := .skip
def pc40_c31 : PCode := .cond (.tmp 28) pc40_c29 pc40_c30
def pc40_c32 : PCode := .seq pc40_c26 pc40_c31
def pc40_o33 : List POper := [zo 31 (.mv (.tmp 6)),
  zo 4 (.mv (.tmp 31)),
  zo 5 (.mv (.const (.bool true)))]
def pc40_c33 : PCode := .region none false pc40_o33
def pc40_c34 : PCode := .ret
def pc40_c35 : PCode := .seq pc40_c33 pc40_c34
def pc40_c36 : PCode := .seq pc40_c32 pc40_c35
def pc40_c37 : PCode := .seq pc40_c25 pc40_c36
def pc40_c38 : PCode := .seq pc40_c3 pc40_c37
def pc40_c39 : PCode := .seq pc40_c2 pc40_c38
def pc40_c40 : PCode := .scope pc40_c39
def pc40_c41 : PCode := .seq pc40_c1 pc40_c40
def pc40_r : List PRes := [PRes.tmp 4 [(0, 11)], PRes.tmp 5 []]
def pc40 : PFunc := ⟨32, pc40_r, pc40_c41, false⟩
def pc40_a : Ann := {
  kr := fun
    | 3 => some ([0, 6, 7, 12, 13, 14], [9], [])
    | 8 => some ([0, 6, 7], [9], [])
    | _ => none
  ka := fun
    | _ => 0
  kh := fun
    | _ => none
  gf := fun d f => match d, f with
    | some 11, 78 => some (false, true, [300000, 300001, 300002, 300003, 300004, 300005, 300006, 300007])
    | some 30, 78 => some (false, true, [300000, 300001, 300002, 300003, 300004, 300005, 300006, 300007])
    | _, _ => none
  ow := fun t => match t with
    | 96 => [(1, 5, 1)]
    | _ => []
  tc := fun t => match t with
    | 96 => true
    | _ => false }
theorem pc40_ok : compFn Try.prog pc40_a Try.f40 = some pc40 := by kernel_rfl


-- 65: vedette/num.Put
def pc65_o1 : List POper := [zo 2 (.mv (.const (.string { data := { toList := [] } })))]
def pc65_c1 : PCode := .region none false pc65_o1
def pc65_o2 : List POper := [zo 3 (.mv (.const (.slice none 0 0)))]
def pc65_c2 : PCode := .region none false pc65_o2
def pc65_o3 : List POper := [zo 4 (.mv (.tmp 0)),
  zo 5 (.prim (.bin .geq 89 false true) [.tmp 4, .const (.int .u64 128)])]
def pc65_c3 : PCode := .region (some ([0, 3], [100003], [(false, 3, 0, 100003, 5, 1)])) false pc65_o3
def pc65_c4 : PCode := .skip
def pc65_c5 : PCode := .exit 0
def pc65_c6 : PCode := .cond (.tmp 5) pc65_c4 pc65_c5
def pc65_c7 : PCode := .seq pc65_c3 pc65_c6
def pc65_o8 : List POper := [zo 6 (.mv (.tmp 3)),
  zo 7 (.mv (.tmp 0)),
  zo 8 (.prim (.conv 89 5) [.tmp 7]),
  zo 9 (.prim (.bin .or 5 false true) [.tmp 8, .const (.int .u8 128)]),
  zo 10 (.bslice 5 1 [.tmp 9]),
  zo 11 (.app 100003 5 1 1 (.tmp 6) (.tmp 10)),
  zo 3 (.mv (.tmp 11))]
def pc65_c8 : PCode := .region none false pc65_o8
def pc65_o9 : List POper := [zo 12 (.mv (.tmp 0)),
  zo 13 (.prim (.bin .shr 89 false true) [.tmp 12, .const (.int .u64 7)]),
  zo 0 (.mv (.tmp 13))]
def pc65_c9 : PCode := .region none false pc65_o9
def pc65_c10 : PCode := .seq pc65_c8 pc65_c9
def pc65_c11 : PCode := .block 1 pc65_c10
def pc65_c12 : PCode := .seq pc65_c7 pc65_c11
def pc65_c13 : PCode := .loop pc65_c12
def pc65_c14 : PCode := .block 0 pc65_c13
def pc65_o15 : List POper := [zo 14 (.mv (.tmp 3)),
  zo 15 (.mv (.tmp 0)),
  zo 16 (.prim (.conv 89 5) [.tmp 15]),
  zo 17 (.bslice 5 1 [.tmp 16]),
  zo 18 (.app 100003 5 1 1 (.tmp 14) (.tmp 17)),
  zo 19 (.b2s (.tmp 18)),
  zo 2 (.mv (.tmp 19))]
def pc65_c15 : PCode := .region none false pc65_o15
def pc65_c16 : PCode := .ret
def pc65_c17 : PCode := .seq pc65_c15 pc65_c16
def pc65_c18 : PCode := .seq pc65_c14 pc65_c17
def pc65_c19 : PCode := .seq pc65_c2 pc65_c18
def pc65_c20 : PCode := .seq pc65_c1 pc65_c19
def pc65_r : List PRes := [PRes.tmp 2 []]
def pc65 : PFunc := ⟨20, pc65_r, pc65_c20, false⟩
def pc65_a : Ann := {
  kr := fun
    | 2 => some ([0, 3], [100003], [(false, 3, 0, 100003, 5, 1)])
    | _ => none
  ka := fun
    | 11 => 100003
    | 18 => 100003
    | _ => 0
  kh := fun
    | _ => none
  ow := fun t => match t with
    | 96 => [(1, 5, 1)]
    | _ => []
  tc := fun t => match t with
    | 96 => true
    | _ => false }
theorem pc65_ok : compFn Try.prog pc65_a Try.f65 = some pc65 := by kernel_rfl


-- 81: vedette/event.Bytes$1
def pc81_o1 : List POper := [zo 1 (.box 67 (.tmp 0) []),
  zo 2 (.mv (.const (.bool false)))]
def pc81_c1 : PCode := .region none false pc81_o1
def pc81_o2 : List POper := [zo 3 (.load true 25 (.tmp 1)),
  zo 4 (.call true [[]] 39 [.tmp 3]),
  zo 5 (.prim (.un .not) [.tmp 4]),
  zo 2 (.mv (.tmp 5))]
def pc81_c2 : PCode := .region none false pc81_o2
def pc81_c3 : PCode := .ret
def pc81_c4 : PCode := .seq pc81_c2 pc81_c3
def pc81_c5 : PCode := .seq pc81_c1 pc81_c4
def pc81_r : List PRes := [PRes.tmp 2 []]
def pc81 : PFunc := ⟨6, pc81_r, pc81_c5, false⟩
def pc81_a : Ann := {
  kr := fun
    | _ => none
  ka := fun
    | _ => 0
  kh := fun
    | _ => none
  ow := fun t => match t with
    | 96 => [(1, 5, 1)]
    | _ => []
  tc := fun t => match t with
    | 96 => true
    | _ => false }
theorem pc81_ok : compFn Try.prog pc81_a Try.f81 = some pc81 := by kernel_rfl


-- 110: slices.IndexFunc[[]vedette/api.Event,vedette/api.Event]
def pc110_o1 : List POper := [zo 4 (.mv (.const (.int .i64 0)))]
def pc110_c1 : PCode := .region none false pc110_o1
def pc110_o2 : List POper := [zo 6 (.mv (.tmp 0)),
  zo 7 (.lenS (.tmp 6)),
  zo 8 (.mv (.const (.int .i64 0)))]
def pc110_c2 : PCode := .region none false pc110_o2
def pc110_o3 : List POper := [zo 9 (.prim (.bin .lss 3 false false) [.tmp 8, .tmp 7])]
def pc110_c3 : PCode := .region (some ([0, 1, 7, 8], [], [])) false pc110_o3
def pc110_c4 : PCode := .skip
def pc110_c5 : PCode := .exit 0
def pc110_c6 : PCode := .cond (.tmp 9) pc110_c4 pc110_c5
def pc110_o7 : List POper := [zo 10 (.mv (.tmp 8)),
  zo 5 (.mv (.tmp 10))]
def pc110_c7 : PCode := .region none false pc110_o7
def pc110_o8 : List POper := [zo 11 (.mv (.tmp 1)),
  zo 12 (.mv (.tmp 0)),
  zo 13 (.mv (.tmp 5)),
  zo 14 (.iaddrS 25 (.tmp 12) (.tmp 13)),
  zo 15 (.load true 25 (.tmp 14)),
  zo 16 (.callv true [[]] (.tmp 11) [.tmp 15])]
def pc110_c8 : PCode := .region none false pc110_o8
def pc110_o9 : List POper := [zo 17 (.mv (.tmp 5)),
  zo 4 (.mv (.tmp 17))]
def pc110_c9 : PCode := .region none false pc110_o9
def pc110_c10 : PCode := .ret
def pc110_c11 : PCode := .seq pc110_c9 pc110_c10
def pc110_c12 : PCode := .skip
def pc110_c13 : PCode := .cond (.tmp 16) pc110_c11 pc110_c12
def pc110_c14 : PCode := .seq pc110_c8 pc110_c13
def pc110_c15 : PCode := .seq pc110_c7 pc110_c14
def pc110_c16 : PCode := .block 1 pc110_c15
def pc110_o17 : List POper := [zo 18 (.prim (.bin .add 3 false true) [.tmp 8, .const (.int .i64 1)]),
  zo 8 (.mv (.tmp 18))]
def pc110_c17 : PCode := .region none false pc110_o17
def pc110_c18 : PCode := .seq pc110_c16 pc110_c17
def pc110_c19 : PCode := .seq pc110_c6 pc110_c18
def pc110_c20 : PCode := .seq pc110_c3 pc110_c19
def pc110_c21 : PCode := .loop pc110_c20
def pc110_c22 : PCode := .block 0 pc110_c21
def pc110_c23 : PCode := .seq pc110_c2 pc110_c22
def pc110_o24 : List POper := [zo 4 (.mv (.const (.int .i64 (-1))))]
def pc110_c24 : PCode := .region none false pc110_o24
def pc110_c25 : PCode := .ret
def pc110_c26 : PCode := .seq pc110_c24 pc110_c25
def pc110_c27 : PCode := .seq pc110_c23 pc110_c26
def pc110_c28 : PCode := .seq pc110_c1 pc110_c27
def pc110_r : List PRes := [PRes.tmp 4 []]
def pc110 : PFunc := ⟨19, pc110_r, pc110_c28, false⟩
def pc110_a : Ann := {
  kr := fun
    | 2 => some ([0, 1, 7, 8], [], [])
    | _ => none
  ka := fun
    | _ => 0
  kh := fun
    | _ => none
  ow := fun t => match t with
    | 96 => [(1, 5, 1)]
    | _ => []
  tc := fun t => match t with
    | 96 => true
    | _ => false }
theorem pc110_ok : compFn Try.prog pc110_a Try.f110 = some pc110 := by kernel_rfl


-- 80: slices.ContainsFunc[[]vedette/api.Event,vedette/api.Event]
def pc80_o1 : List POper := [zo 4 (.mv (.const (.bool false)))]
def pc80_c1 : PCode := .region none false pc80_o1
def pc80_o2 : List POper := [zo 5 (.mv (.tmp 0)),
  zo 6 (.mv (.tmp 1)),
  zo 7 (.gcall false false [300000, 300001, 300002, 300003, 300004, 300005, 300006, 300007] [[(0, 25)], []] 110 [.tmp 5, .tmp 6]),
  zo 8 (.prim (.bin .geq 3 false true) [.tmp 7, .const (.int .i64 0)]),
  zo 4 (.mv (.tmp 8))]
def pc80_c2 : PCode := .region none false pc80_o2
def pc80_c3 : PCode := .ret
def pc80_c4 : PCode := .seq pc80_c2 pc80_c3
def pc80_c5 : PCode := .seq pc80_c1 pc80_c4
def pc80_r : List PRes := [PRes.tmp 4 []]
def pc80 : PFunc := ⟨9, pc80_r, pc80_c5, false⟩
def pc80_a : Ann := {
  kr := fun
    | _ => none
  ka := fun
    | _ => 0
  kh := fun
    | _ => none
  gf := fun d f => match d, f with
    | some 7, 110 => some (false, false, [300000, 300001, 300002, 300003, 300004, 300005, 300006, 300007])
    | _, _ => none
  ow := fun t => match t with
    | 96 => [(1, 5, 1)]
    | _ => []
  tc := fun t => match t with
    | 96 => true
    | _ => false }
theorem pc80_ok : compFn Try.prog pc80_a Try.f80 = some pc80 := by kernel_rfl


-- 100: vedette/num.Text
def pc100_o1 : List POper := [zo 2 (.mv (.const (.string { data := { toList := [] } })))]
def pc100_c1 : PCode := .region none false pc100_o1
def pc100_o2 : List POper := [zo 3 (.mv (.tmp 0)),
  zo 4 (.prim (.len 9) [.tmp 3]),
  zo 5 (.prim (.conv 3 89) [.tmp 4]),
  zo 6 (.call true [[]] 65 [.tmp 5]),
  zo 7 (.mv (.tmp 0)),
  zo 8 (.prim (.bin .add 9 false false) [.tmp 6, .tmp 7]),
  zo 2 (.mv (.tmp 8))]
def pc100_c2 : PCode := .region none false pc100_o2
def pc100_c3 : PCode := .ret
def pc100_c4 : PCode := .seq pc100_c2 pc100_c3
def pc100_c5 : PCode := .seq pc100_c1 pc100_c4
def pc100_r : List PRes := [PRes.tmp 2 []]
def pc100 : PFunc := ⟨9, pc100_r, pc100_c5, false⟩
def pc100_a : Ann := {
  kr := fun
    | _ => none
  ka := fun
    | _ => 0
  kh := fun
    | _ => none
  ow := fun t => match t with
    | 96 => [(1, 5, 1)]
    | _ => []
  tc := fun t => match t with
    | 96 => true
    | _ => false }
theorem pc100_ok : compFn Try.prog pc100_a Try.f100 = some pc100 := by kernel_rfl


-- 114: vedette/num.Zig
def pc114_o1 : List POper := [zo 2 (.mv (.const (.int .u64 0)))]
def pc114_c1 : PCode := .region none false pc114_o1
def pc114_o2 : List POper := [zo 3 (.mv (.tmp 0)),
  zo 4 (.prim (.conv 2 89) [.tmp 3]),
  zo 5 (.prim (.bin .shl 89 false true) [.tmp 4, .const (.int .u64 1)]),
  zo 6 (.mv (.tmp 0)),
  zo 7 (.prim (.bin .shr 2 false true) [.tmp 6, .const (.int .u64 63)]),
  zo 8 (.prim (.conv 2 89) [.tmp 7]),
  zo 9 (.prim (.bin .xor 89 false false) [.tmp 5, .tmp 8]),
  zo 2 (.mv (.tmp 9))]
def pc114_c2 : PCode := .region none false pc114_o2
def pc114_c3 : PCode := .ret
def pc114_c4 : PCode := .seq pc114_c2 pc114_c3
def pc114_c5 : PCode := .seq pc114_c1 pc114_c4
def pc114_r : List PRes := [PRes.tmp 2 []]
def pc114 : PFunc := ⟨10, pc114_r, pc114_c5, false⟩
def pc114_a : Ann := {
  kr := fun
    | _ => none
  ka := fun
    | _ => 0
  kh := fun
    | _ => none
  ow := fun t => match t with
    | 96 => [(1, 5, 1)]
    | _ => []
  tc := fun t => match t with
    | 96 => true
    | _ => false }
theorem pc114_ok : compFn Try.prog pc114_a Try.f114 = some pc114 := by kernel_rfl


-- 101: vedette/num.Int
def pc101_o1 : List POper := [zo 2 (.mv (.const (.string { data := { toList := [] } })))]
def pc101_c1 : PCode := .region none false pc101_o1
def pc101_o2 : List POper := [zo 3 (.mv (.tmp 0)),
  zo 4 (.call true [[]] 114 [.tmp 3]),
  zo 5 (.call true [[]] 65 [.tmp 4]),
  zo 2 (.mv (.tmp 5))]
def pc101_c2 : PCode := .region none false pc101_o2
def pc101_c3 : PCode := .ret
def pc101_c4 : PCode := .seq pc101_c2 pc101_c3
def pc101_c5 : PCode := .seq pc101_c1 pc101_c4
def pc101_r : List PRes := [PRes.tmp 2 []]
def pc101 : PFunc := ⟨6, pc101_r, pc101_c5, false⟩
def pc101_a : Ann := {
  kr := fun
    | _ => none
  ka := fun
    | _ => 0
  kh := fun
    | _ => none
  ow := fun t => match t with
    | 96 => [(1, 5, 1)]
    | _ => []
  tc := fun t => match t with
    | 96 => true
    | _ => false }
theorem pc101_ok : compFn Try.prog pc101_a Try.f101 = some pc101 := by kernel_rfl


-- 63: vedette/fields.Bytes
def pc63_o1 : List POper := [zo 1 (.box 35 (.tmp 0) []),
  zo 2 (.mv (.const (.string { data := { toList := [] } }))),
  zo 3 (.mv (.const (.int .i64 0)))]
def pc63_c1 : PCode := .region none false pc63_o1
def pc63_o2 : List POper := [zo 7 (.load true 12 (.tmp 1)),
  zo 8 (.call true [[]] 77 [.tmp 7]),
  zo 9 (.prim (.un .not) [.tmp 8])]
def pc63_c2 : PCode := .region none false pc63_o2
def pc63_o3 : List POper := [zo 2 (.mv (.const (.string { data := { toList := [] } }))),
  zo 3 (.mv (.const (.int .i64 11)))]
def pc63_c3 : PCode := .region none false pc63_o3
def pc63_c4 : PCode := .ret
def pc63_c5 : PCode := .seq pc63_c3 pc63_c4
def pc63_c6 : PCode := .skip
def pc63_c7 : PCode := .cond (.tmp 9) pc63_c5 pc63_c6
def pc63_c8 : PCode := .seq pc63_c2 pc63_c7
def pc63_o9 : List POper := [⟨some 10, .faddr 0 (.tmp 1), none, [(1, .at_ 1 0)]⟩,
  ⟨some 11, .load false 1 (.tmp 10), none, [(10, .at_ 1 0)]⟩,
  ⟨some 12, .prim (.conv 3 89) [.tmp 11], none, [(11, .imm)]⟩,
  ⟨some 13, .call false [[]] 65 [.tmp 12], none, [(12, .imm)]⟩,
  ⟨some 14, .faddr 1 (.tmp 1), none, [(1, .at_ 1 0)]⟩,
  ⟨some 15, .load false 1 (.tmp 14), none, [(14, .at_ 1 1)]⟩,
  ⟨some 16, .prim (.conv 5 89) [.tmp 15], none, [(15, .imm)]⟩,
  ⟨some 17, .call false [[]] 65 [.tmp 16], none, [(16, .imm)]⟩,
  ⟨some 18, .prim (.bin .add 9 false false) [.tmp 13, .tmp 17], none, [(13, .imm), (17, .imm)]⟩,
  ⟨some 4, .mv (.tmp 18), none, [(18, .imm)]⟩]
def pc63_c9 : PCode := .region none true pc63_o9
def pc63_o10 : List POper := [zo 19 (.faddr 1 (.tmp 1)),
  zo 20 (.load false 1 (.tmp 19)),
  zo 21 (.prim (.bin .and 5 false true) [.tmp 20, .const (.int .u8 1)]),
  zo 22 (.prim (.bin .neq 5 false true) [.tmp 21, .const (.int .u8 0)])]
def pc63_c10 : PCode := .region none false pc63_o10
def pc63_o11 : List POper := [⟨some 23, .mv (.tmp 4), none, [(4, .imm)]⟩,
  ⟨some 24, .faddr 2 (.tmp 1), none, [(1, .at_ 1 0)]⟩,
  ⟨some 25, .faddr 0 (.tmp 24), none, [(24, .at_ 1 2)]⟩,
  ⟨some 26, .load false 1 (.tmp 25), none, [(25, .at_ 1 2)]⟩,
  ⟨some 27, .prim (.conv 3 89) [.tmp 26], none, [(26, .imm)]⟩,
  ⟨some 28, .call false [[]] 65 [.tmp 27], none, [(27, .imm)]⟩,
  ⟨some 29, .faddr 2 (.tmp 1), none, [(1, .at_ 1 0)]⟩,
  ⟨some 30, .faddr 1 (.tmp 29), none, [(29, .at_ 1 2)]⟩,
  ⟨some 31, .load false 1 (.tmp 30), none, [(30, .at_ 1 3)]⟩,
  ⟨some 32, .prim (.conv 3 89) [.tmp 31], none, [(31, .imm)]⟩,
  ⟨some 33, .call false [[]] 65 [.tmp 32], none, [(32, .imm)]⟩,
  ⟨some 34, .prim (.bin .add 9 false false) [.tmp 28, .tmp 33], none, [(28, .imm), (33, .imm)]⟩,
  ⟨some 35, .prim (.bin .add 9 false false) [.tmp 23, .tmp 34], none, [(23, .imm), (34, .imm)]⟩,
  ⟨some 4, .mv (.tmp 35), none, [(35, .imm)]⟩]
def pc63_c11 : PCode := .region none true pc63_o11
def pc63_c12 : PCode := .skip
def pc63_c13 : PCode := .cond (.tmp 22) pc63_c11 pc63_c12
def pc63_c14 : PCode := .seq pc63_c10 pc63_c13
def pc63_o15 : List POper := [zo 36 (.faddr 4 (.tmp 1)),
  zo 37 (.load true 8 (.tmp 36)),
  zo 38 (.mv (.const (.int .i64 0)))]
def pc63_c15 : PCode := .region (some ([1, 4], [1], [])) false pc63_o15
def pc63_o16 : List POper := [zo 39 (.prim (.bin .lss 3 false true) [.tmp 38, .const (.int .i64 4)])]
def pc63_c16 : PCode := .region (some ([1, 4, 37, 38], [1, 6], [])) false pc63_o16
def pc63_c17 : PCode := .skip
def pc63_c18 : PCode := .exit 0
def pc63_c19 : PCode := .cond (.tmp 39) pc63_c17 pc63_c18
def pc63_o20 : List POper := [zo 40 (.mv (.tmp 38)),
  zo 41 (.idx true 2 4 (.tmp 37) (.tmp 38)),
  zo 6 (.alloc 25 (.agg { toList := [.int .i64 0, .string { data := { toList := [] } }] }) []),
  zo 5 (.mv (.tmp 40)),
  ⟨none, .store 2 (.tmp 6) (.tmp 41), none, []⟩]
def pc63_c20 : PCode := .region none false pc63_o20
def pc63_o21 : List POper := [zo 42 (.faddr 1 (.tmp 1)),
  zo 43 (.load false 1 (.tmp 42)),
  zo 44 (.mv (.tmp 5)),
  zo 45 (.call true [[], []] 99 [.tmp 43, .tmp 44]),
  zo 46 (.prim (.un .not) [.tmp 45])]
def pc63_c21 : PCode := .region none false pc63_o21
def pc63_c22 : PCode := .exit 1
def pc63_c23 : PCode := .skip
def pc63_c24 : PCode := .cond (.tmp 46) pc63_c22 pc63_c23
def pc63_c25 : PCode := .seq pc63_c21 pc63_c24
def pc63_o26 : List POper := [zo 47 (.mv (.tmp 4)),
  zo 48 (.faddr 1 (.tmp 6)),
  zo 49 (.load false 1 (.tmp 48)),
  zo 50 (.call true [[]] 100 [.tmp 49]),
  zo 51 (.prim (.bin .add 9 false false) [.tmp 47, .tmp 50]),
  zo 4 (.mv (.tmp 51))]
def pc63_c26 : PCode := .region none false pc63_o26
def pc63_o27 : List POper := [zo 52 (.faddr 1 (.tmp 6)),
  zo 53 (.load false 1 (.tmp 52)),
  zo 54 (.prim (.bin .eql 9 false true) [.tmp 53, .const (.string { data := { toList := [] } })])]
def pc63_c27 : PCode := .region none false pc63_o27
def pc63_o28 : List POper := [zo 55 (.mv (.tmp 4)),
  zo 56 (.faddr 0 (.tmp 6)),
  zo 57 (.load false 1 (.tmp 56)),
  zo 58 (.call true [[]] 101 [.tmp 57]),
  zo 59 (.prim (.bin .add 9 false false) [.tmp 55, .tmp 58]),
  zo 4 (.mv (.tmp 59))]
def pc63_c28 : PCode := .region none false pc63_o28
def pc63_c29 : PCode := .skip
def pc63_c30 : PCode := .cond (.tmp 54) pc63_c28 pc63_c29
def pc63_c31 : PCode := .seq pc63_c27 pc63_c30
def pc63_c32 : PCode := .seq pc63_c26 pc63_c31
def pc63_c33 : PCode := .seq pc63_c25 pc63_c32
def pc63_c34 : PCode := .seq pc63_c20 pc63_c33
def pc63_c35 : PCode := .block 1 pc63_c34
def pc63_o36 : List POper := [zo 60 (.prim (.bin .add 3 false true) [.tmp 38, .const (.int .i64 1)]),
  zo 38 (.mv (.tmp 60))]
def pc63_c36 : PCode := .region none false pc63_o36
def pc63_c37 : PCode := .seq pc63_c35 pc63_c36
def pc63_c38 : PCode := .seq pc63_c19 pc63_c37
def pc63_c39 : PCode := .seq pc63_c16 pc63_c38
def pc63_c40 : PCode := .loop pc63_c39
def pc63_c41 : PCode := .block 0 pc63_c40
def pc63_c42 : PCode := .seq pc63_c15 pc63_c41
def pc63_o43 : List POper := [zo 61 (.mv (.tmp 4)),
  zo 2 (.mv (.tmp 61)),
  zo 3 (.mv (.const (.int .i64 0)))]
def pc63_c43 : PCode := .region none false pc63_o43
def pc63_c44 : PCode := .ret
def pc63_c45 : PCode := .seq pc63_c43 pc63_c44
def pc63_c46 : PCode := .seq pc63_c42 pc63_c45
def pc63_c47 : PCode := .seq pc63_c14 pc63_c46
def pc63_c48 : PCode := .seq pc63_c9 pc63_c47
def pc63_c49 : PCode := .seq pc63_c8 pc63_c48
def pc63_c50 : PCode := .seq pc63_c1 pc63_c49
def pc63_r : List PRes := [PRes.tmp 2 [], PRes.tmp 3 []]
def pc63 : PFunc := ⟨62, pc63_r, pc63_c50, false⟩
def pc63_a : Ann := {
  kr := fun
    | 6 => some ([1, 4], [1], [])
    | 7 => some ([1, 4, 37, 38], [1, 6], [])
    | _ => none
  ka := fun
    | _ => 0
  kh := fun
    | 1 => some (.at_ 1 0)
    | 4 => some (.imm)
    | 10 => some (.at_ 1 0)
    | 11 => some (.imm)
    | 12 => some (.imm)
    | 13 => some (.imm)
    | 14 => some (.at_ 1 1)
    | 15 => some (.imm)
    | 16 => some (.imm)
    | 17 => some (.imm)
    | 18 => some (.imm)
    | 23 => some (.imm)
    | 24 => some (.at_ 1 2)
    | 25 => some (.at_ 1 2)
    | 26 => some (.imm)
    | 27 => some (.imm)
    | 28 => some (.imm)
    | 29 => some (.at_ 1 2)
    | 30 => some (.at_ 1 3)
    | 31 => some (.imm)
    | 32 => some (.imm)
    | 33 => some (.imm)
    | 34 => some (.imm)
    | 35 => some (.imm)
    | _ => none
  ow := fun t => match t with
    | 96 => [(1, 5, 1)]
    | _ => []
  tc := fun t => match t with
    | 96 => true
    | _ => false }
theorem pc63_ok : compFn Try.prog pc63_a Try.f63 = some pc63 := by kernel_rfl


-- 21: vedette/thing.Bytes
def pc21_o1 : List POper := [zo 1 (.box 28 (.tmp 0) []),
  zo 2 (.mv (.const (.string { data := { toList := [] } }))),
  zo 3 (.mv (.const (.int .i64 0)))]
def pc21_c1 : PCode := .region none false pc21_o1
def pc21_o2 : List POper := [zo 4 (.load true 11 (.tmp 1)),
  zo 5 (.call true [[]] 24 [.tmp 4]),
  zo 6 (.prim (.un .not) [.tmp 5])]
def pc21_c2 : PCode := .region none false pc21_o2
def pc21_o3 : List POper := [zo 2 (.mv (.const (.string { data := { toList := [] } }))),
  zo 3 (.mv (.const (.int .i64 11)))]
def pc21_c3 : PCode := .region none false pc21_o3
def pc21_c4 : PCode := .ret
def pc21_c5 : PCode := .seq pc21_c3 pc21_c4
def pc21_c6 : PCode := .skip
def pc21_c7 : PCode := .cond (.tmp 6) pc21_c5 pc21_c6
def pc21_c8 : PCode := .seq pc21_c2 pc21_c7
def pc21_o9 : List POper := [zo 7 (.faddr 0 (.tmp 1)),
  zo 8 (.load false 1 (.tmp 7)),
  zo 9 (.faddr 1 (.tmp 1)),
  zo 10 (.load true 2 (.tmp 9)),
  zo 11 (.faddr 3 (.tmp 1)),
  zo 12 (.load true 8 (.tmp 11)),
  zo 13 (.build (.agg { toList := [.int .i64 0, .int .u8 0, .int .i64 0, .int .i64 0, .int .i64 0, .string { data := { toList := [] } }, .int .i64 0, .string { data := { toList := [] } }, .int .i64 0, .string { data := { toList := [] } }, .int .i64 0, .string { data := { toList := [] } }] }) [(0, 1, .tmp 8), (1, 1, .const (.int .u8 31)), (2, 2, .tmp 10), (4, 8, .tmp 12)]),
  zo 14 (.call true [[]] 63 [.tmp 13]),
  zo 15 (.ext (.tmp 14) 0),
  zo 16 (.ext (.tmp 14) 1),
  zo 2 (.mv (.tmp 15)),
  zo 3 (.mv (.tmp 16))]
def pc21_c9 : PCode := .region none false pc21_o9
def pc21_c10 : PCode := .ret
def pc21_c11 : PCode := .seq pc21_c9 pc21_c10
def pc21_c12 : PCode := .seq pc21_c8 pc21_c11
def pc21_c13 : PCode := .seq pc21_c1 pc21_c12
def pc21_r : List PRes := [PRes.tmp 2 [], PRes.tmp 3 []]
def pc21 : PFunc := ⟨17, pc21_r, pc21_c13, false⟩
def pc21_a : Ann := {
  kr := fun
    | _ => none
  ka := fun
    | _ => 0
  kh := fun
    | _ => none
  ow := fun t => match t with
    | 96 => [(1, 5, 1)]
    | _ => []
  tc := fun t => match t with
    | 96 => true
    | _ => false }
theorem pc21_ok : compFn Try.prog pc21_a Try.f21 = some pc21 := by kernel_rfl


-- 82: vedette/event.one
def pc82_o1 : List POper := [zo 1 (.box 67 (.tmp 0) []),
  zo 2 (.mv (.const (.string { data := { toList := [] } })))]
def pc82_c1 : PCode := .region none false pc82_o1
def pc82_o2 : List POper := [zo 3 (.mv (.const (.string { data := { toList := [] } })))]
def pc82_c2 : PCode := .region none false pc82_o2
def pc82_o3 : List POper := [zo 4 (.faddr 0 (.tmp 1)),
  zo 5 (.load false 1 (.tmp 4))]
def pc82_c3 : PCode := .region none false pc82_o3
def pc82_o4 : List POper := [zo 11 (.prim (.bin .eql 3 false true) [.tmp 5, .const (.int .i64 1)]),
  zo 10 (.mv (.tmp 11))]
def pc82_c4 : PCode := .region none false pc82_o4
def pc82_o5 : List POper := [zo 13 (.faddr 2 (.tmp 1)),
  zo 14 (.load true 11 (.tmp 13)),
  zo 15 (.call true [[]] 21 [.tmp 14]),
  zo 12 (.mv (.tmp 15)),
  zo 16 (.ext (.tmp 12) 0),
  zo 17 (.ext (.tmp 12) 1),
  zo 3 (.mv (.tmp 16))]
def pc82_c5 : PCode := .region none false pc82_o5
def pc82_o6 : List POper := [zo 19 (.prim (.bin .eql 3 false true) [.tmp 5, .const (.int .i64 2)]),
  zo 18 (.mv (.tmp 19))]
def pc82_c6 : PCode := .region none false pc82_o6
def pc82_o7 : List POper := [zo 21 (.faddr 13 (.tmp 1)),
  zo 22 (.load true 12 (.tmp 21)),
  zo 23 (.call true [[]] 63 [.tmp 22]),
  zo 20 (.mv (.tmp 23)),
  zo 24 (.ext (.tmp 20) 0),
  zo 25 (.ext (.tmp 20) 1),
  zo 3 (.mv (.tmp 24))]
def pc82_c7 : PCode := .region none false pc82_o7
def pc82_o8 : List POper := [zo 6 (.faddr 1 (.tmp 1)),
  zo 7 (.load false 1 (.tmp 6)),
  zo 8 (.prim (.conv 3 89) [.tmp 7]),
  zo 9 (.call true [[]] 65 [.tmp 8]),
  zo 3 (.mv (.tmp 9))]
def pc82_c8 : PCode := .region none false pc82_o8
def pc82_c9 : PCode := .cond (.tmp 18) pc82_c7 pc82_c8
def pc82_c10 : PCode := .seq pc82_c6 pc82_c9
def pc82_c11 : PCode := .cond (.tmp 10) pc82_c5 pc82_c10
def pc82_c12 : PCode := .seq pc82_c4 pc82_c11
def pc82_c13 : PCode := .block 0 pc82_c12
def pc82_c14 : PCode := .seq pc82_c3 pc82_c13
def pc82_o15 : List POper := [zo 26 (.faddr 0 (.tmp 1)),
  zo 27 (.load false 1 (.tmp 26)),
  zo 28 (.prim (.conv 3 89) [.tmp 27]),
  zo 29 (.call true [[]] 65 [.tmp 28]),
  zo 30 (.mv (.tmp 3)),
  zo 31 (.prim (.bin .add 9 false false) [.tmp 29, .tmp 30]),
  zo 2 (.mv (.tmp 31))]
def pc82_c15 : PCode := .region (some ([1, 3], [1], [])) false pc82_o15
def pc82_c16 : PCode := .ret
def pc82_c17 : PCode := .seq pc82_c15 pc82_c16
def pc82_c18 : PCode := .seq pc82_c14 pc82_c17
def pc82_c19 : PCode := .seq pc82_c2 pc82_c18
def pc82_c20 : PCode := .seq pc82_c1 pc82_c19
def pc82_r : List PRes := [PRes.tmp 2 []]
def pc82 : PFunc := ⟨32, pc82_r, pc82_c20, false⟩
def pc82_a : Ann := {
  kr := fun
    | 8 => some ([1, 3], [1], [])
    | _ => none
  ka := fun
    | _ => 0
  kh := fun
    | _ => none
  ow := fun t => match t with
    | 96 => [(1, 5, 1)]
    | _ => []
  tc := fun t => match t with
    | 96 => true
    | _ => false }
theorem pc82_ok : compFn Try.prog pc82_a Try.f82 = some pc82 := by kernel_rfl


-- 46: vedette/event.Bytes
def pc46_o1 : List POper := [zo 2 (.mv (.const (.string { data := { toList := [] } }))),
  zo 3 (.mv (.const (.int .i64 0)))]
def pc46_c1 : PCode := .region none false pc46_o1
def pc46_o2 : List POper := [zo 7 (.mv (.tmp 0)),
  zo 8 (.gcall false false [300000, 300001, 300002, 300003, 300004, 300005, 300006, 300007] [[(0, 25)], []] 80 [.tmp 7, .func 81])]
def pc46_c2 : PCode := .region none false pc46_o2
def pc46_o3 : List POper := [zo 2 (.mv (.const (.string { data := { toList := [] } }))),
  zo 3 (.mv (.const (.int .i64 11)))]
def pc46_c3 : PCode := .region none false pc46_o3
def pc46_c4 : PCode := .ret
def pc46_c5 : PCode := .seq pc46_c3 pc46_c4
def pc46_c6 : PCode := .skip
def pc46_c7 : PCode := .cond (.tmp 8) pc46_c5 pc46_c6
def pc46_c8 : PCode := .seq pc46_c2 pc46_c7
def pc46_o9 : List POper := [zo 9 (.mv (.tmp 0)),
  zo 10 (.lenS (.tmp 9)),
  zo 11 (.prim (.bin .gtr 3 false true) [.tmp 10, .const (.int .i64 400)])]
def pc46_c9 : PCode := .region none false pc46_o9
def pc46_o10 : List POper := [zo 2 (.mv (.const (.string { data := { toList := [] } }))),
  zo 3 (.mv (.const (.int .i64 13)))]
def pc46_c10 : PCode := .region none false pc46_o10
def pc46_c11 : PCode := .ret
def pc46_c12 : PCode := .seq pc46_c10 pc46_c11
def pc46_c13 : PCode := .skip
def pc46_c14 : PCode := .cond (.tmp 11) pc46_c12 pc46_c13
def pc46_c15 : PCode := .seq pc46_c9 pc46_c14
def pc46_o16 : List POper := [zo 4 (.allocT 96 (.agg { toList := [.pointer none, .slice none 0 0] }) [(1, 5, 1)])]
def pc46_c16 : PCode := .region none false pc46_o16
def pc46_o17 : List POper := [zo 12 (.mv (.tmp 0)),
  zo 13 (.lenS (.tmp 12)),
  zo 14 (.prim (.conv 3 89) [.tmp 13]),
  zo 15 (.call true [[]] 65 [.tmp 14]),
  zo 16 (.gcall false false [4, 300000, 300001, 300002, 300003, 300004, 300005, 300006, 300007, 400032] [[(1, 1)], []] 64 [.tmp 4, .tmp 15])]
def pc46_c17 : PCode := .region none false pc46_o17
def pc46_o18 : List POper := [zo 17 (.mv (.tmp 0)),
  zo 18 (.lenS (.tmp 17)),
  zo 19 (.mv (.const (.int .i64 0)))]
def pc46_c18 : PCode := .region none false pc46_o18
def pc46_o19 : List POper := [zo 20 (.prim (.bin .lss 3 false false) [.tmp 19, .tmp 18])]
def pc46_c19 : PCode := .region (some ([4, 17, 18, 19], [4, 6, 400032], [])) false pc46_o19
def pc46_c20 : PCode := .skip
def pc46_c21 : PCode := .exit 0
def pc46_c22 : PCode := .cond (.tmp 20) pc46_c20 pc46_c21
def pc46_o23 : List POper := [zo 21 (.iaddrS 25 (.tmp 17) (.tmp 19)),
  zo 22 (.load true 25 (.tmp 21)),
  zo 6 (.alloc 67 (.agg { toList := [.int .i64 0, .int .i64 0, .int .i64 0, .int .i64 0, .int .i64 0, .int .i64 0, .string { data := { toList := [] } }, .int .i64 0, .string { data := { toList := [] } }, .int .i64 0, .string { data := { toList := [] } }, .int .i64 0, .string { data := { toList := [] } }, .int .i64 0, .int .u8 0, .int .i64 0, .int .i64 0, .int .i64 0, .string { data := { toList := [] } }, .int .i64 0, .string { data := { toList := [] } }, .int .i64 0, .string { data := { toList := [] } }, .int .i64 0, .string { data := { toList := [] } }] }) []),
  ⟨none, .store 25 (.tmp 6) (.tmp 22), none, []⟩]
def pc46_c23 : PCode := .region none false pc46_o23
def pc46_o24 : List POper := [zo 23 (.load true 25 (.tmp 6)),
  zo 24 (.call true [[]] 82 [.tmp 23]),
  zo 25 (.gcall false false [4, 300000, 300001, 300002, 300003, 300004, 300005, 300006, 300007, 400032] [[(1, 1)], []] 64 [.tmp 4, .tmp 24])]
def pc46_c24 : PCode := .region none false pc46_o24
def pc46_c25 : PCode := .seq pc46_c23 pc46_c24
def pc46_c26 : PCode := .block 1 pc46_c25
def pc46_o27 : List POper := [zo 26 (.prim (.bin .add 3 false true) [.tmp 19, .const (.int .i64 1)]),
  zo 19 (.mv (.tmp 26))]
def pc46_c27 : PCode := .region none false pc46_o27
def pc46_c28 : PCode := .seq pc46_c26 pc46_c27
def pc46_c29 : PCode := .seq pc46_c22 pc46_c28
def pc46_c30 : PCode := .seq pc46_c19 pc46_c29
def pc46_c31 : PCode := .loop pc46_c30
def pc46_c32 : PCode := .block 0 pc46_c31
def pc46_c33 : PCode := .seq pc46_c18 pc46_c32
def pc46_o34 : List POper := [zo 27 (.gcall false false [4, 300000, 300001, 300002, 300003, 300004, 300005, 300006, 300007, 400032] [[(1, 1)]] 66 [.tmp 4]),
  zo 2 (.mv (.tmp 27)),
  zo 3 (.mv (.const (.int .i64 0)))]
def pc46_c34 : PCode := .region none false pc46_o34
def pc46_c35 : PCode := .ret
def pc46_c36 : PCode := .seq pc46_c34 pc46_c35
def pc46_c37 : PCode := .seq pc46_c33 pc46_c36
def pc46_c38 : PCode := .seq pc46_c17 pc46_c37
def pc46_c39 : PCode := .seq pc46_c16 pc46_c38
def pc46_c40 : PCode := .seq pc46_c15 pc46_c39
def pc46_c41 : PCode := .seq pc46_c8 pc46_c40
def pc46_c42 : PCode := .seq pc46_c1 pc46_c41
def pc46_r : List PRes := [PRes.tmp 2 [], PRes.tmp 3 []]
def pc46 : PFunc := ⟨28, pc46_r, pc46_c42, false⟩
def pc46_a : Ann := {
  kr := fun
    | 8 => some ([4, 17, 18, 19], [4, 6, 400032], [])
    | _ => none
  ka := fun
    | _ => 0
  kh := fun
    | _ => none
  gf := fun d f => match d, f with
    | some 8, 80 => some (false, false, [300000, 300001, 300002, 300003, 300004, 300005, 300006, 300007])
    | some 16, 64 => some (false, false, [4, 300000, 300001, 300002, 300003, 300004, 300005, 300006, 300007, 400032])
    | some 25, 64 => some (false, false, [4, 300000, 300001, 300002, 300003, 300004, 300005, 300006, 300007, 400032])
    | some 27, 66 => some (false, false, [4, 300000, 300001, 300002, 300003, 300004, 300005, 300006, 300007, 400032])
    | _, _ => none
  ow := fun t => match t with
    | 96 => [(1, 5, 1)]
    | _ => []
  tc := fun t => match t with
    | 96 => true
    | _ => false }
theorem pc46_ok : compFn Try.prog pc46_a Try.f46 = some pc46 := by kernel_rfl


-- 83: slices.Equal[[]vedette/api.Event,vedette/api.Event]
def pc83_o1 : List POper := [zo 4 (.mv (.const (.bool false)))]
def pc83_c1 : PCode := .region none false pc83_o1
def pc83_o2 : List POper := [zo 6 (.mv (.tmp 0)),
  zo 7 (.lenS (.tmp 6)),
  zo 8 (.mv (.tmp 1)),
  zo 9 (.lenS (.tmp 8)),
  zo 10 (.prim (.bin .neq 3 false false) [.tmp 7, .tmp 9])]
def pc83_c2 : PCode := .region none false pc83_o2
def pc83_o3 : List POper := [zo 4 (.mv (.const (.bool false)))]
def pc83_c3 : PCode := .region none false pc83_o3
def pc83_c4 : PCode := .ret
def pc83_c5 : PCode := .seq pc83_c3 pc83_c4
def pc83_c6 : PCode := .skip
def pc83_c7 : PCode := .cond (.tmp 10) pc83_c5 pc83_c6
def pc83_c8 : PCode := .seq pc83_c2 pc83_c7
def pc83_o9 : List POper := [zo 11 (.mv (.tmp 0)),
  zo 12 (.lenS (.tmp 11)),
  zo 13 (.mv (.const (.int .i64 0)))]
def pc83_c9 : PCode := .region none false pc83_o9
def pc83_o10 : List POper := [zo 14 (.prim (.bin .lss 3 false false) [.tmp 13, .tmp 12])]
def pc83_c10 : PCode := .region (some ([0, 1, 12, 13], [], [])) false pc83_o10
def pc83_c11 : PCode := .skip
def pc83_c12 : PCode := .exit 0
def pc83_c13 : PCode := .cond (.tmp 14) pc83_c11 pc83_c12
def pc83_o14 : List POper := [zo 15 (.mv (.tmp 13)),
  zo 5 (.mv (.tmp 15))]
def pc83_c14 : PCode := .region none false pc83_o14
def pc83_o15 : List POper := [⟨some 16, .mv (.tmp 0), none, [(0, .imm)]⟩,
  ⟨some 17, .mv (.tmp 5), none, [(5, .imm)]⟩,
  ⟨some 18, .iaddrS 25 (.tmp 16) (.tmp 17), none, [(16, .imm), (17, .imm)]⟩,
  ⟨some 19, .load true 25 (.tmp 18), none, [(18, .imm)]⟩,
  ⟨some 20, .mv (.tmp 1), none, [(1, .imm)]⟩,
  ⟨some 21, .mv (.tmp 5), none, [(5, .imm)]⟩,
  ⟨some 22, .iaddrS 25 (.tmp 20) (.tmp 21), none, [(20, .imm), (21, .imm)]⟩,
  ⟨some 23, .load true 25 (.tmp 22), none, [(22, .imm)]⟩,
  ⟨some 24, .prim (.bin .neq 67 false false) [.tmp 19, .tmp 23], none, [(19, .imm), (23, .imm)]⟩]
def pc83_c15 : PCode := .region none true pc83_o15
def pc83_o16 : List POper := [zo 4 (.mv (.const (.bool false)))]
def pc83_c16 : PCode := .region none false pc83_o16
def pc83_c17 : PCode := .ret
def pc83_c18 : PCode := .seq pc83_c16 pc83_c17
def pc83_c19 : PCode := .skip
def pc83_c20 : PCode := .cond (.tmp 24) pc83_c18 pc83_c19
def pc83_c21 : PCode := .seq pc83_c15 pc83_c20
def pc83_c22 : PCode := .seq pc83_c14 pc83_c21
def pc83_c23 : PCode := .block 1 pc83_c22
def pc83_o24 : List POper := [zo 25 (.prim (.bin .add 3 false true) [.tmp 13, .const (.int .i64 1)]),
  zo 13 (.mv (.tmp 25))]
def pc83_c24 : PCode := .region none false pc83_o24
def pc83_c25 : PCode := .seq pc83_c23 pc83_c24
def pc83_c26 : PCode := .seq pc83_c13 pc83_c25
def pc83_c27 : PCode := .seq pc83_c10 pc83_c26
def pc83_c28 : PCode := .loop pc83_c27
def pc83_c29 : PCode := .block 0 pc83_c28
def pc83_c30 : PCode := .seq pc83_c9 pc83_c29
def pc83_o31 : List POper := [zo 4 (.mv (.const (.bool true)))]
def pc83_c31 : PCode := .region none false pc83_o31
def pc83_c32 : PCode := .ret
def pc83_c33 : PCode := .seq pc83_c31 pc83_c32
def pc83_c34 : PCode := .seq pc83_c30 pc83_c33
def pc83_c35 : PCode := .seq pc83_c8 pc83_c34
def pc83_c36 : PCode := .seq pc83_c1 pc83_c35
def pc83_r : List PRes := [PRes.tmp 4 []]
def pc83 : PFunc := ⟨26, pc83_r, pc83_c36, false⟩
def pc83_a : Ann := {
  kr := fun
    | 4 => some ([0, 1, 12, 13], [], [])
    | _ => none
  ka := fun
    | _ => 0
  kh := fun
    | 0 => some (.imm)
    | 1 => some (.imm)
    | 5 => some (.imm)
    | 16 => some (.imm)
    | 17 => some (.imm)
    | 18 => some (.imm)
    | 19 => some (.imm)
    | 20 => some (.imm)
    | 21 => some (.imm)
    | 22 => some (.imm)
    | 23 => some (.imm)
    | _ => none
  ow := fun t => match t with
    | 96 => [(1, 5, 1)]
    | _ => []
  tc := fun t => match t with
    | 96 => true
    | _ => false }
theorem pc83_ok : compFn Try.prog pc83_a Try.f83 = some pc83 := by kernel_rfl


-- 49: vedette/event.Same
def pc49_o1 : List POper := [zo 4 (.mv (.const (.bool false)))]
def pc49_c1 : PCode := .region none false pc49_o1
def pc49_o2 : List POper := [zo 5 (.mv (.tmp 0)),
  zo 6 (.mv (.tmp 1)),
  zo 7 (.call true [[(0, 25)], [(0, 25)]] 83 [.tmp 5, .tmp 6]),
  zo 4 (.mv (.tmp 7))]
def pc49_c2 : PCode := .region none false pc49_o2
def pc49_c3 : PCode := .ret
def pc49_c4 : PCode := .seq pc49_c2 pc49_c3
def pc49_c5 : PCode := .seq pc49_c1 pc49_c4
def pc49_r : List PRes := [PRes.tmp 4 []]
def pc49 : PFunc := ⟨8, pc49_r, pc49_c5, false⟩
def pc49_a : Ann := {
  kr := fun
    | _ => none
  ka := fun
    | _ => 0
  kh := fun
    | _ => none
  ow := fun t => match t with
    | 96 => [(1, 5, 1)]
    | _ => []
  tc := fun t => match t with
    | 96 => true
    | _ => false }
theorem pc49_ok : compFn Try.prog pc49_a Try.f49 = some pc49 := by kernel_rfl


-- 73: vedette/num.Get
def pc73_o1 : List POper := [zo 2 (.mv (.const (.int .u64 0))),
  zo 3 (.mv (.const (.int .i64 0))),
  zo 4 (.mv (.const (.int .i64 0)))]
def pc73_c1 : PCode := .region none false pc73_o1
def pc73_o2 : List POper := [zo 5 (.mv (.const (.int .u64 0))),
  zo 6 (.mv (.const (.int .i64 0)))]
def pc73_c2 : PCode := .region none false pc73_o2
def pc73_c3 : PCode := .label
def pc73_o4 : List POper := [zo 9 (.mv (.tmp 0)),
  zo 10 (.s2b 5 (.tmp 9)),
  zo 11 (.lenS (.tmp 10)),
  zo 12 (.mv (.const (.int .i64 0)))]
def pc73_c4 : PCode := .region none false pc73_o4
def pc73_o5 : List POper := [zo 13 (.prim (.bin .lss 3 false false) [.tmp 12, .tmp 11])]
def pc73_c5 : PCode := .region (some ([5, 6, 10, 11, 12], [], [])) false pc73_o5
def pc73_c6 : PCode := .skip
def pc73_c7 : PCode := .exit 0
def pc73_c8 : PCode := .cond (.tmp 13) pc73_c6 pc73_c7
def pc73_o9 : List POper := [zo 14 (.mv (.tmp 12)),
  zo 15 (.iaddrS 1 (.tmp 10) (.tmp 12)),
  zo 16 (.load false 1 (.tmp 15)),
  zo 7 (.mv (.tmp 14)),
  zo 8 (.mv (.tmp 16))]
def pc73_c9 : PCode := .region none false pc73_o9
def pc73_o10 : List POper := [zo 18 (.mv (.tmp 7)),
  zo 19 (.prim (.bin .eql 3 false true) [.tmp 18, .const (.int .i64 9)]),
  zo 20 (.mv (.tmp 19)),
  ⟨some 21, .mv (.tmp 8), some (20, true), []⟩,
  ⟨some 22, .prim (.bin .gtr 5 false true) [.tmp 21, .const (.int .u8 1)], some (20, true), []⟩,
  zo 23 (.pick (.tmp 20) (.tmp 22) (.const (.bool false))),
  zo 17 (.mv (.tmp 23))]
def pc73_c10 : PCode := .region none false pc73_o10
def pc73_c11 : PCode := .skip
def pc73_o12 : List POper := [zo 24 (.mv (.tmp 7)),
  zo 25 (.prim (.bin .gtr 3 false true) [.tmp 24, .const (.int .i64 0)]),
  zo 26 (.mv (.tmp 25)),
  ⟨some 27, .mv (.tmp 8), some (26, true), []⟩,
  ⟨some 28, .prim (.bin .eql 5 false true) [.tmp 27, .const (.int .u8 0)], some (26, true), []⟩,
  zo 29 (.pick (.tmp 26) (.tmp 28) (.const (.bool false))),
  zo 17 (.mv (.tmp 29))]
def pc73_c12 : PCode := .region (some ([5, 6, 7, 8, 10, 11, 12], [], [])) false pc73_o12
def pc73_c13 : PCode := .cond (.tmp 17) pc73_c11 pc73_c12
def pc73_c14 : PCode := .seq pc73_c10 pc73_c13
def pc73_o15 : List POper := [zo 2 (.mv (.const (.int .u64 0))),
  zo 3 (.mv (.const (.int .i64 0))),
  zo 4 (.mv (.const (.int .i64 11)))]
def pc73_c15 : PCode := .region none false pc73_o15
def pc73_c16 : PCode := .ret
def pc73_c17 : PCode := .seq pc73_c15 pc73_c16
def pc73_o18 : List POper := [zo 31 (.mv (.tmp 8)),
  zo 32 (.prim (.bin .lss 5 false true) [.tmp 31, .const (.int .u8 128)]),
  zo 30 (.mv (.tmp 32))]
def pc73_c18 : PCode := .region (some ([5, 6, 7, 8, 10, 11, 12], [], [])) false pc73_o18
def pc73_o19 : List POper := [zo 33 (.mv (.tmp 5)),
  zo 34 (.mv (.tmp 8)),
  zo 35 (.prim (.conv 5 89) [.tmp 34]),
  zo 36 (.mv (.tmp 7)),
  zo 37 (.prim (.bin .mul 3 true false) [.const (.int .i64 7), .tmp 36]),
  zo 38 (.prim (.bin .shl 89 false false) [.tmp 35, .tmp 37]),
  zo 39 (.prim (.bin .or 89 false false) [.tmp 33, .tmp 38]),
  zo 5 (.mv (.tmp 39))]
def pc73_c19 : PCode := .region none false pc73_o19
def pc73_o20 : List POper := [zo 40 (.mv (.tmp 7)),
  zo 41 (.prim (.bin .add 3 false true) [.tmp 40, .const (.int .i64 1)]),
  zo 6 (.mv (.tmp 41))]
def pc73_c20 : PCode := .region none false pc73_o20
def pc73_c21 : PCode := .exit 0
def pc73_c22 : PCode := .seq pc73_c20 pc73_c21
def pc73_c23 : PCode := .seq pc73_c19 pc73_c22
def pc73_c24 : PCode := .skip
def pc73_c25 : PCode := .cond (.tmp 30) pc73_c23 pc73_c24
def pc73_c26 : PCode := .seq pc73_c18 pc73_c25
def pc73_c27 : PCode := .cond (.tmp 17) pc73_c17 pc73_c26
def pc73_c28 : PCode := .seq pc73_c14 pc73_c27
def pc73_c29 : PCode := .block 2 pc73_c28
def pc73_o30 : List POper := [zo 42 (.mv (.tmp 5)),
  zo 43 (.mv (.tmp 8)),
  zo 44 (.prim (.bin .andNot 5 false true) [.tmp 43, .const (.int .u8 128)]),
  zo 45 (.prim (.conv 5 89) [.tmp 44]),
  zo 46 (.mv (.tmp 7)),
  zo 47 (.prim (.bin .mul 3 true false) [.const (.int .i64 7), .tmp 46]),
  zo 48 (.prim (.bin .shl 89 false false) [.tmp 45, .tmp 47]),
  zo 49 (.prim (.bin .or 89 false false) [.tmp 42, .tmp 48]),
  zo 5 (.mv (.tmp 49))]
def pc73_c30 : PCode := .region none false pc73_o30
def pc73_c31 : PCode := .seq pc73_c29 pc73_c30
def pc73_c32 : PCode := .seq pc73_c9 pc73_c31
def pc73_c33 : PCode := .block 1 pc73_c32
def pc73_o34 : List POper := [zo 50 (.prim (.bin .add 3 false true) [.tmp 12, .const (.int .i64 1)]),
  zo 12 (.mv (.tmp 50))]
def pc73_c34 : PCode := .region none false pc73_o34
def pc73_c35 : PCode := .seq pc73_c33 pc73_c34
def pc73_c36 : PCode := .seq pc73_c8 pc73_c35
def pc73_c37 : PCode := .seq pc73_c5 pc73_c36
def pc73_c38 : PCode := .loop pc73_c37
def pc73_c39 : PCode := .block 0 pc73_c38
def pc73_c40 : PCode := .seq pc73_c4 pc73_c39
def pc73_o41 : List POper := [zo 51 (.mv (.tmp 6)),
  zo 52 (.prim (.bin .eql 3 false true) [.tmp 51, .const (.int .i64 0)])]
def pc73_c41 : PCode := .region (some ([5, 6], [], [])) false pc73_o41
def pc73_o42 : List POper := [zo 2 (.mv (.const (.int .u64 0))),
  zo 3 (.mv (.const (.int .i64 0))),
  zo 4 (.mv (.const (.int .i64 10)))]
def pc73_c42 : PCode := .region none false pc73_o42
def pc73_c43 : PCode := .ret
def pc73_c44 : PCode := .seq pc73_c42 pc73_c43
def pc73_c45 : PCode := .skip
def pc73_c46 : PCode := .cond (.tmp 52) pc73_c44 pc73_c45
def pc73_c47 : PCode := .seq pc73_c41 pc73_c46
def pc73_o48 : List POper := [zo 53 (.mv (.tmp 5)),
  zo 54 (.mv (.tmp 6)),
  zo 2 (.mv (.tmp 53)),
  zo 3 (.mv (.tmp 54)),
  zo 4 (.mv (.const (.int .i64 0)))]
def pc73_c48 : PCode := .region none false pc73_o48
def pc73_c49 : PCode := .ret
def pc73_c50 : PCode := .seq pc73_c48 pc73_c49
def pc73_c51 : PCode := .seq pc73_c47 pc73_c50
def pc73_c52 : PCode := .seq pc73_c40 pc73_c51
def pc73_c53 : PCode := .seq pc73_c3 pc73_c52
def pc73_c54 : PCode := .seq pc73_c2 pc73_c53
def pc73_c55 : PCode := .scope pc73_c54
def pc73_c56 : PCode := .seq pc73_c1 pc73_c55
def pc73_r : List PRes := [PRes.tmp 2 [], PRes.tmp 3 [], PRes.tmp 4 []]
def pc73 : PFunc := ⟨55, pc73_r, pc73_c56, false⟩
def pc73_a : Ann := {
  kr := fun
    | 3 => some ([5, 6, 10, 11, 12], [], [])
    | 6 => some ([5, 6, 7, 8, 10, 11, 12], [], [])
    | 8 => some ([5, 6, 7, 8, 10, 11, 12], [], [])
    | 13 => some ([5, 6], [], [])
    | _ => none
  ka := fun
    | _ => 0
  kh := fun
    | _ => none
  ow := fun t => match t with
    | 96 => [(1, 5, 1)]
    | _ => []
  tc := fun t => match t with
    | 96 => true
    | _ => false }
theorem pc73_ok : compFn Try.prog pc73_a Try.f73 = some pc73 := by kernel_rfl


-- 116: (*vedette/fields.reader).took
def pc116_o1 : List POper := [zo 6 (.mv (.tmp 0)),
  zo 7 (.nilc (.tmp 6)),
  zo 8 (.faddr 1 (.tmp 7)),
  zo 9 (.load false 1 (.tmp 8)),
  zo 10 (.mv (.tmp 1)),
  zo 11 (.prim (.bin .add 3 false false) [.tmp 9, .tmp 10]),
  zo 12 (.nilc (.tmp 6)),
  zo 13 (.faddr 1 (.tmp 12)),
  ⟨none, .store 1 (.tmp 13) (.tmp 11), none, []⟩]
def pc116_c1 : PCode := .region none false pc116_o1
def pc116_o2 : List POper := [zo 14 (.mv (.tmp 0)),
  zo 15 (.mv (.tmp 2)),
  zo 16 (.nilc (.tmp 14)),
  zo 17 (.faddr 2 (.tmp 16)),
  ⟨none, .store 1 (.tmp 17) (.tmp 15), none, []⟩]
def pc116_c2 : PCode := .region none false pc116_o2
def pc116_c3 : PCode := .seq pc116_c1 pc116_c2
def pc116_r : List PRes := []
def pc116 : PFunc := ⟨18, pc116_r, pc116_c3, false⟩
def pc116_a : Ann := {
  kr := fun
    | _ => none
  ka := fun
    | _ => 0
  kh := fun
    | _ => none
  ow := fun t => match t with
    | 96 => [(1, 5, 1)]
    | _ => []
  tc := fun t => match t with
    | 96 => true
    | _ => false }
theorem pc116_ok : compFn Try.prog pc116_a Try.f116 = some pc116 := by kernel_rfl


-- 104: (*vedette/fields.reader).number
def pc104_o1 : List POper := [zo 2 (.mv (.const (.int .i64 0)))]
def pc104_c1 : PCode := .region none false pc104_o1
def pc104_o2 : List POper := [zo 6 (.mv (.tmp 0)),
  zo 7 (.nilc (.tmp 6)),
  zo 8 (.faddr 2 (.tmp 7)),
  zo 9 (.load false 1 (.tmp 8)),
  zo 10 (.prim (.bin .neq 37 false true) [.tmp 9, .const (.int .i64 0)])]
def pc104_c2 : PCode := .region none false pc104_o2
def pc104_o3 : List POper := [zo 2 (.mv (.const (.int .i64 0)))]
def pc104_c3 : PCode := .region none false pc104_o3
def pc104_c4 : PCode := .ret
def pc104_c5 : PCode := .seq pc104_c3 pc104_c4
def pc104_c6 : PCode := .skip
def pc104_c7 : PCode := .cond (.tmp 10) pc104_c5 pc104_c6
def pc104_c8 : PCode := .seq pc104_c2 pc104_c7
def pc104_o9 : List POper := [⟨some 12, .mv (.tmp 0), none, [(0, .at_ 1000000 0)]⟩,
  ⟨some 13, .nilc (.tmp 12), none, [(12, .at_ 1000000 0)]⟩,
  ⟨some 14, .faddr 0 (.tmp 13), none, [(13, .at_ 1000000 0)]⟩,
  ⟨some 15, .load false 1 (.tmp 14), none, [(14, .at_ 1000000 0)]⟩,
  ⟨some 16, .mv (.tmp 0), none, [(0, .at_ 1000000 0)]⟩,
  ⟨some 17, .nilc (.tmp 16), none, [(16, .at_ 1000000 0)]⟩,
  ⟨some 18, .faddr 1 (.tmp 17), none, [(17, .at_ 1000000 0)]⟩,
  ⟨some 19, .load false 1 (.tmp 18), none, [(18, .at_ 1000000 1)]⟩,
  ⟨some 20, .prim (.slice 9 true false) [.tmp 15, .tmp 19], none, [(15, .imm), (19, .imm)]⟩,
  ⟨some 21, .call false [[]] 73 [.tmp 20], none, [(20, .imm)]⟩,
  zo 11 (.mv (.tmp 21)),
  zo 22 (.ext (.tmp 11) 0),
  zo 23 (.ext (.tmp 11) 1),
  zo 24 (.ext (.tmp 11) 2),
  ⟨some 3, .mv (.tmp 22), none, [(22, .imm)]⟩,
  ⟨some 4, .mv (.tmp 23), none, [(23, .imm)]⟩,
  ⟨some 5, .mv (.tmp 24), none, [(24, .imm)]⟩]
def pc104_c9 : PCode := .region none true pc104_o9
def pc104_o10 : List POper := [zo 25 (.mv (.tmp 0)),
  zo 26 (.mv (.tmp 4)),
  zo 27 (.mv (.tmp 5)),
  zo 28 (.call true [[], [], []] 116 [.tmp 25, .tmp 26, .tmp 27])]
def pc104_c10 : PCode := .region none false pc104_o10
def pc104_o11 : List POper := [zo 29 (.mv (.tmp 3)),
  zo 30 (.prim .min [.tmp 29, .const (.int .u64 1000001)]),
  zo 31 (.prim (.conv 89 3) [.tmp 30]),
  zo 2 (.mv (.tmp 31))]
def pc104_c11 : PCode := .region none false pc104_o11
def pc104_c12 : PCode := .ret
def pc104_c13 : PCode := .seq pc104_c11 pc104_c12
def pc104_c14 : PCode := .seq pc104_c10 pc104_c13
def pc104_c15 : PCode := .seq pc104_c9 pc104_c14
def pc104_c16 : PCode := .seq pc104_c8 pc104_c15
def pc104_c17 : PCode := .seq pc104_c1 pc104_c16
def pc104_r : List PRes := [PRes.tmp 2 []]
def pc104 : PFunc := ⟨32, pc104_r, pc104_c17, false⟩
def pc104_a : Ann := {
  kr := fun
    | _ => none
  ka := fun
    | _ => 0
  kh := fun
    | 0 => some (.at_ 1000000 0)
    | 12 => some (.at_ 1000000 0)
    | 13 => some (.at_ 1000000 0)
    | 14 => some (.at_ 1000000 0)
    | 15 => some (.imm)
    | 16 => some (.at_ 1000000 0)
    | 17 => some (.at_ 1000000 0)
    | 18 => some (.at_ 1000000 1)
    | 19 => some (.imm)
    | 20 => some (.imm)
    | 22 => some (.imm)
    | 23 => some (.imm)
    | 24 => some (.imm)
    | _ => none
  ow := fun t => match t with
    | 96 => [(1, 5, 1)]
    | _ => []
  tc := fun t => match t with
    | 96 => true
    | _ => false }
theorem pc104_ok : compFn Try.prog pc104_a Try.f104 = some pc104 := by kernel_rfl


-- 117: vedette/num.Texts
def pc117_o1 : List POper := [zo 4 (.mv (.const (.string { data := { toList := [] } }))),
  zo 5 (.mv (.const (.int .i64 0))),
  zo 6 (.mv (.const (.int .i64 0)))]
def pc117_c1 : PCode := .region none false pc117_o1
def pc117_o2 : List POper := [zo 12 (.mv (.tmp 0)),
  zo 13 (.call true [[]] 73 [.tmp 12]),
  zo 11 (.mv (.tmp 13)),
  zo 14 (.ext (.tmp 11) 0),
  zo 15 (.ext (.tmp 11) 1),
  zo 16 (.ext (.tmp 11) 2),
  zo 7 (.mv (.tmp 14)),
  zo 8 (.mv (.tmp 15)),
  zo 9 (.mv (.tmp 16))]
def pc117_c2 : PCode := .region none false pc117_o2
def pc117_o3 : List POper := [zo 18 (.mv (.tmp 9)),
  zo 19 (.prim (.bin .neq 37 false true) [.tmp 18, .const (.int .i64 0)]),
  zo 17 (.mv (.tmp 19))]
def pc117_c3 : PCode := .region none false pc117_o3
def pc117_o4 : List POper := [zo 20 (.mv (.tmp 9)),
  zo 4 (.mv (.const (.string { data := { toList := [] } }))),
  zo 5 (.mv (.const (.int .i64 0))),
  zo 6 (.mv (.tmp 20))]
def pc117_c4 : PCode := .region none false pc117_o4
def pc117_c5 : PCode := .ret
def pc117_c6 : PCode := .seq pc117_c4 pc117_c5
def pc117_o7 : List POper := [zo 22 (.mv (.tmp 7)),
  zo 23 (.mv (.tmp 1)),
  zo 24 (.prim .max [.tmp 23, .const (.int .i64 0)]),
  zo 25 (.prim (.conv 3 89) [.tmp 24]),
  zo 26 (.prim (.bin .gtr 89 false false) [.tmp 22, .tmp 25]),
  zo 21 (.mv (.tmp 26))]
def pc117_c7 : PCode := .region none false pc117_o7
def pc117_o8 : List POper := [zo 4 (.mv (.const (.string { data := { toList := [] } }))),
  zo 5 (.mv (.const (.int .i64 0))),
  zo 6 (.mv (.const (.int .i64 13)))]
def pc117_c8 : PCode := .region none false pc117_o8
def pc117_c9 : PCode := .ret
def pc117_c10 : PCode := .seq pc117_c8 pc117_c9
def pc117_o11 : List POper := [zo 28 (.mv (.tmp 7)),
  zo 29 (.mv (.tmp 0)),
  zo 30 (.prim (.len 9) [.tmp 29]),
  zo 31 (.mv (.tmp 8)),
  zo 32 (.prim (.bin .sub 3 false false) [.tmp 30, .tmp 31]),
  zo 33 (.prim (.conv 3 89) [.tmp 32]),
  zo 34 (.prim (.bin .gtr 89 false false) [.tmp 28, .tmp 33]),
  zo 27 (.mv (.tmp 34))]
def pc117_c11 : PCode := .region none false pc117_o11
def pc117_o12 : List POper := [zo 4 (.mv (.const (.string { data := { toList := [] } }))),
  zo 5 (.mv (.const (.int .i64 0))),
  zo 6 (.mv (.const (.int .i64 10)))]
def pc117_c12 : PCode := .region none false pc117_o12
def pc117_c13 : PCode := .ret
def pc117_c14 : PCode := .seq pc117_c12 pc117_c13
def pc117_c15 : PCode := .skip
def pc117_c16 : PCode := .cond (.tmp 27) pc117_c14 pc117_c15
def pc117_c17 : PCode := .seq pc117_c11 pc117_c16
def pc117_c18 : PCode := .cond (.tmp 21) pc117_c10 pc117_c17
def pc117_c19 : PCode := .seq pc117_c7 pc117_c18
def pc117_c20 : PCode := .cond (.tmp 17) pc117_c6 pc117_c19
def pc117_c21 : PCode := .seq pc117_c3 pc117_c20
def pc117_c22 : PCode := .block 0 pc117_c21
def pc117_o23 : List POper := [zo 35 (.mv (.tmp 8)),
  zo 36 (.mv (.tmp 7)),
  zo 37 (.prim (.conv 89 3) [.tmp 36]),
  zo 38 (.prim (.bin .add 3 false false) [.tmp 35, .tmp 37]),
  zo 10 (.mv (.tmp 38))]
def pc117_c23 : PCode := .region none false pc117_o23
def pc117_o24 : List POper := [zo 39 (.mv (.tmp 0)),
  zo 40 (.mv (.tmp 8)),
  zo 41 (.mv (.tmp 10)),
  zo 42 (.prim (.slice 9 true true) [.tmp 39, .tmp 40, .tmp 41]),
  zo 43 (.mv (.tmp 10)),
  zo 4 (.mv (.tmp 42)),
  zo 5 (.mv (.tmp 43)),
  zo 6 (.mv (.const (.int .i64 0)))]
def pc117_c24 : PCode := .region none false pc117_o24
def pc117_c25 : PCode := .ret
def pc117_c26 : PCode := .seq pc117_c24 pc117_c25
def pc117_c27 : PCode := .seq pc117_c23 pc117_c26
def pc117_c28 : PCode := .seq pc117_c22 pc117_c27
def pc117_c29 : PCode := .seq pc117_c2 pc117_c28
def pc117_c30 : PCode := .seq pc117_c1 pc117_c29
def pc117_r : List PRes := [PRes.tmp 4 [], PRes.tmp 5 [], PRes.tmp 6 []]
def pc117 : PFunc := ⟨44, pc117_r, pc117_c30, false⟩
def pc117_a : Ann := {
  kr := fun
    | _ => none
  ka := fun
    | _ => 0
  kh := fun
    | _ => none
  ow := fun t => match t with
    | 96 => [(1, 5, 1)]
    | _ => []
  tc := fun t => match t with
    | 96 => true
    | _ => false }
theorem pc117_ok : compFn Try.prog pc117_a Try.f117 = some pc117 := by kernel_rfl


-- 121: vedette/num.Zag
def pc121_o1 : List POper := [zo 2 (.mv (.const (.int .i64 0)))]
def pc121_c1 : PCode := .region none false pc121_o1
def pc121_o2 : List POper := [zo 3 (.mv (.tmp 0)),
  zo 4 (.prim (.bin .shr 89 false true) [.tmp 3, .const (.int .u64 1)]),
  zo 5 (.prim (.conv 89 2) [.tmp 4]),
  zo 6 (.mv (.tmp 0)),
  zo 7 (.prim (.bin .and 89 false true) [.tmp 6, .const (.int .u64 1)]),
  zo 8 (.prim (.conv 89 2) [.tmp 7]),
  zo 9 (.prim (.un .neg) [.tmp 8]),
  zo 10 (.prim (.bin .xor 2 false false) [.tmp 5, .tmp 9]),
  zo 2 (.mv (.tmp 10))]
def pc121_c2 : PCode := .region none false pc121_o2
def pc121_c3 : PCode := .ret
def pc121_c4 : PCode := .seq pc121_c2 pc121_c3
def pc121_c5 : PCode := .seq pc121_c1 pc121_c4
def pc121_r : List PRes := [PRes.tmp 2 []]
def pc121 : PFunc := ⟨11, pc121_r, pc121_c5, false⟩
def pc121_a : Ann := {
  kr := fun
    | _ => none
  ka := fun
    | _ => 0
  kh := fun
    | _ => none
  ow := fun t => match t with
    | 96 => [(1, 5, 1)]
    | _ => []
  tc := fun t => match t with
    | 96 => true
    | _ => false }
theorem pc121_ok : compFn Try.prog pc121_a Try.f121 = some pc121 := by kernel_rfl


-- 118: vedette/num.Ints
def pc118_o1 : List POper := [zo 2 (.mv (.const (.int .i64 0))),
  zo 3 (.mv (.const (.int .i64 0))),
  zo 4 (.mv (.const (.int .i64 0)))]
def pc118_c1 : PCode := .region none false pc118_o1
def pc118_o2 : List POper := [zo 9 (.mv (.tmp 0)),
  zo 10 (.call true [[]] 73 [.tmp 9]),
  zo 8 (.mv (.tmp 10)),
  zo 11 (.ext (.tmp 8) 0),
  zo 12 (.ext (.tmp 8) 1),
  zo 13 (.ext (.tmp 8) 2),
  zo 5 (.mv (.tmp 11)),
  zo 6 (.mv (.tmp 12)),
  zo 7 (.mv (.tmp 13))]
def pc118_c2 : PCode := .region none false pc118_o2
def pc118_o3 : List POper := [zo 14 (.mv (.tmp 5)),
  zo 15 (.call true [[]] 121 [.tmp 14]),
  zo 16 (.mv (.tmp 6)),
  zo 17 (.mv (.tmp 7)),
  zo 2 (.mv (.tmp 15)),
  zo 3 (.mv (.tmp 16)),
  zo 4 (.mv (.tmp 17))]
def pc118_c3 : PCode := .region none false pc118_o3
def pc118_c4 : PCode := .ret
def pc118_c5 : PCode := .seq pc118_c3 pc118_c4
def pc118_c6 : PCode := .seq pc118_c2 pc118_c5
def pc118_c7 : PCode := .seq pc118_c1 pc118_c6
def pc118_r : List PRes := [PRes.tmp 2 [], PRes.tmp 3 [], PRes.tmp 4 []]
def pc118 : PFunc := ⟨18, pc118_r, pc118_c7, false⟩
def pc118_a : Ann := {
  kr := fun
    | _ => none
  ka := fun
    | _ => 0
  kh := fun
    | _ => none
  ow := fun t => match t with
    | 96 => [(1, 5, 1)]
    | _ => []
  tc := fun t => match t with
    | 96 => true
    | _ => false }
theorem pc118_ok : compFn Try.prog pc118_a Try.f118 = some pc118 := by kernel_rfl


-- 105: (*vedette/fields.reader).field
def pc105_o1 : List POper := [zo 2 (.alloc 25 (.agg { toList := [.int .i64 0, .string { data := { toList := [] } }] }) [])]
def pc105_c1 : PCode := .region none false pc105_o1
def pc105_o2 : List POper := [zo 3 (.alloc 25 (.agg { toList := [.int .i64 0, .string { data := { toList := [] } }] }) [])]
def pc105_c2 : PCode := .region none false pc105_o2
def pc105_o3 : List POper := [zo 10 (.mv (.tmp 0)),
  zo 11 (.nilc (.tmp 10)),
  zo 12 (.faddr 2 (.tmp 11)),
  zo 13 (.load false 1 (.tmp 12)),
  zo 14 (.prim (.bin .neq 37 false true) [.tmp 13, .const (.int .i64 0)])]
def pc105_c3 : PCode := .region none false pc105_o3
def pc105_o4 : List POper := [zo 15 (.load true 2 (.tmp 3)),
  ⟨none, .store 2 (.tmp 2) (.tmp 15), none, []⟩]
def pc105_c4 : PCode := .region none false pc105_o4
def pc105_c5 : PCode := .ret
def pc105_c6 : PCode := .seq pc105_c4 pc105_c5
def pc105_c7 : PCode := .skip
def pc105_c8 : PCode := .cond (.tmp 14) pc105_c6 pc105_c7
def pc105_c9 : PCode := .seq pc105_c3 pc105_c8
def pc105_o10 : List POper := [⟨some 17, .mv (.tmp 0), none, [(0, .at_ 1000000 0)]⟩,
  ⟨some 18, .nilc (.tmp 17), none, [(17, .at_ 1000000 0)]⟩,
  ⟨some 19, .faddr 0 (.tmp 18), none, [(18, .at_ 1000000 0)]⟩,
  ⟨some 20, .load false 1 (.tmp 19), none, [(19, .at_ 1000000 0)]⟩,
  ⟨some 21, .mv (.tmp 0), none, [(0, .at_ 1000000 0)]⟩,
  ⟨some 22, .nilc (.tmp 21), none, [(21, .at_ 1000000 0)]⟩,
  ⟨some 23, .faddr 1 (.tmp 22), none, [(22, .at_ 1000000 0)]⟩,
  ⟨some 24, .load false 1 (.tmp 23), none, [(23, .at_ 1000000 1)]⟩,
  ⟨some 25, .prim (.slice 9 true false) [.tmp 20, .tmp 24], none, [(20, .imm), (24, .imm)]⟩,
  ⟨some 26, .call false [[], []] 117 [.tmp 25, .const (.int .i64 12)], none, [(25, .imm)]⟩,
  zo 16 (.mv (.tmp 26)),
  zo 27 (.ext (.tmp 16) 0),
  zo 28 (.ext (.tmp 16) 1),
  zo 29 (.ext (.tmp 16) 2),
  ⟨some 4, .mv (.tmp 27), none, [(27, .imm)]⟩,
  ⟨some 5, .mv (.tmp 28), none, [(28, .imm)]⟩,
  ⟨some 6, .mv (.tmp 29), none, [(29, .imm)]⟩]
def pc105_c10 : PCode := .region none true pc105_o10
def pc105_o11 : List POper := [zo 30 (.mv (.tmp 0)),
  zo 31 (.mv (.tmp 5)),
  zo 32 (.mv (.tmp 6)),
  zo 33 (.call true [[], [], []] 116 [.tmp 30, .tmp 31, .tmp 32])]
def pc105_c11 : PCode := .region none false pc105_o11
def pc105_o12 : List POper := [zo 34 (.mv (.tmp 4)),
  zo 35 (.faddr 1 (.tmp 3)),
  ⟨none, .store 1 (.tmp 35) (.tmp 34), none, []⟩]
def pc105_c12 : PCode := .region none false pc105_o12
def pc105_o13 : List POper := [zo 36 (.mv (.tmp 4)),
  zo 37 (.prim (.bin .eql 9 false true) [.tmp 36, .const (.string { data := { toList := [] } })]),
  zo 38 (.mv (.tmp 37)),
  ⟨some 39, .mv (.tmp 6), some (38, true), []⟩,
  ⟨some 40, .prim (.bin .eql 37 false true) [.tmp 39, .const (.int .i64 0)], some (38, true), []⟩,
  zo 41 (.pick (.tmp 38) (.tmp 40) (.const (.bool false)))]
def pc105_c13 : PCode := .region none false pc105_o13
def pc105_o14 : List POper := [⟨some 43, .mv (.tmp 0), none, [(0, .at_ 1000000 0)]⟩,
  ⟨some 44, .nilc (.tmp 43), none, [(43, .at_ 1000000 0)]⟩,
  ⟨some 45, .faddr 0 (.tmp 44), none, [(44, .at_ 1000000 0)]⟩,
  ⟨some 46, .load false 1 (.tmp 45), none, [(45, .at_ 1000000 0)]⟩,
  ⟨some 47, .mv (.tmp 0), none, [(0, .at_ 1000000 0)]⟩,
  ⟨some 48, .nilc (.tmp 47), none, [(47, .at_ 1000000 0)]⟩,
  ⟨some 49, .faddr 1 (.tmp 48), none, [(48, .at_ 1000000 0)]⟩,
  ⟨some 50, .load false 1 (.tmp 49), none, [(49, .at_ 1000000 1)]⟩,
  ⟨some 51, .prim (.slice 9 true false) [.tmp 46, .tmp 50], none, [(46, .imm), (50, .imm)]⟩,
  ⟨some 52, .call false [[]] 118 [.tmp 51], none, [(51, .imm)]⟩,
  zo 42 (.mv (.tmp 52)),
  zo 53 (.ext (.tmp 42) 0),
  zo 54 (.ext (.tmp 42) 1),
  zo 55 (.ext (.tmp 42) 2),
  ⟨some 7, .mv (.tmp 53), none, [(53, .imm)]⟩,
  ⟨some 8, .mv (.tmp 54), none, [(54, .imm)]⟩,
  ⟨some 9, .mv (.tmp 55), none, [(55, .imm)]⟩]
def pc105_c14 : PCode := .region none true pc105_o14
def pc105_o15 : List POper := [zo 56 (.mv (.tmp 0)),
  zo 57 (.mv (.tmp 8)),
  zo 58 (.mv (.tmp 9)),
  zo 59 (.call true [[], [], []] 116 [.tmp 56, .tmp 57, .tmp 58])]
def pc105_c15 : PCode := .region none false pc105_o15
def pc105_o16 : List POper := [zo 60 (.mv (.tmp 7)),
  zo 61 (.faddr 0 (.tmp 3)),
  ⟨none, .store 1 (.tmp 61) (.tmp 60), none, []⟩]
def pc105_c16 : PCode := .region none false pc105_o16
def pc105_c17 : PCode := .seq pc105_c15 pc105_c16
def pc105_c18 : PCode := .seq pc105_c14 pc105_c17
def pc105_c19 : PCode := .skip
def pc105_c20 : PCode := .cond (.tmp 41) pc105_c18 pc105_c19
def pc105_c21 : PCode := .seq pc105_c13 pc105_c20
def pc105_c22 : PCode := .seq pc105_c12 pc105_c21
def pc105_o23 : List POper := [zo 62 (.load true 2 (.tmp 3)),
  ⟨none, .store 2 (.tmp 2) (.tmp 62), none, []⟩]
def pc105_c23 : PCode := .region none false pc105_o23
def pc105_c24 : PCode := .ret
def pc105_c25 : PCode := .seq pc105_c23 pc105_c24
def pc105_c26 : PCode := .seq pc105_c22 pc105_c25
def pc105_c27 : PCode := .seq pc105_c11 pc105_c26
def pc105_c28 : PCode := .seq pc105_c10 pc105_c27
def pc105_c29 : PCode := .seq pc105_c9 pc105_c28
def pc105_c30 : PCode := .seq pc105_c2 pc105_c29
def pc105_c31 : PCode := .seq pc105_c1 pc105_c30
def pc105_r : List PRes := [PRes.cell 2 true 2 []]
def pc105 : PFunc := ⟨63, pc105_r, pc105_c31, false⟩
def pc105_a : Ann := {
  kr := fun
    | _ => none
  ka := fun
    | _ => 0
  kh := fun
    | 0 => some (.at_ 1000000 0)
    | 17 => some (.at_ 1000000 0)
    | 18 => some (.at_ 1000000 0)
    | 19 => some (.at_ 1000000 0)
    | 20 => some (.imm)
    | 21 => some (.at_ 1000000 0)
    | 22 => some (.at_ 1000000 0)
    | 23 => some (.at_ 1000000 1)
    | 24 => some (.imm)
    | 25 => some (.imm)
    | 27 => some (.imm)
    | 28 => some (.imm)
    | 29 => some (.imm)
    | 43 => some (.at_ 1000000 0)
    | 44 => some (.at_ 1000000 0)
    | 45 => some (.at_ 1000000 0)
    | 46 => some (.imm)
    | 47 => some (.at_ 1000000 0)
    | 48 => some (.at_ 1000000 0)
    | 49 => some (.at_ 1000000 1)
    | 50 => some (.imm)
    | 51 => some (.imm)
    | 53 => some (.imm)
    | 54 => some (.imm)
    | 55 => some (.imm)
    | _ => none
  ow := fun t => match t with
    | 96 => [(1, 5, 1)]
    | _ => []
  tc := fun t => match t with
    | 96 => true
    | _ => false }
theorem pc105_ok : compFn Try.prog pc105_a Try.f105 = some pc105 := by kernel_rfl


-- 71: vedette/fields.Read
def pc71_o1 : List POper := [zo 2 (.alloc 35 (.agg { toList := [.int .i64 0, .int .u8 0, .int .i64 0, .int .i64 0, .int .i64 0, .string { data := { toList := [] } }, .int .i64 0, .string { data := { toList := [] } }, .int .i64 0, .string { data := { toList := [] } }, .int .i64 0, .string { data := { toList := [] } }] }) []),
  zo 3 (.mv (.const (.int .i64 0))),
  zo 4 (.mv (.const (.int .i64 0)))]
def pc71_c1 : PCode := .region none false pc71_o1
def pc71_o2 : List POper := [zo 9 (.mv (.tmp 0)),
  zo 10 (.build (.agg { toList := [.string { data := { toList := [] } }, .int .i64 0, .int .i64 0] }) [(0, 1, .tmp 9)]),
  zo 11 (.box 138 (.tmp 10) []),
  zo 5 (.mv (.tmp 11))]
def pc71_c2 : PCode := .region none false pc71_o2
def pc71_o3 : List POper := [zo 12 (.mv (.tmp 5)),
  zo 13 (.call true [[]] 104 [.tmp 12]),
  zo 14 (.build (.agg { toList := [.int .i64 0, .int .u8 0, .int .i64 0, .int .i64 0, .int .i64 0, .string { data := { toList := [] } }, .int .i64 0, .string { data := { toList := [] } }, .int .i64 0, .string { data := { toList := [] } }, .int .i64 0, .string { data := { toList := [] } }] }) [(0, 1, .tmp 13)]),
  zo 6 (.alloc 35 (.agg { toList := [.int .i64 0, .int .u8 0, .int .i64 0, .int .i64 0, .int .i64 0, .string { data := { toList := [] } }, .int .i64 0, .string { data := { toList := [] } }, .int .i64 0, .string { data := { toList := [] } }, .int .i64 0, .string { data := { toList := [] } }] }) []),
  ⟨none, .store 12 (.tmp 6) (.tmp 14), none, []⟩]
def pc71_c3 : PCode := .region none false pc71_o3
def pc71_o4 : List POper := [zo 15 (.mv (.tmp 5)),
  zo 16 (.call true [[]] 104 [.tmp 15]),
  zo 7 (.mv (.tmp 16))]
def pc71_c4 : PCode := .region none false pc71_o4
def pc71_o5 : List POper := [zo 17 (.mv (.tmp 5)),
  zo 18 (.nilc (.tmp 17)),
  zo 19 (.faddr 2 (.tmp 18)),
  zo 20 (.load false 1 (.tmp 19)),
  zo 21 (.prim (.bin .eql 37 false true) [.tmp 20, .const (.int .i64 0)]),
  zo 22 (.mv (.tmp 21)),
  ⟨some 23, .faddr 0 (.tmp 6), some (22, true), []⟩,
  ⟨some 24, .load false 1 (.tmp 23), some (22, true), []⟩,
  ⟨some 25, .prim (.bin .gtr 3 false true) [.tmp 24, .const (.int .i64 1000000)], some (22, true), []⟩,
  ⟨some 26, .mv (.tmp 25), some (22, true), []⟩,
  ⟨some 27, .mv (.tmp 7), some (26, false), []⟩,
  ⟨some 28, .prim (.bin .eql 3 false true) [.tmp 27, .const (.int .i64 0)], some (26, false), []⟩,
  ⟨some 29, .pick (.tmp 26) (.const (.bool true)) (.tmp 28), some (22, true), []⟩,
  ⟨some 30, .mv (.tmp 29), some (22, true), []⟩,
  ⟨some 31, .mv (.tmp 7), some (30, false), []⟩,
  ⟨some 32, .prim (.bin .gtr 3 false true) [.tmp 31, .const (.int .i64 31)], some (30, false), []⟩,
  ⟨some 33, .pick (.tmp 30) (.const (.bool true)) (.tmp 32), some (22, true), []⟩,
  zo 34 (.pick (.tmp 22) (.tmp 33) (.const (.bool false)))]
def pc71_c5 : PCode := .region none false pc71_o5
def pc71_o6 : List POper := [zo 35 (.build (.agg { toList := [.int .i64 0, .int .u8 0, .int .i64 0, .int .i64 0, .int .i64 0, .string { data := { toList := [] } }, .int .i64 0, .string { data := { toList := [] } }, .int .i64 0, .string { data := { toList := [] } }, .int .i64 0, .string { data := { toList := [] } }] }) []),
  ⟨none, .store 12 (.tmp 2) (.tmp 35), none, []⟩,
  zo 3 (.mv (.const (.int .i64 0))),
  zo 4 (.mv (.const (.int .i64 11)))]
def pc71_c6 : PCode := .region none false pc71_o6
def pc71_c7 : PCode := .ret
def pc71_c8 : PCode := .seq pc71_c6 pc71_c7
def pc71_c9 : PCode := .skip
def pc71_c10 : PCode := .cond (.tmp 34) pc71_c8 pc71_c9
def pc71_c11 : PCode := .seq pc71_c5 pc71_c10
def pc71_o12 : List POper := [zo 36 (.mv (.tmp 7)),
  zo 37 (.prim (.conv 3 5) [.tmp 36]),
  zo 38 (.faddr 1 (.tmp 6)),
  ⟨none, .store 1 (.tmp 38) (.tmp 37), none, []⟩]
def pc71_c12 : PCode := .region (some ([2, 5, 6, 7], [2, 6, 11], [])) false pc71_o12
def pc71_o13 : List POper := [zo 39 (.faddr 1 (.tmp 6)),
  zo 40 (.load false 1 (.tmp 39)),
  zo 41 (.prim (.bin .and 5 false true) [.tmp 40, .const (.int .u8 1)]),
  zo 42 (.prim (.bin .neq 5 false true) [.tmp 41, .const (.int .u8 0)])]
def pc71_c13 : PCode := .region none false pc71_o13
def pc71_o14 : List POper := [zo 43 (.mv (.tmp 5)),
  zo 44 (.call true [[]] 104 [.tmp 43]),
  zo 45 (.faddr 2 (.tmp 6)),
  zo 46 (.faddr 0 (.tmp 45)),
  ⟨none, .store 1 (.tmp 46) (.tmp 44), none, []⟩]
def pc71_c14 : PCode := .region none false pc71_o14
def pc71_o15 : List POper := [zo 47 (.mv (.tmp 5)),
  zo 48 (.call true [[]] 104 [.tmp 47]),
  zo 49 (.faddr 2 (.tmp 6)),
  zo 50 (.faddr 1 (.tmp 49)),
  ⟨none, .store 1 (.tmp 50) (.tmp 48), none, []⟩]
def pc71_c15 : PCode := .region none false pc71_o15
def pc71_c16 : PCode := .seq pc71_c14 pc71_c15
def pc71_c17 : PCode := .skip
def pc71_c18 : PCode := .cond (.tmp 42) pc71_c16 pc71_c17
def pc71_c19 : PCode := .seq pc71_c13 pc71_c18
def pc71_c20 : PCode := .seq pc71_c12 pc71_c19
def pc71_c21 : PCode := .label
def pc71_o22 : List POper := [zo 51 (.mv (.const (.int .i64 0)))]
def pc71_c22 : PCode := .region none false pc71_o22
def pc71_o23 : List POper := [zo 52 (.prim (.bin .lss 3 false true) [.tmp 51, .const (.int .i64 4)])]
def pc71_c23 : PCode := .region (some ([2, 5, 6, 51], [2, 6, 11], [])) false pc71_o23
def pc71_c24 : PCode := .skip
def pc71_c25 : PCode := .exit 0
def pc71_c26 : PCode := .cond (.tmp 52) pc71_c24 pc71_c25
def pc71_o27 : List POper := [zo 53 (.mv (.tmp 51)),
  zo 8 (.mv (.tmp 53))]
def pc71_c27 : PCode := .region none false pc71_o27
def pc71_o28 : List POper := [zo 55 (.mv (.tmp 5)),
  zo 56 (.nilc (.tmp 55)),
  zo 57 (.faddr 2 (.tmp 56)),
  zo 58 (.load false 1 (.tmp 57)),
  zo 59 (.prim (.bin .neq 37 false true) [.tmp 58, .const (.int .i64 0)]),
  zo 54 (.mv (.tmp 59))]
def pc71_c28 : PCode := .region none false pc71_o28
def pc71_c29 : PCode := .exit 0
def pc71_o30 : List POper := [zo 61 (.faddr 1 (.tmp 6)),
  zo 62 (.load false 1 (.tmp 61)),
  zo 63 (.mv (.tmp 8)),
  zo 64 (.call true [[], []] 99 [.tmp 62, .tmp 63]),
  zo 60 (.mv (.tmp 64))]
def pc71_c30 : PCode := .region none false pc71_o30
def pc71_o31 : List POper := [zo 65 (.mv (.tmp 8)),
  zo 66 (.mv (.tmp 5)),
  zo 67 (.call true [[]] 105 [.tmp 66]),
  zo 68 (.faddr 4 (.tmp 6)),
  zo 69 (.iaddrA 4 2 (.tmp 68) (.tmp 65)),
  ⟨none, .store 2 (.tmp 69) (.tmp 67), none, []⟩]
def pc71_c31 : PCode := .region none false pc71_o31
def pc71_c32 : PCode := .skip
def pc71_c33 : PCode := .cond (.tmp 60) pc71_c31 pc71_c32
def pc71_c34 : PCode := .seq pc71_c30 pc71_c33
def pc71_c35 : PCode := .cond (.tmp 54) pc71_c29 pc71_c34
def pc71_c36 : PCode := .seq pc71_c28 pc71_c35
def pc71_c37 : PCode := .block 2 pc71_c36
def pc71_c38 : PCode := .seq pc71_c27 pc71_c37
def pc71_c39 : PCode := .block 1 pc71_c38
def pc71_o40 : List POper := [zo 70 (.prim (.bin .add 3 false true) [.tmp 51, .const (.int .i64 1)]),
  zo 51 (.mv (.tmp 70))]
def pc71_c40 : PCode := .region none false pc71_o40
def pc71_c41 : PCode := .seq pc71_c39 pc71_c40
def pc71_c42 : PCode := .seq pc71_c26 pc71_c41
def pc71_c43 : PCode := .seq pc71_c23 pc71_c42
def pc71_c44 : PCode := .loop pc71_c43
def pc71_c45 : PCode := .block 0 pc71_c44
def pc71_c46 : PCode := .seq pc71_c22 pc71_c45
def pc71_o47 : List POper := [zo 71 (.mv (.tmp 5)),
  zo 72 (.nilc (.tmp 71)),
  zo 73 (.faddr 2 (.tmp 72)),
  zo 74 (.load false 1 (.tmp 73)),
  zo 75 (.prim (.bin .neq 37 false true) [.tmp 74, .const (.int .i64 0)])]
def pc71_c47 : PCode := .region (some ([2, 5, 6], [2, 6, 11], [])) false pc71_o47
def pc71_o48 : List POper := [zo 76 (.build (.agg { toList := [.int .i64 0, .int .u8 0, .int .i64 0, .int .i64 0, .int .i64 0, .string { data := { toList := [] } }, .int .i64 0, .string { data := { toList := [] } }, .int .i64 0, .string { data := { toList := [] } }, .int .i64 0, .string { data := { toList := [] } }] }) []),
  ⟨some 77, .mv (.tmp 5), none, [(5, .at_ 11 0)]⟩,
  ⟨some 78, .nilc (.tmp 77), none, [(77, .at_ 11 0)]⟩,
  ⟨some 79, .faddr 2 (.tmp 78), none, [(78, .at_ 11 0)]⟩,
  ⟨some 80, .load false 1 (.tmp 79), none, [(79, .at_ 11 2)]⟩,
  ⟨none, .store 12 (.tmp 2) (.tmp 76), none, [(2, .at_ 2 0), (76, .imm)]⟩,
  zo 3 (.mv (.const (.int .i64 0))),
  ⟨some 4, .mv (.tmp 80), none, [(80, .imm)]⟩]
def pc71_c48 : PCode := .region none true pc71_o48
def pc71_c49 : PCode := .ret
def pc71_c50 : PCode := .seq pc71_c48 pc71_c49
def pc71_c51 : PCode := .skip
def pc71_c52 : PCode := .cond (.tmp 75) pc71_c50 pc71_c51
def pc71_c53 : PCode := .seq pc71_c47 pc71_c52
def pc71_o54 : List POper := [zo 81 (.load true 12 (.tmp 6)),
  zo 82 (.call true [[]] 77 [.tmp 81]),
  zo 83 (.prim (.un .not) [.tmp 82])]
def pc71_c54 : PCode := .region none false pc71_o54
def pc71_o55 : List POper := [zo 84 (.build (.agg { toList := [.int .i64 0, .int .u8 0, .int .i64 0, .int .i64 0, .int .i64 0, .string { data := { toList := [] } }, .int .i64 0, .string { data := { toList := [] } }, .int .i64 0, .string { data := { toList := [] } }, .int .i64 0, .string { data := { toList := [] } }] }) []),
  ⟨none, .store 12 (.tmp 2) (.tmp 84), none, []⟩,
  zo 3 (.mv (.const (.int .i64 0))),
  zo 4 (.mv (.const (.int .i64 11)))]
def pc71_c55 : PCode := .region none false pc71_o55
def pc71_c56 : PCode := .ret
def pc71_c57 : PCode := .seq pc71_c55 pc71_c56
def pc71_c58 : PCode := .skip
def pc71_c59 : PCode := .cond (.tmp 83) pc71_c57 pc71_c58
def pc71_c60 : PCode := .seq pc71_c54 pc71_c59
def pc71_o61 : List POper := [⟨some 85, .load true 12 (.tmp 6), none, [(6, .at_ 6 0)]⟩,
  ⟨some 86, .mv (.tmp 5), none, [(5, .at_ 11 0)]⟩,
  ⟨some 87, .nilc (.tmp 86), none, [(86, .at_ 11 0)]⟩,
  ⟨some 88, .faddr 1 (.tmp 87), none, [(87, .at_ 11 0)]⟩,
  ⟨some 89, .load false 1 (.tmp 88), none, [(88, .at_ 11 1)]⟩,
  ⟨none, .store 12 (.tmp 2) (.tmp 85), none, [(2, .at_ 2 0), (85, .imm)]⟩,
  ⟨some 3, .mv (.tmp 89), none, [(89, .imm)]⟩,
  zo 4 (.mv (.const (.int .i64 0)))]
def pc71_c61 : PCode := .region none true pc71_o61
def pc71_c62 : PCode := .ret
def pc71_c63 : PCode := .seq pc71_c61 pc71_c62
def pc71_c64 : PCode := .seq pc71_c60 pc71_c63
def pc71_c65 : PCode := .seq pc71_c53 pc71_c64
def pc71_c66 : PCode := .seq pc71_c46 pc71_c65
def pc71_c67 : PCode := .seq pc71_c21 pc71_c66
def pc71_c68 : PCode := .seq pc71_c20 pc71_c67
def pc71_c69 : PCode := .seq pc71_c11 pc71_c68
def pc71_c70 : PCode := .seq pc71_c4 pc71_c69
def pc71_c71 : PCode := .seq pc71_c3 pc71_c70
def pc71_c72 : PCode := .seq pc71_c2 pc71_c71
def pc71_c73 : PCode := .scope pc71_c72
def pc71_c74 : PCode := .seq pc71_c1 pc71_c73
def pc71_r : List PRes := [PRes.cell 2 true 12 [], PRes.tmp 3 [], PRes.tmp 4 []]
def pc71 : PFunc := ⟨90, pc71_r, pc71_c74, false⟩
def pc71_a : Ann := {
  kr := fun
    | 6 => some ([2, 5, 6, 7], [2, 6, 11], [])
    | 11 => some ([2, 5, 6, 51], [2, 6, 11], [])
    | 17 => some ([2, 5, 6], [2, 6, 11], [])
    | _ => none
  ka := fun
    | _ => 0
  kh := fun
    | 2 => some (.at_ 2 0)
    | 5 => some (.at_ 11 0)
    | 6 => some (.at_ 6 0)
    | 76 => some (.imm)
    | 77 => some (.at_ 11 0)
    | 78 => some (.at_ 11 0)
    | 79 => some (.at_ 11 2)
    | 80 => some (.imm)
    | 85 => some (.imm)
    | 86 => some (.at_ 11 0)
    | 87 => some (.at_ 11 0)
    | 88 => some (.at_ 11 1)
    | 89 => some (.imm)
    | _ => none
  ow := fun t => match t with
    | 96 => [(1, 5, 1)]
    | _ => []
  tc := fun t => match t with
    | 96 => true
    | _ => false }
theorem pc71_ok : compFn Try.prog pc71_a Try.f71 = some pc71 := by kernel_rfl


-- 30: vedette/thing.Read
def pc30_o1 : List POper := [zo 2 (.alloc 28 (.agg { toList := [.int .i64 0, .int .i64 0, .int .i64 0, .int .i64 0, .string { data := { toList := [] } }, .int .i64 0, .string { data := { toList := [] } }, .int .i64 0, .string { data := { toList := [] } }, .int .i64 0, .string { data := { toList := [] } }] }) []),
  zo 3 (.mv (.const (.int .i64 0))),
  zo 4 (.mv (.const (.int .i64 0)))]
def pc30_c1 : PCode := .region none false pc30_o1
def pc30_o2 : List POper := [zo 9 (.mv (.tmp 0)),
  zo 10 (.call true [[]] 71 [.tmp 9]),
  zo 8 (.mv (.tmp 10)),
  zo 11 (.ext (.tmp 8) 0),
  zo 12 (.ext (.tmp 8) 1),
  zo 13 (.ext (.tmp 8) 2),
  zo 5 (.alloc 35 (.agg { toList := [.int .i64 0, .int .u8 0, .int .i64 0, .int .i64 0, .int .i64 0, .string { data := { toList := [] } }, .int .i64 0, .string { data := { toList := [] } }, .int .i64 0, .string { data := { toList := [] } }, .int .i64 0, .string { data := { toList := [] } }] }) []),
  ⟨none, .store 12 (.tmp 5) (.tmp 11), none, []⟩,
  zo 6 (.mv (.tmp 12)),
  zo 7 (.mv (.tmp 13))]
def pc30_c2 : PCode := .region none false pc30_o2
def pc30_o3 : List POper := [zo 15 (.mv (.tmp 7)),
  zo 16 (.prim (.bin .neq 37 false true) [.tmp 15, .const (.int .i64 0)]),
  zo 14 (.mv (.tmp 16))]
def pc30_c3 : PCode := .region none false pc30_o3
def pc30_o4 : List POper := [zo 17 (.build (.agg { toList := [.int .i64 0, .int .i64 0, .int .i64 0, .int .i64 0, .string { data := { toList := [] } }, .int .i64 0, .string { data := { toList := [] } }, .int .i64 0, .string { data := { toList := [] } }, .int .i64 0, .string { data := { toList := [] } }] }) []),
  zo 18 (.mv (.tmp 7)),
  ⟨none, .store 11 (.tmp 2) (.tmp 17), none, []⟩,
  zo 3 (.mv (.const (.int .i64 0))),
  zo 4 (.mv (.tmp 18))]
def pc30_c4 : PCode := .region none false pc30_o4
def pc30_c5 : PCode := .ret
def pc30_c6 : PCode := .seq pc30_c4 pc30_c5
def pc30_o7 : List POper := [zo 20 (.faddr 1 (.tmp 5)),
  zo 21 (.load false 1 (.tmp 20)),
  zo 22 (.prim (.bin .neq 5 false true) [.tmp 21, .const (.int .u8 31)]),
  zo 19 (.mv (.tmp 22))]
def pc30_c7 : PCode := .region none false pc30_o7
def pc30_o8 : List POper := [zo 23 (.build (.agg { toList := [.int .i64 0, .int .i64 0, .int .i64 0, .int .i64 0, .string { data := { toList := [] } }, .int .i64 0, .string { data := { toList := [] } }, .int .i64 0, .string { data := { toList := [] } }, .int .i64 0, .string { data := { toList := [] } }] }) []),
  ⟨none, .store 11 (.tmp 2) (.tmp 23), none, []⟩,
  zo 3 (.mv (.const (.int .i64 0))),
  zo 4 (.mv (.const (.int .i64 11)))]
def pc30_c8 : PCode := .region none false pc30_o8
def pc30_c9 : PCode := .ret
def pc30_c10 : PCode := .seq pc30_c8 pc30_c9
def pc30_c11 : PCode := .skip
def pc30_c12 : PCode := .cond (.tmp 19) pc30_c10 pc30_c11
def pc30_c13 : PCode := .seq pc30_c7 pc30_c12
def pc30_c14 : PCode := .cond (.tmp 14) pc30_c6 pc30_c13
def pc30_c15 : PCode := .seq pc30_c3 pc30_c14
def pc30_c16 : PCode := .block 0 pc30_c15
def pc30_o17 : List POper := [zo 24 (.faddr 0 (.tmp 5)),
  zo 25 (.load false 1 (.tmp 24)),
  zo 26 (.faddr 2 (.tmp 5)),
  zo 27 (.load true 2 (.tmp 26)),
  zo 28 (.faddr 4 (.tmp 5)),
  zo 29 (.load true 8 (.tmp 28)),
  zo 30 (.build (.agg { toList := [.int .i64 0, .int .i64 0, .int .i64 0, .int .i64 0, .string { data := { toList := [] } }, .int .i64 0, .string { data := { toList := [] } }, .int .i64 0, .string { data := { toList := [] } }, .int .i64 0, .string { data := { toList := [] } }] }) [(0, 1, .tmp 25), (1, 2, .tmp 27), (3, 8, .tmp 29)]),
  zo 31 (.mv (.tmp 6)),
  ⟨none, .store 11 (.tmp 2) (.tmp 30), none, []⟩,
  zo 3 (.mv (.tmp 31)),
  zo 4 (.mv (.const (.int .i64 0)))]
def pc30_c17 : PCode := .region none false pc30_o17
def pc30_c18 : PCode := .ret
def pc30_c19 : PCode := .seq pc30_c17 pc30_c18
def pc30_c20 : PCode := .seq pc30_c16 pc30_c19
def pc30_c21 : PCode := .seq pc30_c2 pc30_c20
def pc30_c22 : PCode := .seq pc30_c1 pc30_c21
def pc30_r : List PRes := [PRes.cell 2 true 11 [], PRes.tmp 3 [], PRes.tmp 4 []]
def pc30 : PFunc := ⟨32, pc30_r, pc30_c22, false⟩
def pc30_a : Ann := {
  kr := fun
    | _ => none
  ka := fun
    | _ => 0
  kh := fun
    | _ => none
  ow := fun t => match t with
    | 96 => [(1, 5, 1)]
    | _ => []
  tc := fun t => match t with
    | 96 => true
    | _ => false }
theorem pc30_ok : compFn Try.prog pc30_a Try.f30 = some pc30 := by kernel_rfl


-- 95: vedette/event.readOne
def pc95_o1 : List POper := [zo 2 (.alloc 67 (.agg { toList := [.int .i64 0, .int .i64 0, .int .i64 0, .int .i64 0, .int .i64 0, .int .i64 0, .string { data := { toList := [] } }, .int .i64 0, .string { data := { toList := [] } }, .int .i64 0, .string { data := { toList := [] } }, .int .i64 0, .string { data := { toList := [] } }, .int .i64 0, .int .u8 0, .int .i64 0, .int .i64 0, .int .i64 0, .string { data := { toList := [] } }, .int .i64 0, .string { data := { toList := [] } }, .int .i64 0, .string { data := { toList := [] } }, .int .i64 0, .string { data := { toList := [] } }] }) []),
  zo 3 (.mv (.const (.int .i64 0))),
  zo 4 (.mv (.const (.int .i64 0)))]
def pc95_c1 : PCode := .region none false pc95_o1
def pc95_o2 : List POper := [zo 12 (.mv (.tmp 0)),
  zo 13 (.call true [[]] 73 [.tmp 12]),
  zo 11 (.mv (.tmp 13)),
  zo 14 (.ext (.tmp 11) 0),
  zo 15 (.ext (.tmp 11) 1),
  zo 16 (.ext (.tmp 11) 2),
  zo 5 (.mv (.tmp 14)),
  zo 6 (.mv (.tmp 15)),
  zo 7 (.mv (.tmp 16))]
def pc95_c2 : PCode := .region none false pc95_o2
def pc95_o3 : List POper := [zo 17 (.mv (.tmp 7)),
  zo 18 (.prim (.bin .neq 37 false true) [.tmp 17, .const (.int .i64 0)])]
def pc95_c3 : PCode := .region none false pc95_o3
def pc95_o4 : List POper := [zo 19 (.build (.agg { toList := [.int .i64 0, .int .i64 0, .int .i64 0, .int .i64 0, .int .i64 0, .int .i64 0, .string { data := { toList := [] } }, .int .i64 0, .string { data := { toList := [] } }, .int .i64 0, .string { data := { toList := [] } }, .int .i64 0, .string { data := { toList := [] } }, .int .i64 0, .int .u8 0, .int .i64 0, .int .i64 0, .int .i64 0, .string { data := { toList := [] } }, .int .i64 0, .string { data := { toList := [] } }, .int .i64 0, .string { data := { toList := [] } }, .int .i64 0, .string { data := { toList := [] } }] }) []),
  zo 20 (.mv (.tmp 7)),
  ⟨none, .store 25 (.tmp 2) (.tmp 19), none, []⟩,
  zo 3 (.mv (.const (.int .i64 0))),
  zo 4 (.mv (.tmp 20))]
def pc95_c4 : PCode := .region none false pc95_o4
def pc95_c5 : PCode := .ret
def pc95_c6 : PCode := .seq pc95_c4 pc95_c5
def pc95_c7 : PCode := .skip
def pc95_c8 : PCode := .cond (.tmp 18) pc95_c6 pc95_c7
def pc95_c9 : PCode := .seq pc95_c3 pc95_c8
def pc95_o10 : List POper := [zo 21 (.mv (.tmp 5)),
  zo 22 (.prim .min [.tmp 21, .const (.int .u64 4)]),
  zo 23 (.prim (.conv 89 3) [.tmp 22]),
  zo 24 (.build (.agg { toList := [.int .i64 0, .int .i64 0, .int .i64 0, .int .i64 0, .int .i64 0, .int .i64 0, .string { data := { toList := [] } }, .int .i64 0, .string { data := { toList := [] } }, .int .i64 0, .string { data := { toList := [] } }, .int .i64 0, .string { data := { toList := [] } }, .int .i64 0, .int .u8 0, .int .i64 0, .int .i64 0, .int .i64 0, .string { data := { toList := [] } }, .int .i64 0, .string { data := { toList := [] } }, .int .i64 0, .string { data := { toList := [] } }, .int .i64 0, .string { data := { toList := [] } }] }) [(0, 1, .tmp 23)]),
  zo 8 (.alloc 67 (.agg { toList := [.int .i64 0, .int .i64 0, .int .i64 0, .int .i64 0, .int .i64 0, .int .i64 0, .string { data := { toList := [] } }, .int .i64 0, .string { data := { toList := [] } }, .int .i64 0, .string { data := { toList := [] } }, .int .i64 0, .string { data := { toList := [] } }, .int .i64 0, .int .u8 0, .int .i64 0, .int .i64 0, .int .i64 0, .string { data := { toList := [] } }, .int .i64 0, .string { data := { toList := [] } }, .int .i64 0, .string { data := { toList := [] } }, .int .i64 0, .string { data := { toList := [] } }] }) []),
  ⟨none, .store 25 (.tmp 8) (.tmp 24), none, []⟩]
def pc95_c10 : PCode := .region none false pc95_o10
def pc95_o11 : List POper := [zo 9 (.mv (.const (.int .i64 0)))]
def pc95_c11 : PCode := .region none false pc95_o11
def pc95_o12 : List POper := [zo 25 (.faddr 0 (.tmp 8)),
  zo 26 (.load false 1 (.tmp 25))]
def pc95_c12 : PCode := .region none false pc95_o12
def pc95_o13 : List POper := [zo 28 (.prim (.bin .eql 3 false true) [.tmp 26, .const (.int .i64 1)]),
  zo 27 (.mv (.tmp 28))]
def pc95_c13 : PCode := .region none false pc95_o13
def pc95_o14 : List POper := [zo 30 (.mv (.tmp 0)),
  zo 31 (.mv (.tmp 6)),
  zo 32 (.prim (.slice 9 true false) [.tmp 30, .tmp 31]),
  zo 33 (.call true [[]] 30 [.tmp 32]),
  zo 29 (.mv (.tmp 33)),
  zo 34 (.ext (.tmp 29) 0),
  zo 35 (.ext (.tmp 29) 1),
  zo 36 (.ext (.tmp 29) 2),
  zo 37 (.faddr 2 (.tmp 8)),
  ⟨none, .store 11 (.tmp 37) (.tmp 34), none, []⟩,
  zo 9 (.mv (.tmp 35)),
  zo 7 (.mv (.tmp 36))]
def pc95_c14 : PCode := .region none false pc95_o14
def pc95_o15 : List POper := [zo 38 (.faddr 2 (.tmp 8)),
  zo 39 (.faddr 0 (.tmp 38)),
  zo 40 (.load false 1 (.tmp 39)),
  zo 41 (.faddr 1 (.tmp 8)),
  ⟨none, .store 1 (.tmp 41) (.tmp 40), none, []⟩]
def pc95_c15 : PCode := .region none false pc95_o15
def pc95_c16 : PCode := .seq pc95_c14 pc95_c15
def pc95_o17 : List POper := [zo 43 (.prim (.bin .eql 3 false true) [.tmp 26, .const (.int .i64 2)]),
  zo 42 (.mv (.tmp 43))]
def pc95_c17 : PCode := .region none false pc95_o17
def pc95_o18 : List POper := [zo 45 (.mv (.tmp 0)),
  zo 46 (.mv (.tmp 6)),
  zo 47 (.prim (.slice 9 true false) [.tmp 45, .tmp 46]),
  zo 48 (.call true [[]] 71 [.tmp 47]),
  zo 44 (.mv (.tmp 48)),
  zo 49 (.ext (.tmp 44) 0),
  zo 50 (.ext (.tmp 44) 1),
  zo 51 (.ext (.tmp 44) 2),
  zo 52 (.faddr 13 (.tmp 8)),
  ⟨none, .store 12 (.tmp 52) (.tmp 49), none, []⟩,
  zo 9 (.mv (.tmp 50)),
  zo 7 (.mv (.tmp 51))]
def pc95_c18 : PCode := .region none false pc95_o18
def pc95_o19 : List POper := [zo 53 (.faddr 13 (.tmp 8)),
  zo 54 (.faddr 0 (.tmp 53)),
  zo 55 (.load false 1 (.tmp 54)),
  zo 56 (.faddr 1 (.tmp 8)),
  ⟨none, .store 1 (.tmp 56) (.tmp 55), none, []⟩]
def pc95_c19 : PCode := .region none false pc95_o19
def pc95_c20 : PCode := .seq pc95_c18 pc95_c19
def pc95_o21 : List POper := [zo 58 (.prim (.bin .eql 3 false true) [.tmp 26, .const (.int .i64 3)]),
  zo 57 (.mv (.tmp 58))]
def pc95_c21 : PCode := .region none false pc95_o21
def pc95_o22 : List POper := [zo 10 (.mv (.const (.int .u64 0)))]
def pc95_c22 : PCode := .region none false pc95_o22
def pc95_o23 : List POper := [zo 60 (.mv (.tmp 0)),
  zo 61 (.mv (.tmp 6)),
  zo 62 (.prim (.slice 9 true false) [.tmp 60, .tmp 61]),
  zo 63 (.call true [[]] 73 [.tmp 62]),
  zo 59 (.mv (.tmp 63)),
  zo 64 (.ext (.tmp 59) 0),
  zo 65 (.ext (.tmp 59) 1),
  zo 66 (.ext (.tmp 59) 2),
  zo 10 (.mv (.tmp 64)),
  zo 9 (.mv (.tmp 65)),
  zo 7 (.mv (.tmp 66))]
def pc95_c23 : PCode := .region none false pc95_o23
def pc95_o24 : List POper := [zo 67 (.mv (.tmp 10)),
  zo 68 (.prim .min [.tmp 67, .const (.int .u64 1000001)]),
  zo 69 (.prim (.conv 89 3) [.tmp 68]),
  zo 70 (.faddr 1 (.tmp 8)),
  ⟨none, .store 1 (.tmp 70) (.tmp 69), none, []⟩]
def pc95_c24 : PCode := .region none false pc95_o24
def pc95_c25 : PCode := .seq pc95_c23 pc95_c24
def pc95_c26 : PCode := .seq pc95_c22 pc95_c25
def pc95_c27 : PCode := .skip
def pc95_c28 : PCode := .cond (.tmp 57) pc95_c26 pc95_c27
def pc95_c29 : PCode := .seq pc95_c21 pc95_c28
def pc95_c30 : PCode := .cond (.tmp 42) pc95_c20 pc95_c29
def pc95_c31 : PCode := .seq pc95_c17 pc95_c30
def pc95_c32 : PCode := .cond (.tmp 27) pc95_c16 pc95_c31
def pc95_c33 : PCode := .seq pc95_c13 pc95_c32
def pc95_c34 : PCode := .block 0 pc95_c33
def pc95_c35 : PCode := .seq pc95_c12 pc95_c34
def pc95_o36 : List POper := [zo 71 (.mv (.tmp 7)),
  zo 72 (.prim (.bin .eql 37 false true) [.tmp 71, .const (.int .i64 0)]),
  zo 73 (.mv (.tmp 72)),
  ⟨some 74, .load true 25 (.tmp 8), some (73, true), []⟩,
  ⟨some 75, .call true [[]] 39 [.tmp 74], some (73, true), []⟩,
  ⟨some 76, .prim (.un .not) [.tmp 75], some (73, true), []⟩,
  zo 77 (.pick (.tmp 73) (.tmp 76) (.const (.bool false)))]
def pc95_c36 : PCode := .region (some ([2, 6, 7, 8, 9], [2, 8], [])) false pc95_o36
def pc95_o37 : List POper := [zo 7 (.mv (.const (.int .i64 11)))]
def pc95_c37 : PCode := .region none false pc95_o37
def pc95_c38 : PCode := .skip
def pc95_c39 : PCode := .cond (.tmp 77) pc95_c37 pc95_c38
def pc95_c40 : PCode := .seq pc95_c36 pc95_c39
def pc95_o41 : List POper := [zo 78 (.load true 25 (.tmp 8)),
  zo 79 (.mv (.tmp 6)),
  zo 80 (.mv (.tmp 9)),
  zo 81 (.prim (.bin .add 3 false false) [.tmp 79, .tmp 80]),
  zo 82 (.mv (.tmp 7)),
  ⟨none, .store 25 (.tmp 2) (.tmp 78), none, []⟩,
  zo 3 (.mv (.tmp 81)),
  zo 4 (.mv (.tmp 82))]
def pc95_c41 : PCode := .region (some ([2, 6, 7, 8, 9], [2, 8], [])) false pc95_o41
def pc95_c42 : PCode := .ret
def pc95_c43 : PCode := .seq pc95_c41 pc95_c42
def pc95_c44 : PCode := .seq pc95_c40 pc95_c43
def pc95_c45 : PCode := .seq pc95_c35 pc95_c44
def pc95_c46 : PCode := .seq pc95_c11 pc95_c45
def pc95_c47 : PCode := .seq pc95_c10 pc95_c46
def pc95_c48 : PCode := .seq pc95_c9 pc95_c47
def pc95_c49 : PCode := .seq pc95_c2 pc95_c48
def pc95_c50 : PCode := .seq pc95_c1 pc95_c49
def pc95_r : List PRes := [PRes.cell 2 true 25 [], PRes.tmp 3 [], PRes.tmp 4 []]
def pc95 : PFunc := ⟨83, pc95_r, pc95_c50, false⟩
def pc95_a : Ann := {
  kr := fun
    | 17 => some ([2, 6, 7, 8, 9], [2, 8], [])
    | 19 => some ([2, 6, 7, 8, 9], [2, 8], [])
    | _ => none
  ka := fun
    | _ => 0
  kh := fun
    | _ => none
  ow := fun t => match t with
    | 96 => [(1, 5, 1)]
    | _ => []
  tc := fun t => match t with
    | 96 => true
    | _ => false }
theorem pc95_ok : compFn Try.prog pc95_a Try.f95 = some pc95 := by kernel_rfl


-- 54: vedette/event.Read
def pc54_o1 : List POper := [zo 2 (.mv (.const (.slice none 0 0))),
  zo 3 (.mv (.const (.int .i64 0))),
  zo 4 (.mv (.const (.int .i64 0)))]
def pc54_c1 : PCode := .region none false pc54_o1
def pc54_o2 : List POper := [zo 13 (.mv (.tmp 0)),
  zo 14 (.call true [[]] 73 [.tmp 13]),
  zo 12 (.mv (.tmp 14)),
  zo 15 (.ext (.tmp 12) 0),
  zo 16 (.ext (.tmp 12) 1),
  zo 17 (.ext (.tmp 12) 2),
  zo 5 (.mv (.tmp 15)),
  zo 6 (.mv (.tmp 16)),
  zo 7 (.mv (.tmp 17))]
def pc54_c2 : PCode := .region none false pc54_o2
def pc54_o3 : List POper := [zo 19 (.mv (.tmp 7)),
  zo 20 (.prim (.bin .neq 37 false true) [.tmp 19, .const (.int .i64 0)]),
  zo 18 (.mv (.tmp 20))]
def pc54_c3 : PCode := .region none false pc54_o3
def pc54_o4 : List POper := [zo 21 (.mv (.tmp 7)),
  zo 2 (.mv (.const (.slice none 0 0))),
  zo 3 (.mv (.const (.int .i64 0))),
  zo 4 (.mv (.tmp 21))]
def pc54_c4 : PCode := .region none false pc54_o4
def pc54_c5 : PCode := .ret
def pc54_c6 : PCode := .seq pc54_c4 pc54_c5
def pc54_o7 : List POper := [zo 23 (.mv (.tmp 5)),
  zo 24 (.prim (.bin .gtr 89 false true) [.tmp 23, .const (.int .u64 400)]),
  zo 22 (.mv (.tmp 24))]
def pc54_c7 : PCode := .region none false pc54_o7
def pc54_o8 : List POper := [zo 2 (.mv (.const (.slice none 0 0))),
  zo 3 (.mv (.const (.int .i64 0))),
  zo 4 (.mv (.const (.int .i64 13)))]
def pc54_c8 : PCode := .region none false pc54_o8
def pc54_c9 : PCode := .ret
def pc54_c10 : PCode := .seq pc54_c8 pc54_c9
def pc54_c11 : PCode := .skip
def pc54_c12 : PCode := .cond (.tmp 22) pc54_c10 pc54_c11
def pc54_c13 : PCode := .seq pc54_c7 pc54_c12
def pc54_c14 : PCode := .cond (.tmp 18) pc54_c6 pc54_c13
def pc54_c15 : PCode := .seq pc54_c3 pc54_c14
def pc54_c16 : PCode := .block 0 pc54_c15
def pc54_o17 : List POper := [zo 8 (.mv (.const (.slice none 0 0)))]
def pc54_c17 : PCode := .region none false pc54_o17
def pc54_o18 : List POper := [zo 25 (.mv (.tmp 5)),
  zo 26 (.mv (.const (.int .u64 0)))]
def pc54_c18 : PCode := .region none false pc54_o18
def pc54_o19 : List POper := [zo 27 (.prim (.bin .lss 89 false false) [.tmp 26, .tmp 25])]
def pc54_c19 : PCode := .region (some ([0, 6, 8, 25, 26], [9, 100008], [(false, 8, 0, 100008, 67, 25)])) false pc54_o19
def pc54_c20 : PCode := .skip
def pc54_c21 : PCode := .exit 1
def pc54_c22 : PCode := .cond (.tmp 27) pc54_c20 pc54_c21
def pc54_o23 : List POper := [zo 29 (.mv (.tmp 0)),
  zo 30 (.mv (.tmp 6)),
  zo 31 (.prim (.slice 9 true false) [.tmp 29, .tmp 30]),
  zo 32 (.call true [[]] 95 [.tmp 31]),
  zo 28 (.mv (.tmp 32)),
  zo 33 (.ext (.tmp 28) 0),
  zo 34 (.ext (.tmp 28) 1),
  zo 35 (.ext (.tmp 28) 2),
  zo 9 (.alloc 67 (.agg { toList := [.int .i64 0, .int .i64 0, .int .i64 0, .int .i64 0, .int .i64 0, .int .i64 0, .string { data := { toList := [] } }, .int .i64 0, .string { data := { toList := [] } }, .int .i64 0, .string { data := { toList := [] } }, .int .i64 0, .string { data := { toList := [] } }, .int .i64 0, .int .u8 0, .int .i64 0, .int .i64 0, .int .i64 0, .string { data := { toList := [] } }, .int .i64 0, .string { data := { toList := [] } }, .int .i64 0, .string { data := { toList := [] } }, .int .i64 0, .string { data := { toList := [] } }] }) []),
  ⟨none, .store 25 (.tmp 9) (.tmp 33), none, []⟩,
  zo 10 (.mv (.tmp 34)),
  zo 11 (.mv (.tmp 35))]
def pc54_c23 : PCode := .region none false pc54_o23
def pc54_o24 : List POper := [zo 36 (.mv (.tmp 11)),
  zo 37 (.prim (.bin .neq 37 false true) [.tmp 36, .const (.int .i64 0)])]
def pc54_c24 : PCode := .region none false pc54_o24
def pc54_o25 : List POper := [zo 38 (.mv (.tmp 11)),
  zo 2 (.mv (.const (.slice none 0 0))),
  zo 3 (.mv (.const (.int .i64 0))),
  zo 4 (.mv (.tmp 38))]
def pc54_c25 : PCode := .region none false pc54_o25
def pc54_c26 : PCode := .ret
def pc54_c27 : PCode := .seq pc54_c25 pc54_c26
def pc54_c28 : PCode := .skip
def pc54_c29 : PCode := .cond (.tmp 37) pc54_c27 pc54_c28
def pc54_c30 : PCode := .seq pc54_c24 pc54_c29
def pc54_o31 : List POper := [zo 39 (.mv (.tmp 8)),
  zo 40 (.load true 25 (.tmp 9)),
  zo 41 (.bslice 67 25 [.tmp 40]),
  zo 42 (.app 100008 67 25 264 (.tmp 39) (.tmp 41)),
  zo 8 (.mv (.tmp 42))]
def pc54_c31 : PCode := .region none false pc54_o31
def pc54_o32 : List POper := [zo 43 (.mv (.tmp 6)),
  zo 44 (.mv (.tmp 10)),
  zo 45 (.prim (.bin .add 3 false false) [.tmp 43, .tmp 44]),
  zo 6 (.mv (.tmp 45))]
def pc54_c32 : PCode := .region none false pc54_o32
def pc54_c33 : PCode := .seq pc54_c31 pc54_c32
def pc54_c34 : PCode := .seq pc54_c30 pc54_c33
def pc54_c35 : PCode := .seq pc54_c23 pc54_c34
def pc54_c36 : PCode := .block 2 pc54_c35
def pc54_o37 : List POper := [zo 46 (.prim (.bin .add 89 false true) [.tmp 26, .const (.int .u64 1)]),
  zo 26 (.mv (.tmp 46))]
def pc54_c37 : PCode := .region none false pc54_o37
def pc54_c38 : PCode := .seq pc54_c36 pc54_c37
def pc54_c39 : PCode := .seq pc54_c22 pc54_c38
def pc54_c40 : PCode := .seq pc54_c19 pc54_c39
def pc54_c41 : PCode := .loop pc54_c40
def pc54_c42 : PCode := .block 1 pc54_c41
def pc54_c43 : PCode := .seq pc54_c18 pc54_c42
def pc54_o44 : List POper := [zo 47 (.mv (.tmp 8)),
  zo 48 (.mv (.tmp 6)),
  zo 2 (.mv (.tmp 47)),
  zo 3 (.mv (.tmp 48)),
  zo 4 (.mv (.const (.int .i64 0)))]
def pc54_c44 : PCode := .region none false pc54_o44
def pc54_c45 : PCode := .ret
def pc54_c46 : PCode := .seq pc54_c44 pc54_c45
def pc54_c47 : PCode := .seq pc54_c43 pc54_c46
def pc54_c48 : PCode := .seq pc54_c17 pc54_c47
def pc54_c49 : PCode := .seq pc54_c16 pc54_c48
def pc54_c50 : PCode := .seq pc54_c2 pc54_c49
def pc54_c51 : PCode := .seq pc54_c1 pc54_c50
def pc54_r : List PRes := [PRes.tmp 2 [(0, 25)], PRes.tmp 3 [], PRes.tmp 4 []]
def pc54 : PFunc := ⟨49, pc54_r, pc54_c51, false⟩
def pc54_a : Ann := {
  kr := fun
    | 8 => some ([0, 6, 8, 25, 26], [9, 100008], [(false, 8, 0, 100008, 67, 25)])
    | _ => none
  ka := fun
    | 42 => 100008
    | _ => 0
  kh := fun
    | _ => none
  ow := fun t => match t with
    | 96 => [(1, 5, 1)]
    | _ => []
  tc := fun t => match t with
    | 96 => true
    | _ => false }
theorem pc54_ok : compFn Try.prog pc54_a Try.f54 = some pc54 := by kernel_rfl


-- 42: vedette/vedettelaw15.known
def pc42_o1 : List POper := [zo 0 (.mv (.const (.bool false)))]
def pc42_c1 : PCode := .region none false pc42_o1
def pc42_o2 : List POper := [zo 14 (.build (.agg { toList := [.int .i64 0, .int .i64 0] }) [(0, 1, .const (.int .i64 1))]),
  zo 15 (.build (.agg { toList := [.int .i64 0, .int .i64 0, .int .i64 0, .int .i64 0, .string { data := { toList := [] } }, .int .i64 0, .string { data := { toList := [] } }, .int .i64 0, .string { data := { toList := [] } }, .int .i64 0, .string { data := { toList := [] } }] }) [(0, 1, .const (.int .i64 3)), (1, 2, .tmp 14)]),
  zo 1 (.alloc 28 (.agg { toList := [.int .i64 0, .int .i64 0, .int .i64 0, .int .i64 0, .string { data := { toList := [] } }, .int .i64 0, .string { data := { toList := [] } }, .int .i64 0, .string { data := { toList := [] } }, .int .i64 0, .string { data := { toList := [] } }] }) []),
  ⟨none, .store 11 (.tmp 1) (.tmp 15), none, []⟩]
def pc42_c2 : PCode := .region none false pc42_o2
def pc42_o3 : List POper := [zo 16 (.load true 11 (.tmp 1)),
  zo 17 (.build (.agg { toList := [.int .i64 0, .int .i64 0, .int .i64 0, .int .i64 0, .int .i64 0, .int .i64 0, .string { data := { toList := [] } }, .int .i64 0, .string { data := { toList := [] } }, .int .i64 0, .string { data := { toList := [] } }, .int .i64 0, .string { data := { toList := [] } }, .int .i64 0, .int .u8 0, .int .i64 0, .int .i64 0, .int .i64 0, .string { data := { toList := [] } }, .int .i64 0, .string { data := { toList := [] } }, .int .i64 0, .string { data := { toList := [] } }, .int .i64 0, .string { data := { toList := [] } }] }) [(0, 1, .const (.int .i64 1)), (1, 1, .const (.int .i64 3)), (2, 11, .tmp 16)]),
  zo 18 (.build (.agg { toList := [.int .i64 0, .int .u8 0, .int .i64 0, .int .i64 0, .int .i64 0, .string { data := { toList := [] } }, .int .i64 0, .string { data := { toList := [] } }, .int .i64 0, .string { data := { toList := [] } }, .int .i64 0, .string { data := { toList := [] } }] }) [(0, 1, .const (.int .i64 3)), (1, 1, .const (.int .u8 1))]),
  zo 19 (.build (.agg { toList := [.int .i64 0, .int .i64 0, .int .i64 0, .int .i64 0, .int .i64 0, .int .i64 0, .string { data := { toList := [] } }, .int .i64 0, .string { data := { toList := [] } }, .int .i64 0, .string { data := { toList := [] } }, .int .i64 0, .string { data := { toList := [] } }, .int .i64 0, .int .u8 0, .int .i64 0, .int .i64 0, .int .i64 0, .string { data := { toList := [] } }, .int .i64 0, .string { data := { toList := [] } }, .int .i64 0, .string { data := { toList := [] } }, .int .i64 0, .string { data := { toList := [] } }] }) [(0, 1, .const (.int .i64 2)), (1, 1, .const (.int .i64 3)), (13, 12, .tmp 18)]),
  zo 20 (.bslice 67 25 [.tmp 17, .tmp 19]),
  zo 2 (.mv (.tmp 20))]
def pc42_c3 : PCode := .region none false pc42_o3
def pc42_o4 : List POper := [zo 22 (.mv (.tmp 2)),
  zo 23 (.call true [[(0, 25)]] 46 [.tmp 22]),
  zo 21 (.mv (.tmp 23)),
  zo 24 (.ext (.tmp 21) 0),
  zo 25 (.ext (.tmp 21) 1),
  zo 3 (.mv (.tmp 24)),
  zo 4 (.mv (.tmp 25))]
def pc42_c4 : PCode := .region none false pc42_o4
def pc42_o5 : List POper := [zo 27 (.mv (.tmp 3)),
  zo 28 (.call true [[]] 54 [.tmp 27]),
  zo 26 (.mv (.tmp 28)),
  zo 29 (.ext (.tmp 26) 0),
  zo 30 (.ext (.tmp 26) 1),
  zo 31 (.ext (.tmp 26) 2),
  zo 5 (.mv (.tmp 29)),
  zo 6 (.mv (.tmp 30)),
  zo 7 (.mv (.tmp 31))]
def pc42_c5 : PCode := .region none false pc42_o5
def pc42_o6 : List POper := [zo 33 (.mv (.tmp 2)),
  zo 34 (.call true [[(0, 11)], [(0, 25)]] 40 [.const (.slice none 0 0), .tmp 33]),
  zo 32 (.mv (.tmp 34)),
  zo 35 (.ext (.tmp 32) 0),
  zo 36 (.ext (.tmp 32) 1),
  zo 8 (.mv (.tmp 35)),
  zo 9 (.mv (.tmp 36))]
def pc42_c6 : PCode := .region none false pc42_o6
def pc42_o7 : List POper := [zo 38 (.mv (.tmp 8)),
  zo 39 (.build (.agg { toList := [.int .i64 0, .int .i64 0, .int .i64 0, .int .i64 0, .int .i64 0, .int .i64 0, .string { data := { toList := [] } }, .int .i64 0, .string { data := { toList := [] } }, .int .i64 0, .string { data := { toList := [] } }, .int .i64 0, .string { data := { toList := [] } }, .int .i64 0, .int .u8 0, .int .i64 0, .int .i64 0, .int .i64 0, .string { data := { toList := [] } }, .int .i64 0, .string { data := { toList := [] } }, .int .i64 0, .string { data := { toList := [] } }, .int .i64 0, .string { data := { toList := [] } }] }) [(0, 1, .const (.int .i64 3)), (1, 1, .const (.int .i64 3))]),
  zo 40 (.call true [[(0, 11)], []] 51 [.tmp 38, .tmp 39]),
  zo 37 (.mv (.tmp 40)),
  zo 41 (.ext (.tmp 37) 0),
  zo 42 (.ext (.tmp 37) 1),
  zo 10 (.mv (.tmp 41)),
  zo 11 (.mv (.tmp 42))]
def pc42_c7 : PCode := .region none false pc42_o7
def pc42_o8 : List POper := [zo 44 (.build (.agg { toList := [.int .i64 0, .int .i64 0, .int .i64 0, .int .i64 0, .int .i64 0, .int .i64 0, .string { data := { toList := [] } }, .int .i64 0, .string { data := { toList := [] } }, .int .i64 0, .string { data := { toList := [] } }, .int .i64 0, .string { data := { toList := [] } }, .int .i64 0, .int .u8 0, .int .i64 0, .int .i64 0, .int .i64 0, .string { data := { toList := [] } }, .int .i64 0, .string { data := { toList := [] } }, .int .i64 0, .string { data := { toList := [] } }, .int .i64 0, .string { data := { toList := [] } }] }) [(0, 1, .const (.int .i64 3)), (1, 1, .const (.int .i64 3))]),
  zo 45 (.call true [[(0, 11)], []] 51 [.const (.slice none 0 0), .tmp 44]),
  zo 43 (.mv (.tmp 45)),
  zo 46 (.ext (.tmp 43) 0),
  zo 47 (.ext (.tmp 43) 1),
  zo 12 (.mv (.tmp 46)),
  zo 13 (.mv (.tmp 47))]
def pc42_c8 : PCode := .region none false pc42_o8
def pc42_o9 : List POper := [zo 48 (.mv (.tmp 4)),
  zo 49 (.prim (.bin .eql 37 false true) [.tmp 48, .const (.int .i64 0)]),
  zo 50 (.mv (.tmp 49)),
  ⟨some 51, .mv (.tmp 7), some (50, true), []⟩,
  ⟨some 52, .prim (.bin .eql 37 false true) [.tmp 51, .const (.int .i64 0)], some (50, true), []⟩,
  zo 53 (.pick (.tmp 50) (.tmp 52) (.const (.bool false))),
  zo 54 (.mv (.tmp 53)),
  ⟨some 55, .mv (.tmp 6), some (54, true), []⟩,
  ⟨some 56, .mv (.tmp 3), some (54, true), []⟩,
  ⟨some 57, .prim (.len 9) [.tmp 56], some (54, true), []⟩,
  ⟨some 58, .prim (.bin .eql 3 false false) [.tmp 55, .tmp 57], some (54, true), []⟩,
  zo 59 (.pick (.tmp 54) (.tmp 58) (.const (.bool false))),
  zo 60 (.mv (.tmp 59)),
  ⟨some 61, .mv (.tmp 2), some (60, true), []⟩,
  ⟨some 62, .mv (.tmp 5), some (60, true), []⟩,
  ⟨some 63, .call true [[(0, 25)], [(0, 25)]] 49 [.tmp 61, .tmp 62], some (60, true), []⟩,
  zo 64 (.pick (.tmp 60) (.tmp 63) (.const (.bool false))),
  zo 65 (.mv (.tmp 64)),
  ⟨some 66, .mv (.tmp 9), some (65, true), []⟩,
  zo 67 (.pick (.tmp 65) (.tmp 66) (.const (.bool false))),
  zo 68 (.mv (.tmp 67)),
  ⟨some 69, .mv (.tmp 8), some (68, true), []⟩,
  ⟨some 70, .lenS (.tmp 69), some (68, true), []⟩,
  ⟨some 71, .prim (.bin .eql 3 false true) [.tmp 70, .const (.int .i64 1)], some (68, true), []⟩,
  zo 72 (.pick (.tmp 68) (.tmp 71) (.const (.bool false))),
  zo 73 (.mv (.tmp 72)),
  ⟨some 74, .mv (.tmp 8), some (73, true), []⟩,
  ⟨some 75, .iaddrS 11 (.tmp 74) (.const (.int .i64 0)), some (73, true), []⟩,
  ⟨some 76, .faddr 1 (.tmp 75), some (73, true), []⟩,
  ⟨some 77, .load true 2 (.tmp 76), some (73, true), []⟩,
  ⟨some 78, .build (.agg { toList := [.int .i64 0, .int .i64 0] }) [], some (73, true), []⟩,
  ⟨some 79, .prim (.bin .eql 23 false false) [.tmp 77, .tmp 78], some (73, true), []⟩,
  zo 80 (.pick (.tmp 73) (.tmp 79) (.const (.bool false))),
  zo 81 (.mv (.tmp 80)),
  ⟨some 82, .mv (.tmp 11), some (81, true), []⟩,
  zo 83 (.pick (.tmp 81) (.tmp 82) (.const (.bool false))),
  zo 84 (.mv (.tmp 83)),
  ⟨some 85, .mv (.tmp 10), some (84, true), []⟩,
  ⟨some 86, .lenS (.tmp 85), some (84, true), []⟩,
  ⟨some 87, .prim (.bin .eql 3 false true) [.tmp 86, .const (.int .i64 0)], some (84, true), []⟩,
  zo 88 (.pick (.tmp 84) (.tmp 87) (.const (.bool false))),
  zo 89 (.mv (.tmp 88)),
  ⟨some 90, .mv (.tmp 13), some (89, true), []⟩,
  ⟨some 91, .prim (.un .not) [.tmp 90], some (89, true), []⟩,
  zo 92 (.pick (.tmp 89) (.tmp 91) (.const (.bool false))),
  zo 93 (.mv (.tmp 92)),
  ⟨some 94, .mv (.tmp 2), some (93, true), []⟩,
  ⟨some 95, .iaddrS 25 (.tmp 94) (.const (.int .i64 0)), some (93, true), []⟩,
  ⟨some 96, .load true 25 (.tmp 95), some (93, true), []⟩,
  ⟨some 97, .call true [[]] 39 [.tmp 96], some (93, true), []⟩,
  zo 98 (.pick (.tmp 93) (.tmp 97) (.const (.bool false))),
  zo 99 (.mv (.tmp 98)),
  ⟨some 100, .build (.agg { toList := [.int .i64 0, .int .i64 0, .int .i64 0, .int .i64 0, .int .i64 0, .int .i64 0, .string { data := { toList := [] } }, .int .i64 0, .string { data := { toList := [] } }, .int .i64 0, .string { data := { toList := [] } }, .int .i64 0, .string { data := { toList := [] } }, .int .i64 0, .int .u8 0, .int .i64 0, .int .i64 0, .int .i64 0, .string { data := { toList := [] } }, .int .i64 0, .string { data := { toList := [] } }, .int .i64 0, .string { data := { toList := [] } }, .int .i64 0, .string { data := { toList := [] } }] }) [], some (99, true), []⟩,
  ⟨some 101, .call true [[]] 39 [.tmp 100], some (99, true), []⟩,
  ⟨some 102, .prim (.un .not) [.tmp 101], some (99, true), []⟩,
  zo 103 (.pick (.tmp 99) (.tmp 102) (.const (.bool false))),
  zo 0 (.mv (.tmp 103))]
def pc42_c9 : PCode := .region none false pc42_o9
def pc42_c10 : PCode := .ret
def pc42_c11 : PCode := .seq pc42_c9 pc42_c10
def pc42_c12 : PCode := .seq pc42_c8 pc42_c11
def pc42_c13 : PCode := .seq pc42_c7 pc42_c12
def pc42_c14 : PCode := .seq pc42_c6 pc42_c13
def pc42_c15 : PCode := .seq pc42_c5 pc42_c14
def pc42_c16 : PCode := .seq pc42_c4 pc42_c15
def pc42_c17 : PCode := .seq pc42_c3 pc42_c16
def pc42_c18 : PCode := .seq pc42_c2 pc42_c17
def pc42_c19 : PCode := .seq pc42_c1 pc42_c18
def pc42_r : List PRes := [PRes.tmp 0 []]
def pc42 : PFunc := ⟨104, pc42_r, pc42_c19, false⟩
def pc42_a : Ann := {
  kr := fun
    | _ => none
  ka := fun
    | _ => 0
  kh := fun
    | _ => none
  ow := fun t => match t with
    | 96 => [(1, 5, 1)]
    | _ => []
  tc := fun t => match t with
    | 96 => true
    | _ => false }
theorem pc42_ok : compFn Try.prog pc42_a Try.f42 = some pc42 := by kernel_rfl


-- 97: vedette/vedettelaw15.fewField
def pc97_o1 : List POper := [zo 1 (.box 25 (.tmp 0) []),
  zo 2 (.mv (.const (.bool false)))]
def pc97_c1 : PCode := .region none false pc97_o1
def pc97_o2 : List POper := [zo 3 (.faddr 1 (.tmp 1)),
  zo 4 (.load false 1 (.tmp 3)),
  zo 5 (.prim (.len 9) [.tmp 4]),
  zo 6 (.prim (.bin .leq 3 false true) [.tmp 5, .const (.int .i64 40)]),
  zo 2 (.mv (.tmp 6))]
def pc97_c2 : PCode := .region none false pc97_o2
def pc97_c3 : PCode := .ret
def pc97_c4 : PCode := .seq pc97_c2 pc97_c3
def pc97_c5 : PCode := .seq pc97_c1 pc97_c4
def pc97_r : List PRes := [PRes.tmp 2 []]
def pc97 : PFunc := ⟨7, pc97_r, pc97_c5, false⟩
def pc97_a : Ann := {
  kr := fun
    | _ => none
  ka := fun
    | _ => 0
  kh := fun
    | _ => none
  ow := fun t => match t with
    | 96 => [(1, 5, 1)]
    | _ => []
  tc := fun t => match t with
    | 96 => true
    | _ => false }
theorem pc97_ok : compFn Try.prog pc97_a Try.f97 = some pc97 := by kernel_rfl


-- 56: vedette/vedettelaw15.fewThing
def pc56_o1 : List POper := [zo 1 (.box 28 (.tmp 0) []),
  zo 2 (.mv (.const (.bool false)))]
def pc56_c1 : PCode := .region none false pc56_o1
def pc56_o2 : List POper := [zo 3 (.mv (.const (.int .i64 0)))]
def pc56_c2 : PCode := .region none false pc56_o2
def pc56_o3 : List POper := [zo 4 (.mv (.tmp 3)),
  zo 5 (.prim (.bin .lss 3 false true) [.tmp 4, .const (.int .i64 4)])]
def pc56_c3 : PCode := .region (some ([1, 3], [1], [])) false pc56_o3
def pc56_c4 : PCode := .skip
def pc56_c5 : PCode := .exit 0
def pc56_c6 : PCode := .cond (.tmp 5) pc56_c4 pc56_c5
def pc56_c7 : PCode := .seq pc56_c3 pc56_c6
def pc56_o8 : List POper := [zo 8 (.mv (.tmp 3)),
  zo 9 (.faddr 3 (.tmp 1)),
  zo 10 (.iaddrA 4 2 (.tmp 9) (.tmp 8)),
  zo 11 (.load true 2 (.tmp 10)),
  zo 12 (.call true [[]] 97 [.tmp 11]),
  zo 13 (.prim (.un .not) [.tmp 12])]
def pc56_c8 : PCode := .region none false pc56_o8
def pc56_o9 : List POper := [zo 2 (.mv (.const (.bool false)))]
def pc56_c9 : PCode := .region none false pc56_o9
def pc56_c10 : PCode := .ret
def pc56_c11 : PCode := .seq pc56_c9 pc56_c10
def pc56_c12 : PCode := .skip
def pc56_c13 : PCode := .cond (.tmp 13) pc56_c11 pc56_c12
def pc56_c14 : PCode := .seq pc56_c8 pc56_c13
def pc56_c15 : PCode := .block 1 pc56_c14
def pc56_o16 : List POper := [zo 6 (.mv (.tmp 3)),
  zo 7 (.prim (.bin .add 3 false true) [.tmp 6, .const (.int .i64 1)]),
  zo 3 (.mv (.tmp 7))]
def pc56_c16 : PCode := .region none false pc56_o16
def pc56_c17 : PCode := .seq pc56_c15 pc56_c16
def pc56_c18 : PCode := .seq pc56_c7 pc56_c17
def pc56_c19 : PCode := .loop pc56_c18
def pc56_c20 : PCode := .block 0 pc56_c19
def pc56_c21 : PCode := .seq pc56_c2 pc56_c20
def pc56_o22 : List POper := [zo 2 (.mv (.const (.bool true)))]
def pc56_c22 : PCode := .region none false pc56_o22
def pc56_c23 : PCode := .ret
def pc56_c24 : PCode := .seq pc56_c22 pc56_c23
def pc56_c25 : PCode := .seq pc56_c21 pc56_c24
def pc56_c26 : PCode := .seq pc56_c1 pc56_c25
def pc56_r : List PRes := [PRes.tmp 2 []]
def pc56 : PFunc := ⟨14, pc56_r, pc56_c26, false⟩
def pc56_a : Ann := {
  kr := fun
    | 2 => some ([1, 3], [1], [])
    | _ => none
  ka := fun
    | _ => 0
  kh := fun
    | _ => none
  ow := fun t => match t with
    | 96 => [(1, 5, 1)]
    | _ => []
  tc := fun t => match t with
    | 96 => true
    | _ => false }
theorem pc56_ok : compFn Try.prog pc56_a Try.f56 = some pc56 := by kernel_rfl


-- 43: vedette/vedettelaw15.fewThings
def pc43_o1 : List POper := [zo 2 (.mv (.const (.bool false)))]
def pc43_c1 : PCode := .region none false pc43_o1
def pc43_o2 : List POper := [zo 3 (.mv (.const (.int .i64 0)))]
def pc43_c2 : PCode := .region none false pc43_o2
def pc43_o3 : List POper := [zo 4 (.mv (.tmp 3)),
  zo 5 (.mv (.tmp 0)),
  zo 6 (.lenS (.tmp 5)),
  zo 7 (.prim (.bin .lss 3 false false) [.tmp 4, .tmp 6])]
def pc43_c3 : PCode := .region (some ([0, 3], [], [])) false pc43_o3
def pc43_c4 : PCode := .skip
def pc43_c5 : PCode := .exit 0
def pc43_c6 : PCode := .cond (.tmp 7) pc43_c4 pc43_c5
def pc43_c7 : PCode := .seq pc43_c3 pc43_c6
def pc43_o8 : List POper := [zo 10 (.mv (.tmp 0)),
  zo 11 (.mv (.tmp 3)),
  zo 12 (.iaddrS 11 (.tmp 10) (.tmp 11)),
  zo 13 (.load true 11 (.tmp 12)),
  zo 14 (.call true [[]] 56 [.tmp 13]),
  zo 15 (.prim (.un .not) [.tmp 14])]
def pc43_c8 : PCode := .region none false pc43_o8
def pc43_o9 : List POper := [zo 2 (.mv (.const (.bool false)))]
def pc43_c9 : PCode := .region none false pc43_o9
def pc43_c10 : PCode := .ret
def pc43_c11 : PCode := .seq pc43_c9 pc43_c10
def pc43_c12 : PCode := .skip
def pc43_c13 : PCode := .cond (.tmp 15) pc43_c11 pc43_c12
def pc43_c14 : PCode := .seq pc43_c8 pc43_c13
def pc43_c15 : PCode := .block 1 pc43_c14
def pc43_o16 : List POper := [zo 8 (.mv (.tmp 3)),
  zo 9 (.prim (.bin .add 3 false true) [.tmp 8, .const (.int .i64 1)]),
  zo 3 (.mv (.tmp 9))]
def pc43_c16 : PCode := .region none false pc43_o16
def pc43_c17 : PCode := .seq pc43_c15 pc43_c16
def pc43_c18 : PCode := .seq pc43_c7 pc43_c17
def pc43_c19 : PCode := .loop pc43_c18
def pc43_c20 : PCode := .block 0 pc43_c19
def pc43_c21 : PCode := .seq pc43_c2 pc43_c20
def pc43_o22 : List POper := [zo 16 (.mv (.tmp 0)),
  zo 17 (.lenS (.tmp 16)),
  zo 18 (.prim (.bin .leq 3 false true) [.tmp 17, .const (.int .i64 30)]),
  zo 2 (.mv (.tmp 18))]
def pc43_c22 : PCode := .region none false pc43_o22
def pc43_c23 : PCode := .ret
def pc43_c24 : PCode := .seq pc43_c22 pc43_c23
def pc43_c25 : PCode := .seq pc43_c21 pc43_c24
def pc43_c26 : PCode := .seq pc43_c1 pc43_c25
def pc43_r : List PRes := [PRes.tmp 2 []]
def pc43 : PFunc := ⟨19, pc43_r, pc43_c26, false⟩
def pc43_a : Ann := {
  kr := fun
    | 2 => some ([0, 3], [], [])
    | _ => none
  ka := fun
    | _ => 0
  kh := fun
    | _ => none
  ow := fun t => match t with
    | 96 => [(1, 5, 1)]
    | _ => []
  tc := fun t => match t with
    | 96 => true
    | _ => false }
theorem pc43_ok : compFn Try.prog pc43_a Try.f43 = some pc43 := by kernel_rfl


-- 44: vedette/vedettelaw15.fewEvents
def pc44_o1 : List POper := [zo 2 (.mv (.const (.bool false)))]
def pc44_c1 : PCode := .region none false pc44_o1
def pc44_o2 : List POper := [zo 3 (.mv (.const (.int .i64 0)))]
def pc44_c2 : PCode := .region none false pc44_o2
def pc44_o3 : List POper := [zo 4 (.mv (.tmp 3)),
  zo 5 (.mv (.tmp 0)),
  zo 6 (.lenS (.tmp 5)),
  zo 7 (.prim (.bin .lss 3 false false) [.tmp 4, .tmp 6])]
def pc44_c3 : PCode := .region (some ([0, 3], [], [])) false pc44_o3
def pc44_c4 : PCode := .skip
def pc44_c5 : PCode := .exit 0
def pc44_c6 : PCode := .cond (.tmp 7) pc44_c4 pc44_c5
def pc44_c7 : PCode := .seq pc44_c3 pc44_c6
def pc44_o8 : List POper := [zo 10 (.mv (.tmp 0)),
  zo 11 (.mv (.tmp 3)),
  zo 12 (.iaddrS 25 (.tmp 10) (.tmp 11)),
  zo 13 (.faddr 2 (.tmp 12)),
  zo 14 (.load true 11 (.tmp 13)),
  zo 15 (.call true [[]] 56 [.tmp 14]),
  zo 16 (.prim (.un .not) [.tmp 15]),
  zo 17 (.mv (.tmp 16)),
  ⟨some 18, .mv (.tmp 0), some (17, false), []⟩,
  ⟨some 19, .mv (.tmp 3), some (17, false), []⟩,
  ⟨some 20, .iaddrS 25 (.tmp 18) (.tmp 19), some (17, false), []⟩,
  ⟨some 21, .faddr 13 (.tmp 20), some (17, false), []⟩,
  ⟨some 22, .faddr 4 (.tmp 21), some (17, false), []⟩,
  ⟨some 23, .load true 8 (.tmp 22), some (17, false), []⟩,
  ⟨some 24, .build (.agg { toList := [.int .i64 0, .int .i64 0, .int .i64 0, .int .i64 0, .string { data := { toList := [] } }, .int .i64 0, .string { data := { toList := [] } }, .int .i64 0, .string { data := { toList := [] } }, .int .i64 0, .string { data := { toList := [] } }] }) [(3, 8, .tmp 23)], some (17, false), []⟩,
  ⟨some 25, .call true [[]] 56 [.tmp 24], some (17, false), []⟩,
  ⟨some 26, .prim (.un .not) [.tmp 25], some (17, false), []⟩,
  zo 27 (.pick (.tmp 17) (.const (.bool true)) (.tmp 26))]
def pc44_c8 : PCode := .region none false pc44_o8
def pc44_o9 : List POper := [zo 2 (.mv (.const (.bool false)))]
def pc44_c9 : PCode := .region none false pc44_o9
def pc44_c10 : PCode := .ret
def pc44_c11 : PCode := .seq pc44_c9 pc44_c10
def pc44_c12 : PCode := .skip
def pc44_c13 : PCode := .cond (.tmp 27) pc44_c11 pc44_c12
def pc44_c14 : PCode := .seq pc44_c8 pc44_c13
def pc44_c15 : PCode := .block 1 pc44_c14
def pc44_o16 : List POper := [zo 8 (.mv (.tmp 3)),
  zo 9 (.prim (.bin .add 3 false true) [.tmp 8, .const (.int .i64 1)]),
  zo 3 (.mv (.tmp 9))]
def pc44_c16 : PCode := .region none false pc44_o16
def pc44_c17 : PCode := .seq pc44_c15 pc44_c16
def pc44_c18 : PCode := .seq pc44_c7 pc44_c17
def pc44_c19 : PCode := .loop pc44_c18
def pc44_c20 : PCode := .block 0 pc44_c19
def pc44_c21 : PCode := .seq pc44_c2 pc44_c20
def pc44_o22 : List POper := [zo 28 (.mv (.tmp 0)),
  zo 29 (.lenS (.tmp 28)),
  zo 30 (.prim (.bin .leq 3 false true) [.tmp 29, .const (.int .i64 30)]),
  zo 2 (.mv (.tmp 30))]
def pc44_c22 : PCode := .region none false pc44_o22
def pc44_c23 : PCode := .ret
def pc44_c24 : PCode := .seq pc44_c22 pc44_c23
def pc44_c25 : PCode := .seq pc44_c21 pc44_c24
def pc44_c26 : PCode := .seq pc44_c1 pc44_c25
def pc44_r : List PRes := [PRes.tmp 2 []]
def pc44 : PFunc := ⟨31, pc44_r, pc44_c26, false⟩
def pc44_a : Ann := {
  kr := fun
    | 2 => some ([0, 3], [], [])
    | _ => none
  ka := fun
    | _ => 0
  kh := fun
    | _ => none
  ow := fun t => match t with
    | 96 => [(1, 5, 1)]
    | _ => []
  tc := fun t => match t with
    | 96 => true
    | _ => false }
theorem pc44_ok : compFn Try.prog pc44_a Try.f44 = some pc44 := by kernel_rfl


-- 58: vedette/vedetteref3.On
def pc58_o1 : List POper := [zo 1 (.box 23 (.tmp 0) []),
  zo 2 (.mv (.const (.bool false)))]
def pc58_c1 : PCode := .region none false pc58_o1
def pc58_o2 : List POper := [zo 3 (.faddr 0 (.tmp 1)),
  zo 4 (.load false 1 (.tmp 3)),
  zo 5 (.prim (.bin .geq 3 false true) [.tmp 4, .const (.int .i64 0)]),
  zo 6 (.mv (.tmp 5)),
  ⟨some 7, .faddr 0 (.tmp 1), some (6, true), []⟩,
  ⟨some 8, .load false 1 (.tmp 7), some (6, true), []⟩,
  ⟨some 9, .prim (.bin .lss 3 false true) [.tmp 8, .const (.int .i64 64)], some (6, true), []⟩,
  zo 10 (.pick (.tmp 6) (.tmp 9) (.const (.bool false))),
  zo 11 (.mv (.tmp 10)),
  ⟨some 12, .faddr 1 (.tmp 1), some (11, true), []⟩,
  ⟨some 13, .load false 1 (.tmp 12), some (11, true), []⟩,
  ⟨some 14, .prim (.bin .geq 3 false true) [.tmp 13, .const (.int .i64 0)], some (11, true), []⟩,
  zo 15 (.pick (.tmp 11) (.tmp 14) (.const (.bool false))),
  zo 16 (.mv (.tmp 15)),
  ⟨some 17, .faddr 1 (.tmp 1), some (16, true), []⟩,
  ⟨some 18, .load false 1 (.tmp 17), some (16, true), []⟩,
  ⟨some 19, .prim (.bin .lss 3 false true) [.tmp 18, .const (.int .i64 64)], some (16, true), []⟩,
  zo 20 (.pick (.tmp 16) (.tmp 19) (.const (.bool false))),
  zo 2 (.mv (.tmp 20))]
def pc58_c2 : PCode := .region none false pc58_o2
def pc58_c3 : PCode := .ret
def pc58_c4 : PCode := .seq pc58_c2 pc58_c3
def pc58_c5 : PCode := .seq pc58_c1 pc58_c4
def pc58_r : List PRes := [PRes.tmp 2 []]
def pc58 : PFunc := ⟨21, pc58_r, pc58_c5, false⟩
def pc58_a : Ann := {
  kr := fun
    | _ => none
  ka := fun
    | _ => 0
  kh := fun
    | _ => none
  ow := fun t => match t with
    | 96 => [(1, 5, 1)]
    | _ => []
  tc := fun t => match t with
    | 96 => true
    | _ => false }
theorem pc58_ok : compFn Try.prog pc58_a Try.f58 = some pc58 := by kernel_rfl


-- 59: vedette/vedetteref6.IsField
def pc59_o1 : List POper := [zo 1 (.box 25 (.tmp 0) []),
  zo 2 (.mv (.const (.bool false)))]
def pc59_c1 : PCode := .region none false pc59_o1
def pc59_o2 : List POper := [zo 3 (.faddr 0 (.tmp 1)),
  zo 4 (.load false 1 (.tmp 3)),
  zo 5 (.prim (.bin .eql 2 false true) [.tmp 4, .const (.int .i64 0)]),
  zo 6 (.mv (.tmp 5)),
  ⟨some 7, .faddr 1 (.tmp 1), some (6, false), []⟩,
  ⟨some 8, .load false 1 (.tmp 7), some (6, false), []⟩,
  ⟨some 9, .prim (.bin .eql 9 false true) [.tmp 8, .const (.string { data := { toList := [] } })], some (6, false), []⟩,
  zo 10 (.pick (.tmp 6) (.const (.bool true)) (.tmp 9)),
  zo 11 (.mv (.tmp 10)),
  ⟨some 12, .faddr 1 (.tmp 1), some (11, true), []⟩,
  ⟨some 13, .load false 1 (.tmp 12), some (11, true), []⟩,
  ⟨some 14, .prim (.len 9) [.tmp 13], some (11, true), []⟩,
  ⟨some 15, .prim (.bin .leq 3 false true) [.tmp 14, .const (.int .i64 12)], some (11, true), []⟩,
  zo 16 (.pick (.tmp 11) (.tmp 15) (.const (.bool false))),
  zo 2 (.mv (.tmp 16))]
def pc59_c2 : PCode := .region none false pc59_o2
def pc59_c3 : PCode := .ret
def pc59_c4 : PCode := .seq pc59_c2 pc59_c3
def pc59_c5 : PCode := .seq pc59_c1 pc59_c4
def pc59_r : List PRes := [PRes.tmp 2 []]
def pc59 : PFunc := ⟨17, pc59_r, pc59_c5, false⟩
def pc59_a : Ann := {
  kr := fun
    | _ => none
  ka := fun
    | _ => 0
  kh := fun
    | _ => none
  ow := fun t => match t with
    | 96 => [(1, 5, 1)]
    | _ => []
  tc := fun t => match t with
    | 96 => true
    | _ => false }
theorem pc59_ok : compFn Try.prog pc59_a Try.f59 = some pc59 := by kernel_rfl


-- 18: vedette/vedetteref6.Is
def pc18_o1 : List POper := [zo 1 (.box 28 (.tmp 0) []),
  zo 2 (.mv (.const (.bool false)))]
def pc18_c1 : PCode := .region none false pc18_o1
def pc18_o2 : List POper := [zo 5 (.faddr 0 (.tmp 1)),
  zo 6 (.load false 1 (.tmp 5)),
  zo 7 (.prim (.bin .geq 3 false true) [.tmp 6, .const (.int .i64 0)]),
  zo 8 (.mv (.tmp 7)),
  ⟨some 9, .faddr 0 (.tmp 1), some (8, true), []⟩,
  ⟨some 10, .load false 1 (.tmp 9), some (8, true), []⟩,
  ⟨some 11, .prim (.bin .leq 3 false true) [.tmp 10, .const (.int .i64 1000000)], some (8, true), []⟩,
  zo 12 (.pick (.tmp 8) (.tmp 11) (.const (.bool false))),
  zo 13 (.mv (.tmp 12)),
  ⟨some 14, .faddr 1 (.tmp 1), some (13, true), []⟩,
  ⟨some 15, .load true 2 (.tmp 14), some (13, true), []⟩,
  ⟨some 16, .call true [[]] 58 [.tmp 15], some (13, true), []⟩,
  zo 17 (.pick (.tmp 13) (.tmp 16) (.const (.bool false))),
  zo 3 (.mv (.tmp 17))]
def pc18_c2 : PCode := .region none false pc18_o2
def pc18_o3 : List POper := [zo 4 (.mv (.const (.int .i64 0)))]
def pc18_c3 : PCode := .region (some ([1, 3], [1], [])) false pc18_o3
def pc18_o4 : List POper := [zo 18 (.mv (.tmp 4)),
  zo 19 (.prim (.bin .lss 3 false true) [.tmp 18, .const (.int .i64 4)])]
def pc18_c4 : PCode := .region (some ([1, 3, 4], [1], [])) false pc18_o4
def pc18_c5 : PCode := .skip
def pc18_c6 : PCode := .exit 0
def pc18_c7 : PCode := .cond (.tmp 19) pc18_c5 pc18_c6
def pc18_c8 : PCode := .seq pc18_c4 pc18_c7
def pc18_o9 : List POper := [zo 22 (.mv (.tmp 3)),
  zo 23 (.mv (.tmp 22)),
  ⟨some 24, .mv (.tmp 4), some (23, true), []⟩,
  ⟨some 25, .faddr 3 (.tmp 1), some (23, true), []⟩,
  ⟨some 26, .iaddrA 4 2 (.tmp 25) (.tmp 24), some (23, true), []⟩,
  ⟨some 27, .load true 2 (.tmp 26), some (23, true), []⟩,
  ⟨some 28, .call true [[]] 59 [.tmp 27], some (23, true), []⟩,
  zo 29 (.pick (.tmp 23) (.tmp 28) (.const (.bool false))),
  zo 3 (.mv (.tmp 29))]
def pc18_c9 : PCode := .region none false pc18_o9
def pc18_c10 : PCode := .block 1 pc18_c9
def pc18_o11 : List POper := [zo 20 (.mv (.tmp 4)),
  zo 21 (.prim (.bin .add 3 false true) [.tmp 20, .const (.int .i64 1)]),
  zo 4 (.mv (.tmp 21))]
def pc18_c11 : PCode := .region none false pc18_o11
def pc18_c12 : PCode := .seq pc18_c10 pc18_c11
def pc18_c13 : PCode := .seq pc18_c8 pc18_c12
def pc18_c14 : PCode := .loop pc18_c13
def pc18_c15 : PCode := .block 0 pc18_c14
def pc18_c16 : PCode := .seq pc18_c3 pc18_c15
def pc18_o17 : List POper := [zo 30 (.mv (.tmp 3)),
  zo 2 (.mv (.tmp 30))]
def pc18_c17 : PCode := .region none false pc18_o17
def pc18_c18 : PCode := .ret
def pc18_c19 : PCode := .seq pc18_c17 pc18_c18
def pc18_c20 : PCode := .seq pc18_c16 pc18_c19
def pc18_c21 : PCode := .seq pc18_c2 pc18_c20
def pc18_c22 : PCode := .seq pc18_c1 pc18_c21
def pc18_r : List PRes := [PRes.tmp 2 []]
def pc18 : PFunc := ⟨31, pc18_r, pc18_c22, false⟩
def pc18_a : Ann := {
  kr := fun
    | 2 => some ([1, 3], [1], [])
    | 3 => some ([1, 3, 4], [1], [])
    | _ => none
  ka := fun
    | _ => 0
  kh := fun
    | _ => none
  ow := fun t => match t with
    | 96 => [(1, 5, 1)]
    | _ => []
  tc := fun t => match t with
    | 96 => true
    | _ => false }
theorem pc18_ok : compFn Try.prog pc18_a Try.f18 = some pc18 := by kernel_rfl


-- 45: vedette/vedettelaw15.rising
def pc45_o1 : List POper := [zo 2 (.mv (.const (.bool false)))]
def pc45_c1 : PCode := .region none false pc45_o1
def pc45_o2 : List POper := [zo 3 (.mv (.const (.int .i64 0)))]
def pc45_c2 : PCode := .region none false pc45_o2
def pc45_o3 : List POper := [zo 4 (.mv (.tmp 3)),
  zo 5 (.mv (.tmp 0)),
  zo 6 (.lenS (.tmp 5)),
  zo 7 (.prim (.bin .lss 3 false false) [.tmp 4, .tmp 6])]
def pc45_c3 : PCode := .region (some ([0, 3], [], [])) false pc45_o3
def pc45_c4 : PCode := .skip
def pc45_c5 : PCode := .exit 0
def pc45_c6 : PCode := .cond (.tmp 7) pc45_c4 pc45_c5
def pc45_c7 : PCode := .seq pc45_c3 pc45_c6
def pc45_o8 : List POper := [⟨some 10, .mv (.tmp 0), none, [(0, .imm)]⟩,
  ⟨some 11, .mv (.tmp 3), none, [(3, .imm)]⟩,
  ⟨some 12, .iaddrS 11 (.tmp 10) (.tmp 11), none, [(10, .imm), (11, .imm)]⟩,
  ⟨some 13, .load true 11 (.tmp 12), none, [(12, .imm)]⟩,
  ⟨some 14, .call false [[]] 18 [.tmp 13], none, [(13, .imm)]⟩,
  ⟨some 15, .prim (.un .not) [.tmp 14], none, [(14, .imm)]⟩,
  ⟨some 16, .mv (.tmp 15), none, [(15, .imm)]⟩,
  ⟨some 17, .mv (.tmp 3), some (16, false), [(3, .imm)]⟩,
  ⟨some 18, .prim (.bin .gtr 3 false true) [.tmp 17, .const (.int .i64 0)], some (16, false), [(17, .imm)]⟩,
  ⟨some 19, .mv (.tmp 18), some (16, false), [(18, .imm)]⟩,
  ⟨some 20, .mv (.tmp 0), some (19, true), [(0, .imm)]⟩,
  ⟨some 21, .mv (.tmp 3), some (19, true), [(3, .imm)]⟩,
  ⟨some 22, .iaddrS 11 (.tmp 20) (.tmp 21), some (19, true), [(20, .imm), (21, .imm)]⟩,
  ⟨some 23, .faddr 0 (.tmp 22), some (19, true), [(22, .imm)]⟩,
  ⟨some 24, .load false 1 (.tmp 23), some (19, true), [(23, .imm)]⟩,
  ⟨some 25, .mv (.tmp 0), some (19, true), [(0, .imm)]⟩,
  ⟨some 26, .mv (.tmp 3), some (19, true), [(3, .imm)]⟩,
  ⟨some 27, .prim (.bin .sub 3 false true) [.tmp 26, .const (.int .i64 1)], some (19, true), [(26, .imm)]⟩,
  ⟨some 28, .iaddrS 11 (.tmp 25) (.tmp 27), some (19, true), [(25, .imm), (27, .imm)]⟩,
  ⟨some 29, .faddr 0 (.tmp 28), some (19, true), [(28, .imm)]⟩,
  ⟨some 30, .load false 1 (.tmp 29), some (19, true), [(29, .imm)]⟩,
  ⟨some 31, .prim (.bin .leq 3 false false) [.tmp 24, .tmp 30], some (19, true), [(24, .imm), (30, .imm)]⟩,
  ⟨some 32, .pick (.tmp 19) (.tmp 31) (.const (.bool false)), some (16, false), [(19, .imm), (31, .imm)]⟩,
  ⟨some 33, .pick (.tmp 16) (.const (.bool true)) (.tmp 32), none, [(16, .imm), (32, .imm)]⟩]
def pc45_c8 : PCode := .region none true pc45_o8
def pc45_o9 : List POper := [zo 2 (.mv (.const (.bool false)))]
def pc45_c9 : PCode := .region none false pc45_o9
def pc45_c10 : PCode := .ret
def pc45_c11 : PCode := .seq pc45_c9 pc45_c10
def pc45_c12 : PCode := .skip
def pc45_c13 : PCode := .cond (.tmp 33) pc45_c11 pc45_c12
def pc45_c14 : PCode := .seq pc45_c8 pc45_c13
def pc45_c15 : PCode := .block 1 pc45_c14
def pc45_o16 : List POper := [zo 8 (.mv (.tmp 3)),
  zo 9 (.prim (.bin .add 3 false true) [.tmp 8, .const (.int .i64 1)]),
  zo 3 (.mv (.tmp 9))]
def pc45_c16 : PCode := .region none false pc45_o16
def pc45_c17 : PCode := .seq pc45_c15 pc45_c16
def pc45_c18 : PCode := .seq pc45_c7 pc45_c17
def pc45_c19 : PCode := .loop pc45_c18
def pc45_c20 : PCode := .block 0 pc45_c19
def pc45_c21 : PCode := .seq pc45_c2 pc45_c20
def pc45_o22 : List POper := [zo 2 (.mv (.const (.bool true)))]
def pc45_c22 : PCode := .region none false pc45_o22
def pc45_c23 : PCode := .ret
def pc45_c24 : PCode := .seq pc45_c22 pc45_c23
def pc45_c25 : PCode := .seq pc45_c21 pc45_c24
def pc45_c26 : PCode := .seq pc45_c1 pc45_c25
def pc45_r : List PRes := [PRes.tmp 2 []]
def pc45 : PFunc := ⟨34, pc45_r, pc45_c26, false⟩
def pc45_a : Ann := {
  kr := fun
    | 2 => some ([0, 3], [], [])
    | _ => none
  ka := fun
    | _ => 0
  kh := fun
    | 0 => some (.imm)
    | 3 => some (.imm)
    | 10 => some (.imm)
    | 11 => some (.imm)
    | 12 => some (.imm)
    | 13 => some (.imm)
    | 14 => some (.imm)
    | 15 => some (.imm)
    | 16 => some (.imm)
    | 17 => some (.imm)
    | 18 => some (.imm)
    | 19 => some (.imm)
    | 20 => some (.imm)
    | 21 => some (.imm)
    | 22 => some (.imm)
    | 23 => some (.imm)
    | 24 => some (.imm)
    | 25 => some (.imm)
    | 26 => some (.imm)
    | 27 => some (.imm)
    | 28 => some (.imm)
    | 29 => some (.imm)
    | 30 => some (.imm)
    | 31 => some (.imm)
    | 32 => some (.imm)
    | _ => none
  ow := fun t => match t with
    | 96 => [(1, 5, 1)]
    | _ => []
  tc := fun t => match t with
    | 96 => true
    | _ => false }
theorem pc45_ok : compFn Try.prog pc45_a Try.f45 = some pc45 := by kernel_rfl


-- 50: vedette/vedetteref15.Same
def pc50_o1 : List POper := [zo 4 (.mv (.const (.bool false)))]
def pc50_c1 : PCode := .region none false pc50_o1
def pc50_o2 : List POper := [zo 6 (.mv (.tmp 0)),
  zo 7 (.lenS (.tmp 6)),
  zo 8 (.mv (.tmp 1)),
  zo 9 (.lenS (.tmp 8)),
  zo 10 (.prim (.bin .neq 3 false false) [.tmp 7, .tmp 9])]
def pc50_c2 : PCode := .region none false pc50_o2
def pc50_o3 : List POper := [zo 4 (.mv (.const (.bool false)))]
def pc50_c3 : PCode := .region none false pc50_o3
def pc50_c4 : PCode := .ret
def pc50_c5 : PCode := .seq pc50_c3 pc50_c4
def pc50_c6 : PCode := .skip
def pc50_c7 : PCode := .cond (.tmp 10) pc50_c5 pc50_c6
def pc50_c8 : PCode := .seq pc50_c2 pc50_c7
def pc50_o9 : List POper := [zo 5 (.mv (.const (.int .i64 0)))]
def pc50_c9 : PCode := .region none false pc50_o9
def pc50_o10 : List POper := [zo 11 (.mv (.tmp 5)),
  zo 12 (.mv (.tmp 0)),
  zo 13 (.lenS (.tmp 12)),
  zo 14 (.prim (.bin .lss 3 false false) [.tmp 11, .tmp 13])]
def pc50_c10 : PCode := .region (some ([0, 1, 5], [], [])) false pc50_o10
def pc50_c11 : PCode := .skip
def pc50_c12 : PCode := .exit 0
def pc50_c13 : PCode := .cond (.tmp 14) pc50_c11 pc50_c12
def pc50_c14 : PCode := .seq pc50_c10 pc50_c13
def pc50_o15 : List POper := [⟨some 17, .mv (.tmp 0), none, [(0, .imm)]⟩,
  ⟨some 18, .mv (.tmp 5), none, [(5, .imm)]⟩,
  ⟨some 19, .iaddrS 25 (.tmp 17) (.tmp 18), none, [(17, .imm), (18, .imm)]⟩,
  ⟨some 20, .load true 25 (.tmp 19), none, [(19, .imm)]⟩,
  ⟨some 21, .mv (.tmp 1), none, [(1, .imm)]⟩,
  ⟨some 22, .mv (.tmp 5), none, [(5, .imm)]⟩,
  ⟨some 23, .iaddrS 25 (.tmp 21) (.tmp 22), none, [(21, .imm), (22, .imm)]⟩,
  ⟨some 24, .load true 25 (.tmp 23), none, [(23, .imm)]⟩,
  ⟨some 25, .prim (.bin .neq 67 false false) [.tmp 20, .tmp 24], none, [(20, .imm), (24, .imm)]⟩]
def pc50_c15 : PCode := .region none true pc50_o15
def pc50_o16 : List POper := [zo 4 (.mv (.const (.bool false)))]
def pc50_c16 : PCode := .region none false pc50_o16
def pc50_c17 : PCode := .ret
def pc50_c18 : PCode := .seq pc50_c16 pc50_c17
def pc50_c19 : PCode := .skip
def pc50_c20 : PCode := .cond (.tmp 25) pc50_c18 pc50_c19
def pc50_c21 : PCode := .seq pc50_c15 pc50_c20
def pc50_c22 : PCode := .block 1 pc50_c21
def pc50_o23 : List POper := [zo 15 (.mv (.tmp 5)),
  zo 16 (.prim (.bin .add 3 false true) [.tmp 15, .const (.int .i64 1)]),
  zo 5 (.mv (.tmp 16))]
def pc50_c23 : PCode := .region none false pc50_o23
def pc50_c24 : PCode := .seq pc50_c22 pc50_c23
def pc50_c25 : PCode := .seq pc50_c14 pc50_c24
def pc50_c26 : PCode := .loop pc50_c25
def pc50_c27 : PCode := .block 0 pc50_c26
def pc50_c28 : PCode := .seq pc50_c9 pc50_c27
def pc50_o29 : List POper := [zo 4 (.mv (.const (.bool true)))]
def pc50_c29 : PCode := .region none false pc50_o29
def pc50_c30 : PCode := .ret
def pc50_c31 : PCode := .seq pc50_c29 pc50_c30
def pc50_c32 : PCode := .seq pc50_c28 pc50_c31
def pc50_c33 : PCode := .seq pc50_c8 pc50_c32
def pc50_c34 : PCode := .seq pc50_c1 pc50_c33
def pc50_r : List PRes := [PRes.tmp 4 []]
def pc50 : PFunc := ⟨26, pc50_r, pc50_c34, false⟩
def pc50_a : Ann := {
  kr := fun
    | 4 => some ([0, 1, 5], [], [])
    | _ => none
  ka := fun
    | _ => 0
  kh := fun
    | 0 => some (.imm)
    | 1 => some (.imm)
    | 5 => some (.imm)
    | 17 => some (.imm)
    | 18 => some (.imm)
    | 19 => some (.imm)
    | 20 => some (.imm)
    | 21 => some (.imm)
    | 22 => some (.imm)
    | 23 => some (.imm)
    | 24 => some (.imm)
    | _ => none
  ow := fun t => match t with
    | 96 => [(1, 5, 1)]
    | _ => []
  tc := fun t => match t with
    | 96 => true
    | _ => false }
theorem pc50_ok : compFn Try.prog pc50_a Try.f50 = some pc50 := by kernel_rfl


-- 12: vedette/vedettelaw15.EventBack
def pc12_o1 : List POper := [zo 6 (.mv (.const (.bool false)))]
def pc12_c1 : PCode := .region none false pc12_o1
def pc12_o2 : List POper := [zo 15 (.call true [] 42 []),
  zo 16 (.prim (.un .not) [.tmp 15])]
def pc12_c2 : PCode := .region none false pc12_o2
def pc12_o3 : List POper := [zo 6 (.mv (.const (.bool false)))]
def pc12_c3 : PCode := .region none false pc12_o3
def pc12_c4 : PCode := .ret
def pc12_c5 : PCode := .seq pc12_c3 pc12_c4
def pc12_c6 : PCode := .skip
def pc12_c7 : PCode := .cond (.tmp 16) pc12_c5 pc12_c6
def pc12_c8 : PCode := .seq pc12_c2 pc12_c7
def pc12_o9 : List POper := [zo 17 (.mv (.tmp 0)),
  zo 18 (.call true [[(0, 11)]] 43 [.tmp 17]),
  zo 19 (.prim (.un .not) [.tmp 18]),
  zo 20 (.mv (.tmp 19)),
  ⟨some 21, .mv (.tmp 1), some (20, false), []⟩,
  ⟨some 22, .call true [[(0, 25)]] 44 [.tmp 21], some (20, false), []⟩,
  ⟨some 23, .prim (.un .not) [.tmp 22], some (20, false), []⟩,
  zo 24 (.pick (.tmp 20) (.const (.bool true)) (.tmp 23)),
  zo 25 (.mv (.tmp 24)),
  ⟨some 26, .mv (.tmp 0), some (25, false), []⟩,
  ⟨some 27, .call true [[(0, 11)]] 45 [.tmp 26], some (25, false), []⟩,
  ⟨some 28, .prim (.un .not) [.tmp 27], some (25, false), []⟩,
  zo 29 (.pick (.tmp 25) (.const (.bool true)) (.tmp 28)),
  zo 30 (.mv (.tmp 29)),
  ⟨some 31, .mv (.tmp 2), some (30, false), []⟩,
  ⟨some 32, .prim (.len 9) [.tmp 31], some (30, false), []⟩,
  ⟨some 33, .prim (.bin .gtr 3 false true) [.tmp 32, .const (.int .i64 50)], some (30, false), []⟩,
  zo 34 (.pick (.tmp 30) (.const (.bool true)) (.tmp 33))]
def pc12_c9 : PCode := .region none false pc12_o9
def pc12_o10 : List POper := [zo 6 (.mv (.const (.bool true)))]
def pc12_c10 : PCode := .region none false pc12_o10
def pc12_c11 : PCode := .ret
def pc12_c12 : PCode := .seq pc12_c10 pc12_c11
def pc12_c13 : PCode := .skip
def pc12_c14 : PCode := .cond (.tmp 34) pc12_c12 pc12_c13
def pc12_c15 : PCode := .seq pc12_c9 pc12_c14
def pc12_o16 : List POper := [zo 35 (.mv (.tmp 0)),
  zo 36 (.app 100036 28 11 120 (.const (.slice none 0 0)) (.tmp 35)),
  zo 7 (.mv (.tmp 36))]
def pc12_c16 : PCode := .region none false pc12_o16
def pc12_o17 : List POper := [zo 38 (.mv (.tmp 0)),
  zo 39 (.mv (.tmp 1)),
  zo 40 (.call true [[(0, 11)], [(0, 25)]] 40 [.tmp 38, .tmp 39]),
  zo 37 (.mv (.tmp 40)),
  zo 41 (.ext (.tmp 37) 0),
  zo 42 (.ext (.tmp 37) 1),
  zo 8 (.mv (.tmp 41)),
  zo 9 (.mv (.tmp 42))]
def pc12_c17 : PCode := .region none false pc12_o17
def pc12_o18 : List POper := [zo 43 (.mv (.tmp 9)),
  zo 44 (.prim (.un .not) [.tmp 43]),
  zo 45 (.mv (.tmp 44)),
  ⟨some 46, .mv (.tmp 8), some (45, true), []⟩,
  ⟨some 47, .mv (.tmp 0), some (45, true), []⟩,
  ⟨some 48, .call true [[(0, 11)], [(0, 11)]] 34 [.tmp 46, .tmp 47], some (45, true), []⟩,
  ⟨some 49, .prim (.un .not) [.tmp 48], some (45, true), []⟩,
  zo 50 (.pick (.tmp 45) (.tmp 49) (.const (.bool false))),
  zo 51 (.mv (.tmp 50)),
  ⟨some 52, .mv (.tmp 7), some (51, false), []⟩,
  ⟨some 53, .mv (.tmp 0), some (51, false), []⟩,
  ⟨some 54, .call true [[(0, 11)], [(0, 11)]] 34 [.tmp 52, .tmp 53], some (51, false), []⟩,
  ⟨some 55, .prim (.un .not) [.tmp 54], some (51, false), []⟩,
  zo 56 (.pick (.tmp 51) (.const (.bool true)) (.tmp 55)),
  zo 57 (.mv (.tmp 56)),
  ⟨some 58, .mv (.tmp 8), some (57, false), []⟩,
  ⟨some 59, .call true [[(0, 11)]] 45 [.tmp 58], some (57, false), []⟩,
  ⟨some 60, .prim (.un .not) [.tmp 59], some (57, false), []⟩,
  zo 61 (.pick (.tmp 57) (.const (.bool true)) (.tmp 60))]
def pc12_c18 : PCode := .region none false pc12_o18
def pc12_o19 : List POper := [zo 6 (.mv (.const (.bool false)))]
def pc12_c19 : PCode := .region none false pc12_o19
def pc12_c20 : PCode := .ret
def pc12_c21 : PCode := .seq pc12_c19 pc12_c20
def pc12_c22 : PCode := .skip
def pc12_c23 : PCode := .cond (.tmp 61) pc12_c21 pc12_c22
def pc12_c24 : PCode := .seq pc12_c18 pc12_c23
def pc12_o25 : List POper := [zo 63 (.mv (.tmp 1)),
  zo 64 (.call true [[(0, 25)]] 46 [.tmp 63]),
  zo 62 (.mv (.tmp 64)),
  zo 65 (.ext (.tmp 62) 0),
  zo 66 (.ext (.tmp 62) 1),
  zo 10 (.mv (.tmp 65)),
  zo 11 (.mv (.tmp 66))]
def pc12_c25 : PCode := .region (some ([1, 2], [100036], [])) false pc12_o25
def pc12_o26 : List POper := [zo 67 (.mv (.tmp 11)),
  zo 68 (.prim (.bin .neq 37 false true) [.tmp 67, .const (.int .i64 0)])]
def pc12_c26 : PCode := .region none false pc12_o26
def pc12_o27 : List POper := [zo 69 (.mv (.tmp 10)),
  zo 70 (.prim (.bin .eql 9 false true) [.tmp 69, .const (.string { data := { toList := [] } })]),
  zo 71 (.mv (.tmp 70)),
  ⟨some 72, .mv (.tmp 11), some (71, true), []⟩,
  ⟨some 73, .prim (.bin .eql 37 false true) [.tmp 72, .const (.int .i64 11)], some (71, true), []⟩,
  zo 74 (.pick (.tmp 71) (.tmp 73) (.const (.bool false))),
  zo 6 (.mv (.tmp 74))]
def pc12_c27 : PCode := .region none false pc12_o27
def pc12_c28 : PCode := .ret
def pc12_c29 : PCode := .seq pc12_c27 pc12_c28
def pc12_c30 : PCode := .skip
def pc12_c31 : PCode := .cond (.tmp 68) pc12_c29 pc12_c30
def pc12_c32 : PCode := .seq pc12_c26 pc12_c31
def pc12_o33 : List POper := [zo 76 (.mv (.tmp 10)),
  zo 77 (.mv (.tmp 2)),
  zo 78 (.prim (.bin .add 9 false false) [.tmp 76, .tmp 77]),
  zo 79 (.call true [[]] 54 [.tmp 78]),
  zo 75 (.mv (.tmp 79)),
  zo 80 (.ext (.tmp 75) 0),
  zo 81 (.ext (.tmp 75) 1),
  zo 82 (.ext (.tmp 75) 2),
  zo 12 (.mv (.tmp 80)),
  zo 13 (.mv (.tmp 81)),
  zo 14 (.mv (.tmp 82))]
def pc12_c33 : PCode := .region none false pc12_o33
def pc12_o34 : List POper := [zo 83 (.mv (.tmp 14)),
  zo 84 (.prim (.bin .eql 37 false true) [.tmp 83, .const (.int .i64 0)]),
  zo 85 (.mv (.tmp 84)),
  ⟨some 86, .mv (.tmp 13), some (85, true), []⟩,
  ⟨some 87, .mv (.tmp 10), some (85, true), []⟩,
  ⟨some 88, .prim (.len 9) [.tmp 87], some (85, true), []⟩,
  ⟨some 89, .prim (.bin .eql 3 false false) [.tmp 86, .tmp 88], some (85, true), []⟩,
  zo 90 (.pick (.tmp 85) (.tmp 89) (.const (.bool false))),
  zo 91 (.mv (.tmp 90)),
  ⟨some 92, .mv (.tmp 12), some (91, true), []⟩,
  ⟨some 93, .mv (.tmp 1), some (91, true), []⟩,
  ⟨some 94, .call true [[(0, 25)], [(0, 25)]] 50 [.tmp 92, .tmp 93], some (91, true), []⟩,
  zo 95 (.pick (.tmp 91) (.tmp 94) (.const (.bool false))),
  zo 6 (.mv (.tmp 95))]
def pc12_c34 : PCode := .region none false pc12_o34
def pc12_c35 : PCode := .ret
def pc12_c36 : PCode := .seq pc12_c34 pc12_c35
def pc12_c37 : PCode := .seq pc12_c33 pc12_c36
def pc12_c38 : PCode := .seq pc12_c32 pc12_c37
def pc12_c39 : PCode := .seq pc12_c25 pc12_c38
def pc12_c40 : PCode := .seq pc12_c24 pc12_c39
def pc12_c41 : PCode := .seq pc12_c17 pc12_c40
def pc12_c42 : PCode := .seq pc12_c16 pc12_c41
def pc12_c43 : PCode := .seq pc12_c15 pc12_c42
def pc12_c44 : PCode := .seq pc12_c8 pc12_c43
def pc12_c45 : PCode := .seq pc12_c1 pc12_c44
def pc12_r : List PRes := [PRes.tmp 6 []]
def pc12 : PFunc := ⟨96, pc12_r, pc12_c45, false⟩
def pc12_a : Ann := {
  kr := fun
    | 9 => some ([1, 2], [100036], [])
    | _ => none
  ka := fun
    | 36 => 100036
    | _ => 0
  kh := fun
    | _ => none
  ow := fun t => match t with
    | 96 => [(1, 5, 1)]
    | _ => []
  tc := fun t => match t with
    | 96 => true
    | _ => false }
theorem pc12_ok : compFn Try.prog pc12_a Try.f12 = some pc12 := by kernel_rfl


end Go.Proofs.Ytobeamaaifgllaa
