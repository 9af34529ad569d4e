/-
  Code of functions, as the pure machine runs it. No condition.
-/
import Derived.Test.YtobeamaaifgllaaThingManyT
namespace Go.Proofs.Ytobeamaaifgllaa
open Go Go.Rx
set_option maxRecDepth 100000
set_option linter.unusedVariables false
set_option linter.unusedSimpArgs false
set_option linter.unnecessarySimpa false
-- 67: vedette/geom.On
def pc67_o1 : List POper := [⟨some 1, .box 23 (.tmp 0) [], none, []⟩,
  ⟨some 2, .mv (.const (.bool false)), none, []⟩]
def pc67_c1 : PCode := .region none false pc67_o1
def pc67_o2 : List POper := [⟨some 3, .faddr 0 (.tmp 1), none, []⟩,
  ⟨some 4, .load false 1 (.tmp 3), none, []⟩,
  ⟨some 5, .prim (.bin .geq 3 false true) [.tmp 4, .const (.int .i64 0)], none, []⟩,
  ⟨some 6, .mv (.tmp 5), none, []⟩,
  ⟨some 7, .faddr 0 (.tmp 1), some (6, true), []⟩,
  ⟨some 8, .load false 1 (.tmp 7), some (6, true), []⟩,
  ⟨some 9, .prim (.bin .lss 3 false true) [.tmp 8, .const (.int .i64 64)], some (6, true), []⟩,
  ⟨some 10, .pick (.tmp 6) (.tmp 9) (.const (.bool false)), none, []⟩,
  ⟨some 11, .mv (.tmp 10), none, []⟩,
  ⟨some 12, .faddr 1 (.tmp 1), some (11, true), []⟩,
  ⟨some 13, .load false 1 (.tmp 12), some (11, true), []⟩,
  ⟨some 14, .prim (.bin .geq 3 false true) [.tmp 13, .const (.int .i64 0)], some (11, true), []⟩,
  ⟨some 15, .pick (.tmp 11) (.tmp 14) (.const (.bool false)), none, []⟩,
  ⟨some 16, .mv (.tmp 15), none, []⟩,
  ⟨some 17, .faddr 1 (.tmp 1), some (16, true), []⟩,
  ⟨some 18, .load false 1 (.tmp 17), some (16, true), []⟩,
  ⟨some 19, .prim (.bin .lss 3 false true) [.tmp 18, .const (.int .i64 64)], some (16, true), []⟩,
  ⟨some 20, .pick (.tmp 16) (.tmp 19) (.const (.bool false)), none, []⟩,
  ⟨some 2, .mv (.tmp 20), none, []⟩]
def pc67_c2 : PCode := .region none false pc67_o2
def pc67_c3 : PCode := .ret
def pc67_c4 : PCode := .seq pc67_c2 pc67_c3
def pc67_c5 : PCode := .seq pc67_c1 pc67_c4
def pc67_r : List PRes := [PRes.tmp 2 []]
def pc67 : PFunc := ⟨21, pc67_r, pc67_c5, false⟩
def pc67_a : Ann := {
  kr := fun
    | _ => none
  ka := fun
    | _ => 0
  kh := fun
    | _ => none
  ow := fun t => match t with
    | 96 => [(1, 5, 1)]
    | _ => []
  tc := fun t => match t with
    | 96 => true
    | _ => false }
theorem pc67_ok : compFn Try.prog pc67_a Try.f67 = some pc67 := by kernel_rfl


-- 70: vedette/fields.IsField
def pc70_o1 : List POper := [⟨some 1, .box 25 (.tmp 0) [], none, []⟩,
  ⟨some 2, .mv (.const (.bool false)), none, []⟩]
def pc70_c1 : PCode := .region none false pc70_o1
def pc70_o2 : List POper := [⟨some 3, .faddr 0 (.tmp 1), none, []⟩,
  ⟨some 4, .load false 1 (.tmp 3), none, []⟩,
  ⟨some 5, .prim (.bin .eql 2 false true) [.tmp 4, .const (.int .i64 0)], none, []⟩,
  ⟨some 6, .mv (.tmp 5), none, []⟩,
  ⟨some 7, .faddr 1 (.tmp 1), some (6, false), []⟩,
  ⟨some 8, .load false 1 (.tmp 7), some (6, false), []⟩,
  ⟨some 9, .prim (.bin .eql 9 false true) [.tmp 8, .const (.string { data := { toList := [] } })], some (6, false), []⟩,
  ⟨some 10, .pick (.tmp 6) (.const (.bool true)) (.tmp 9), none, []⟩,
  ⟨some 11, .mv (.tmp 10), none, []⟩,
  ⟨some 12, .faddr 1 (.tmp 1), some (11, true), []⟩,
  ⟨some 13, .load false 1 (.tmp 12), some (11, true), []⟩,
  ⟨some 14, .prim (.len 9) [.tmp 13], some (11, true), []⟩,
  ⟨some 15, .prim (.bin .leq 3 false true) [.tmp 14, .const (.int .i64 12)], some (11, true), []⟩,
  ⟨some 16, .pick (.tmp 11) (.tmp 15) (.const (.bool false)), none, []⟩,
  ⟨some 2, .mv (.tmp 16), none, []⟩]
def pc70_c2 : PCode := .region none false pc70_o2
def pc70_c3 : PCode := .ret
def pc70_c4 : PCode := .seq pc70_c2 pc70_c3
def pc70_c5 : PCode := .seq pc70_c1 pc70_c4
def pc70_r : List PRes := [PRes.tmp 2 []]
def pc70 : PFunc := ⟨17, pc70_r, pc70_c5, false⟩
def pc70_a : Ann := {
  kr := fun
    | _ => none
  ka := fun
    | _ => 0
  kh := fun
    | _ => none
  ow := fun t => match t with
    | 96 => [(1, 5, 1)]
    | _ => []
  tc := fun t => match t with
    | 96 => true
    | _ => false }
theorem pc70_ok : compFn Try.prog pc70_a Try.f70 = some pc70 := by kernel_rfl


-- 69: vedette/thing.Is$1
def pc69_o1 : List POper := [⟨some 1, .box 25 (.tmp 0) [], none, []⟩,
  ⟨some 2, .mv (.const (.bool false)), none, []⟩]
def pc69_c1 : PCode := .region none false pc69_o1
def pc69_o2 : List POper := [⟨some 3, .load true 2 (.tmp 1), none, []⟩,
  ⟨some 4, .call true [[]] 70 [.tmp 3], none, []⟩,
  ⟨some 5, .prim (.un .not) [.tmp 4], none, []⟩,
  ⟨some 2, .mv (.tmp 5), none, []⟩]
def pc69_c2 : PCode := .region none false pc69_o2
def pc69_c3 : PCode := .ret
def pc69_c4 : PCode := .seq pc69_c2 pc69_c3
def pc69_c5 : PCode := .seq pc69_c1 pc69_c4
def pc69_r : List PRes := [PRes.tmp 2 []]
def pc69 : PFunc := ⟨6, pc69_r, pc69_c5, false⟩
def pc69_a : Ann := {
  kr := fun
    | _ => none
  ka := fun
    | _ => 0
  kh := fun
    | _ => none
  ow := fun t => match t with
    | 96 => [(1, 5, 1)]
    | _ => []
  tc := fun t => match t with
    | 96 => true
    | _ => false }
theorem pc69_ok : compFn Try.prog pc69_a Try.f69 = some pc69 := by kernel_rfl


-- 103: slices.IndexFunc[[]vedette/api.Field,vedette/api.Field]
def pc103_o1 : List POper := [⟨some 4, .mv (.const (.int .i64 0)), none, []⟩]
def pc103_c1 : PCode := .region none false pc103_o1
def pc103_o2 : List POper := [⟨some 6, .mv (.tmp 0), none, []⟩,
  ⟨some 7, .lenS (.tmp 6), none, []⟩,
  ⟨some 8, .mv (.const (.int .i64 0)), none, []⟩]
def pc103_c2 : PCode := .region none false pc103_o2
def pc103_o3 : List POper := [⟨some 9, .prim (.bin .lss 3 false false) [.tmp 8, .tmp 7], none, []⟩]
def pc103_c3 : PCode := .region (some ([0, 1, 7, 8], [], [])) false pc103_o3
def pc103_c4 : PCode := .skip
def pc103_c5 : PCode := .exit 0
def pc103_c6 : PCode := .cond (.tmp 9) pc103_c4 pc103_c5
def pc103_o7 : List POper := [⟨some 10, .mv (.tmp 8), none, []⟩,
  ⟨some 5, .mv (.tmp 10), none, []⟩]
def pc103_c7 : PCode := .region none false pc103_o7
def pc103_o8 : List POper := [⟨some 11, .mv (.tmp 1), none, []⟩,
  ⟨some 12, .mv (.tmp 0), none, []⟩,
  ⟨some 13, .mv (.tmp 5), none, []⟩,
  ⟨some 14, .iaddrS 2 (.tmp 12) (.tmp 13), none, []⟩,
  ⟨some 15, .load true 2 (.tmp 14), none, []⟩,
  ⟨some 16, .callv true [[]] (.tmp 11) [.tmp 15], none, []⟩]
def pc103_c8 : PCode := .region none false pc103_o8
def pc103_o9 : List POper := [⟨some 17, .mv (.tmp 5), none, []⟩,
  ⟨some 4, .mv (.tmp 17), none, []⟩]
def pc103_c9 : PCode := .region none false pc103_o9
def pc103_c10 : PCode := .ret
def pc103_c11 : PCode := .seq pc103_c9 pc103_c10
def pc103_c12 : PCode := .skip
def pc103_c13 : PCode := .cond (.tmp 16) pc103_c11 pc103_c12
def pc103_c14 : PCode := .seq pc103_c8 pc103_c13
def pc103_c15 : PCode := .seq pc103_c7 pc103_c14
def pc103_c16 : PCode := .block 1 pc103_c15
def pc103_o17 : List POper := [⟨some 18, .prim (.bin .add 3 false true) [.tmp 8, .const (.int .i64 1)], none, []⟩,
  ⟨some 8, .mv (.tmp 18), none, []⟩]
def pc103_c17 : PCode := .region none false pc103_o17
def pc103_c18 : PCode := .seq pc103_c16 pc103_c17
def pc103_c19 : PCode := .seq pc103_c6 pc103_c18
def pc103_c20 : PCode := .seq pc103_c3 pc103_c19
def pc103_c21 : PCode := .loop pc103_c20
def pc103_c22 : PCode := .block 0 pc103_c21
def pc103_c23 : PCode := .seq pc103_c2 pc103_c22
def pc103_o24 : List POper := [⟨some 4, .mv (.const (.int .i64 (-1))), none, []⟩]
def pc103_c24 : PCode := .region none false pc103_o24
def pc103_c25 : PCode := .ret
def pc103_c26 : PCode := .seq pc103_c24 pc103_c25
def pc103_c27 : PCode := .seq pc103_c23 pc103_c26
def pc103_c28 : PCode := .seq pc103_c1 pc103_c27
def pc103_r : List PRes := [PRes.tmp 4 []]
def pc103 : PFunc := ⟨19, pc103_r, pc103_c28, false⟩
def pc103_a : Ann := {
  kr := fun
    | 2 => some ([0, 1, 7, 8], [], [])
    | _ => none
  ka := fun
    | _ => 0
  kh := fun
    | _ => none
  ow := fun t => match t with
    | 96 => [(1, 5, 1)]
    | _ => []
  tc := fun t => match t with
    | 96 => true
    | _ => false }
theorem pc103_ok : compFn Try.prog pc103_a Try.f103 = some pc103 := by kernel_rfl


-- 68: slices.ContainsFunc[[]vedette/api.Field,vedette/api.Field]
def pc68_o1 : List POper := [⟨some 4, .mv (.const (.bool false)), none, []⟩]
def pc68_c1 : PCode := .region none false pc68_o1
def pc68_o2 : List POper := [⟨some 5, .mv (.tmp 0), none, []⟩,
  ⟨some 6, .mv (.tmp 1), none, []⟩,
  ⟨some 7, .gcall false false [300000, 300001, 300002, 300003, 300004, 300005, 300006, 300007] [[(0, 2)], []] 103 [.tmp 5, .tmp 6], none, []⟩,
  ⟨some 8, .prim (.bin .geq 3 false true) [.tmp 7, .const (.int .i64 0)], none, []⟩,
  ⟨some 4, .mv (.tmp 8), none, []⟩]
def pc68_c2 : PCode := .region none false pc68_o2
def pc68_c3 : PCode := .ret
def pc68_c4 : PCode := .seq pc68_c2 pc68_c3
def pc68_c5 : PCode := .seq pc68_c1 pc68_c4
def pc68_r : List PRes := [PRes.tmp 4 []]
def pc68 : PFunc := ⟨9, pc68_r, pc68_c5, false⟩
def pc68_a : Ann := {
  kr := fun
    | _ => none
  ka := fun
    | _ => 0
  kh := fun
    | _ => none
  gf := fun d f => match d, f with
    | some 7, 103 => some (false, false, [300000, 300001, 300002, 300003, 300004, 300005, 300006, 300007])
    | _, _ => none
  ow := fun t => match t with
    | 96 => [(1, 5, 1)]
    | _ => []
  tc := fun t => match t with
    | 96 => true
    | _ => false }
theorem pc68_ok : compFn Try.prog pc68_a Try.f68 = some pc68 := by kernel_rfl


-- 24: vedette/thing.Is
def pc24_o1 : List POper := [⟨some 1, .box 28 (.tmp 0) [], none, []⟩,
  ⟨some 2, .mv (.const (.bool false)), none, []⟩]
def pc24_c1 : PCode := .region none false pc24_o1
def pc24_o2 : List POper := [⟨some 3, .faddr 0 (.tmp 1), none, []⟩,
  ⟨some 4, .load false 1 (.tmp 3), none, []⟩,
  ⟨some 5, .prim (.bin .geq 3 false true) [.tmp 4, .const (.int .i64 0)], none, []⟩,
  ⟨some 6, .mv (.tmp 5), none, []⟩,
  ⟨some 7, .faddr 0 (.tmp 1), some (6, true), []⟩,
  ⟨some 8, .load false 1 (.tmp 7), some (6, true), []⟩,
  ⟨some 9, .prim (.bin .leq 3 false true) [.tmp 8, .const (.int .i64 1000000)], some (6, true), []⟩,
  ⟨some 10, .pick (.tmp 6) (.tmp 9) (.const (.bool false)), none, []⟩,
  ⟨some 11, .mv (.tmp 10), none, []⟩,
  ⟨some 12, .faddr 1 (.tmp 1), some (11, true), []⟩,
  ⟨some 13, .load true 2 (.tmp 12), some (11, true), []⟩,
  ⟨some 14, .call true [[]] 67 [.tmp 13], some (11, true), []⟩,
  ⟨some 15, .pick (.tmp 11) (.tmp 14) (.const (.bool false)), none, []⟩,
  ⟨some 16, .mv (.tmp 15), none, []⟩,
  ⟨some 17, .faddr 3 (.tmp 1), some (16, true), []⟩,
  ⟨some 18, .slcA 4 2 (.tmp 17) none none, some (16, true), []⟩,
  ⟨some 19, .gcall false false [1, 300000, 300001, 300002, 300003, 300004, 300005, 300006, 300007] [[(0, 2)], []] 68 [.tmp 18, .func 69], some (16, true), []⟩,
  ⟨some 20, .prim (.un .not) [.tmp 19], some (16, true), []⟩,
  ⟨some 21, .pick (.tmp 16) (.tmp 20) (.const (.bool false)), none, []⟩,
  ⟨some 2, .mv (.tmp 21), none, []⟩]
def pc24_c2 : PCode := .region none false pc24_o2
def pc24_c3 : PCode := .ret
def pc24_c4 : PCode := .seq pc24_c2 pc24_c3
def pc24_c5 : PCode := .seq pc24_c1 pc24_c4
def pc24_r : List PRes := [PRes.tmp 2 []]
def pc24 : PFunc := ⟨22, pc24_r, pc24_c5, false⟩
def pc24_a : Ann := {
  kr := fun
    | _ => none
  ka := fun
    | _ => 0
  kh := fun
    | _ => none
  gf := fun d f => match d, f with
    | some 19, 68 => some (false, false, [1, 300000, 300001, 300002, 300003, 300004, 300005, 300006, 300007])
    | _, _ => none
  ow := fun t => match t with
    | 96 => [(1, 5, 1)]
    | _ => []
  tc := fun t => match t with
    | 96 => true
    | _ => false }
theorem pc24_ok : compFn Try.prog pc24_a Try.f24 = some pc24 := by kernel_rfl


-- 65: vedette/num.Put
def pc65_o1 : List POper := [⟨some 2, .mv (.const (.string { data := { toList := [] } })), none, []⟩]
def pc65_c1 : PCode := .region none false pc65_o1
def pc65_o2 : List POper := [⟨some 3, .mv (.const (.slice none 0 0)), none, []⟩]
def pc65_c2 : PCode := .region none false pc65_o2
def pc65_o3 : List POper := [⟨some 4, .mv (.tmp 0), none, []⟩,
  ⟨some 5, .prim (.bin .geq 89 false true) [.tmp 4, .const (.int .u64 128)], none, []⟩]
def pc65_c3 : PCode := .region (some ([0, 3], [100003], [(false, 3, 0, 100003, 5, 1)])) false pc65_o3
def pc65_c4 : PCode := .skip
def pc65_c5 : PCode := .exit 0
def pc65_c6 : PCode := .cond (.tmp 5) pc65_c4 pc65_c5
def pc65_c7 : PCode := .seq pc65_c3 pc65_c6
def pc65_o8 : List POper := [⟨some 6, .mv (.tmp 3), none, []⟩,
  ⟨some 7, .mv (.tmp 0), none, []⟩,
  ⟨some 8, .prim (.conv 89 5) [.tmp 7], none, []⟩,
  ⟨some 9, .prim (.bin .or 5 false true) [.tmp 8, .const (.int .u8 128)], none, []⟩,
  ⟨some 10, .bslice 5 1 [.tmp 9], none, []⟩,
  ⟨some 11, .app 100003 5 1 1 (.tmp 6) (.tmp 10), none, []⟩,
  ⟨some 3, .mv (.tmp 11), none, []⟩]
def pc65_c8 : PCode := .region none false pc65_o8
def pc65_o9 : List POper := [⟨some 12, .mv (.tmp 0), none, []⟩,
  ⟨some 13, .prim (.bin .shr 89 false true) [.tmp 12, .const (.int .u64 7)], none, []⟩,
  ⟨some 0, .mv (.tmp 13), none, []⟩]
def pc65_c9 : PCode := .region none false pc65_o9
def pc65_c10 : PCode := .seq pc65_c8 pc65_c9
def pc65_c11 : PCode := .block 1 pc65_c10
def pc65_c12 : PCode := .seq pc65_c7 pc65_c11
def pc65_c13 : PCode := .loop pc65_c12
def pc65_c14 : PCode := .block 0 pc65_c13
def pc65_o15 : List POper := [⟨some 14, .mv (.tmp 3), none, []⟩,
  ⟨some 15, .mv (.tmp 0), none, []⟩,
  ⟨some 16, .prim (.conv 89 5) [.tmp 15], none, []⟩,
  ⟨some 17, .bslice 5 1 [.tmp 16], none, []⟩,
  ⟨some 18, .app 100003 5 1 1 (.tmp 14) (.tmp 17), none, []⟩,
  ⟨some 19, .b2s (.tmp 18), none, []⟩,
  ⟨some 2, .mv (.tmp 19), none, []⟩]
def pc65_c15 : PCode := .region none false pc65_o15
def pc65_c16 : PCode := .ret
def pc65_c17 : PCode := .seq pc65_c15 pc65_c16
def pc65_c18 : PCode := .seq pc65_c14 pc65_c17
def pc65_c19 : PCode := .seq pc65_c2 pc65_c18
def pc65_c20 : PCode := .seq pc65_c1 pc65_c19
def pc65_r : List PRes := [PRes.tmp 2 []]
def pc65 : PFunc := ⟨20, pc65_r, pc65_c20, false⟩
def pc65_a : Ann := {
  kr := fun
    | 2 => some ([0, 3], [100003], [(false, 3, 0, 100003, 5, 1)])
    | _ => none
  ka := fun
    | 11 => 100003
    | 18 => 100003
    | _ => 0
  kh := fun
    | _ => none
  ow := fun t => match t with
    | 96 => [(1, 5, 1)]
    | _ => []
  tc := fun t => match t with
    | 96 => true
    | _ => false }
theorem pc65_ok : compFn Try.prog pc65_a Try.f65 = some pc65 := by kernel_rfl


-- 99: vedette/fields.has
def pc99_o1 : List POper := [⟨some 4, .mv (.const (.bool false)), none, []⟩]
def pc99_c1 : PCode := .region none false pc99_o1
def pc99_o2 : List POper := [⟨some 5, .mv (.tmp 0), none, []⟩,
  ⟨some 6, .mv (.tmp 1), none, []⟩,
  ⟨some 7, .prim (.bin .add 3 false true) [.tmp 6, .const (.int .i64 1)], none, []⟩,
  ⟨some 8, .prim (.bin .shr 5 false false) [.tmp 5, .tmp 7], none, []⟩,
  ⟨some 9, .prim (.bin .and 5 false true) [.tmp 8, .const (.int .u8 1)], none, []⟩,
  ⟨some 10, .prim (.bin .eql 5 false true) [.tmp 9, .const (.int .u8 1)], none, []⟩,
  ⟨some 4, .mv (.tmp 10), none, []⟩]
def pc99_c2 : PCode := .region none false pc99_o2
def pc99_c3 : PCode := .ret
def pc99_c4 : PCode := .seq pc99_c2 pc99_c3
def pc99_c5 : PCode := .seq pc99_c1 pc99_c4
def pc99_r : List PRes := [PRes.tmp 4 []]
def pc99 : PFunc := ⟨11, pc99_r, pc99_c5, false⟩
def pc99_a : Ann := {
  kr := fun
    | _ => none
  ka := fun
    | _ => 0
  kh := fun
    | _ => none
  ow := fun t => match t with
    | 96 => [(1, 5, 1)]
    | _ => []
  tc := fun t => match t with
    | 96 => true
    | _ => false }
theorem pc99_ok : compFn Try.prog pc99_a Try.f99 = some pc99 := by kernel_rfl


-- 77: vedette/fields.IsDelta
def pc77_o1 : List POper := [⟨some 1, .box 35 (.tmp 0) [], none, []⟩,
  ⟨some 2, .mv (.const (.bool false)), none, []⟩]
def pc77_c1 : PCode := .region none false pc77_o1
def pc77_o2 : List POper := [⟨some 5, .faddr 0 (.tmp 1), none, []⟩,
  ⟨some 6, .load false 1 (.tmp 5), none, []⟩,
  ⟨some 7, .prim (.bin .lss 3 false true) [.tmp 6, .const (.int .i64 0)], none, []⟩,
  ⟨some 8, .mv (.tmp 7), none, []⟩,
  ⟨some 9, .faddr 0 (.tmp 1), some (8, false), []⟩,
  ⟨some 10, .load false 1 (.tmp 9), some (8, false), []⟩,
  ⟨some 11, .prim (.bin .gtr 3 false true) [.tmp 10, .const (.int .i64 1000000)], some (8, false), []⟩,
  ⟨some 12, .pick (.tmp 8) (.const (.bool true)) (.tmp 11), none, []⟩,
  ⟨some 13, .mv (.tmp 12), none, []⟩,
  ⟨some 14, .faddr 1 (.tmp 1), some (13, false), []⟩,
  ⟨some 15, .load false 1 (.tmp 14), some (13, false), []⟩,
  ⟨some 16, .prim (.bin .eql 5 false true) [.tmp 15, .const (.int .u8 0)], some (13, false), []⟩,
  ⟨some 17, .pick (.tmp 13) (.const (.bool true)) (.tmp 16), none, []⟩,
  ⟨some 18, .mv (.tmp 17), none, []⟩,
  ⟨some 19, .faddr 1 (.tmp 1), some (18, false), []⟩,
  ⟨some 20, .load false 1 (.tmp 19), some (18, false), []⟩,
  ⟨some 21, .prim (.bin .gtr 5 false true) [.tmp 20, .const (.int .u8 31)], some (18, false), []⟩,
  ⟨some 22, .pick (.tmp 18) (.const (.bool true)) (.tmp 21), none, []⟩]
def pc77_c2 : PCode := .region none false pc77_o2
def pc77_o3 : List POper := [⟨some 2, .mv (.const (.bool false)), none, []⟩]
def pc77_c3 : PCode := .region none false pc77_o3
def pc77_c4 : PCode := .ret
def pc77_c5 : PCode := .seq pc77_c3 pc77_c4
def pc77_c6 : PCode := .skip
def pc77_c7 : PCode := .cond (.tmp 22) pc77_c5 pc77_c6
def pc77_c8 : PCode := .seq pc77_c2 pc77_c7
def pc77_o9 : List POper := [⟨some 23, .faddr 1 (.tmp 1), none, []⟩,
  ⟨some 24, .load false 1 (.tmp 23), none, []⟩,
  ⟨some 25, .prim (.bin .and 5 false true) [.tmp 24, .const (.int .u8 1)], none, []⟩,
  ⟨some 26, .prim (.bin .eql 5 false true) [.tmp 25, .const (.int .u8 0)], none, []⟩,
  ⟨some 27, .mv (.tmp 26), none, []⟩,
  ⟨some 28, .faddr 2 (.tmp 1), some (27, true), []⟩,
  ⟨some 29, .load true 2 (.tmp 28), some (27, true), []⟩,
  ⟨some 30, .build (.agg { toList := [.int .i64 0, .int .i64 0] }) [], some (27, true), []⟩,
  ⟨some 31, .prim (.bin .neq 23 false false) [.tmp 29, .tmp 30], some (27, true), []⟩,
  ⟨some 32, .pick (.tmp 27) (.tmp 31) (.const (.bool false)), none, []⟩,
  ⟨some 33, .mv (.tmp 32), none, []⟩,
  ⟨some 34, .faddr 2 (.tmp 1), some (33, false), []⟩,
  ⟨some 35, .load true 2 (.tmp 34), some (33, false), []⟩,
  ⟨some 36, .call true [[]] 67 [.tmp 35], some (33, false), []⟩,
  ⟨some 37, .prim (.un .not) [.tmp 36], some (33, false), []⟩,
  ⟨some 38, .pick (.tmp 33) (.const (.bool true)) (.tmp 37), none, []⟩]
def pc77_c9 : PCode := .region none false pc77_o9
def pc77_o10 : List POper := [⟨some 2, .mv (.const (.bool false)), none, []⟩]
def pc77_c10 : PCode := .region none false pc77_o10
def pc77_c11 : PCode := .ret
def pc77_c12 : PCode := .seq pc77_c10 pc77_c11
def pc77_c13 : PCode := .skip
def pc77_c14 : PCode := .cond (.tmp 38) pc77_c12 pc77_c13
def pc77_c15 : PCode := .seq pc77_c9 pc77_c14
def pc77_o16 : List POper := [⟨some 39, .faddr 4 (.tmp 1), none, []⟩,
  ⟨some 40, .load true 8 (.tmp 39), none, []⟩,
  ⟨some 41, .mv (.const (.int .i64 0)), none, []⟩]
def pc77_c16 : PCode := .region (some ([1], [1], [])) false pc77_o16
def pc77_o17 : List POper := [⟨some 42, .prim (.bin .lss 3 false true) [.tmp 41, .const (.int .i64 4)], none, []⟩]
def pc77_c17 : PCode := .region (some ([1, 40, 41], [1, 4], [])) false pc77_o17
def pc77_c18 : PCode := .skip
def pc77_c19 : PCode := .exit 0
def pc77_c20 : PCode := .cond (.tmp 42) pc77_c18 pc77_c19
def pc77_o21 : List POper := [⟨some 43, .mv (.tmp 41), none, []⟩,
  ⟨some 44, .idx true 2 4 (.tmp 40) (.tmp 41), none, []⟩,
  ⟨some 4, .alloc 25 (.agg { toList := [.int .i64 0, .string { data := { toList := [] } }] }) [], none, []⟩,
  ⟨some 3, .mv (.tmp 43), none, []⟩,
  ⟨none, .store 2 (.tmp 4) (.tmp 44), none, []⟩]
def pc77_c21 : PCode := .region none false pc77_o21
def pc77_o22 : List POper := [⟨some 45, .load true 2 (.tmp 4), none, []⟩,
  ⟨some 46, .call true [[]] 70 [.tmp 45], none, []⟩,
  ⟨some 47, .prim (.un .not) [.tmp 46], none, []⟩,
  ⟨some 48, .mv (.tmp 47), none, []⟩,
  ⟨some 49, .faddr 1 (.tmp 1), some (48, false), []⟩,
  ⟨some 50, .load false 1 (.tmp 49), some (48, false), []⟩,
  ⟨some 51, .mv (.tmp 3), some (48, false), []⟩,
  ⟨some 52, .call true [[], []] 99 [.tmp 50, .tmp 51], some (48, false), []⟩,
  ⟨some 53, .prim (.un .not) [.tmp 52], some (48, false), []⟩,
  ⟨some 54, .mv (.tmp 53), some (48, false), []⟩,
  ⟨some 55, .load true 2 (.tmp 4), some (54, true), []⟩,
  ⟨some 56, .build (.agg { toList := [.int .i64 0, .string { data := { toList := [] } }] }) [], some (54, true), []⟩,
  ⟨some 57, .prim (.bin .neq 25 false false) [.tmp 55, .tmp 56], some (54, true), []⟩,
  ⟨some 58, .pick (.tmp 54) (.tmp 57) (.const (.bool false)), some (48, false), []⟩,
  ⟨some 59, .pick (.tmp 48) (.const (.bool true)) (.tmp 58), none, []⟩]
def pc77_c22 : PCode := .region none false pc77_o22
def pc77_o23 : List POper := [⟨some 2, .mv (.const (.bool false)), none, []⟩]
def pc77_c23 : PCode := .region none false pc77_o23
def pc77_c24 : PCode := .ret
def pc77_c25 : PCode := .seq pc77_c23 pc77_c24
def pc77_c26 : PCode := .skip
def pc77_c27 : PCode := .cond (.tmp 59) pc77_c25 pc77_c26
def pc77_c28 : PCode := .seq pc77_c22 pc77_c27
def pc77_c29 : PCode := .seq pc77_c21 pc77_c28
def pc77_c30 : PCode := .block 1 pc77_c29
def pc77_o31 : List POper := [⟨some 60, .prim (.bin .add 3 false true) [.tmp 41, .const (.int .i64 1)], none, []⟩,
  ⟨some 41, .mv (.tmp 60), none, []⟩]
def pc77_c31 : PCode := .region none false pc77_o31
def pc77_c32 : PCode := .seq pc77_c30 pc77_c31
def pc77_c33 : PCode := .seq pc77_c20 pc77_c32
def pc77_c34 : PCode := .seq pc77_c17 pc77_c33
def pc77_c35 : PCode := .loop pc77_c34
def pc77_c36 : PCode := .block 0 pc77_c35
def pc77_c37 : PCode := .seq pc77_c16 pc77_c36
def pc77_o38 : List POper := [⟨some 2, .mv (.const (.bool true)), none, []⟩]
def pc77_c38 : PCode := .region none false pc77_o38
def pc77_c39 : PCode := .ret
def pc77_c40 : PCode := .seq pc77_c38 pc77_c39
def pc77_c41 : PCode := .seq pc77_c37 pc77_c40
def pc77_c42 : PCode := .seq pc77_c15 pc77_c41
def pc77_c43 : PCode := .seq pc77_c8 pc77_c42
def pc77_c44 : PCode := .seq pc77_c1 pc77_c43
def pc77_r : List PRes := [PRes.tmp 2 []]
def pc77 : PFunc := ⟨61, pc77_r, pc77_c44, false⟩
def pc77_a : Ann := {
  kr := fun
    | 5 => some ([1], [1], [])
    | 6 => some ([1, 40, 41], [1, 4], [])
    | _ => none
  ka := fun
    | _ => 0
  kh := fun
    | _ => none
  ow := fun t => match t with
    | 96 => [(1, 5, 1)]
    | _ => []
  tc := fun t => match t with
    | 96 => true
    | _ => false }
theorem pc77_ok : compFn Try.prog pc77_a Try.f77 = some pc77 := by kernel_rfl


-- 100: vedette/num.Text
def pc100_o1 : List POper := [⟨some 2, .mv (.const (.string { data := { toList := [] } })), none, []⟩]
def pc100_c1 : PCode := .region none false pc100_o1
def pc100_o2 : List POper := [⟨some 3, .mv (.tmp 0), none, []⟩,
  ⟨some 4, .prim (.len 9) [.tmp 3], none, []⟩,
  ⟨some 5, .prim (.conv 3 89) [.tmp 4], none, []⟩,
  ⟨some 6, .call true [[]] 65 [.tmp 5], none, []⟩,
  ⟨some 7, .mv (.tmp 0), none, []⟩,
  ⟨some 8, .prim (.bin .add 9 false false) [.tmp 6, .tmp 7], none, []⟩,
  ⟨some 2, .mv (.tmp 8), none, []⟩]
def pc100_c2 : PCode := .region none false pc100_o2
def pc100_c3 : PCode := .ret
def pc100_c4 : PCode := .seq pc100_c2 pc100_c3
def pc100_c5 : PCode := .seq pc100_c1 pc100_c4
def pc100_r : List PRes := [PRes.tmp 2 []]
def pc100 : PFunc := ⟨9, pc100_r, pc100_c5, false⟩
def pc100_a : Ann := {
  kr := fun
    | _ => none
  ka := fun
    | _ => 0
  kh := fun
    | _ => none
  ow := fun t => match t with
    | 96 => [(1, 5, 1)]
    | _ => []
  tc := fun t => match t with
    | 96 => true
    | _ => false }
theorem pc100_ok : compFn Try.prog pc100_a Try.f100 = some pc100 := by kernel_rfl


-- 114: vedette/num.Zig
def pc114_o1 : List POper := [⟨some 2, .mv (.const (.int .u64 0)), none, []⟩]
def pc114_c1 : PCode := .region none false pc114_o1
def pc114_o2 : List POper := [⟨some 3, .mv (.tmp 0), none, []⟩,
  ⟨some 4, .prim (.conv 2 89) [.tmp 3], none, []⟩,
  ⟨some 5, .prim (.bin .shl 89 false true) [.tmp 4, .const (.int .u64 1)], none, []⟩,
  ⟨some 6, .mv (.tmp 0), none, []⟩,
  ⟨some 7, .prim (.bin .shr 2 false true) [.tmp 6, .const (.int .u64 63)], none, []⟩,
  ⟨some 8, .prim (.conv 2 89) [.tmp 7], none, []⟩,
  ⟨some 9, .prim (.bin .xor 89 false false) [.tmp 5, .tmp 8], none, []⟩,
  ⟨some 2, .mv (.tmp 9), none, []⟩]
def pc114_c2 : PCode := .region none false pc114_o2
def pc114_c3 : PCode := .ret
def pc114_c4 : PCode := .seq pc114_c2 pc114_c3
def pc114_c5 : PCode := .seq pc114_c1 pc114_c4
def pc114_r : List PRes := [PRes.tmp 2 []]
def pc114 : PFunc := ⟨10, pc114_r, pc114_c5, false⟩
def pc114_a : Ann := {
  kr := fun
    | _ => none
  ka := fun
    | _ => 0
  kh := fun
    | _ => none
  ow := fun t => match t with
    | 96 => [(1, 5, 1)]
    | _ => []
  tc := fun t => match t with
    | 96 => true
    | _ => false }
theorem pc114_ok : compFn Try.prog pc114_a Try.f114 = some pc114 := by kernel_rfl


-- 101: vedette/num.Int
def pc101_o1 : List POper := [⟨some 2, .mv (.const (.string { data := { toList := [] } })), none, []⟩]
def pc101_c1 : PCode := .region none false pc101_o1
def pc101_o2 : List POper := [⟨some 3, .mv (.tmp 0), none, []⟩,
  ⟨some 4, .call true [[]] 114 [.tmp 3], none, []⟩,
  ⟨some 5, .call true [[]] 65 [.tmp 4], none, []⟩,
  ⟨some 2, .mv (.tmp 5), none, []⟩]
def pc101_c2 : PCode := .region none false pc101_o2
def pc101_c3 : PCode := .ret
def pc101_c4 : PCode := .seq pc101_c2 pc101_c3
def pc101_c5 : PCode := .seq pc101_c1 pc101_c4
def pc101_r : List PRes := [PRes.tmp 2 []]
def pc101 : PFunc := ⟨6, pc101_r, pc101_c5, false⟩
def pc101_a : Ann := {
  kr := fun
    | _ => none
  ka := fun
    | _ => 0
  kh := fun
    | _ => none
  ow := fun t => match t with
    | 96 => [(1, 5, 1)]
    | _ => []
  tc := fun t => match t with
    | 96 => true
    | _ => false }
theorem pc101_ok : compFn Try.prog pc101_a Try.f101 = some pc101 := by kernel_rfl


-- 63: vedette/fields.Bytes
def pc63_o1 : List POper := [⟨some 1, .box 35 (.tmp 0) [], none, []⟩,
  ⟨some 2, .mv (.const (.string { data := { toList := [] } })), none, []⟩,
  ⟨some 3, .mv (.const (.int .i64 0)), none, []⟩]
def pc63_c1 : PCode := .region none false pc63_o1
def pc63_o2 : List POper := [⟨some 7, .load true 12 (.tmp 1), none, []⟩,
  ⟨some 8, .call true [[]] 77 [.tmp 7], none, []⟩,
  ⟨some 9, .prim (.un .not) [.tmp 8], none, []⟩]
def pc63_c2 : PCode := .region none false pc63_o2
def pc63_o3 : List POper := [⟨some 2, .mv (.const (.string { data := { toList := [] } })), none, []⟩,
  ⟨some 3, .mv (.const (.int .i64 11)), none, []⟩]
def pc63_c3 : PCode := .region none false pc63_o3
def pc63_c4 : PCode := .ret
def pc63_c5 : PCode := .seq pc63_c3 pc63_c4
def pc63_c6 : PCode := .skip
def pc63_c7 : PCode := .cond (.tmp 9) pc63_c5 pc63_c6
def pc63_c8 : PCode := .seq pc63_c2 pc63_c7
def pc63_o9 : List POper := [⟨some 10, .faddr 0 (.tmp 1), none, [(1, .at_ 1 0)]⟩,
  ⟨some 11, .load false 1 (.tmp 10), none, [(10, .at_ 1 0)]⟩,
  ⟨some 12, .prim (.conv 3 89) [.tmp 11], none, [(11, .imm)]⟩,
  ⟨some 13, .call false [[]] 65 [.tmp 12], none, [(12, .imm)]⟩,
  ⟨some 14, .faddr 1 (.tmp 1), none, [(1, .at_ 1 0)]⟩,
  ⟨some 15, .load false 1 (.tmp 14), none, [(14, .at_ 1 1)]⟩,
  ⟨some 16, .prim (.conv 5 89) [.tmp 15], none, [(15, .imm)]⟩,
  ⟨some 17, .call false [[]] 65 [.tmp 16], none, [(16, .imm)]⟩,
  ⟨some 18, .prim (.bin .add 9 false false) [.tmp 13, .tmp 17], none, [(13, .imm), (17, .imm)]⟩,
  ⟨some 4, .mv (.tmp 18), none, [(18, .imm)]⟩]
def pc63_c9 : PCode := .region none true pc63_o9
def pc63_o10 : List POper := [⟨some 19, .faddr 1 (.tmp 1), none, []⟩,
  ⟨some 20, .load false 1 (.tmp 19), none, []⟩,
  ⟨some 21, .prim (.bin .and 5 false true) [.tmp 20, .const (.int .u8 1)], none, []⟩,
  ⟨some 22, .prim (.bin .neq 5 false true) [.tmp 21, .const (.int .u8 0)], none, []⟩]
def pc63_c10 : PCode := .region none false pc63_o10
def pc63_o11 : List POper := [⟨some 23, .mv (.tmp 4), none, [(4, .imm)]⟩,
  ⟨some 24, .faddr 2 (.tmp 1), none, [(1, .at_ 1 0)]⟩,
  ⟨some 25, .faddr 0 (.tmp 24), none, [(24, .at_ 1 2)]⟩,
  ⟨some 26, .load false 1 (.tmp 25), none, [(25, .at_ 1 2)]⟩,
  ⟨some 27, .prim (.conv 3 89) [.tmp 26], none, [(26, .imm)]⟩,
  ⟨some 28, .call false [[]] 65 [.tmp 27], none, [(27, .imm)]⟩,
  ⟨some 29, .faddr 2 (.tmp 1), none, [(1, .at_ 1 0)]⟩,
  ⟨some 30, .faddr 1 (.tmp 29), none, [(29, .at_ 1 2)]⟩,
  ⟨some 31, .load false 1 (.tmp 30), none, [(30, .at_ 1 3)]⟩,
  ⟨some 32, .prim (.conv 3 89) [.tmp 31], none, [(31, .imm)]⟩,
  ⟨some 33, .call false [[]] 65 [.tmp 32], none, [(32, .imm)]⟩,
  ⟨some 34, .prim (.bin .add 9 false false) [.tmp 28, .tmp 33], none, [(28, .imm), (33, .imm)]⟩,
  ⟨some 35, .prim (.bin .add 9 false false) [.tmp 23, .tmp 34], none, [(23, .imm), (34, .imm)]⟩,
  ⟨some 4, .mv (.tmp 35), none, [(35, .imm)]⟩]
def pc63_c11 : PCode := .region none true pc63_o11
def pc63_c12 : PCode := .skip
def pc63_c13 : PCode := .cond (.tmp 22) pc63_c11 pc63_c12
def pc63_c14 : PCode := .seq pc63_c10 pc63_c13
def pc63_o15 : List POper := [⟨some 36, .faddr 4 (.tmp 1), none, []⟩,
  ⟨some 37, .load true 8 (.tmp 36), none, []⟩,
  ⟨some 38, .mv (.const (.int .i64 0)), none, []⟩]
def pc63_c15 : PCode := .region (some ([1, 4], [1], [])) false pc63_o15
def pc63_o16 : List POper := [⟨some 39, .prim (.bin .lss 3 false true) [.tmp 38, .const (.int .i64 4)], none, []⟩]
def pc63_c16 : PCode := .region (some ([1, 4, 37, 38], [1, 6], [])) false pc63_o16
def pc63_c17 : PCode := .skip
def pc63_c18 : PCode := .exit 0
def pc63_c19 : PCode := .cond (.tmp 39) pc63_c17 pc63_c18
def pc63_o20 : List POper := [⟨some 40, .mv (.tmp 38), none, []⟩,
  ⟨some 41, .idx true 2 4 (.tmp 37) (.tmp 38), none, []⟩,
  ⟨some 6, .alloc 25 (.agg { toList := [.int .i64 0, .string { data := { toList := [] } }] }) [], none, []⟩,
  ⟨some 5, .mv (.tmp 40), none, []⟩,
  ⟨none, .store 2 (.tmp 6) (.tmp 41), none, []⟩]
def pc63_c20 : PCode := .region none false pc63_o20
def pc63_o21 : List POper := [⟨some 42, .faddr 1 (.tmp 1), none, []⟩,
  ⟨some 43, .load false 1 (.tmp 42), none, []⟩,
  ⟨some 44, .mv (.tmp 5), none, []⟩,
  ⟨some 45, .call true [[], []] 99 [.tmp 43, .tmp 44], none, []⟩,
  ⟨some 46, .prim (.un .not) [.tmp 45], none, []⟩]
def pc63_c21 : PCode := .region none false pc63_o21
def pc63_c22 : PCode := .exit 1
def pc63_c23 : PCode := .skip
def pc63_c24 : PCode := .cond (.tmp 46) pc63_c22 pc63_c23
def pc63_c25 : PCode := .seq pc63_c21 pc63_c24
def pc63_o26 : List POper := [⟨some 47, .mv (.tmp 4), none, []⟩,
  ⟨some 48, .faddr 1 (.tmp 6), none, []⟩,
  ⟨some 49, .load false 1 (.tmp 48), none, []⟩,
  ⟨some 50, .call true [[]] 100 [.tmp 49], none, []⟩,
  ⟨some 51, .prim (.bin .add 9 false false) [.tmp 47, .tmp 50], none, []⟩,
  ⟨some 4, .mv (.tmp 51), none, []⟩]
def pc63_c26 : PCode := .region none false pc63_o26
def pc63_o27 : List POper := [⟨some 52, .faddr 1 (.tmp 6), none, []⟩,
  ⟨some 53, .load false 1 (.tmp 52), none, []⟩,
  ⟨some 54, .prim (.bin .eql 9 false true) [.tmp 53, .const (.string { data := { toList := [] } })], none, []⟩]
def pc63_c27 : PCode := .region none false pc63_o27
def pc63_o28 : List POper := [⟨some 55, .mv (.tmp 4), none, []⟩,
  ⟨some 56, .faddr 0 (.tmp 6), none, []⟩,
  ⟨some 57, .load false 1 (.tmp 56), none, []⟩,
  ⟨some 58, .call true [[]] 101 [.tmp 57], none, []⟩,
  ⟨some 59, .prim (.bin .add 9 false false) [.tmp 55, .tmp 58], none, []⟩,
  ⟨some 4, .mv (.tmp 59), none, []⟩]
def pc63_c28 : PCode := .region none false pc63_o28
def pc63_c29 : PCode := .skip
def pc63_c30 : PCode := .cond (.tmp 54) pc63_c28 pc63_c29
def pc63_c31 : PCode := .seq pc63_c27 pc63_c30
def pc63_c32 : PCode := .seq pc63_c26 pc63_c31
def pc63_c33 : PCode := .seq pc63_c25 pc63_c32
def pc63_c34 : PCode := .seq pc63_c20 pc63_c33
def pc63_c35 : PCode := .block 1 pc63_c34
def pc63_o36 : List POper := [⟨some 60, .prim (.bin .add 3 false true) [.tmp 38, .const (.int .i64 1)], none, []⟩,
  ⟨some 38, .mv (.tmp 60), none, []⟩]
def pc63_c36 : PCode := .region none false pc63_o36
def pc63_c37 : PCode := .seq pc63_c35 pc63_c36
def pc63_c38 : PCode := .seq pc63_c19 pc63_c37
def pc63_c39 : PCode := .seq pc63_c16 pc63_c38
def pc63_c40 : PCode := .loop pc63_c39
def pc63_c41 : PCode := .block 0 pc63_c40
def pc63_c42 : PCode := .seq pc63_c15 pc63_c41
def pc63_o43 : List POper := [⟨some 61, .mv (.tmp 4), none, []⟩,
  ⟨some 2, .mv (.tmp 61), none, []⟩,
  ⟨some 3, .mv (.const (.int .i64 0)), none, []⟩]
def pc63_c43 : PCode := .region none false pc63_o43
def pc63_c44 : PCode := .ret
def pc63_c45 : PCode := .seq pc63_c43 pc63_c44
def pc63_c46 : PCode := .seq pc63_c42 pc63_c45
def pc63_c47 : PCode := .seq pc63_c14 pc63_c46
def pc63_c48 : PCode := .seq pc63_c9 pc63_c47
def pc63_c49 : PCode := .seq pc63_c8 pc63_c48
def pc63_c50 : PCode := .seq pc63_c1 pc63_c49
def pc63_r : List PRes := [PRes.tmp 2 [], PRes.tmp 3 []]
def pc63 : PFunc := ⟨62, pc63_r, pc63_c50, false⟩
def pc63_a : Ann := {
  kr := fun
    | 6 => some ([1, 4], [1], [])
    | 7 => some ([1, 4, 37, 38], [1, 6], [])
    | _ => none
  ka := fun
    | _ => 0
  kh := fun
    | 1 => some (.at_ 1 0)
    | 4 => some (.imm)
    | 10 => some (.at_ 1 0)
    | 11 => some (.imm)
    | 12 => some (.imm)
    | 13 => some (.imm)
    | 14 => some (.at_ 1 1)
    | 15 => some (.imm)
    | 16 => some (.imm)
    | 17 => some (.imm)
    | 18 => some (.imm)
    | 23 => some (.imm)
    | 24 => some (.at_ 1 2)
    | 25 => some (.at_ 1 2)
    | 26 => some (.imm)
    | 27 => some (.imm)
    | 28 => some (.imm)
    | 29 => some (.at_ 1 2)
    | 30 => some (.at_ 1 3)
    | 31 => some (.imm)
    | 32 => some (.imm)
    | 33 => some (.imm)
    | 34 => some (.imm)
    | 35 => some (.imm)
    | _ => none
  ow := fun t => match t with
    | 96 => [(1, 5, 1)]
    | _ => []
  tc := fun t => match t with
    | 96 => true
    | _ => false }
theorem pc63_ok : compFn Try.prog pc63_a Try.f63 = some pc63 := by kernel_rfl


-- 21: vedette/thing.Bytes
def pc21_o1 : List POper := [⟨some 1, .box 28 (.tmp 0) [], none, []⟩,
  ⟨some 2, .mv (.const (.string { data := { toList := [] } })), none, []⟩,
  ⟨some 3, .mv (.const (.int .i64 0)), none, []⟩]
def pc21_c1 : PCode := .region none false pc21_o1
def pc21_o2 : List POper := [⟨some 4, .load true 11 (.tmp 1), none, []⟩,
  ⟨some 5, .call true [[]] 24 [.tmp 4], none, []⟩,
  ⟨some 6, .prim (.un .not) [.tmp 5], none, []⟩]
def pc21_c2 : PCode := .region none false pc21_o2
def pc21_o3 : List POper := [⟨some 2, .mv (.const (.string { data := { toList := [] } })), none, []⟩,
  ⟨some 3, .mv (.const (.int .i64 11)), none, []⟩]
def pc21_c3 : PCode := .region none false pc21_o3
def pc21_c4 : PCode := .ret
def pc21_c5 : PCode := .seq pc21_c3 pc21_c4
def pc21_c6 : PCode := .skip
def pc21_c7 : PCode := .cond (.tmp 6) pc21_c5 pc21_c6
def pc21_c8 : PCode := .seq pc21_c2 pc21_c7
def pc21_o9 : List POper := [⟨some 7, .faddr 0 (.tmp 1), none, []⟩,
  ⟨some 8, .load false 1 (.tmp 7), none, []⟩,
  ⟨some 9, .faddr 1 (.tmp 1), none, []⟩,
  ⟨some 10, .load true 2 (.tmp 9), none, []⟩,
  ⟨some 11, .faddr 3 (.tmp 1), none, []⟩,
  ⟨some 12, .load true 8 (.tmp 11), none, []⟩,
  ⟨some 13, .build (.agg { toList := [.int .i64 0, .int .u8 0, .int .i64 0, .int .i64 0, .int .i64 0, .string { data := { toList := [] } }, .int .i64 0, .string { data := { toList := [] } }, .int .i64 0, .string { data := { toList := [] } }, .int .i64 0, .string { data := { toList := [] } }] }) [(0, 1, .tmp 8), (1, 1, .const (.int .u8 31)), (2, 2, .tmp 10), (4, 8, .tmp 12)], none, []⟩,
  ⟨some 14, .call true [[]] 63 [.tmp 13], none, []⟩,
  ⟨some 15, .ext (.tmp 14) 0, none, []⟩,
  ⟨some 16, .ext (.tmp 14) 1, none, []⟩,
  ⟨some 2, .mv (.tmp 15), none, []⟩,
  ⟨some 3, .mv (.tmp 16), none, []⟩]
def pc21_c9 : PCode := .region none false pc21_o9
def pc21_c10 : PCode := .ret
def pc21_c11 : PCode := .seq pc21_c9 pc21_c10
def pc21_c12 : PCode := .seq pc21_c8 pc21_c11
def pc21_c13 : PCode := .seq pc21_c1 pc21_c12
def pc21_r : List PRes := [PRes.tmp 2 [], PRes.tmp 3 []]
def pc21 : PFunc := ⟨17, pc21_r, pc21_c13, false⟩
def pc21_a : Ann := {
  kr := fun
    | _ => none
  ka := fun
    | _ => 0
  kh := fun
    | _ => none
  ow := fun t => match t with
    | 96 => [(1, 5, 1)]
    | _ => []
  tc := fun t => match t with
    | 96 => true
    | _ => false }
theorem pc21_ok : compFn Try.prog pc21_a Try.f21 = some pc21 := by kernel_rfl


-- 22: vedette/thing.All
def pc22_o1 : List POper := [⟨some 2, .mv (.const (.string { data := { toList := [] } })), none, []⟩,
  ⟨some 3, .mv (.const (.int .i64 0)), none, []⟩]
def pc22_c1 : PCode := .region none false pc22_o1
def pc22_o2 : List POper := [⟨some 9, .mv (.tmp 0), none, []⟩,
  ⟨some 10, .lenS (.tmp 9), none, []⟩,
  ⟨some 11, .prim (.bin .gtr 3 false true) [.tmp 10, .const (.int .i64 200)], none, []⟩]
def pc22_c2 : PCode := .region none false pc22_o2
def pc22_o3 : List POper := [⟨some 2, .mv (.const (.string { data := { toList := [] } })), none, []⟩,
  ⟨some 3, .mv (.const (.int .i64 13)), none, []⟩]
def pc22_c3 : PCode := .region none false pc22_o3
def pc22_c4 : PCode := .ret
def pc22_c5 : PCode := .seq pc22_c3 pc22_c4
def pc22_c6 : PCode := .skip
def pc22_c7 : PCode := .cond (.tmp 11) pc22_c5 pc22_c6
def pc22_c8 : PCode := .seq pc22_c2 pc22_c7
def pc22_o9 : List POper := [⟨some 4, .allocT 96 (.agg { toList := [.pointer none, .slice none 0 0] }) [(1, 5, 1)], none, []⟩]
def pc22_c9 : PCode := .region none false pc22_o9
def pc22_o10 : List POper := [⟨some 12, .mv (.tmp 0), none, []⟩,
  ⟨some 13, .lenS (.tmp 12), none, []⟩,
  ⟨some 14, .prim (.conv 3 89) [.tmp 13], none, []⟩,
  ⟨some 15, .call true [[]] 65 [.tmp 14], none, []⟩,
  ⟨some 16, .gcall false false [4, 300000, 300001, 300002, 300003, 300004, 300005, 300006, 300007, 400032] [[(1, 1)], []] 64 [.tmp 4, .tmp 15], none, []⟩]
def pc22_c10 : PCode := .region none false pc22_o10
def pc22_o11 : List POper := [⟨some 17, .mv (.tmp 0), none, []⟩,
  ⟨some 18, .lenS (.tmp 17), none, []⟩,
  ⟨some 19, .mv (.const (.int .i64 0)), none, []⟩]
def pc22_c11 : PCode := .region none false pc22_o11
def pc22_o12 : List POper := [⟨some 20, .prim (.bin .lss 3 false false) [.tmp 19, .tmp 18], none, []⟩]
def pc22_c12 : PCode := .region (some ([0, 4, 17, 18, 19], [4, 6, 400032], [])) false pc22_o12
def pc22_c13 : PCode := .skip
def pc22_c14 : PCode := .exit 0
def pc22_c15 : PCode := .cond (.tmp 20) pc22_c13 pc22_c14
def pc22_o16 : List POper := [⟨some 21, .mv (.tmp 19), none, []⟩,
  ⟨some 22, .iaddrS 11 (.tmp 17) (.tmp 19), none, []⟩,
  ⟨some 23, .load true 11 (.tmp 22), none, []⟩,
  ⟨some 6, .alloc 28 (.agg { toList := [.int .i64 0, .int .i64 0, .int .i64 0, .int .i64 0, .string { data := { toList := [] } }, .int .i64 0, .string { data := { toList := [] } }, .int .i64 0, .string { data := { toList := [] } }, .int .i64 0, .string { data := { toList := [] } }] }) [], none, []⟩,
  ⟨some 5, .mv (.tmp 21), none, []⟩,
  ⟨none, .store 11 (.tmp 6) (.tmp 23), none, []⟩]
def pc22_c16 : PCode := .region none false pc22_o16
def pc22_o17 : List POper := [⟨some 25, .load true 11 (.tmp 6), none, []⟩,
  ⟨some 26, .call true [[]] 21 [.tmp 25], none, []⟩,
  ⟨some 24, .mv (.tmp 26), none, []⟩,
  ⟨some 27, .ext (.tmp 24) 0, none, []⟩,
  ⟨some 28, .ext (.tmp 24) 1, none, []⟩,
  ⟨some 7, .mv (.tmp 27), none, []⟩,
  ⟨some 8, .mv (.tmp 28), none, []⟩]
def pc22_c17 : PCode := .region none false pc22_o17
def pc22_o18 : List POper := [⟨some 29, .mv (.tmp 8), none, [(8, .imm)]⟩,
  ⟨some 30, .prim (.bin .neq 37 false true) [.tmp 29, .const (.int .i64 0)], none, [(29, .imm)]⟩,
  ⟨some 31, .mv (.tmp 30), none, [(30, .imm)]⟩,
  ⟨some 32, .mv (.tmp 5), some (31, false), [(5, .imm)]⟩,
  ⟨some 33, .prim (.bin .gtr 3 false true) [.tmp 32, .const (.int .i64 0)], some (31, false), [(32, .imm)]⟩,
  ⟨some 34, .mv (.tmp 33), some (31, false), [(33, .imm)]⟩,
  ⟨some 35, .faddr 0 (.tmp 6), some (34, true), [(6, .at_ 6 0)]⟩,
  ⟨some 36, .load false 1 (.tmp 35), some (34, true), [(35, .at_ 6 0)]⟩,
  ⟨some 37, .mv (.tmp 0), some (34, true), [(0, .imm)]⟩,
  ⟨some 38, .mv (.tmp 5), some (34, true), [(5, .imm)]⟩,
  ⟨some 39, .prim (.bin .sub 3 false true) [.tmp 38, .const (.int .i64 1)], some (34, true), [(38, .imm)]⟩,
  ⟨some 40, .iaddrS 11 (.tmp 37) (.tmp 39), some (34, true), [(37, .imm), (39, .imm)]⟩,
  ⟨some 41, .faddr 0 (.tmp 40), some (34, true), [(40, .imm)]⟩,
  ⟨some 42, .load false 1 (.tmp 41), some (34, true), [(41, .imm)]⟩,
  ⟨some 43, .prim (.bin .leq 3 false false) [.tmp 36, .tmp 42], some (34, true), [(36, .imm), (42, .imm)]⟩,
  ⟨some 44, .pick (.tmp 34) (.tmp 43) (.const (.bool false)), some (31, false), [(34, .imm), (43, .imm)]⟩,
  ⟨some 45, .pick (.tmp 31) (.const (.bool true)) (.tmp 44), none, [(31, .imm), (44, .imm)]⟩]
def pc22_c18 : PCode := .region none true pc22_o18
def pc22_o19 : List POper := [⟨some 2, .mv (.const (.string { data := { toList := [] } })), none, []⟩,
  ⟨some 3, .mv (.const (.int .i64 11)), none, []⟩]
def pc22_c19 : PCode := .region none false pc22_o19
def pc22_c20 : PCode := .ret
def pc22_c21 : PCode := .seq pc22_c19 pc22_c20
def pc22_c22 : PCode := .skip
def pc22_c23 : PCode := .cond (.tmp 45) pc22_c21 pc22_c22
def pc22_c24 : PCode := .seq pc22_c18 pc22_c23
def pc22_o25 : List POper := [⟨some 46, .mv (.tmp 7), none, []⟩,
  ⟨some 47, .gcall false false [4, 300000, 300001, 300002, 300003, 300004, 300005, 300006, 300007, 400032] [[(1, 1)], []] 64 [.tmp 4, .tmp 46], none, []⟩]
def pc22_c25 : PCode := .region none false pc22_o25
def pc22_c26 : PCode := .seq pc22_c24 pc22_c25
def pc22_c27 : PCode := .seq pc22_c17 pc22_c26
def pc22_c28 : PCode := .seq pc22_c16 pc22_c27
def pc22_c29 : PCode := .block 1 pc22_c28
def pc22_o30 : List POper := [⟨some 48, .prim (.bin .add 3 false true) [.tmp 19, .const (.int .i64 1)], none, []⟩,
  ⟨some 19, .mv (.tmp 48), none, []⟩]
def pc22_c30 : PCode := .region none false pc22_o30
def pc22_c31 : PCode := .seq pc22_c29 pc22_c30
def pc22_c32 : PCode := .seq pc22_c15 pc22_c31
def pc22_c33 : PCode := .seq pc22_c12 pc22_c32
def pc22_c34 : PCode := .loop pc22_c33
def pc22_c35 : PCode := .block 0 pc22_c34
def pc22_c36 : PCode := .seq pc22_c11 pc22_c35
def pc22_o37 : List POper := [⟨some 49, .gcall false false [4, 300000, 300001, 300002, 300003, 300004, 300005, 300006, 300007, 400032] [[(1, 1)]] 66 [.tmp 4], none, []⟩,
  ⟨some 2, .mv (.tmp 49), none, []⟩,
  ⟨some 3, .mv (.const (.int .i64 0)), none, []⟩]
def pc22_c37 : PCode := .region none false pc22_o37
def pc22_c38 : PCode := .ret
def pc22_c39 : PCode := .seq pc22_c37 pc22_c38
def pc22_c40 : PCode := .seq pc22_c36 pc22_c39
def pc22_c41 : PCode := .seq pc22_c10 pc22_c40
def pc22_c42 : PCode := .seq pc22_c9 pc22_c41
def pc22_c43 : PCode := .seq pc22_c8 pc22_c42
def pc22_c44 : PCode := .seq pc22_c1 pc22_c43
def pc22_r : List PRes := [PRes.tmp 2 [], PRes.tmp 3 []]
def pc22 : PFunc := ⟨50, pc22_r, pc22_c44, false⟩
def pc22_a : Ann := {
  kr := fun
    | 6 => some ([0, 4, 17, 18, 19], [4, 6, 400032], [])
    | _ => none
  ka := fun
    | _ => 0
  kh := fun
    | 0 => some (.imm)
    | 5 => some (.imm)
    | 6 => some (.at_ 6 0)
    | 8 => some (.imm)
    | 29 => some (.imm)
    | 30 => some (.imm)
    | 31 => some (.imm)
    | 32 => some (.imm)
    | 33 => some (.imm)
    | 34 => some (.imm)
    | 35 => some (.at_ 6 0)
    | 36 => some (.imm)
    | 37 => some (.imm)
    | 38 => some (.imm)
    | 39 => some (.imm)
    | 40 => some (.imm)
    | 41 => some (.imm)
    | 42 => some (.imm)
    | 43 => some (.imm)
    | 44 => some (.imm)
    | _ => none
  gf := fun d f => match d, f with
    | some 16, 64 => some (false, false, [4, 300000, 300001, 300002, 300003, 300004, 300005, 300006, 300007, 400032])
    | some 47, 64 => some (false, false, [4, 300000, 300001, 300002, 300003, 300004, 300005, 300006, 300007, 400032])
    | some 49, 66 => some (false, false, [4, 300000, 300001, 300002, 300003, 300004, 300005, 300006, 300007, 400032])
    | _, _ => none
  ow := fun t => match t with
    | 96 => [(1, 5, 1)]
    | _ => []
  tc := fun t => match t with
    | 96 => true
    | _ => false }
theorem pc22_ok : compFn Try.prog pc22_a Try.f22 = some pc22 := by kernel_rfl


-- 25: vedette/thing.Same
def pc25_o1 : List POper := [⟨some 2, .box 28 (.tmp 0) [], none, []⟩,
  ⟨some 3, .box 28 (.tmp 1) [], none, []⟩,
  ⟨some 4, .mv (.const (.bool false)), none, []⟩]
def pc25_c1 : PCode := .region none false pc25_o1
def pc25_o2 : List POper := [⟨some 5, .load true 11 (.tmp 2), none, []⟩,
  ⟨some 6, .load true 11 (.tmp 3), none, []⟩,
  ⟨some 7, .prim (.bin .eql 28 false false) [.tmp 5, .tmp 6], none, []⟩,
  ⟨some 4, .mv (.tmp 7), none, []⟩]
def pc25_c2 : PCode := .region none false pc25_o2
def pc25_c3 : PCode := .ret
def pc25_c4 : PCode := .seq pc25_c2 pc25_c3
def pc25_c5 : PCode := .seq pc25_c1 pc25_c4
def pc25_r : List PRes := [PRes.tmp 4 []]
def pc25 : PFunc := ⟨8, pc25_r, pc25_c5, false⟩
def pc25_a : Ann := {
  kr := fun
    | _ => none
  ka := fun
    | _ => 0
  kh := fun
    | _ => none
  ow := fun t => match t with
    | 96 => [(1, 5, 1)]
    | _ => []
  tc := fun t => match t with
    | 96 => true
    | _ => false }
theorem pc25_ok : compFn Try.prog pc25_a Try.f25 = some pc25 := by kernel_rfl


-- 26: vedette/thing.Server
def pc26_o1 : List POper := [⟨some 2, .mv (.const (.int .i64 0)), none, []⟩]
def pc26_c1 : PCode := .region none false pc26_o1
def pc26_o2 : List POper := [⟨some 3, .mv (.tmp 0), none, []⟩,
  ⟨some 4, .prim .max [.tmp 3, .const (.int .i64 0)], none, []⟩,
  ⟨some 5, .prim (.bin .rem 3 false true) [.tmp 4, .const (.int .i64 4)], none, []⟩,
  ⟨some 2, .mv (.tmp 5), none, []⟩]
def pc26_c2 : PCode := .region none false pc26_o2
def pc26_c3 : PCode := .ret
def pc26_c4 : PCode := .seq pc26_c2 pc26_c3
def pc26_c5 : PCode := .seq pc26_c1 pc26_c4
def pc26_r : List PRes := [PRes.tmp 2 []]
def pc26 : PFunc := ⟨6, pc26_r, pc26_c5, false⟩
def pc26_a : Ann := {
  kr := fun
    | _ => none
  ka := fun
    | _ => 0
  kh := fun
    | _ => none
  ow := fun t => match t with
    | 96 => [(1, 5, 1)]
    | _ => []
  tc := fun t => match t with
    | 96 => true
    | _ => false }
theorem pc26_ok : compFn Try.prog pc26_a Try.f26 = some pc26 := by kernel_rfl


-- 28: vedette/thing.Number
def pc28_o1 : List POper := [⟨some 4, .mv (.const (.int .i64 0)), none, []⟩]
def pc28_c1 : PCode := .region none false pc28_o1
def pc28_o2 : List POper := [⟨some 5, .mv (.tmp 1), none, []⟩,
  ⟨some 6, .prim .max [.tmp 5, .const (.int .i64 0)], none, []⟩,
  ⟨some 7, .prim .min [.tmp 6, .const (.int .i64 200000)], none, []⟩,
  ⟨some 8, .prim (.bin .mul 3 true false) [.const (.int .i64 4), .tmp 7], none, []⟩,
  ⟨some 9, .mv (.tmp 0), none, []⟩,
  ⟨some 10, .prim .max [.tmp 9, .const (.int .i64 0)], none, []⟩,
  ⟨some 11, .prim .min [.tmp 10, .const (.int .i64 3)], none, []⟩,
  ⟨some 12, .prim (.bin .add 3 false false) [.tmp 8, .tmp 11], none, []⟩,
  ⟨some 4, .mv (.tmp 12), none, []⟩]
def pc28_c2 : PCode := .region none false pc28_o2
def pc28_c3 : PCode := .ret
def pc28_c4 : PCode := .seq pc28_c2 pc28_c3
def pc28_c5 : PCode := .seq pc28_c1 pc28_c4
def pc28_r : List PRes := [PRes.tmp 4 []]
def pc28 : PFunc := ⟨13, pc28_r, pc28_c5, false⟩
def pc28_a : Ann := {
  kr := fun
    | _ => none
  ka := fun
    | _ => 0
  kh := fun
    | _ => none
  ow := fun t => match t with
    | 96 => [(1, 5, 1)]
    | _ => []
  tc := fun t => match t with
    | 96 => true
    | _ => false }
theorem pc28_ok : compFn Try.prog pc28_a Try.f28 = some pc28 := by kernel_rfl


-- 73: vedette/num.Get
def pc73_o1 : List POper := [⟨some 2, .mv (.const (.int .u64 0)), none, []⟩,
  ⟨some 3, .mv (.const (.int .i64 0)), none, []⟩,
  ⟨some 4, .mv (.const (.int .i64 0)), none, []⟩]
def pc73_c1 : PCode := .region none false pc73_o1
def pc73_o2 : List POper := [⟨some 5, .mv (.const (.int .u64 0)), none, []⟩,
  ⟨some 6, .mv (.const (.int .i64 0)), none, []⟩]
def pc73_c2 : PCode := .region none false pc73_o2
def pc73_c3 : PCode := .label
def pc73_o4 : List POper := [⟨some 9, .mv (.tmp 0), none, []⟩,
  ⟨some 10, .s2b 5 (.tmp 9), none, []⟩,
  ⟨some 11, .lenS (.tmp 10), none, []⟩,
  ⟨some 12, .mv (.const (.int .i64 0)), none, []⟩]
def pc73_c4 : PCode := .region none false pc73_o4
def pc73_o5 : List POper := [⟨some 13, .prim (.bin .lss 3 false false) [.tmp 12, .tmp 11], none, []⟩]
def pc73_c5 : PCode := .region (some ([5, 6, 10, 11, 12], [], [])) false pc73_o5
def pc73_c6 : PCode := .skip
def pc73_c7 : PCode := .exit 0
def pc73_c8 : PCode := .cond (.tmp 13) pc73_c6 pc73_c7
def pc73_o9 : List POper := [⟨some 14, .mv (.tmp 12), none, []⟩,
  ⟨some 15, .iaddrS 1 (.tmp 10) (.tmp 12), none, []⟩,
  ⟨some 16, .load false 1 (.tmp 15), none, []⟩,
  ⟨some 7, .mv (.tmp 14), none, []⟩,
  ⟨some 8, .mv (.tmp 16), none, []⟩]
def pc73_c9 : PCode := .region none false pc73_o9
def pc73_o10 : List POper := [⟨some 18, .mv (.tmp 7), none, []⟩,
  ⟨some 19, .prim (.bin .eql 3 false true) [.tmp 18, .const (.int .i64 9)], none, []⟩,
  ⟨some 20, .mv (.tmp 19), none, []⟩,
  ⟨some 21, .mv (.tmp 8), some (20, true), []⟩,
  ⟨some 22, .prim (.bin .gtr 5 false true) [.tmp 21, .const (.int .u8 1)], some (20, true), []⟩,
  ⟨some 23, .pick (.tmp 20) (.tmp 22) (.const (.bool false)), none, []⟩,
  ⟨some 17, .mv (.tmp 23), none, []⟩]
def pc73_c10 : PCode := .region none false pc73_o10
def pc73_c11 : PCode := .skip
def pc73_o12 : List POper := [⟨some 24, .mv (.tmp 7), none, []⟩,
  ⟨some 25, .prim (.bin .gtr 3 false true) [.tmp 24, .const (.int .i64 0)], none, []⟩,
  ⟨some 26, .mv (.tmp 25), none, []⟩,
  ⟨some 27, .mv (.tmp 8), some (26, true), []⟩,
  ⟨some 28, .prim (.bin .eql 5 false true) [.tmp 27, .const (.int .u8 0)], some (26, true), []⟩,
  ⟨some 29, .pick (.tmp 26) (.tmp 28) (.const (.bool false)), none, []⟩,
  ⟨some 17, .mv (.tmp 29), none, []⟩]
def pc73_c12 : PCode := .region (some ([5, 6, 7, 8, 10, 11, 12], [], [])) false pc73_o12
def pc73_c13 : PCode := .cond (.tmp 17) pc73_c11 pc73_c12
def pc73_c14 : PCode := .seq pc73_c10 pc73_c13
def pc73_o15 : List POper := [⟨some 2, .mv (.const (.int .u64 0)), none, []⟩,
  ⟨some 3, .mv (.const (.int .i64 0)), none, []⟩,
  ⟨some 4, .mv (.const (.int .i64 11)), none, []⟩]
def pc73_c15 : PCode := .region none false pc73_o15
def pc73_c16 : PCode := .ret
def pc73_c17 : PCode := .seq pc73_c15 pc73_c16
def pc73_o18 : List POper := [⟨some 31, .mv (.tmp 8), none, []⟩,
  ⟨some 32, .prim (.bin .lss 5 false true) [.tmp 31, .const (.int .u8 128)], none, []⟩,
  ⟨some 30, .mv (.tmp 32), none, []⟩]
def pc73_c18 : PCode := .region (some ([5, 6, 7, 8, 10, 11, 12], [], [])) false pc73_o18
def pc73_o19 : List POper := [⟨some 33, .mv (.tmp 5), none, []⟩,
  ⟨some 34, .mv (.tmp 8), none, []⟩,
  ⟨some 35, .prim (.conv 5 89) [.tmp 34], none, []⟩,
  ⟨some 36, .mv (.tmp 7), none, []⟩,
  ⟨some 37, .prim (.bin .mul 3 true false) [.const (.int .i64 7), .tmp 36], none, []⟩,
  ⟨some 38, .prim (.bin .shl 89 false false) [.tmp 35, .tmp 37], none, []⟩,
  ⟨some 39, .prim (.bin .or 89 false false) [.tmp 33, .tmp 38], none, []⟩,
  ⟨some 5, .mv (.tmp 39), none, []⟩]
def pc73_c19 : PCode := .region none false pc73_o19
def pc73_o20 : List POper := [⟨some 40, .mv (.tmp 7), none, []⟩,
  ⟨some 41, .prim (.bin .add 3 false true) [.tmp 40, .const (.int .i64 1)], none, []⟩,
  ⟨some 6, .mv (.tmp 41), none, []⟩]
def pc73_c20 : PCode := .region none false pc73_o20
def pc73_c21 : PCode := .exit 0
def pc73_c22 : PCode := .seq pc73_c20 pc73_c21
def pc73_c23 : PCode := .seq pc73_c19 pc73_c22
def pc73_c24 : PCode := .skip
def pc73_c25 : PCode := .cond (.tmp 30) pc73_c23 pc73_c24
def pc73_c26 : PCode := .seq pc73_c18 pc73_c25
def pc73_c27 : PCode := .cond (.tmp 17) pc73_c17 pc73_c26
def pc73_c28 : PCode := .seq pc73_c14 pc73_c27
def pc73_c29 : PCode := .block 2 pc73_c28
def pc73_o30 : List POper := [⟨some 42, .mv (.tmp 5), none, []⟩,
  ⟨some 43, .mv (.tmp 8), none, []⟩,
  ⟨some 44, .prim (.bin .andNot 5 false true) [.tmp 43, .const (.int .u8 128)], none, []⟩,
  ⟨some 45, .prim (.conv 5 89) [.tmp 44], none, []⟩,
  ⟨some 46, .mv (.tmp 7), none, []⟩,
  ⟨some 47, .prim (.bin .mul 3 true false) [.const (.int .i64 7), .tmp 46], none, []⟩,
  ⟨some 48, .prim (.bin .shl 89 false false) [.tmp 45, .tmp 47], none, []⟩,
  ⟨some 49, .prim (.bin .or 89 false false) [.tmp 42, .tmp 48], none, []⟩,
  ⟨some 5, .mv (.tmp 49), none, []⟩]
def pc73_c30 : PCode := .region none false pc73_o30
def pc73_c31 : PCode := .seq pc73_c29 pc73_c30
def pc73_c32 : PCode := .seq pc73_c9 pc73_c31
def pc73_c33 : PCode := .block 1 pc73_c32
def pc73_o34 : List POper := [⟨some 50, .prim (.bin .add 3 false true) [.tmp 12, .const (.int .i64 1)], none, []⟩,
  ⟨some 12, .mv (.tmp 50), none, []⟩]
def pc73_c34 : PCode := .region none false pc73_o34
def pc73_c35 : PCode := .seq pc73_c33 pc73_c34
def pc73_c36 : PCode := .seq pc73_c8 pc73_c35
def pc73_c37 : PCode := .seq pc73_c5 pc73_c36
def pc73_c38 : PCode := .loop pc73_c37
def pc73_c39 : PCode := .block 0 pc73_c38
def pc73_c40 : PCode := .seq pc73_c4 pc73_c39
def pc73_o41 : List POper := [⟨some 51, .mv (.tmp 6), none, []⟩,
  ⟨some 52, .prim (.bin .eql 3 false true) [.tmp 51, .const (.int .i64 0)], none, []⟩]
def pc73_c41 : PCode := .region (some ([5, 6], [], [])) false pc73_o41
def pc73_o42 : List POper := [⟨some 2, .mv (.const (.int .u64 0)), none, []⟩,
  ⟨some 3, .mv (.const (.int .i64 0)), none, []⟩,
  ⟨some 4, .mv (.const (.int .i64 10)), none, []⟩]
def pc73_c42 : PCode := .region none false pc73_o42
def pc73_c43 : PCode := .ret
def pc73_c44 : PCode := .seq pc73_c42 pc73_c43
def pc73_c45 : PCode := .skip
def pc73_c46 : PCode := .cond (.tmp 52) pc73_c44 pc73_c45
def pc73_c47 : PCode := .seq pc73_c41 pc73_c46
def pc73_o48 : List POper := [⟨some 53, .mv (.tmp 5), none, []⟩,
  ⟨some 54, .mv (.tmp 6), none, []⟩,
  ⟨some 2, .mv (.tmp 53), none, []⟩,
  ⟨some 3, .mv (.tmp 54), none, []⟩,
  ⟨some 4, .mv (.const (.int .i64 0)), none, []⟩]
def pc73_c48 : PCode := .region none false pc73_o48
def pc73_c49 : PCode := .ret
def pc73_c50 : PCode := .seq pc73_c48 pc73_c49
def pc73_c51 : PCode := .seq pc73_c47 pc73_c50
def pc73_c52 : PCode := .seq pc73_c40 pc73_c51
def pc73_c53 : PCode := .seq pc73_c3 pc73_c52
def pc73_c54 : PCode := .seq pc73_c2 pc73_c53
def pc73_c55 : PCode := .scope pc73_c54
def pc73_c56 : PCode := .seq pc73_c1 pc73_c55
def pc73_r : List PRes := [PRes.tmp 2 [], PRes.tmp 3 [], PRes.tmp 4 []]
def pc73 : PFunc := ⟨55, pc73_r, pc73_c56, false⟩
def pc73_a : Ann := {
  kr := fun
    | 3 => some ([5, 6, 10, 11, 12], [], [])
    | 6 => some ([5, 6, 7, 8, 10, 11, 12], [], [])
    | 8 => some ([5, 6, 7, 8, 10, 11, 12], [], [])
    | 13 => some ([5, 6], [], [])
    | _ => none
  ka := fun
    | _ => 0
  kh := fun
    | _ => none
  ow := fun t => match t with
    | 96 => [(1, 5, 1)]
    | _ => []
  tc := fun t => match t with
    | 96 => true
    | _ => false }
theorem pc73_ok : compFn Try.prog pc73_a Try.f73 = some pc73 := by kernel_rfl


-- 116: (*vedette/fields.reader).took
def pc116_o1 : List POper := [⟨some 6, .mv (.tmp 0), none, []⟩,
  ⟨some 7, .nilc (.tmp 6), none, []⟩,
  ⟨some 8, .faddr 1 (.tmp 7), none, []⟩,
  ⟨some 9, .load false 1 (.tmp 8), none, []⟩,
  ⟨some 10, .mv (.tmp 1), none, []⟩,
  ⟨some 11, .prim (.bin .add 3 false false) [.tmp 9, .tmp 10], none, []⟩,
  ⟨some 12, .nilc (.tmp 6), none, []⟩,
  ⟨some 13, .faddr 1 (.tmp 12), none, []⟩,
  ⟨none, .store 1 (.tmp 13) (.tmp 11), none, []⟩]
def pc116_c1 : PCode := .region none false pc116_o1
def pc116_o2 : List POper := [⟨some 14, .mv (.tmp 0), none, []⟩,
  ⟨some 15, .mv (.tmp 2), none, []⟩,
  ⟨some 16, .nilc (.tmp 14), none, []⟩,
  ⟨some 17, .faddr 2 (.tmp 16), none, []⟩,
  ⟨none, .store 1 (.tmp 17) (.tmp 15), none, []⟩]
def pc116_c2 : PCode := .region none false pc116_o2
def pc116_c3 : PCode := .seq pc116_c1 pc116_c2
def pc116_r : List PRes := []
def pc116 : PFunc := ⟨18, pc116_r, pc116_c3, false⟩
def pc116_a : Ann := {
  kr := fun
    | _ => none
  ka := fun
    | _ => 0
  kh := fun
    | _ => none
  ow := fun t => match t with
    | 96 => [(1, 5, 1)]
    | _ => []
  tc := fun t => match t with
    | 96 => true
    | _ => false }
theorem pc116_ok : compFn Try.prog pc116_a Try.f116 = some pc116 := by kernel_rfl


-- 104: (*vedette/fields.reader).number
def pc104_o1 : List POper := [⟨some 2, .mv (.const (.int .i64 0)), none, []⟩]
def pc104_c1 : PCode := .region none false pc104_o1
def pc104_o2 : List POper := [⟨some 6, .mv (.tmp 0), none, []⟩,
  ⟨some 7, .nilc (.tmp 6), none, []⟩,
  ⟨some 8, .faddr 2 (.tmp 7), none, []⟩,
  ⟨some 9, .load false 1 (.tmp 8), none, []⟩,
  ⟨some 10, .prim (.bin .neq 37 false true) [.tmp 9, .const (.int .i64 0)], none, []⟩]
def pc104_c2 : PCode := .region none false pc104_o2
def pc104_o3 : List POper := [⟨some 2, .mv (.const (.int .i64 0)), none, []⟩]
def pc104_c3 : PCode := .region none false pc104_o3
def pc104_c4 : PCode := .ret
def pc104_c5 : PCode := .seq pc104_c3 pc104_c4
def pc104_c6 : PCode := .skip
def pc104_c7 : PCode := .cond (.tmp 10) pc104_c5 pc104_c6
def pc104_c8 : PCode := .seq pc104_c2 pc104_c7
def pc104_o9 : List POper := [⟨some 12, .mv (.tmp 0), none, [(0, .at_ 1000000 0)]⟩,
  ⟨some 13, .nilc (.tmp 12), none, [(12, .at_ 1000000 0)]⟩,
  ⟨some 14, .faddr 0 (.tmp 13), none, [(13, .at_ 1000000 0)]⟩,
  ⟨some 15, .load false 1 (.tmp 14), none, [(14, .at_ 1000000 0)]⟩,
  ⟨some 16, .mv (.tmp 0), none, [(0, .at_ 1000000 0)]⟩,
  ⟨some 17, .nilc (.tmp 16), none, [(16, .at_ 1000000 0)]⟩,
  ⟨some 18, .faddr 1 (.tmp 17), none, [(17, .at_ 1000000 0)]⟩,
  ⟨some 19, .load false 1 (.tmp 18), none, [(18, .at_ 1000000 1)]⟩,
  ⟨some 20, .prim (.slice 9 true false) [.tmp 15, .tmp 19], none, [(15, .imm), (19, .imm)]⟩,
  ⟨some 21, .call false [[]] 73 [.tmp 20], none, [(20, .imm)]⟩,
  ⟨some 11, .mv (.tmp 21), none, []⟩,
  ⟨some 22, .ext (.tmp 11) 0, none, []⟩,
  ⟨some 23, .ext (.tmp 11) 1, none, []⟩,
  ⟨some 24, .ext (.tmp 11) 2, none, []⟩,
  ⟨some 3, .mv (.tmp 22), none, [(22, .imm)]⟩,
  ⟨some 4, .mv (.tmp 23), none, [(23, .imm)]⟩,
  ⟨some 5, .mv (.tmp 24), none, [(24, .imm)]⟩]
def pc104_c9 : PCode := .region none true pc104_o9
def pc104_o10 : List POper := [⟨some 25, .mv (.tmp 0), none, []⟩,
  ⟨some 26, .mv (.tmp 4), none, []⟩,
  ⟨some 27, .mv (.tmp 5), none, []⟩,
  ⟨some 28, .call true [[], [], []] 116 [.tmp 25, .tmp 26, .tmp 27], none, []⟩]
def pc104_c10 : PCode := .region none false pc104_o10
def pc104_o11 : List POper := [⟨some 29, .mv (.tmp 3), none, []⟩,
  ⟨some 30, .prim .min [.tmp 29, .const (.int .u64 1000001)], none, []⟩,
  ⟨some 31, .prim (.conv 89 3) [.tmp 30], none, []⟩,
  ⟨some 2, .mv (.tmp 31), none, []⟩]
def pc104_c11 : PCode := .region none false pc104_o11
def pc104_c12 : PCode := .ret
def pc104_c13 : PCode := .seq pc104_c11 pc104_c12
def pc104_c14 : PCode := .seq pc104_c10 pc104_c13
def pc104_c15 : PCode := .seq pc104_c9 pc104_c14
def pc104_c16 : PCode := .seq pc104_c8 pc104_c15
def pc104_c17 : PCode := .seq pc104_c1 pc104_c16
def pc104_r : List PRes := [PRes.tmp 2 []]
def pc104 : PFunc := ⟨32, pc104_r, pc104_c17, false⟩
def pc104_a : Ann := {
  kr := fun
    | _ => none
  ka := fun
    | _ => 0
  kh := fun
    | 0 => some (.at_ 1000000 0)
    | 12 => some (.at_ 1000000 0)
    | 13 => some (.at_ 1000000 0)
    | 14 => some (.at_ 1000000 0)
    | 15 => some (.imm)
    | 16 => some (.at_ 1000000 0)
    | 17 => some (.at_ 1000000 0)
    | 18 => some (.at_ 1000000 1)
    | 19 => some (.imm)
    | 20 => some (.imm)
    | 22 => some (.imm)
    | 23 => some (.imm)
    | 24 => some (.imm)
    | _ => none
  ow := fun t => match t with
    | 96 => [(1, 5, 1)]
    | _ => []
  tc := fun t => match t with
    | 96 => true
    | _ => false }
theorem pc104_ok : compFn Try.prog pc104_a Try.f104 = some pc104 := by kernel_rfl


-- 117: vedette/num.Texts
def pc117_o1 : List POper := [⟨some 4, .mv (.const (.string { data := { toList := [] } })), none, []⟩,
  ⟨some 5, .mv (.const (.int .i64 0)), none, []⟩,
  ⟨some 6, .mv (.const (.int .i64 0)), none, []⟩]
def pc117_c1 : PCode := .region none false pc117_o1
def pc117_o2 : List POper := [⟨some 12, .mv (.tmp 0), none, []⟩,
  ⟨some 13, .call true [[]] 73 [.tmp 12], none, []⟩,
  ⟨some 11, .mv (.tmp 13), none, []⟩,
  ⟨some 14, .ext (.tmp 11) 0, none, []⟩,
  ⟨some 15, .ext (.tmp 11) 1, none, []⟩,
  ⟨some 16, .ext (.tmp 11) 2, none, []⟩,
  ⟨some 7, .mv (.tmp 14), none, []⟩,
  ⟨some 8, .mv (.tmp 15), none, []⟩,
  ⟨some 9, .mv (.tmp 16), none, []⟩]
def pc117_c2 : PCode := .region none false pc117_o2
def pc117_o3 : List POper := [⟨some 18, .mv (.tmp 9), none, []⟩,
  ⟨some 19, .prim (.bin .neq 37 false true) [.tmp 18, .const (.int .i64 0)], none, []⟩,
  ⟨some 17, .mv (.tmp 19), none, []⟩]
def pc117_c3 : PCode := .region none false pc117_o3
def pc117_o4 : List POper := [⟨some 20, .mv (.tmp 9), none, []⟩,
  ⟨some 4, .mv (.const (.string { data := { toList := [] } })), none, []⟩,
  ⟨some 5, .mv (.const (.int .i64 0)), none, []⟩,
  ⟨some 6, .mv (.tmp 20), none, []⟩]
def pc117_c4 : PCode := .region none false pc117_o4
def pc117_c5 : PCode := .ret
def pc117_c6 : PCode := .seq pc117_c4 pc117_c5
def pc117_o7 : List POper := [⟨some 22, .mv (.tmp 7), none, []⟩,
  ⟨some 23, .mv (.tmp 1), none, []⟩,
  ⟨some 24, .prim .max [.tmp 23, .const (.int .i64 0)], none, []⟩,
  ⟨some 25, .prim (.conv 3 89) [.tmp 24], none, []⟩,
  ⟨some 26, .prim (.bin .gtr 89 false false) [.tmp 22, .tmp 25], none, []⟩,
  ⟨some 21, .mv (.tmp 26), none, []⟩]
def pc117_c7 : PCode := .region none false pc117_o7
def pc117_o8 : List POper := [⟨some 4, .mv (.const (.string { data := { toList := [] } })), none, []⟩,
  ⟨some 5, .mv (.const (.int .i64 0)), none, []⟩,
  ⟨some 6, .mv (.const (.int .i64 13)), none, []⟩]
def pc117_c8 : PCode := .region none false pc117_o8
def pc117_c9 : PCode := .ret
def pc117_c10 : PCode := .seq pc117_c8 pc117_c9
def pc117_o11 : List POper := [⟨some 28, .mv (.tmp 7), none, []⟩,
  ⟨some 29, .mv (.tmp 0), none, []⟩,
  ⟨some 30, .prim (.len 9) [.tmp 29], none, []⟩,
  ⟨some 31, .mv (.tmp 8), none, []⟩,
  ⟨some 32, .prim (.bin .sub 3 false false) [.tmp 30, .tmp 31], none, []⟩,
  ⟨some 33, .prim (.conv 3 89) [.tmp 32], none, []⟩,
  ⟨some 34, .prim (.bin .gtr 89 false false) [.tmp 28, .tmp 33], none, []⟩,
  ⟨some 27, .mv (.tmp 34), none, []⟩]
def pc117_c11 : PCode := .region none false pc117_o11
def pc117_o12 : List POper := [⟨some 4, .mv (.const (.string { data := { toList := [] } })), none, []⟩,
  ⟨some 5, .mv (.const (.int .i64 0)), none, []⟩,
  ⟨some 6, .mv (.const (.int .i64 10)), none, []⟩]
def pc117_c12 : PCode := .region none false pc117_o12
def pc117_c13 : PCode := .ret
def pc117_c14 : PCode := .seq pc117_c12 pc117_c13
def pc117_c15 : PCode := .skip
def pc117_c16 : PCode := .cond (.tmp 27) pc117_c14 pc117_c15
def pc117_c17 : PCode := .seq pc117_c11 pc117_c16
def pc117_c18 : PCode := .cond (.tmp 21) pc117_c10 pc117_c17
def pc117_c19 : PCode := .seq pc117_c7 pc117_c18
def pc117_c20 : PCode := .cond (.tmp 17) pc117_c6 pc117_c19
def pc117_c21 : PCode := .seq pc117_c3 pc117_c20
def pc117_c22 : PCode := .block 0 pc117_c21
def pc117_o23 : List POper := [⟨some 35, .mv (.tmp 8), none, []⟩,
  ⟨some 36, .mv (.tmp 7), none, []⟩,
  ⟨some 37, .prim (.conv 89 3) [.tmp 36], none, []⟩,
  ⟨some 38, .prim (.bin .add 3 false false) [.tmp 35, .tmp 37], none, []⟩,
  ⟨some 10, .mv (.tmp 38), none, []⟩]
def pc117_c23 : PCode := .region none false pc117_o23
def pc117_o24 : List POper := [⟨some 39, .mv (.tmp 0), none, []⟩,
  ⟨some 40, .mv (.tmp 8), none, []⟩,
  ⟨some 41, .mv (.tmp 10), none, []⟩,
  ⟨some 42, .prim (.slice 9 true true) [.tmp 39, .tmp 40, .tmp 41], none, []⟩,
  ⟨some 43, .mv (.tmp 10), none, []⟩,
  ⟨some 4, .mv (.tmp 42), none, []⟩,
  ⟨some 5, .mv (.tmp 43), none, []⟩,
  ⟨some 6, .mv (.const (.int .i64 0)), none, []⟩]
def pc117_c24 : PCode := .region none false pc117_o24
def pc117_c25 : PCode := .ret
def pc117_c26 : PCode := .seq pc117_c24 pc117_c25
def pc117_c27 : PCode := .seq pc117_c23 pc117_c26
def pc117_c28 : PCode := .seq pc117_c22 pc117_c27
def pc117_c29 : PCode := .seq pc117_c2 pc117_c28
def pc117_c30 : PCode := .seq pc117_c1 pc117_c29
def pc117_r : List PRes := [PRes.tmp 4 [], PRes.tmp 5 [], PRes.tmp 6 []]
def pc117 : PFunc := ⟨44, pc117_r, pc117_c30, false⟩
def pc117_a : Ann := {
  kr := fun
    | _ => none
  ka := fun
    | _ => 0
  kh := fun
    | _ => none
  ow := fun t => match t with
    | 96 => [(1, 5, 1)]
    | _ => []
  tc := fun t => match t with
    | 96 => true
    | _ => false }
theorem pc117_ok : compFn Try.prog pc117_a Try.f117 = some pc117 := by kernel_rfl


-- 121: vedette/num.Zag
def pc121_o1 : List POper := [⟨some 2, .mv (.const (.int .i64 0)), none, []⟩]
def pc121_c1 : PCode := .region none false pc121_o1
def pc121_o2 : List POper := [⟨some 3, .mv (.tmp 0), none, []⟩,
  ⟨some 4, .prim (.bin .shr 89 false true) [.tmp 3, .const (.int .u64 1)], none, []⟩,
  ⟨some 5, .prim (.conv 89 2) [.tmp 4], none, []⟩,
  ⟨some 6, .mv (.tmp 0), none, []⟩,
  ⟨some 7, .prim (.bin .and 89 false true) [.tmp 6, .const (.int .u64 1)], none, []⟩,
  ⟨some 8, .prim (.conv 89 2) [.tmp 7], none, []⟩,
  ⟨some 9, .prim (.un .neg) [.tmp 8], none, []⟩,
  ⟨some 10, .prim (.bin .xor 2 false false) [.tmp 5, .tmp 9], none, []⟩,
  ⟨some 2, .mv (.tmp 10), none, []⟩]
def pc121_c2 : PCode := .region none false pc121_o2
def pc121_c3 : PCode := .ret
def pc121_c4 : PCode := .seq pc121_c2 pc121_c3
def pc121_c5 : PCode := .seq pc121_c1 pc121_c4
def pc121_r : List PRes := [PRes.tmp 2 []]
def pc121 : PFunc := ⟨11, pc121_r, pc121_c5, false⟩
def pc121_a : Ann := {
  kr := fun
    | _ => none
  ka := fun
    | _ => 0
  kh := fun
    | _ => none
  ow := fun t => match t with
    | 96 => [(1, 5, 1)]
    | _ => []
  tc := fun t => match t with
    | 96 => true
    | _ => false }
theorem pc121_ok : compFn Try.prog pc121_a Try.f121 = some pc121 := by kernel_rfl


-- 118: vedette/num.Ints
def pc118_o1 : List POper := [⟨some 2, .mv (.const (.int .i64 0)), none, []⟩,
  ⟨some 3, .mv (.const (.int .i64 0)), none, []⟩,
  ⟨some 4, .mv (.const (.int .i64 0)), none, []⟩]
def pc118_c1 : PCode := .region none false pc118_o1
def pc118_o2 : List POper := [⟨some 9, .mv (.tmp 0), none, []⟩,
  ⟨some 10, .call true [[]] 73 [.tmp 9], none, []⟩,
  ⟨some 8, .mv (.tmp 10), none, []⟩,
  ⟨some 11, .ext (.tmp 8) 0, none, []⟩,
  ⟨some 12, .ext (.tmp 8) 1, none, []⟩,
  ⟨some 13, .ext (.tmp 8) 2, none, []⟩,
  ⟨some 5, .mv (.tmp 11), none, []⟩,
  ⟨some 6, .mv (.tmp 12), none, []⟩,
  ⟨some 7, .mv (.tmp 13), none, []⟩]
def pc118_c2 : PCode := .region none false pc118_o2
def pc118_o3 : List POper := [⟨some 14, .mv (.tmp 5), none, []⟩,
  ⟨some 15, .call true [[]] 121 [.tmp 14], none, []⟩,
  ⟨some 16, .mv (.tmp 6), none, []⟩,
  ⟨some 17, .mv (.tmp 7), none, []⟩,
  ⟨some 2, .mv (.tmp 15), none, []⟩,
  ⟨some 3, .mv (.tmp 16), none, []⟩,
  ⟨some 4, .mv (.tmp 17), none, []⟩]
def pc118_c3 : PCode := .region none false pc118_o3
def pc118_c4 : PCode := .ret
def pc118_c5 : PCode := .seq pc118_c3 pc118_c4
def pc118_c6 : PCode := .seq pc118_c2 pc118_c5
def pc118_c7 : PCode := .seq pc118_c1 pc118_c6
def pc118_r : List PRes := [PRes.tmp 2 [], PRes.tmp 3 [], PRes.tmp 4 []]
def pc118 : PFunc := ⟨18, pc118_r, pc118_c7, false⟩
def pc118_a : Ann := {
  kr := fun
    | _ => none
  ka := fun
    | _ => 0
  kh := fun
    | _ => none
  ow := fun t => match t with
    | 96 => [(1, 5, 1)]
    | _ => []
  tc := fun t => match t with
    | 96 => true
    | _ => false }
theorem pc118_ok : compFn Try.prog pc118_a Try.f118 = some pc118 := by kernel_rfl


-- 105: (*vedette/fields.reader).field
def pc105_o1 : List POper := [⟨some 2, .alloc 25 (.agg { toList := [.int .i64 0, .string { data := { toList := [] } }] }) [], none, []⟩]
def pc105_c1 : PCode := .region none false pc105_o1
def pc105_o2 : List POper := [⟨some 3, .alloc 25 (.agg { toList := [.int .i64 0, .string { data := { toList := [] } }] }) [], none, []⟩]
def pc105_c2 : PCode := .region none false pc105_o2
def pc105_o3 : List POper := [⟨some 10, .mv (.tmp 0), none, []⟩,
  ⟨some 11, .nilc (.tmp 10), none, []⟩,
  ⟨some 12, .faddr 2 (.tmp 11), none, []⟩,
  ⟨some 13, .load false 1 (.tmp 12), none, []⟩,
  ⟨some 14, .prim (.bin .neq 37 false true) [.tmp 13, .const (.int .i64 0)], none, []⟩]
def pc105_c3 : PCode := .region none false pc105_o3
def pc105_o4 : List POper := [⟨some 15, .load true 2 (.tmp 3), none, []⟩,
  ⟨none, .store 2 (.tmp 2) (.tmp 15), none, []⟩]
def pc105_c4 : PCode := .region none false pc105_o4
def pc105_c5 : PCode := .ret
def pc105_c6 : PCode := .seq pc105_c4 pc105_c5
def pc105_c7 : PCode := .skip
def pc105_c8 : PCode := .cond (.tmp 14) pc105_c6 pc105_c7
def pc105_c9 : PCode := .seq pc105_c3 pc105_c8
def pc105_o10 : List POper := [⟨some 17, .mv (.tmp 0), none, [(0, .at_ 1000000 0)]⟩,
  ⟨some 18, .nilc (.tmp 17), none, [(17, .at_ 1000000 0)]⟩,
  ⟨some 19, .faddr 0 (.tmp 18), none, [(18, .at_ 1000000 0)]⟩,
  ⟨some 20, .load false 1 (.tmp 19), none, [(19, .at_ 1000000 0)]⟩,
  ⟨some 21, .mv (.tmp 0), none, [(0, .at_ 1000000 0)]⟩,
  ⟨some 22, .nilc (.tmp 21), none, [(21, .at_ 1000000 0)]⟩,
  ⟨some 23, .faddr 1 (.tmp 22), none, [(22, .at_ 1000000 0)]⟩,
  ⟨some 24, .load false 1 (.tmp 23), none, [(23, .at_ 1000000 1)]⟩,
  ⟨some 25, .prim (.slice 9 true false) [.tmp 20, .tmp 24], none, [(20, .imm), (24, .imm)]⟩,
  ⟨some 26, .call false [[], []] 117 [.tmp 25, .const (.int .i64 12)], none, [(25, .imm)]⟩,
  ⟨some 16, .mv (.tmp 26), none, []⟩,
  ⟨some 27, .ext (.tmp 16) 0, none, []⟩,
  ⟨some 28, .ext (.tmp 16) 1, none, []⟩,
  ⟨some 29, .ext (.tmp 16) 2, none, []⟩,
  ⟨some 4, .mv (.tmp 27), none, [(27, .imm)]⟩,
  ⟨some 5, .mv (.tmp 28), none, [(28, .imm)]⟩,
  ⟨some 6, .mv (.tmp 29), none, [(29, .imm)]⟩]
def pc105_c10 : PCode := .region none true pc105_o10
def pc105_o11 : List POper := [⟨some 30, .mv (.tmp 0), none, []⟩,
  ⟨some 31, .mv (.tmp 5), none, []⟩,
  ⟨some 32, .mv (.tmp 6), none, []⟩,
  ⟨some 33, .call true [[], [], []] 116 [.tmp 30, .tmp 31, .tmp 32], none, []⟩]
def pc105_c11 : PCode := .region none false pc105_o11
def pc105_o12 : List POper := [⟨some 34, .mv (.tmp 4), none, []⟩,
  ⟨some 35, .faddr 1 (.tmp 3), none, []⟩,
  ⟨none, .store 1 (.tmp 35) (.tmp 34), none, []⟩]
def pc105_c12 : PCode := .region none false pc105_o12
def pc105_o13 : List POper := [⟨some 36, .mv (.tmp 4), none, []⟩,
  ⟨some 37, .prim (.bin .eql 9 false true) [.tmp 36, .const (.string { data := { toList := [] } })], none, []⟩,
  ⟨some 38, .mv (.tmp 37), none, []⟩,
  ⟨some 39, .mv (.tmp 6), some (38, true), []⟩,
  ⟨some 40, .prim (.bin .eql 37 false true) [.tmp 39, .const (.int .i64 0)], some (38, true), []⟩,
  ⟨some 41, .pick (.tmp 38) (.tmp 40) (.const (.bool false)), none, []⟩]
def pc105_c13 : PCode := .region none false pc105_o13
def pc105_o14 : List POper := [⟨some 43, .mv (.tmp 0), none, [(0, .at_ 1000000 0)]⟩,
  ⟨some 44, .nilc (.tmp 43), none, [(43, .at_ 1000000 0)]⟩,
  ⟨some 45, .faddr 0 (.tmp 44), none, [(44, .at_ 1000000 0)]⟩,
  ⟨some 46, .load false 1 (.tmp 45), none, [(45, .at_ 1000000 0)]⟩,
  ⟨some 47, .mv (.tmp 0), none, [(0, .at_ 1000000 0)]⟩,
  ⟨some 48, .nilc (.tmp 47), none, [(47, .at_ 1000000 0)]⟩,
  ⟨some 49, .faddr 1 (.tmp 48), none, [(48, .at_ 1000000 0)]⟩,
  ⟨some 50, .load false 1 (.tmp 49), none, [(49, .at_ 1000000 1)]⟩,
  ⟨some 51, .prim (.slice 9 true false) [.tmp 46, .tmp 50], none, [(46, .imm), (50, .imm)]⟩,
  ⟨some 52, .call false [[]] 118 [.tmp 51], none, [(51, .imm)]⟩,
  ⟨some 42, .mv (.tmp 52), none, []⟩,
  ⟨some 53, .ext (.tmp 42) 0, none, []⟩,
  ⟨some 54, .ext (.tmp 42) 1, none, []⟩,
  ⟨some 55, .ext (.tmp 42) 2, none, []⟩,
  ⟨some 7, .mv (.tmp 53), none, [(53, .imm)]⟩,
  ⟨some 8, .mv (.tmp 54), none, [(54, .imm)]⟩,
  ⟨some 9, .mv (.tmp 55), none, [(55, .imm)]⟩]
def pc105_c14 : PCode := .region none true pc105_o14
def pc105_o15 : List POper := [⟨some 56, .mv (.tmp 0), none, []⟩,
  ⟨some 57, .mv (.tmp 8), none, []⟩,
  ⟨some 58, .mv (.tmp 9), none, []⟩,
  ⟨some 59, .call true [[], [], []] 116 [.tmp 56, .tmp 57, .tmp 58], none, []⟩]
def pc105_c15 : PCode := .region none false pc105_o15
def pc105_o16 : List POper := [⟨some 60, .mv (.tmp 7), none, []⟩,
  ⟨some 61, .faddr 0 (.tmp 3), none, []⟩,
  ⟨none, .store 1 (.tmp 61) (.tmp 60), none, []⟩]
def pc105_c16 : PCode := .region none false pc105_o16
def pc105_c17 : PCode := .seq pc105_c15 pc105_c16
def pc105_c18 : PCode := .seq pc105_c14 pc105_c17
def pc105_c19 : PCode := .skip
def pc105_c20 : PCode := .cond (.tmp 41) pc105_c18 pc105_c19
def pc105_c21 : PCode := .seq pc105_c13 pc105_c20
def pc105_c22 : PCode := .seq pc105_c12 pc105_c21
def pc105_o23 : List POper := [⟨some 62, .load true 2 (.tmp 3), none, []⟩,
  ⟨none, .store 2 (.tmp 2) (.tmp 62), none, []⟩]
def pc105_c23 : PCode := .region none false pc105_o23
def pc105_c24 : PCode := .ret
def pc105_c25 : PCode := .seq pc105_c23 pc105_c24
def pc105_c26 : PCode := .seq pc105_c22 pc105_c25
def pc105_c27 : PCode := .seq pc105_c11 pc105_c26
def pc105_c28 : PCode := .seq pc105_c10 pc105_c27
def pc105_c29 : PCode := .seq pc105_c9 pc105_c28
def pc105_c30 : PCode := .seq pc105_c2 pc105_c29
def pc105_c31 : PCode := .seq pc105_c1 pc105_c30
def pc105_r : List PRes := [PRes.cell 2 true 2 []]
def pc105 : PFunc := ⟨63, pc105_r, pc105_c31, false⟩
def pc105_a : Ann := {
  kr := fun
    | _ => none
  ka := fun
    | _ => 0
  kh := fun
    | 0 => some (.at_ 1000000 0)
    | 17 => some (.at_ 1000000 0)
    | 18 => some (.at_ 1000000 0)
    | 19 => some (.at_ 1000000 0)
    | 20 => some (.imm)
    | 21 => some (.at_ 1000000 0)
    | 22 => some (.at_ 1000000 0)
    | 23 => some (.at_ 1000000 1)
    | 24 => some (.imm)
    | 25 => some (.imm)
    | 27 => some (.imm)
    | 28 => some (.imm)
    | 29 => some (.imm)
    | 43 => some (.at_ 1000000 0)
    | 44 => some (.at_ 1000000 0)
    | 45 => some (.at_ 1000000 0)
    | 46 => some (.imm)
    | 47 => some (.at_ 1000000 0)
    | 48 => some (.at_ 1000000 0)
    | 49 => some (.at_ 1000000 1)
    | 50 => some (.imm)
    | 51 => some (.imm)
    | 53 => some (.imm)
    | 54 => some (.imm)
    | 55 => some (.imm)
    | _ => none
  ow := fun t => match t with
    | 96 => [(1, 5, 1)]
    | _ => []
  tc := fun t => match t with
    | 96 => true
    | _ => false }
theorem pc105_ok : compFn Try.prog pc105_a Try.f105 = some pc105 := by kernel_rfl


-- 71: vedette/fields.Read
def pc71_o1 : List POper := [⟨some 2, .alloc 35 (.agg { toList := [.int .i64 0, .int .u8 0, .int .i64 0, .int .i64 0, .int .i64 0, .string { data := { toList := [] } }, .int .i64 0, .string { data := { toList := [] } }, .int .i64 0, .string { data := { toList := [] } }, .int .i64 0, .string { data := { toList := [] } }] }) [], none, []⟩,
  ⟨some 3, .mv (.const (.int .i64 0)), none, []⟩,
  ⟨some 4, .mv (.const (.int .i64 0)), none, []⟩]
def pc71_c1 : PCode := .region none false pc71_o1
def pc71_o2 : List POper := [⟨some 9, .mv (.tmp 0), none, []⟩,
  ⟨some 10, .build (.agg { toList := [.string { data := { toList := [] } }, .int .i64 0, .int .i64 0] }) [(0, 1, .tmp 9)], none, []⟩,
  ⟨some 11, .box 138 (.tmp 10) [], none, []⟩,
  ⟨some 5, .mv (.tmp 11), none, []⟩]
def pc71_c2 : PCode := .region none false pc71_o2
def pc71_o3 : List POper := [⟨some 12, .mv (.tmp 5), none, []⟩,
  ⟨some 13, .call true [[]] 104 [.tmp 12], none, []⟩,
  ⟨some 14, .build (.agg { toList := [.int .i64 0, .int .u8 0, .int .i64 0, .int .i64 0, .int .i64 0, .string { data := { toList := [] } }, .int .i64 0, .string { data := { toList := [] } }, .int .i64 0, .string { data := { toList := [] } }, .int .i64 0, .string { data := { toList := [] } }] }) [(0, 1, .tmp 13)], none, []⟩,
  ⟨some 6, .alloc 35 (.agg { toList := [.int .i64 0, .int .u8 0, .int .i64 0, .int .i64 0, .int .i64 0, .string { data := { toList := [] } }, .int .i64 0, .string { data := { toList := [] } }, .int .i64 0, .string { data := { toList := [] } }, .int .i64 0, .string { data := { toList := [] } }] }) [], none, []⟩,
  ⟨none, .store 12 (.tmp 6) (.tmp 14), none, []⟩]
def pc71_c3 : PCode := .region none false pc71_o3
def pc71_o4 : List POper := [⟨some 15, .mv (.tmp 5), none, []⟩,
  ⟨some 16, .call true [[]] 104 [.tmp 15], none, []⟩,
  ⟨some 7, .mv (.tmp 16), none, []⟩]
def pc71_c4 : PCode := .region none false pc71_o4
def pc71_o5 : List POper := [⟨some 17, .mv (.tmp 5), none, []⟩,
  ⟨some 18, .nilc (.tmp 17), none, []⟩,
  ⟨some 19, .faddr 2 (.tmp 18), none, []⟩,
  ⟨some 20, .load false 1 (.tmp 19), none, []⟩,
  ⟨some 21, .prim (.bin .eql 37 false true) [.tmp 20, .const (.int .i64 0)], none, []⟩,
  ⟨some 22, .mv (.tmp 21), none, []⟩,
  ⟨some 23, .faddr 0 (.tmp 6), some (22, true), []⟩,
  ⟨some 24, .load false 1 (.tmp 23), some (22, true), []⟩,
  ⟨some 25, .prim (.bin .gtr 3 false true) [.tmp 24, .const (.int .i64 1000000)], some (22, true), []⟩,
  ⟨some 26, .mv (.tmp 25), some (22, true), []⟩,
  ⟨some 27, .mv (.tmp 7), some (26, false), []⟩,
  ⟨some 28, .prim (.bin .eql 3 false true) [.tmp 27, .const (.int .i64 0)], some (26, false), []⟩,
  ⟨some 29, .pick (.tmp 26) (.const (.bool true)) (.tmp 28), some (22, true), []⟩,
  ⟨some 30, .mv (.tmp 29), some (22, true), []⟩,
  ⟨some 31, .mv (.tmp 7), some (30, false), []⟩,
  ⟨some 32, .prim (.bin .gtr 3 false true) [.tmp 31, .const (.int .i64 31)], some (30, false), []⟩,
  ⟨some 33, .pick (.tmp 30) (.const (.bool true)) (.tmp 32), some (22, true), []⟩,
  ⟨some 34, .pick (.tmp 22) (.tmp 33) (.const (.bool false)), none, []⟩]
def pc71_c5 : PCode := .region none false pc71_o5
def pc71_o6 : List POper := [⟨some 35, .build (.agg { toList := [.int .i64 0, .int .u8 0, .int .i64 0, .int .i64 0, .int .i64 0, .string { data := { toList := [] } }, .int .i64 0, .string { data := { toList := [] } }, .int .i64 0, .string { data := { toList := [] } }, .int .i64 0, .string { data := { toList := [] } }] }) [], none, []⟩,
  ⟨none, .store 12 (.tmp 2) (.tmp 35), none, []⟩,
  ⟨some 3, .mv (.const (.int .i64 0)), none, []⟩,
  ⟨some 4, .mv (.const (.int .i64 11)), none, []⟩]
def pc71_c6 : PCode := .region none false pc71_o6
def pc71_c7 : PCode := .ret
def pc71_c8 : PCode := .seq pc71_c6 pc71_c7
def pc71_c9 : PCode := .skip
def pc71_c10 : PCode := .cond (.tmp 34) pc71_c8 pc71_c9
def pc71_c11 : PCode := .seq pc71_c5 pc71_c10
def pc71_o12 : List POper := [⟨some 36, .mv (.tmp 7), none, []⟩,
  ⟨some 37, .prim (.conv 3 5) [.tmp 36], none, []⟩,
  ⟨some 38, .faddr 1 (.tmp 6), none, []⟩,
  ⟨none, .store 1 (.tmp 38) (.tmp 37), none, []⟩]
def pc71_c12 : PCode := .region (some ([2, 5, 6, 7], [2, 6, 11], [])) false pc71_o12
def pc71_o13 : List POper := [⟨some 39, .faddr 1 (.tmp 6), none, []⟩,
  ⟨some 40, .load false 1 (.tmp 39), none, []⟩,
  ⟨some 41, .prim (.bin .and 5 false true) [.tmp 40, .const (.int .u8 1)], none, []⟩,
  ⟨some 42, .prim (.bin .neq 5 false true) [.tmp 41, .const (.int .u8 0)], none, []⟩]
def pc71_c13 : PCode := .region none false pc71_o13
def pc71_o14 : List POper := [⟨some 43, .mv (.tmp 5), none, []⟩,
  ⟨some 44, .call true [[]] 104 [.tmp 43], none, []⟩,
  ⟨some 45, .faddr 2 (.tmp 6), none, []⟩,
  ⟨some 46, .faddr 0 (.tmp 45), none, []⟩,
  ⟨none, .store 1 (.tmp 46) (.tmp 44), none, []⟩]
def pc71_c14 : PCode := .region none false pc71_o14
def pc71_o15 : List POper := [⟨some 47, .mv (.tmp 5), none, []⟩,
  ⟨some 48, .call true [[]] 104 [.tmp 47], none, []⟩,
  ⟨some 49, .faddr 2 (.tmp 6), none, []⟩,
  ⟨some 50, .faddr 1 (.tmp 49), none, []⟩,
  ⟨none, .store 1 (.tmp 50) (.tmp 48), none, []⟩]
def pc71_c15 : PCode := .region none false pc71_o15
def pc71_c16 : PCode := .seq pc71_c14 pc71_c15
def pc71_c17 : PCode := .skip
def pc71_c18 : PCode := .cond (.tmp 42) pc71_c16 pc71_c17
def pc71_c19 : PCode := .seq pc71_c13 pc71_c18
def pc71_c20 : PCode := .seq pc71_c12 pc71_c19
def pc71_c21 : PCode := .label
def pc71_o22 : List POper := [⟨some 51, .mv (.const (.int .i64 0)), none, []⟩]
def pc71_c22 : PCode := .region none false pc71_o22
def pc71_o23 : List POper := [⟨some 52, .prim (.bin .lss 3 false true) [.tmp 51, .const (.int .i64 4)], none, []⟩]
def pc71_c23 : PCode := .region (some ([2, 5, 6, 51], [2, 6, 11], [])) false pc71_o23
def pc71_c24 : PCode := .skip
def pc71_c25 : PCode := .exit 0
def pc71_c26 : PCode := .cond (.tmp 52) pc71_c24 pc71_c25
def pc71_o27 : List POper := [⟨some 53, .mv (.tmp 51), none, []⟩,
  ⟨some 8, .mv (.tmp 53), none, []⟩]
def pc71_c27 : PCode := .region none false pc71_o27
def pc71_o28 : List POper := [⟨some 55, .mv (.tmp 5), none, []⟩,
  ⟨some 56, .nilc (.tmp 55), none, []⟩,
  ⟨some 57, .faddr 2 (.tmp 56), none, []⟩,
  ⟨some 58, .load false 1 (.tmp 57), none, []⟩,
  ⟨some 59, .prim (.bin .neq 37 false true) [.tmp 58, .const (.int .i64 0)], none, []⟩,
  ⟨some 54, .mv (.tmp 59), none, []⟩]
def pc71_c28 : PCode := .region none false pc71_o28
def pc71_c29 : PCode := .exit 0
def pc71_o30 : List POper := [⟨some 61, .faddr 1 (.tmp 6), none, []⟩,
  ⟨some 62, .load false 1 (.tmp 61), none, []⟩,
  ⟨some 63, .mv (.tmp 8), none, []⟩,
  ⟨some 64, .call true [[], []] 99 [.tmp 62, .tmp 63], none, []⟩,
  ⟨some 60, .mv (.tmp 64), none, []⟩]
def pc71_c30 : PCode := .region none false pc71_o30
def pc71_o31 : List POper := [⟨some 65, .mv (.tmp 8), none, []⟩,
  ⟨some 66, .mv (.tmp 5), none, []⟩,
  ⟨some 67, .call true [[]] 105 [.tmp 66], none, []⟩,
  ⟨some 68, .faddr 4 (.tmp 6), none, []⟩,
  ⟨some 69, .iaddrA 4 2 (.tmp 68) (.tmp 65), none, []⟩,
  ⟨none, .store 2 (.tmp 69) (.tmp 67), none, []⟩]
def pc71_c31 : PCode := .region none false pc71_o31
def pc71_c32 : PCode := .skip
def pc71_c33 : PCode := .cond (.tmp 60) pc71_c31 pc71_c32
def pc71_c34 : PCode := .seq pc71_c30 pc71_c33
def pc71_c35 : PCode := .cond (.tmp 54) pc71_c29 pc71_c34
def pc71_c36 : PCode := .seq pc71_c28 pc71_c35
def pc71_c37 : PCode := .block 2 pc71_c36
def pc71_c38 : PCode := .seq pc71_c27 pc71_c37
def pc71_c39 : PCode := .block 1 pc71_c38
def pc71_o40 : List POper := [⟨some 70, .prim (.bin .add 3 false true) [.tmp 51, .const (.int .i64 1)], none, []⟩,
  ⟨some 51, .mv (.tmp 70), none, []⟩]
def pc71_c40 : PCode := .region none false pc71_o40
def pc71_c41 : PCode := .seq pc71_c39 pc71_c40
def pc71_c42 : PCode := .seq pc71_c26 pc71_c41
def pc71_c43 : PCode := .seq pc71_c23 pc71_c42
def pc71_c44 : PCode := .loop pc71_c43
def pc71_c45 : PCode := .block 0 pc71_c44
def pc71_c46 : PCode := .seq pc71_c22 pc71_c45
def pc71_o47 : List POper := [⟨some 71, .mv (.tmp 5), none, []⟩,
  ⟨some 72, .nilc (.tmp 71), none, []⟩,
  ⟨some 73, .faddr 2 (.tmp 72), none, []⟩,
  ⟨some 74, .load false 1 (.tmp 73), none, []⟩,
  ⟨some 75, .prim (.bin .neq 37 false true) [.tmp 74, .const (.int .i64 0)], none, []⟩]
def pc71_c47 : PCode := .region (some ([2, 5, 6], [2, 6, 11], [])) false pc71_o47
def pc71_o48 : List POper := [⟨some 76, .build (.agg { toList := [.int .i64 0, .int .u8 0, .int .i64 0, .int .i64 0, .int .i64 0, .string { data := { toList := [] } }, .int .i64 0, .string { data := { toList := [] } }, .int .i64 0, .string { data := { toList := [] } }, .int .i64 0, .string { data := { toList := [] } }] }) [], none, []⟩,
  ⟨some 77, .mv (.tmp 5), none, [(5, .at_ 11 0)]⟩,
  ⟨some 78, .nilc (.tmp 77), none, [(77, .at_ 11 0)]⟩,
  ⟨some 79, .faddr 2 (.tmp 78), none, [(78, .at_ 11 0)]⟩,
  ⟨some 80, .load false 1 (.tmp 79), none, [(79, .at_ 11 2)]⟩,
  ⟨none, .store 12 (.tmp 2) (.tmp 76), none, [(2, .at_ 2 0), (76, .imm)]⟩,
  ⟨some 3, .mv (.const (.int .i64 0)), none, []⟩,
  ⟨some 4, .mv (.tmp 80), none, [(80, .imm)]⟩]
def pc71_c48 : PCode := .region none true pc71_o48
def pc71_c49 : PCode := .ret
def pc71_c50 : PCode := .seq pc71_c48 pc71_c49
def pc71_c51 : PCode := .skip
def pc71_c52 : PCode := .cond (.tmp 75) pc71_c50 pc71_c51
def pc71_c53 : PCode := .seq pc71_c47 pc71_c52
def pc71_o54 : List POper := [⟨some 81, .load true 12 (.tmp 6), none, []⟩,
  ⟨some 82, .call true [[]] 77 [.tmp 81], none, []⟩,
  ⟨some 83, .prim (.un .not) [.tmp 82], none, []⟩]
def pc71_c54 : PCode := .region none false pc71_o54
def pc71_o55 : List POper := [⟨some 84, .build (.agg { toList := [.int .i64 0, .int .u8 0, .int .i64 0, .int .i64 0, .int .i64 0, .string { data := { toList := [] } }, .int .i64 0, .string { data := { toList := [] } }, .int .i64 0, .string { data := { toList := [] } }, .int .i64 0, .string { data := { toList := [] } }] }) [], none, []⟩,
  ⟨none, .store 12 (.tmp 2) (.tmp 84), none, []⟩,
  ⟨some 3, .mv (.const (.int .i64 0)), none, []⟩,
  ⟨some 4, .mv (.const (.int .i64 11)), none, []⟩]
def pc71_c55 : PCode := .region none false pc71_o55
def pc71_c56 : PCode := .ret
def pc71_c57 : PCode := .seq pc71_c55 pc71_c56
def pc71_c58 : PCode := .skip
def pc71_c59 : PCode := .cond (.tmp 83) pc71_c57 pc71_c58
def pc71_c60 : PCode := .seq pc71_c54 pc71_c59
def pc71_o61 : List POper := [⟨some 85, .load true 12 (.tmp 6), none, [(6, .at_ 6 0)]⟩,
  ⟨some 86, .mv (.tmp 5), none, [(5, .at_ 11 0)]⟩,
  ⟨some 87, .nilc (.tmp 86), none, [(86, .at_ 11 0)]⟩,
  ⟨some 88, .faddr 1 (.tmp 87), none, [(87, .at_ 11 0)]⟩,
  ⟨some 89, .load false 1 (.tmp 88), none, [(88, .at_ 11 1)]⟩,
  ⟨none, .store 12 (.tmp 2) (.tmp 85), none, [(2, .at_ 2 0), (85, .imm)]⟩,
  ⟨some 3, .mv (.tmp 89), none, [(89, .imm)]⟩,
  ⟨some 4, .mv (.const (.int .i64 0)), none, []⟩]
def pc71_c61 : PCode := .region none true pc71_o61
def pc71_c62 : PCode := .ret
def pc71_c63 : PCode := .seq pc71_c61 pc71_c62
def pc71_c64 : PCode := .seq pc71_c60 pc71_c63
def pc71_c65 : PCode := .seq pc71_c53 pc71_c64
def pc71_c66 : PCode := .seq pc71_c46 pc71_c65
def pc71_c67 : PCode := .seq pc71_c21 pc71_c66
def pc71_c68 : PCode := .seq pc71_c20 pc71_c67
def pc71_c69 : PCode := .seq pc71_c11 pc71_c68
def pc71_c70 : PCode := .seq pc71_c4 pc71_c69
def pc71_c71 : PCode := .seq pc71_c3 pc71_c70
def pc71_c72 : PCode := .seq pc71_c2 pc71_c71
def pc71_c73 : PCode := .scope pc71_c72
def pc71_c74 : PCode := .seq pc71_c1 pc71_c73
def pc71_r : List PRes := [PRes.cell 2 true 12 [], PRes.tmp 3 [], PRes.tmp 4 []]
def pc71 : PFunc := ⟨90, pc71_r, pc71_c74, false⟩
def pc71_a : Ann := {
  kr := fun
    | 6 => some ([2, 5, 6, 7], [2, 6, 11], [])
    | 11 => some ([2, 5, 6, 51], [2, 6, 11], [])
    | 17 => some ([2, 5, 6], [2, 6, 11], [])
    | _ => none
  ka := fun
    | _ => 0
  kh := fun
    | 2 => some (.at_ 2 0)
    | 5 => some (.at_ 11 0)
    | 6 => some (.at_ 6 0)
    | 76 => some (.imm)
    | 77 => some (.at_ 11 0)
    | 78 => some (.at_ 11 0)
    | 79 => some (.at_ 11 2)
    | 80 => some (.imm)
    | 85 => some (.imm)
    | 86 => some (.at_ 11 0)
    | 87 => some (.at_ 11 0)
    | 88 => some (.at_ 11 1)
    | 89 => some (.imm)
    | _ => none
  ow := fun t => match t with
    | 96 => [(1, 5, 1)]
    | _ => []
  tc := fun t => match t with
    | 96 => true
    | _ => false }
theorem pc71_ok : compFn Try.prog pc71_a Try.f71 = some pc71 := by kernel_rfl


-- 30: vedette/thing.Read
def pc30_o1 : List POper := [⟨some 2, .alloc 28 (.agg { toList := [.int .i64 0, .int .i64 0, .int .i64 0, .int .i64 0, .string { data := { toList := [] } }, .int .i64 0, .string { data := { toList := [] } }, .int .i64 0, .string { data := { toList := [] } }, .int .i64 0, .string { data := { toList := [] } }] }) [], none, []⟩,
  ⟨some 3, .mv (.const (.int .i64 0)), none, []⟩,
  ⟨some 4, .mv (.const (.int .i64 0)), none, []⟩]
def pc30_c1 : PCode := .region none false pc30_o1
def pc30_o2 : List POper := [⟨some 9, .mv (.tmp 0), none, []⟩,
  ⟨some 10, .call true [[]] 71 [.tmp 9], none, []⟩,
  ⟨some 8, .mv (.tmp 10), none, []⟩,
  ⟨some 11, .ext (.tmp 8) 0, none, []⟩,
  ⟨some 12, .ext (.tmp 8) 1, none, []⟩,
  ⟨some 13, .ext (.tmp 8) 2, none, []⟩,
  ⟨some 5, .alloc 35 (.agg { toList := [.int .i64 0, .int .u8 0, .int .i64 0, .int .i64 0, .int .i64 0, .string { data := { toList := [] } }, .int .i64 0, .string { data := { toList := [] } }, .int .i64 0, .string { data := { toList := [] } }, .int .i64 0, .string { data := { toList := [] } }] }) [], none, []⟩,
  ⟨none, .store 12 (.tmp 5) (.tmp 11), none, []⟩,
  ⟨some 6, .mv (.tmp 12), none, []⟩,
  ⟨some 7, .mv (.tmp 13), none, []⟩]
def pc30_c2 : PCode := .region none false pc30_o2
def pc30_o3 : List POper := [⟨some 15, .mv (.tmp 7), none, []⟩,
  ⟨some 16, .prim (.bin .neq 37 false true) [.tmp 15, .const (.int .i64 0)], none, []⟩,
  ⟨some 14, .mv (.tmp 16), none, []⟩]
def pc30_c3 : PCode := .region none false pc30_o3
def pc30_o4 : List POper := [⟨some 17, .build (.agg { toList := [.int .i64 0, .int .i64 0, .int .i64 0, .int .i64 0, .string { data := { toList := [] } }, .int .i64 0, .string { data := { toList := [] } }, .int .i64 0, .string { data := { toList := [] } }, .int .i64 0, .string { data := { toList := [] } }] }) [], none, []⟩,
  ⟨some 18, .mv (.tmp 7), none, []⟩,
  ⟨none, .store 11 (.tmp 2) (.tmp 17), none, []⟩,
  ⟨some 3, .mv (.const (.int .i64 0)), none, []⟩,
  ⟨some 4, .mv (.tmp 18), none, []⟩]
def pc30_c4 : PCode := .region none false pc30_o4
def pc30_c5 : PCode := .ret
def pc30_c6 : PCode := .seq pc30_c4 pc30_c5
def pc30_o7 : List POper := [⟨some 20, .faddr 1 (.tmp 5), none, []⟩,
  ⟨some 21, .load false 1 (.tmp 20), none, []⟩,
  ⟨some 22, .prim (.bin .neq 5 false true) [.tmp 21, .const (.int .u8 31)], none, []⟩,
  ⟨some 19, .mv (.tmp 22), none, []⟩]
def pc30_c7 : PCode := .region none false pc30_o7
def pc30_o8 : List POper := [⟨some 23, .build (.agg { toList := [.int .i64 0, .int .i64 0, .int .i64 0, .int .i64 0, .string { data := { toList := [] } }, .int .i64 0, .string { data := { toList := [] } }, .int .i64 0, .string { data := { toList := [] } }, .int .i64 0, .string { data := { toList := [] } }] }) [], none, []⟩,
  ⟨none, .store 11 (.tmp 2) (.tmp 23), none, []⟩,
  ⟨some 3, .mv (.const (.int .i64 0)), none, []⟩,
  ⟨some 4, .mv (.const (.int .i64 11)), none, []⟩]
def pc30_c8 : PCode := .region none false pc30_o8
def pc30_c9 : PCode := .ret
def pc30_c10 : PCode := .seq pc30_c8 pc30_c9
def pc30_c11 : PCode := .skip
def pc30_c12 : PCode := .cond (.tmp 19) pc30_c10 pc30_c11
def pc30_c13 : PCode := .seq pc30_c7 pc30_c12
def pc30_c14 : PCode := .cond (.tmp 14) pc30_c6 pc30_c13
def pc30_c15 : PCode := .seq pc30_c3 pc30_c14
def pc30_c16 : PCode := .block 0 pc30_c15
def pc30_o17 : List POper := [⟨some 24, .faddr 0 (.tmp 5), none, []⟩,
  ⟨some 25, .load false 1 (.tmp 24), none, []⟩,
  ⟨some 26, .faddr 2 (.tmp 5), none, []⟩,
  ⟨some 27, .load true 2 (.tmp 26), none, []⟩,
  ⟨some 28, .faddr 4 (.tmp 5), none, []⟩,
  ⟨some 29, .load true 8 (.tmp 28), none, []⟩,
  ⟨some 30, .build (.agg { toList := [.int .i64 0, .int .i64 0, .int .i64 0, .int .i64 0, .string { data := { toList := [] } }, .int .i64 0, .string { data := { toList := [] } }, .int .i64 0, .string { data := { toList := [] } }, .int .i64 0, .string { data := { toList := [] } }] }) [(0, 1, .tmp 25), (1, 2, .tmp 27), (3, 8, .tmp 29)], none, []⟩,
  ⟨some 31, .mv (.tmp 6), none, []⟩,
  ⟨none, .store 11 (.tmp 2) (.tmp 30), none, []⟩,
  ⟨some 3, .mv (.tmp 31), none, []⟩,
  ⟨some 4, .mv (.const (.int .i64 0)), none, []⟩]
def pc30_c17 : PCode := .region none false pc30_o17
def pc30_c18 : PCode := .ret
def pc30_c19 : PCode := .seq pc30_c17 pc30_c18
def pc30_c20 : PCode := .seq pc30_c16 pc30_c19
def pc30_c21 : PCode := .seq pc30_c2 pc30_c20
def pc30_c22 : PCode := .seq pc30_c1 pc30_c21
def pc30_r : List PRes := [PRes.cell 2 true 11 [], PRes.tmp 3 [], PRes.tmp 4 []]
def pc30 : PFunc := ⟨32, pc30_r, pc30_c22, false⟩
def pc30_a : Ann := {
  kr := fun
    | _ => none
  ka := fun
    | _ => 0
  kh := fun
    | _ => none
  ow := fun t => match t with
    | 96 => [(1, 5, 1)]
    | _ => []
  tc := fun t => match t with
    | 96 => true
    | _ => false }
theorem pc30_ok : compFn Try.prog pc30_a Try.f30 = some pc30 := by kernel_rfl


-- 32: vedette/thing.Some
def pc32_o1 : List POper := [⟨some 2, .mv (.const (.slice none 0 0)), none, []⟩,
  ⟨some 3, .mv (.const (.int .i64 0)), none, []⟩,
  ⟨some 4, .mv (.const (.int .i64 0)), none, []⟩]
def pc32_c1 : PCode := .region none false pc32_o1
def pc32_o2 : List POper := [⟨some 13, .mv (.tmp 0), none, []⟩,
  ⟨some 14, .call true [[]] 73 [.tmp 13], none, []⟩,
  ⟨some 12, .mv (.tmp 14), none, []⟩,
  ⟨some 15, .ext (.tmp 12) 0, none, []⟩,
  ⟨some 16, .ext (.tmp 12) 1, none, []⟩,
  ⟨some 17, .ext (.tmp 12) 2, none, []⟩,
  ⟨some 5, .mv (.tmp 15), none, []⟩,
  ⟨some 6, .mv (.tmp 16), none, []⟩,
  ⟨some 7, .mv (.tmp 17), none, []⟩]
def pc32_c2 : PCode := .region none false pc32_o2
def pc32_o3 : List POper := [⟨some 19, .mv (.tmp 7), none, []⟩,
  ⟨some 20, .prim (.bin .neq 37 false true) [.tmp 19, .const (.int .i64 0)], none, []⟩,
  ⟨some 18, .mv (.tmp 20), none, []⟩]
def pc32_c3 : PCode := .region none false pc32_o3
def pc32_o4 : List POper := [⟨some 21, .mv (.tmp 7), none, []⟩,
  ⟨some 2, .mv (.const (.slice none 0 0)), none, []⟩,
  ⟨some 3, .mv (.const (.int .i64 0)), none, []⟩,
  ⟨some 4, .mv (.tmp 21), none, []⟩]
def pc32_c4 : PCode := .region none false pc32_o4
def pc32_c5 : PCode := .ret
def pc32_c6 : PCode := .seq pc32_c4 pc32_c5
def pc32_o7 : List POper := [⟨some 23, .mv (.tmp 5), none, []⟩,
  ⟨some 24, .prim (.bin .gtr 89 false true) [.tmp 23, .const (.int .u64 200)], none, []⟩,
  ⟨some 22, .mv (.tmp 24), none, []⟩]
def pc32_c7 : PCode := .region none false pc32_o7
def pc32_o8 : List POper := [⟨some 2, .mv (.const (.slice none 0 0)), none, []⟩,
  ⟨some 3, .mv (.const (.int .i64 0)), none, []⟩,
  ⟨some 4, .mv (.const (.int .i64 13)), none, []⟩]
def pc32_c8 : PCode := .region none false pc32_o8
def pc32_c9 : PCode := .ret
def pc32_c10 : PCode := .seq pc32_c8 pc32_c9
def pc32_c11 : PCode := .skip
def pc32_c12 : PCode := .cond (.tmp 22) pc32_c10 pc32_c11
def pc32_c13 : PCode := .seq pc32_c7 pc32_c12
def pc32_c14 : PCode := .cond (.tmp 18) pc32_c6 pc32_c13
def pc32_c15 : PCode := .seq pc32_c3 pc32_c14
def pc32_c16 : PCode := .block 0 pc32_c15
def pc32_o17 : List POper := [⟨some 8, .mv (.const (.slice none 0 0)), none, []⟩]
def pc32_c17 : PCode := .region none false pc32_o17
def pc32_o18 : List POper := [⟨some 25, .mv (.tmp 5), none, []⟩,
  ⟨some 26, .mv (.const (.int .u64 0)), none, []⟩]
def pc32_c18 : PCode := .region none false pc32_o18
def pc32_o19 : List POper := [⟨some 27, .prim (.bin .lss 89 false false) [.tmp 26, .tmp 25], none, []⟩]
def pc32_c19 : PCode := .region (some ([0, 6, 8, 25, 26], [9, 100008], [(false, 8, 0, 100008, 28, 11)])) false pc32_o19
def pc32_c20 : PCode := .skip
def pc32_c21 : PCode := .exit 1
def pc32_c22 : PCode := .cond (.tmp 27) pc32_c20 pc32_c21
def pc32_o23 : List POper := [⟨some 29, .mv (.tmp 0), none, []⟩,
  ⟨some 30, .mv (.tmp 6), none, []⟩,
  ⟨some 31, .prim (.slice 9 true false) [.tmp 29, .tmp 30], none, []⟩,
  ⟨some 32, .call true [[]] 30 [.tmp 31], none, []⟩,
  ⟨some 28, .mv (.tmp 32), none, []⟩,
  ⟨some 33, .ext (.tmp 28) 0, none, []⟩,
  ⟨some 34, .ext (.tmp 28) 1, none, []⟩,
  ⟨some 35, .ext (.tmp 28) 2, none, []⟩,
  ⟨some 9, .alloc 28 (.agg { toList := [.int .i64 0, .int .i64 0, .int .i64 0, .int .i64 0, .string { data := { toList := [] } }, .int .i64 0, .string { data := { toList := [] } }, .int .i64 0, .string { data := { toList := [] } }, .int .i64 0, .string { data := { toList := [] } }] }) [], none, []⟩,
  ⟨none, .store 11 (.tmp 9) (.tmp 33), none, []⟩,
  ⟨some 10, .mv (.tmp 34), none, []⟩,
  ⟨some 11, .mv (.tmp 35), none, []⟩]
def pc32_c23 : PCode := .region none false pc32_o23
def pc32_o24 : List POper := [⟨some 36, .mv (.tmp 11), none, []⟩,
  ⟨some 37, .prim (.bin .neq 37 false true) [.tmp 36, .const (.int .i64 0)], none, []⟩]
def pc32_c24 : PCode := .region none false pc32_o24
def pc32_o25 : List POper := [⟨some 38, .mv (.tmp 11), none, []⟩,
  ⟨some 2, .mv (.const (.slice none 0 0)), none, []⟩,
  ⟨some 3, .mv (.const (.int .i64 0)), none, []⟩,
  ⟨some 4, .mv (.tmp 38), none, []⟩]
def pc32_c25 : PCode := .region none false pc32_o25
def pc32_c26 : PCode := .ret
def pc32_c27 : PCode := .seq pc32_c25 pc32_c26
def pc32_c28 : PCode := .skip
def pc32_c29 : PCode := .cond (.tmp 37) pc32_c27 pc32_c28
def pc32_c30 : PCode := .seq pc32_c24 pc32_c29
def pc32_o31 : List POper := [⟨some 39, .mv (.tmp 8), none, [(8, .obj 100008)]⟩,
  ⟨some 40, .lenS (.tmp 39), none, [(39, .obj 100008)]⟩,
  ⟨some 41, .prim (.bin .gtr 3 false true) [.tmp 40, .const (.int .i64 0)], none, [(40, .imm)]⟩,
  ⟨some 42, .mv (.tmp 41), none, [(41, .imm)]⟩,
  ⟨some 43, .faddr 0 (.tmp 9), some (42, true), [(9, .at_ 9 0)]⟩,
  ⟨some 44, .load false 1 (.tmp 43), some (42, true), [(43, .at_ 9 0)]⟩,
  ⟨some 45, .mv (.tmp 8), some (42, true), [(8, .obj 100008)]⟩,
  ⟨some 46, .mv (.tmp 8), some (42, true), [(8, .obj 100008)]⟩,
  ⟨some 47, .lenS (.tmp 46), some (42, true), [(46, .obj 100008)]⟩,
  ⟨some 48, .prim (.bin .sub 3 false true) [.tmp 47, .const (.int .i64 1)], some (42, true), [(47, .imm)]⟩,
  ⟨some 49, .iaddrS 11 (.tmp 45) (.tmp 48), some (42, true), [(45, .obj 100008), (48, .imm)]⟩,
  ⟨some 50, .faddr 0 (.tmp 49), some (42, true), [(49, .obj 100008)]⟩,
  ⟨some 51, .load false 1 (.tmp 50), some (42, true), [(50, .obj 100008)]⟩,
  ⟨some 52, .prim (.bin .leq 3 false false) [.tmp 44, .tmp 51], some (42, true), [(44, .imm), (51, .imm)]⟩,
  ⟨some 53, .pick (.tmp 42) (.tmp 52) (.const (.bool false)), none, [(42, .imm), (52, .imm)]⟩]
def pc32_c31 : PCode := .region none true pc32_o31
def pc32_o32 : List POper := [⟨some 2, .mv (.const (.slice none 0 0)), none, []⟩,
  ⟨some 3, .mv (.const (.int .i64 0)), none, []⟩,
  ⟨some 4, .mv (.const (.int .i64 11)), none, []⟩]
def pc32_c32 : PCode := .region none false pc32_o32
def pc32_c33 : PCode := .ret
def pc32_c34 : PCode := .seq pc32_c32 pc32_c33
def pc32_c35 : PCode := .skip
def pc32_c36 : PCode := .cond (.tmp 53) pc32_c34 pc32_c35
def pc32_c37 : PCode := .seq pc32_c31 pc32_c36
def pc32_o38 : List POper := [⟨some 54, .mv (.tmp 8), none, []⟩,
  ⟨some 55, .load true 11 (.tmp 9), none, []⟩,
  ⟨some 56, .bslice 28 11 [.tmp 55], none, []⟩,
  ⟨some 57, .app 100008 28 11 120 (.tmp 54) (.tmp 56), none, []⟩,
  ⟨some 8, .mv (.tmp 57), none, []⟩]
def pc32_c38 : PCode := .region (some ([0, 6, 8, 9, 10, 25, 26], [9, 100008], [])) false pc32_o38
def pc32_o39 : List POper := [⟨some 58, .mv (.tmp 6), none, []⟩,
  ⟨some 59, .mv (.tmp 10), none, []⟩,
  ⟨some 60, .prim (.bin .add 3 false false) [.tmp 58, .tmp 59], none, []⟩,
  ⟨some 6, .mv (.tmp 60), none, []⟩]
def pc32_c39 : PCode := .region none false pc32_o39
def pc32_c40 : PCode := .seq pc32_c38 pc32_c39
def pc32_c41 : PCode := .seq pc32_c37 pc32_c40
def pc32_c42 : PCode := .seq pc32_c30 pc32_c41
def pc32_c43 : PCode := .seq pc32_c23 pc32_c42
def pc32_c44 : PCode := .block 2 pc32_c43
def pc32_o45 : List POper := [⟨some 61, .prim (.bin .add 89 false true) [.tmp 26, .const (.int .u64 1)], none, []⟩,
  ⟨some 26, .mv (.tmp 61), none, []⟩]
def pc32_c45 : PCode := .region none false pc32_o45
def pc32_c46 : PCode := .seq pc32_c44 pc32_c45
def pc32_c47 : PCode := .seq pc32_c22 pc32_c46
def pc32_c48 : PCode := .seq pc32_c19 pc32_c47
def pc32_c49 : PCode := .loop pc32_c48
def pc32_c50 : PCode := .block 1 pc32_c49
def pc32_c51 : PCode := .seq pc32_c18 pc32_c50
def pc32_o52 : List POper := [⟨some 62, .mv (.tmp 8), none, []⟩,
  ⟨some 63, .mv (.tmp 6), none, []⟩,
  ⟨some 2, .mv (.tmp 62), none, []⟩,
  ⟨some 3, .mv (.tmp 63), none, []⟩,
  ⟨some 4, .mv (.const (.int .i64 0)), none, []⟩]
def pc32_c52 : PCode := .region none false pc32_o52
def pc32_c53 : PCode := .ret
def pc32_c54 : PCode := .seq pc32_c52 pc32_c53
def pc32_c55 : PCode := .seq pc32_c51 pc32_c54
def pc32_c56 : PCode := .seq pc32_c17 pc32_c55
def pc32_c57 : PCode := .seq pc32_c16 pc32_c56
def pc32_c58 : PCode := .seq pc32_c2 pc32_c57
def pc32_c59 : PCode := .seq pc32_c1 pc32_c58
def pc32_r : List PRes := [PRes.tmp 2 [(0, 11)], PRes.tmp 3 [], PRes.tmp 4 []]
def pc32 : PFunc := ⟨64, pc32_r, pc32_c59, false⟩
def pc32_a : Ann := {
  kr := fun
    | 8 => some ([0, 6, 8, 25, 26], [9, 100008], [(false, 8, 0, 100008, 28, 11)])
    | 14 => some ([0, 6, 8, 9, 10, 25, 26], [9, 100008], [])
    | _ => none
  ka := fun
    | 57 => 100008
    | _ => 0
  kh := fun
    | 8 => some (.obj 100008)
    | 9 => some (.at_ 9 0)
    | 39 => some (.obj 100008)
    | 40 => some (.imm)
    | 41 => some (.imm)
    | 42 => some (.imm)
    | 43 => some (.at_ 9 0)
    | 44 => some (.imm)
    | 45 => some (.obj 100008)
    | 46 => some (.obj 100008)
    | 47 => some (.imm)
    | 48 => some (.imm)
    | 49 => some (.obj 100008)
    | 50 => some (.obj 100008)
    | 51 => some (.imm)
    | 52 => some (.imm)
    | _ => none
  ow := fun t => match t with
    | 96 => [(1, 5, 1)]
    | _ => []
  tc := fun t => match t with
    | 96 => true
    | _ => false }
theorem pc32_ok : compFn Try.prog pc32_a Try.f32 = some pc32 := by kernel_rfl


-- 15: vedette/vedettelaw7.known
def pc15_o1 : List POper := [⟨some 0, .mv (.const (.bool false)), none, []⟩]
def pc15_c1 : PCode := .region none false pc15_o1
def pc15_o2 : List POper := [⟨some 14, .build (.agg { toList := [.int .i64 0, .int .i64 0] }) [(0, 1, .const (.int .i64 3)), (1, 1, .const (.int .i64 4))], none, []⟩,
  ⟨some 15, .build (.agg { toList := [.int .i64 0, .string { data := { toList := [] } }] }) [(0, 1, .const (.int .i64 (-5)))], none, []⟩,
  ⟨some 16, .build (.agg { toList := [.int .i64 0, .string { data := { toList := [] } }] }) [(1, 1, .const (.string { data := { toList := [97, 98] } }))], none, []⟩,
  ⟨some 17, .build (.agg { toList := [.int .i64 0, .string { data := { toList := [] } }, .int .i64 0, .string { data := { toList := [] } }, .int .i64 0, .string { data := { toList := [] } }, .int .i64 0, .string { data := { toList := [] } }] }) [(0, 2, .tmp 15), (2, 2, .tmp 16)], none, []⟩,
  ⟨some 18, .build (.agg { toList := [.int .i64 0, .int .i64 0, .int .i64 0, .int .i64 0, .string { data := { toList := [] } }, .int .i64 0, .string { data := { toList := [] } }, .int .i64 0, .string { data := { toList := [] } }, .int .i64 0, .string { data := { toList := [] } }] }) [(0, 1, .const (.int .i64 9)), (1, 2, .tmp 14), (3, 8, .tmp 17)], none, []⟩,
  ⟨some 1, .alloc 28 (.agg { toList := [.int .i64 0, .int .i64 0, .int .i64 0, .int .i64 0, .string { data := { toList := [] } }, .int .i64 0, .string { data := { toList := [] } }, .int .i64 0, .string { data := { toList := [] } }, .int .i64 0, .string { data := { toList := [] } }] }) [], none, []⟩,
  ⟨none, .store 11 (.tmp 1) (.tmp 18), none, []⟩]
def pc15_c2 : PCode := .region none false pc15_o2
def pc15_o3 : List POper := [⟨some 20, .load true 11 (.tmp 1), none, []⟩,
  ⟨some 21, .call true [[]] 21 [.tmp 20], none, []⟩,
  ⟨some 19, .mv (.tmp 21), none, []⟩,
  ⟨some 22, .ext (.tmp 19) 0, none, []⟩,
  ⟨some 23, .ext (.tmp 19) 1, none, []⟩,
  ⟨some 2, .mv (.tmp 22), none, []⟩,
  ⟨some 3, .mv (.tmp 23), none, []⟩]
def pc15_c3 : PCode := .region none false pc15_o3
def pc15_o4 : List POper := [⟨some 25, .mv (.tmp 2), none, []⟩,
  ⟨some 26, .prim (.bin .add 9 false true) [.tmp 25, .const (.string { data := { toList := [113] } })], none, []⟩,
  ⟨some 27, .call true [[]] 30 [.tmp 26], none, []⟩,
  ⟨some 24, .mv (.tmp 27), none, []⟩,
  ⟨some 28, .ext (.tmp 24) 0, none, []⟩,
  ⟨some 29, .ext (.tmp 24) 1, none, []⟩,
  ⟨some 30, .ext (.tmp 24) 2, none, []⟩,
  ⟨some 4, .alloc 28 (.agg { toList := [.int .i64 0, .int .i64 0, .int .i64 0, .int .i64 0, .string { data := { toList := [] } }, .int .i64 0, .string { data := { toList := [] } }, .int .i64 0, .string { data := { toList := [] } }, .int .i64 0, .string { data := { toList := [] } }] }) [], none, []⟩,
  ⟨none, .store 11 (.tmp 4) (.tmp 28), none, []⟩,
  ⟨some 5, .mv (.tmp 29), none, []⟩,
  ⟨some 6, .mv (.tmp 30), none, []⟩]
def pc15_c4 : PCode := .region none false pc15_o4
def pc15_o5 : List POper := [⟨some 32, .load true 11 (.tmp 1), none, []⟩,
  ⟨some 33, .bslice 28 11 [.tmp 32], none, []⟩,
  ⟨some 34, .call true [[(0, 11)]] 22 [.tmp 33], none, []⟩,
  ⟨some 31, .mv (.tmp 34), none, []⟩,
  ⟨some 35, .ext (.tmp 31) 0, none, []⟩,
  ⟨some 36, .ext (.tmp 31) 1, none, []⟩,
  ⟨some 7, .mv (.tmp 35), none, []⟩,
  ⟨some 8, .mv (.tmp 36), none, []⟩]
def pc15_c5 : PCode := .region none false pc15_o5
def pc15_o6 : List POper := [⟨some 38, .mv (.tmp 7), none, []⟩,
  ⟨some 39, .call true [[]] 32 [.tmp 38], none, []⟩,
  ⟨some 37, .mv (.tmp 39), none, []⟩,
  ⟨some 40, .ext (.tmp 37) 0, none, []⟩,
  ⟨some 41, .ext (.tmp 37) 1, none, []⟩,
  ⟨some 42, .ext (.tmp 37) 2, none, []⟩,
  ⟨some 9, .mv (.tmp 40), none, []⟩,
  ⟨some 10, .mv (.tmp 41), none, []⟩,
  ⟨some 11, .mv (.tmp 42), none, []⟩]
def pc15_c6 : PCode := .region none false pc15_o6
def pc15_o7 : List POper := [⟨some 44, .load true 11 (.tmp 1), none, []⟩,
  ⟨some 45, .load true 11 (.tmp 1), none, []⟩,
  ⟨some 46, .bslice 28 11 [.tmp 44, .tmp 45], none, []⟩,
  ⟨some 47, .call true [[(0, 11)]] 22 [.tmp 46], none, []⟩,
  ⟨some 43, .mv (.tmp 47), none, []⟩,
  ⟨some 48, .ext (.tmp 43) 0, none, []⟩,
  ⟨some 49, .ext (.tmp 43) 1, none, []⟩,
  ⟨some 12, .mv (.tmp 48), none, []⟩,
  ⟨some 13, .mv (.tmp 49), none, []⟩]
def pc15_c7 : PCode := .region none false pc15_o7
def pc15_o8 : List POper := [⟨some 50, .mv (.tmp 3), none, []⟩,
  ⟨some 51, .prim (.bin .eql 37 false true) [.tmp 50, .const (.int .i64 0)], none, []⟩,
  ⟨some 52, .mv (.tmp 51), none, []⟩,
  ⟨some 53, .mv (.tmp 6), some (52, true), []⟩,
  ⟨some 54, .prim (.bin .eql 37 false true) [.tmp 53, .const (.int .i64 0)], some (52, true), []⟩,
  ⟨some 55, .pick (.tmp 52) (.tmp 54) (.const (.bool false)), none, []⟩,
  ⟨some 56, .mv (.tmp 55), none, []⟩,
  ⟨some 57, .mv (.tmp 5), some (56, true), []⟩,
  ⟨some 58, .mv (.tmp 2), some (56, true), []⟩,
  ⟨some 59, .prim (.len 9) [.tmp 58], some (56, true), []⟩,
  ⟨some 60, .prim (.bin .eql 3 false false) [.tmp 57, .tmp 59], some (56, true), []⟩,
  ⟨some 61, .pick (.tmp 56) (.tmp 60) (.const (.bool false)), none, []⟩,
  ⟨some 62, .mv (.tmp 61), none, []⟩,
  ⟨some 63, .load true 11 (.tmp 4), some (62, true), []⟩,
  ⟨some 64, .load true 11 (.tmp 1), some (62, true), []⟩,
  ⟨some 65, .prim (.bin .eql 28 false false) [.tmp 63, .tmp 64], some (62, true), []⟩,
  ⟨some 66, .pick (.tmp 62) (.tmp 65) (.const (.bool false)), none, []⟩,
  ⟨some 67, .mv (.tmp 66), none, []⟩,
  ⟨some 68, .mv (.tmp 8), some (67, true), []⟩,
  ⟨some 69, .prim (.bin .eql 37 false true) [.tmp 68, .const (.int .i64 0)], some (67, true), []⟩,
  ⟨some 70, .pick (.tmp 67) (.tmp 69) (.const (.bool false)), none, []⟩,
  ⟨some 71, .mv (.tmp 70), none, []⟩,
  ⟨some 72, .mv (.tmp 11), some (71, true), []⟩,
  ⟨some 73, .prim (.bin .eql 37 false true) [.tmp 72, .const (.int .i64 0)], some (71, true), []⟩,
  ⟨some 74, .pick (.tmp 71) (.tmp 73) (.const (.bool false)), none, []⟩,
  ⟨some 75, .mv (.tmp 74), none, []⟩,
  ⟨some 76, .mv (.tmp 10), some (75, true), []⟩,
  ⟨some 77, .mv (.tmp 7), some (75, true), []⟩,
  ⟨some 78, .prim (.len 9) [.tmp 77], some (75, true), []⟩,
  ⟨some 79, .prim (.bin .eql 3 false false) [.tmp 76, .tmp 78], some (75, true), []⟩,
  ⟨some 80, .pick (.tmp 75) (.tmp 79) (.const (.bool false)), none, []⟩,
  ⟨some 81, .mv (.tmp 80), none, []⟩,
  ⟨some 82, .mv (.tmp 9), some (81, true), []⟩,
  ⟨some 83, .lenS (.tmp 82), some (81, true), []⟩,
  ⟨some 84, .prim (.bin .eql 3 false true) [.tmp 83, .const (.int .i64 1)], some (81, true), []⟩,
  ⟨some 85, .pick (.tmp 81) (.tmp 84) (.const (.bool false)), none, []⟩,
  ⟨some 86, .mv (.tmp 85), none, []⟩,
  ⟨some 87, .mv (.tmp 13), some (86, true), []⟩,
  ⟨some 88, .prim (.bin .eql 37 false true) [.tmp 87, .const (.int .i64 11)], some (86, true), []⟩,
  ⟨some 89, .pick (.tmp 86) (.tmp 88) (.const (.bool false)), none, []⟩,
  ⟨some 90, .mv (.tmp 89), none, []⟩,
  ⟨some 91, .load true 11 (.tmp 1), some (90, true), []⟩,
  ⟨some 92, .call true [[]] 24 [.tmp 91], some (90, true), []⟩,
  ⟨some 93, .pick (.tmp 90) (.tmp 92) (.const (.bool false)), none, []⟩,
  ⟨some 94, .mv (.tmp 93), none, []⟩,
  ⟨some 95, .load true 11 (.tmp 1), some (94, true), []⟩,
  ⟨some 96, .load true 11 (.tmp 4), some (94, true), []⟩,
  ⟨some 97, .call true [[], []] 25 [.tmp 95, .tmp 96], some (94, true), []⟩,
  ⟨some 98, .pick (.tmp 94) (.tmp 97) (.const (.bool false)), none, []⟩,
  ⟨some 99, .mv (.tmp 98), none, []⟩,
  ⟨some 100, .call true [[]] 26 [.const (.int .i64 9)], some (99, true), []⟩,
  ⟨some 101, .prim (.bin .eql 3 false true) [.tmp 100, .const (.int .i64 1)], some (99, true), []⟩,
  ⟨some 102, .pick (.tmp 99) (.tmp 101) (.const (.bool false)), none, []⟩,
  ⟨some 103, .mv (.tmp 102), none, []⟩,
  ⟨some 104, .call true [[], []] 28 [.const (.int .i64 1), .const (.int .i64 2)], some (103, true), []⟩,
  ⟨some 105, .prim (.bin .eql 3 false true) [.tmp 104, .const (.int .i64 9)], some (103, true), []⟩,
  ⟨some 106, .pick (.tmp 103) (.tmp 105) (.const (.bool false)), none, []⟩,
  ⟨some 0, .mv (.tmp 106), none, []⟩]
def pc15_c8 : PCode := .region none false pc15_o8
def pc15_c9 : PCode := .ret
def pc15_c10 : PCode := .seq pc15_c8 pc15_c9
def pc15_c11 : PCode := .seq pc15_c7 pc15_c10
def pc15_c12 : PCode := .seq pc15_c6 pc15_c11
def pc15_c13 : PCode := .seq pc15_c5 pc15_c12
def pc15_c14 : PCode := .seq pc15_c4 pc15_c13
def pc15_c15 : PCode := .seq pc15_c3 pc15_c14
def pc15_c16 : PCode := .seq pc15_c2 pc15_c15
def pc15_c17 : PCode := .seq pc15_c1 pc15_c16
def pc15_r : List PRes := [PRes.tmp 0 []]
def pc15 : PFunc := ⟨107, pc15_r, pc15_c17, false⟩
def pc15_a : Ann := {
  kr := fun
    | _ => none
  ka := fun
    | _ => 0
  kh := fun
    | _ => none
  ow := fun t => match t with
    | 96 => [(1, 5, 1)]
    | _ => []
  tc := fun t => match t with
    | 96 => true
    | _ => false }
theorem pc15_ok : compFn Try.prog pc15_a Try.f15 = some pc15 := by kernel_rfl


-- 57: vedette/vedettelaw7.fewField
def pc57_o1 : List POper := [⟨some 1, .box 25 (.tmp 0) [], none, []⟩,
  ⟨some 2, .mv (.const (.bool false)), none, []⟩]
def pc57_c1 : PCode := .region none false pc57_o1
def pc57_o2 : List POper := [⟨some 3, .faddr 1 (.tmp 1), none, []⟩,
  ⟨some 4, .load false 1 (.tmp 3), none, []⟩,
  ⟨some 5, .prim (.len 9) [.tmp 4], none, []⟩,
  ⟨some 6, .prim (.bin .leq 3 false true) [.tmp 5, .const (.int .i64 40)], none, []⟩,
  ⟨some 2, .mv (.tmp 6), none, []⟩]
def pc57_c2 : PCode := .region none false pc57_o2
def pc57_c3 : PCode := .ret
def pc57_c4 : PCode := .seq pc57_c2 pc57_c3
def pc57_c5 : PCode := .seq pc57_c1 pc57_c4
def pc57_r : List PRes := [PRes.tmp 2 []]
def pc57 : PFunc := ⟨7, pc57_r, pc57_c5, false⟩
def pc57_a : Ann := {
  kr := fun
    | _ => none
  ka := fun
    | _ => 0
  kh := fun
    | _ => none
  ow := fun t => match t with
    | 96 => [(1, 5, 1)]
    | _ => []
  tc := fun t => match t with
    | 96 => true
    | _ => false }
theorem pc57_ok : compFn Try.prog pc57_a Try.f57 = some pc57 := by kernel_rfl


-- 16: vedette/vedettelaw7.fewThing
def pc16_o1 : List POper := [⟨some 1, .box 28 (.tmp 0) [], none, []⟩,
  ⟨some 2, .mv (.const (.bool false)), none, []⟩]
def pc16_c1 : PCode := .region none false pc16_o1
def pc16_o2 : List POper := [⟨some 3, .mv (.const (.int .i64 0)), none, []⟩]
def pc16_c2 : PCode := .region none false pc16_o2
def pc16_o3 : List POper := [⟨some 4, .mv (.tmp 3), none, []⟩,
  ⟨some 5, .prim (.bin .lss 3 false true) [.tmp 4, .const (.int .i64 4)], none, []⟩]
def pc16_c3 : PCode := .region (some ([1, 3], [1], [])) false pc16_o3
def pc16_c4 : PCode := .skip
def pc16_c5 : PCode := .exit 0
def pc16_c6 : PCode := .cond (.tmp 5) pc16_c4 pc16_c5
def pc16_c7 : PCode := .seq pc16_c3 pc16_c6
def pc16_o8 : List POper := [⟨some 8, .mv (.tmp 3), none, []⟩,
  ⟨some 9, .faddr 3 (.tmp 1), none, []⟩,
  ⟨some 10, .iaddrA 4 2 (.tmp 9) (.tmp 8), none, []⟩,
  ⟨some 11, .load true 2 (.tmp 10), none, []⟩,
  ⟨some 12, .call true [[]] 57 [.tmp 11], none, []⟩,
  ⟨some 13, .prim (.un .not) [.tmp 12], none, []⟩]
def pc16_c8 : PCode := .region none false pc16_o8
def pc16_o9 : List POper := [⟨some 2, .mv (.const (.bool false)), none, []⟩]
def pc16_c9 : PCode := .region none false pc16_o9
def pc16_c10 : PCode := .ret
def pc16_c11 : PCode := .seq pc16_c9 pc16_c10
def pc16_c12 : PCode := .skip
def pc16_c13 : PCode := .cond (.tmp 13) pc16_c11 pc16_c12
def pc16_c14 : PCode := .seq pc16_c8 pc16_c13
def pc16_c15 : PCode := .block 1 pc16_c14
def pc16_o16 : List POper := [⟨some 6, .mv (.tmp 3), none, []⟩,
  ⟨some 7, .prim (.bin .add 3 false true) [.tmp 6, .const (.int .i64 1)], none, []⟩,
  ⟨some 3, .mv (.tmp 7), none, []⟩]
def pc16_c16 : PCode := .region none false pc16_o16
def pc16_c17 : PCode := .seq pc16_c15 pc16_c16
def pc16_c18 : PCode := .seq pc16_c7 pc16_c17
def pc16_c19 : PCode := .loop pc16_c18
def pc16_c20 : PCode := .block 0 pc16_c19
def pc16_c21 : PCode := .seq pc16_c2 pc16_c20
def pc16_o22 : List POper := [⟨some 2, .mv (.const (.bool true)), none, []⟩]
def pc16_c22 : PCode := .region none false pc16_o22
def pc16_c23 : PCode := .ret
def pc16_c24 : PCode := .seq pc16_c22 pc16_c23
def pc16_c25 : PCode := .seq pc16_c21 pc16_c24
def pc16_c26 : PCode := .seq pc16_c1 pc16_c25
def pc16_r : List PRes := [PRes.tmp 2 []]
def pc16 : PFunc := ⟨14, pc16_r, pc16_c26, false⟩
def pc16_a : Ann := {
  kr := fun
    | 2 => some ([1, 3], [1], [])
    | _ => none
  ka := fun
    | _ => 0
  kh := fun
    | _ => none
  ow := fun t => match t with
    | 96 => [(1, 5, 1)]
    | _ => []
  tc := fun t => match t with
    | 96 => true
    | _ => false }
theorem pc16_ok : compFn Try.prog pc16_a Try.f16 = some pc16 := by kernel_rfl


-- 17: vedette/vedettelaw7.fewThings
def pc17_o1 : List POper := [⟨some 2, .mv (.const (.bool false)), none, []⟩]
def pc17_c1 : PCode := .region none false pc17_o1
def pc17_o2 : List POper := [⟨some 3, .mv (.const (.int .i64 0)), none, []⟩]
def pc17_c2 : PCode := .region none false pc17_o2
def pc17_o3 : List POper := [⟨some 4, .mv (.tmp 3), none, []⟩,
  ⟨some 5, .mv (.tmp 0), none, []⟩,
  ⟨some 6, .lenS (.tmp 5), none, []⟩,
  ⟨some 7, .prim (.bin .lss 3 false false) [.tmp 4, .tmp 6], none, []⟩]
def pc17_c3 : PCode := .region (some ([0, 3], [], [])) false pc17_o3
def pc17_c4 : PCode := .skip
def pc17_c5 : PCode := .exit 0
def pc17_c6 : PCode := .cond (.tmp 7) pc17_c4 pc17_c5
def pc17_c7 : PCode := .seq pc17_c3 pc17_c6
def pc17_o8 : List POper := [⟨some 10, .mv (.tmp 0), none, []⟩,
  ⟨some 11, .mv (.tmp 3), none, []⟩,
  ⟨some 12, .iaddrS 11 (.tmp 10) (.tmp 11), none, []⟩,
  ⟨some 13, .load true 11 (.tmp 12), none, []⟩,
  ⟨some 14, .call true [[]] 16 [.tmp 13], none, []⟩,
  ⟨some 15, .prim (.un .not) [.tmp 14], none, []⟩]
def pc17_c8 : PCode := .region none false pc17_o8
def pc17_o9 : List POper := [⟨some 2, .mv (.const (.bool false)), none, []⟩]
def pc17_c9 : PCode := .region none false pc17_o9
def pc17_c10 : PCode := .ret
def pc17_c11 : PCode := .seq pc17_c9 pc17_c10
def pc17_c12 : PCode := .skip
def pc17_c13 : PCode := .cond (.tmp 15) pc17_c11 pc17_c12
def pc17_c14 : PCode := .seq pc17_c8 pc17_c13
def pc17_c15 : PCode := .block 1 pc17_c14
def pc17_o16 : List POper := [⟨some 8, .mv (.tmp 3), none, []⟩,
  ⟨some 9, .prim (.bin .add 3 false true) [.tmp 8, .const (.int .i64 1)], none, []⟩,
  ⟨some 3, .mv (.tmp 9), none, []⟩]
def pc17_c16 : PCode := .region none false pc17_o16
def pc17_c17 : PCode := .seq pc17_c15 pc17_c16
def pc17_c18 : PCode := .seq pc17_c7 pc17_c17
def pc17_c19 : PCode := .loop pc17_c18
def pc17_c20 : PCode := .block 0 pc17_c19
def pc17_c21 : PCode := .seq pc17_c2 pc17_c20
def pc17_o22 : List POper := [⟨some 16, .mv (.tmp 0), none, []⟩,
  ⟨some 17, .lenS (.tmp 16), none, []⟩,
  ⟨some 18, .prim (.bin .leq 3 false true) [.tmp 17, .const (.int .i64 30)], none, []⟩,
  ⟨some 2, .mv (.tmp 18), none, []⟩]
def pc17_c22 : PCode := .region none false pc17_o22
def pc17_c23 : PCode := .ret
def pc17_c24 : PCode := .seq pc17_c22 pc17_c23
def pc17_c25 : PCode := .seq pc17_c21 pc17_c24
def pc17_c26 : PCode := .seq pc17_c1 pc17_c25
def pc17_r : List PRes := [PRes.tmp 2 []]
def pc17 : PFunc := ⟨19, pc17_r, pc17_c26, false⟩
def pc17_a : Ann := {
  kr := fun
    | 2 => some ([0, 3], [], [])
    | _ => none
  ka := fun
    | _ => 0
  kh := fun
    | _ => none
  ow := fun t => match t with
    | 96 => [(1, 5, 1)]
    | _ => []
  tc := fun t => match t with
    | 96 => true
    | _ => false }
theorem pc17_ok : compFn Try.prog pc17_a Try.f17 = some pc17 := by kernel_rfl


-- 7: vedette/vedettelaw7.ThingRows
def pc7_o1 : List POper := [⟨some 2, .mv (.const (.bool false)), none, []⟩]
def pc7_c1 : PCode := .region none false pc7_o1
def pc7_o2 : List POper := [⟨some 13, .call true [] 15 [], none, []⟩,
  ⟨some 14, .prim (.un .not) [.tmp 13], none, []⟩]
def pc7_c2 : PCode := .region none false pc7_o2
def pc7_o3 : List POper := [⟨some 2, .mv (.const (.bool false)), none, []⟩]
def pc7_c3 : PCode := .region none false pc7_o3
def pc7_c4 : PCode := .ret
def pc7_c5 : PCode := .seq pc7_c3 pc7_c4
def pc7_c6 : PCode := .skip
def pc7_c7 : PCode := .cond (.tmp 14) pc7_c5 pc7_c6
def pc7_c8 : PCode := .seq pc7_c2 pc7_c7
def pc7_o9 : List POper := [⟨some 15, .mv (.tmp 0), none, []⟩,
  ⟨some 16, .call true [[(0, 11)]] 17 [.tmp 15], none, []⟩,
  ⟨some 17, .prim (.un .not) [.tmp 16], none, []⟩]
def pc7_c9 : PCode := .region none false pc7_o9
def pc7_o10 : List POper := [⟨some 2, .mv (.const (.bool true)), none, []⟩]
def pc7_c10 : PCode := .region none false pc7_o10
def pc7_c11 : PCode := .ret
def pc7_c12 : PCode := .seq pc7_c10 pc7_c11
def pc7_c13 : PCode := .skip
def pc7_c14 : PCode := .cond (.tmp 17) pc7_c12 pc7_c13
def pc7_c15 : PCode := .seq pc7_c9 pc7_c14
def pc7_o16 : List POper := [⟨some 3, .mv (.const (.string { data := { toList := [] } })), none, []⟩]
def pc7_c16 : PCode := .region none false pc7_o16
def pc7_o17 : List POper := [⟨some 4, .mv (.const (.slice none 0 0)), none, []⟩]
def pc7_c17 : PCode := .region none false pc7_o17
def pc7_o18 : List POper := [⟨some 5, .mv (.const (.int .i64 0)), none, []⟩]
def pc7_c18 : PCode := .region none false pc7_o18
def pc7_o19 : List POper := [⟨some 18, .mv (.tmp 5), none, []⟩,
  ⟨some 19, .mv (.tmp 0), none, []⟩,
  ⟨some 20, .lenS (.tmp 19), none, []⟩,
  ⟨some 21, .prim (.bin .lss 3 false false) [.tmp 18, .tmp 20], none, []⟩]
def pc7_c19 : PCode := .region (some ([0, 3, 4, 5], [100004], [(false, 4, 0, 100004, 28, 11)])) false pc7_o19
def pc7_c20 : PCode := .skip
def pc7_c21 : PCode := .exit 0
def pc7_c22 : PCode := .cond (.tmp 21) pc7_c20 pc7_c21
def pc7_c23 : PCode := .seq pc7_c19 pc7_c22
def pc7_o24 : List POper := [⟨some 25, .mv (.tmp 0), none, []⟩,
  ⟨some 26, .mv (.tmp 5), none, []⟩,
  ⟨some 27, .iaddrS 11 (.tmp 25) (.tmp 26), none, []⟩,
  ⟨some 28, .load true 11 (.tmp 27), none, []⟩,
  ⟨some 29, .call true [[]] 21 [.tmp 28], none, []⟩,
  ⟨some 24, .mv (.tmp 29), none, []⟩,
  ⟨some 30, .ext (.tmp 24) 0, none, []⟩,
  ⟨some 31, .ext (.tmp 24) 1, none, []⟩,
  ⟨some 6, .mv (.tmp 30), none, []⟩,
  ⟨some 7, .mv (.tmp 31), none, []⟩]
def pc7_c24 : PCode := .region none false pc7_o24
def pc7_o25 : List POper := [⟨some 32, .mv (.tmp 7), none, []⟩,
  ⟨some 33, .prim (.bin .eql 37 false true) [.tmp 32, .const (.int .i64 0)], none, []⟩,
  ⟨some 34, .mv (.tmp 0), none, []⟩,
  ⟨some 35, .mv (.tmp 5), none, []⟩,
  ⟨some 36, .iaddrS 11 (.tmp 34) (.tmp 35), none, []⟩,
  ⟨some 37, .load true 11 (.tmp 36), none, []⟩,
  ⟨some 38, .call true [[]] 24 [.tmp 37], none, []⟩,
  ⟨some 39, .prim (.bin .neq 4 false false) [.tmp 33, .tmp 38], none, []⟩]
def pc7_c25 : PCode := .region none false pc7_o25
def pc7_o26 : List POper := [⟨some 2, .mv (.const (.bool false)), none, []⟩]
def pc7_c26 : PCode := .region none false pc7_o26
def pc7_c27 : PCode := .ret
def pc7_c28 : PCode := .seq pc7_c26 pc7_c27
def pc7_c29 : PCode := .skip
def pc7_c30 : PCode := .cond (.tmp 39) pc7_c28 pc7_c29
def pc7_c31 : PCode := .seq pc7_c25 pc7_c30
def pc7_o32 : List POper := [⟨some 40, .mv (.tmp 7), none, []⟩,
  ⟨some 41, .prim (.bin .eql 37 false true) [.tmp 40, .const (.int .i64 0)], none, []⟩]
def pc7_c32 : PCode := .region none false pc7_o32
def pc7_o33 : List POper := [⟨some 42, .mv (.tmp 3), none, []⟩,
  ⟨some 43, .mv (.tmp 6), none, []⟩,
  ⟨some 44, .prim (.bin .add 9 false false) [.tmp 42, .tmp 43], none, []⟩,
  ⟨some 3, .mv (.tmp 44), none, []⟩]
def pc7_c33 : PCode := .region none false pc7_o33
def pc7_o34 : List POper := [⟨some 45, .mv (.tmp 4), none, []⟩,
  ⟨some 46, .mv (.tmp 0), none, []⟩,
  ⟨some 47, .mv (.tmp 5), none, []⟩,
  ⟨some 48, .iaddrS 11 (.tmp 46) (.tmp 47), none, []⟩,
  ⟨some 49, .load true 11 (.tmp 48), none, []⟩,
  ⟨some 50, .bslice 28 11 [.tmp 49], none, []⟩,
  ⟨some 51, .app 100004 28 11 120 (.tmp 45) (.tmp 50), none, []⟩,
  ⟨some 4, .mv (.tmp 51), none, []⟩]
def pc7_c34 : PCode := .region none false pc7_o34
def pc7_c35 : PCode := .seq pc7_c33 pc7_c34
def pc7_c36 : PCode := .skip
def pc7_c37 : PCode := .cond (.tmp 41) pc7_c35 pc7_c36
def pc7_c38 : PCode := .seq pc7_c32 pc7_c37
def pc7_c39 : PCode := .seq pc7_c31 pc7_c38
def pc7_c40 : PCode := .seq pc7_c24 pc7_c39
def pc7_c41 : PCode := .block 1 pc7_c40
def pc7_o42 : List POper := [⟨some 22, .mv (.tmp 5), none, []⟩,
  ⟨some 23, .prim (.bin .add 3 false true) [.tmp 22, .const (.int .i64 1)], none, []⟩,
  ⟨some 5, .mv (.tmp 23), none, []⟩]
def pc7_c42 : PCode := .region none false pc7_o42
def pc7_c43 : PCode := .seq pc7_c41 pc7_c42
def pc7_c44 : PCode := .seq pc7_c23 pc7_c43
def pc7_c45 : PCode := .loop pc7_c44
def pc7_c46 : PCode := .block 0 pc7_c45
def pc7_c47 : PCode := .seq pc7_c18 pc7_c46
def pc7_o48 : List POper := [⟨some 8, .mv (.const (.int .i64 0)), none, []⟩]
def pc7_c48 : PCode := .region none false pc7_o48
def pc7_o49 : List POper := [⟨some 9, .mv (.const (.int .i64 0)), none, []⟩]
def pc7_c49 : PCode := .region none false pc7_o49
def pc7_o50 : List POper := [⟨some 52, .mv (.tmp 9), none, []⟩,
  ⟨some 53, .mv (.tmp 4), none, []⟩,
  ⟨some 54, .lenS (.tmp 53), none, []⟩,
  ⟨some 55, .prim (.bin .lss 3 false false) [.tmp 52, .tmp 54], none, []⟩]
def pc7_c50 : PCode := .region (some ([3, 4, 8, 9], [10, 100004], [])) false pc7_o50
def pc7_c51 : PCode := .skip
def pc7_c52 : PCode := .exit 2
def pc7_c53 : PCode := .cond (.tmp 55) pc7_c51 pc7_c52
def pc7_c54 : PCode := .seq pc7_c50 pc7_c53
def pc7_o55 : List POper := [⟨some 59, .mv (.tmp 3), none, []⟩,
  ⟨some 60, .mv (.tmp 8), none, []⟩,
  ⟨some 61, .prim (.slice 9 true false) [.tmp 59, .tmp 60], none, []⟩,
  ⟨some 62, .call true [[]] 30 [.tmp 61], none, []⟩,
  ⟨some 58, .mv (.tmp 62), none, []⟩,
  ⟨some 63, .ext (.tmp 58) 0, none, []⟩,
  ⟨some 64, .ext (.tmp 58) 1, none, []⟩,
  ⟨some 65, .ext (.tmp 58) 2, none, []⟩,
  ⟨some 10, .alloc 28 (.agg { toList := [.int .i64 0, .int .i64 0, .int .i64 0, .int .i64 0, .string { data := { toList := [] } }, .int .i64 0, .string { data := { toList := [] } }, .int .i64 0, .string { data := { toList := [] } }, .int .i64 0, .string { data := { toList := [] } }] }) [], none, []⟩,
  ⟨none, .store 11 (.tmp 10) (.tmp 63), none, []⟩,
  ⟨some 11, .mv (.tmp 64), none, []⟩,
  ⟨some 12, .mv (.tmp 65), none, []⟩]
def pc7_c55 : PCode := .region none false pc7_o55
def pc7_o56 : List POper := [⟨some 66, .mv (.tmp 12), none, [(12, .imm)]⟩,
  ⟨some 67, .prim (.bin .neq 37 false true) [.tmp 66, .const (.int .i64 0)], none, [(66, .imm)]⟩,
  ⟨some 68, .mv (.tmp 67), none, [(67, .imm)]⟩,
  ⟨some 69, .load true 11 (.tmp 10), some (68, false), [(10, .at_ 10 0)]⟩,
  ⟨some 70, .mv (.tmp 4), some (68, false), [(4, .obj 100004)]⟩,
  ⟨some 71, .mv (.tmp 9), some (68, false), [(9, .imm)]⟩,
  ⟨some 72, .iaddrS 11 (.tmp 70) (.tmp 71), some (68, false), [(70, .obj 100004), (71, .imm)]⟩,
  ⟨some 73, .load true 11 (.tmp 72), some (68, false), [(72, .obj 100004)]⟩,
  ⟨some 74, .call false [[], []] 25 [.tmp 69, .tmp 73], some (68, false), [(69, .imm), (73, .imm)]⟩,
  ⟨some 75, .prim (.un .not) [.tmp 74], some (68, false), [(74, .imm)]⟩,
  ⟨some 76, .pick (.tmp 68) (.const (.bool true)) (.tmp 75), none, [(68, .imm), (75, .imm)]⟩]
def pc7_c56 : PCode := .region none true pc7_o56
def pc7_o57 : List POper := [⟨some 2, .mv (.const (.bool false)), none, []⟩]
def pc7_c57 : PCode := .region none false pc7_o57
def pc7_c58 : PCode := .ret
def pc7_c59 : PCode := .seq pc7_c57 pc7_c58
def pc7_c60 : PCode := .skip
def pc7_c61 : PCode := .cond (.tmp 76) pc7_c59 pc7_c60
def pc7_c62 : PCode := .seq pc7_c56 pc7_c61
def pc7_o63 : List POper := [⟨some 77, .mv (.tmp 8), none, []⟩,
  ⟨some 78, .mv (.tmp 11), none, []⟩,
  ⟨some 79, .prim (.bin .add 3 false false) [.tmp 77, .tmp 78], none, []⟩,
  ⟨some 8, .mv (.tmp 79), none, []⟩]
def pc7_c63 : PCode := .region none false pc7_o63
def pc7_c64 : PCode := .seq pc7_c62 pc7_c63
def pc7_c65 : PCode := .seq pc7_c55 pc7_c64
def pc7_c66 : PCode := .block 3 pc7_c65
def pc7_o67 : List POper := [⟨some 56, .mv (.tmp 9), none, []⟩,
  ⟨some 57, .prim (.bin .add 3 false true) [.tmp 56, .const (.int .i64 1)], none, []⟩,
  ⟨some 9, .mv (.tmp 57), none, []⟩]
def pc7_c67 : PCode := .region none false pc7_o67
def pc7_c68 : PCode := .seq pc7_c66 pc7_c67
def pc7_c69 : PCode := .seq pc7_c54 pc7_c68
def pc7_c70 : PCode := .loop pc7_c69
def pc7_c71 : PCode := .block 2 pc7_c70
def pc7_c72 : PCode := .seq pc7_c49 pc7_c71
def pc7_o73 : List POper := [⟨some 80, .mv (.tmp 8), none, []⟩,
  ⟨some 81, .mv (.tmp 3), none, []⟩,
  ⟨some 82, .prim (.len 9) [.tmp 81], none, []⟩,
  ⟨some 83, .prim (.bin .eql 3 false false) [.tmp 80, .tmp 82], none, []⟩,
  ⟨some 2, .mv (.tmp 83), none, []⟩]
def pc7_c73 : PCode := .region none false pc7_o73
def pc7_c74 : PCode := .ret
def pc7_c75 : PCode := .seq pc7_c73 pc7_c74
def pc7_c76 : PCode := .seq pc7_c72 pc7_c75
def pc7_c77 : PCode := .seq pc7_c48 pc7_c76
def pc7_c78 : PCode := .seq pc7_c47 pc7_c77
def pc7_c79 : PCode := .seq pc7_c17 pc7_c78
def pc7_c80 : PCode := .seq pc7_c16 pc7_c79
def pc7_c81 : PCode := .seq pc7_c15 pc7_c80
def pc7_c82 : PCode := .seq pc7_c8 pc7_c81
def pc7_c83 : PCode := .seq pc7_c1 pc7_c82
def pc7_r : List PRes := [PRes.tmp 2 []]
def pc7 : PFunc := ⟨84, pc7_r, pc7_c83, false⟩
def pc7_a : Ann := {
  kr := fun
    | 8 => some ([0, 3, 4, 5], [100004], [(false, 4, 0, 100004, 28, 11)])
    | 18 => some ([3, 4, 8, 9], [10, 100004], [])
    | _ => none
  ka := fun
    | 51 => 100004
    | _ => 0
  kh := fun
    | 4 => some (.obj 100004)
    | 9 => some (.imm)
    | 10 => some (.at_ 10 0)
    | 12 => some (.imm)
    | 66 => some (.imm)
    | 67 => some (.imm)
    | 68 => some (.imm)
    | 69 => some (.imm)
    | 70 => some (.obj 100004)
    | 71 => some (.imm)
    | 72 => some (.obj 100004)
    | 73 => some (.imm)
    | 74 => some (.imm)
    | 75 => some (.imm)
    | _ => none
  ow := fun t => match t with
    | 96 => [(1, 5, 1)]
    | _ => []
  tc := fun t => match t with
    | 96 => true
    | _ => false }
theorem pc7_ok : compFn Try.prog pc7_a Try.f7 = some pc7 := by kernel_rfl


-- 8: vedette/vedettelaw7.ThingMany
def pc8_o1 : List POper := [⟨some 4, .mv (.const (.bool false)), none, []⟩]
def pc8_c1 : PCode := .region none false pc8_o1
def pc8_o2 : List POper := [⟨some 16, .call true [] 15 [], none, []⟩,
  ⟨some 17, .prim (.un .not) [.tmp 16], none, []⟩]
def pc8_c2 : PCode := .region none false pc8_o2
def pc8_o3 : List POper := [⟨some 4, .mv (.const (.bool false)), none, []⟩]
def pc8_c3 : PCode := .region none false pc8_o3
def pc8_c4 : PCode := .ret
def pc8_c5 : PCode := .seq pc8_c3 pc8_c4
def pc8_c6 : PCode := .skip
def pc8_c7 : PCode := .cond (.tmp 17) pc8_c5 pc8_c6
def pc8_c8 : PCode := .seq pc8_c2 pc8_c7
def pc8_o9 : List POper := [⟨some 18, .mv (.tmp 0), none, []⟩,
  ⟨some 19, .prim (.bin .rem 5 false true) [.tmp 18, .const (.int .u8 3)], none, []⟩,
  ⟨some 20, .prim (.conv 5 3) [.tmp 19], none, []⟩,
  ⟨some 21, .prim (.bin .add 3 true false) [.const (.int .i64 199), .tmp 20], none, []⟩,
  ⟨some 5, .mv (.tmp 21), none, []⟩]
def pc8_c9 : PCode := .region none false pc8_o9
def pc8_o10 : List POper := [⟨some 6, .mv (.const (.slice none 0 0)), none, []⟩]
def pc8_c10 : PCode := .region none false pc8_o10
def pc8_o11 : List POper := [⟨some 7, .mv (.const (.int .i64 0)), none, []⟩]
def pc8_c11 : PCode := .region none false pc8_o11
def pc8_o12 : List POper := [⟨some 22, .mv (.tmp 7), none, []⟩,
  ⟨some 23, .mv (.tmp 5), none, []⟩,
  ⟨some 24, .prim (.bin .lss 3 false false) [.tmp 22, .tmp 23], none, []⟩]
def pc8_c12 : PCode := .region (some ([1, 5, 6, 7], [100006], [(false, 6, 0, 100006, 28, 11)])) false pc8_o12
def pc8_c13 : PCode := .skip
def pc8_c14 : PCode := .exit 0
def pc8_c15 : PCode := .cond (.tmp 24) pc8_c13 pc8_c14
def pc8_c16 : PCode := .seq pc8_c12 pc8_c15
def pc8_o17 : List POper := [⟨some 27, .mv (.tmp 6), none, []⟩,
  ⟨some 28, .mv (.tmp 7), none, []⟩,
  ⟨some 29, .prim (.bin .mul 3 true false) [.const (.int .i64 2), .tmp 28], none, []⟩,
  ⟨some 30, .mv (.tmp 7), none, []⟩,
  ⟨some 31, .prim (.bin .rem 3 false true) [.tmp 30, .const (.int .i64 64)], none, []⟩,
  ⟨some 32, .build (.agg { toList := [.int .i64 0, .int .i64 0] }) [(0, 1, .tmp 31)], none, []⟩,
  ⟨some 33, .build (.agg { toList := [.int .i64 0, .int .i64 0, .int .i64 0, .int .i64 0, .string { data := { toList := [] } }, .int .i64 0, .string { data := { toList := [] } }, .int .i64 0, .string { data := { toList := [] } }, .int .i64 0, .string { data := { toList := [] } }] }) [(0, 1, .tmp 29), (1, 2, .tmp 32)], none, []⟩,
  ⟨some 34, .bslice 28 11 [.tmp 33], none, []⟩,
  ⟨some 35, .app 100006 28 11 120 (.tmp 27) (.tmp 34), none, []⟩,
  ⟨some 6, .mv (.tmp 35), none, []⟩]
def pc8_c17 : PCode := .region none false pc8_o17
def pc8_c18 : PCode := .block 1 pc8_c17
def pc8_o19 : List POper := [⟨some 25, .mv (.tmp 7), none, []⟩,
  ⟨some 26, .prim (.bin .add 3 false true) [.tmp 25, .const (.int .i64 1)], none, []⟩,
  ⟨some 7, .mv (.tmp 26), none, []⟩]
def pc8_c19 : PCode := .region none false pc8_o19
def pc8_c20 : PCode := .seq pc8_c18 pc8_c19
def pc8_c21 : PCode := .seq pc8_c16 pc8_c20
def pc8_c22 : PCode := .loop pc8_c21
def pc8_c23 : PCode := .block 0 pc8_c22
def pc8_c24 : PCode := .seq pc8_c11 pc8_c23
def pc8_o25 : List POper := [⟨some 37, .mv (.tmp 6), none, []⟩,
  ⟨some 38, .call true [[(0, 11)]] 22 [.tmp 37], none, []⟩,
  ⟨some 36, .mv (.tmp 38), none, []⟩,
  ⟨some 39, .ext (.tmp 36) 0, none, []⟩,
  ⟨some 40, .ext (.tmp 36) 1, none, []⟩,
  ⟨some 8, .mv (.tmp 39), none, []⟩,
  ⟨some 9, .mv (.tmp 40), none, []⟩]
def pc8_c25 : PCode := .region none false pc8_o25
def pc8_o26 : List POper := [⟨some 41, .mv (.tmp 5), none, []⟩,
  ⟨some 42, .prim (.bin .gtr 3 false true) [.tmp 41, .const (.int .i64 200)], none, []⟩]
def pc8_c26 : PCode := .region none false pc8_o26
def pc8_o27 : List POper := [⟨some 43, .mv (.tmp 9), none, []⟩,
  ⟨some 44, .prim (.bin .eql 37 false true) [.tmp 43, .const (.int .i64 13)], none, []⟩,
  ⟨some 45, .mv (.tmp 44), none, []⟩,
  ⟨some 46, .mv (.tmp 8), some (45, true), []⟩,
  ⟨some 47, .prim (.bin .eql 9 false true) [.tmp 46, .const (.string { data := { toList := [] } })], some (45, true), []⟩,
  ⟨some 48, .pick (.tmp 45) (.tmp 47) (.const (.bool false)), none, []⟩,
  ⟨some 4, .mv (.tmp 48), none, []⟩]
def pc8_c27 : PCode := .region none false pc8_o27
def pc8_c28 : PCode := .ret
def pc8_c29 : PCode := .seq pc8_c27 pc8_c28
def pc8_c30 : PCode := .skip
def pc8_c31 : PCode := .cond (.tmp 42) pc8_c29 pc8_c30
def pc8_c32 : PCode := .seq pc8_c26 pc8_c31
def pc8_o33 : List POper := [⟨some 50, .mv (.tmp 8), none, []⟩,
  ⟨some 51, .call true [[]] 32 [.tmp 50], none, []⟩,
  ⟨some 49, .mv (.tmp 51), none, []⟩,
  ⟨some 52, .ext (.tmp 49) 0, none, []⟩,
  ⟨some 53, .ext (.tmp 49) 1, none, []⟩,
  ⟨some 54, .ext (.tmp 49) 2, none, []⟩,
  ⟨some 10, .mv (.tmp 52), none, []⟩,
  ⟨some 11, .mv (.tmp 53), none, []⟩,
  ⟨some 12, .mv (.tmp 54), none, []⟩]
def pc8_c33 : PCode := .region none false pc8_o33
def pc8_o34 : List POper := [⟨some 55, .mv (.tmp 1), none, []⟩,
  ⟨some 56, .prim (.conv 5 3) [.tmp 55], none, []⟩,
  ⟨some 57, .mv (.tmp 5), none, []⟩,
  ⟨some 58, .prim (.bin .sub 3 false true) [.tmp 57, .const (.int .i64 1)], none, []⟩,
  ⟨some 59, .prim (.bin .rem 3 false false) [.tmp 56, .tmp 58], none, []⟩,
  ⟨some 13, .mv (.tmp 59), none, []⟩]
def pc8_c34 : PCode := .region none false pc8_o34
def pc8_o35 : List POper := [⟨some 60, .mv (.tmp 6), none, [(6, .obj 100006)]⟩,
  ⟨some 61, .mv (.tmp 13), none, [(13, .imm)]⟩,
  ⟨some 62, .mv (.tmp 6), none, [(6, .obj 100006)]⟩,
  ⟨some 63, .mv (.tmp 13), none, [(13, .imm)]⟩,
  ⟨some 64, .prim (.bin .add 3 false true) [.tmp 63, .const (.int .i64 1)], none, [(63, .imm)]⟩,
  ⟨some 65, .mv (.tmp 6), none, [(6, .obj 100006)]⟩,
  ⟨some 66, .mv (.tmp 13), none, [(13, .imm)]⟩,
  ⟨some 67, .prim (.bin .add 3 false true) [.tmp 66, .const (.int .i64 1)], none, [(66, .imm)]⟩,
  ⟨some 68, .iaddrS 11 (.tmp 65) (.tmp 67), none, [(65, .obj 100006), (67, .imm)]⟩,
  ⟨some 69, .load true 11 (.tmp 68), none, [(68, .obj 100006)]⟩,
  ⟨some 70, .mv (.tmp 6), none, [(6, .obj 100006)]⟩,
  ⟨some 71, .mv (.tmp 13), none, [(13, .imm)]⟩,
  ⟨some 72, .iaddrS 11 (.tmp 70) (.tmp 71), none, [(70, .obj 100006), (71, .imm)]⟩,
  ⟨some 73, .load true 11 (.tmp 72), none, [(72, .obj 100006)]⟩,
  ⟨some 74, .iaddrS 11 (.tmp 60) (.tmp 61), none, [(60, .obj 100006), (61, .imm)]⟩,
  ⟨none, .store 11 (.tmp 74) (.tmp 69), none, [(74, .obj 100006), (69, .imm)]⟩,
  ⟨some 75, .iaddrS 11 (.tmp 62) (.tmp 64), none, [(62, .obj 100006), (64, .imm)]⟩,
  ⟨none, .store 11 (.tmp 75) (.tmp 73), none, [(75, .obj 100006), (73, .imm)]⟩]
def pc8_c35 : PCode := .region none true pc8_o35
def pc8_o36 : List POper := [⟨some 77, .mv (.tmp 6), none, []⟩,
  ⟨some 78, .call true [[(0, 11)]] 22 [.tmp 77], none, []⟩,
  ⟨some 76, .mv (.tmp 78), none, []⟩,
  ⟨some 79, .ext (.tmp 76) 0, none, []⟩,
  ⟨some 80, .ext (.tmp 76) 1, none, []⟩,
  ⟨some 14, .mv (.tmp 79), none, []⟩,
  ⟨some 15, .mv (.tmp 80), none, []⟩]
def pc8_c36 : PCode := .region none false pc8_o36
def pc8_o37 : List POper := [⟨some 81, .mv (.tmp 9), none, []⟩,
  ⟨some 82, .prim (.bin .eql 37 false true) [.tmp 81, .const (.int .i64 0)], none, []⟩,
  ⟨some 83, .mv (.tmp 82), none, []⟩,
  ⟨some 84, .mv (.tmp 12), some (83, true), []⟩,
  ⟨some 85, .prim (.bin .eql 37 false true) [.tmp 84, .const (.int .i64 0)], some (83, true), []⟩,
  ⟨some 86, .pick (.tmp 83) (.tmp 85) (.const (.bool false)), none, []⟩,
  ⟨some 87, .mv (.tmp 86), none, []⟩,
  ⟨some 88, .mv (.tmp 11), some (87, true), []⟩,
  ⟨some 89, .mv (.tmp 8), some (87, true), []⟩,
  ⟨some 90, .prim (.len 9) [.tmp 89], some (87, true), []⟩,
  ⟨some 91, .prim (.bin .eql 3 false false) [.tmp 88, .tmp 90], some (87, true), []⟩,
  ⟨some 92, .pick (.tmp 87) (.tmp 91) (.const (.bool false)), none, []⟩,
  ⟨some 93, .mv (.tmp 92), none, []⟩,
  ⟨some 94, .mv (.tmp 10), some (93, true), []⟩,
  ⟨some 95, .lenS (.tmp 94), some (93, true), []⟩,
  ⟨some 96, .mv (.tmp 5), some (93, true), []⟩,
  ⟨some 97, .prim (.bin .eql 3 false false) [.tmp 95, .tmp 96], some (93, true), []⟩,
  ⟨some 98, .pick (.tmp 93) (.tmp 97) (.const (.bool false)), none, []⟩,
  ⟨some 99, .mv (.tmp 98), none, []⟩,
  ⟨some 100, .mv (.tmp 15), some (99, true), []⟩,
  ⟨some 101, .prim (.bin .eql 37 false true) [.tmp 100, .const (.int .i64 11)], some (99, true), []⟩,
  ⟨some 102, .pick (.tmp 99) (.tmp 101) (.const (.bool false)), none, []⟩,
  ⟨some 4, .mv (.tmp 102), none, []⟩]
def pc8_c37 : PCode := .region none false pc8_o37
def pc8_c38 : PCode := .ret
def pc8_c39 : PCode := .seq pc8_c37 pc8_c38
def pc8_c40 : PCode := .seq pc8_c36 pc8_c39
def pc8_c41 : PCode := .seq pc8_c35 pc8_c40
def pc8_c42 : PCode := .seq pc8_c34 pc8_c41
def pc8_c43 : PCode := .seq pc8_c33 pc8_c42
def pc8_c44 : PCode := .seq pc8_c32 pc8_c43
def pc8_c45 : PCode := .seq pc8_c25 pc8_c44
def pc8_c46 : PCode := .seq pc8_c24 pc8_c45
def pc8_c47 : PCode := .seq pc8_c10 pc8_c46
def pc8_c48 : PCode := .seq pc8_c9 pc8_c47
def pc8_c49 : PCode := .seq pc8_c8 pc8_c48
def pc8_c50 : PCode := .seq pc8_c1 pc8_c49
def pc8_r : List PRes := [PRes.tmp 4 []]
def pc8 : PFunc := ⟨103, pc8_r, pc8_c50, false⟩
def pc8_a : Ann := {
  kr := fun
    | 6 => some ([1, 5, 6, 7], [100006], [(false, 6, 0, 100006, 28, 11)])
    | _ => none
  ka := fun
    | 35 => 100006
    | _ => 0
  kh := fun
    | 6 => some (.obj 100006)
    | 13 => some (.imm)
    | 60 => some (.obj 100006)
    | 61 => some (.imm)
    | 62 => some (.obj 100006)
    | 63 => some (.imm)
    | 64 => some (.imm)
    | 65 => some (.obj 100006)
    | 66 => some (.imm)
    | 67 => some (.imm)
    | 68 => some (.obj 100006)
    | 69 => some (.imm)
    | 70 => some (.obj 100006)
    | 71 => some (.imm)
    | 72 => some (.obj 100006)
    | 73 => some (.imm)
    | 74 => some (.obj 100006)
    | 75 => some (.obj 100006)
    | _ => none
  ow := fun t => match t with
    | 96 => [(1, 5, 1)]
    | _ => []
  tc := fun t => match t with
    | 96 => true
    | _ => false }
theorem pc8_ok : compFn Try.prog pc8_a Try.f8 = some pc8 := by kernel_rfl


-- 58: vedette/vedetteref3.On
def pc58_o1 : List POper := [⟨some 1, .box 23 (.tmp 0) [], none, []⟩,
  ⟨some 2, .mv (.const (.bool false)), none, []⟩]
def pc58_c1 : PCode := .region none false pc58_o1
def pc58_o2 : List POper := [⟨some 3, .faddr 0 (.tmp 1), none, []⟩,
  ⟨some 4, .load false 1 (.tmp 3), none, []⟩,
  ⟨some 5, .prim (.bin .geq 3 false true) [.tmp 4, .const (.int .i64 0)], none, []⟩,
  ⟨some 6, .mv (.tmp 5), none, []⟩,
  ⟨some 7, .faddr 0 (.tmp 1), some (6, true), []⟩,
  ⟨some 8, .load false 1 (.tmp 7), some (6, true), []⟩,
  ⟨some 9, .prim (.bin .lss 3 false true) [.tmp 8, .const (.int .i64 64)], some (6, true), []⟩,
  ⟨some 10, .pick (.tmp 6) (.tmp 9) (.const (.bool false)), none, []⟩,
  ⟨some 11, .mv (.tmp 10), none, []⟩,
  ⟨some 12, .faddr 1 (.tmp 1), some (11, true), []⟩,
  ⟨some 13, .load false 1 (.tmp 12), some (11, true), []⟩,
  ⟨some 14, .prim (.bin .geq 3 false true) [.tmp 13, .const (.int .i64 0)], some (11, true), []⟩,
  ⟨some 15, .pick (.tmp 11) (.tmp 14) (.const (.bool false)), none, []⟩,
  ⟨some 16, .mv (.tmp 15), none, []⟩,
  ⟨some 17, .faddr 1 (.tmp 1), some (16, true), []⟩,
  ⟨some 18, .load false 1 (.tmp 17), some (16, true), []⟩,
  ⟨some 19, .prim (.bin .lss 3 false true) [.tmp 18, .const (.int .i64 64)], some (16, true), []⟩,
  ⟨some 20, .pick (.tmp 16) (.tmp 19) (.const (.bool false)), none, []⟩,
  ⟨some 2, .mv (.tmp 20), none, []⟩]
def pc58_c2 : PCode := .region none false pc58_o2
def pc58_c3 : PCode := .ret
def pc58_c4 : PCode := .seq pc58_c2 pc58_c3
def pc58_c5 : PCode := .seq pc58_c1 pc58_c4
def pc58_r : List PRes := [PRes.tmp 2 []]
def pc58 : PFunc := ⟨21, pc58_r, pc58_c5, false⟩
def pc58_a : Ann := {
  kr := fun
    | _ => none
  ka := fun
    | _ => 0
  kh := fun
    | _ => none
  ow := fun t => match t with
    | 96 => [(1, 5, 1)]
    | _ => []
  tc := fun t => match t with
    | 96 => true
    | _ => false }
theorem pc58_ok : compFn Try.prog pc58_a Try.f58 = some pc58 := by kernel_rfl


-- 59: vedette/vedetteref6.IsField
def pc59_o1 : List POper := [⟨some 1, .box 25 (.tmp 0) [], none, []⟩,
  ⟨some 2, .mv (.const (.bool false)), none, []⟩]
def pc59_c1 : PCode := .region none false pc59_o1
def pc59_o2 : List POper := [⟨some 3, .faddr 0 (.tmp 1), none, []⟩,
  ⟨some 4, .load false 1 (.tmp 3), none, []⟩,
  ⟨some 5, .prim (.bin .eql 2 false true) [.tmp 4, .const (.int .i64 0)], none, []⟩,
  ⟨some 6, .mv (.tmp 5), none, []⟩,
  ⟨some 7, .faddr 1 (.tmp 1), some (6, false), []⟩,
  ⟨some 8, .load false 1 (.tmp 7), some (6, false), []⟩,
  ⟨some 9, .prim (.bin .eql 9 false true) [.tmp 8, .const (.string { data := { toList := [] } })], some (6, false), []⟩,
  ⟨some 10, .pick (.tmp 6) (.const (.bool true)) (.tmp 9), none, []⟩,
  ⟨some 11, .mv (.tmp 10), none, []⟩,
  ⟨some 12, .faddr 1 (.tmp 1), some (11, true), []⟩,
  ⟨some 13, .load false 1 (.tmp 12), some (11, true), []⟩,
  ⟨some 14, .prim (.len 9) [.tmp 13], some (11, true), []⟩,
  ⟨some 15, .prim (.bin .leq 3 false true) [.tmp 14, .const (.int .i64 12)], some (11, true), []⟩,
  ⟨some 16, .pick (.tmp 11) (.tmp 15) (.const (.bool false)), none, []⟩,
  ⟨some 2, .mv (.tmp 16), none, []⟩]
def pc59_c2 : PCode := .region none false pc59_o2
def pc59_c3 : PCode := .ret
def pc59_c4 : PCode := .seq pc59_c2 pc59_c3
def pc59_c5 : PCode := .seq pc59_c1 pc59_c4
def pc59_r : List PRes := [PRes.tmp 2 []]
def pc59 : PFunc := ⟨17, pc59_r, pc59_c5, false⟩
def pc59_a : Ann := {
  kr := fun
    | _ => none
  ka := fun
    | _ => 0
  kh := fun
    | _ => none
  ow := fun t => match t with
    | 96 => [(1, 5, 1)]
    | _ => []
  tc := fun t => match t with
    | 96 => true
    | _ => false }
theorem pc59_ok : compFn Try.prog pc59_a Try.f59 = some pc59 := by kernel_rfl


-- 18: vedette/vedetteref6.Is
def pc18_o1 : List POper := [⟨some 1, .box 28 (.tmp 0) [], none, []⟩,
  ⟨some 2, .mv (.const (.bool false)), none, []⟩]
def pc18_c1 : PCode := .region none false pc18_o1
def pc18_o2 : List POper := [⟨some 5, .faddr 0 (.tmp 1), none, []⟩,
  ⟨some 6, .load false 1 (.tmp 5), none, []⟩,
  ⟨some 7, .prim (.bin .geq 3 false true) [.tmp 6, .const (.int .i64 0)], none, []⟩,
  ⟨some 8, .mv (.tmp 7), none, []⟩,
  ⟨some 9, .faddr 0 (.tmp 1), some (8, true), []⟩,
  ⟨some 10, .load false 1 (.tmp 9), some (8, true), []⟩,
  ⟨some 11, .prim (.bin .leq 3 false true) [.tmp 10, .const (.int .i64 1000000)], some (8, true), []⟩,
  ⟨some 12, .pick (.tmp 8) (.tmp 11) (.const (.bool false)), none, []⟩,
  ⟨some 13, .mv (.tmp 12), none, []⟩,
  ⟨some 14, .faddr 1 (.tmp 1), some (13, true), []⟩,
  ⟨some 15, .load true 2 (.tmp 14), some (13, true), []⟩,
  ⟨some 16, .call true [[]] 58 [.tmp 15], some (13, true), []⟩,
  ⟨some 17, .pick (.tmp 13) (.tmp 16) (.const (.bool false)), none, []⟩,
  ⟨some 3, .mv (.tmp 17), none, []⟩]
def pc18_c2 : PCode := .region none false pc18_o2
def pc18_o3 : List POper := [⟨some 4, .mv (.const (.int .i64 0)), none, []⟩]
def pc18_c3 : PCode := .region (some ([1, 3], [1], [])) false pc18_o3
def pc18_o4 : List POper := [⟨some 18, .mv (.tmp 4), none, []⟩,
  ⟨some 19, .prim (.bin .lss 3 false true) [.tmp 18, .const (.int .i64 4)], none, []⟩]
def pc18_c4 : PCode := .region (some ([1, 3, 4], [1], [])) false pc18_o4
def pc18_c5 : PCode := .skip
def pc18_c6 : PCode := .exit 0
def pc18_c7 : PCode := .cond (.tmp 19) pc18_c5 pc18_c6
def pc18_c8 : PCode := .seq pc18_c4 pc18_c7
def pc18_o9 : List POper := [⟨some 22, .mv (.tmp 3), none, []⟩,
  ⟨some 23, .mv (.tmp 22), none, []⟩,
  ⟨some 24, .mv (.tmp 4), some (23, true), []⟩,
  ⟨some 25, .faddr 3 (.tmp 1), some (23, true), []⟩,
  ⟨some 26, .iaddrA 4 2 (.tmp 25) (.tmp 24), some (23, true), []⟩,
  ⟨some 27, .load true 2 (.tmp 26), some (23, true), []⟩,
  ⟨some 28, .call true [[]] 59 [.tmp 27], some (23, true), []⟩,
  ⟨some 29, .pick (.tmp 23) (.tmp 28) (.const (.bool false)), none, []⟩,
  ⟨some 3, .mv (.tmp 29), none, []⟩]
def pc18_c9 : PCode := .region none false pc18_o9
def pc18_c10 : PCode := .block 1 pc18_c9
def pc18_o11 : List POper := [⟨some 20, .mv (.tmp 4), none, []⟩,
  ⟨some 21, .prim (.bin .add 3 false true) [.tmp 20, .const (.int .i64 1)], none, []⟩,
  ⟨some 4, .mv (.tmp 21), none, []⟩]
def pc18_c11 : PCode := .region none false pc18_o11
def pc18_c12 : PCode := .seq pc18_c10 pc18_c11
def pc18_c13 : PCode := .seq pc18_c8 pc18_c12
def pc18_c14 : PCode := .loop pc18_c13
def pc18_c15 : PCode := .block 0 pc18_c14
def pc18_c16 : PCode := .seq pc18_c3 pc18_c15
def pc18_o17 : List POper := [⟨some 30, .mv (.tmp 3), none, []⟩,
  ⟨some 2, .mv (.tmp 30), none, []⟩]
def pc18_c17 : PCode := .region none false pc18_o17
def pc18_c18 : PCode := .ret
def pc18_c19 : PCode := .seq pc18_c17 pc18_c18
def pc18_c20 : PCode := .seq pc18_c16 pc18_c19
def pc18_c21 : PCode := .seq pc18_c2 pc18_c20
def pc18_c22 : PCode := .seq pc18_c1 pc18_c21
def pc18_r : List PRes := [PRes.tmp 2 []]
def pc18 : PFunc := ⟨31, pc18_r, pc18_c22, false⟩
def pc18_a : Ann := {
  kr := fun
    | 2 => some ([1, 3], [1], [])
    | 3 => some ([1, 3, 4], [1], [])
    | _ => none
  ka := fun
    | _ => 0
  kh := fun
    | _ => none
  ow := fun t => match t with
    | 96 => [(1, 5, 1)]
    | _ => []
  tc := fun t => match t with
    | 96 => true
    | _ => false }
theorem pc18_ok : compFn Try.prog pc18_a Try.f18 = some pc18 := by kernel_rfl


-- 60: vedette/vedetteref1.Put
def pc60_o1 : List POper := [⟨some 2, .mv (.const (.string { data := { toList := [] } })), none, []⟩]
def pc60_c1 : PCode := .region none false pc60_o1
def pc60_o2 : List POper := [⟨some 3, .mv (.const (.string { data := { toList := [] } })), none, []⟩]
def pc60_c2 : PCode := .region none false pc60_o2
def pc60_o3 : List POper := [⟨some 4, .mv (.tmp 0), none, []⟩,
  ⟨some 5, .prim (.bin .lss 89 false true) [.tmp 4, .const (.int .u64 128)], none, []⟩]
def pc60_c3 : PCode := .region (some ([0, 3], [], [])) false pc60_o3
def pc60_o4 : List POper := [⟨some 6, .mv (.tmp 3), none, []⟩,
  ⟨some 7, .mv (.tmp 0), none, []⟩,
  ⟨some 8, .prim (.conv 89 5) [.tmp 7], none, []⟩,
  ⟨some 9, .bslice 5 1 [.tmp 8], none, []⟩,
  ⟨some 10, .b2s (.tmp 9), none, []⟩,
  ⟨some 11, .prim (.bin .add 9 false false) [.tmp 6, .tmp 10], none, []⟩,
  ⟨some 2, .mv (.tmp 11), none, []⟩]
def pc60_c4 : PCode := .region none false pc60_o4
def pc60_c5 : PCode := .ret
def pc60_c6 : PCode := .seq pc60_c4 pc60_c5
def pc60_c7 : PCode := .skip
def pc60_c8 : PCode := .cond (.tmp 5) pc60_c6 pc60_c7
def pc60_c9 : PCode := .seq pc60_c3 pc60_c8
def pc60_o10 : List POper := [⟨some 12, .mv (.tmp 3), none, []⟩,
  ⟨some 13, .mv (.tmp 0), none, []⟩,
  ⟨some 14, .prim (.bin .and 89 false true) [.tmp 13, .const (.int .u64 127)], none, []⟩,
  ⟨some 15, .prim (.conv 89 5) [.tmp 14], none, []⟩,
  ⟨some 16, .prim (.bin .or 5 false true) [.tmp 15, .const (.int .u8 128)], none, []⟩,
  ⟨some 17, .bslice 5 1 [.tmp 16], none, []⟩,
  ⟨some 18, .b2s (.tmp 17), none, []⟩,
  ⟨some 19, .prim (.bin .add 9 false false) [.tmp 12, .tmp 18], none, []⟩,
  ⟨some 3, .mv (.tmp 19), none, []⟩]
def pc60_c10 : PCode := .region none false pc60_o10
def pc60_o11 : List POper := [⟨some 20, .mv (.tmp 0), none, []⟩,
  ⟨some 21, .prim (.bin .shr 89 false true) [.tmp 20, .const (.int .u64 7)], none, []⟩,
  ⟨some 0, .mv (.tmp 21), none, []⟩]
def pc60_c11 : PCode := .region none false pc60_o11
def pc60_c12 : PCode := .seq pc60_c10 pc60_c11
def pc60_c13 : PCode := .seq pc60_c9 pc60_c12
def pc60_c14 : PCode := .block 1 pc60_c13
def pc60_c15 : PCode := .loop pc60_c14
def pc60_c16 : PCode := .block 0 pc60_c15
def pc60_c17 : PCode := .seq pc60_c2 pc60_c16
def pc60_c18 : PCode := .seq pc60_c1 pc60_c17
def pc60_r : List PRes := [PRes.tmp 2 []]
def pc60 : PFunc := ⟨22, pc60_r, pc60_c18, false⟩
def pc60_a : Ann := {
  kr := fun
    | 2 => some ([0, 3], [], [])
    | _ => none
  ka := fun
    | _ => 0
  kh := fun
    | _ => none
  ow := fun t => match t with
    | 96 => [(1, 5, 1)]
    | _ => []
  tc := fun t => match t with
    | 96 => true
    | _ => false }
theorem pc60_ok : compFn Try.prog pc60_a Try.f60 = some pc60 := by kernel_rfl


-- 61: vedette/vedetteref1.Text
def pc61_o1 : List POper := [⟨some 2, .mv (.const (.string { data := { toList := [] } })), none, []⟩]
def pc61_c1 : PCode := .region none false pc61_o1
def pc61_o2 : List POper := [⟨some 3, .mv (.tmp 0), none, []⟩,
  ⟨some 4, .prim (.len 9) [.tmp 3], none, []⟩,
  ⟨some 5, .prim (.conv 3 89) [.tmp 4], none, []⟩,
  ⟨some 6, .call true [[]] 60 [.tmp 5], none, []⟩,
  ⟨some 7, .mv (.tmp 0), none, []⟩,
  ⟨some 8, .prim (.bin .add 9 false false) [.tmp 6, .tmp 7], none, []⟩,
  ⟨some 2, .mv (.tmp 8), none, []⟩]
def pc61_c2 : PCode := .region none false pc61_o2
def pc61_c3 : PCode := .ret
def pc61_c4 : PCode := .seq pc61_c2 pc61_c3
def pc61_c5 : PCode := .seq pc61_c1 pc61_c4
def pc61_r : List PRes := [PRes.tmp 2 []]
def pc61 : PFunc := ⟨9, pc61_r, pc61_c5, false⟩
def pc61_a : Ann := {
  kr := fun
    | _ => none
  ka := fun
    | _ => 0
  kh := fun
    | _ => none
  ow := fun t => match t with
    | 96 => [(1, 5, 1)]
    | _ => []
  tc := fun t => match t with
    | 96 => true
    | _ => false }
theorem pc61_ok : compFn Try.prog pc61_a Try.f61 = some pc61 := by kernel_rfl


-- 98: vedette/vedetteref1.Zig
def pc98_o1 : List POper := [⟨some 2, .mv (.const (.int .u64 0)), none, []⟩]
def pc98_c1 : PCode := .region none false pc98_o1
def pc98_o2 : List POper := [⟨some 3, .mv (.tmp 0), none, []⟩,
  ⟨some 4, .prim (.conv 2 89) [.tmp 3], none, []⟩,
  ⟨some 5, .prim (.bin .shl 89 false true) [.tmp 4, .const (.int .u64 1)], none, []⟩,
  ⟨some 6, .mv (.tmp 0), none, []⟩,
  ⟨some 7, .prim (.bin .shr 2 false true) [.tmp 6, .const (.int .u64 63)], none, []⟩,
  ⟨some 8, .prim (.conv 2 89) [.tmp 7], none, []⟩,
  ⟨some 9, .prim (.bin .xor 89 false false) [.tmp 5, .tmp 8], none, []⟩,
  ⟨some 2, .mv (.tmp 9), none, []⟩]
def pc98_c2 : PCode := .region none false pc98_o2
def pc98_c3 : PCode := .ret
def pc98_c4 : PCode := .seq pc98_c2 pc98_c3
def pc98_c5 : PCode := .seq pc98_c1 pc98_c4
def pc98_r : List PRes := [PRes.tmp 2 []]
def pc98 : PFunc := ⟨10, pc98_r, pc98_c5, false⟩
def pc98_a : Ann := {
  kr := fun
    | _ => none
  ka := fun
    | _ => 0
  kh := fun
    | _ => none
  ow := fun t => match t with
    | 96 => [(1, 5, 1)]
    | _ => []
  tc := fun t => match t with
    | 96 => true
    | _ => false }
theorem pc98_ok : compFn Try.prog pc98_a Try.f98 = some pc98 := by kernel_rfl


-- 62: vedette/vedetteref1.Int
def pc62_o1 : List POper := [⟨some 2, .mv (.const (.string { data := { toList := [] } })), none, []⟩]
def pc62_c1 : PCode := .region none false pc62_o1
def pc62_o2 : List POper := [⟨some 3, .mv (.tmp 0), none, []⟩,
  ⟨some 4, .call true [[]] 98 [.tmp 3], none, []⟩,
  ⟨some 5, .call true [[]] 60 [.tmp 4], none, []⟩,
  ⟨some 2, .mv (.tmp 5), none, []⟩]
def pc62_c2 : PCode := .region none false pc62_o2
def pc62_c3 : PCode := .ret
def pc62_c4 : PCode := .seq pc62_c2 pc62_c3
def pc62_c5 : PCode := .seq pc62_c1 pc62_c4
def pc62_r : List PRes := [PRes.tmp 2 []]
def pc62 : PFunc := ⟨6, pc62_r, pc62_c5, false⟩
def pc62_a : Ann := {
  kr := fun
    | _ => none
  ka := fun
    | _ => 0
  kh := fun
    | _ => none
  ow := fun t => match t with
    | 96 => [(1, 5, 1)]
    | _ => []
  tc := fun t => match t with
    | 96 => true
    | _ => false }
theorem pc62_ok : compFn Try.prog pc62_a Try.f62 = some pc62 := by kernel_rfl


-- 19: vedette/vedetteref6.Bytes
def pc19_o1 : List POper := [⟨some 1, .box 35 (.tmp 0) [], none, []⟩,
  ⟨some 2, .mv (.const (.string { data := { toList := [] } })), none, []⟩]
def pc19_c1 : PCode := .region none false pc19_o1
def pc19_o2 : List POper := [⟨some 5, .faddr 0 (.tmp 1), none, [(1, .at_ 1 0)]⟩,
  ⟨some 6, .load false 1 (.tmp 5), none, [(5, .at_ 1 0)]⟩,
  ⟨some 7, .prim (.conv 3 89) [.tmp 6], none, [(6, .imm)]⟩,
  ⟨some 8, .call false [[]] 60 [.tmp 7], none, [(7, .imm)]⟩,
  ⟨some 9, .faddr 1 (.tmp 1), none, [(1, .at_ 1 0)]⟩,
  ⟨some 10, .load false 1 (.tmp 9), none, [(9, .at_ 1 1)]⟩,
  ⟨some 11, .prim (.conv 5 89) [.tmp 10], none, [(10, .imm)]⟩,
  ⟨some 12, .call false [[]] 60 [.tmp 11], none, [(11, .imm)]⟩,
  ⟨some 13, .prim (.bin .add 9 false false) [.tmp 8, .tmp 12], none, [(8, .imm), (12, .imm)]⟩,
  ⟨some 3, .mv (.tmp 13), none, [(13, .imm)]⟩]
def pc19_c2 : PCode := .region none true pc19_o2
def pc19_o3 : List POper := [⟨some 14, .faddr 1 (.tmp 1), none, []⟩,
  ⟨some 15, .load false 1 (.tmp 14), none, []⟩,
  ⟨some 16, .prim (.bin .and 5 false true) [.tmp 15, .const (.int .u8 1)], none, []⟩,
  ⟨some 17, .prim (.bin .neq 5 false true) [.tmp 16, .const (.int .u8 0)], none, []⟩]
def pc19_c3 : PCode := .region none false pc19_o3
def pc19_o4 : List POper := [⟨some 18, .mv (.tmp 3), none, [(3, .imm)]⟩,
  ⟨some 19, .faddr 2 (.tmp 1), none, [(1, .at_ 1 0)]⟩,
  ⟨some 20, .faddr 0 (.tmp 19), none, [(19, .at_ 1 2)]⟩,
  ⟨some 21, .load false 1 (.tmp 20), none, [(20, .at_ 1 2)]⟩,
  ⟨some 22, .prim (.conv 3 89) [.tmp 21], none, [(21, .imm)]⟩,
  ⟨some 23, .call false [[]] 60 [.tmp 22], none, [(22, .imm)]⟩,
  ⟨some 24, .prim (.bin .add 9 false false) [.tmp 18, .tmp 23], none, [(18, .imm), (23, .imm)]⟩,
  ⟨some 25, .faddr 2 (.tmp 1), none, [(1, .at_ 1 0)]⟩,
  ⟨some 26, .faddr 1 (.tmp 25), none, [(25, .at_ 1 2)]⟩,
  ⟨some 27, .load false 1 (.tmp 26), none, [(26, .at_ 1 3)]⟩,
  ⟨some 28, .prim (.conv 3 89) [.tmp 27], none, [(27, .imm)]⟩,
  ⟨some 29, .call false [[]] 60 [.tmp 28], none, [(28, .imm)]⟩,
  ⟨some 30, .prim (.bin .add 9 false false) [.tmp 24, .tmp 29], none, [(24, .imm), (29, .imm)]⟩,
  ⟨some 3, .mv (.tmp 30), none, [(30, .imm)]⟩]
def pc19_c4 : PCode := .region none true pc19_o4
def pc19_c5 : PCode := .skip
def pc19_c6 : PCode := .cond (.tmp 17) pc19_c4 pc19_c5
def pc19_c7 : PCode := .seq pc19_c3 pc19_c6
def pc19_o8 : List POper := [⟨some 4, .mv (.const (.int .i64 0)), none, []⟩]
def pc19_c8 : PCode := .region (some ([1, 3], [1], [])) false pc19_o8
def pc19_o9 : List POper := [⟨some 31, .mv (.tmp 4), none, []⟩,
  ⟨some 32, .prim (.bin .lss 3 false true) [.tmp 31, .const (.int .i64 4)], none, []⟩]
def pc19_c9 : PCode := .region (some ([1, 3, 4], [1], [])) false pc19_o9
def pc19_c10 : PCode := .skip
def pc19_c11 : PCode := .exit 0
def pc19_c12 : PCode := .cond (.tmp 32) pc19_c10 pc19_c11
def pc19_c13 : PCode := .seq pc19_c9 pc19_c12
def pc19_o14 : List POper := [⟨some 35, .faddr 1 (.tmp 1), none, []⟩,
  ⟨some 36, .load false 1 (.tmp 35), none, []⟩,
  ⟨some 37, .mv (.tmp 4), none, []⟩,
  ⟨some 38, .prim (.bin .add 3 false true) [.tmp 37, .const (.int .i64 1)], none, []⟩,
  ⟨some 39, .prim (.conv 3 90) [.tmp 38], none, []⟩,
  ⟨some 40, .prim (.bin .shr 5 false false) [.tmp 36, .tmp 39], none, []⟩,
  ⟨some 41, .prim (.bin .and 5 false true) [.tmp 40, .const (.int .u8 1)], none, []⟩,
  ⟨some 42, .prim (.bin .neq 5 false true) [.tmp 41, .const (.int .u8 0)], none, []⟩]
def pc19_c14 : PCode := .region none false pc19_o14
def pc19_o15 : List POper := [⟨some 43, .mv (.tmp 3), none, []⟩,
  ⟨some 44, .mv (.tmp 4), none, []⟩,
  ⟨some 45, .faddr 4 (.tmp 1), none, []⟩,
  ⟨some 46, .iaddrA 4 2 (.tmp 45) (.tmp 44), none, []⟩,
  ⟨some 47, .faddr 1 (.tmp 46), none, []⟩,
  ⟨some 48, .load false 1 (.tmp 47), none, []⟩,
  ⟨some 49, .call true [[]] 61 [.tmp 48], none, []⟩,
  ⟨some 50, .prim (.bin .add 9 false false) [.tmp 43, .tmp 49], none, []⟩,
  ⟨some 3, .mv (.tmp 50), none, []⟩]
def pc19_c15 : PCode := .region none false pc19_o15
def pc19_o16 : List POper := [⟨some 51, .mv (.tmp 4), none, []⟩,
  ⟨some 52, .faddr 4 (.tmp 1), none, []⟩,
  ⟨some 53, .iaddrA 4 2 (.tmp 52) (.tmp 51), none, []⟩,
  ⟨some 54, .faddr 1 (.tmp 53), none, []⟩,
  ⟨some 55, .load false 1 (.tmp 54), none, []⟩,
  ⟨some 56, .prim (.bin .eql 9 false true) [.tmp 55, .const (.string { data := { toList := [] } })], none, []⟩]
def pc19_c16 : PCode := .region none false pc19_o16
def pc19_o17 : List POper := [⟨some 57, .mv (.tmp 3), none, []⟩,
  ⟨some 58, .mv (.tmp 4), none, []⟩,
  ⟨some 59, .faddr 4 (.tmp 1), none, []⟩,
  ⟨some 60, .iaddrA 4 2 (.tmp 59) (.tmp 58), none, []⟩,
  ⟨some 61, .faddr 0 (.tmp 60), none, []⟩,
  ⟨some 62, .load false 1 (.tmp 61), none, []⟩,
  ⟨some 63, .call true [[]] 62 [.tmp 62], none, []⟩,
  ⟨some 64, .prim (.bin .add 9 false false) [.tmp 57, .tmp 63], none, []⟩,
  ⟨some 3, .mv (.tmp 64), none, []⟩]
def pc19_c17 : PCode := .region none false pc19_o17
def pc19_c18 : PCode := .skip
def pc19_c19 : PCode := .cond (.tmp 56) pc19_c17 pc19_c18
def pc19_c20 : PCode := .seq pc19_c16 pc19_c19
def pc19_c21 : PCode := .seq pc19_c15 pc19_c20
def pc19_c22 : PCode := .skip
def pc19_c23 : PCode := .cond (.tmp 42) pc19_c21 pc19_c22
def pc19_c24 : PCode := .seq pc19_c14 pc19_c23
def pc19_c25 : PCode := .block 1 pc19_c24
def pc19_o26 : List POper := [⟨some 33, .mv (.tmp 4), none, []⟩,
  ⟨some 34, .prim (.bin .add 3 false true) [.tmp 33, .const (.int .i64 1)], none, []⟩,
  ⟨some 4, .mv (.tmp 34), none, []⟩]
def pc19_c26 : PCode := .region none false pc19_o26
def pc19_c27 : PCode := .seq pc19_c25 pc19_c26
def pc19_c28 : PCode := .seq pc19_c13 pc19_c27
def pc19_c29 : PCode := .loop pc19_c28
def pc19_c30 : PCode := .block 0 pc19_c29
def pc19_c31 : PCode := .seq pc19_c8 pc19_c30
def pc19_o32 : List POper := [⟨some 65, .mv (.tmp 3), none, []⟩,
  ⟨some 2, .mv (.tmp 65), none, []⟩]
def pc19_c32 : PCode := .region none false pc19_o32
def pc19_c33 : PCode := .ret
def pc19_c34 : PCode := .seq pc19_c32 pc19_c33
def pc19_c35 : PCode := .seq pc19_c31 pc19_c34
def pc19_c36 : PCode := .seq pc19_c7 pc19_c35
def pc19_c37 : PCode := .seq pc19_c2 pc19_c36
def pc19_c38 : PCode := .seq pc19_c1 pc19_c37
def pc19_r : List PRes := [PRes.tmp 2 []]
def pc19 : PFunc := ⟨66, pc19_r, pc19_c38, false⟩
def pc19_a : Ann := {
  kr := fun
    | 4 => some ([1, 3], [1], [])
    | 5 => some ([1, 3, 4], [1], [])
    | _ => none
  ka := fun
    | _ => 0
  kh := fun
    | 1 => some (.at_ 1 0)
    | 3 => some (.imm)
    | 5 => some (.at_ 1 0)
    | 6 => some (.imm)
    | 7 => some (.imm)
    | 8 => some (.imm)
    | 9 => some (.at_ 1 1)
    | 10 => some (.imm)
    | 11 => some (.imm)
    | 12 => some (.imm)
    | 13 => some (.imm)
    | 18 => some (.imm)
    | 19 => some (.at_ 1 2)
    | 20 => some (.at_ 1 2)
    | 21 => some (.imm)
    | 22 => some (.imm)
    | 23 => some (.imm)
    | 24 => some (.imm)
    | 25 => some (.at_ 1 2)
    | 26 => some (.at_ 1 3)
    | 27 => some (.imm)
    | 28 => some (.imm)
    | 29 => some (.imm)
    | 30 => some (.imm)
    | _ => none
  ow := fun t => match t with
    | 96 => [(1, 5, 1)]
    | _ => []
  tc := fun t => match t with
    | 96 => true
    | _ => false }
theorem pc19_ok : compFn Try.prog pc19_a Try.f19 = some pc19 := by kernel_rfl


-- 20: vedette/vedetteref6.Full
def pc20_o1 : List POper := [⟨some 1, .box 28 (.tmp 0) [], none, []⟩,
  ⟨some 2, .alloc 35 (.agg { toList := [.int .i64 0, .int .u8 0, .int .i64 0, .int .i64 0, .int .i64 0, .string { data := { toList := [] } }, .int .i64 0, .string { data := { toList := [] } }, .int .i64 0, .string { data := { toList := [] } }, .int .i64 0, .string { data := { toList := [] } }] }) [], none, []⟩]
def pc20_c1 : PCode := .region none false pc20_o1
def pc20_o2 : List POper := [⟨some 3, .faddr 0 (.tmp 1), none, []⟩,
  ⟨some 4, .load false 1 (.tmp 3), none, []⟩,
  ⟨some 5, .faddr 1 (.tmp 1), none, []⟩,
  ⟨some 6, .load true 2 (.tmp 5), none, []⟩,
  ⟨some 7, .faddr 3 (.tmp 1), none, []⟩,
  ⟨some 8, .load true 8 (.tmp 7), none, []⟩,
  ⟨some 9, .build (.agg { toList := [.int .i64 0, .int .u8 0, .int .i64 0, .int .i64 0, .int .i64 0, .string { data := { toList := [] } }, .int .i64 0, .string { data := { toList := [] } }, .int .i64 0, .string { data := { toList := [] } }, .int .i64 0, .string { data := { toList := [] } }] }) [(0, 1, .tmp 4), (1, 1, .const (.int .u8 31)), (2, 2, .tmp 6), (4, 8, .tmp 8)], none, []⟩,
  ⟨none, .store 12 (.tmp 2) (.tmp 9), none, []⟩]
def pc20_c2 : PCode := .region none false pc20_o2
def pc20_c3 : PCode := .ret
def pc20_c4 : PCode := .seq pc20_c2 pc20_c3
def pc20_c5 : PCode := .seq pc20_c1 pc20_c4
def pc20_r : List PRes := [PRes.cell 2 true 12 []]
def pc20 : PFunc := ⟨10, pc20_r, pc20_c5, false⟩
def pc20_a : Ann := {
  kr := fun
    | _ => none
  ka := fun
    | _ => 0
  kh := fun
    | _ => none
  ow := fun t => match t with
    | 96 => [(1, 5, 1)]
    | _ => []
  tc := fun t => match t with
    | 96 => true
    | _ => false }
theorem pc20_ok : compFn Try.prog pc20_a Try.f20 = some pc20 := by kernel_rfl


-- 23: vedette/vedetteref6.AllBytes
def pc23_o1 : List POper := [⟨some 2, .mv (.const (.string { data := { toList := [] } })), none, []⟩,
  ⟨some 3, .mv (.const (.int .i64 0)), none, []⟩]
def pc23_c1 : PCode := .region none false pc23_o1
def pc23_o2 : List POper := [⟨some 6, .mv (.tmp 0), none, []⟩,
  ⟨some 7, .lenS (.tmp 6), none, []⟩,
  ⟨some 8, .prim (.bin .gtr 3 false true) [.tmp 7, .const (.int .i64 200)], none, []⟩]
def pc23_c2 : PCode := .region none false pc23_o2
def pc23_o3 : List POper := [⟨some 2, .mv (.const (.string { data := { toList := [] } })), none, []⟩,
  ⟨some 3, .mv (.const (.int .i64 13)), none, []⟩]
def pc23_c3 : PCode := .region none false pc23_o3
def pc23_c4 : PCode := .ret
def pc23_c5 : PCode := .seq pc23_c3 pc23_c4
def pc23_c6 : PCode := .skip
def pc23_c7 : PCode := .cond (.tmp 8) pc23_c5 pc23_c6
def pc23_c8 : PCode := .seq pc23_c2 pc23_c7
def pc23_o9 : List POper := [⟨some 9, .mv (.tmp 0), none, []⟩,
  ⟨some 10, .lenS (.tmp 9), none, []⟩,
  ⟨some 11, .prim (.conv 3 89) [.tmp 10], none, []⟩,
  ⟨some 12, .call true [[]] 60 [.tmp 11], none, []⟩,
  ⟨some 4, .mv (.tmp 12), none, []⟩]
def pc23_c9 : PCode := .region none false pc23_o9
def pc23_o10 : List POper := [⟨some 5, .mv (.const (.int .i64 0)), none, []⟩]
def pc23_c10 : PCode := .region none false pc23_o10
def pc23_o11 : List POper := [⟨some 13, .mv (.tmp 5), none, []⟩,
  ⟨some 14, .mv (.tmp 0), none, []⟩,
  ⟨some 15, .lenS (.tmp 14), none, []⟩,
  ⟨some 16, .prim (.bin .lss 3 false false) [.tmp 13, .tmp 15], none, []⟩]
def pc23_c11 : PCode := .region (some ([0, 4, 5], [], [])) false pc23_o11
def pc23_c12 : PCode := .skip
def pc23_c13 : PCode := .exit 0
def pc23_c14 : PCode := .cond (.tmp 16) pc23_c12 pc23_c13
def pc23_c15 : PCode := .seq pc23_c11 pc23_c14
def pc23_o16 : List POper := [⟨some 19, .mv (.tmp 0), none, [(0, .imm)]⟩,
  ⟨some 20, .mv (.tmp 5), none, [(5, .imm)]⟩,
  ⟨some 21, .iaddrS 11 (.tmp 19) (.tmp 20), none, [(19, .imm), (20, .imm)]⟩,
  ⟨some 22, .load true 11 (.tmp 21), none, [(21, .imm)]⟩,
  ⟨some 23, .call false [[]] 18 [.tmp 22], none, [(22, .imm)]⟩,
  ⟨some 24, .prim (.un .not) [.tmp 23], none, [(23, .imm)]⟩,
  ⟨some 25, .mv (.tmp 24), none, [(24, .imm)]⟩,
  ⟨some 26, .mv (.tmp 5), some (25, false), [(5, .imm)]⟩,
  ⟨some 27, .prim (.bin .gtr 3 false true) [.tmp 26, .const (.int .i64 0)], some (25, false), [(26, .imm)]⟩,
  ⟨some 28, .mv (.tmp 27), some (25, false), [(27, .imm)]⟩,
  ⟨some 29, .mv (.tmp 0), some (28, true), [(0, .imm)]⟩,
  ⟨some 30, .mv (.tmp 5), some (28, true), [(5, .imm)]⟩,
  ⟨some 31, .iaddrS 11 (.tmp 29) (.tmp 30), some (28, true), [(29, .imm), (30, .imm)]⟩,
  ⟨some 32, .faddr 0 (.tmp 31), some (28, true), [(31, .imm)]⟩,
  ⟨some 33, .load false 1 (.tmp 32), some (28, true), [(32, .imm)]⟩,
  ⟨some 34, .mv (.tmp 0), some (28, true), [(0, .imm)]⟩,
  ⟨some 35, .mv (.tmp 5), some (28, true), [(5, .imm)]⟩,
  ⟨some 36, .prim (.bin .sub 3 false true) [.tmp 35, .const (.int .i64 1)], some (28, true), [(35, .imm)]⟩,
  ⟨some 37, .iaddrS 11 (.tmp 34) (.tmp 36), some (28, true), [(34, .imm), (36, .imm)]⟩,
  ⟨some 38, .faddr 0 (.tmp 37), some (28, true), [(37, .imm)]⟩,
  ⟨some 39, .load false 1 (.tmp 38), some (28, true), [(38, .imm)]⟩,
  ⟨some 40, .prim (.bin .leq 3 false false) [.tmp 33, .tmp 39], some (28, true), [(33, .imm), (39, .imm)]⟩,
  ⟨some 41, .pick (.tmp 28) (.tmp 40) (.const (.bool false)), some (25, false), [(28, .imm), (40, .imm)]⟩,
  ⟨some 42, .pick (.tmp 25) (.const (.bool true)) (.tmp 41), none, [(25, .imm), (41, .imm)]⟩]
def pc23_c16 : PCode := .region none true pc23_o16
def pc23_o17 : List POper := [⟨some 2, .mv (.const (.string { data := { toList := [] } })), none, []⟩,
  ⟨some 3, .mv (.const (.int .i64 11)), none, []⟩]
def pc23_c17 : PCode := .region none false pc23_o17
def pc23_c18 : PCode := .ret
def pc23_c19 : PCode := .seq pc23_c17 pc23_c18
def pc23_c20 : PCode := .skip
def pc23_c21 : PCode := .cond (.tmp 42) pc23_c19 pc23_c20
def pc23_c22 : PCode := .seq pc23_c16 pc23_c21
def pc23_o23 : List POper := [⟨some 43, .mv (.tmp 4), none, []⟩,
  ⟨some 44, .mv (.tmp 0), none, []⟩,
  ⟨some 45, .mv (.tmp 5), none, []⟩,
  ⟨some 46, .iaddrS 11 (.tmp 44) (.tmp 45), none, []⟩,
  ⟨some 47, .load true 11 (.tmp 46), none, []⟩,
  ⟨some 48, .call true [[]] 20 [.tmp 47], none, []⟩,
  ⟨some 49, .call true [[]] 19 [.tmp 48], none, []⟩,
  ⟨some 50, .prim (.bin .add 9 false false) [.tmp 43, .tmp 49], none, []⟩,
  ⟨some 4, .mv (.tmp 50), none, []⟩]
def pc23_c23 : PCode := .region (some ([0, 4, 5], [], [])) false pc23_o23
def pc23_c24 : PCode := .seq pc23_c22 pc23_c23
def pc23_c25 : PCode := .block 1 pc23_c24
def pc23_o26 : List POper := [⟨some 17, .mv (.tmp 5), none, []⟩,
  ⟨some 18, .prim (.bin .add 3 false true) [.tmp 17, .const (.int .i64 1)], none, []⟩,
  ⟨some 5, .mv (.tmp 18), none, []⟩]
def pc23_c26 : PCode := .region none false pc23_o26
def pc23_c27 : PCode := .seq pc23_c25 pc23_c26
def pc23_c28 : PCode := .seq pc23_c15 pc23_c27
def pc23_c29 : PCode := .loop pc23_c28
def pc23_c30 : PCode := .block 0 pc23_c29
def pc23_c31 : PCode := .seq pc23_c10 pc23_c30
def pc23_o32 : List POper := [⟨some 51, .mv (.tmp 4), none, []⟩,
  ⟨some 2, .mv (.tmp 51), none, []⟩,
  ⟨some 3, .mv (.const (.int .i64 0)), none, []⟩]
def pc23_c32 : PCode := .region none false pc23_o32
def pc23_c33 : PCode := .ret
def pc23_c34 : PCode := .seq pc23_c32 pc23_c33
def pc23_c35 : PCode := .seq pc23_c31 pc23_c34
def pc23_c36 : PCode := .seq pc23_c9 pc23_c35
def pc23_c37 : PCode := .seq pc23_c8 pc23_c36
def pc23_c38 : PCode := .seq pc23_c1 pc23_c37
def pc23_r : List PRes := [PRes.tmp 2 [], PRes.tmp 3 []]
def pc23 : PFunc := ⟨52, pc23_r, pc23_c38, false⟩
def pc23_a : Ann := {
  kr := fun
    | 5 => some ([0, 4, 5], [], [])
    | 9 => some ([0, 4, 5], [], [])
    | _ => none
  ka := fun
    | _ => 0
  kh := fun
    | 0 => some (.imm)
    | 5 => some (.imm)
    | 19 => some (.imm)
    | 20 => some (.imm)
    | 21 => some (.imm)
    | 22 => some (.imm)
    | 23 => some (.imm)
    | 24 => some (.imm)
    | 25 => some (.imm)
    | 26 => some (.imm)
    | 27 => some (.imm)
    | 28 => some (.imm)
    | 29 => some (.imm)
    | 30 => some (.imm)
    | 31 => some (.imm)
    | 32 => some (.imm)
    | 33 => some (.imm)
    | 34 => some (.imm)
    | 35 => some (.imm)
    | 36 => some (.imm)
    | 37 => some (.imm)
    | 38 => some (.imm)
    | 39 => some (.imm)
    | 40 => some (.imm)
    | 41 => some (.imm)
    | _ => none
  ow := fun t => match t with
    | 96 => [(1, 5, 1)]
    | _ => []
  tc := fun t => match t with
    | 96 => true
    | _ => false }
theorem pc23_ok : compFn Try.prog pc23_a Try.f23 = some pc23 := by kernel_rfl


-- 34: vedette/vedetteref6.SameAll
def pc34_o1 : List POper := [⟨some 4, .mv (.const (.bool false)), none, []⟩]
def pc34_c1 : PCode := .region none false pc34_o1
def pc34_o2 : List POper := [⟨some 6, .mv (.tmp 0), none, []⟩,
  ⟨some 7, .lenS (.tmp 6), none, []⟩,
  ⟨some 8, .mv (.tmp 1), none, []⟩,
  ⟨some 9, .lenS (.tmp 8), none, []⟩,
  ⟨some 10, .prim (.bin .neq 3 false false) [.tmp 7, .tmp 9], none, []⟩]
def pc34_c2 : PCode := .region none false pc34_o2
def pc34_o3 : List POper := [⟨some 4, .mv (.const (.bool false)), none, []⟩]
def pc34_c3 : PCode := .region none false pc34_o3
def pc34_c4 : PCode := .ret
def pc34_c5 : PCode := .seq pc34_c3 pc34_c4
def pc34_c6 : PCode := .skip
def pc34_c7 : PCode := .cond (.tmp 10) pc34_c5 pc34_c6
def pc34_c8 : PCode := .seq pc34_c2 pc34_c7
def pc34_o9 : List POper := [⟨some 5, .mv (.const (.int .i64 0)), none, []⟩]
def pc34_c9 : PCode := .region none false pc34_o9
def pc34_o10 : List POper := [⟨some 11, .mv (.tmp 5), none, []⟩,
  ⟨some 12, .mv (.tmp 0), none, []⟩,
  ⟨some 13, .lenS (.tmp 12), none, []⟩,
  ⟨some 14, .prim (.bin .lss 3 false false) [.tmp 11, .tmp 13], none, []⟩]
def pc34_c10 : PCode := .region (some ([0, 1, 5], [], [])) false pc34_o10
def pc34_c11 : PCode := .skip
def pc34_c12 : PCode := .exit 0
def pc34_c13 : PCode := .cond (.tmp 14) pc34_c11 pc34_c12
def pc34_c14 : PCode := .seq pc34_c10 pc34_c13
def pc34_o15 : List POper := [⟨some 17, .mv (.tmp 0), none, [(0, .imm)]⟩,
  ⟨some 18, .mv (.tmp 5), none, [(5, .imm)]⟩,
  ⟨some 19, .iaddrS 11 (.tmp 17) (.tmp 18), none, [(17, .imm), (18, .imm)]⟩,
  ⟨some 20, .load true 11 (.tmp 19), none, [(19, .imm)]⟩,
  ⟨some 21, .mv (.tmp 1), none, [(1, .imm)]⟩,
  ⟨some 22, .mv (.tmp 5), none, [(5, .imm)]⟩,
  ⟨some 23, .iaddrS 11 (.tmp 21) (.tmp 22), none, [(21, .imm), (22, .imm)]⟩,
  ⟨some 24, .load true 11 (.tmp 23), none, [(23, .imm)]⟩,
  ⟨some 25, .prim (.bin .neq 28 false false) [.tmp 20, .tmp 24], none, [(20, .imm), (24, .imm)]⟩]
def pc34_c15 : PCode := .region none true pc34_o15
def pc34_o16 : List POper := [⟨some 4, .mv (.const (.bool false)), none, []⟩]
def pc34_c16 : PCode := .region none false pc34_o16
def pc34_c17 : PCode := .ret
def pc34_c18 : PCode := .seq pc34_c16 pc34_c17
def pc34_c19 : PCode := .skip
def pc34_c20 : PCode := .cond (.tmp 25) pc34_c18 pc34_c19
def pc34_c21 : PCode := .seq pc34_c15 pc34_c20
def pc34_c22 : PCode := .block 1 pc34_c21
def pc34_o23 : List POper := [⟨some 15, .mv (.tmp 5), none, []⟩,
  ⟨some 16, .prim (.bin .add 3 false true) [.tmp 15, .const (.int .i64 1)], none, []⟩,
  ⟨some 5, .mv (.tmp 16), none, []⟩]
def pc34_c23 : PCode := .region none false pc34_o23
def pc34_c24 : PCode := .seq pc34_c22 pc34_c23
def pc34_c25 : PCode := .seq pc34_c14 pc34_c24
def pc34_c26 : PCode := .loop pc34_c25
def pc34_c27 : PCode := .block 0 pc34_c26
def pc34_c28 : PCode := .seq pc34_c9 pc34_c27
def pc34_o29 : List POper := [⟨some 4, .mv (.const (.bool true)), none, []⟩]
def pc34_c29 : PCode := .region none false pc34_o29
def pc34_c30 : PCode := .ret
def pc34_c31 : PCode := .seq pc34_c29 pc34_c30
def pc34_c32 : PCode := .seq pc34_c28 pc34_c31
def pc34_c33 : PCode := .seq pc34_c8 pc34_c32
def pc34_c34 : PCode := .seq pc34_c1 pc34_c33
def pc34_r : List PRes := [PRes.tmp 4 []]
def pc34 : PFunc := ⟨26, pc34_r, pc34_c34, false⟩
def pc34_a : Ann := {
  kr := fun
    | 4 => some ([0, 1, 5], [], [])
    | _ => none
  ka := fun
    | _ => 0
  kh := fun
    | 0 => some (.imm)
    | 1 => some (.imm)
    | 5 => some (.imm)
    | 17 => some (.imm)
    | 18 => some (.imm)
    | 19 => some (.imm)
    | 20 => some (.imm)
    | 21 => some (.imm)
    | 22 => some (.imm)
    | 23 => some (.imm)
    | 24 => some (.imm)
    | _ => none
  ow := fun t => match t with
    | 96 => [(1, 5, 1)]
    | _ => []
  tc := fun t => match t with
    | 96 => true
    | _ => false }
theorem pc34_ok : compFn Try.prog pc34_a Try.f34 = some pc34 := by kernel_rfl


-- 74: vedette/vedetteref1.Get
def pc74_o1 : List POper := [⟨some 2, .mv (.const (.int .u64 0)), none, []⟩,
  ⟨some 3, .mv (.const (.int .i64 0)), none, []⟩,
  ⟨some 4, .mv (.const (.int .i64 0)), none, []⟩]
def pc74_c1 : PCode := .region none false pc74_o1
def pc74_o2 : List POper := [⟨some 5, .mv (.const (.int .u64 0)), none, []⟩]
def pc74_c2 : PCode := .region none false pc74_o2
def pc74_o3 : List POper := [⟨some 6, .mv (.const (.int .i64 0)), none, []⟩]
def pc74_c3 : PCode := .region none false pc74_o3
def pc74_o4 : List POper := [⟨some 8, .mv (.tmp 6), none, []⟩,
  ⟨some 9, .mv (.tmp 0), none, []⟩,
  ⟨some 10, .prim (.len 9) [.tmp 9], none, []⟩,
  ⟨some 11, .prim (.bin .lss 3 false false) [.tmp 8, .tmp 10], none, []⟩]
def pc74_c4 : PCode := .region (some ([0, 5, 6], [], [])) false pc74_o4
def pc74_c5 : PCode := .skip
def pc74_c6 : PCode := .exit 0
def pc74_c7 : PCode := .cond (.tmp 11) pc74_c5 pc74_c6
def pc74_c8 : PCode := .seq pc74_c4 pc74_c7
def pc74_o9 : List POper := [⟨some 14, .mv (.tmp 0), none, []⟩,
  ⟨some 15, .mv (.tmp 6), none, []⟩,
  ⟨some 16, .prim (.index 9) [.tmp 14, .tmp 15], none, []⟩,
  ⟨some 7, .mv (.tmp 16), none, []⟩]
def pc74_c9 : PCode := .region none false pc74_o9
def pc74_o10 : List POper := [⟨some 17, .mv (.tmp 6), none, []⟩,
  ⟨some 18, .prim (.bin .eql 3 false true) [.tmp 17, .const (.int .i64 9)], none, []⟩,
  ⟨some 19, .mv (.tmp 18), none, []⟩,
  ⟨some 20, .mv (.tmp 7), some (19, true), []⟩,
  ⟨some 21, .prim (.bin .gtr 5 false true) [.tmp 20, .const (.int .u8 1)], some (19, true), []⟩,
  ⟨some 22, .pick (.tmp 19) (.tmp 21) (.const (.bool false)), none, []⟩]
def pc74_c10 : PCode := .region none false pc74_o10
def pc74_o11 : List POper := [⟨some 2, .mv (.const (.int .u64 0)), none, []⟩,
  ⟨some 3, .mv (.const (.int .i64 0)), none, []⟩,
  ⟨some 4, .mv (.const (.int .i64 11)), none, []⟩]
def pc74_c11 : PCode := .region none false pc74_o11
def pc74_c12 : PCode := .ret
def pc74_c13 : PCode := .seq pc74_c11 pc74_c12
def pc74_c14 : PCode := .skip
def pc74_c15 : PCode := .cond (.tmp 22) pc74_c13 pc74_c14
def pc74_c16 : PCode := .seq pc74_c10 pc74_c15
def pc74_o17 : List POper := [⟨some 23, .mv (.tmp 5), none, []⟩,
  ⟨some 24, .mv (.tmp 7), none, []⟩,
  ⟨some 25, .prim (.bin .and 5 false true) [.tmp 24, .const (.int .u8 127)], none, []⟩,
  ⟨some 26, .prim (.conv 5 89) [.tmp 25], none, []⟩,
  ⟨some 27, .mv (.tmp 6), none, []⟩,
  ⟨some 28, .prim (.bin .mul 3 true false) [.const (.int .i64 7), .tmp 27], none, []⟩,
  ⟨some 29, .prim (.conv 3 90) [.tmp 28], none, []⟩,
  ⟨some 30, .prim (.bin .shl 89 false false) [.tmp 26, .tmp 29], none, []⟩,
  ⟨some 31, .prim (.bin .or 89 false false) [.tmp 23, .tmp 30], none, []⟩,
  ⟨some 5, .mv (.tmp 31), none, []⟩]
def pc74_c17 : PCode := .region (some ([0, 5, 6, 7], [], [])) false pc74_o17
def pc74_o18 : List POper := [⟨some 32, .mv (.tmp 7), none, []⟩,
  ⟨some 33, .prim (.bin .lss 5 false true) [.tmp 32, .const (.int .u8 128)], none, []⟩]
def pc74_c18 : PCode := .region none false pc74_o18
def pc74_o19 : List POper := [⟨some 34, .mv (.tmp 7), none, []⟩,
  ⟨some 35, .prim (.bin .eql 5 false true) [.tmp 34, .const (.int .u8 0)], none, []⟩,
  ⟨some 36, .mv (.tmp 35), none, []⟩,
  ⟨some 37, .mv (.tmp 6), some (36, true), []⟩,
  ⟨some 38, .prim (.bin .gtr 3 false true) [.tmp 37, .const (.int .i64 0)], some (36, true), []⟩,
  ⟨some 39, .pick (.tmp 36) (.tmp 38) (.const (.bool false)), none, []⟩]
def pc74_c19 : PCode := .region none false pc74_o19
def pc74_o20 : List POper := [⟨some 2, .mv (.const (.int .u64 0)), none, []⟩,
  ⟨some 3, .mv (.const (.int .i64 0)), none, []⟩,
  ⟨some 4, .mv (.const (.int .i64 11)), none, []⟩]
def pc74_c20 : PCode := .region none false pc74_o20
def pc74_c21 : PCode := .ret
def pc74_c22 : PCode := .seq pc74_c20 pc74_c21
def pc74_c23 : PCode := .skip
def pc74_c24 : PCode := .cond (.tmp 39) pc74_c22 pc74_c23
def pc74_c25 : PCode := .seq pc74_c19 pc74_c24
def pc74_o26 : List POper := [⟨some 40, .mv (.tmp 5), none, []⟩,
  ⟨some 41, .mv (.tmp 6), none, []⟩,
  ⟨some 42, .prim (.bin .add 3 false true) [.tmp 41, .const (.int .i64 1)], none, []⟩,
  ⟨some 2, .mv (.tmp 40), none, []⟩,
  ⟨some 3, .mv (.tmp 42), none, []⟩,
  ⟨some 4, .mv (.const (.int .i64 0)), none, []⟩]
def pc74_c26 : PCode := .region (some ([5, 6], [], [])) false pc74_o26
def pc74_c27 : PCode := .ret
def pc74_c28 : PCode := .seq pc74_c26 pc74_c27
def pc74_c29 : PCode := .seq pc74_c25 pc74_c28
def pc74_c30 : PCode := .skip
def pc74_c31 : PCode := .cond (.tmp 33) pc74_c29 pc74_c30
def pc74_c32 : PCode := .seq pc74_c18 pc74_c31
def pc74_c33 : PCode := .seq pc74_c17 pc74_c32
def pc74_c34 : PCode := .seq pc74_c16 pc74_c33
def pc74_c35 : PCode := .seq pc74_c9 pc74_c34
def pc74_c36 : PCode := .block 1 pc74_c35
def pc74_o37 : List POper := [⟨some 12, .mv (.tmp 6), none, []⟩,
  ⟨some 13, .prim (.bin .add 3 false true) [.tmp 12, .const (.int .i64 1)], none, []⟩,
  ⟨some 6, .mv (.tmp 13), none, []⟩]
def pc74_c37 : PCode := .region none false pc74_o37
def pc74_c38 : PCode := .seq pc74_c36 pc74_c37
def pc74_c39 : PCode := .seq pc74_c8 pc74_c38
def pc74_c40 : PCode := .loop pc74_c39
def pc74_c41 : PCode := .block 0 pc74_c40
def pc74_c42 : PCode := .seq pc74_c3 pc74_c41
def pc74_o43 : List POper := [⟨some 2, .mv (.const (.int .u64 0)), none, []⟩,
  ⟨some 3, .mv (.const (.int .i64 0)), none, []⟩,
  ⟨some 4, .mv (.const (.int .i64 10)), none, []⟩]
def pc74_c43 : PCode := .region none false pc74_o43
def pc74_c44 : PCode := .ret
def pc74_c45 : PCode := .seq pc74_c43 pc74_c44
def pc74_c46 : PCode := .seq pc74_c42 pc74_c45
def pc74_c47 : PCode := .seq pc74_c2 pc74_c46
def pc74_c48 : PCode := .seq pc74_c1 pc74_c47
def pc74_r : List PRes := [PRes.tmp 2 [], PRes.tmp 3 [], PRes.tmp 4 []]
def pc74 : PFunc := ⟨43, pc74_r, pc74_c48, false⟩
def pc74_a : Ann := {
  kr := fun
    | 3 => some ([0, 5, 6], [], [])
    | 8 => some ([0, 5, 6, 7], [], [])
    | 12 => some ([5, 6], [], [])
    | _ => none
  ka := fun
    | _ => 0
  kh := fun
    | _ => none
  ow := fun t => match t with
    | 96 => [(1, 5, 1)]
    | _ => []
  tc := fun t => match t with
    | 96 => true
    | _ => false }
theorem pc74_ok : compFn Try.prog pc74_a Try.f74 = some pc74 := by kernel_rfl


-- 76: vedette/fields.Diff
def pc76_o1 : List POper := [⟨some 2, .box 28 (.tmp 0) [], none, []⟩,
  ⟨some 3, .box 28 (.tmp 1) [], none, []⟩,
  ⟨some 4, .alloc 35 (.agg { toList := [.int .i64 0, .int .u8 0, .int .i64 0, .int .i64 0, .int .i64 0, .string { data := { toList := [] } }, .int .i64 0, .string { data := { toList := [] } }, .int .i64 0, .string { data := { toList := [] } }, .int .i64 0, .string { data := { toList := [] } }] }) [], none, []⟩,
  ⟨some 5, .mv (.const (.bool false)), none, []⟩]
def pc76_c1 : PCode := .region none false pc76_o1
def pc76_o2 : List POper := [⟨some 9, .faddr 0 (.tmp 3), none, []⟩,
  ⟨some 10, .load false 1 (.tmp 9), none, []⟩,
  ⟨some 11, .build (.agg { toList := [.int .i64 0, .int .u8 0, .int .i64 0, .int .i64 0, .int .i64 0, .string { data := { toList := [] } }, .int .i64 0, .string { data := { toList := [] } }, .int .i64 0, .string { data := { toList := [] } }, .int .i64 0, .string { data := { toList := [] } }] }) [(0, 1, .tmp 10)], none, []⟩,
  ⟨some 6, .alloc 35 (.agg { toList := [.int .i64 0, .int .u8 0, .int .i64 0, .int .i64 0, .int .i64 0, .string { data := { toList := [] } }, .int .i64 0, .string { data := { toList := [] } }, .int .i64 0, .string { data := { toList := [] } }, .int .i64 0, .string { data := { toList := [] } }] }) [], none, []⟩,
  ⟨none, .store 12 (.tmp 6) (.tmp 11), none, []⟩]
def pc76_c2 : PCode := .region none false pc76_o2
def pc76_o3 : List POper := [⟨some 12, .faddr 1 (.tmp 2), none, []⟩,
  ⟨some 13, .load true 2 (.tmp 12), none, []⟩,
  ⟨some 14, .faddr 1 (.tmp 3), none, []⟩,
  ⟨some 15, .load true 2 (.tmp 14), none, []⟩,
  ⟨some 16, .prim (.bin .neq 23 false false) [.tmp 13, .tmp 15], none, []⟩]
def pc76_c3 : PCode := .region none false pc76_o3
def pc76_o4 : List POper := [⟨some 17, .faddr 1 (.tmp 3), none, [(3, .at_ 3 0)]⟩,
  ⟨some 18, .load true 2 (.tmp 17), none, [(17, .at_ 3 1)]⟩,
  ⟨some 19, .faddr 1 (.tmp 6), none, [(6, .at_ 6 0)]⟩,
  ⟨none, .store 1 (.tmp 19) (.const (.int .u8 1)), none, [(19, .at_ 6 1)]⟩,
  ⟨some 20, .faddr 2 (.tmp 6), none, [(6, .at_ 6 0)]⟩,
  ⟨none, .store 2 (.tmp 20) (.tmp 18), none, [(20, .at_ 6 2), (18, .imm)]⟩]
def pc76_c4 : PCode := .region none true pc76_o4
def pc76_c5 : PCode := .skip
def pc76_c6 : PCode := .cond (.tmp 16) pc76_c4 pc76_c5
def pc76_c7 : PCode := .seq pc76_c3 pc76_c6
def pc76_o8 : List POper := [⟨some 21, .faddr 3 (.tmp 3), none, []⟩,
  ⟨some 22, .load true 8 (.tmp 21), none, []⟩,
  ⟨some 23, .mv (.const (.int .i64 0)), none, []⟩]
def pc76_c8 : PCode := .region (some ([2, 3, 4, 6], [2, 3, 4, 6], [])) false pc76_o8
def pc76_o9 : List POper := [⟨some 24, .prim (.bin .lss 3 false true) [.tmp 23, .const (.int .i64 4)], none, []⟩]
def pc76_c9 : PCode := .region (some ([2, 4, 6, 22, 23], [2, 3, 4, 6, 8], [])) false pc76_o9
def pc76_c10 : PCode := .skip
def pc76_c11 : PCode := .exit 0
def pc76_c12 : PCode := .cond (.tmp 24) pc76_c10 pc76_c11
def pc76_o13 : List POper := [⟨some 25, .mv (.tmp 23), none, []⟩,
  ⟨some 26, .idx true 2 4 (.tmp 22) (.tmp 23), none, []⟩,
  ⟨some 8, .alloc 25 (.agg { toList := [.int .i64 0, .string { data := { toList := [] } }] }) [], none, []⟩,
  ⟨some 7, .mv (.tmp 25), none, []⟩,
  ⟨none, .store 2 (.tmp 8) (.tmp 26), none, []⟩]
def pc76_c13 : PCode := .region none false pc76_o13
def pc76_o14 : List POper := [⟨some 27, .mv (.tmp 7), none, [(7, .imm)]⟩,
  ⟨some 28, .faddr 3 (.tmp 2), none, [(2, .at_ 2 0)]⟩,
  ⟨some 29, .iaddrA 4 2 (.tmp 28) (.tmp 27), none, [(28, .at_ 2 3), (27, .imm)]⟩,
  ⟨some 30, .load true 2 (.tmp 29), none, [(29, .obj 2)]⟩,
  ⟨some 31, .load true 2 (.tmp 8), none, [(8, .at_ 8 0)]⟩,
  ⟨some 32, .prim (.bin .neq 25 false false) [.tmp 30, .tmp 31], none, [(30, .imm), (31, .imm)]⟩]
def pc76_c14 : PCode := .region none true pc76_o14
def pc76_o15 : List POper := [⟨some 33, .faddr 1 (.tmp 6), none, [(6, .at_ 6 0)]⟩,
  ⟨some 34, .load false 1 (.tmp 33), none, [(33, .at_ 6 1)]⟩,
  ⟨some 35, .mv (.tmp 7), none, [(7, .imm)]⟩,
  ⟨some 36, .prim (.bin .shl 5 true false) [.const (.int .u8 2), .tmp 35], none, [(35, .imm)]⟩,
  ⟨some 37, .prim (.bin .or 5 false false) [.tmp 34, .tmp 36], none, [(34, .imm), (36, .imm)]⟩,
  ⟨some 38, .faddr 1 (.tmp 6), none, [(6, .at_ 6 0)]⟩,
  ⟨none, .store 1 (.tmp 38) (.tmp 37), none, [(38, .at_ 6 1), (37, .imm)]⟩]
def pc76_c15 : PCode := .region none true pc76_o15
def pc76_o16 : List POper := [⟨some 39, .mv (.tmp 7), none, []⟩,
  ⟨some 40, .load true 2 (.tmp 8), none, []⟩,
  ⟨some 41, .faddr 4 (.tmp 6), none, []⟩,
  ⟨some 42, .iaddrA 4 2 (.tmp 41) (.tmp 39), none, []⟩,
  ⟨none, .store 2 (.tmp 42) (.tmp 40), none, []⟩]
def pc76_c16 : PCode := .region none false pc76_o16
def pc76_c17 : PCode := .seq pc76_c15 pc76_c16
def pc76_c18 : PCode := .skip
def pc76_c19 : PCode := .cond (.tmp 32) pc76_c17 pc76_c18
def pc76_c20 : PCode := .seq pc76_c14 pc76_c19
def pc76_c21 : PCode := .seq pc76_c13 pc76_c20
def pc76_c22 : PCode := .block 1 pc76_c21
def pc76_o23 : List POper := [⟨some 43, .prim (.bin .add 3 false true) [.tmp 23, .const (.int .i64 1)], none, []⟩,
  ⟨some 23, .mv (.tmp 43), none, []⟩]
def pc76_c23 : PCode := .region none false pc76_o23
def pc76_c24 : PCode := .seq pc76_c22 pc76_c23
def pc76_c25 : PCode := .seq pc76_c12 pc76_c24
def pc76_c26 : PCode := .seq pc76_c9 pc76_c25
def pc76_c27 : PCode := .loop pc76_c26
def pc76_c28 : PCode := .block 0 pc76_c27
def pc76_c29 : PCode := .seq pc76_c8 pc76_c28
def pc76_o30 : List POper := [⟨some 44, .load true 12 (.tmp 6), none, [(6, .at_ 6 0)]⟩,
  ⟨some 45, .faddr 1 (.tmp 6), none, [(6, .at_ 6 0)]⟩,
  ⟨some 46, .load false 1 (.tmp 45), none, [(45, .at_ 6 1)]⟩,
  ⟨some 47, .prim (.bin .neq 5 false true) [.tmp 46, .const (.int .u8 0)], none, [(46, .imm)]⟩,
  ⟨none, .store 12 (.tmp 4) (.tmp 44), none, [(4, .at_ 4 0), (44, .imm)]⟩,
  ⟨some 5, .mv (.tmp 47), none, [(47, .imm)]⟩]
def pc76_c30 : PCode := .region none true pc76_o30
def pc76_c31 : PCode := .ret
def pc76_c32 : PCode := .seq pc76_c30 pc76_c31
def pc76_c33 : PCode := .seq pc76_c29 pc76_c32
def pc76_c34 : PCode := .seq pc76_c7 pc76_c33
def pc76_c35 : PCode := .seq pc76_c2 pc76_c34
def pc76_c36 : PCode := .seq pc76_c1 pc76_c35
def pc76_r : List PRes := [PRes.cell 4 true 12 [], PRes.tmp 5 []]
def pc76 : PFunc := ⟨48, pc76_r, pc76_c36, false⟩
def pc76_a : Ann := {
  kr := fun
    | 4 => some ([2, 3, 4, 6], [2, 3, 4, 6], [])
    | 5 => some ([2, 4, 6, 22, 23], [2, 3, 4, 6, 8], [])
    | _ => none
  ka := fun
    | _ => 0
  kh := fun
    | 2 => some (.at_ 2 0)
    | 3 => some (.at_ 3 0)
    | 4 => some (.at_ 4 0)
    | 6 => some (.at_ 6 0)
    | 7 => some (.imm)
    | 8 => some (.at_ 8 0)
    | 17 => some (.at_ 3 1)
    | 18 => some (.imm)
    | 19 => some (.at_ 6 1)
    | 20 => some (.at_ 6 2)
    | 27 => some (.imm)
    | 28 => some (.at_ 2 3)
    | 29 => some (.obj 2)
    | 30 => some (.imm)
    | 31 => some (.imm)
    | 33 => some (.at_ 6 1)
    | 34 => some (.imm)
    | 35 => some (.imm)
    | 36 => some (.imm)
    | 37 => some (.imm)
    | 38 => some (.at_ 6 1)
    | 44 => some (.imm)
    | 45 => some (.at_ 6 1)
    | 46 => some (.imm)
    | 47 => some (.imm)
    | _ => none
  ow := fun t => match t with
    | 96 => [(1, 5, 1)]
    | _ => []
  tc := fun t => match t with
    | 96 => true
    | _ => false }
theorem pc76_ok : compFn Try.prog pc76_a Try.f76 = some pc76 := by kernel_rfl


-- 88: vedette/fields.Apply
def pc88_o1 : List POper := [⟨some 2, .box 28 (.tmp 0) [], none, []⟩,
  ⟨some 3, .box 35 (.tmp 1) [], none, []⟩,
  ⟨some 4, .alloc 28 (.agg { toList := [.int .i64 0, .int .i64 0, .int .i64 0, .int .i64 0, .string { data := { toList := [] } }, .int .i64 0, .string { data := { toList := [] } }, .int .i64 0, .string { data := { toList := [] } }, .int .i64 0, .string { data := { toList := [] } }] }) [], none, []⟩]
def pc88_c1 : PCode := .region none false pc88_o1
def pc88_o2 : List POper := [⟨some 7, .faddr 1 (.tmp 3), none, []⟩,
  ⟨some 8, .load false 1 (.tmp 7), none, []⟩,
  ⟨some 9, .prim (.bin .and 5 false true) [.tmp 8, .const (.int .u8 1)], none, []⟩,
  ⟨some 10, .prim (.bin .neq 5 false true) [.tmp 9, .const (.int .u8 0)], none, []⟩]
def pc88_c2 : PCode := .region none false pc88_o2
def pc88_o3 : List POper := [⟨some 11, .faddr 2 (.tmp 3), none, []⟩,
  ⟨some 12, .load true 2 (.tmp 11), none, []⟩,
  ⟨some 13, .faddr 1 (.tmp 2), none, []⟩,
  ⟨none, .store 2 (.tmp 13) (.tmp 12), none, []⟩]
def pc88_c3 : PCode := .region none false pc88_o3
def pc88_c4 : PCode := .skip
def pc88_c5 : PCode := .cond (.tmp 10) pc88_c3 pc88_c4
def pc88_c6 : PCode := .seq pc88_c2 pc88_c5
def pc88_o7 : List POper := [⟨some 14, .faddr 4 (.tmp 3), none, []⟩,
  ⟨some 15, .load true 8 (.tmp 14), none, []⟩,
  ⟨some 16, .mv (.const (.int .i64 0)), none, []⟩]
def pc88_c7 : PCode := .region (some ([2, 3, 4], [2, 3, 4], [])) false pc88_o7
def pc88_o8 : List POper := [⟨some 17, .prim (.bin .lss 3 false true) [.tmp 16, .const (.int .i64 4)], none, []⟩]
def pc88_c8 : PCode := .region (some ([2, 3, 4, 15, 16], [2, 3, 4, 6], [])) false pc88_o8
def pc88_c9 : PCode := .skip
def pc88_c10 : PCode := .exit 0
def pc88_c11 : PCode := .cond (.tmp 17) pc88_c9 pc88_c10
def pc88_o12 : List POper := [⟨some 18, .mv (.tmp 16), none, []⟩,
  ⟨some 19, .idx true 2 4 (.tmp 15) (.tmp 16), none, []⟩,
  ⟨some 6, .alloc 25 (.agg { toList := [.int .i64 0, .string { data := { toList := [] } }] }) [], none, []⟩,
  ⟨some 5, .mv (.tmp 18), none, []⟩,
  ⟨none, .store 2 (.tmp 6) (.tmp 19), none, []⟩]
def pc88_c12 : PCode := .region none false pc88_o12
def pc88_o13 : List POper := [⟨some 20, .faddr 1 (.tmp 3), none, []⟩,
  ⟨some 21, .load false 1 (.tmp 20), none, []⟩,
  ⟨some 22, .mv (.tmp 5), none, []⟩,
  ⟨some 23, .call true [[], []] 99 [.tmp 21, .tmp 22], none, []⟩]
def pc88_c13 : PCode := .region none false pc88_o13
def pc88_o14 : List POper := [⟨some 24, .mv (.tmp 5), none, []⟩,
  ⟨some 25, .load true 2 (.tmp 6), none, []⟩,
  ⟨some 26, .faddr 3 (.tmp 2), none, []⟩,
  ⟨some 27, .iaddrA 4 2 (.tmp 26) (.tmp 24), none, []⟩,
  ⟨none, .store 2 (.tmp 27) (.tmp 25), none, []⟩]
def pc88_c14 : PCode := .region none false pc88_o14
def pc88_c15 : PCode := .skip
def pc88_c16 : PCode := .cond (.tmp 23) pc88_c14 pc88_c15
def pc88_c17 : PCode := .seq pc88_c13 pc88_c16
def pc88_c18 : PCode := .seq pc88_c12 pc88_c17
def pc88_c19 : PCode := .block 1 pc88_c18
def pc88_o20 : List POper := [⟨some 28, .prim (.bin .add 3 false true) [.tmp 16, .const (.int .i64 1)], none, []⟩,
  ⟨some 16, .mv (.tmp 28), none, []⟩]
def pc88_c20 : PCode := .region none false pc88_o20
def pc88_c21 : PCode := .seq pc88_c19 pc88_c20
def pc88_c22 : PCode := .seq pc88_c11 pc88_c21
def pc88_c23 : PCode := .seq pc88_c8 pc88_c22
def pc88_c24 : PCode := .loop pc88_c23
def pc88_c25 : PCode := .block 0 pc88_c24
def pc88_c26 : PCode := .seq pc88_c7 pc88_c25
def pc88_o27 : List POper := [⟨some 29, .load true 11 (.tmp 2), none, []⟩,
  ⟨none, .store 11 (.tmp 4) (.tmp 29), none, []⟩]
def pc88_c27 : PCode := .region none false pc88_o27
def pc88_c28 : PCode := .ret
def pc88_c29 : PCode := .seq pc88_c27 pc88_c28
def pc88_c30 : PCode := .seq pc88_c26 pc88_c29
def pc88_c31 : PCode := .seq pc88_c6 pc88_c30
def pc88_c32 : PCode := .seq pc88_c1 pc88_c31
def pc88_r : List PRes := [PRes.cell 4 true 11 []]
def pc88 : PFunc := ⟨30, pc88_r, pc88_c32, false⟩
def pc88_a : Ann := {
  kr := fun
    | 3 => some ([2, 3, 4], [2, 3, 4], [])
    | 4 => some ([2, 3, 4, 15, 16], [2, 3, 4, 6], [])
    | _ => none
  ka := fun
    | _ => 0
  kh := fun
    | _ => none
  ow := fun t => match t with
    | 96 => [(1, 5, 1)]
    | _ => []
  tc := fun t => match t with
    | 96 => true
    | _ => false }
theorem pc88_ok : compFn Try.prog pc88_a Try.f88 = some pc88 := by kernel_rfl


-- 94: vedette/vedetteref6.IsDelta
def pc94_o1 : List POper := [⟨some 1, .box 35 (.tmp 0) [], none, []⟩,
  ⟨some 2, .mv (.const (.bool false)), none, []⟩]
def pc94_c1 : PCode := .region none false pc94_o1
def pc94_o2 : List POper := [⟨some 4, .faddr 0 (.tmp 1), none, []⟩,
  ⟨some 5, .load false 1 (.tmp 4), none, []⟩,
  ⟨some 6, .prim (.bin .lss 3 false true) [.tmp 5, .const (.int .i64 0)], none, []⟩,
  ⟨some 7, .mv (.tmp 6), none, []⟩,
  ⟨some 8, .faddr 0 (.tmp 1), some (7, false), []⟩,
  ⟨some 9, .load false 1 (.tmp 8), some (7, false), []⟩,
  ⟨some 10, .prim (.bin .gtr 3 false true) [.tmp 9, .const (.int .i64 1000000)], some (7, false), []⟩,
  ⟨some 11, .pick (.tmp 7) (.const (.bool true)) (.tmp 10), none, []⟩,
  ⟨some 12, .mv (.tmp 11), none, []⟩,
  ⟨some 13, .faddr 1 (.tmp 1), some (12, false), []⟩,
  ⟨some 14, .load false 1 (.tmp 13), some (12, false), []⟩,
  ⟨some 15, .prim (.bin .lss 5 false true) [.tmp 14, .const (.int .u8 1)], some (12, false), []⟩,
  ⟨some 16, .pick (.tmp 12) (.const (.bool true)) (.tmp 15), none, []⟩,
  ⟨some 17, .mv (.tmp 16), none, []⟩,
  ⟨some 18, .faddr 1 (.tmp 1), some (17, false), []⟩,
  ⟨some 19, .load false 1 (.tmp 18), some (17, false), []⟩,
  ⟨some 20, .prim (.bin .gtr 5 false true) [.tmp 19, .const (.int .u8 31)], some (17, false), []⟩,
  ⟨some 21, .pick (.tmp 17) (.const (.bool true)) (.tmp 20), none, []⟩]
def pc94_c2 : PCode := .region none false pc94_o2
def pc94_o3 : List POper := [⟨some 2, .mv (.const (.bool false)), none, []⟩]
def pc94_c3 : PCode := .region none false pc94_o3
def pc94_c4 : PCode := .ret
def pc94_c5 : PCode := .seq pc94_c3 pc94_c4
def pc94_c6 : PCode := .skip
def pc94_c7 : PCode := .cond (.tmp 21) pc94_c5 pc94_c6
def pc94_c8 : PCode := .seq pc94_c2 pc94_c7
def pc94_o9 : List POper := [⟨some 22, .faddr 1 (.tmp 1), none, []⟩,
  ⟨some 23, .load false 1 (.tmp 22), none, []⟩,
  ⟨some 24, .prim (.bin .and 5 false true) [.tmp 23, .const (.int .u8 1)], none, []⟩,
  ⟨some 25, .prim (.bin .neq 5 false true) [.tmp 24, .const (.int .u8 0)], none, []⟩,
  ⟨some 26, .mv (.tmp 25), none, []⟩,
  ⟨some 27, .faddr 2 (.tmp 1), some (26, true), []⟩,
  ⟨some 28, .load true 2 (.tmp 27), some (26, true), []⟩,
  ⟨some 29, .call true [[]] 58 [.tmp 28], some (26, true), []⟩,
  ⟨some 30, .prim (.un .not) [.tmp 29], some (26, true), []⟩,
  ⟨some 31, .pick (.tmp 26) (.tmp 30) (.const (.bool false)), none, []⟩,
  ⟨some 32, .mv (.tmp 31), none, []⟩,
  ⟨some 33, .faddr 1 (.tmp 1), some (32, false), []⟩,
  ⟨some 34, .load false 1 (.tmp 33), some (32, false), []⟩,
  ⟨some 35, .prim (.bin .and 5 false true) [.tmp 34, .const (.int .u8 1)], some (32, false), []⟩,
  ⟨some 36, .prim (.bin .eql 5 false true) [.tmp 35, .const (.int .u8 0)], some (32, false), []⟩,
  ⟨some 37, .mv (.tmp 36), some (32, false), []⟩,
  ⟨some 38, .faddr 2 (.tmp 1), some (37, true), []⟩,
  ⟨some 39, .load true 2 (.tmp 38), some (37, true), []⟩,
  ⟨some 40, .build (.agg { toList := [.int .i64 0, .int .i64 0] }) [], some (37, true), []⟩,
  ⟨some 41, .prim (.bin .neq 23 false false) [.tmp 39, .tmp 40], some (37, true), []⟩,
  ⟨some 42, .pick (.tmp 37) (.tmp 41) (.const (.bool false)), some (32, false), []⟩,
  ⟨some 43, .pick (.tmp 32) (.const (.bool true)) (.tmp 42), none, []⟩]
def pc94_c9 : PCode := .region none false pc94_o9
def pc94_o10 : List POper := [⟨some 2, .mv (.const (.bool false)), none, []⟩]
def pc94_c10 : PCode := .region none false pc94_o10
def pc94_c11 : PCode := .ret
def pc94_c12 : PCode := .seq pc94_c10 pc94_c11
def pc94_c13 : PCode := .skip
def pc94_c14 : PCode := .cond (.tmp 43) pc94_c12 pc94_c13
def pc94_c15 : PCode := .seq pc94_c9 pc94_c14
def pc94_o16 : List POper := [⟨some 3, .mv (.const (.int .i64 0)), none, []⟩]
def pc94_c16 : PCode := .region (some ([1], [1], [])) false pc94_o16
def pc94_o17 : List POper := [⟨some 44, .mv (.tmp 3), none, []⟩,
  ⟨some 45, .prim (.bin .lss 3 false true) [.tmp 44, .const (.int .i64 4)], none, []⟩]
def pc94_c17 : PCode := .region (some ([1, 3], [1], [])) false pc94_o17
def pc94_c18 : PCode := .skip
def pc94_c19 : PCode := .exit 0
def pc94_c20 : PCode := .cond (.tmp 45) pc94_c18 pc94_c19
def pc94_c21 : PCode := .seq pc94_c17 pc94_c20
def pc94_o22 : List POper := [⟨some 48, .mv (.tmp 3), none, []⟩,
  ⟨some 49, .faddr 4 (.tmp 1), none, []⟩,
  ⟨some 50, .iaddrA 4 2 (.tmp 49) (.tmp 48), none, []⟩,
  ⟨some 51, .load true 2 (.tmp 50), none, []⟩,
  ⟨some 52, .call true [[]] 59 [.tmp 51], none, []⟩,
  ⟨some 53, .prim (.un .not) [.tmp 52], none, []⟩,
  ⟨some 54, .mv (.tmp 53), none, []⟩,
  ⟨some 55, .faddr 1 (.tmp 1), some (54, false), []⟩,
  ⟨some 56, .load false 1 (.tmp 55), some (54, false), []⟩,
  ⟨some 57, .mv (.tmp 3), some (54, false), []⟩,
  ⟨some 58, .prim (.bin .add 3 false true) [.tmp 57, .const (.int .i64 1)], some (54, false), []⟩,
  ⟨some 59, .prim (.conv 3 90) [.tmp 58], some (54, false), []⟩,
  ⟨some 60, .prim (.bin .shr 5 false false) [.tmp 56, .tmp 59], some (54, false), []⟩,
  ⟨some 61, .prim (.bin .and 5 false true) [.tmp 60, .const (.int .u8 1)], some (54, false), []⟩,
  ⟨some 62, .prim (.bin .eql 5 false true) [.tmp 61, .const (.int .u8 0)], some (54, false), []⟩,
  ⟨some 63, .mv (.tmp 62), some (54, false), []⟩,
  ⟨some 64, .mv (.tmp 3), some (63, true), []⟩,
  ⟨some 65, .faddr 4 (.tmp 1), some (63, true), []⟩,
  ⟨some 66, .iaddrA 4 2 (.tmp 65) (.tmp 64), some (63, true), []⟩,
  ⟨some 67, .load true 2 (.tmp 66), some (63, true), []⟩,
  ⟨some 68, .build (.agg { toList := [.int .i64 0, .string { data := { toList := [] } }] }) [], some (63, true), []⟩,
  ⟨some 69, .prim (.bin .neq 25 false false) [.tmp 67, .tmp 68], some (63, true), []⟩,
  ⟨some 70, .pick (.tmp 63) (.tmp 69) (.const (.bool false)), some (54, false), []⟩,
  ⟨some 71, .pick (.tmp 54) (.const (.bool true)) (.tmp 70), none, []⟩]
def pc94_c22 : PCode := .region none false pc94_o22
def pc94_o23 : List POper := [⟨some 2, .mv (.const (.bool false)), none, []⟩]
def pc94_c23 : PCode := .region none false pc94_o23
def pc94_c24 : PCode := .ret
def pc94_c25 : PCode := .seq pc94_c23 pc94_c24
def pc94_c26 : PCode := .skip
def pc94_c27 : PCode := .cond (.tmp 71) pc94_c25 pc94_c26
def pc94_c28 : PCode := .seq pc94_c22 pc94_c27
def pc94_c29 : PCode := .block 1 pc94_c28
def pc94_o30 : List POper := [⟨some 46, .mv (.tmp 3), none, []⟩,
  ⟨some 47, .prim (.bin .add 3 false true) [.tmp 46, .const (.int .i64 1)], none, []⟩,
  ⟨some 3, .mv (.tmp 47), none, []⟩]
def pc94_c30 : PCode := .region none false pc94_o30
def pc94_c31 : PCode := .seq pc94_c29 pc94_c30
def pc94_c32 : PCode := .seq pc94_c21 pc94_c31
def pc94_c33 : PCode := .loop pc94_c32
def pc94_c34 : PCode := .block 0 pc94_c33
def pc94_c35 : PCode := .seq pc94_c16 pc94_c34
def pc94_o36 : List POper := [⟨some 2, .mv (.const (.bool true)), none, []⟩]
def pc94_c36 : PCode := .region none false pc94_o36
def pc94_c37 : PCode := .ret
def pc94_c38 : PCode := .seq pc94_c36 pc94_c37
def pc94_c39 : PCode := .seq pc94_c35 pc94_c38
def pc94_c40 : PCode := .seq pc94_c15 pc94_c39
def pc94_c41 : PCode := .seq pc94_c8 pc94_c40
def pc94_c42 : PCode := .seq pc94_c1 pc94_c41
def pc94_r : List PRes := [PRes.tmp 2 []]
def pc94 : PFunc := ⟨72, pc94_r, pc94_c42, false⟩
def pc94_a : Ann := {
  kr := fun
    | 5 => some ([1], [1], [])
    | 6 => some ([1, 3], [1], [])
    | _ => none
  ka := fun
    | _ => 0
  kh := fun
    | _ => none
  ow := fun t => match t with
    | 96 => [(1, 5, 1)]
    | _ => []
  tc := fun t => match t with
    | 96 => true
    | _ => false }
theorem pc94_ok : compFn Try.prog pc94_a Try.f94 = some pc94 := by kernel_rfl


end Go.Proofs.Ytobeamaaifgllaa
