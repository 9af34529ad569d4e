/-
  Code of functions, as the pure machine runs it. No condition.
-/
import Derived.Test.YtobeamaaifgllaaThingManyT
namespace Go.Proofs.Ytobeamaaifgllaa
open Go Go.Rx
set_option maxRecDepth 100000
set_option linter.unusedVariables false
set_option linter.unusedSimpArgs false
set_option linter.unnecessarySimpa false
-- 107: vedette/vedetteref1.Texts
def pc107_o1 : List POper := [⟨some 4, .mv (.const (.string { data := { toList := [] } })), none, []⟩,
  ⟨some 5, .mv (.const (.int .i64 0)), none, []⟩,
  ⟨some 6, .mv (.const (.int .i64 0)), none, []⟩]
def pc107_c1 : PCode := .region none false pc107_o1
def pc107_o2 : List POper := [⟨some 11, .mv (.tmp 0), none, []⟩,
  ⟨some 12, .call true [[]] 74 [.tmp 11], none, []⟩,
  ⟨some 10, .mv (.tmp 12), none, []⟩,
  ⟨some 13, .ext (.tmp 10) 0, none, []⟩,
  ⟨some 14, .ext (.tmp 10) 1, none, []⟩,
  ⟨some 15, .ext (.tmp 10) 2, none, []⟩,
  ⟨some 7, .mv (.tmp 13), none, []⟩,
  ⟨some 8, .mv (.tmp 14), none, []⟩,
  ⟨some 9, .mv (.tmp 15), none, []⟩]
def pc107_c2 : PCode := .region none false pc107_o2
def pc107_o3 : List POper := [⟨some 17, .mv (.tmp 9), none, []⟩,
  ⟨some 18, .prim (.bin .neq 3 false true) [.tmp 17, .const (.int .i64 0)], none, []⟩,
  ⟨some 16, .mv (.tmp 18), none, []⟩]
def pc107_c3 : PCode := .region none false pc107_o3
def pc107_o4 : List POper := [⟨some 19, .mv (.tmp 9), none, []⟩,
  ⟨some 4, .mv (.const (.string { data := { toList := [] } })), none, []⟩,
  ⟨some 5, .mv (.const (.int .i64 0)), none, []⟩,
  ⟨some 6, .mv (.tmp 19), none, []⟩]
def pc107_c4 : PCode := .region none false pc107_o4
def pc107_c5 : PCode := .ret
def pc107_c6 : PCode := .seq pc107_c4 pc107_c5
def pc107_o7 : List POper := [⟨some 21, .mv (.tmp 7), none, []⟩,
  ⟨some 22, .mv (.tmp 1), none, []⟩,
  ⟨some 23, .prim .max [.const (.int .i64 0), .tmp 22], none, []⟩,
  ⟨some 24, .prim (.conv 3 89) [.tmp 23], none, []⟩,
  ⟨some 25, .prim (.bin .gtr 89 false false) [.tmp 21, .tmp 24], none, []⟩,
  ⟨some 20, .mv (.tmp 25), none, []⟩]
def pc107_c7 : PCode := .region none false pc107_o7
def pc107_o8 : List POper := [⟨some 4, .mv (.const (.string { data := { toList := [] } })), none, []⟩,
  ⟨some 5, .mv (.const (.int .i64 0)), none, []⟩,
  ⟨some 6, .mv (.const (.int .i64 13)), none, []⟩]
def pc107_c8 : PCode := .region none false pc107_o8
def pc107_c9 : PCode := .ret
def pc107_c10 : PCode := .seq pc107_c8 pc107_c9
def pc107_o11 : List POper := [⟨some 27, .mv (.tmp 7), none, []⟩,
  ⟨some 28, .mv (.tmp 0), none, []⟩,
  ⟨some 29, .prim (.len 9) [.tmp 28], none, []⟩,
  ⟨some 30, .mv (.tmp 8), none, []⟩,
  ⟨some 31, .prim (.bin .sub 3 false false) [.tmp 29, .tmp 30], none, []⟩,
  ⟨some 32, .prim (.conv 3 89) [.tmp 31], none, []⟩,
  ⟨some 33, .prim (.bin .gtr 89 false false) [.tmp 27, .tmp 32], none, []⟩,
  ⟨some 26, .mv (.tmp 33), none, []⟩]
def pc107_c11 : PCode := .region none false pc107_o11
def pc107_o12 : List POper := [⟨some 4, .mv (.const (.string { data := { toList := [] } })), none, []⟩,
  ⟨some 5, .mv (.const (.int .i64 0)), none, []⟩,
  ⟨some 6, .mv (.const (.int .i64 10)), none, []⟩]
def pc107_c12 : PCode := .region none false pc107_o12
def pc107_c13 : PCode := .ret
def pc107_c14 : PCode := .seq pc107_c12 pc107_c13
def pc107_c15 : PCode := .skip
def pc107_c16 : PCode := .cond (.tmp 26) pc107_c14 pc107_c15
def pc107_c17 : PCode := .seq pc107_c11 pc107_c16
def pc107_c18 : PCode := .cond (.tmp 20) pc107_c10 pc107_c17
def pc107_c19 : PCode := .seq pc107_c7 pc107_c18
def pc107_c20 : PCode := .cond (.tmp 16) pc107_c6 pc107_c19
def pc107_c21 : PCode := .seq pc107_c3 pc107_c20
def pc107_c22 : PCode := .block 0 pc107_c21
def pc107_o23 : List POper := [⟨some 34, .mv (.tmp 0), none, []⟩,
  ⟨some 35, .mv (.tmp 8), none, []⟩,
  ⟨some 36, .mv (.tmp 8), none, []⟩,
  ⟨some 37, .mv (.tmp 7), none, []⟩,
  ⟨some 38, .prim (.conv 89 3) [.tmp 37], none, []⟩,
  ⟨some 39, .prim (.bin .add 3 false false) [.tmp 36, .tmp 38], none, []⟩,
  ⟨some 40, .prim (.slice 9 true true) [.tmp 34, .tmp 35, .tmp 39], none, []⟩,
  ⟨some 41, .mv (.tmp 8), none, []⟩,
  ⟨some 42, .mv (.tmp 7), none, []⟩,
  ⟨some 43, .prim (.conv 89 3) [.tmp 42], none, []⟩,
  ⟨some 44, .prim (.bin .add 3 false false) [.tmp 41, .tmp 43], none, []⟩,
  ⟨some 4, .mv (.tmp 40), none, []⟩,
  ⟨some 5, .mv (.tmp 44), none, []⟩,
  ⟨some 6, .mv (.const (.int .i64 0)), none, []⟩]
def pc107_c23 : PCode := .region none false pc107_o23
def pc107_c24 : PCode := .ret
def pc107_c25 : PCode := .seq pc107_c23 pc107_c24
def pc107_c26 : PCode := .seq pc107_c22 pc107_c25
def pc107_c27 : PCode := .seq pc107_c2 pc107_c26
def pc107_c28 : PCode := .seq pc107_c1 pc107_c27
def pc107_r : List PRes := [PRes.tmp 4 [], PRes.tmp 5 [], PRes.tmp 6 []]
def pc107 : PFunc := ⟨45, pc107_r, pc107_c28, false⟩
def pc107_a : Ann := {
  kr := fun
    | _ => none
  ka := fun
    | _ => 0
  kh := fun
    | _ => none
  ow := fun t => match t with
    | 96 => [(1, 5, 1)]
    | _ => []
  tc := fun t => match t with
    | 96 => true
    | _ => false }
theorem pc107_ok : compFn Try.prog pc107_a Try.f107 = some pc107 := by kernel_rfl


-- 119: vedette/vedetteref1.Zag
def pc119_o1 : List POper := [⟨some 2, .mv (.const (.int .i64 0)), none, []⟩]
def pc119_c1 : PCode := .region none false pc119_o1
def pc119_o2 : List POper := [⟨some 3, .mv (.tmp 0), none, []⟩,
  ⟨some 4, .prim (.bin .shr 89 false true) [.tmp 3, .const (.int .u64 1)], none, []⟩,
  ⟨some 5, .prim (.conv 89 2) [.tmp 4], none, []⟩,
  ⟨some 6, .mv (.tmp 0), none, []⟩,
  ⟨some 7, .prim (.bin .and 89 false true) [.tmp 6, .const (.int .u64 1)], none, []⟩,
  ⟨some 8, .prim (.conv 89 2) [.tmp 7], none, []⟩,
  ⟨some 9, .prim (.un .neg) [.tmp 8], none, []⟩,
  ⟨some 10, .prim (.bin .xor 2 false false) [.tmp 5, .tmp 9], none, []⟩,
  ⟨some 2, .mv (.tmp 10), none, []⟩]
def pc119_c2 : PCode := .region none false pc119_o2
def pc119_c3 : PCode := .ret
def pc119_c4 : PCode := .seq pc119_c2 pc119_c3
def pc119_c5 : PCode := .seq pc119_c1 pc119_c4
def pc119_r : List PRes := [PRes.tmp 2 []]
def pc119 : PFunc := ⟨11, pc119_r, pc119_c5, false⟩
def pc119_a : Ann := {
  kr := fun
    | _ => none
  ka := fun
    | _ => 0
  kh := fun
    | _ => none
  ow := fun t => match t with
    | 96 => [(1, 5, 1)]
    | _ => []
  tc := fun t => match t with
    | 96 => true
    | _ => false }
theorem pc119_ok : compFn Try.prog pc119_a Try.f119 = some pc119 := by kernel_rfl


-- 108: vedette/vedetteref1.Ints
def pc108_o1 : List POper := [⟨some 2, .mv (.const (.int .i64 0)), none, []⟩,
  ⟨some 3, .mv (.const (.int .i64 0)), none, []⟩,
  ⟨some 4, .mv (.const (.int .i64 0)), none, []⟩]
def pc108_c1 : PCode := .region none false pc108_o1
def pc108_o2 : List POper := [⟨some 9, .mv (.tmp 0), none, []⟩,
  ⟨some 10, .call true [[]] 74 [.tmp 9], none, []⟩,
  ⟨some 8, .mv (.tmp 10), none, []⟩,
  ⟨some 11, .ext (.tmp 8) 0, none, []⟩,
  ⟨some 12, .ext (.tmp 8) 1, none, []⟩,
  ⟨some 13, .ext (.tmp 8) 2, none, []⟩,
  ⟨some 5, .mv (.tmp 11), none, []⟩,
  ⟨some 6, .mv (.tmp 12), none, []⟩,
  ⟨some 7, .mv (.tmp 13), none, []⟩]
def pc108_c2 : PCode := .region none false pc108_o2
def pc108_o3 : List POper := [⟨some 14, .mv (.tmp 5), none, []⟩,
  ⟨some 15, .call true [[]] 119 [.tmp 14], none, []⟩,
  ⟨some 16, .mv (.tmp 6), none, []⟩,
  ⟨some 17, .mv (.tmp 7), none, []⟩,
  ⟨some 2, .mv (.tmp 15), none, []⟩,
  ⟨some 3, .mv (.tmp 16), none, []⟩,
  ⟨some 4, .mv (.tmp 17), none, []⟩]
def pc108_c3 : PCode := .region none false pc108_o3
def pc108_c4 : PCode := .ret
def pc108_c5 : PCode := .seq pc108_c3 pc108_c4
def pc108_c6 : PCode := .seq pc108_c2 pc108_c5
def pc108_c7 : PCode := .seq pc108_c1 pc108_c6
def pc108_r : List PRes := [PRes.tmp 2 [], PRes.tmp 3 [], PRes.tmp 4 []]
def pc108 : PFunc := ⟨18, pc108_r, pc108_c7, false⟩
def pc108_a : Ann := {
  kr := fun
    | _ => none
  ka := fun
    | _ => 0
  kh := fun
    | _ => none
  ow := fun t => match t with
    | 96 => [(1, 5, 1)]
    | _ => []
  tc := fun t => match t with
    | 96 => true
    | _ => false }
theorem pc108_ok : compFn Try.prog pc108_a Try.f108 = some pc108 := by kernel_rfl


end Go.Proofs.Ytobeamaaifgllaa
