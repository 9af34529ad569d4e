/-
  Code of functions, as the pure machine runs it. No condition.
-/
import Derived.Test.YtobeamaaifgllaaEventTellsT
namespace Go.Proofs.Ytobeamaaifgllaa
open Go Go.Rx
set_option maxRecDepth 100000
set_option linter.unusedVariables false
set_option linter.unusedSimpArgs false
set_option linter.unnecessarySimpa false
-- 47: vedette/vedetteref15.Bytes
def pc47_o1 : List POper := [zo 2 (.mv (.const (.string { data := { toList := [] } }))),
  zo 3 (.mv (.const (.int .i64 0)))]
def pc47_c1 : PCode := .region none false pc47_o1
def pc47_o2 : List POper := [zo 4 (.mv (.const (.int .i64 0)))]
def pc47_c2 : PCode := .region none false pc47_o2
def pc47_o3 : List POper := [zo 7 (.mv (.tmp 4)),
  zo 8 (.mv (.tmp 0)),
  zo 9 (.lenS (.tmp 8)),
  zo 10 (.prim (.bin .lss 3 false false) [.tmp 7, .tmp 9])]
def pc47_c3 : PCode := .region (some ([0, 4], [], [])) false pc47_o3
def pc47_c4 : PCode := .skip
def pc47_c5 : PCode := .exit 0
def pc47_c6 : PCode := .cond (.tmp 10) pc47_c4 pc47_c5
def pc47_c7 : PCode := .seq pc47_c3 pc47_c6
def pc47_o8 : List POper := [zo 13 (.mv (.tmp 0)),
  zo 14 (.mv (.tmp 4)),
  zo 15 (.iaddrS 25 (.tmp 13) (.tmp 14)),
  zo 16 (.load true 25 (.tmp 15)),
  zo 17 (.call true [[]] 53 [.tmp 16]),
  zo 18 (.prim (.un .not) [.tmp 17])]
def pc47_c8 : PCode := .region none false pc47_o8
def pc47_o9 : List POper := [zo 2 (.mv (.const (.string { data := { toList := [] } }))),
  zo 3 (.mv (.const (.int .i64 11)))]
def pc47_c9 : PCode := .region none false pc47_o9
def pc47_c10 : PCode := .ret
def pc47_c11 : PCode := .seq pc47_c9 pc47_c10
def pc47_c12 : PCode := .skip
def pc47_c13 : PCode := .cond (.tmp 18) pc47_c11 pc47_c12
def pc47_c14 : PCode := .seq pc47_c8 pc47_c13
def pc47_c15 : PCode := .block 1 pc47_c14
def pc47_o16 : List POper := [zo 11 (.mv (.tmp 4)),
  zo 12 (.prim (.bin .add 3 false true) [.tmp 11, .const (.int .i64 1)]),
  zo 4 (.mv (.tmp 12))]
def pc47_c16 : PCode := .region none false pc47_o16
def pc47_c17 : PCode := .seq pc47_c15 pc47_c16
def pc47_c18 : PCode := .seq pc47_c7 pc47_c17
def pc47_c19 : PCode := .loop pc47_c18
def pc47_c20 : PCode := .block 0 pc47_c19
def pc47_c21 : PCode := .seq pc47_c2 pc47_c20
def pc47_o22 : List POper := [zo 19 (.mv (.tmp 0)),
  zo 20 (.lenS (.tmp 19)),
  zo 21 (.prim (.bin .gtr 3 false true) [.tmp 20, .const (.int .i64 400)])]
def pc47_c22 : PCode := .region none false pc47_o22
def pc47_o23 : List POper := [zo 2 (.mv (.const (.string { data := { toList := [] } }))),
  zo 3 (.mv (.const (.int .i64 13)))]
def pc47_c23 : PCode := .region none false pc47_o23
def pc47_c24 : PCode := .ret
def pc47_c25 : PCode := .seq pc47_c23 pc47_c24
def pc47_c26 : PCode := .skip
def pc47_c27 : PCode := .cond (.tmp 21) pc47_c25 pc47_c26
def pc47_c28 : PCode := .seq pc47_c22 pc47_c27
def pc47_o29 : List POper := [zo 22 (.mv (.tmp 0)),
  zo 23 (.lenS (.tmp 22)),
  zo 24 (.prim (.conv 3 89) [.tmp 23]),
  zo 25 (.call true [[]] 60 [.tmp 24]),
  zo 5 (.mv (.tmp 25))]
def pc47_c29 : PCode := .region none false pc47_o29
def pc47_o30 : List POper := [zo 6 (.mv (.const (.int .i64 0)))]
def pc47_c30 : PCode := .region none false pc47_o30
def pc47_o31 : List POper := [zo 26 (.mv (.tmp 6)),
  zo 27 (.mv (.tmp 0)),
  zo 28 (.lenS (.tmp 27)),
  zo 29 (.prim (.bin .lss 3 false false) [.tmp 26, .tmp 28])]
def pc47_c31 : PCode := .region (some ([0, 5, 6], [], [])) false pc47_o31
def pc47_c32 : PCode := .skip
def pc47_c33 : PCode := .exit 2
def pc47_c34 : PCode := .cond (.tmp 29) pc47_c32 pc47_c33
def pc47_c35 : PCode := .seq pc47_c31 pc47_c34
def pc47_o36 : List POper := [zo 32 (.mv (.tmp 5)),
  zo 33 (.mv (.tmp 0)),
  zo 34 (.mv (.tmp 6)),
  zo 35 (.iaddrS 25 (.tmp 33) (.tmp 34)),
  zo 36 (.faddr 0 (.tmp 35)),
  zo 37 (.load false 1 (.tmp 36)),
  zo 38 (.prim (.conv 3 89) [.tmp 37]),
  zo 39 (.call true [[]] 60 [.tmp 38]),
  zo 40 (.prim (.bin .add 9 false false) [.tmp 32, .tmp 39]),
  zo 5 (.mv (.tmp 40))]
def pc47_c36 : PCode := .region none false pc47_o36
def pc47_o37 : List POper := [zo 41 (.mv (.tmp 0)),
  zo 42 (.mv (.tmp 6)),
  zo 43 (.iaddrS 25 (.tmp 41) (.tmp 42)),
  zo 44 (.faddr 0 (.tmp 43)),
  zo 45 (.load false 1 (.tmp 44))]
def pc47_c37 : PCode := .region none false pc47_o37
def pc47_o38 : List POper := [zo 56 (.prim (.bin .eql 3 false true) [.tmp 45, .const (.int .i64 1)]),
  zo 55 (.mv (.tmp 56))]
def pc47_c38 : PCode := .region none false pc47_o38
def pc47_o39 : List POper := [zo 57 (.mv (.tmp 5)),
  zo 58 (.mv (.tmp 0)),
  zo 59 (.mv (.tmp 6)),
  zo 60 (.iaddrS 25 (.tmp 58) (.tmp 59)),
  zo 61 (.faddr 2 (.tmp 60)),
  zo 62 (.load true 11 (.tmp 61)),
  zo 63 (.call true [[]] 20 [.tmp 62]),
  zo 64 (.call true [[]] 19 [.tmp 63]),
  zo 65 (.prim (.bin .add 9 false false) [.tmp 57, .tmp 64]),
  zo 5 (.mv (.tmp 65))]
def pc47_c39 : PCode := .region none false pc47_o39
def pc47_o40 : List POper := [zo 67 (.prim (.bin .eql 3 false true) [.tmp 45, .const (.int .i64 2)]),
  zo 66 (.mv (.tmp 67))]
def pc47_c40 : PCode := .region none false pc47_o40
def pc47_o41 : List POper := [zo 68 (.mv (.tmp 5)),
  zo 69 (.mv (.tmp 0)),
  zo 70 (.mv (.tmp 6)),
  zo 71 (.iaddrS 25 (.tmp 69) (.tmp 70)),
  zo 72 (.faddr 13 (.tmp 71)),
  zo 73 (.load true 12 (.tmp 72)),
  zo 74 (.call true [[]] 19 [.tmp 73]),
  zo 75 (.prim (.bin .add 9 false false) [.tmp 68, .tmp 74]),
  zo 5 (.mv (.tmp 75))]
def pc47_c41 : PCode := .region none false pc47_o41
def pc47_o42 : List POper := [zo 46 (.mv (.tmp 5)),
  zo 47 (.mv (.tmp 0)),
  zo 48 (.mv (.tmp 6)),
  zo 49 (.iaddrS 25 (.tmp 47) (.tmp 48)),
  zo 50 (.faddr 1 (.tmp 49)),
  zo 51 (.load false 1 (.tmp 50)),
  zo 52 (.prim (.conv 3 89) [.tmp 51]),
  zo 53 (.call true [[]] 60 [.tmp 52]),
  zo 54 (.prim (.bin .add 9 false false) [.tmp 46, .tmp 53]),
  zo 5 (.mv (.tmp 54))]
def pc47_c42 : PCode := .region none false pc47_o42
def pc47_c43 : PCode := .cond (.tmp 66) pc47_c41 pc47_c42
def pc47_c44 : PCode := .seq pc47_c40 pc47_c43
def pc47_c45 : PCode := .cond (.tmp 55) pc47_c39 pc47_c44
def pc47_c46 : PCode := .seq pc47_c38 pc47_c45
def pc47_c47 : PCode := .block 4 pc47_c46
def pc47_c48 : PCode := .seq pc47_c37 pc47_c47
def pc47_c49 : PCode := .seq pc47_c36 pc47_c48
def pc47_c50 : PCode := .block 3 pc47_c49
def pc47_o51 : List POper := [zo 30 (.mv (.tmp 6)),
  zo 31 (.prim (.bin .add 3 false true) [.tmp 30, .const (.int .i64 1)]),
  zo 6 (.mv (.tmp 31))]
def pc47_c51 : PCode := .region none false pc47_o51
def pc47_c52 : PCode := .seq pc47_c50 pc47_c51
def pc47_c53 : PCode := .seq pc47_c35 pc47_c52
def pc47_c54 : PCode := .loop pc47_c53
def pc47_c55 : PCode := .block 2 pc47_c54
def pc47_c56 : PCode := .seq pc47_c30 pc47_c55
def pc47_o57 : List POper := [zo 76 (.mv (.tmp 5)),
  zo 2 (.mv (.tmp 76)),
  zo 3 (.mv (.const (.int .i64 0)))]
def pc47_c57 : PCode := .region none false pc47_o57
def pc47_c58 : PCode := .ret
def pc47_c59 : PCode := .seq pc47_c57 pc47_c58
def pc47_c60 : PCode := .seq pc47_c56 pc47_c59
def pc47_c61 : PCode := .seq pc47_c29 pc47_c60
def pc47_c62 : PCode := .seq pc47_c28 pc47_c61
def pc47_c63 : PCode := .seq pc47_c21 pc47_c62
def pc47_c64 : PCode := .seq pc47_c1 pc47_c63
def pc47_r : List PRes := [PRes.tmp 2 [], PRes.tmp 3 []]
def pc47 : PFunc := ⟨77, pc47_r, pc47_c64, false⟩
def pc47_a : Ann := {
  kr := fun
    | 2 => some ([0, 4], [], [])
    | 10 => some ([0, 5, 6], [], [])
    | _ => none
  ka := fun
    | _ => 0
  kh := fun
    | _ => none
  ow := fun t => match t with
    | 96 => [(1, 5, 1)]
    | _ => []
  tc := fun t => match t with
    | 96 => true
    | _ => false }
theorem pc47_ok : compFn Try.prog pc47_a Try.f47 = some pc47 := by kernel_rfl


-- 90: vedette/vedetteref6.At
def pc90_o1 : List POper := [zo 4 (.mv (.const (.int .i64 0)))]
def pc90_c1 : PCode := .region none false pc90_o1
def pc90_o2 : List POper := [zo 5 (.mv (.const (.int .i64 0)))]
def pc90_c2 : PCode := .region none false pc90_o2
def pc90_o3 : List POper := [zo 6 (.mv (.tmp 5)),
  zo 7 (.mv (.tmp 0)),
  zo 8 (.lenS (.tmp 7)),
  zo 9 (.prim (.bin .lss 3 false false) [.tmp 6, .tmp 8])]
def pc90_c3 : PCode := .region (some ([0, 1, 5], [], [])) false pc90_o3
def pc90_c4 : PCode := .skip
def pc90_c5 : PCode := .exit 0
def pc90_c6 : PCode := .cond (.tmp 9) pc90_c4 pc90_c5
def pc90_c7 : PCode := .seq pc90_c3 pc90_c6
def pc90_o8 : List POper := [zo 12 (.mv (.tmp 0)),
  zo 13 (.mv (.tmp 5)),
  zo 14 (.iaddrS 11 (.tmp 12) (.tmp 13)),
  zo 15 (.faddr 0 (.tmp 14)),
  zo 16 (.load false 1 (.tmp 15)),
  zo 17 (.mv (.tmp 1)),
  zo 18 (.prim (.bin .eql 3 false false) [.tmp 16, .tmp 17])]
def pc90_c8 : PCode := .region none false pc90_o8
def pc90_o9 : List POper := [zo 19 (.mv (.tmp 5)),
  zo 4 (.mv (.tmp 19))]
def pc90_c9 : PCode := .region none false pc90_o9
def pc90_c10 : PCode := .ret
def pc90_c11 : PCode := .seq pc90_c9 pc90_c10
def pc90_c12 : PCode := .skip
def pc90_c13 : PCode := .cond (.tmp 18) pc90_c11 pc90_c12
def pc90_c14 : PCode := .seq pc90_c8 pc90_c13
def pc90_c15 : PCode := .block 1 pc90_c14
def pc90_o16 : List POper := [zo 10 (.mv (.tmp 5)),
  zo 11 (.prim (.bin .add 3 false true) [.tmp 10, .const (.int .i64 1)]),
  zo 5 (.mv (.tmp 11))]
def pc90_c16 : PCode := .region none false pc90_o16
def pc90_c17 : PCode := .seq pc90_c15 pc90_c16
def pc90_c18 : PCode := .seq pc90_c7 pc90_c17
def pc90_c19 : PCode := .loop pc90_c18
def pc90_c20 : PCode := .block 0 pc90_c19
def pc90_c21 : PCode := .seq pc90_c2 pc90_c20
def pc90_o22 : List POper := [zo 4 (.mv (.const (.int .i64 (-1))))]
def pc90_c22 : PCode := .region none false pc90_o22
def pc90_c23 : PCode := .ret
def pc90_c24 : PCode := .seq pc90_c22 pc90_c23
def pc90_c25 : PCode := .seq pc90_c21 pc90_c24
def pc90_c26 : PCode := .seq pc90_c1 pc90_c25
def pc90_r : List PRes := [PRes.tmp 4 []]
def pc90 : PFunc := ⟨20, pc90_r, pc90_c26, false⟩
def pc90_a : Ann := {
  kr := fun
    | 2 => some ([0, 1, 5], [], [])
    | _ => none
  ka := fun
    | _ => 0
  kh := fun
    | _ => none
  ow := fun t => match t with
    | 96 => [(1, 5, 1)]
    | _ => []
  tc := fun t => match t with
    | 96 => true
    | _ => false }
theorem pc90_ok : compFn Try.prog pc90_a Try.f90 = some pc90 := by kernel_rfl


-- 91: vedette/vedetteref6.With
def pc91_o1 : List POper := [zo 3 (.box 28 (.tmp 1) []),
  zo 4 (.mv (.const (.slice none 0 0)))]
def pc91_c1 : PCode := .region none false pc91_o1
def pc91_o2 : List POper := [zo 5 (.mv (.const (.slice none 0 0)))]
def pc91_c2 : PCode := .region none false pc91_o2
def pc91_o3 : List POper := [zo 6 (.mv (.const (.bool false)))]
def pc91_c3 : PCode := .region none false pc91_o3
def pc91_o4 : List POper := [zo 7 (.mv (.const (.int .i64 0)))]
def pc91_c4 : PCode := .region none false pc91_o4
def pc91_o5 : List POper := [zo 8 (.mv (.tmp 7)),
  zo 9 (.mv (.tmp 0)),
  zo 10 (.lenS (.tmp 9)),
  zo 11 (.prim (.bin .lss 3 false false) [.tmp 8, .tmp 10])]
def pc91_c5 : PCode := .region (some ([0, 3, 5, 6, 7], [3, 100005], [(false, 5, 0, 100005, 28, 11)])) false pc91_o5
def pc91_c6 : PCode := .skip
def pc91_c7 : PCode := .exit 0
def pc91_c8 : PCode := .cond (.tmp 11) pc91_c6 pc91_c7
def pc91_c9 : PCode := .seq pc91_c5 pc91_c8
def pc91_o10 : List POper := [⟨some 14, .mv (.tmp 6), none, [(6, .imm)]⟩,
  ⟨some 15, .prim (.un .not) [.tmp 14], none, [(14, .imm)]⟩,
  ⟨some 16, .mv (.tmp 15), none, [(15, .imm)]⟩,
  ⟨some 17, .faddr 0 (.tmp 3), some (16, true), [(3, .at_ 3 0)]⟩,
  ⟨some 18, .load false 1 (.tmp 17), some (16, true), [(17, .at_ 3 0)]⟩,
  ⟨some 19, .mv (.tmp 0), some (16, true), [(0, .imm)]⟩,
  ⟨some 20, .mv (.tmp 7), some (16, true), [(7, .imm)]⟩,
  ⟨some 21, .iaddrS 11 (.tmp 19) (.tmp 20), some (16, true), [(19, .imm), (20, .imm)]⟩,
  ⟨some 22, .faddr 0 (.tmp 21), some (16, true), [(21, .imm)]⟩,
  ⟨some 23, .load false 1 (.tmp 22), some (16, true), [(22, .imm)]⟩,
  ⟨some 24, .prim (.bin .leq 3 false false) [.tmp 18, .tmp 23], some (16, true), [(18, .imm), (23, .imm)]⟩,
  ⟨some 25, .pick (.tmp 16) (.tmp 24) (.const (.bool false)), none, [(16, .imm), (24, .imm)]⟩]
def pc91_c10 : PCode := .region none true pc91_o10
def pc91_o11 : List POper := [zo 26 (.mv (.tmp 5)),
  zo 27 (.load true 11 (.tmp 3)),
  zo 28 (.bslice 28 11 [.tmp 27]),
  zo 29 (.app 100005 28 11 120 (.tmp 26) (.tmp 28)),
  zo 5 (.mv (.tmp 29))]
def pc91_c11 : PCode := .region none false pc91_o11
def pc91_o12 : List POper := [zo 6 (.mv (.const (.bool true)))]
def pc91_c12 : PCode := .region none false pc91_o12
def pc91_c13 : PCode := .seq pc91_c11 pc91_c12
def pc91_c14 : PCode := .skip
def pc91_c15 : PCode := .cond (.tmp 25) pc91_c13 pc91_c14
def pc91_c16 : PCode := .seq pc91_c10 pc91_c15
def pc91_o17 : List POper := [⟨some 30, .mv (.tmp 0), none, [(0, .imm)]⟩,
  ⟨some 31, .mv (.tmp 7), none, [(7, .imm)]⟩,
  ⟨some 32, .iaddrS 11 (.tmp 30) (.tmp 31), none, [(30, .imm), (31, .imm)]⟩,
  ⟨some 33, .faddr 0 (.tmp 32), none, [(32, .imm)]⟩,
  ⟨some 34, .load false 1 (.tmp 33), none, [(33, .imm)]⟩,
  ⟨some 35, .faddr 0 (.tmp 3), none, [(3, .at_ 3 0)]⟩,
  ⟨some 36, .load false 1 (.tmp 35), none, [(35, .at_ 3 0)]⟩,
  ⟨some 37, .prim (.bin .neq 3 false false) [.tmp 34, .tmp 36], none, [(34, .imm), (36, .imm)]⟩]
def pc91_c17 : PCode := .region (some ([0, 3, 5, 6, 7], [3, 100005], [(false, 5, 0, 100005, 28, 11)])) true pc91_o17
def pc91_o18 : List POper := [zo 38 (.mv (.tmp 5)),
  zo 39 (.mv (.tmp 0)),
  zo 40 (.mv (.tmp 7)),
  zo 41 (.iaddrS 11 (.tmp 39) (.tmp 40)),
  zo 42 (.load true 11 (.tmp 41)),
  zo 43 (.bslice 28 11 [.tmp 42]),
  zo 44 (.app 100005 28 11 120 (.tmp 38) (.tmp 43)),
  zo 5 (.mv (.tmp 44))]
def pc91_c18 : PCode := .region none false pc91_o18
def pc91_c19 : PCode := .skip
def pc91_c20 : PCode := .cond (.tmp 37) pc91_c18 pc91_c19
def pc91_c21 : PCode := .seq pc91_c17 pc91_c20
def pc91_c22 : PCode := .seq pc91_c16 pc91_c21
def pc91_c23 : PCode := .block 1 pc91_c22
def pc91_o24 : List POper := [zo 12 (.mv (.tmp 7)),
  zo 13 (.prim (.bin .add 3 false true) [.tmp 12, .const (.int .i64 1)]),
  zo 7 (.mv (.tmp 13))]
def pc91_c24 : PCode := .region none false pc91_o24
def pc91_c25 : PCode := .seq pc91_c23 pc91_c24
def pc91_c26 : PCode := .seq pc91_c9 pc91_c25
def pc91_c27 : PCode := .loop pc91_c26
def pc91_c28 : PCode := .block 0 pc91_c27
def pc91_c29 : PCode := .seq pc91_c4 pc91_c28
def pc91_o30 : List POper := [zo 45 (.mv (.tmp 6)),
  zo 46 (.prim (.un .not) [.tmp 45])]
def pc91_c30 : PCode := .region none false pc91_o30
def pc91_o31 : List POper := [zo 47 (.mv (.tmp 5)),
  zo 48 (.load true 11 (.tmp 3)),
  zo 49 (.bslice 28 11 [.tmp 48]),
  zo 50 (.app 100005 28 11 120 (.tmp 47) (.tmp 49)),
  zo 5 (.mv (.tmp 50))]
def pc91_c31 : PCode := .region none false pc91_o31
def pc91_c32 : PCode := .skip
def pc91_c33 : PCode := .cond (.tmp 46) pc91_c31 pc91_c32
def pc91_c34 : PCode := .seq pc91_c30 pc91_c33
def pc91_o35 : List POper := [zo 51 (.mv (.tmp 5)),
  zo 4 (.mv (.tmp 51))]
def pc91_c35 : PCode := .region none false pc91_o35
def pc91_c36 : PCode := .ret
def pc91_c37 : PCode := .seq pc91_c35 pc91_c36
def pc91_c38 : PCode := .seq pc91_c34 pc91_c37
def pc91_c39 : PCode := .seq pc91_c29 pc91_c38
def pc91_c40 : PCode := .seq pc91_c3 pc91_c39
def pc91_c41 : PCode := .seq pc91_c2 pc91_c40
def pc91_c42 : PCode := .seq pc91_c1 pc91_c41
def pc91_r : List PRes := [PRes.tmp 4 [(0, 11)]]
def pc91 : PFunc := ⟨52, pc91_r, pc91_c42, false⟩
def pc91_a : Ann := {
  kr := fun
    | 4 => some ([0, 3, 5, 6, 7], [3, 100005], [(false, 5, 0, 100005, 28, 11)])
    | 9 => some ([0, 3, 5, 6, 7], [3, 100005], [(false, 5, 0, 100005, 28, 11)])
    | _ => none
  ka := fun
    | 29 => 100005
    | 44 => 100005
    | 50 => 100005
    | _ => 0
  kh := fun
    | 0 => some (.imm)
    | 3 => some (.at_ 3 0)
    | 6 => some (.imm)
    | 7 => some (.imm)
    | 14 => some (.imm)
    | 15 => some (.imm)
    | 16 => some (.imm)
    | 17 => some (.at_ 3 0)
    | 18 => some (.imm)
    | 19 => some (.imm)
    | 20 => some (.imm)
    | 21 => some (.imm)
    | 22 => some (.imm)
    | 23 => some (.imm)
    | 24 => some (.imm)
    | 30 => some (.imm)
    | 31 => some (.imm)
    | 32 => some (.imm)
    | 33 => some (.imm)
    | 34 => some (.imm)
    | 35 => some (.at_ 3 0)
    | 36 => some (.imm)
    | _ => none
  ow := fun t => match t with
    | 96 => [(1, 5, 1)]
    | _ => []
  tc := fun t => match t with
    | 96 => true
    | _ => false }
theorem pc91_ok : compFn Try.prog pc91_a Try.f91 = some pc91 := by kernel_rfl


-- 92: vedette/vedetteref6.Apply
def pc92_o1 : List POper := [zo 2 (.box 28 (.tmp 0) []),
  zo 3 (.box 35 (.tmp 1) []),
  zo 4 (.alloc 28 (.agg { toList := [.int .i64 0, .int .i64 0, .int .i64 0, .int .i64 0, .string { data := { toList := [] } }, .int .i64 0, .string { data := { toList := [] } }, .int .i64 0, .string { data := { toList := [] } }, .int .i64 0, .string { data := { toList := [] } }] }) [])]
def pc92_c1 : PCode := .region none false pc92_o1
def pc92_o2 : List POper := [zo 7 (.load true 11 (.tmp 2)),
  zo 5 (.alloc 28 (.agg { toList := [.int .i64 0, .int .i64 0, .int .i64 0, .int .i64 0, .string { data := { toList := [] } }, .int .i64 0, .string { data := { toList := [] } }, .int .i64 0, .string { data := { toList := [] } }, .int .i64 0, .string { data := { toList := [] } }] }) []),
  ⟨none, .store 11 (.tmp 5) (.tmp 7), none, []⟩]
def pc92_c2 : PCode := .region none false pc92_o2
def pc92_o3 : List POper := [zo 8 (.faddr 1 (.tmp 3)),
  zo 9 (.load false 1 (.tmp 8)),
  zo 10 (.prim (.bin .and 5 false true) [.tmp 9, .const (.int .u8 1)]),
  zo 11 (.prim (.bin .neq 5 false true) [.tmp 10, .const (.int .u8 0)])]
def pc92_c3 : PCode := .region none false pc92_o3
def pc92_o4 : List POper := [zo 12 (.faddr 2 (.tmp 3)),
  zo 13 (.load true 2 (.tmp 12)),
  zo 14 (.faddr 1 (.tmp 5)),
  ⟨none, .store 2 (.tmp 14) (.tmp 13), none, []⟩]
def pc92_c4 : PCode := .region none false pc92_o4
def pc92_c5 : PCode := .skip
def pc92_c6 : PCode := .cond (.tmp 11) pc92_c4 pc92_c5
def pc92_c7 : PCode := .seq pc92_c3 pc92_c6
def pc92_o8 : List POper := [zo 6 (.mv (.const (.int .i64 0)))]
def pc92_c8 : PCode := .region (some ([3, 4, 5], [2, 3, 4, 5], [])) false pc92_o8
def pc92_o9 : List POper := [zo 15 (.mv (.tmp 6)),
  zo 16 (.prim (.bin .lss 3 false true) [.tmp 15, .const (.int .i64 4)])]
def pc92_c9 : PCode := .region (some ([3, 4, 5, 6], [3, 4, 5], [])) false pc92_o9
def pc92_c10 : PCode := .skip
def pc92_c11 : PCode := .exit 0
def pc92_c12 : PCode := .cond (.tmp 16) pc92_c10 pc92_c11
def pc92_c13 : PCode := .seq pc92_c9 pc92_c12
def pc92_o14 : List POper := [zo 19 (.faddr 1 (.tmp 3)),
  zo 20 (.load false 1 (.tmp 19)),
  zo 21 (.mv (.tmp 6)),
  zo 22 (.prim (.bin .add 3 false true) [.tmp 21, .const (.int .i64 1)]),
  zo 23 (.prim (.conv 3 90) [.tmp 22]),
  zo 24 (.prim (.bin .shr 5 false false) [.tmp 20, .tmp 23]),
  zo 25 (.prim (.bin .and 5 false true) [.tmp 24, .const (.int .u8 1)]),
  zo 26 (.prim (.bin .neq 5 false true) [.tmp 25, .const (.int .u8 0)])]
def pc92_c14 : PCode := .region none false pc92_o14
def pc92_o15 : List POper := [zo 27 (.mv (.tmp 6)),
  zo 28 (.mv (.tmp 6)),
  zo 29 (.faddr 4 (.tmp 3)),
  zo 30 (.iaddrA 4 2 (.tmp 29) (.tmp 28)),
  zo 31 (.load true 2 (.tmp 30)),
  zo 32 (.faddr 3 (.tmp 5)),
  zo 33 (.iaddrA 4 2 (.tmp 32) (.tmp 27)),
  ⟨none, .store 2 (.tmp 33) (.tmp 31), none, []⟩]
def pc92_c15 : PCode := .region none false pc92_o15
def pc92_c16 : PCode := .skip
def pc92_c17 : PCode := .cond (.tmp 26) pc92_c15 pc92_c16
def pc92_c18 : PCode := .seq pc92_c14 pc92_c17
def pc92_c19 : PCode := .block 1 pc92_c18
def pc92_o20 : List POper := [zo 17 (.mv (.tmp 6)),
  zo 18 (.prim (.bin .add 3 false true) [.tmp 17, .const (.int .i64 1)]),
  zo 6 (.mv (.tmp 18))]
def pc92_c20 : PCode := .region none false pc92_o20
def pc92_c21 : PCode := .seq pc92_c19 pc92_c20
def pc92_c22 : PCode := .seq pc92_c13 pc92_c21
def pc92_c23 : PCode := .loop pc92_c22
def pc92_c24 : PCode := .block 0 pc92_c23
def pc92_c25 : PCode := .seq pc92_c8 pc92_c24
def pc92_o26 : List POper := [zo 34 (.load true 11 (.tmp 5)),
  ⟨none, .store 11 (.tmp 4) (.tmp 34), none, []⟩]
def pc92_c26 : PCode := .region none false pc92_o26
def pc92_c27 : PCode := .ret
def pc92_c28 : PCode := .seq pc92_c26 pc92_c27
def pc92_c29 : PCode := .seq pc92_c25 pc92_c28
def pc92_c30 : PCode := .seq pc92_c7 pc92_c29
def pc92_c31 : PCode := .seq pc92_c2 pc92_c30
def pc92_c32 : PCode := .seq pc92_c1 pc92_c31
def pc92_r : List PRes := [PRes.cell 4 true 11 []]
def pc92 : PFunc := ⟨35, pc92_r, pc92_c32, false⟩
def pc92_a : Ann := {
  kr := fun
    | 4 => some ([3, 4, 5], [2, 3, 4, 5], [])
    | 5 => some ([3, 4, 5, 6], [3, 4, 5], [])
    | _ => none
  ka := fun
    | _ => 0
  kh := fun
    | _ => none
  ow := fun t => match t with
    | 96 => [(1, 5, 1)]
    | _ => []
  tc := fun t => match t with
    | 96 => true
    | _ => false }
theorem pc92_ok : compFn Try.prog pc92_a Try.f92 = some pc92 := by kernel_rfl


-- 93: vedette/vedetteref6.Without
def pc93_o1 : List POper := [zo 4 (.mv (.const (.slice none 0 0)))]
def pc93_c1 : PCode := .region none false pc93_o1
def pc93_o2 : List POper := [zo 5 (.mv (.const (.slice none 0 0)))]
def pc93_c2 : PCode := .region none false pc93_o2
def pc93_o3 : List POper := [zo 6 (.mv (.const (.int .i64 0)))]
def pc93_c3 : PCode := .region none false pc93_o3
def pc93_o4 : List POper := [zo 7 (.mv (.tmp 6)),
  zo 8 (.mv (.tmp 0)),
  zo 9 (.lenS (.tmp 8)),
  zo 10 (.prim (.bin .lss 3 false false) [.tmp 7, .tmp 9])]
def pc93_c4 : PCode := .region (some ([0, 1, 5, 6], [100005], [(false, 5, 0, 100005, 28, 11)])) false pc93_o4
def pc93_c5 : PCode := .skip
def pc93_c6 : PCode := .exit 0
def pc93_c7 : PCode := .cond (.tmp 10) pc93_c5 pc93_c6
def pc93_c8 : PCode := .seq pc93_c4 pc93_c7
def pc93_o9 : List POper := [zo 13 (.mv (.tmp 0)),
  zo 14 (.mv (.tmp 6)),
  zo 15 (.iaddrS 11 (.tmp 13) (.tmp 14)),
  zo 16 (.faddr 0 (.tmp 15)),
  zo 17 (.load false 1 (.tmp 16)),
  zo 18 (.mv (.tmp 1)),
  zo 19 (.prim (.bin .neq 3 false false) [.tmp 17, .tmp 18])]
def pc93_c9 : PCode := .region none false pc93_o9
def pc93_o10 : List POper := [zo 20 (.mv (.tmp 5)),
  zo 21 (.mv (.tmp 0)),
  zo 22 (.mv (.tmp 6)),
  zo 23 (.iaddrS 11 (.tmp 21) (.tmp 22)),
  zo 24 (.load true 11 (.tmp 23)),
  zo 25 (.bslice 28 11 [.tmp 24]),
  zo 26 (.app 100005 28 11 120 (.tmp 20) (.tmp 25)),
  zo 5 (.mv (.tmp 26))]
def pc93_c10 : PCode := .region none false pc93_o10
def pc93_c11 : PCode := .skip
def pc93_c12 : PCode := .cond (.tmp 19) pc93_c10 pc93_c11
def pc93_c13 : PCode := .seq pc93_c9 pc93_c12
def pc93_c14 : PCode := .block 1 pc93_c13
def pc93_o15 : List POper := [zo 11 (.mv (.tmp 6)),
  zo 12 (.prim (.bin .add 3 false true) [.tmp 11, .const (.int .i64 1)]),
  zo 6 (.mv (.tmp 12))]
def pc93_c15 : PCode := .region none false pc93_o15
def pc93_c16 : PCode := .seq pc93_c14 pc93_c15
def pc93_c17 : PCode := .seq pc93_c8 pc93_c16
def pc93_c18 : PCode := .loop pc93_c17
def pc93_c19 : PCode := .block 0 pc93_c18
def pc93_c20 : PCode := .seq pc93_c3 pc93_c19
def pc93_o21 : List POper := [zo 27 (.mv (.tmp 5)),
  zo 4 (.mv (.tmp 27))]
def pc93_c21 : PCode := .region none false pc93_o21
def pc93_c22 : PCode := .ret
def pc93_c23 : PCode := .seq pc93_c21 pc93_c22
def pc93_c24 : PCode := .seq pc93_c20 pc93_c23
def pc93_c25 : PCode := .seq pc93_c2 pc93_c24
def pc93_c26 : PCode := .seq pc93_c1 pc93_c25
def pc93_r : List PRes := [PRes.tmp 4 [(0, 11)]]
def pc93 : PFunc := ⟨28, pc93_r, pc93_c26, false⟩
def pc93_a : Ann := {
  kr := fun
    | 3 => some ([0, 1, 5, 6], [100005], [(false, 5, 0, 100005, 28, 11)])
    | _ => none
  ka := fun
    | 26 => 100005
    | _ => 0
  kh := fun
    | _ => none
  ow := fun t => match t with
    | 96 => [(1, 5, 1)]
    | _ => []
  tc := fun t => match t with
    | 96 => true
    | _ => false }
theorem pc93_ok : compFn Try.prog pc93_a Try.f93 = some pc93 := by kernel_rfl


-- 52: vedette/vedetteref15.Apply
def pc52_o1 : List POper := [zo 3 (.box 67 (.tmp 1) []),
  zo 4 (.mv (.const (.slice none 0 0))),
  zo 5 (.mv (.const (.bool false)))]
def pc52_c1 : PCode := .region none false pc52_o1
def pc52_o2 : List POper := [zo 7 (.mv (.tmp 0)),
  zo 8 (.faddr 1 (.tmp 3)),
  zo 9 (.load false 1 (.tmp 8)),
  zo 10 (.call true [[(0, 11)], []] 90 [.tmp 7, .tmp 9]),
  zo 6 (.mv (.tmp 10))]
def pc52_c2 : PCode := .region none false pc52_o2
def pc52_o3 : List POper := [zo 11 (.load true 25 (.tmp 3)),
  zo 12 (.call true [[]] 53 [.tmp 11]),
  zo 13 (.prim (.un .not) [.tmp 12]),
  zo 14 (.mv (.tmp 13)),
  ⟨some 15, .mv (.tmp 6), some (14, false), []⟩,
  ⟨some 16, .prim (.bin .geq 3 false true) [.tmp 15, .const (.int .i64 0)], some (14, false), []⟩,
  ⟨some 17, .faddr 0 (.tmp 3), some (14, false), []⟩,
  ⟨some 18, .load false 1 (.tmp 17), some (14, false), []⟩,
  ⟨some 19, .prim (.bin .eql 3 false true) [.tmp 18, .const (.int .i64 1)], some (14, false), []⟩,
  ⟨some 20, .prim (.bin .eql 4 false false) [.tmp 16, .tmp 19], some (14, false), []⟩,
  zo 21 (.pick (.tmp 14) (.const (.bool true)) (.tmp 20))]
def pc52_c3 : PCode := .region none false pc52_o3
def pc52_o4 : List POper := [zo 22 (.mv (.tmp 0)),
  zo 4 (.mv (.tmp 22)),
  zo 5 (.mv (.const (.bool false)))]
def pc52_c4 : PCode := .region none false pc52_o4
def pc52_c5 : PCode := .ret
def pc52_c6 : PCode := .seq pc52_c4 pc52_c5
def pc52_c7 : PCode := .skip
def pc52_c8 : PCode := .cond (.tmp 21) pc52_c6 pc52_c7
def pc52_c9 : PCode := .seq pc52_c3 pc52_c8
def pc52_o10 : List POper := [zo 23 (.faddr 0 (.tmp 3)),
  zo 24 (.load false 1 (.tmp 23))]
def pc52_c10 : PCode := .region none false pc52_o10
def pc52_o11 : List POper := [zo 26 (.prim (.bin .eql 3 false true) [.tmp 24, .const (.int .i64 1)]),
  zo 25 (.mv (.tmp 26))]
def pc52_c11 : PCode := .region none false pc52_o11
def pc52_o12 : List POper := [zo 27 (.mv (.tmp 0)),
  zo 28 (.faddr 2 (.tmp 3)),
  zo 29 (.load true 11 (.tmp 28)),
  zo 30 (.call true [[(0, 11)], []] 91 [.tmp 27, .tmp 29]),
  zo 4 (.mv (.tmp 30)),
  zo 5 (.mv (.const (.bool true)))]
def pc52_c12 : PCode := .region none false pc52_o12
def pc52_c13 : PCode := .ret
def pc52_c14 : PCode := .seq pc52_c12 pc52_c13
def pc52_o15 : List POper := [zo 32 (.prim (.bin .eql 3 false true) [.tmp 24, .const (.int .i64 2)]),
  zo 31 (.mv (.tmp 32))]
def pc52_c15 : PCode := .region none false pc52_o15
def pc52_o16 : List POper := [⟨some 33, .mv (.tmp 0), none, [(0, .imm)]⟩,
  ⟨some 34, .mv (.tmp 0), none, [(0, .imm)]⟩,
  ⟨some 35, .mv (.tmp 6), none, [(6, .imm)]⟩,
  ⟨some 36, .iaddrS 11 (.tmp 34) (.tmp 35), none, [(34, .imm), (35, .imm)]⟩,
  ⟨some 37, .load true 11 (.tmp 36), none, [(36, .imm)]⟩,
  ⟨some 38, .faddr 13 (.tmp 3), none, [(3, .at_ 3 0)]⟩,
  ⟨some 39, .load true 12 (.tmp 38), none, [(38, .at_ 3 13)]⟩,
  ⟨some 40, .call false [[], []] 92 [.tmp 37, .tmp 39], none, [(37, .imm), (39, .imm)]⟩,
  ⟨some 41, .call false [[(0, 11)], []] 91 [.tmp 33, .tmp 40], none, [(33, .imm), (40, .imm)]⟩,
  ⟨some 4, .mv (.tmp 41), none, [(41, .imm)]⟩,
  zo 5 (.mv (.const (.bool true)))]
def pc52_c16 : PCode := .region none true pc52_o16
def pc52_c17 : PCode := .ret
def pc52_c18 : PCode := .seq pc52_c16 pc52_c17
def pc52_c19 : PCode := .skip
def pc52_c20 : PCode := .cond (.tmp 31) pc52_c18 pc52_c19
def pc52_c21 : PCode := .seq pc52_c15 pc52_c20
def pc52_c22 : PCode := .cond (.tmp 25) pc52_c14 pc52_c21
def pc52_c23 : PCode := .seq pc52_c11 pc52_c22
def pc52_c24 : PCode := .block 0 pc52_c23
def pc52_c25 : PCode := .seq pc52_c10 pc52_c24
def pc52_o26 : List POper := [zo 42 (.mv (.tmp 0)),
  zo 43 (.faddr 1 (.tmp 3)),
  zo 44 (.load false 1 (.tmp 43)),
  zo 45 (.call true [[(0, 11)], []] 93 [.tmp 42, .tmp 44]),
  zo 4 (.mv (.tmp 45)),
  zo 5 (.mv (.const (.bool true)))]
def pc52_c26 : PCode := .region none false pc52_o26
def pc52_c27 : PCode := .ret
def pc52_c28 : PCode := .seq pc52_c26 pc52_c27
def pc52_c29 : PCode := .seq pc52_c25 pc52_c28
def pc52_c30 : PCode := .seq pc52_c9 pc52_c29
def pc52_c31 : PCode := .seq pc52_c2 pc52_c30
def pc52_c32 : PCode := .seq pc52_c1 pc52_c31
def pc52_r : List PRes := [PRes.tmp 4 [(0, 11)], PRes.tmp 5 []]
def pc52 : PFunc := ⟨46, pc52_r, pc52_c32, false⟩
def pc52_a : Ann := {
  kr := fun
    | _ => none
  ka := fun
    | _ => 0
  kh := fun
    | 0 => some (.imm)
    | 3 => some (.at_ 3 0)
    | 6 => some (.imm)
    | 33 => some (.imm)
    | 34 => some (.imm)
    | 35 => some (.imm)
    | 36 => some (.imm)
    | 37 => some (.imm)
    | 38 => some (.at_ 3 13)
    | 39 => some (.imm)
    | 40 => some (.imm)
    | 41 => some (.imm)
    | _ => none
  ow := fun t => match t with
    | 96 => [(1, 5, 1)]
    | _ => []
  tc := fun t => match t with
    | 96 => true
    | _ => false }
theorem pc52_ok : compFn Try.prog pc52_a Try.f52 = some pc52 := by kernel_rfl


-- 48: vedette/vedetteref15.Fold
def pc48_o1 : List POper := [zo 4 (.mv (.const (.slice none 0 0))),
  zo 5 (.mv (.const (.bool false)))]
def pc48_c1 : PCode := .region none false pc48_o1
def pc48_o2 : List POper := [zo 10 (.mv (.tmp 0)),
  zo 6 (.mv (.tmp 10))]
def pc48_c2 : PCode := .region none false pc48_o2
def pc48_o3 : List POper := [zo 7 (.mv (.const (.int .i64 0)))]
def pc48_c3 : PCode := .region none false pc48_o3
def pc48_o4 : List POper := [zo 11 (.mv (.tmp 7)),
  zo 12 (.mv (.tmp 1)),
  zo 13 (.lenS (.tmp 12)),
  zo 14 (.prim (.bin .lss 3 false false) [.tmp 11, .tmp 13])]
def pc48_c4 : PCode := .region (some ([0, 1, 6, 7], [], [])) false pc48_o4
def pc48_c5 : PCode := .skip
def pc48_c6 : PCode := .exit 0
def pc48_c7 : PCode := .cond (.tmp 14) pc48_c5 pc48_c6
def pc48_c8 : PCode := .seq pc48_c4 pc48_c7
def pc48_o9 : List POper := [zo 18 (.mv (.tmp 6)),
  zo 19 (.mv (.tmp 1)),
  zo 20 (.mv (.tmp 7)),
  zo 21 (.iaddrS 25 (.tmp 19) (.tmp 20)),
  zo 22 (.load true 25 (.tmp 21)),
  zo 23 (.call true [[(0, 11)], []] 52 [.tmp 18, .tmp 22]),
  zo 17 (.mv (.tmp 23)),
  zo 24 (.ext (.tmp 17) 0),
  zo 25 (.ext (.tmp 17) 1),
  zo 8 (.mv (.tmp 24)),
  zo 9 (.mv (.tmp 25))]
def pc48_c9 : PCode := .region none false pc48_o9
def pc48_o10 : List POper := [zo 26 (.mv (.tmp 9)),
  zo 27 (.prim (.un .not) [.tmp 26])]
def pc48_c10 : PCode := .region none false pc48_o10
def pc48_o11 : List POper := [zo 28 (.mv (.tmp 0)),
  zo 4 (.mv (.tmp 28)),
  zo 5 (.mv (.const (.bool false)))]
def pc48_c11 : PCode := .region none false pc48_o11
def pc48_c12 : PCode := .ret
def pc48_c13 : PCode := .seq pc48_c11 pc48_c12
def pc48_c14 : PCode := .skip
def pc48_c15 : PCode := .cond (.tmp 27) pc48_c13 pc48_c14
def pc48_c16 : PCode := .seq pc48_c10 pc48_c15
def pc48_o17 : List POper := [zo 29 (.mv (.tmp 8)),
  zo 6 (.mv (.tmp 29))]
def pc48_c17 : PCode := .region none false pc48_o17
def pc48_c18 : PCode := .seq pc48_c16 pc48_c17
def pc48_c19 : PCode := .seq pc48_c9 pc48_c18
def pc48_c20 : PCode := .block 1 pc48_c19
def pc48_o21 : List POper := [zo 15 (.mv (.tmp 7)),
  zo 16 (.prim (.bin .add 3 false true) [.tmp 15, .const (.int .i64 1)]),
  zo 7 (.mv (.tmp 16))]
def pc48_c21 : PCode := .region none false pc48_o21
def pc48_c22 : PCode := .seq pc48_c20 pc48_c21
def pc48_c23 : PCode := .seq pc48_c8 pc48_c22
def pc48_c24 : PCode := .loop pc48_c23
def pc48_c25 : PCode := .block 0 pc48_c24
def pc48_c26 : PCode := .seq pc48_c3 pc48_c25
def pc48_o27 : List POper := [zo 30 (.mv (.tmp 6)),
  zo 4 (.mv (.tmp 30)),
  zo 5 (.mv (.const (.bool true)))]
def pc48_c27 : PCode := .region none false pc48_o27
def pc48_c28 : PCode := .ret
def pc48_c29 : PCode := .seq pc48_c27 pc48_c28
def pc48_c30 : PCode := .seq pc48_c26 pc48_c29
def pc48_c31 : PCode := .seq pc48_c2 pc48_c30
def pc48_c32 : PCode := .seq pc48_c1 pc48_c31
def pc48_r : List PRes := [PRes.tmp 4 [(0, 11)], PRes.tmp 5 []]
def pc48 : PFunc := ⟨31, pc48_r, pc48_c32, false⟩
def pc48_a : Ann := {
  kr := fun
    | 3 => some ([0, 1, 6, 7], [], [])
    | _ => none
  ka := fun
    | _ => 0
  kh := fun
    | _ => none
  ow := fun t => match t with
    | 96 => [(1, 5, 1)]
    | _ => []
  tc := fun t => match t with
    | 96 => true
    | _ => false }
theorem pc48_ok : compFn Try.prog pc48_a Try.f48 = some pc48 := by kernel_rfl


-- 50: vedette/vedetteref15.Same
def pc50_o1 : List POper := [zo 4 (.mv (.const (.bool false)))]
def pc50_c1 : PCode := .region none false pc50_o1
def pc50_o2 : List POper := [zo 6 (.mv (.tmp 0)),
  zo 7 (.lenS (.tmp 6)),
  zo 8 (.mv (.tmp 1)),
  zo 9 (.lenS (.tmp 8)),
  zo 10 (.prim (.bin .neq 3 false false) [.tmp 7, .tmp 9])]
def pc50_c2 : PCode := .region none false pc50_o2
def pc50_o3 : List POper := [zo 4 (.mv (.const (.bool false)))]
def pc50_c3 : PCode := .region none false pc50_o3
def pc50_c4 : PCode := .ret
def pc50_c5 : PCode := .seq pc50_c3 pc50_c4
def pc50_c6 : PCode := .skip
def pc50_c7 : PCode := .cond (.tmp 10) pc50_c5 pc50_c6
def pc50_c8 : PCode := .seq pc50_c2 pc50_c7
def pc50_o9 : List POper := [zo 5 (.mv (.const (.int .i64 0)))]
def pc50_c9 : PCode := .region none false pc50_o9
def pc50_o10 : List POper := [zo 11 (.mv (.tmp 5)),
  zo 12 (.mv (.tmp 0)),
  zo 13 (.lenS (.tmp 12)),
  zo 14 (.prim (.bin .lss 3 false false) [.tmp 11, .tmp 13])]
def pc50_c10 : PCode := .region (some ([0, 1, 5], [], [])) false pc50_o10
def pc50_c11 : PCode := .skip
def pc50_c12 : PCode := .exit 0
def pc50_c13 : PCode := .cond (.tmp 14) pc50_c11 pc50_c12
def pc50_c14 : PCode := .seq pc50_c10 pc50_c13
def pc50_o15 : List POper := [⟨some 17, .mv (.tmp 0), none, [(0, .imm)]⟩,
  ⟨some 18, .mv (.tmp 5), none, [(5, .imm)]⟩,
  ⟨some 19, .iaddrS 25 (.tmp 17) (.tmp 18), none, [(17, .imm), (18, .imm)]⟩,
  ⟨some 20, .load true 25 (.tmp 19), none, [(19, .imm)]⟩,
  ⟨some 21, .mv (.tmp 1), none, [(1, .imm)]⟩,
  ⟨some 22, .mv (.tmp 5), none, [(5, .imm)]⟩,
  ⟨some 23, .iaddrS 25 (.tmp 21) (.tmp 22), none, [(21, .imm), (22, .imm)]⟩,
  ⟨some 24, .load true 25 (.tmp 23), none, [(23, .imm)]⟩,
  ⟨some 25, .prim (.bin .neq 67 false false) [.tmp 20, .tmp 24], none, [(20, .imm), (24, .imm)]⟩]
def pc50_c15 : PCode := .region none true pc50_o15
def pc50_o16 : List POper := [zo 4 (.mv (.const (.bool false)))]
def pc50_c16 : PCode := .region none false pc50_o16
def pc50_c17 : PCode := .ret
def pc50_c18 : PCode := .seq pc50_c16 pc50_c17
def pc50_c19 : PCode := .skip
def pc50_c20 : PCode := .cond (.tmp 25) pc50_c18 pc50_c19
def pc50_c21 : PCode := .seq pc50_c15 pc50_c20
def pc50_c22 : PCode := .block 1 pc50_c21
def pc50_o23 : List POper := [zo 15 (.mv (.tmp 5)),
  zo 16 (.prim (.bin .add 3 false true) [.tmp 15, .const (.int .i64 1)]),
  zo 5 (.mv (.tmp 16))]
def pc50_c23 : PCode := .region none false pc50_o23
def pc50_c24 : PCode := .seq pc50_c22 pc50_c23
def pc50_c25 : PCode := .seq pc50_c14 pc50_c24
def pc50_c26 : PCode := .loop pc50_c25
def pc50_c27 : PCode := .block 0 pc50_c26
def pc50_c28 : PCode := .seq pc50_c9 pc50_c27
def pc50_o29 : List POper := [zo 4 (.mv (.const (.bool true)))]
def pc50_c29 : PCode := .region none false pc50_o29
def pc50_c30 : PCode := .ret
def pc50_c31 : PCode := .seq pc50_c29 pc50_c30
def pc50_c32 : PCode := .seq pc50_c28 pc50_c31
def pc50_c33 : PCode := .seq pc50_c8 pc50_c32
def pc50_c34 : PCode := .seq pc50_c1 pc50_c33
def pc50_r : List PRes := [PRes.tmp 4 []]
def pc50 : PFunc := ⟨26, pc50_r, pc50_c34, false⟩
def pc50_a : Ann := {
  kr := fun
    | 4 => some ([0, 1, 5], [], [])
    | _ => none
  ka := fun
    | _ => 0
  kh := fun
    | 0 => some (.imm)
    | 1 => some (.imm)
    | 5 => some (.imm)
    | 17 => some (.imm)
    | 18 => some (.imm)
    | 19 => some (.imm)
    | 20 => some (.imm)
    | 21 => some (.imm)
    | 22 => some (.imm)
    | 23 => some (.imm)
    | 24 => some (.imm)
    | _ => none
  ow := fun t => match t with
    | 96 => [(1, 5, 1)]
    | _ => []
  tc := fun t => match t with
    | 96 => true
    | _ => false }
theorem pc50_ok : compFn Try.prog pc50_a Try.f50 = some pc50 := by kernel_rfl


-- 10: vedette/vedettelaw15.EventTells
def pc10_o1 : List POper := [zo 6 (.mv (.const (.bool false)))]
def pc10_c1 : PCode := .region none false pc10_o1
def pc10_o2 : List POper := [zo 20 (.call true [] 42 []),
  zo 21 (.prim (.un .not) [.tmp 20])]
def pc10_c2 : PCode := .region none false pc10_o2
def pc10_o3 : List POper := [zo 6 (.mv (.const (.bool false)))]
def pc10_c3 : PCode := .region none false pc10_o3
def pc10_c4 : PCode := .ret
def pc10_c5 : PCode := .seq pc10_c3 pc10_c4
def pc10_c6 : PCode := .skip
def pc10_c7 : PCode := .cond (.tmp 21) pc10_c5 pc10_c6
def pc10_c8 : PCode := .seq pc10_c2 pc10_c7
def pc10_o9 : List POper := [zo 22 (.mv (.tmp 0)),
  zo 23 (.call true [[(0, 11)]] 43 [.tmp 22]),
  zo 24 (.prim (.un .not) [.tmp 23]),
  zo 25 (.mv (.tmp 24)),
  ⟨some 26, .mv (.tmp 1), some (25, false), []⟩,
  ⟨some 27, .call true [[(0, 25)]] 44 [.tmp 26], some (25, false), []⟩,
  ⟨some 28, .prim (.un .not) [.tmp 27], some (25, false), []⟩,
  zo 29 (.pick (.tmp 25) (.const (.bool true)) (.tmp 28)),
  zo 30 (.mv (.tmp 29)),
  ⟨some 31, .mv (.tmp 2), some (30, false), []⟩,
  ⟨some 32, .call true [[(0, 25)]] 44 [.tmp 31], some (30, false), []⟩,
  ⟨some 33, .prim (.un .not) [.tmp 32], some (30, false), []⟩,
  zo 34 (.pick (.tmp 30) (.const (.bool true)) (.tmp 33)),
  zo 35 (.mv (.tmp 34)),
  ⟨some 36, .mv (.tmp 0), some (35, false), []⟩,
  ⟨some 37, .call true [[(0, 11)]] 45 [.tmp 36], some (35, false), []⟩,
  ⟨some 38, .prim (.un .not) [.tmp 37], some (35, false), []⟩,
  zo 39 (.pick (.tmp 35) (.const (.bool true)) (.tmp 38))]
def pc10_c9 : PCode := .region none false pc10_o9
def pc10_o10 : List POper := [zo 6 (.mv (.const (.bool true)))]
def pc10_c10 : PCode := .region none false pc10_o10
def pc10_c11 : PCode := .ret
def pc10_c12 : PCode := .seq pc10_c10 pc10_c11
def pc10_c13 : PCode := .skip
def pc10_c14 : PCode := .cond (.tmp 39) pc10_c12 pc10_c13
def pc10_c15 : PCode := .seq pc10_c9 pc10_c14
def pc10_o16 : List POper := [zo 41 (.mv (.tmp 1)),
  zo 42 (.call true [[(0, 25)]] 46 [.tmp 41]),
  zo 40 (.mv (.tmp 42)),
  zo 43 (.ext (.tmp 40) 0),
  zo 44 (.ext (.tmp 40) 1),
  zo 7 (.mv (.tmp 43)),
  zo 8 (.mv (.tmp 44))]
def pc10_c16 : PCode := .region none false pc10_o16
def pc10_o17 : List POper := [zo 46 (.mv (.tmp 1)),
  zo 47 (.call true [[(0, 25)]] 47 [.tmp 46]),
  zo 45 (.mv (.tmp 47)),
  zo 48 (.ext (.tmp 45) 0),
  zo 49 (.ext (.tmp 45) 1),
  zo 9 (.mv (.tmp 48)),
  zo 10 (.mv (.tmp 49))]
def pc10_c17 : PCode := .region none false pc10_o17
def pc10_o18 : List POper := [zo 51 (.mv (.tmp 0)),
  zo 52 (.mv (.tmp 1)),
  zo 53 (.call true [[(0, 11)], [(0, 25)]] 40 [.tmp 51, .tmp 52]),
  zo 50 (.mv (.tmp 53)),
  zo 54 (.ext (.tmp 50) 0),
  zo 55 (.ext (.tmp 50) 1),
  zo 11 (.mv (.tmp 54)),
  zo 12 (.mv (.tmp 55))]
def pc10_c18 : PCode := .region none false pc10_o18
def pc10_o19 : List POper := [zo 57 (.mv (.tmp 0)),
  zo 58 (.mv (.tmp 1)),
  zo 59 (.call true [[(0, 11)], [(0, 25)]] 48 [.tmp 57, .tmp 58]),
  zo 56 (.mv (.tmp 59)),
  zo 60 (.ext (.tmp 56) 0),
  zo 61 (.ext (.tmp 56) 1),
  zo 13 (.mv (.tmp 60)),
  zo 14 (.mv (.tmp 61))]
def pc10_c19 : PCode := .region none false pc10_o19
def pc10_o20 : List POper := [zo 62 (.mv (.tmp 7)),
  zo 63 (.mv (.tmp 9)),
  zo 64 (.prim (.bin .neq 9 false false) [.tmp 62, .tmp 63]),
  zo 65 (.mv (.tmp 64)),
  ⟨some 66, .mv (.tmp 8), some (65, false), []⟩,
  ⟨some 67, .mv (.tmp 10), some (65, false), []⟩,
  ⟨some 68, .prim (.bin .neq 3 false false) [.tmp 66, .tmp 67], some (65, false), []⟩,
  zo 69 (.pick (.tmp 65) (.const (.bool true)) (.tmp 68)),
  zo 70 (.mv (.tmp 69)),
  ⟨some 71, .mv (.tmp 12), some (70, false), []⟩,
  ⟨some 72, .mv (.tmp 14), some (70, false), []⟩,
  ⟨some 73, .prim (.bin .neq 4 false false) [.tmp 71, .tmp 72], some (70, false), []⟩,
  zo 74 (.pick (.tmp 70) (.const (.bool true)) (.tmp 73)),
  zo 75 (.mv (.tmp 74)),
  ⟨some 76, .mv (.tmp 11), some (75, false), []⟩,
  ⟨some 77, .mv (.tmp 13), some (75, false), []⟩,
  ⟨some 78, .call true [[(0, 11)], [(0, 11)]] 34 [.tmp 76, .tmp 77], some (75, false), []⟩,
  ⟨some 79, .prim (.un .not) [.tmp 78], some (75, false), []⟩,
  zo 80 (.pick (.tmp 75) (.const (.bool true)) (.tmp 79)),
  zo 81 (.mv (.tmp 80)),
  ⟨some 82, .mv (.tmp 1), some (81, false), []⟩,
  ⟨some 83, .mv (.tmp 2), some (81, false), []⟩,
  ⟨some 84, .call true [[(0, 25)], [(0, 25)]] 49 [.tmp 82, .tmp 83], some (81, false), []⟩,
  ⟨some 85, .mv (.tmp 1), some (81, false), []⟩,
  ⟨some 86, .mv (.tmp 2), some (81, false), []⟩,
  ⟨some 87, .call true [[(0, 25)], [(0, 25)]] 50 [.tmp 85, .tmp 86], some (81, false), []⟩,
  ⟨some 88, .prim (.bin .neq 4 false false) [.tmp 84, .tmp 87], some (81, false), []⟩,
  zo 89 (.pick (.tmp 81) (.const (.bool true)) (.tmp 88))]
def pc10_c20 : PCode := .region none false pc10_o20
def pc10_o21 : List POper := [zo 6 (.mv (.const (.bool false)))]
def pc10_c21 : PCode := .region none false pc10_o21
def pc10_c22 : PCode := .ret
def pc10_c23 : PCode := .seq pc10_c21 pc10_c22
def pc10_c24 : PCode := .skip
def pc10_c25 : PCode := .cond (.tmp 89) pc10_c23 pc10_c24
def pc10_c26 : PCode := .seq pc10_c20 pc10_c25
def pc10_o27 : List POper := [zo 15 (.mv (.const (.int .i64 0)))]
def pc10_c27 : PCode := .region none false pc10_o27
def pc10_o28 : List POper := [zo 90 (.mv (.tmp 15)),
  zo 91 (.mv (.tmp 1)),
  zo 92 (.lenS (.tmp 91)),
  zo 93 (.prim (.bin .lss 3 false false) [.tmp 90, .tmp 92])]
def pc10_c28 : PCode := .region (some ([0, 1, 15], [], [])) false pc10_o28
def pc10_c29 : PCode := .skip
def pc10_c30 : PCode := .exit 0
def pc10_c31 : PCode := .cond (.tmp 93) pc10_c29 pc10_c30
def pc10_c32 : PCode := .seq pc10_c28 pc10_c31
def pc10_o33 : List POper := [zo 97 (.mv (.tmp 0)),
  zo 98 (.mv (.tmp 1)),
  zo 99 (.mv (.tmp 15)),
  zo 100 (.iaddrS 25 (.tmp 98) (.tmp 99)),
  zo 101 (.load true 25 (.tmp 100)),
  zo 102 (.call true [[(0, 11)], []] 51 [.tmp 97, .tmp 101]),
  zo 96 (.mv (.tmp 102)),
  zo 103 (.ext (.tmp 96) 0),
  zo 104 (.ext (.tmp 96) 1),
  zo 16 (.mv (.tmp 103)),
  zo 17 (.mv (.tmp 104))]
def pc10_c33 : PCode := .region none false pc10_o33
def pc10_o34 : List POper := [zo 106 (.mv (.tmp 0)),
  zo 107 (.mv (.tmp 1)),
  zo 108 (.mv (.tmp 15)),
  zo 109 (.iaddrS 25 (.tmp 107) (.tmp 108)),
  zo 110 (.load true 25 (.tmp 109)),
  zo 111 (.call true [[(0, 11)], []] 52 [.tmp 106, .tmp 110]),
  zo 105 (.mv (.tmp 111)),
  zo 112 (.ext (.tmp 105) 0),
  zo 113 (.ext (.tmp 105) 1),
  zo 18 (.mv (.tmp 112)),
  zo 19 (.mv (.tmp 113))]
def pc10_c34 : PCode := .region none false pc10_o34
def pc10_o35 : List POper := [⟨some 114, .mv (.tmp 1), none, [(1, .imm)]⟩,
  ⟨some 115, .mv (.tmp 15), none, [(15, .imm)]⟩,
  ⟨some 116, .iaddrS 25 (.tmp 114) (.tmp 115), none, [(114, .imm), (115, .imm)]⟩,
  ⟨some 117, .load true 25 (.tmp 116), none, [(116, .imm)]⟩,
  ⟨some 118, .call false [[]] 39 [.tmp 117], none, [(117, .imm)]⟩,
  ⟨some 119, .mv (.tmp 1), none, [(1, .imm)]⟩,
  ⟨some 120, .mv (.tmp 15), none, [(15, .imm)]⟩,
  ⟨some 121, .iaddrS 25 (.tmp 119) (.tmp 120), none, [(119, .imm), (120, .imm)]⟩,
  ⟨some 122, .load true 25 (.tmp 121), none, [(121, .imm)]⟩,
  ⟨some 123, .call false [[]] 53 [.tmp 122], none, [(122, .imm)]⟩,
  ⟨some 124, .prim (.bin .neq 4 false false) [.tmp 118, .tmp 123], none, [(118, .imm), (123, .imm)]⟩,
  ⟨some 125, .mv (.tmp 124), none, [(124, .imm)]⟩,
  ⟨some 126, .mv (.tmp 17), some (125, false), [(17, .imm)]⟩,
  ⟨some 127, .mv (.tmp 19), some (125, false), [(19, .imm)]⟩,
  ⟨some 128, .prim (.bin .neq 4 false false) [.tmp 126, .tmp 127], some (125, false), [(126, .imm), (127, .imm)]⟩,
  ⟨some 129, .pick (.tmp 125) (.const (.bool true)) (.tmp 128), none, [(125, .imm), (128, .imm)]⟩,
  ⟨some 130, .mv (.tmp 129), none, [(129, .imm)]⟩,
  ⟨some 131, .mv (.tmp 16), some (130, false), [(16, .imm)]⟩,
  ⟨some 132, .mv (.tmp 18), some (130, false), [(18, .imm)]⟩,
  ⟨some 133, .call false [[(0, 11)], [(0, 11)]] 34 [.tmp 131, .tmp 132], some (130, false), [(131, .imm), (132, .imm)]⟩,
  ⟨some 134, .prim (.un .not) [.tmp 133], some (130, false), [(133, .imm)]⟩,
  ⟨some 135, .pick (.tmp 130) (.const (.bool true)) (.tmp 134), none, [(130, .imm), (134, .imm)]⟩]
def pc10_c35 : PCode := .region none true pc10_o35
def pc10_o36 : List POper := [zo 6 (.mv (.const (.bool false)))]
def pc10_c36 : PCode := .region none false pc10_o36
def pc10_c37 : PCode := .ret
def pc10_c38 : PCode := .seq pc10_c36 pc10_c37
def pc10_c39 : PCode := .skip
def pc10_c40 : PCode := .cond (.tmp 135) pc10_c38 pc10_c39
def pc10_c41 : PCode := .seq pc10_c35 pc10_c40
def pc10_c42 : PCode := .seq pc10_c34 pc10_c41
def pc10_c43 : PCode := .seq pc10_c33 pc10_c42
def pc10_c44 : PCode := .block 1 pc10_c43
def pc10_o45 : List POper := [zo 94 (.mv (.tmp 15)),
  zo 95 (.prim (.bin .add 3 false true) [.tmp 94, .const (.int .i64 1)]),
  zo 15 (.mv (.tmp 95))]
def pc10_c45 : PCode := .region none false pc10_o45
def pc10_c46 : PCode := .seq pc10_c44 pc10_c45
def pc10_c47 : PCode := .seq pc10_c32 pc10_c46
def pc10_c48 : PCode := .loop pc10_c47
def pc10_c49 : PCode := .block 0 pc10_c48
def pc10_c50 : PCode := .seq pc10_c27 pc10_c49
def pc10_o51 : List POper := [zo 6 (.mv (.const (.bool true)))]
def pc10_c51 : PCode := .region none false pc10_o51
def pc10_c52 : PCode := .ret
def pc10_c53 : PCode := .seq pc10_c51 pc10_c52
def pc10_c54 : PCode := .seq pc10_c50 pc10_c53
def pc10_c55 : PCode := .seq pc10_c26 pc10_c54
def pc10_c56 : PCode := .seq pc10_c19 pc10_c55
def pc10_c57 : PCode := .seq pc10_c18 pc10_c56
def pc10_c58 : PCode := .seq pc10_c17 pc10_c57
def pc10_c59 : PCode := .seq pc10_c16 pc10_c58
def pc10_c60 : PCode := .seq pc10_c15 pc10_c59
def pc10_c61 : PCode := .seq pc10_c8 pc10_c60
def pc10_c62 : PCode := .seq pc10_c1 pc10_c61
def pc10_r : List PRes := [PRes.tmp 6 []]
def pc10 : PFunc := ⟨136, pc10_r, pc10_c62, false⟩
def pc10_a : Ann := {
  kr := fun
    | 12 => some ([0, 1, 15], [], [])
    | _ => none
  ka := fun
    | _ => 0
  kh := fun
    | 1 => some (.imm)
    | 15 => some (.imm)
    | 16 => some (.imm)
    | 17 => some (.imm)
    | 18 => some (.imm)
    | 19 => some (.imm)
    | 114 => some (.imm)
    | 115 => some (.imm)
    | 116 => some (.imm)
    | 117 => some (.imm)
    | 118 => some (.imm)
    | 119 => some (.imm)
    | 120 => some (.imm)
    | 121 => some (.imm)
    | 122 => some (.imm)
    | 123 => some (.imm)
    | 124 => some (.imm)
    | 125 => some (.imm)
    | 126 => some (.imm)
    | 127 => some (.imm)
    | 128 => some (.imm)
    | 129 => some (.imm)
    | 130 => some (.imm)
    | 131 => some (.imm)
    | 132 => some (.imm)
    | 133 => some (.imm)
    | 134 => some (.imm)
    | _ => none
  ow := fun t => match t with
    | 96 => [(1, 5, 1)]
    | _ => []
  tc := fun t => match t with
    | 96 => true
    | _ => false }
theorem pc10_ok : compFn Try.prog pc10_a Try.f10 = some pc10 := by kernel_rfl


end Go.Proofs.Ytobeamaaifgllaa
