/-
  Code of functions, as the pure machine runs it. No condition.
-/
import Derived.Test.YtpjejnefegdoeaaNoteSpoilsT
namespace Go.Proofs.Ytpjejnefegdoeaa
open Go Go.Rx
set_option maxRecDepth 100000
set_option linter.unusedVariables false
set_option linter.unusedSimpArgs false
set_option linter.unnecessarySimpa false
-- 60: vedette/fields.IsField
def pc60_o1 : List POper := [zo 1 (.box 48 (.tmp 0) []),
  zo 2 (.mv (.const (.bool false)))]
def pc60_c1 : PCode := .region none false pc60_o1
def pc60_o2 : List POper := [zo 3 (.faddr 0 (.tmp 1)),
  zo 4 (.load false 1 (.tmp 3)),
  zo 5 (.prim (.bin .eql 2 false true) [.tmp 4, .const (.int .i64 0)]),
  zo 6 (.mv (.tmp 5)),
  ⟨some 7, .faddr 1 (.tmp 1), some (6, false), []⟩,
  ⟨some 8, .load false 1 (.tmp 7), some (6, false), []⟩,
  ⟨some 9, .prim (.bin .eql 9 false true) [.tmp 8, .const (.string { data := { toList := [] } })], some (6, false), []⟩,
  zo 10 (.pick (.tmp 6) (.const (.bool true)) (.tmp 9)),
  zo 11 (.mv (.tmp 10)),
  ⟨some 12, .faddr 1 (.tmp 1), some (11, true), []⟩,
  ⟨some 13, .load false 1 (.tmp 12), some (11, true), []⟩,
  ⟨some 14, .prim (.len 9) [.tmp 13], some (11, true), []⟩,
  ⟨some 15, .prim (.bin .leq 3 false true) [.tmp 14, .const (.int .i64 12)], some (11, true), []⟩,
  zo 16 (.pick (.tmp 11) (.tmp 15) (.const (.bool false))),
  zo 2 (.mv (.tmp 16))]
def pc60_c2 : PCode := .region none false pc60_o2
def pc60_c3 : PCode := .ret
def pc60_c4 : PCode := .seq pc60_c2 pc60_c3
def pc60_c5 : PCode := .seq pc60_c1 pc60_c4
def pc60_r : List PRes := [PRes.tmp 2 []]
def pc60 : PFunc := ⟨17, pc60_r, pc60_c5, false⟩
def pc60_a : Ann := {
  kr := fun
    | _ => none
  ka := fun
    | _ => 0
  kh := fun
    | _ => none
  ow := fun t => match t with
    | 64 => [(1, 5, 1)]
    | _ => []
  tc := fun t => match t with
    | 64 => true
    | _ => false }
theorem pc60_ok : compFn Try.prog pc60_a Try.f60 = some pc60 := by kernel_rfl


-- 61: vedette/cmd.core
def pc61_o1 : List POper := [zo 1 (.box 53 (.tmp 0) []),
  zo 2 (.alloc 53 (.agg { toList := [.int .i64 0, .int .i64 0, .int .i64 0, .int .i64 0, .int .i64 0, .int .i64 0, .int .i64 0, .string { data := { toList := [] } }, .int .i64 0, .string { data := { toList := [] } }, .int .i64 0, .string { data := { toList := [] } }, .int .i64 0, .string { data := { toList := [] } }, .int .i64 0, .string { data := { toList := [] } }, .int .i64 0, .int .i64 0, .int .i64 0, .int .i64 0, .int .i64 0, .int .i64 0] }) [])]
def pc61_c1 : PCode := .region none false pc61_o1
def pc61_o2 : List POper := [zo 4 (.faddr 0 (.tmp 1)),
  zo 5 (.load false 1 (.tmp 4)),
  zo 6 (.faddr 16 (.tmp 1)),
  zo 7 (.load false 1 (.tmp 6)),
  zo 8 (.faddr 17 (.tmp 1)),
  zo 9 (.load false 1 (.tmp 8)),
  zo 10 (.build (.agg { toList := [.int .i64 0, .int .i64 0, .int .i64 0, .int .i64 0, .int .i64 0, .int .i64 0, .int .i64 0, .string { data := { toList := [] } }, .int .i64 0, .string { data := { toList := [] } }, .int .i64 0, .string { data := { toList := [] } }, .int .i64 0, .string { data := { toList := [] } }, .int .i64 0, .string { data := { toList := [] } }, .int .i64 0, .int .i64 0, .int .i64 0, .int .i64 0, .int .i64 0, .int .i64 0] }) [(0, 1, .tmp 5), (16, 1, .tmp 7), (17, 1, .tmp 9)]),
  zo 3 (.alloc 53 (.agg { toList := [.int .i64 0, .int .i64 0, .int .i64 0, .int .i64 0, .int .i64 0, .int .i64 0, .int .i64 0, .string { data := { toList := [] } }, .int .i64 0, .string { data := { toList := [] } }, .int .i64 0, .string { data := { toList := [] } }, .int .i64 0, .string { data := { toList := [] } }, .int .i64 0, .string { data := { toList := [] } }, .int .i64 0, .int .i64 0, .int .i64 0, .int .i64 0, .int .i64 0, .int .i64 0] }) []),
  ⟨none, .store 22 (.tmp 3) (.tmp 10), none, []⟩]
def pc61_c2 : PCode := .region none false pc61_o2
def pc61_o3 : List POper := [zo 11 (.faddr 0 (.tmp 1)),
  zo 12 (.load false 1 (.tmp 11))]
def pc61_c3 : PCode := .region none false pc61_o3
def pc61_o4 : List POper := [zo 14 (.prim (.bin .eql 3 false true) [.tmp 12, .const (.int .i64 1)]),
  zo 13 (.mv (.tmp 14))]
def pc61_c4 : PCode := .region none false pc61_o4
def pc61_o5 : List POper := [⟨some 15, .faddr 4 (.tmp 1), none, [(1, .at_ 1 0)]⟩,
  ⟨some 16, .load true 2 (.tmp 15), none, [(15, .at_ 1 4)]⟩,
  ⟨some 17, .faddr 6 (.tmp 1), none, [(1, .at_ 1 0)]⟩,
  ⟨some 18, .load true 8 (.tmp 17), none, [(17, .at_ 1 6)]⟩,
  ⟨some 19, .faddr 4 (.tmp 3), none, [(3, .at_ 3 0)]⟩,
  ⟨none, .store 2 (.tmp 19) (.tmp 16), none, [(19, .at_ 3 4), (16, .imm)]⟩,
  ⟨some 20, .faddr 6 (.tmp 3), none, [(3, .at_ 3 0)]⟩,
  ⟨none, .store 8 (.tmp 20) (.tmp 18), none, [(20, .at_ 3 6), (18, .imm)]⟩]
def pc61_c5 : PCode := .region none true pc61_o5
def pc61_o6 : List POper := [zo 22 (.prim (.bin .eql 3 false true) [.tmp 12, .const (.int .i64 2)]),
  zo 21 (.mv (.tmp 22))]
def pc61_c6 : PCode := .region none false pc61_o6
def pc61_o7 : List POper := [⟨some 23, .faddr 1 (.tmp 1), none, [(1, .at_ 1 0)]⟩,
  ⟨some 24, .load false 1 (.tmp 23), none, [(23, .at_ 1 1)]⟩,
  ⟨some 25, .faddr 4 (.tmp 1), none, [(1, .at_ 1 0)]⟩,
  ⟨some 26, .load true 2 (.tmp 25), none, [(25, .at_ 1 4)]⟩,
  ⟨some 27, .faddr 1 (.tmp 3), none, [(3, .at_ 3 0)]⟩,
  ⟨none, .store 1 (.tmp 27) (.tmp 24), none, [(27, .at_ 3 1), (24, .imm)]⟩,
  ⟨some 28, .faddr 4 (.tmp 3), none, [(3, .at_ 3 0)]⟩,
  ⟨none, .store 2 (.tmp 28) (.tmp 26), none, [(28, .at_ 3 4), (26, .imm)]⟩]
def pc61_c7 : PCode := .region none true pc61_o7
def pc61_o8 : List POper := [zo 30 (.prim (.bin .eql 3 false true) [.tmp 12, .const (.int .i64 3)]),
  zo 29 (.mv (.tmp 30))]
def pc61_c8 : PCode := .region none false pc61_o8
def pc61_o9 : List POper := [⟨some 31, .faddr 1 (.tmp 1), none, [(1, .at_ 1 0)]⟩,
  ⟨some 32, .load false 1 (.tmp 31), none, [(31, .at_ 1 1)]⟩,
  ⟨some 33, .faddr 2 (.tmp 1), none, [(1, .at_ 1 0)]⟩,
  ⟨some 34, .load false 1 (.tmp 33), none, [(33, .at_ 1 2)]⟩,
  ⟨some 35, .faddr 14 (.tmp 1), none, [(1, .at_ 1 0)]⟩,
  ⟨some 36, .load true 2 (.tmp 35), none, [(35, .at_ 1 14)]⟩,
  ⟨some 37, .faddr 1 (.tmp 3), none, [(3, .at_ 3 0)]⟩,
  ⟨none, .store 1 (.tmp 37) (.tmp 32), none, [(37, .at_ 3 1), (32, .imm)]⟩,
  ⟨some 38, .faddr 2 (.tmp 3), none, [(3, .at_ 3 0)]⟩,
  ⟨none, .store 1 (.tmp 38) (.tmp 34), none, [(38, .at_ 3 2), (34, .imm)]⟩,
  ⟨some 39, .faddr 14 (.tmp 3), none, [(3, .at_ 3 0)]⟩,
  ⟨none, .store 2 (.tmp 39) (.tmp 36), none, [(39, .at_ 3 14), (36, .imm)]⟩]
def pc61_c9 : PCode := .region none true pc61_o9
def pc61_o10 : List POper := [zo 41 (.prim (.bin .eql 3 false true) [.tmp 12, .const (.int .i64 4)]),
  zo 40 (.mv (.tmp 41))]
def pc61_c10 : PCode := .region none false pc61_o10
def pc61_o11 : List POper := [zo 42 (.faddr 1 (.tmp 1)),
  zo 43 (.load false 1 (.tmp 42)),
  zo 44 (.faddr 1 (.tmp 3)),
  ⟨none, .store 1 (.tmp 44) (.tmp 43), none, []⟩]
def pc61_c11 : PCode := .region none false pc61_o11
def pc61_o12 : List POper := [zo 46 (.prim (.bin .eql 3 false true) [.tmp 12, .const (.int .i64 5)]),
  zo 45 (.mv (.tmp 46))]
def pc61_c12 : PCode := .region none false pc61_o12
def pc61_o13 : List POper := [⟨some 47, .faddr 2 (.tmp 1), none, [(1, .at_ 1 0)]⟩,
  ⟨some 48, .load false 1 (.tmp 47), none, [(47, .at_ 1 2)]⟩,
  ⟨some 49, .faddr 3 (.tmp 1), none, [(1, .at_ 1 0)]⟩,
  ⟨some 50, .load false 1 (.tmp 49), none, [(49, .at_ 1 3)]⟩,
  ⟨some 51, .faddr 2 (.tmp 3), none, [(3, .at_ 3 0)]⟩,
  ⟨none, .store 1 (.tmp 51) (.tmp 48), none, [(51, .at_ 3 2), (48, .imm)]⟩,
  ⟨some 52, .faddr 3 (.tmp 3), none, [(3, .at_ 3 0)]⟩,
  ⟨none, .store 1 (.tmp 52) (.tmp 50), none, [(52, .at_ 3 3), (50, .imm)]⟩]
def pc61_c13 : PCode := .region none true pc61_o13
def pc61_o14 : List POper := [zo 54 (.prim (.bin .eql 3 false true) [.tmp 12, .const (.int .i64 6)]),
  zo 53 (.mv (.tmp 54))]
def pc61_c14 : PCode := .region none false pc61_o14
def pc61_c15 : PCode := .skip
def pc61_o16 : List POper := [zo 55 (.prim (.bin .eql 3 false true) [.tmp 12, .const (.int .i64 7)]),
  zo 53 (.mv (.tmp 55))]
def pc61_c16 : PCode := .region none false pc61_o16
def pc61_c17 : PCode := .cond (.tmp 53) pc61_c15 pc61_c16
def pc61_c18 : PCode := .seq pc61_c14 pc61_c17
def pc61_o19 : List POper := [zo 56 (.faddr 18 (.tmp 1)),
  zo 57 (.load true 4 (.tmp 56)),
  zo 58 (.faddr 18 (.tmp 3)),
  ⟨none, .store 4 (.tmp 58) (.tmp 57), none, []⟩]
def pc61_c19 : PCode := .region none false pc61_o19
def pc61_c20 : PCode := .skip
def pc61_c21 : PCode := .cond (.tmp 53) pc61_c19 pc61_c20
def pc61_c22 : PCode := .seq pc61_c18 pc61_c21
def pc61_c23 : PCode := .cond (.tmp 45) pc61_c13 pc61_c22
def pc61_c24 : PCode := .seq pc61_c12 pc61_c23
def pc61_c25 : PCode := .cond (.tmp 40) pc61_c11 pc61_c24
def pc61_c26 : PCode := .seq pc61_c10 pc61_c25
def pc61_c27 : PCode := .cond (.tmp 29) pc61_c9 pc61_c26
def pc61_c28 : PCode := .seq pc61_c8 pc61_c27
def pc61_c29 : PCode := .cond (.tmp 21) pc61_c7 pc61_c28
def pc61_c30 : PCode := .seq pc61_c6 pc61_c29
def pc61_c31 : PCode := .cond (.tmp 13) pc61_c5 pc61_c30
def pc61_c32 : PCode := .seq pc61_c4 pc61_c31
def pc61_c33 : PCode := .block 0 pc61_c32
def pc61_c34 : PCode := .seq pc61_c3 pc61_c33
def pc61_o35 : List POper := [zo 59 (.load true 22 (.tmp 3)),
  ⟨none, .store 22 (.tmp 2) (.tmp 59), none, []⟩]
def pc61_c35 : PCode := .region none false pc61_o35
def pc61_c36 : PCode := .ret
def pc61_c37 : PCode := .seq pc61_c35 pc61_c36
def pc61_c38 : PCode := .seq pc61_c34 pc61_c37
def pc61_c39 : PCode := .seq pc61_c2 pc61_c38
def pc61_c40 : PCode := .seq pc61_c1 pc61_c39
def pc61_r : List PRes := [PRes.cell 2 true 22 []]
def pc61 : PFunc := ⟨60, pc61_r, pc61_c40, false⟩
def pc61_a : Ann := {
  kr := fun
    | _ => none
  ka := fun
    | _ => 0
  kh := fun
    | 1 => some (.at_ 1 0)
    | 3 => some (.at_ 3 0)
    | 15 => some (.at_ 1 4)
    | 16 => some (.imm)
    | 17 => some (.at_ 1 6)
    | 18 => some (.imm)
    | 19 => some (.at_ 3 4)
    | 20 => some (.at_ 3 6)
    | 23 => some (.at_ 1 1)
    | 24 => some (.imm)
    | 25 => some (.at_ 1 4)
    | 26 => some (.imm)
    | 27 => some (.at_ 3 1)
    | 28 => some (.at_ 3 4)
    | 31 => some (.at_ 1 1)
    | 32 => some (.imm)
    | 33 => some (.at_ 1 2)
    | 34 => some (.imm)
    | 35 => some (.at_ 1 14)
    | 36 => some (.imm)
    | 37 => some (.at_ 3 1)
    | 38 => some (.at_ 3 2)
    | 39 => some (.at_ 3 14)
    | 47 => some (.at_ 1 2)
    | 48 => some (.imm)
    | 49 => some (.at_ 1 3)
    | 50 => some (.imm)
    | 51 => some (.at_ 3 2)
    | 52 => some (.at_ 3 3)
    | _ => none
  ow := fun t => match t with
    | 64 => [(1, 5, 1)]
    | _ => []
  tc := fun t => match t with
    | 64 => true
    | _ => false }
theorem pc61_ok : compFn Try.prog pc61_a Try.f61 = some pc61 := by kernel_rfl


-- 62: vedette/cmd.near
def pc62_o1 : List POper := [zo 2 (.mv (.const (.bool false)))]
def pc62_c1 : PCode := .region none false pc62_o1
def pc62_c2 : PCode := .label
def pc62_o3 : List POper := [zo 5 (.mv (.tmp 0)),
  zo 6 (.lenS (.tmp 5)),
  zo 7 (.mv (.const (.int .i64 0)))]
def pc62_c3 : PCode := .region none false pc62_o3
def pc62_o4 : List POper := [zo 8 (.prim (.bin .lss 3 false false) [.tmp 7, .tmp 6])]
def pc62_c4 : PCode := .region (some ([5, 6, 7], [], [])) false pc62_o4
def pc62_c5 : PCode := .skip
def pc62_c6 : PCode := .exit 0
def pc62_c7 : PCode := .cond (.tmp 8) pc62_c5 pc62_c6
def pc62_o8 : List POper := [zo 9 (.iaddrS 1 (.tmp 5) (.tmp 7)),
  zo 10 (.load false 1 (.tmp 9)),
  zo 4 (.mv (.tmp 10))]
def pc62_c8 : PCode := .region none false pc62_o8
def pc62_o9 : List POper := [zo 11 (.mv (.tmp 4)),
  zo 12 (.prim (.bin .geq 3 false true) [.tmp 11, .const (.int .i64 (-1000))]),
  zo 13 (.mv (.tmp 12)),
  ⟨some 14, .mv (.tmp 4), some (13, true), []⟩,
  ⟨some 15, .prim (.bin .leq 3 false true) [.tmp 14, .const (.int .i64 1000)], some (13, true), []⟩,
  zo 16 (.pick (.tmp 13) (.tmp 15) (.const (.bool false)))]
def pc62_c9 : PCode := .region none false pc62_o9
def pc62_c10 : PCode := .exit 1
def pc62_c11 : PCode := .skip
def pc62_c12 : PCode := .cond (.tmp 16) pc62_c10 pc62_c11
def pc62_c13 : PCode := .seq pc62_c9 pc62_c12
def pc62_o14 : List POper := [zo 2 (.mv (.const (.bool false)))]
def pc62_c14 : PCode := .region none false pc62_o14
def pc62_c15 : PCode := .ret
def pc62_c16 : PCode := .seq pc62_c14 pc62_c15
def pc62_c17 : PCode := .seq pc62_c13 pc62_c16
def pc62_c18 : PCode := .seq pc62_c8 pc62_c17
def pc62_c19 : PCode := .block 1 pc62_c18
def pc62_o20 : List POper := [zo 17 (.prim (.bin .add 3 false true) [.tmp 7, .const (.int .i64 1)]),
  zo 7 (.mv (.tmp 17))]
def pc62_c20 : PCode := .region none false pc62_o20
def pc62_c21 : PCode := .seq pc62_c19 pc62_c20
def pc62_c22 : PCode := .seq pc62_c7 pc62_c21
def pc62_c23 : PCode := .seq pc62_c4 pc62_c22
def pc62_c24 : PCode := .loop pc62_c23
def pc62_c25 : PCode := .block 0 pc62_c24
def pc62_c26 : PCode := .seq pc62_c3 pc62_c25
def pc62_o27 : List POper := [zo 2 (.mv (.const (.bool true)))]
def pc62_c27 : PCode := .region none false pc62_o27
def pc62_c28 : PCode := .ret
def pc62_c29 : PCode := .seq pc62_c27 pc62_c28
def pc62_c30 : PCode := .seq pc62_c26 pc62_c29
def pc62_c31 : PCode := .seq pc62_c2 pc62_c30
def pc62_c32 : PCode := .scope pc62_c31
def pc62_c33 : PCode := .seq pc62_c1 pc62_c32
def pc62_r : List PRes := [PRes.tmp 2 []]
def pc62 : PFunc := ⟨18, pc62_r, pc62_c33, false⟩
def pc62_a : Ann := {
  kr := fun
    | 2 => some ([5, 6, 7], [], [])
    | _ => none
  ka := fun
    | _ => 0
  kh := fun
    | _ => none
  ow := fun t => match t with
    | 64 => [(1, 5, 1)]
    | _ => []
  tc := fun t => match t with
    | 64 => true
    | _ => false }
theorem pc62_ok : compFn Try.prog pc62_a Try.f62 = some pc62 := by kernel_rfl


-- 32: vedette/cmd.Is
def pc32_o1 : List POper := [zo 1 (.box 53 (.tmp 0) []),
  zo 2 (.mv (.const (.bool false)))]
def pc32_c1 : PCode := .region none false pc32_o1
def pc32_o2 : List POper := [zo 8 (.faddr 6 (.tmp 1)),
  zo 9 (.load true 8 (.tmp 8)),
  zo 10 (.mv (.const (.int .i64 0)))]
def pc32_c2 : PCode := .region none false pc32_o2
def pc32_o3 : List POper := [zo 11 (.prim (.bin .lss 3 false true) [.tmp 10, .const (.int .i64 4)])]
def pc32_c3 : PCode := .region (some ([1, 9, 10], [1, 4], [])) false pc32_o3
def pc32_c4 : PCode := .skip
def pc32_c5 : PCode := .exit 0
def pc32_c6 : PCode := .cond (.tmp 11) pc32_c4 pc32_c5
def pc32_o7 : List POper := [zo 12 (.idx true 2 4 (.tmp 9) (.tmp 10)),
  zo 4 (.alloc 48 (.agg { toList := [.int .i64 0, .string { data := { toList := [] } }] }) []),
  ⟨none, .store 2 (.tmp 4) (.tmp 12), none, []⟩]
def pc32_c7 : PCode := .region none false pc32_o7
def pc32_o8 : List POper := [zo 13 (.load true 2 (.tmp 4)),
  zo 14 (.call true [[]] 60 [.tmp 13]),
  zo 15 (.prim (.un .not) [.tmp 14])]
def pc32_c8 : PCode := .region none false pc32_o8
def pc32_o9 : List POper := [zo 2 (.mv (.const (.bool false)))]
def pc32_c9 : PCode := .region none false pc32_o9
def pc32_c10 : PCode := .ret
def pc32_c11 : PCode := .seq pc32_c9 pc32_c10
def pc32_c12 : PCode := .skip
def pc32_c13 : PCode := .cond (.tmp 15) pc32_c11 pc32_c12
def pc32_c14 : PCode := .seq pc32_c8 pc32_c13
def pc32_c15 : PCode := .seq pc32_c7 pc32_c14
def pc32_c16 : PCode := .block 1 pc32_c15
def pc32_o17 : List POper := [zo 16 (.prim (.bin .add 3 false true) [.tmp 10, .const (.int .i64 1)]),
  zo 10 (.mv (.tmp 16))]
def pc32_c17 : PCode := .region none false pc32_o17
def pc32_c18 : PCode := .seq pc32_c16 pc32_c17
def pc32_c19 : PCode := .seq pc32_c6 pc32_c18
def pc32_c20 : PCode := .seq pc32_c3 pc32_c19
def pc32_c21 : PCode := .loop pc32_c20
def pc32_c22 : PCode := .block 0 pc32_c21
def pc32_c23 : PCode := .seq pc32_c2 pc32_c22
def pc32_o24 : List POper := [⟨some 17, .faddr 0 (.tmp 1), none, [(1, .at_ 1 0)]⟩,
  ⟨some 18, .load false 1 (.tmp 17), none, [(17, .at_ 1 0)]⟩,
  ⟨some 19, .prim (.bin .geq 3 false true) [.tmp 18, .const (.int .i64 1)], none, [(18, .imm)]⟩,
  ⟨some 20, .mv (.tmp 19), none, [(19, .imm)]⟩,
  ⟨some 21, .faddr 0 (.tmp 1), some (20, true), [(1, .at_ 1 0)]⟩,
  ⟨some 22, .load false 1 (.tmp 21), some (20, true), [(21, .at_ 1 0)]⟩,
  ⟨some 23, .prim (.bin .leq 3 false true) [.tmp 22, .const (.int .i64 8)], some (20, true), [(22, .imm)]⟩,
  ⟨some 24, .pick (.tmp 20) (.tmp 23) (.const (.bool false)), none, [(20, .imm), (23, .imm)]⟩,
  ⟨some 25, .mv (.tmp 24), none, [(24, .imm)]⟩,
  ⟨some 26, .load true 22 (.tmp 1), some (25, true), [(1, .at_ 1 0)]⟩,
  ⟨some 27, .load true 22 (.tmp 1), some (25, true), [(1, .at_ 1 0)]⟩,
  ⟨some 28, .call false [[]] 61 [.tmp 27], some (25, true), [(27, .imm)]⟩,
  ⟨some 29, .prim (.bin .eql 53 false false) [.tmp 26, .tmp 28], some (25, true), [(26, .imm), (28, .imm)]⟩,
  ⟨some 30, .pick (.tmp 25) (.tmp 29) (.const (.bool false)), none, [(25, .imm), (29, .imm)]⟩,
  ⟨some 5, .mv (.tmp 30), none, [(30, .imm)]⟩]
def pc32_c24 : PCode := .region none true pc32_o24
def pc32_o25 : List POper := [zo 31 (.faddr 16 (.tmp 1)),
  zo 32 (.load false 1 (.tmp 31)),
  zo 33 (.prim (.bin .geq 3 false true) [.tmp 32, .const (.int .i64 0)]),
  zo 34 (.mv (.tmp 33)),
  ⟨some 35, .faddr 16 (.tmp 1), some (34, true), []⟩,
  ⟨some 36, .load false 1 (.tmp 35), some (34, true), []⟩,
  ⟨some 37, .prim (.bin .lss 3 false true) [.tmp 36, .const (.int .i64 4)], some (34, true), []⟩,
  zo 38 (.pick (.tmp 34) (.tmp 37) (.const (.bool false))),
  zo 39 (.mv (.tmp 38)),
  ⟨some 40, .faddr 17 (.tmp 1), some (39, true), []⟩,
  ⟨some 41, .load false 1 (.tmp 40), some (39, true), []⟩,
  ⟨some 42, .prim (.bin .geq 3 false true) [.tmp 41, .const (.int .i64 0)], some (39, true), []⟩,
  zo 43 (.pick (.tmp 39) (.tmp 42) (.const (.bool false))),
  zo 44 (.mv (.tmp 43)),
  ⟨some 45, .faddr 17 (.tmp 1), some (44, true), []⟩,
  ⟨some 46, .load false 1 (.tmp 45), some (44, true), []⟩,
  ⟨some 47, .prim (.bin .leq 3 false true) [.tmp 46, .const (.int .i64 1000000)], some (44, true), []⟩,
  zo 48 (.pick (.tmp 44) (.tmp 47) (.const (.bool false))),
  zo 6 (.mv (.tmp 48))]
def pc32_c25 : PCode := .region (some ([1, 5], [1], [])) false pc32_o25
def pc32_o26 : List POper := [zo 49 (.faddr 1 (.tmp 1)),
  zo 50 (.load false 1 (.tmp 49)),
  zo 51 (.prim (.bin .geq 3 false true) [.tmp 50, .const (.int .i64 0)]),
  zo 52 (.mv (.tmp 51)),
  ⟨some 53, .faddr 1 (.tmp 1), some (52, true), []⟩,
  ⟨some 54, .load false 1 (.tmp 53), some (52, true), []⟩,
  ⟨some 55, .prim (.bin .leq 3 false true) [.tmp 54, .const (.int .i64 1000000)], some (52, true), []⟩,
  zo 56 (.pick (.tmp 52) (.tmp 55) (.const (.bool false))),
  zo 57 (.mv (.tmp 56)),
  ⟨some 58, .faddr 2 (.tmp 1), some (57, true), []⟩,
  ⟨some 59, .load false 1 (.tmp 58), some (57, true), []⟩,
  ⟨some 60, .prim (.bin .geq 3 false true) [.tmp 59, .const (.int .i64 (-1))], some (57, true), []⟩,
  zo 61 (.pick (.tmp 57) (.tmp 60) (.const (.bool false))),
  zo 62 (.mv (.tmp 61)),
  ⟨some 63, .faddr 2 (.tmp 1), some (62, true), []⟩,
  ⟨some 64, .load false 1 (.tmp 63), some (62, true), []⟩,
  ⟨some 65, .prim (.bin .leq 3 false true) [.tmp 64, .const (.int .i64 100)], some (62, true), []⟩,
  zo 66 (.pick (.tmp 62) (.tmp 65) (.const (.bool false))),
  zo 67 (.mv (.tmp 66)),
  ⟨some 68, .faddr 3 (.tmp 1), some (67, true), []⟩,
  ⟨some 69, .load false 1 (.tmp 68), some (67, true), []⟩,
  ⟨some 70, .prim (.bin .geq 3 false true) [.tmp 69, .const (.int .i64 (-1))], some (67, true), []⟩,
  zo 71 (.pick (.tmp 67) (.tmp 70) (.const (.bool false))),
  zo 72 (.mv (.tmp 71)),
  ⟨some 73, .faddr 3 (.tmp 1), some (72, true), []⟩,
  ⟨some 74, .load false 1 (.tmp 73), some (72, true), []⟩,
  ⟨some 75, .prim (.bin .leq 3 false true) [.tmp 74, .const (.int .i64 100)], some (72, true), []⟩,
  zo 76 (.pick (.tmp 72) (.tmp 75) (.const (.bool false))),
  zo 77 (.mv (.tmp 76)),
  ⟨some 78, .faddr 14 (.tmp 1), some (77, true), []⟩,
  ⟨some 79, .load true 2 (.tmp 78), some (77, true), []⟩,
  ⟨some 80, .call true [[]] 60 [.tmp 79], some (77, true), []⟩,
  zo 81 (.pick (.tmp 77) (.tmp 80) (.const (.bool false))),
  zo 7 (.mv (.tmp 81))]
def pc32_c26 : PCode := .region (some ([1, 5, 6], [1], [])) false pc32_o26
def pc32_o27 : List POper := [zo 82 (.mv (.tmp 5)),
  zo 83 (.mv (.tmp 82)),
  ⟨some 84, .mv (.tmp 6), some (83, true), []⟩,
  zo 85 (.pick (.tmp 83) (.tmp 84) (.const (.bool false))),
  zo 86 (.mv (.tmp 85)),
  ⟨some 87, .mv (.tmp 7), some (86, true), []⟩,
  zo 88 (.pick (.tmp 86) (.tmp 87) (.const (.bool false))),
  zo 89 (.mv (.tmp 88)),
  ⟨some 90, .faddr 4 (.tmp 1), some (89, true), []⟩,
  ⟨some 91, .faddr 0 (.tmp 90), some (89, true), []⟩,
  ⟨some 92, .load false 1 (.tmp 91), some (89, true), []⟩,
  ⟨some 93, .faddr 4 (.tmp 1), some (89, true), []⟩,
  ⟨some 94, .faddr 1 (.tmp 93), some (89, true), []⟩,
  ⟨some 95, .load false 1 (.tmp 94), some (89, true), []⟩,
  ⟨some 96, .faddr 18 (.tmp 1), some (89, true), []⟩,
  ⟨some 97, .faddr 0 (.tmp 96), some (89, true), []⟩,
  ⟨some 98, .load false 1 (.tmp 97), some (89, true), []⟩,
  ⟨some 99, .faddr 18 (.tmp 1), some (89, true), []⟩,
  ⟨some 100, .faddr 1 (.tmp 99), some (89, true), []⟩,
  ⟨some 101, .load false 1 (.tmp 100), some (89, true), []⟩,
  ⟨some 102, .faddr 18 (.tmp 1), some (89, true), []⟩,
  ⟨some 103, .faddr 2 (.tmp 102), some (89, true), []⟩,
  ⟨some 104, .load false 1 (.tmp 103), some (89, true), []⟩,
  ⟨some 105, .faddr 18 (.tmp 1), some (89, true), []⟩,
  ⟨some 106, .faddr 3 (.tmp 105), some (89, true), []⟩,
  ⟨some 107, .load false 1 (.tmp 106), some (89, true), []⟩,
  ⟨some 108, .bslice 3 1 [.tmp 92, .tmp 95, .tmp 98, .tmp 101, .tmp 104, .tmp 107], some (89, true), []⟩,
  ⟨some 109, .call true [[(0, 1)]] 62 [.tmp 108], some (89, true), []⟩,
  zo 110 (.pick (.tmp 89) (.tmp 109) (.const (.bool false))),
  zo 2 (.mv (.tmp 110))]
def pc32_c27 : PCode := .region (some ([1, 5, 6, 7], [1], [])) false pc32_o27
def pc32_c28 : PCode := .ret
def pc32_c29 : PCode := .seq pc32_c27 pc32_c28
def pc32_c30 : PCode := .seq pc32_c26 pc32_c29
def pc32_c31 : PCode := .seq pc32_c25 pc32_c30
def pc32_c32 : PCode := .seq pc32_c24 pc32_c31
def pc32_c33 : PCode := .seq pc32_c23 pc32_c32
def pc32_c34 : PCode := .seq pc32_c1 pc32_c33
def pc32_r : List PRes := [PRes.tmp 2 []]
def pc32 : PFunc := ⟨111, pc32_r, pc32_c34, false⟩
def pc32_a : Ann := {
  kr := fun
    | 2 => some ([1, 9, 10], [1, 4], [])
    | 8 => some ([1, 5], [1], [])
    | 9 => some ([1, 5, 6], [1], [])
    | 10 => some ([1, 5, 6, 7], [1], [])
    | _ => none
  ka := fun
    | _ => 0
  kh := fun
    | 1 => some (.at_ 1 0)
    | 17 => some (.at_ 1 0)
    | 18 => some (.imm)
    | 19 => some (.imm)
    | 20 => some (.imm)
    | 21 => some (.at_ 1 0)
    | 22 => some (.imm)
    | 23 => some (.imm)
    | 24 => some (.imm)
    | 25 => some (.imm)
    | 26 => some (.imm)
    | 27 => some (.imm)
    | 28 => some (.imm)
    | 29 => some (.imm)
    | 30 => some (.imm)
    | _ => none
  ow := fun t => match t with
    | 64 => [(1, 5, 1)]
    | _ => []
  tc := fun t => match t with
    | 64 => true
    | _ => false }
theorem pc32_ok : compFn Try.prog pc32_a Try.f32 = some pc32 := by kernel_rfl


-- 33: vedette/cmd.Watches
def pc33_o1 : List POper := [zo 1 (.box 53 (.tmp 0) []),
  zo 2 (.mv (.const (.bool false)))]
def pc33_c1 : PCode := .region none false pc33_o1
def pc33_o2 : List POper := [zo 3 (.faddr 0 (.tmp 1)),
  zo 4 (.load false 1 (.tmp 3)),
  zo 5 (.prim (.bin .geq 3 false true) [.tmp 4, .const (.int .i64 6)]),
  zo 6 (.mv (.tmp 5)),
  ⟨some 7, .faddr 0 (.tmp 1), some (6, true), []⟩,
  ⟨some 8, .load false 1 (.tmp 7), some (6, true), []⟩,
  ⟨some 9, .prim (.bin .leq 3 false true) [.tmp 8, .const (.int .i64 8)], some (6, true), []⟩,
  zo 10 (.pick (.tmp 6) (.tmp 9) (.const (.bool false))),
  zo 2 (.mv (.tmp 10))]
def pc33_c2 : PCode := .region none false pc33_o2
def pc33_c3 : PCode := .ret
def pc33_c4 : PCode := .seq pc33_c2 pc33_c3
def pc33_c5 : PCode := .seq pc33_c1 pc33_c4
def pc33_r : List PRes := [PRes.tmp 2 []]
def pc33 : PFunc := ⟨11, pc33_r, pc33_c5, false⟩
def pc33_a : Ann := {
  kr := fun
    | _ => none
  ka := fun
    | _ => 0
  kh := fun
    | _ => none
  ow := fun t => match t with
    | 64 => [(1, 5, 1)]
    | _ => []
  tc := fun t => match t with
    | 64 => true
    | _ => false }
theorem pc33_ok : compFn Try.prog pc33_a Try.f33 = some pc33 := by kernel_rfl


-- 31: vedette/note.Is$1
def pc31_o1 : List POper := [zo 1 (.box 53 (.tmp 0) []),
  zo 2 (.mv (.const (.bool false)))]
def pc31_c1 : PCode := .region none false pc31_o1
def pc31_o2 : List POper := [zo 3 (.load true 22 (.tmp 1)),
  zo 4 (.call true [[]] 32 [.tmp 3]),
  zo 5 (.prim (.un .not) [.tmp 4]),
  zo 6 (.mv (.tmp 5)),
  ⟨some 7, .load true 22 (.tmp 1), some (6, false), []⟩,
  ⟨some 8, .call true [[]] 33 [.tmp 7], some (6, false), []⟩,
  ⟨some 9, .prim (.un .not) [.tmp 8], some (6, false), []⟩,
  zo 10 (.pick (.tmp 6) (.const (.bool true)) (.tmp 9)),
  zo 2 (.mv (.tmp 10))]
def pc31_c2 : PCode := .region none false pc31_o2
def pc31_c3 : PCode := .ret
def pc31_c4 : PCode := .seq pc31_c2 pc31_c3
def pc31_c5 : PCode := .seq pc31_c1 pc31_c4
def pc31_r : List PRes := [PRes.tmp 2 []]
def pc31 : PFunc := ⟨11, pc31_r, pc31_c5, false⟩
def pc31_a : Ann := {
  kr := fun
    | _ => none
  ka := fun
    | _ => 0
  kh := fun
    | _ => none
  ow := fun t => match t with
    | 64 => [(1, 5, 1)]
    | _ => []
  tc := fun t => match t with
    | 64 => true
    | _ => false }
theorem pc31_ok : compFn Try.prog pc31_a Try.f31 = some pc31 := by kernel_rfl


-- 63: vedette/cells.Is
def pc63_o1 : List POper := [zo 2 (.mv (.const (.bool false)))]
def pc63_c1 : PCode := .region none false pc63_o1
def pc63_o2 : List POper := [zo 3 (.mv (.tmp 0)),
  zo 4 (.prim (.bin .geq 3 false true) [.tmp 3, .const (.int .i64 0)]),
  zo 5 (.mv (.tmp 4)),
  ⟨some 6, .mv (.tmp 0), some (5, true), []⟩,
  ⟨some 7, .prim (.bin .lss 3 false true) [.tmp 6, .const (.int .i64 16)], some (5, true), []⟩,
  zo 8 (.pick (.tmp 5) (.tmp 7) (.const (.bool false))),
  zo 2 (.mv (.tmp 8))]
def pc63_c2 : PCode := .region none false pc63_o2
def pc63_c3 : PCode := .ret
def pc63_c4 : PCode := .seq pc63_c2 pc63_c3
def pc63_c5 : PCode := .seq pc63_c1 pc63_c4
def pc63_r : List PRes := [PRes.tmp 2 []]
def pc63 : PFunc := ⟨9, pc63_r, pc63_c5, false⟩
def pc63_a : Ann := {
  kr := fun
    | _ => none
  ka := fun
    | _ => 0
  kh := fun
    | _ => none
  ow := fun t => match t with
    | 64 => [(1, 5, 1)]
    | _ => []
  tc := fun t => match t with
    | 64 => true
    | _ => false }
theorem pc63_ok : compFn Try.prog pc63_a Try.f63 = some pc63 := by kernel_rfl


-- 34: vedette/note.isHands
def pc34_o1 : List POper := [zo 6 (.mv (.const (.bool false)))]
def pc34_c1 : PCode := .region none false pc34_o1
def pc34_o2 : List POper := [zo 9 (.mv (.tmp 0)),
  zo 10 (.lenS (.tmp 9)),
  zo 11 (.mv (.const (.int .i64 0)))]
def pc34_c2 : PCode := .region none false pc34_o2
def pc34_o3 : List POper := [zo 12 (.prim (.bin .lss 3 false false) [.tmp 11, .tmp 10])]
def pc34_c3 : PCode := .region (some ([0, 1, 2, 9, 10, 11], [8], [])) false pc34_o3
def pc34_c4 : PCode := .skip
def pc34_c5 : PCode := .exit 0
def pc34_c6 : PCode := .cond (.tmp 12) pc34_c4 pc34_c5
def pc34_o7 : List POper := [zo 13 (.mv (.tmp 11)),
  zo 14 (.iaddrS 2 (.tmp 9) (.tmp 11)),
  zo 15 (.load true 2 (.tmp 14)),
  zo 8 (.alloc 44 (.agg { toList := [.int .i64 0, .int .i64 0] }) []),
  zo 7 (.mv (.tmp 13)),
  ⟨none, .store 2 (.tmp 8) (.tmp 15), none, []⟩]
def pc34_c7 : PCode := .region none false pc34_o7
def pc34_o8 : List POper := [⟨some 16, .faddr 0 (.tmp 8), none, [(8, .at_ 8 0)]⟩,
  ⟨some 17, .load false 1 (.tmp 16), none, [(16, .at_ 8 0)]⟩,
  ⟨some 18, .call false [[]] 63 [.tmp 17], none, [(17, .imm)]⟩,
  ⟨some 19, .prim (.un .not) [.tmp 18], none, [(18, .imm)]⟩,
  ⟨some 20, .mv (.tmp 19), none, [(19, .imm)]⟩,
  ⟨some 21, .mv (.tmp 7), some (20, false), [(7, .imm)]⟩,
  ⟨some 22, .prim (.bin .gtr 3 false true) [.tmp 21, .const (.int .i64 0)], some (20, false), [(21, .imm)]⟩,
  ⟨some 23, .mv (.tmp 22), some (20, false), [(22, .imm)]⟩,
  ⟨some 24, .faddr 0 (.tmp 8), some (23, true), [(8, .at_ 8 0)]⟩,
  ⟨some 25, .load false 1 (.tmp 24), some (23, true), [(24, .at_ 8 0)]⟩,
  ⟨some 26, .mv (.tmp 0), some (23, true), [(0, .imm)]⟩,
  ⟨some 27, .mv (.tmp 7), some (23, true), [(7, .imm)]⟩,
  ⟨some 28, .prim (.bin .sub 3 false true) [.tmp 27, .const (.int .i64 1)], some (23, true), [(27, .imm)]⟩,
  ⟨some 29, .iaddrS 2 (.tmp 26) (.tmp 28), some (23, true), [(26, .imm), (28, .imm)]⟩,
  ⟨some 30, .faddr 0 (.tmp 29), some (23, true), [(29, .imm)]⟩,
  ⟨some 31, .load false 1 (.tmp 30), some (23, true), [(30, .imm)]⟩,
  ⟨some 32, .prim (.bin .leq 3 false false) [.tmp 25, .tmp 31], some (23, true), [(25, .imm), (31, .imm)]⟩,
  ⟨some 33, .pick (.tmp 23) (.tmp 32) (.const (.bool false)), some (20, false), [(23, .imm), (32, .imm)]⟩,
  ⟨some 34, .pick (.tmp 20) (.const (.bool true)) (.tmp 33), none, [(20, .imm), (33, .imm)]⟩,
  ⟨some 35, .mv (.tmp 34), none, [(34, .imm)]⟩,
  ⟨some 36, .faddr 1 (.tmp 8), some (35, false), [(8, .at_ 8 0)]⟩,
  ⟨some 37, .load false 1 (.tmp 36), some (35, false), [(36, .at_ 8 1)]⟩,
  ⟨some 38, .prim (.bin .lss 3 false true) [.tmp 37, .const (.int .i64 0)], some (35, false), [(37, .imm)]⟩,
  ⟨some 39, .pick (.tmp 35) (.const (.bool true)) (.tmp 38), none, [(35, .imm), (38, .imm)]⟩,
  ⟨some 40, .mv (.tmp 39), none, [(39, .imm)]⟩,
  ⟨some 41, .faddr 1 (.tmp 8), some (40, false), [(8, .at_ 8 0)]⟩,
  ⟨some 42, .load false 1 (.tmp 41), some (40, false), [(41, .at_ 8 1)]⟩,
  ⟨some 43, .mv (.tmp 2), some (40, false), [(2, .imm)]⟩,
  ⟨some 44, .prim (.bin .geq 3 false false) [.tmp 42, .tmp 43], some (40, false), [(42, .imm), (43, .imm)]⟩,
  ⟨some 45, .pick (.tmp 40) (.const (.bool true)) (.tmp 44), none, [(40, .imm), (44, .imm)]⟩,
  ⟨some 46, .mv (.tmp 45), none, [(45, .imm)]⟩,
  ⟨some 47, .faddr 1 (.tmp 8), some (46, false), [(8, .at_ 8 0)]⟩,
  ⟨some 48, .load false 1 (.tmp 47), some (46, false), [(47, .at_ 8 1)]⟩,
  ⟨some 49, .mv (.tmp 1), some (46, false), [(1, .imm)]⟩,
  ⟨some 50, .prim (.bin .eql 3 false false) [.tmp 48, .tmp 49], some (46, false), [(48, .imm), (49, .imm)]⟩,
  ⟨some 51, .pick (.tmp 46) (.const (.bool true)) (.tmp 50), none, [(46, .imm), (50, .imm)]⟩]
def pc34_c8 : PCode := .region none true pc34_o8
def pc34_o9 : List POper := [zo 6 (.mv (.const (.bool false)))]
def pc34_c9 : PCode := .region none false pc34_o9
def pc34_c10 : PCode := .ret
def pc34_c11 : PCode := .seq pc34_c9 pc34_c10
def pc34_c12 : PCode := .skip
def pc34_c13 : PCode := .cond (.tmp 51) pc34_c11 pc34_c12
def pc34_c14 : PCode := .seq pc34_c8 pc34_c13
def pc34_c15 : PCode := .seq pc34_c7 pc34_c14
def pc34_c16 : PCode := .block 1 pc34_c15
def pc34_o17 : List POper := [zo 52 (.prim (.bin .add 3 false true) [.tmp 11, .const (.int .i64 1)]),
  zo 11 (.mv (.tmp 52))]
def pc34_c17 : PCode := .region none false pc34_o17
def pc34_c18 : PCode := .seq pc34_c16 pc34_c17
def pc34_c19 : PCode := .seq pc34_c6 pc34_c18
def pc34_c20 : PCode := .seq pc34_c3 pc34_c19
def pc34_c21 : PCode := .loop pc34_c20
def pc34_c22 : PCode := .block 0 pc34_c21
def pc34_c23 : PCode := .seq pc34_c2 pc34_c22
def pc34_o24 : List POper := [zo 6 (.mv (.const (.bool true)))]
def pc34_c24 : PCode := .region none false pc34_o24
def pc34_c25 : PCode := .ret
def pc34_c26 : PCode := .seq pc34_c24 pc34_c25
def pc34_c27 : PCode := .seq pc34_c23 pc34_c26
def pc34_c28 : PCode := .seq pc34_c1 pc34_c27
def pc34_r : List PRes := [PRes.tmp 6 []]
def pc34 : PFunc := ⟨53, pc34_r, pc34_c28, false⟩
def pc34_a : Ann := {
  kr := fun
    | 2 => some ([0, 1, 2, 9, 10, 11], [8], [])
    | _ => none
  ka := fun
    | _ => 0
  kh := fun
    | 0 => some (.imm)
    | 1 => some (.imm)
    | 2 => some (.imm)
    | 7 => some (.imm)
    | 8 => some (.at_ 8 0)
    | 16 => some (.at_ 8 0)
    | 17 => some (.imm)
    | 18 => some (.imm)
    | 19 => some (.imm)
    | 20 => some (.imm)
    | 21 => some (.imm)
    | 22 => some (.imm)
    | 23 => some (.imm)
    | 24 => some (.at_ 8 0)
    | 25 => some (.imm)
    | 26 => some (.imm)
    | 27 => some (.imm)
    | 28 => some (.imm)
    | 29 => some (.imm)
    | 30 => some (.imm)
    | 31 => some (.imm)
    | 32 => some (.imm)
    | 33 => some (.imm)
    | 34 => some (.imm)
    | 35 => some (.imm)
    | 36 => some (.at_ 8 1)
    | 37 => some (.imm)
    | 38 => some (.imm)
    | 39 => some (.imm)
    | 40 => some (.imm)
    | 41 => some (.at_ 8 1)
    | 42 => some (.imm)
    | 43 => some (.imm)
    | 44 => some (.imm)
    | 45 => some (.imm)
    | 46 => some (.imm)
    | 47 => some (.at_ 8 1)
    | 48 => some (.imm)
    | 49 => some (.imm)
    | 50 => some (.imm)
    | _ => none
  ow := fun t => match t with
    | 64 => [(1, 5, 1)]
    | _ => []
  tc := fun t => match t with
    | 64 => true
    | _ => false }
theorem pc34_ok : compFn Try.prog pc34_a Try.f34 = some pc34 := by kernel_rfl


-- 78: vedette/geom.On
def pc78_o1 : List POper := [zo 1 (.box 46 (.tmp 0) []),
  zo 2 (.mv (.const (.bool false)))]
def pc78_c1 : PCode := .region none false pc78_o1
def pc78_o2 : List POper := [zo 3 (.faddr 0 (.tmp 1)),
  zo 4 (.load false 1 (.tmp 3)),
  zo 5 (.prim (.bin .geq 3 false true) [.tmp 4, .const (.int .i64 0)]),
  zo 6 (.mv (.tmp 5)),
  ⟨some 7, .faddr 0 (.tmp 1), some (6, true), []⟩,
  ⟨some 8, .load false 1 (.tmp 7), some (6, true), []⟩,
  ⟨some 9, .prim (.bin .lss 3 false true) [.tmp 8, .const (.int .i64 64)], some (6, true), []⟩,
  zo 10 (.pick (.tmp 6) (.tmp 9) (.const (.bool false))),
  zo 11 (.mv (.tmp 10)),
  ⟨some 12, .faddr 1 (.tmp 1), some (11, true), []⟩,
  ⟨some 13, .load false 1 (.tmp 12), some (11, true), []⟩,
  ⟨some 14, .prim (.bin .geq 3 false true) [.tmp 13, .const (.int .i64 0)], some (11, true), []⟩,
  zo 15 (.pick (.tmp 11) (.tmp 14) (.const (.bool false))),
  zo 16 (.mv (.tmp 15)),
  ⟨some 17, .faddr 1 (.tmp 1), some (16, true), []⟩,
  ⟨some 18, .load false 1 (.tmp 17), some (16, true), []⟩,
  ⟨some 19, .prim (.bin .lss 3 false true) [.tmp 18, .const (.int .i64 64)], some (16, true), []⟩,
  zo 20 (.pick (.tmp 16) (.tmp 19) (.const (.bool false))),
  zo 2 (.mv (.tmp 20))]
def pc78_c2 : PCode := .region none false pc78_o2
def pc78_c3 : PCode := .ret
def pc78_c4 : PCode := .seq pc78_c2 pc78_c3
def pc78_c5 : PCode := .seq pc78_c1 pc78_c4
def pc78_r : List PRes := [PRes.tmp 2 []]
def pc78 : PFunc := ⟨21, pc78_r, pc78_c5, false⟩
def pc78_a : Ann := {
  kr := fun
    | _ => none
  ka := fun
    | _ => 0
  kh := fun
    | _ => none
  ow := fun t => match t with
    | 64 => [(1, 5, 1)]
    | _ => []
  tc := fun t => match t with
    | 64 => true
    | _ => false }
theorem pc78_ok : compFn Try.prog pc78_a Try.f78 = some pc78 := by kernel_rfl


-- 94: vedette/morton.spread
def pc94_o1 : List POper := [zo 2 (.mv (.const (.int .u32 0)))]
def pc94_c1 : PCode := .region none false pc94_o1
def pc94_o2 : List POper := [zo 5 (.build (.agg { toList := [.int .u64 0, .int .u32 0] }) [(0, 1, .const (.int .u64 8)), (1, 1, .const (.int .u32 16711935))]),
  zo 6 (.build (.agg { toList := [.int .u64 0, .int .u32 0] }) [(0, 1, .const (.int .u64 4)), (1, 1, .const (.int .u32 252645135))]),
  zo 7 (.build (.agg { toList := [.int .u64 0, .int .u32 0] }) [(0, 1, .const (.int .u64 2)), (1, 1, .const (.int .u32 858993459))]),
  zo 8 (.build (.agg { toList := [.int .u64 0, .int .u32 0] }) [(0, 1, .const (.int .u64 1)), (1, 1, .const (.int .u32 1431655765))]),
  zo 9 (.build (.agg { toList := [.int .u64 0, .int .u32 0, .int .u64 0, .int .u32 0, .int .u64 0, .int .u32 0, .int .u64 0, .int .u32 0] }) [(0, 2, .tmp 5), (2, 2, .tmp 6), (4, 2, .tmp 7), (6, 2, .tmp 8)]),
  zo 10 (.mv (.const (.int .i64 0)))]
def pc94_c2 : PCode := .region none false pc94_o2
def pc94_o3 : List POper := [zo 11 (.prim (.bin .lss 3 false true) [.tmp 10, .const (.int .i64 4)])]
def pc94_c3 : PCode := .region (some ([0, 9, 10], [4], [])) false pc94_o3
def pc94_c4 : PCode := .skip
def pc94_c5 : PCode := .exit 0
def pc94_c6 : PCode := .cond (.tmp 11) pc94_c4 pc94_c5
def pc94_o7 : List POper := [zo 12 (.idx true 2 4 (.tmp 9) (.tmp 10)),
  zo 4 (.alloc 152 (.agg { toList := [.int .u64 0, .int .u32 0] }) []),
  ⟨none, .store 2 (.tmp 4) (.tmp 12), none, []⟩]
def pc94_c7 : PCode := .region none false pc94_o7
def pc94_o8 : List POper := [zo 13 (.mv (.tmp 0)),
  zo 14 (.mv (.tmp 0)),
  zo 15 (.faddr 0 (.tmp 4)),
  zo 16 (.load false 1 (.tmp 15)),
  zo 17 (.prim (.bin .shl 101 false false) [.tmp 14, .tmp 16]),
  zo 18 (.prim (.bin .or 101 false false) [.tmp 13, .tmp 17]),
  zo 19 (.faddr 1 (.tmp 4)),
  zo 20 (.load false 1 (.tmp 19)),
  zo 21 (.prim (.bin .and 101 false false) [.tmp 18, .tmp 20]),
  zo 0 (.mv (.tmp 21))]
def pc94_c8 : PCode := .region none false pc94_o8
def pc94_c9 : PCode := .seq pc94_c7 pc94_c8
def pc94_c10 : PCode := .block 1 pc94_c9
def pc94_o11 : List POper := [zo 22 (.prim (.bin .add 3 false true) [.tmp 10, .const (.int .i64 1)]),
  zo 10 (.mv (.tmp 22))]
def pc94_c11 : PCode := .region none false pc94_o11
def pc94_c12 : PCode := .seq pc94_c10 pc94_c11
def pc94_c13 : PCode := .seq pc94_c6 pc94_c12
def pc94_c14 : PCode := .seq pc94_c3 pc94_c13
def pc94_c15 : PCode := .loop pc94_c14
def pc94_c16 : PCode := .block 0 pc94_c15
def pc94_c17 : PCode := .seq pc94_c2 pc94_c16
def pc94_o18 : List POper := [zo 23 (.mv (.tmp 0)),
  zo 2 (.mv (.tmp 23))]
def pc94_c18 : PCode := .region none false pc94_o18
def pc94_c19 : PCode := .ret
def pc94_c20 : PCode := .seq pc94_c18 pc94_c19
def pc94_c21 : PCode := .seq pc94_c17 pc94_c20
def pc94_c22 : PCode := .seq pc94_c1 pc94_c21
def pc94_r : List PRes := [PRes.tmp 2 []]
def pc94 : PFunc := ⟨24, pc94_r, pc94_c22, false⟩
def pc94_a : Ann := {
  kr := fun
    | 2 => some ([0, 9, 10], [4], [])
    | _ => none
  ka := fun
    | _ => 0
  kh := fun
    | _ => none
  ow := fun t => match t with
    | 64 => [(1, 5, 1)]
    | _ => []
  tc := fun t => match t with
    | 64 => true
    | _ => false }
theorem pc94_ok : compFn Try.prog pc94_a Try.f94 = some pc94 := by kernel_rfl


-- 90: vedette/morton.Weave
def pc90_o1 : List POper := [zo 4 (.mv (.const (.int .u32 0)))]
def pc90_c1 : PCode := .region none false pc90_o1
def pc90_o2 : List POper := [zo 5 (.mv (.tmp 0)),
  zo 6 (.prim (.conv 35 101) [.tmp 5]),
  zo 7 (.call true [[]] 94 [.tmp 6]),
  zo 8 (.mv (.tmp 1)),
  zo 9 (.prim (.conv 35 101) [.tmp 8]),
  zo 10 (.call true [[]] 94 [.tmp 9]),
  zo 11 (.prim (.bin .shl 101 false true) [.tmp 10, .const (.int .u64 1)]),
  zo 12 (.prim (.bin .or 101 false false) [.tmp 7, .tmp 11]),
  zo 4 (.mv (.tmp 12))]
def pc90_c2 : PCode := .region none false pc90_o2
def pc90_c3 : PCode := .ret
def pc90_c4 : PCode := .seq pc90_c2 pc90_c3
def pc90_c5 : PCode := .seq pc90_c1 pc90_c4
def pc90_r : List PRes := [PRes.tmp 4 []]
def pc90 : PFunc := ⟨13, pc90_r, pc90_c5, false⟩
def pc90_a : Ann := {
  kr := fun
    | _ => none
  ka := fun
    | _ => 0
  kh := fun
    | _ => none
  ow := fun t => match t with
    | 64 => [(1, 5, 1)]
    | _ => []
  tc := fun t => match t with
    | 64 => true
    | _ => false }
theorem pc90_ok : compFn Try.prog pc90_a Try.f90 = some pc90 := by kernel_rfl


-- 79: vedette/cells.at
def pc79_o1 : List POper := [zo 4 (.mv (.const (.int .i64 0)))]
def pc79_c1 : PCode := .region none false pc79_o1
def pc79_o2 : List POper := [zo 5 (.mv (.tmp 0)),
  zo 6 (.prim (.conv 3 35) [.tmp 5]),
  zo 7 (.mv (.tmp 1)),
  zo 8 (.prim (.conv 3 35) [.tmp 7]),
  zo 9 (.call true [[], []] 90 [.tmp 6, .tmp 8]),
  zo 10 (.prim (.conv 101 3) [.tmp 9]),
  zo 4 (.mv (.tmp 10))]
def pc79_c2 : PCode := .region none false pc79_o2
def pc79_c3 : PCode := .ret
def pc79_c4 : PCode := .seq pc79_c2 pc79_c3
def pc79_c5 : PCode := .seq pc79_c1 pc79_c4
def pc79_r : List PRes := [PRes.tmp 4 []]
def pc79 : PFunc := ⟨11, pc79_r, pc79_c5, false⟩
def pc79_a : Ann := {
  kr := fun
    | _ => none
  ka := fun
    | _ => 0
  kh := fun
    | _ => none
  ow := fun t => match t with
    | 64 => [(1, 5, 1)]
    | _ => []
  tc := fun t => match t with
    | 64 => true
    | _ => false }
theorem pc79_ok : compFn Try.prog pc79_a Try.f79 = some pc79 := by kernel_rfl


-- 64: vedette/cells.Of
def pc64_o1 : List POper := [zo 1 (.box 46 (.tmp 0) []),
  zo 2 (.mv (.const (.int .i64 0))),
  zo 3 (.mv (.const (.int .i64 0)))]
def pc64_c1 : PCode := .region none false pc64_o1
def pc64_o2 : List POper := [zo 4 (.load true 2 (.tmp 1)),
  zo 5 (.call true [[]] 78 [.tmp 4]),
  zo 6 (.prim (.un .not) [.tmp 5])]
def pc64_c2 : PCode := .region none false pc64_o2
def pc64_o3 : List POper := [zo 2 (.mv (.const (.int .i64 0))),
  zo 3 (.mv (.const (.int .i64 14)))]
def pc64_c3 : PCode := .region none false pc64_o3
def pc64_c4 : PCode := .ret
def pc64_c5 : PCode := .seq pc64_c3 pc64_c4
def pc64_c6 : PCode := .skip
def pc64_c7 : PCode := .cond (.tmp 6) pc64_c5 pc64_c6
def pc64_c8 : PCode := .seq pc64_c2 pc64_c7
def pc64_o9 : List POper := [zo 7 (.faddr 0 (.tmp 1)),
  zo 8 (.load false 1 (.tmp 7)),
  zo 9 (.prim (.bin .quo 3 false true) [.tmp 8, .const (.int .i64 16)]),
  zo 10 (.faddr 1 (.tmp 1)),
  zo 11 (.load false 1 (.tmp 10)),
  zo 12 (.prim (.bin .quo 3 false true) [.tmp 11, .const (.int .i64 16)]),
  zo 13 (.call true [[], []] 79 [.tmp 9, .tmp 12]),
  zo 2 (.mv (.tmp 13)),
  zo 3 (.mv (.const (.int .i64 0)))]
def pc64_c9 : PCode := .region none false pc64_o9
def pc64_c10 : PCode := .ret
def pc64_c11 : PCode := .seq pc64_c9 pc64_c10
def pc64_c12 : PCode := .seq pc64_c8 pc64_c11
def pc64_c13 : PCode := .seq pc64_c1 pc64_c12
def pc64_r : List PRes := [PRes.tmp 2 [], PRes.tmp 3 []]
def pc64 : PFunc := ⟨14, pc64_r, pc64_c13, false⟩
def pc64_a : Ann := {
  kr := fun
    | _ => none
  ka := fun
    | _ => 0
  kh := fun
    | _ => none
  ow := fun t => match t with
    | 64 => [(1, 5, 1)]
    | _ => []
  tc := fun t => match t with
    | 64 => true
    | _ => false }
theorem pc64_ok : compFn Try.prog pc64_a Try.f64 = some pc64 := by kernel_rfl


-- 66: vedette/note.isThings$1
def pc66_o1 : List POper := [zo 2 (.box 44 (.tmp 0) []),
  zo 3 (.mv (.const (.bool false)))]
def pc66_c1 : PCode := .region none false pc66_o1
def pc66_o2 : List POper := [zo 4 (.faddr 0 (.tmp 2)),
  zo 5 (.load false 1 (.tmp 4)),
  zo 6 (.load false 1 (.tmp 1)),
  zo 7 (.prim (.bin .eql 3 false false) [.tmp 5, .tmp 6]),
  zo 3 (.mv (.tmp 7))]
def pc66_c2 : PCode := .region none false pc66_o2
def pc66_c3 : PCode := .ret
def pc66_c4 : PCode := .seq pc66_c2 pc66_c3
def pc66_c5 : PCode := .seq pc66_c1 pc66_c4
def pc66_r : List PRes := [PRes.tmp 3 []]
def pc66 : PFunc := ⟨8, pc66_r, pc66_c5, false⟩
def pc66_a : Ann := {
  kr := fun
    | _ => none
  ka := fun
    | _ => 0
  kh := fun
    | _ => none
  ow := fun t => match t with
    | 64 => [(1, 5, 1)]
    | _ => []
  tc := fun t => match t with
    | 64 => true
    | _ => false }
theorem pc66_ok : compFn Try.prog pc66_a Try.f66 = some pc66 := by kernel_rfl


-- 80: slices.IndexFunc[[]vedette/api.Hand,vedette/api.Hand]
def pc80_o1 : List POper := [zo 4 (.mv (.const (.int .i64 0)))]
def pc80_c1 : PCode := .region none false pc80_o1
def pc80_o2 : List POper := [zo 6 (.mv (.tmp 0)),
  zo 7 (.lenS (.tmp 6)),
  zo 8 (.mv (.const (.int .i64 0)))]
def pc80_c2 : PCode := .region none false pc80_o2
def pc80_o3 : List POper := [zo 9 (.prim (.bin .lss 3 false false) [.tmp 8, .tmp 7])]
def pc80_c3 : PCode := .region (some ([0, 1, 7, 8], [1000000], [])) false pc80_o3
def pc80_c4 : PCode := .skip
def pc80_c5 : PCode := .exit 0
def pc80_c6 : PCode := .cond (.tmp 9) pc80_c4 pc80_c5
def pc80_o7 : List POper := [zo 10 (.mv (.tmp 8)),
  zo 5 (.mv (.tmp 10))]
def pc80_c7 : PCode := .region none false pc80_o7
def pc80_o8 : List POper := [zo 11 (.mv (.tmp 1)),
  zo 12 (.mv (.tmp 0)),
  zo 13 (.mv (.tmp 5)),
  zo 14 (.iaddrS 2 (.tmp 12) (.tmp 13)),
  zo 15 (.load true 2 (.tmp 14)),
  zo 16 (.gcallv false false [300000, 300001, 300002, 300003, 300004, 300005, 300006, 300007, 1000000] [[]] (.tmp 11) [.tmp 15])]
def pc80_c8 : PCode := .region none false pc80_o8
def pc80_o9 : List POper := [zo 17 (.mv (.tmp 5)),
  zo 4 (.mv (.tmp 17))]
def pc80_c9 : PCode := .region none false pc80_o9
def pc80_c10 : PCode := .ret
def pc80_c11 : PCode := .seq pc80_c9 pc80_c10
def pc80_c12 : PCode := .skip
def pc80_c13 : PCode := .cond (.tmp 16) pc80_c11 pc80_c12
def pc80_c14 : PCode := .seq pc80_c8 pc80_c13
def pc80_c15 : PCode := .seq pc80_c7 pc80_c14
def pc80_c16 : PCode := .block 1 pc80_c15
def pc80_o17 : List POper := [zo 18 (.prim (.bin .add 3 false true) [.tmp 8, .const (.int .i64 1)]),
  zo 8 (.mv (.tmp 18))]
def pc80_c17 : PCode := .region none false pc80_o17
def pc80_c18 : PCode := .seq pc80_c16 pc80_c17
def pc80_c19 : PCode := .seq pc80_c6 pc80_c18
def pc80_c20 : PCode := .seq pc80_c3 pc80_c19
def pc80_c21 : PCode := .loop pc80_c20
def pc80_c22 : PCode := .block 0 pc80_c21
def pc80_c23 : PCode := .seq pc80_c2 pc80_c22
def pc80_o24 : List POper := [zo 4 (.mv (.const (.int .i64 (-1))))]
def pc80_c24 : PCode := .region none false pc80_o24
def pc80_c25 : PCode := .ret
def pc80_c26 : PCode := .seq pc80_c24 pc80_c25
def pc80_c27 : PCode := .seq pc80_c23 pc80_c26
def pc80_c28 : PCode := .seq pc80_c1 pc80_c27
def pc80_r : List PRes := [PRes.tmp 4 []]
def pc80 : PFunc := ⟨19, pc80_r, pc80_c28, false⟩
def pc80_a : Ann := {
  kr := fun
    | 2 => some ([0, 1, 7, 8], [1000000], [])
    | _ => none
  ka := fun
    | _ => 0
  kh := fun
    | _ => none
  gv := fun d f => match d, f with
    | some 16, 11 => some (false, false, [300000, 300001, 300002, 300003, 300004, 300005, 300006, 300007, 1000000])
    | _, _ => none
  ow := fun t => match t with
    | 64 => [(1, 5, 1)]
    | _ => []
  tc := fun t => match t with
    | 64 => true
    | _ => false }
theorem pc80_ok : compFn Try.prog pc80_a Try.f80 = some pc80 := by kernel_rfl


-- 65: slices.ContainsFunc[[]vedette/api.Hand,vedette/api.Hand]
def pc65_o1 : List POper := [zo 4 (.mv (.const (.bool false)))]
def pc65_c1 : PCode := .region none false pc65_o1
def pc65_o2 : List POper := [zo 5 (.mv (.tmp 0)),
  zo 6 (.mv (.tmp 1)),
  zo 7 (.gcall false false [300000, 300001, 300002, 300003, 300004, 300005, 300006, 300007, 1000000] [[(0, 2)], []] 80 [.tmp 5, .tmp 6]),
  zo 8 (.prim (.bin .geq 3 false true) [.tmp 7, .const (.int .i64 0)]),
  zo 4 (.mv (.tmp 8))]
def pc65_c2 : PCode := .region none false pc65_o2
def pc65_c3 : PCode := .ret
def pc65_c4 : PCode := .seq pc65_c2 pc65_c3
def pc65_c5 : PCode := .seq pc65_c1 pc65_c4
def pc65_r : List PRes := [PRes.tmp 4 []]
def pc65 : PFunc := ⟨9, pc65_r, pc65_c5, false⟩
def pc65_a : Ann := {
  kr := fun
    | _ => none
  ka := fun
    | _ => 0
  kh := fun
    | _ => none
  gf := fun d f => match d, f with
    | some 7, 80 => some (false, false, [300000, 300001, 300002, 300003, 300004, 300005, 300006, 300007, 1000000])
    | _, _ => none
  ow := fun t => match t with
    | 64 => [(1, 5, 1)]
    | _ => []
  tc := fun t => match t with
    | 64 => true
    | _ => false }
theorem pc65_ok : compFn Try.prog pc65_a Try.f65 = some pc65 := by kernel_rfl


-- 82: vedette/thing.Is$1
def pc82_o1 : List POper := [zo 1 (.box 48 (.tmp 0) []),
  zo 2 (.mv (.const (.bool false)))]
def pc82_c1 : PCode := .region none false pc82_o1
def pc82_o2 : List POper := [zo 3 (.load true 2 (.tmp 1)),
  zo 4 (.call true [[]] 60 [.tmp 3]),
  zo 5 (.prim (.un .not) [.tmp 4]),
  zo 2 (.mv (.tmp 5))]
def pc82_c2 : PCode := .region none false pc82_o2
def pc82_c3 : PCode := .ret
def pc82_c4 : PCode := .seq pc82_c2 pc82_c3
def pc82_c5 : PCode := .seq pc82_c1 pc82_c4
def pc82_r : List PRes := [PRes.tmp 2 []]
def pc82 : PFunc := ⟨6, pc82_r, pc82_c5, false⟩
def pc82_a : Ann := {
  kr := fun
    | _ => none
  ka := fun
    | _ => 0
  kh := fun
    | _ => none
  ow := fun t => match t with
    | 64 => [(1, 5, 1)]
    | _ => []
  tc := fun t => match t with
    | 64 => true
    | _ => false }
theorem pc82_ok : compFn Try.prog pc82_a Try.f82 = some pc82 := by kernel_rfl


-- 91: slices.IndexFunc[[]vedette/api.Field,vedette/api.Field]
def pc91_o1 : List POper := [zo 4 (.mv (.const (.int .i64 0)))]
def pc91_c1 : PCode := .region none false pc91_o1
def pc91_o2 : List POper := [zo 6 (.mv (.tmp 0)),
  zo 7 (.lenS (.tmp 6)),
  zo 8 (.mv (.const (.int .i64 0)))]
def pc91_c2 : PCode := .region none false pc91_o2
def pc91_o3 : List POper := [zo 9 (.prim (.bin .lss 3 false false) [.tmp 8, .tmp 7])]
def pc91_c3 : PCode := .region (some ([0, 1, 7, 8], [], [])) false pc91_o3
def pc91_c4 : PCode := .skip
def pc91_c5 : PCode := .exit 0
def pc91_c6 : PCode := .cond (.tmp 9) pc91_c4 pc91_c5
def pc91_o7 : List POper := [zo 10 (.mv (.tmp 8)),
  zo 5 (.mv (.tmp 10))]
def pc91_c7 : PCode := .region none false pc91_o7
def pc91_o8 : List POper := [zo 11 (.mv (.tmp 1)),
  zo 12 (.mv (.tmp 0)),
  zo 13 (.mv (.tmp 5)),
  zo 14 (.iaddrS 2 (.tmp 12) (.tmp 13)),
  zo 15 (.load true 2 (.tmp 14)),
  zo 16 (.callv true [[]] (.tmp 11) [.tmp 15])]
def pc91_c8 : PCode := .region none false pc91_o8
def pc91_o9 : List POper := [zo 17 (.mv (.tmp 5)),
  zo 4 (.mv (.tmp 17))]
def pc91_c9 : PCode := .region none false pc91_o9
def pc91_c10 : PCode := .ret
def pc91_c11 : PCode := .seq pc91_c9 pc91_c10
def pc91_c12 : PCode := .skip
def pc91_c13 : PCode := .cond (.tmp 16) pc91_c11 pc91_c12
def pc91_c14 : PCode := .seq pc91_c8 pc91_c13
def pc91_c15 : PCode := .seq pc91_c7 pc91_c14
def pc91_c16 : PCode := .block 1 pc91_c15
def pc91_o17 : List POper := [zo 18 (.prim (.bin .add 3 false true) [.tmp 8, .const (.int .i64 1)]),
  zo 8 (.mv (.tmp 18))]
def pc91_c17 : PCode := .region none false pc91_o17
def pc91_c18 : PCode := .seq pc91_c16 pc91_c17
def pc91_c19 : PCode := .seq pc91_c6 pc91_c18
def pc91_c20 : PCode := .seq pc91_c3 pc91_c19
def pc91_c21 : PCode := .loop pc91_c20
def pc91_c22 : PCode := .block 0 pc91_c21
def pc91_c23 : PCode := .seq pc91_c2 pc91_c22
def pc91_o24 : List POper := [zo 4 (.mv (.const (.int .i64 (-1))))]
def pc91_c24 : PCode := .region none false pc91_o24
def pc91_c25 : PCode := .ret
def pc91_c26 : PCode := .seq pc91_c24 pc91_c25
def pc91_c27 : PCode := .seq pc91_c23 pc91_c26
def pc91_c28 : PCode := .seq pc91_c1 pc91_c27
def pc91_r : List PRes := [PRes.tmp 4 []]
def pc91 : PFunc := ⟨19, pc91_r, pc91_c28, false⟩
def pc91_a : Ann := {
  kr := fun
    | 2 => some ([0, 1, 7, 8], [], [])
    | _ => none
  ka := fun
    | _ => 0
  kh := fun
    | _ => none
  ow := fun t => match t with
    | 64 => [(1, 5, 1)]
    | _ => []
  tc := fun t => match t with
    | 64 => true
    | _ => false }
theorem pc91_ok : compFn Try.prog pc91_a Try.f91 = some pc91 := by kernel_rfl


-- 81: slices.ContainsFunc[[]vedette/api.Field,vedette/api.Field]
def pc81_o1 : List POper := [zo 4 (.mv (.const (.bool false)))]
def pc81_c1 : PCode := .region none false pc81_o1
def pc81_o2 : List POper := [zo 5 (.mv (.tmp 0)),
  zo 6 (.mv (.tmp 1)),
  zo 7 (.gcall false false [300000, 300001, 300002, 300003, 300004, 300005, 300006, 300007] [[(0, 2)], []] 91 [.tmp 5, .tmp 6]),
  zo 8 (.prim (.bin .geq 3 false true) [.tmp 7, .const (.int .i64 0)]),
  zo 4 (.mv (.tmp 8))]
def pc81_c2 : PCode := .region none false pc81_o2
def pc81_c3 : PCode := .ret
def pc81_c4 : PCode := .seq pc81_c2 pc81_c3
def pc81_c5 : PCode := .seq pc81_c1 pc81_c4
def pc81_r : List PRes := [PRes.tmp 4 []]
def pc81 : PFunc := ⟨9, pc81_r, pc81_c5, false⟩
def pc81_a : Ann := {
  kr := fun
    | _ => none
  ka := fun
    | _ => 0
  kh := fun
    | _ => none
  gf := fun d f => match d, f with
    | some 7, 91 => some (false, false, [300000, 300001, 300002, 300003, 300004, 300005, 300006, 300007])
    | _, _ => none
  ow := fun t => match t with
    | 64 => [(1, 5, 1)]
    | _ => []
  tc := fun t => match t with
    | 64 => true
    | _ => false }
theorem pc81_ok : compFn Try.prog pc81_a Try.f81 = some pc81 := by kernel_rfl


-- 67: vedette/thing.Is
def pc67_o1 : List POper := [zo 1 (.box 55 (.tmp 0) []),
  zo 2 (.mv (.const (.bool false)))]
def pc67_c1 : PCode := .region none false pc67_o1
def pc67_o2 : List POper := [zo 3 (.faddr 0 (.tmp 1)),
  zo 4 (.load false 1 (.tmp 3)),
  zo 5 (.prim (.bin .geq 3 false true) [.tmp 4, .const (.int .i64 0)]),
  zo 6 (.mv (.tmp 5)),
  ⟨some 7, .faddr 0 (.tmp 1), some (6, true), []⟩,
  ⟨some 8, .load false 1 (.tmp 7), some (6, true), []⟩,
  ⟨some 9, .prim (.bin .leq 3 false true) [.tmp 8, .const (.int .i64 1000000)], some (6, true), []⟩,
  zo 10 (.pick (.tmp 6) (.tmp 9) (.const (.bool false))),
  zo 11 (.mv (.tmp 10)),
  ⟨some 12, .faddr 1 (.tmp 1), some (11, true), []⟩,
  ⟨some 13, .load true 2 (.tmp 12), some (11, true), []⟩,
  ⟨some 14, .call true [[]] 78 [.tmp 13], some (11, true), []⟩,
  zo 15 (.pick (.tmp 11) (.tmp 14) (.const (.bool false))),
  zo 16 (.mv (.tmp 15)),
  ⟨some 17, .faddr 3 (.tmp 1), some (16, true), []⟩,
  ⟨some 18, .slcA 4 2 (.tmp 17) none none, some (16, true), []⟩,
  ⟨some 19, .gcall false false [1, 300000, 300001, 300002, 300003, 300004, 300005, 300006, 300007] [[(0, 2)], []] 81 [.tmp 18, .func 82], some (16, true), []⟩,
  ⟨some 20, .prim (.un .not) [.tmp 19], some (16, true), []⟩,
  zo 21 (.pick (.tmp 16) (.tmp 20) (.const (.bool false))),
  zo 2 (.mv (.tmp 21))]
def pc67_c2 : PCode := .region none false pc67_o2
def pc67_c3 : PCode := .ret
def pc67_c4 : PCode := .seq pc67_c2 pc67_c3
def pc67_c5 : PCode := .seq pc67_c1 pc67_c4
def pc67_r : List PRes := [PRes.tmp 2 []]
def pc67 : PFunc := ⟨22, pc67_r, pc67_c5, false⟩
def pc67_a : Ann := {
  kr := fun
    | _ => none
  ka := fun
    | _ => 0
  kh := fun
    | _ => none
  gf := fun d f => match d, f with
    | some 19, 81 => some (false, false, [1, 300000, 300001, 300002, 300003, 300004, 300005, 300006, 300007])
    | _, _ => none
  ow := fun t => match t with
    | 64 => [(1, 5, 1)]
    | _ => []
  tc := fun t => match t with
    | 64 => true
    | _ => false }
theorem pc67_ok : compFn Try.prog pc67_a Try.f67 = some pc67 := by kernel_rfl


-- 35: vedette/note.isThings
def pc35_o1 : List POper := [zo 6 (.mv (.const (.bool false)))]
def pc35_c1 : PCode := .region none false pc35_o1
def pc35_o2 : List POper := [zo 12 (.mv (.tmp 0)),
  zo 13 (.lenS (.tmp 12)),
  zo 14 (.mv (.const (.int .i64 0)))]
def pc35_c2 : PCode := .region none false pc35_o2
def pc35_o3 : List POper := [zo 15 (.prim (.bin .lss 3 false false) [.tmp 14, .tmp 13])]
def pc35_c3 : PCode := .region (some ([0, 1, 2, 12, 13, 14], [8, 9], [])) false pc35_o3
def pc35_c4 : PCode := .skip
def pc35_c5 : PCode := .exit 0
def pc35_c6 : PCode := .cond (.tmp 15) pc35_c4 pc35_c5
def pc35_o7 : List POper := [zo 16 (.mv (.tmp 14)),
  zo 17 (.iaddrS 11 (.tmp 12) (.tmp 14)),
  zo 18 (.load true 11 (.tmp 17)),
  zo 8 (.alloc 55 (.agg { toList := [.int .i64 0, .int .i64 0, .int .i64 0, .int .i64 0, .string { data := { toList := [] } }, .int .i64 0, .string { data := { toList := [] } }, .int .i64 0, .string { data := { toList := [] } }, .int .i64 0, .string { data := { toList := [] } }] }) []),
  zo 7 (.mv (.tmp 16)),
  ⟨none, .store 11 (.tmp 8) (.tmp 18), none, []⟩]
def pc35_c7 : PCode := .region none false pc35_o7
def pc35_o8 : List POper := [zo 20 (.faddr 1 (.tmp 8)),
  zo 21 (.load true 2 (.tmp 20)),
  zo 22 (.call true [[]] 64 [.tmp 21]),
  zo 19 (.mv (.tmp 22)),
  zo 23 (.ext (.tmp 19) 0),
  zo 24 (.ext (.tmp 19) 1),
  zo 9 (.alloc 3 (.int .i64 0) []),
  ⟨none, .store 1 (.tmp 9) (.tmp 23), none, []⟩,
  zo 10 (.mv (.tmp 24))]
def pc35_c8 : PCode := .region none false pc35_o8
def pc35_o9 : List POper := [zo 25 (.mv (.tmp 1)),
  zo 26 (.mkfn 66 [.tmp 9]),
  zo 27 (.gcall false false [9, 300000, 300001, 300002, 300003, 300004, 300005, 300006, 300007] [[(0, 2)], []] 65 [.tmp 25, .tmp 26]),
  zo 11 (.mv (.tmp 27))]
def pc35_c9 : PCode := .region none false pc35_o9
def pc35_o10 : List POper := [⟨some 28, .load true 11 (.tmp 8), none, [(8, .at_ 8 0)]⟩,
  ⟨some 29, .call false [[]] 67 [.tmp 28], none, [(28, .imm)]⟩,
  ⟨some 30, .prim (.un .not) [.tmp 29], none, [(29, .imm)]⟩,
  ⟨some 31, .mv (.tmp 30), none, [(30, .imm)]⟩,
  ⟨some 32, .mv (.tmp 7), some (31, false), [(7, .imm)]⟩,
  ⟨some 33, .prim (.bin .gtr 3 false true) [.tmp 32, .const (.int .i64 0)], some (31, false), [(32, .imm)]⟩,
  ⟨some 34, .mv (.tmp 33), some (31, false), [(33, .imm)]⟩,
  ⟨some 35, .faddr 0 (.tmp 8), some (34, true), [(8, .at_ 8 0)]⟩,
  ⟨some 36, .load false 1 (.tmp 35), some (34, true), [(35, .at_ 8 0)]⟩,
  ⟨some 37, .mv (.tmp 0), some (34, true), [(0, .imm)]⟩,
  ⟨some 38, .mv (.tmp 7), some (34, true), [(7, .imm)]⟩,
  ⟨some 39, .prim (.bin .sub 3 false true) [.tmp 38, .const (.int .i64 1)], some (34, true), [(38, .imm)]⟩,
  ⟨some 40, .iaddrS 11 (.tmp 37) (.tmp 39), some (34, true), [(37, .imm), (39, .imm)]⟩,
  ⟨some 41, .faddr 0 (.tmp 40), some (34, true), [(40, .imm)]⟩,
  ⟨some 42, .load false 1 (.tmp 41), some (34, true), [(41, .imm)]⟩,
  ⟨some 43, .prim (.bin .leq 3 false false) [.tmp 36, .tmp 42], some (34, true), [(36, .imm), (42, .imm)]⟩,
  ⟨some 44, .pick (.tmp 34) (.tmp 43) (.const (.bool false)), some (31, false), [(34, .imm), (43, .imm)]⟩,
  ⟨some 45, .pick (.tmp 31) (.const (.bool true)) (.tmp 44), none, [(31, .imm), (44, .imm)]⟩,
  ⟨some 46, .mv (.tmp 45), none, [(45, .imm)]⟩,
  ⟨some 47, .mv (.tmp 11), some (46, false), [(11, .imm)]⟩,
  ⟨some 48, .mv (.tmp 2), some (46, false), [(2, .imm)]⟩,
  ⟨some 49, .prim (.bin .neq 4 false false) [.tmp 47, .tmp 48], some (46, false), [(47, .imm), (48, .imm)]⟩,
  ⟨some 50, .pick (.tmp 46) (.const (.bool true)) (.tmp 49), none, [(46, .imm), (49, .imm)]⟩]
def pc35_c10 : PCode := .region none true pc35_o10
def pc35_o11 : List POper := [zo 6 (.mv (.const (.bool false)))]
def pc35_c11 : PCode := .region none false pc35_o11
def pc35_c12 : PCode := .ret
def pc35_c13 : PCode := .seq pc35_c11 pc35_c12
def pc35_c14 : PCode := .skip
def pc35_c15 : PCode := .cond (.tmp 50) pc35_c13 pc35_c14
def pc35_c16 : PCode := .seq pc35_c10 pc35_c15
def pc35_c17 : PCode := .seq pc35_c9 pc35_c16
def pc35_c18 : PCode := .seq pc35_c8 pc35_c17
def pc35_c19 : PCode := .seq pc35_c7 pc35_c18
def pc35_c20 : PCode := .block 1 pc35_c19
def pc35_o21 : List POper := [zo 51 (.prim (.bin .add 3 false true) [.tmp 14, .const (.int .i64 1)]),
  zo 14 (.mv (.tmp 51))]
def pc35_c21 : PCode := .region none false pc35_o21
def pc35_c22 : PCode := .seq pc35_c20 pc35_c21
def pc35_c23 : PCode := .seq pc35_c6 pc35_c22
def pc35_c24 : PCode := .seq pc35_c3 pc35_c23
def pc35_c25 : PCode := .loop pc35_c24
def pc35_c26 : PCode := .block 0 pc35_c25
def pc35_c27 : PCode := .seq pc35_c2 pc35_c26
def pc35_o28 : List POper := [zo 52 (.mv (.tmp 0)),
  zo 53 (.lenS (.tmp 52)),
  zo 54 (.prim (.bin .leq 3 false true) [.tmp 53, .const (.int .i64 200)]),
  zo 6 (.mv (.tmp 54))]
def pc35_c28 : PCode := .region none false pc35_o28
def pc35_c29 : PCode := .ret
def pc35_c30 : PCode := .seq pc35_c28 pc35_c29
def pc35_c31 : PCode := .seq pc35_c27 pc35_c30
def pc35_c32 : PCode := .seq pc35_c1 pc35_c31
def pc35_r : List PRes := [PRes.tmp 6 []]
def pc35 : PFunc := ⟨55, pc35_r, pc35_c32, false⟩
def pc35_a : Ann := {
  kr := fun
    | 2 => some ([0, 1, 2, 12, 13, 14], [8, 9], [])
    | _ => none
  ka := fun
    | _ => 0
  kh := fun
    | 0 => some (.imm)
    | 2 => some (.imm)
    | 7 => some (.imm)
    | 8 => some (.at_ 8 0)
    | 11 => some (.imm)
    | 28 => some (.imm)
    | 29 => some (.imm)
    | 30 => some (.imm)
    | 31 => some (.imm)
    | 32 => some (.imm)
    | 33 => some (.imm)
    | 34 => some (.imm)
    | 35 => some (.at_ 8 0)
    | 36 => some (.imm)
    | 37 => some (.imm)
    | 38 => some (.imm)
    | 39 => some (.imm)
    | 40 => some (.imm)
    | 41 => some (.imm)
    | 42 => some (.imm)
    | 43 => some (.imm)
    | 44 => some (.imm)
    | 45 => some (.imm)
    | 46 => some (.imm)
    | 47 => some (.imm)
    | 48 => some (.imm)
    | 49 => some (.imm)
    | _ => none
  gf := fun d f => match d, f with
    | some 27, 65 => some (false, false, [9, 300000, 300001, 300002, 300003, 300004, 300005, 300006, 300007])
    | _, _ => none
  ow := fun t => match t with
    | 64 => [(1, 5, 1)]
    | _ => []
  tc := fun t => match t with
    | 64 => true
    | _ => false }
theorem pc35_ok : compFn Try.prog pc35_a Try.f35 = some pc35 := by kernel_rfl


-- 68: slices.IndexFunc[[]vedette/api.Command,vedette/api.Command]
def pc68_o1 : List POper := [zo 4 (.mv (.const (.int .i64 0)))]
def pc68_c1 : PCode := .region none false pc68_o1
def pc68_o2 : List POper := [zo 6 (.mv (.tmp 0)),
  zo 7 (.lenS (.tmp 6)),
  zo 8 (.mv (.const (.int .i64 0)))]
def pc68_c2 : PCode := .region none false pc68_o2
def pc68_o3 : List POper := [zo 9 (.prim (.bin .lss 3 false false) [.tmp 8, .tmp 7])]
def pc68_c3 : PCode := .region (some ([0, 1, 7, 8], [], [])) false pc68_o3
def pc68_c4 : PCode := .skip
def pc68_c5 : PCode := .exit 0
def pc68_c6 : PCode := .cond (.tmp 9) pc68_c4 pc68_c5
def pc68_o7 : List POper := [zo 10 (.mv (.tmp 8)),
  zo 5 (.mv (.tmp 10))]
def pc68_c7 : PCode := .region none false pc68_o7
def pc68_o8 : List POper := [zo 11 (.mv (.tmp 1)),
  zo 12 (.mv (.tmp 0)),
  zo 13 (.mv (.tmp 5)),
  zo 14 (.iaddrS 22 (.tmp 12) (.tmp 13)),
  zo 15 (.load true 22 (.tmp 14)),
  zo 16 (.callv true [[]] (.tmp 11) [.tmp 15])]
def pc68_c8 : PCode := .region none false pc68_o8
def pc68_o9 : List POper := [zo 17 (.mv (.tmp 5)),
  zo 4 (.mv (.tmp 17))]
def pc68_c9 : PCode := .region none false pc68_o9
def pc68_c10 : PCode := .ret
def pc68_c11 : PCode := .seq pc68_c9 pc68_c10
def pc68_c12 : PCode := .skip
def pc68_c13 : PCode := .cond (.tmp 16) pc68_c11 pc68_c12
def pc68_c14 : PCode := .seq pc68_c8 pc68_c13
def pc68_c15 : PCode := .seq pc68_c7 pc68_c14
def pc68_c16 : PCode := .block 1 pc68_c15
def pc68_o17 : List POper := [zo 18 (.prim (.bin .add 3 false true) [.tmp 8, .const (.int .i64 1)]),
  zo 8 (.mv (.tmp 18))]
def pc68_c17 : PCode := .region none false pc68_o17
def pc68_c18 : PCode := .seq pc68_c16 pc68_c17
def pc68_c19 : PCode := .seq pc68_c6 pc68_c18
def pc68_c20 : PCode := .seq pc68_c3 pc68_c19
def pc68_c21 : PCode := .loop pc68_c20
def pc68_c22 : PCode := .block 0 pc68_c21
def pc68_c23 : PCode := .seq pc68_c2 pc68_c22
def pc68_o24 : List POper := [zo 4 (.mv (.const (.int .i64 (-1))))]
def pc68_c24 : PCode := .region none false pc68_o24
def pc68_c25 : PCode := .ret
def pc68_c26 : PCode := .seq pc68_c24 pc68_c25
def pc68_c27 : PCode := .seq pc68_c23 pc68_c26
def pc68_c28 : PCode := .seq pc68_c1 pc68_c27
def pc68_r : List PRes := [PRes.tmp 4 []]
def pc68 : PFunc := ⟨19, pc68_r, pc68_c28, false⟩
def pc68_a : Ann := {
  kr := fun
    | 2 => some ([0, 1, 7, 8], [], [])
    | _ => none
  ka := fun
    | _ => 0
  kh := fun
    | _ => none
  ow := fun t => match t with
    | 64 => [(1, 5, 1)]
    | _ => []
  tc := fun t => match t with
    | 64 => true
    | _ => false }
theorem pc68_ok : compFn Try.prog pc68_a Try.f68 = some pc68 := by kernel_rfl


-- 36: slices.ContainsFunc[[]vedette/api.Command,vedette/api.Command]
def pc36_o1 : List POper := [zo 4 (.mv (.const (.bool false)))]
def pc36_c1 : PCode := .region none false pc36_o1
def pc36_o2 : List POper := [zo 5 (.mv (.tmp 0)),
  zo 6 (.mv (.tmp 1)),
  zo 7 (.gcall false false [300000, 300001, 300002, 300003, 300004, 300005, 300006, 300007] [[(0, 22)], []] 68 [.tmp 5, .tmp 6]),
  zo 8 (.prim (.bin .geq 3 false true) [.tmp 7, .const (.int .i64 0)]),
  zo 4 (.mv (.tmp 8))]
def pc36_c2 : PCode := .region none false pc36_o2
def pc36_c3 : PCode := .ret
def pc36_c4 : PCode := .seq pc36_c2 pc36_c3
def pc36_c5 : PCode := .seq pc36_c1 pc36_c4
def pc36_r : List PRes := [PRes.tmp 4 []]
def pc36 : PFunc := ⟨9, pc36_r, pc36_c5, false⟩
def pc36_a : Ann := {
  kr := fun
    | _ => none
  ka := fun
    | _ => 0
  kh := fun
    | _ => none
  gf := fun d f => match d, f with
    | some 7, 68 => some (false, false, [300000, 300001, 300002, 300003, 300004, 300005, 300006, 300007])
    | _, _ => none
  ow := fun t => match t with
    | 64 => [(1, 5, 1)]
    | _ => []
  tc := fun t => match t with
    | 64 => true
    | _ => false }
theorem pc36_ok : compFn Try.prog pc36_a Try.f36 = some pc36 := by kernel_rfl


-- 11: vedette/note.Is
def pc11_o1 : List POper := [zo 2 (.box 26 (.tmp 0) []),
  zo 4 (.mv (.const (.bool false)))]
def pc11_c1 : PCode := .region none false pc11_o1
def pc11_o2 : List POper := [zo 6 (.mv (.tmp 1)),
  zo 7 (.prim .min [.tmp 6, .const (.int .i64 4)]),
  zo 1 (.mv (.tmp 7))]
def pc11_c2 : PCode := .region none false pc11_o2
def pc11_o3 : List POper := [zo 8 (.faddr 0 (.tmp 2)),
  zo 9 (.load false 1 (.tmp 8)),
  zo 10 (.prim (.bin .lss 3 false true) [.tmp 9, .const (.int .i64 0)]),
  zo 11 (.mv (.tmp 10)),
  ⟨some 12, .faddr 0 (.tmp 2), some (11, false), []⟩,
  ⟨some 13, .load false 1 (.tmp 12), some (11, false), []⟩,
  ⟨some 14, .mv (.tmp 1), some (11, false), []⟩,
  ⟨some 15, .prim (.bin .geq 3 false false) [.tmp 13, .tmp 14], some (11, false), []⟩,
  zo 16 (.pick (.tmp 11) (.const (.bool true)) (.tmp 15)),
  zo 17 (.mv (.tmp 16)),
  ⟨some 18, .faddr 1 (.tmp 2), some (17, false), []⟩,
  ⟨some 19, .load false 1 (.tmp 18), some (17, false), []⟩,
  ⟨some 20, .prim (.bin .lss 3 false true) [.tmp 19, .const (.int .i64 0)], some (17, false), []⟩,
  zo 21 (.pick (.tmp 17) (.const (.bool true)) (.tmp 20)),
  zo 22 (.mv (.tmp 21)),
  ⟨some 23, .faddr 1 (.tmp 2), some (22, false), []⟩,
  ⟨some 24, .load false 1 (.tmp 23), some (22, false), []⟩,
  ⟨some 25, .prim (.bin .gtr 3 false true) [.tmp 24, .const (.int .i64 1073741824)], some (22, false), []⟩,
  zo 26 (.pick (.tmp 22) (.const (.bool true)) (.tmp 25)),
  zo 27 (.mv (.tmp 26)),
  ⟨some 28, .faddr 5 (.tmp 2), some (27, false), []⟩,
  ⟨some 29, .load false 1 (.tmp 28), some (27, false), []⟩,
  ⟨some 30, .lenS (.tmp 29), some (27, false), []⟩,
  ⟨some 31, .prim (.bin .gtr 3 false true) [.tmp 30, .const (.int .i64 20)], some (27, false), []⟩,
  zo 32 (.pick (.tmp 27) (.const (.bool true)) (.tmp 31))]
def pc11_c3 : PCode := .region none false pc11_o3
def pc11_o4 : List POper := [zo 4 (.mv (.const (.bool false)))]
def pc11_c4 : PCode := .region none false pc11_o4
def pc11_c5 : PCode := .ret
def pc11_c6 : PCode := .seq pc11_c4 pc11_c5
def pc11_c7 : PCode := .skip
def pc11_c8 : PCode := .cond (.tmp 32) pc11_c6 pc11_c7
def pc11_c9 : PCode := .seq pc11_c3 pc11_c8
def pc11_o10 : List POper := [zo 5 (.mv (.func 31))]
def pc11_c10 : PCode := .region none false pc11_o10
def pc11_o11 : List POper := [zo 33 (.faddr 3 (.tmp 2)),
  zo 34 (.load false 1 (.tmp 33)),
  zo 35 (.faddr 0 (.tmp 2)),
  zo 36 (.load false 1 (.tmp 35)),
  zo 37 (.mv (.tmp 1)),
  zo 38 (.call true [[(0, 2)], [], []] 34 [.tmp 34, .tmp 36, .tmp 37]),
  zo 39 (.mv (.tmp 38)),
  ⟨some 40, .faddr 2 (.tmp 2), some (39, true), []⟩,
  ⟨some 41, .load false 1 (.tmp 40), some (39, true), []⟩,
  ⟨some 42, .faddr 3 (.tmp 2), some (39, true), []⟩,
  ⟨some 43, .load false 1 (.tmp 42), some (39, true), []⟩,
  ⟨some 44, .call true [[(0, 11)], [(0, 2)], []] 35 [.tmp 41, .tmp 43, .const (.bool false)], some (39, true), []⟩,
  zo 45 (.pick (.tmp 39) (.tmp 44) (.const (.bool false))),
  zo 46 (.mv (.tmp 45)),
  ⟨some 47, .faddr 4 (.tmp 2), some (46, true), []⟩,
  ⟨some 48, .load false 1 (.tmp 47), some (46, true), []⟩,
  ⟨some 49, .faddr 3 (.tmp 2), some (46, true), []⟩,
  ⟨some 50, .load false 1 (.tmp 49), some (46, true), []⟩,
  ⟨some 51, .call true [[(0, 11)], [(0, 2)], []] 35 [.tmp 48, .tmp 50, .const (.bool true)], some (46, true), []⟩,
  zo 52 (.pick (.tmp 46) (.tmp 51) (.const (.bool false))),
  zo 53 (.mv (.tmp 52)),
  ⟨some 54, .faddr 5 (.tmp 2), some (53, true), []⟩,
  ⟨some 55, .load false 1 (.tmp 54), some (53, true), []⟩,
  ⟨some 56, .mv (.tmp 5), some (53, true), []⟩,
  ⟨some 57, .gcall false false [300000, 300001, 300002, 300003, 300004, 300005, 300006, 300007] [[(0, 22)], []] 36 [.tmp 55, .tmp 56], some (53, true), []⟩,
  ⟨some 58, .prim (.un .not) [.tmp 57], some (53, true), []⟩,
  zo 59 (.pick (.tmp 53) (.tmp 58) (.const (.bool false))),
  zo 4 (.mv (.tmp 59))]
def pc11_c11 : PCode := .region none false pc11_o11
def pc11_c12 : PCode := .ret
def pc11_c13 : PCode := .seq pc11_c11 pc11_c12
def pc11_c14 : PCode := .seq pc11_c10 pc11_c13
def pc11_c15 : PCode := .seq pc11_c9 pc11_c14
def pc11_c16 : PCode := .seq pc11_c2 pc11_c15
def pc11_c17 : PCode := .seq pc11_c1 pc11_c16
def pc11_r : List PRes := [PRes.tmp 4 []]
def pc11 : PFunc := ⟨60, pc11_r, pc11_c17, false⟩
def pc11_a : Ann := {
  kr := fun
    | _ => none
  ka := fun
    | _ => 0
  kh := fun
    | _ => none
  gf := fun d f => match d, f with
    | some 57, 36 => some (false, false, [300000, 300001, 300002, 300003, 300004, 300005, 300006, 300007])
    | _, _ => none
  ow := fun t => match t with
    | 64 => [(1, 5, 1)]
    | _ => []
  tc := fun t => match t with
    | 64 => true
    | _ => false }
theorem pc11_ok : compFn Try.prog pc11_a Try.f11 = some pc11 := by kernel_rfl


-- 20: vedette/num.Put
def pc20_o1 : List POper := [zo 2 (.mv (.const (.string { data := { toList := [] } })))]
def pc20_c1 : PCode := .region none false pc20_o1
def pc20_o2 : List POper := [zo 3 (.mv (.const (.slice none 0 0)))]
def pc20_c2 : PCode := .region none false pc20_o2
def pc20_o3 : List POper := [zo 4 (.mv (.tmp 0)),
  zo 5 (.prim (.bin .geq 38 false true) [.tmp 4, .const (.int .u64 128)])]
def pc20_c3 : PCode := .region (some ([0, 3], [100003], [(false, 3, 0, 100003, 5, 1)])) false pc20_o3
def pc20_c4 : PCode := .skip
def pc20_c5 : PCode := .exit 0
def pc20_c6 : PCode := .cond (.tmp 5) pc20_c4 pc20_c5
def pc20_c7 : PCode := .seq pc20_c3 pc20_c6
def pc20_o8 : List POper := [zo 6 (.mv (.tmp 3)),
  zo 7 (.mv (.tmp 0)),
  zo 8 (.prim (.conv 38 5) [.tmp 7]),
  zo 9 (.prim (.bin .or 5 false true) [.tmp 8, .const (.int .u8 128)]),
  zo 10 (.bslice 5 1 [.tmp 9]),
  zo 11 (.app 100003 5 1 1 (.tmp 6) (.tmp 10)),
  zo 3 (.mv (.tmp 11))]
def pc20_c8 : PCode := .region none false pc20_o8
def pc20_o9 : List POper := [zo 12 (.mv (.tmp 0)),
  zo 13 (.prim (.bin .shr 38 false true) [.tmp 12, .const (.int .u64 7)]),
  zo 0 (.mv (.tmp 13))]
def pc20_c9 : PCode := .region none false pc20_o9
def pc20_c10 : PCode := .seq pc20_c8 pc20_c9
def pc20_c11 : PCode := .block 1 pc20_c10
def pc20_c12 : PCode := .seq pc20_c7 pc20_c11
def pc20_c13 : PCode := .loop pc20_c12
def pc20_c14 : PCode := .block 0 pc20_c13
def pc20_o15 : List POper := [zo 14 (.mv (.tmp 3)),
  zo 15 (.mv (.tmp 0)),
  zo 16 (.prim (.conv 38 5) [.tmp 15]),
  zo 17 (.bslice 5 1 [.tmp 16]),
  zo 18 (.app 100003 5 1 1 (.tmp 14) (.tmp 17)),
  zo 19 (.b2s (.tmp 18)),
  zo 2 (.mv (.tmp 19))]
def pc20_c15 : PCode := .region none false pc20_o15
def pc20_c16 : PCode := .ret
def pc20_c17 : PCode := .seq pc20_c15 pc20_c16
def pc20_c18 : PCode := .seq pc20_c14 pc20_c17
def pc20_c19 : PCode := .seq pc20_c2 pc20_c18
def pc20_c20 : PCode := .seq pc20_c1 pc20_c19
def pc20_r : List PRes := [PRes.tmp 2 []]
def pc20 : PFunc := ⟨20, pc20_r, pc20_c20, false⟩
def pc20_a : Ann := {
  kr := fun
    | 2 => some ([0, 3], [100003], [(false, 3, 0, 100003, 5, 1)])
    | _ => none
  ka := fun
    | 11 => 100003
    | 18 => 100003
    | _ => 0
  kh := fun
    | _ => none
  ow := fun t => match t with
    | 64 => [(1, 5, 1)]
    | _ => []
  tc := fun t => match t with
    | 64 => true
    | _ => false }
theorem pc20_ok : compFn Try.prog pc20_a Try.f20 = some pc20 := by kernel_rfl


-- 77: vedette/num.Zig
def pc77_o1 : List POper := [zo 2 (.mv (.const (.int .u64 0)))]
def pc77_c1 : PCode := .region none false pc77_o1
def pc77_o2 : List POper := [zo 3 (.mv (.tmp 0)),
  zo 4 (.prim (.conv 2 38) [.tmp 3]),
  zo 5 (.prim (.bin .shl 38 false true) [.tmp 4, .const (.int .u64 1)]),
  zo 6 (.mv (.tmp 0)),
  zo 7 (.prim (.bin .shr 2 false true) [.tmp 6, .const (.int .u64 63)]),
  zo 8 (.prim (.conv 2 38) [.tmp 7]),
  zo 9 (.prim (.bin .xor 38 false false) [.tmp 5, .tmp 8]),
  zo 2 (.mv (.tmp 9))]
def pc77_c2 : PCode := .region none false pc77_o2
def pc77_c3 : PCode := .ret
def pc77_c4 : PCode := .seq pc77_c2 pc77_c3
def pc77_c5 : PCode := .seq pc77_c1 pc77_c4
def pc77_r : List PRes := [PRes.tmp 2 []]
def pc77 : PFunc := ⟨10, pc77_r, pc77_c5, false⟩
def pc77_a : Ann := {
  kr := fun
    | _ => none
  ka := fun
    | _ => 0
  kh := fun
    | _ => none
  ow := fun t => match t with
    | 64 => [(1, 5, 1)]
    | _ => []
  tc := fun t => match t with
    | 64 => true
    | _ => false }
theorem pc77_ok : compFn Try.prog pc77_a Try.f77 = some pc77 := by kernel_rfl


-- 46: vedette/num.Int
def pc46_o1 : List POper := [zo 2 (.mv (.const (.string { data := { toList := [] } })))]
def pc46_c1 : PCode := .region none false pc46_o1
def pc46_o2 : List POper := [zo 3 (.mv (.tmp 0)),
  zo 4 (.call true [[]] 77 [.tmp 3]),
  zo 5 (.call true [[]] 20 [.tmp 4]),
  zo 2 (.mv (.tmp 5))]
def pc46_c2 : PCode := .region none false pc46_o2
def pc46_c3 : PCode := .ret
def pc46_c4 : PCode := .seq pc46_c2 pc46_c3
def pc46_c5 : PCode := .seq pc46_c1 pc46_c4
def pc46_r : List PRes := [PRes.tmp 2 []]
def pc46 : PFunc := ⟨6, pc46_r, pc46_c5, false⟩
def pc46_a : Ann := {
  kr := fun
    | _ => none
  ka := fun
    | _ => 0
  kh := fun
    | _ => none
  ow := fun t => match t with
    | 64 => [(1, 5, 1)]
    | _ => []
  tc := fun t => match t with
    | 64 => true
    | _ => false }
theorem pc46_ok : compFn Try.prog pc46_a Try.f46 = some pc46 := by kernel_rfl


-- 49: vedette/num.Text
def pc49_o1 : List POper := [zo 2 (.mv (.const (.string { data := { toList := [] } })))]
def pc49_c1 : PCode := .region none false pc49_o1
def pc49_o2 : List POper := [zo 3 (.mv (.tmp 0)),
  zo 4 (.prim (.len 9) [.tmp 3]),
  zo 5 (.prim (.conv 3 38) [.tmp 4]),
  zo 6 (.call true [[]] 20 [.tmp 5]),
  zo 7 (.mv (.tmp 0)),
  zo 8 (.prim (.bin .add 9 false false) [.tmp 6, .tmp 7]),
  zo 2 (.mv (.tmp 8))]
def pc49_c2 : PCode := .region none false pc49_o2
def pc49_c3 : PCode := .ret
def pc49_c4 : PCode := .seq pc49_c2 pc49_c3
def pc49_c5 : PCode := .seq pc49_c1 pc49_c4
def pc49_r : List PRes := [PRes.tmp 2 []]
def pc49 : PFunc := ⟨9, pc49_r, pc49_c5, false⟩
def pc49_a : Ann := {
  kr := fun
    | _ => none
  ka := fun
    | _ => 0
  kh := fun
    | _ => none
  ow := fun t => match t with
    | 64 => [(1, 5, 1)]
    | _ => []
  tc := fun t => match t with
    | 64 => true
    | _ => false }
theorem pc49_ok : compFn Try.prog pc49_a Try.f49 = some pc49 := by kernel_rfl


-- 89: vedette/fields.has
def pc89_o1 : List POper := [zo 4 (.mv (.const (.bool false)))]
def pc89_c1 : PCode := .region none false pc89_o1
def pc89_o2 : List POper := [zo 5 (.mv (.tmp 0)),
  zo 6 (.mv (.tmp 1)),
  zo 7 (.prim (.bin .add 3 false true) [.tmp 6, .const (.int .i64 1)]),
  zo 8 (.prim (.bin .shr 5 false false) [.tmp 5, .tmp 7]),
  zo 9 (.prim (.bin .and 5 false true) [.tmp 8, .const (.int .u8 1)]),
  zo 10 (.prim (.bin .eql 5 false true) [.tmp 9, .const (.int .u8 1)]),
  zo 4 (.mv (.tmp 10))]
def pc89_c2 : PCode := .region none false pc89_o2
def pc89_c3 : PCode := .ret
def pc89_c4 : PCode := .seq pc89_c2 pc89_c3
def pc89_c5 : PCode := .seq pc89_c1 pc89_c4
def pc89_r : List PRes := [PRes.tmp 4 []]
def pc89 : PFunc := ⟨11, pc89_r, pc89_c5, false⟩
def pc89_a : Ann := {
  kr := fun
    | _ => none
  ka := fun
    | _ => 0
  kh := fun
    | _ => none
  ow := fun t => match t with
    | 64 => [(1, 5, 1)]
    | _ => []
  tc := fun t => match t with
    | 64 => true
    | _ => false }
theorem pc89_ok : compFn Try.prog pc89_a Try.f89 = some pc89 := by kernel_rfl


-- 88: vedette/fields.IsDelta
def pc88_o1 : List POper := [zo 1 (.box 124 (.tmp 0) []),
  zo 2 (.mv (.const (.bool false)))]
def pc88_c1 : PCode := .region none false pc88_o1
def pc88_o2 : List POper := [zo 5 (.faddr 0 (.tmp 1)),
  zo 6 (.load false 1 (.tmp 5)),
  zo 7 (.prim (.bin .lss 3 false true) [.tmp 6, .const (.int .i64 0)]),
  zo 8 (.mv (.tmp 7)),
  ⟨some 9, .faddr 0 (.tmp 1), some (8, false), []⟩,
  ⟨some 10, .load false 1 (.tmp 9), some (8, false), []⟩,
  ⟨some 11, .prim (.bin .gtr 3 false true) [.tmp 10, .const (.int .i64 1000000)], some (8, false), []⟩,
  zo 12 (.pick (.tmp 8) (.const (.bool true)) (.tmp 11)),
  zo 13 (.mv (.tmp 12)),
  ⟨some 14, .faddr 1 (.tmp 1), some (13, false), []⟩,
  ⟨some 15, .load false 1 (.tmp 14), some (13, false), []⟩,
  ⟨some 16, .prim (.bin .eql 5 false true) [.tmp 15, .const (.int .u8 0)], some (13, false), []⟩,
  zo 17 (.pick (.tmp 13) (.const (.bool true)) (.tmp 16)),
  zo 18 (.mv (.tmp 17)),
  ⟨some 19, .faddr 1 (.tmp 1), some (18, false), []⟩,
  ⟨some 20, .load false 1 (.tmp 19), some (18, false), []⟩,
  ⟨some 21, .prim (.bin .gtr 5 false true) [.tmp 20, .const (.int .u8 31)], some (18, false), []⟩,
  zo 22 (.pick (.tmp 18) (.const (.bool true)) (.tmp 21))]
def pc88_c2 : PCode := .region none false pc88_o2
def pc88_o3 : List POper := [zo 2 (.mv (.const (.bool false)))]
def pc88_c3 : PCode := .region none false pc88_o3
def pc88_c4 : PCode := .ret
def pc88_c5 : PCode := .seq pc88_c3 pc88_c4
def pc88_c6 : PCode := .skip
def pc88_c7 : PCode := .cond (.tmp 22) pc88_c5 pc88_c6
def pc88_c8 : PCode := .seq pc88_c2 pc88_c7
def pc88_o9 : List POper := [zo 23 (.faddr 1 (.tmp 1)),
  zo 24 (.load false 1 (.tmp 23)),
  zo 25 (.prim (.bin .and 5 false true) [.tmp 24, .const (.int .u8 1)]),
  zo 26 (.prim (.bin .eql 5 false true) [.tmp 25, .const (.int .u8 0)]),
  zo 27 (.mv (.tmp 26)),
  ⟨some 28, .faddr 2 (.tmp 1), some (27, true), []⟩,
  ⟨some 29, .load true 2 (.tmp 28), some (27, true), []⟩,
  ⟨some 30, .build (.agg { toList := [.int .i64 0, .int .i64 0] }) [], some (27, true), []⟩,
  ⟨some 31, .prim (.bin .neq 46 false false) [.tmp 29, .tmp 30], some (27, true), []⟩,
  zo 32 (.pick (.tmp 27) (.tmp 31) (.const (.bool false))),
  zo 33 (.mv (.tmp 32)),
  ⟨some 34, .faddr 2 (.tmp 1), some (33, false), []⟩,
  ⟨some 35, .load true 2 (.tmp 34), some (33, false), []⟩,
  ⟨some 36, .call true [[]] 78 [.tmp 35], some (33, false), []⟩,
  ⟨some 37, .prim (.un .not) [.tmp 36], some (33, false), []⟩,
  zo 38 (.pick (.tmp 33) (.const (.bool true)) (.tmp 37))]
def pc88_c9 : PCode := .region none false pc88_o9
def pc88_o10 : List POper := [zo 2 (.mv (.const (.bool false)))]
def pc88_c10 : PCode := .region none false pc88_o10
def pc88_c11 : PCode := .ret
def pc88_c12 : PCode := .seq pc88_c10 pc88_c11
def pc88_c13 : PCode := .skip
def pc88_c14 : PCode := .cond (.tmp 38) pc88_c12 pc88_c13
def pc88_c15 : PCode := .seq pc88_c9 pc88_c14
def pc88_o16 : List POper := [zo 39 (.faddr 4 (.tmp 1)),
  zo 40 (.load true 8 (.tmp 39)),
  zo 41 (.mv (.const (.int .i64 0)))]
def pc88_c16 : PCode := .region (some ([1], [1], [])) false pc88_o16
def pc88_o17 : List POper := [zo 42 (.prim (.bin .lss 3 false true) [.tmp 41, .const (.int .i64 4)])]
def pc88_c17 : PCode := .region (some ([1, 40, 41], [1, 4], [])) false pc88_o17
def pc88_c18 : PCode := .skip
def pc88_c19 : PCode := .exit 0
def pc88_c20 : PCode := .cond (.tmp 42) pc88_c18 pc88_c19
def pc88_o21 : List POper := [zo 43 (.mv (.tmp 41)),
  zo 44 (.idx true 2 4 (.tmp 40) (.tmp 41)),
  zo 4 (.alloc 48 (.agg { toList := [.int .i64 0, .string { data := { toList := [] } }] }) []),
  zo 3 (.mv (.tmp 43)),
  ⟨none, .store 2 (.tmp 4) (.tmp 44), none, []⟩]
def pc88_c21 : PCode := .region none false pc88_o21
def pc88_o22 : List POper := [zo 45 (.load true 2 (.tmp 4)),
  zo 46 (.call true [[]] 60 [.tmp 45]),
  zo 47 (.prim (.un .not) [.tmp 46]),
  zo 48 (.mv (.tmp 47)),
  ⟨some 49, .faddr 1 (.tmp 1), some (48, false), []⟩,
  ⟨some 50, .load false 1 (.tmp 49), some (48, false), []⟩,
  ⟨some 51, .mv (.tmp 3), some (48, false), []⟩,
  ⟨some 52, .call true [[], []] 89 [.tmp 50, .tmp 51], some (48, false), []⟩,
  ⟨some 53, .prim (.un .not) [.tmp 52], some (48, false), []⟩,
  ⟨some 54, .mv (.tmp 53), some (48, false), []⟩,
  ⟨some 55, .load true 2 (.tmp 4), some (54, true), []⟩,
  ⟨some 56, .build (.agg { toList := [.int .i64 0, .string { data := { toList := [] } }] }) [], some (54, true), []⟩,
  ⟨some 57, .prim (.bin .neq 48 false false) [.tmp 55, .tmp 56], some (54, true), []⟩,
  ⟨some 58, .pick (.tmp 54) (.tmp 57) (.const (.bool false)), some (48, false), []⟩,
  zo 59 (.pick (.tmp 48) (.const (.bool true)) (.tmp 58))]
def pc88_c22 : PCode := .region none false pc88_o22
def pc88_o23 : List POper := [zo 2 (.mv (.const (.bool false)))]
def pc88_c23 : PCode := .region none false pc88_o23
def pc88_c24 : PCode := .ret
def pc88_c25 : PCode := .seq pc88_c23 pc88_c24
def pc88_c26 : PCode := .skip
def pc88_c27 : PCode := .cond (.tmp 59) pc88_c25 pc88_c26
def pc88_c28 : PCode := .seq pc88_c22 pc88_c27
def pc88_c29 : PCode := .seq pc88_c21 pc88_c28
def pc88_c30 : PCode := .block 1 pc88_c29
def pc88_o31 : List POper := [zo 60 (.prim (.bin .add 3 false true) [.tmp 41, .const (.int .i64 1)]),
  zo 41 (.mv (.tmp 60))]
def pc88_c31 : PCode := .region none false pc88_o31
def pc88_c32 : PCode := .seq pc88_c30 pc88_c31
def pc88_c33 : PCode := .seq pc88_c20 pc88_c32
def pc88_c34 : PCode := .seq pc88_c17 pc88_c33
def pc88_c35 : PCode := .loop pc88_c34
def pc88_c36 : PCode := .block 0 pc88_c35
def pc88_c37 : PCode := .seq pc88_c16 pc88_c36
def pc88_o38 : List POper := [zo 2 (.mv (.const (.bool true)))]
def pc88_c38 : PCode := .region none false pc88_o38
def pc88_c39 : PCode := .ret
def pc88_c40 : PCode := .seq pc88_c38 pc88_c39
def pc88_c41 : PCode := .seq pc88_c37 pc88_c40
def pc88_c42 : PCode := .seq pc88_c15 pc88_c41
def pc88_c43 : PCode := .seq pc88_c8 pc88_c42
def pc88_c44 : PCode := .seq pc88_c1 pc88_c43
def pc88_r : List PRes := [PRes.tmp 2 []]
def pc88 : PFunc := ⟨61, pc88_r, pc88_c44, false⟩
def pc88_a : Ann := {
  kr := fun
    | 5 => some ([1], [1], [])
    | 6 => some ([1, 40, 41], [1, 4], [])
    | _ => none
  ka := fun
    | _ => 0
  kh := fun
    | _ => none
  ow := fun t => match t with
    | 64 => [(1, 5, 1)]
    | _ => []
  tc := fun t => match t with
    | 64 => true
    | _ => false }
theorem pc88_ok : compFn Try.prog pc88_a Try.f88 = some pc88 := by kernel_rfl


-- 75: vedette/fields.Bytes
def pc75_o1 : List POper := [zo 1 (.box 124 (.tmp 0) []),
  zo 2 (.mv (.const (.string { data := { toList := [] } }))),
  zo 3 (.mv (.const (.int .i64 0)))]
def pc75_c1 : PCode := .region none false pc75_o1
def pc75_o2 : List POper := [zo 7 (.load true 12 (.tmp 1)),
  zo 8 (.call true [[]] 88 [.tmp 7]),
  zo 9 (.prim (.un .not) [.tmp 8])]
def pc75_c2 : PCode := .region none false pc75_o2
def pc75_o3 : List POper := [zo 2 (.mv (.const (.string { data := { toList := [] } }))),
  zo 3 (.mv (.const (.int .i64 11)))]
def pc75_c3 : PCode := .region none false pc75_o3
def pc75_c4 : PCode := .ret
def pc75_c5 : PCode := .seq pc75_c3 pc75_c4
def pc75_c6 : PCode := .skip
def pc75_c7 : PCode := .cond (.tmp 9) pc75_c5 pc75_c6
def pc75_c8 : PCode := .seq pc75_c2 pc75_c7
def pc75_o9 : List POper := [⟨some 10, .faddr 0 (.tmp 1), none, [(1, .at_ 1 0)]⟩,
  ⟨some 11, .load false 1 (.tmp 10), none, [(10, .at_ 1 0)]⟩,
  ⟨some 12, .prim (.conv 3 38) [.tmp 11], none, [(11, .imm)]⟩,
  ⟨some 13, .call false [[]] 20 [.tmp 12], none, [(12, .imm)]⟩,
  ⟨some 14, .faddr 1 (.tmp 1), none, [(1, .at_ 1 0)]⟩,
  ⟨some 15, .load false 1 (.tmp 14), none, [(14, .at_ 1 1)]⟩,
  ⟨some 16, .prim (.conv 5 38) [.tmp 15], none, [(15, .imm)]⟩,
  ⟨some 17, .call false [[]] 20 [.tmp 16], none, [(16, .imm)]⟩,
  ⟨some 18, .prim (.bin .add 9 false false) [.tmp 13, .tmp 17], none, [(13, .imm), (17, .imm)]⟩,
  ⟨some 4, .mv (.tmp 18), none, [(18, .imm)]⟩]
def pc75_c9 : PCode := .region none true pc75_o9
def pc75_o10 : List POper := [zo 19 (.faddr 1 (.tmp 1)),
  zo 20 (.load false 1 (.tmp 19)),
  zo 21 (.prim (.bin .and 5 false true) [.tmp 20, .const (.int .u8 1)]),
  zo 22 (.prim (.bin .neq 5 false true) [.tmp 21, .const (.int .u8 0)])]
def pc75_c10 : PCode := .region none false pc75_o10
def pc75_o11 : List POper := [⟨some 23, .mv (.tmp 4), none, [(4, .imm)]⟩,
  ⟨some 24, .faddr 2 (.tmp 1), none, [(1, .at_ 1 0)]⟩,
  ⟨some 25, .faddr 0 (.tmp 24), none, [(24, .at_ 1 2)]⟩,
  ⟨some 26, .load false 1 (.tmp 25), none, [(25, .at_ 1 2)]⟩,
  ⟨some 27, .prim (.conv 3 38) [.tmp 26], none, [(26, .imm)]⟩,
  ⟨some 28, .call false [[]] 20 [.tmp 27], none, [(27, .imm)]⟩,
  ⟨some 29, .faddr 2 (.tmp 1), none, [(1, .at_ 1 0)]⟩,
  ⟨some 30, .faddr 1 (.tmp 29), none, [(29, .at_ 1 2)]⟩,
  ⟨some 31, .load false 1 (.tmp 30), none, [(30, .at_ 1 3)]⟩,
  ⟨some 32, .prim (.conv 3 38) [.tmp 31], none, [(31, .imm)]⟩,
  ⟨some 33, .call false [[]] 20 [.tmp 32], none, [(32, .imm)]⟩,
  ⟨some 34, .prim (.bin .add 9 false false) [.tmp 28, .tmp 33], none, [(28, .imm), (33, .imm)]⟩,
  ⟨some 35, .prim (.bin .add 9 false false) [.tmp 23, .tmp 34], none, [(23, .imm), (34, .imm)]⟩,
  ⟨some 4, .mv (.tmp 35), none, [(35, .imm)]⟩]
def pc75_c11 : PCode := .region none true pc75_o11
def pc75_c12 : PCode := .skip
def pc75_c13 : PCode := .cond (.tmp 22) pc75_c11 pc75_c12
def pc75_c14 : PCode := .seq pc75_c10 pc75_c13
def pc75_o15 : List POper := [zo 36 (.faddr 4 (.tmp 1)),
  zo 37 (.load true 8 (.tmp 36)),
  zo 38 (.mv (.const (.int .i64 0)))]
def pc75_c15 : PCode := .region (some ([1, 4], [1], [])) false pc75_o15
def pc75_o16 : List POper := [zo 39 (.prim (.bin .lss 3 false true) [.tmp 38, .const (.int .i64 4)])]
def pc75_c16 : PCode := .region (some ([1, 4, 37, 38], [1, 6], [])) false pc75_o16
def pc75_c17 : PCode := .skip
def pc75_c18 : PCode := .exit 0
def pc75_c19 : PCode := .cond (.tmp 39) pc75_c17 pc75_c18
def pc75_o20 : List POper := [zo 40 (.mv (.tmp 38)),
  zo 41 (.idx true 2 4 (.tmp 37) (.tmp 38)),
  zo 6 (.alloc 48 (.agg { toList := [.int .i64 0, .string { data := { toList := [] } }] }) []),
  zo 5 (.mv (.tmp 40)),
  ⟨none, .store 2 (.tmp 6) (.tmp 41), none, []⟩]
def pc75_c20 : PCode := .region none false pc75_o20
def pc75_o21 : List POper := [zo 42 (.faddr 1 (.tmp 1)),
  zo 43 (.load false 1 (.tmp 42)),
  zo 44 (.mv (.tmp 5)),
  zo 45 (.call true [[], []] 89 [.tmp 43, .tmp 44]),
  zo 46 (.prim (.un .not) [.tmp 45])]
def pc75_c21 : PCode := .region none false pc75_o21
def pc75_c22 : PCode := .exit 1
def pc75_c23 : PCode := .skip
def pc75_c24 : PCode := .cond (.tmp 46) pc75_c22 pc75_c23
def pc75_c25 : PCode := .seq pc75_c21 pc75_c24
def pc75_o26 : List POper := [zo 47 (.mv (.tmp 4)),
  zo 48 (.faddr 1 (.tmp 6)),
  zo 49 (.load false 1 (.tmp 48)),
  zo 50 (.call true [[]] 49 [.tmp 49]),
  zo 51 (.prim (.bin .add 9 false false) [.tmp 47, .tmp 50]),
  zo 4 (.mv (.tmp 51))]
def pc75_c26 : PCode := .region none false pc75_o26
def pc75_o27 : List POper := [zo 52 (.faddr 1 (.tmp 6)),
  zo 53 (.load false 1 (.tmp 52)),
  zo 54 (.prim (.bin .eql 9 false true) [.tmp 53, .const (.string { data := { toList := [] } })])]
def pc75_c27 : PCode := .region none false pc75_o27
def pc75_o28 : List POper := [zo 55 (.mv (.tmp 4)),
  zo 56 (.faddr 0 (.tmp 6)),
  zo 57 (.load false 1 (.tmp 56)),
  zo 58 (.call true [[]] 46 [.tmp 57]),
  zo 59 (.prim (.bin .add 9 false false) [.tmp 55, .tmp 58]),
  zo 4 (.mv (.tmp 59))]
def pc75_c28 : PCode := .region none false pc75_o28
def pc75_c29 : PCode := .skip
def pc75_c30 : PCode := .cond (.tmp 54) pc75_c28 pc75_c29
def pc75_c31 : PCode := .seq pc75_c27 pc75_c30
def pc75_c32 : PCode := .seq pc75_c26 pc75_c31
def pc75_c33 : PCode := .seq pc75_c25 pc75_c32
def pc75_c34 : PCode := .seq pc75_c20 pc75_c33
def pc75_c35 : PCode := .block 1 pc75_c34
def pc75_o36 : List POper := [zo 60 (.prim (.bin .add 3 false true) [.tmp 38, .const (.int .i64 1)]),
  zo 38 (.mv (.tmp 60))]
def pc75_c36 : PCode := .region none false pc75_o36
def pc75_c37 : PCode := .seq pc75_c35 pc75_c36
def pc75_c38 : PCode := .seq pc75_c19 pc75_c37
def pc75_c39 : PCode := .seq pc75_c16 pc75_c38
def pc75_c40 : PCode := .loop pc75_c39
def pc75_c41 : PCode := .block 0 pc75_c40
def pc75_c42 : PCode := .seq pc75_c15 pc75_c41
def pc75_o43 : List POper := [zo 61 (.mv (.tmp 4)),
  zo 2 (.mv (.tmp 61)),
  zo 3 (.mv (.const (.int .i64 0)))]
def pc75_c43 : PCode := .region none false pc75_o43
def pc75_c44 : PCode := .ret
def pc75_c45 : PCode := .seq pc75_c43 pc75_c44
def pc75_c46 : PCode := .seq pc75_c42 pc75_c45
def pc75_c47 : PCode := .seq pc75_c14 pc75_c46
def pc75_c48 : PCode := .seq pc75_c9 pc75_c47
def pc75_c49 : PCode := .seq pc75_c8 pc75_c48
def pc75_c50 : PCode := .seq pc75_c1 pc75_c49
def pc75_r : List PRes := [PRes.tmp 2 [], PRes.tmp 3 []]
def pc75 : PFunc := ⟨62, pc75_r, pc75_c50, false⟩
def pc75_a : Ann := {
  kr := fun
    | 6 => some ([1, 4], [1], [])
    | 7 => some ([1, 4, 37, 38], [1, 6], [])
    | _ => none
  ka := fun
    | _ => 0
  kh := fun
    | 1 => some (.at_ 1 0)
    | 4 => some (.imm)
    | 10 => some (.at_ 1 0)
    | 11 => some (.imm)
    | 12 => some (.imm)
    | 13 => some (.imm)
    | 14 => some (.at_ 1 1)
    | 15 => some (.imm)
    | 16 => some (.imm)
    | 17 => some (.imm)
    | 18 => some (.imm)
    | 23 => some (.imm)
    | 24 => some (.at_ 1 2)
    | 25 => some (.at_ 1 2)
    | 26 => some (.imm)
    | 27 => some (.imm)
    | 28 => some (.imm)
    | 29 => some (.at_ 1 2)
    | 30 => some (.at_ 1 3)
    | 31 => some (.imm)
    | 32 => some (.imm)
    | 33 => some (.imm)
    | 34 => some (.imm)
    | 35 => some (.imm)
    | _ => none
  ow := fun t => match t with
    | 64 => [(1, 5, 1)]
    | _ => []
  tc := fun t => match t with
    | 64 => true
    | _ => false }
theorem pc75_ok : compFn Try.prog pc75_a Try.f75 = some pc75 := by kernel_rfl


-- 44: vedette/thing.Bytes
def pc44_o1 : List POper := [zo 1 (.box 55 (.tmp 0) []),
  zo 2 (.mv (.const (.string { data := { toList := [] } }))),
  zo 3 (.mv (.const (.int .i64 0)))]
def pc44_c1 : PCode := .region none false pc44_o1
def pc44_o2 : List POper := [zo 4 (.load true 11 (.tmp 1)),
  zo 5 (.call true [[]] 67 [.tmp 4]),
  zo 6 (.prim (.un .not) [.tmp 5])]
def pc44_c2 : PCode := .region none false pc44_o2
def pc44_o3 : List POper := [zo 2 (.mv (.const (.string { data := { toList := [] } }))),
  zo 3 (.mv (.const (.int .i64 11)))]
def pc44_c3 : PCode := .region none false pc44_o3
def pc44_c4 : PCode := .ret
def pc44_c5 : PCode := .seq pc44_c3 pc44_c4
def pc44_c6 : PCode := .skip
def pc44_c7 : PCode := .cond (.tmp 6) pc44_c5 pc44_c6
def pc44_c8 : PCode := .seq pc44_c2 pc44_c7
def pc44_o9 : List POper := [zo 7 (.faddr 0 (.tmp 1)),
  zo 8 (.load false 1 (.tmp 7)),
  zo 9 (.faddr 1 (.tmp 1)),
  zo 10 (.load true 2 (.tmp 9)),
  zo 11 (.faddr 3 (.tmp 1)),
  zo 12 (.load true 8 (.tmp 11)),
  zo 13 (.build (.agg { toList := [.int .i64 0, .int .u8 0, .int .i64 0, .int .i64 0, .int .i64 0, .string { data := { toList := [] } }, .int .i64 0, .string { data := { toList := [] } }, .int .i64 0, .string { data := { toList := [] } }, .int .i64 0, .string { data := { toList := [] } }] }) [(0, 1, .tmp 8), (1, 1, .const (.int .u8 31)), (2, 2, .tmp 10), (4, 8, .tmp 12)]),
  zo 14 (.call true [[]] 75 [.tmp 13]),
  zo 15 (.ext (.tmp 14) 0),
  zo 16 (.ext (.tmp 14) 1),
  zo 2 (.mv (.tmp 15)),
  zo 3 (.mv (.tmp 16))]
def pc44_c9 : PCode := .region none false pc44_o9
def pc44_c10 : PCode := .ret
def pc44_c11 : PCode := .seq pc44_c9 pc44_c10
def pc44_c12 : PCode := .seq pc44_c8 pc44_c11
def pc44_c13 : PCode := .seq pc44_c1 pc44_c12
def pc44_r : List PRes := [PRes.tmp 2 [], PRes.tmp 3 []]
def pc44 : PFunc := ⟨17, pc44_r, pc44_c13, false⟩
def pc44_a : Ann := {
  kr := fun
    | _ => none
  ka := fun
    | _ => 0
  kh := fun
    | _ => none
  ow := fun t => match t with
    | 64 => [(1, 5, 1)]
    | _ => []
  tc := fun t => match t with
    | 64 => true
    | _ => false }
theorem pc44_ok : compFn Try.prog pc44_a Try.f44 = some pc44 := by kernel_rfl


-- 18: vedette/thing.All
def pc18_o1 : List POper := [zo 2 (.mv (.const (.string { data := { toList := [] } }))),
  zo 3 (.mv (.const (.int .i64 0)))]
def pc18_c1 : PCode := .region none false pc18_o1
def pc18_o2 : List POper := [zo 9 (.mv (.tmp 0)),
  zo 10 (.lenS (.tmp 9)),
  zo 11 (.prim (.bin .gtr 3 false true) [.tmp 10, .const (.int .i64 200)])]
def pc18_c2 : PCode := .region none false pc18_o2
def pc18_o3 : List POper := [zo 2 (.mv (.const (.string { data := { toList := [] } }))),
  zo 3 (.mv (.const (.int .i64 13)))]
def pc18_c3 : PCode := .region none false pc18_o3
def pc18_c4 : PCode := .ret
def pc18_c5 : PCode := .seq pc18_c3 pc18_c4
def pc18_c6 : PCode := .skip
def pc18_c7 : PCode := .cond (.tmp 11) pc18_c5 pc18_c6
def pc18_c8 : PCode := .seq pc18_c2 pc18_c7
def pc18_o9 : List POper := [zo 4 (.allocT 64 (.agg { toList := [.pointer none, .slice none 0 0] }) [(1, 5, 1)])]
def pc18_c9 : PCode := .region none false pc18_o9
def pc18_o10 : List POper := [zo 12 (.mv (.tmp 0)),
  zo 13 (.lenS (.tmp 12)),
  zo 14 (.prim (.conv 3 38) [.tmp 13]),
  zo 15 (.call true [[]] 20 [.tmp 14]),
  zo 16 (.gcall false false [4, 300000, 300001, 300002, 300003, 300004, 300005, 300006, 300007, 400032] [[(1, 1)], []] 19 [.tmp 4, .tmp 15])]
def pc18_c10 : PCode := .region none false pc18_o10
def pc18_o11 : List POper := [zo 17 (.mv (.tmp 0)),
  zo 18 (.lenS (.tmp 17)),
  zo 19 (.mv (.const (.int .i64 0)))]
def pc18_c11 : PCode := .region none false pc18_o11
def pc18_o12 : List POper := [zo 20 (.prim (.bin .lss 3 false false) [.tmp 19, .tmp 18])]
def pc18_c12 : PCode := .region (some ([0, 4, 17, 18, 19], [4, 6, 400032], [])) false pc18_o12
def pc18_c13 : PCode := .skip
def pc18_c14 : PCode := .exit 0
def pc18_c15 : PCode := .cond (.tmp 20) pc18_c13 pc18_c14
def pc18_o16 : List POper := [zo 21 (.mv (.tmp 19)),
  zo 22 (.iaddrS 11 (.tmp 17) (.tmp 19)),
  zo 23 (.load true 11 (.tmp 22)),
  zo 6 (.alloc 55 (.agg { toList := [.int .i64 0, .int .i64 0, .int .i64 0, .int .i64 0, .string { data := { toList := [] } }, .int .i64 0, .string { data := { toList := [] } }, .int .i64 0, .string { data := { toList := [] } }, .int .i64 0, .string { data := { toList := [] } }] }) []),
  zo 5 (.mv (.tmp 21)),
  ⟨none, .store 11 (.tmp 6) (.tmp 23), none, []⟩]
def pc18_c16 : PCode := .region none false pc18_o16
def pc18_o17 : List POper := [zo 25 (.load true 11 (.tmp 6)),
  zo 26 (.call true [[]] 44 [.tmp 25]),
  zo 24 (.mv (.tmp 26)),
  zo 27 (.ext (.tmp 24) 0),
  zo 28 (.ext (.tmp 24) 1),
  zo 7 (.mv (.tmp 27)),
  zo 8 (.mv (.tmp 28))]
def pc18_c17 : PCode := .region none false pc18_o17
def pc18_o18 : List POper := [⟨some 29, .mv (.tmp 8), none, [(8, .imm)]⟩,
  ⟨some 30, .prim (.bin .neq 29 false true) [.tmp 29, .const (.int .i64 0)], none, [(29, .imm)]⟩,
  ⟨some 31, .mv (.tmp 30), none, [(30, .imm)]⟩,
  ⟨some 32, .mv (.tmp 5), some (31, false), [(5, .imm)]⟩,
  ⟨some 33, .prim (.bin .gtr 3 false true) [.tmp 32, .const (.int .i64 0)], some (31, false), [(32, .imm)]⟩,
  ⟨some 34, .mv (.tmp 33), some (31, false), [(33, .imm)]⟩,
  ⟨some 35, .faddr 0 (.tmp 6), some (34, true), [(6, .at_ 6 0)]⟩,
  ⟨some 36, .load false 1 (.tmp 35), some (34, true), [(35, .at_ 6 0)]⟩,
  ⟨some 37, .mv (.tmp 0), some (34, true), [(0, .imm)]⟩,
  ⟨some 38, .mv (.tmp 5), some (34, true), [(5, .imm)]⟩,
  ⟨some 39, .prim (.bin .sub 3 false true) [.tmp 38, .const (.int .i64 1)], some (34, true), [(38, .imm)]⟩,
  ⟨some 40, .iaddrS 11 (.tmp 37) (.tmp 39), some (34, true), [(37, .imm), (39, .imm)]⟩,
  ⟨some 41, .faddr 0 (.tmp 40), some (34, true), [(40, .imm)]⟩,
  ⟨some 42, .load false 1 (.tmp 41), some (34, true), [(41, .imm)]⟩,
  ⟨some 43, .prim (.bin .leq 3 false false) [.tmp 36, .tmp 42], some (34, true), [(36, .imm), (42, .imm)]⟩,
  ⟨some 44, .pick (.tmp 34) (.tmp 43) (.const (.bool false)), some (31, false), [(34, .imm), (43, .imm)]⟩,
  ⟨some 45, .pick (.tmp 31) (.const (.bool true)) (.tmp 44), none, [(31, .imm), (44, .imm)]⟩]
def pc18_c18 : PCode := .region none true pc18_o18
def pc18_o19 : List POper := [zo 2 (.mv (.const (.string { data := { toList := [] } }))),
  zo 3 (.mv (.const (.int .i64 11)))]
def pc18_c19 : PCode := .region none false pc18_o19
def pc18_c20 : PCode := .ret
def pc18_c21 : PCode := .seq pc18_c19 pc18_c20
def pc18_c22 : PCode := .skip
def pc18_c23 : PCode := .cond (.tmp 45) pc18_c21 pc18_c22
def pc18_c24 : PCode := .seq pc18_c18 pc18_c23
def pc18_o25 : List POper := [zo 46 (.mv (.tmp 7)),
  zo 47 (.gcall false false [4, 300000, 300001, 300002, 300003, 300004, 300005, 300006, 300007, 400032] [[(1, 1)], []] 19 [.tmp 4, .tmp 46])]
def pc18_c25 : PCode := .region none false pc18_o25
def pc18_c26 : PCode := .seq pc18_c24 pc18_c25
def pc18_c27 : PCode := .seq pc18_c17 pc18_c26
def pc18_c28 : PCode := .seq pc18_c16 pc18_c27
def pc18_c29 : PCode := .block 1 pc18_c28
def pc18_o30 : List POper := [zo 48 (.prim (.bin .add 3 false true) [.tmp 19, .const (.int .i64 1)]),
  zo 19 (.mv (.tmp 48))]
def pc18_c30 : PCode := .region none false pc18_o30
def pc18_c31 : PCode := .seq pc18_c29 pc18_c30
def pc18_c32 : PCode := .seq pc18_c15 pc18_c31
def pc18_c33 : PCode := .seq pc18_c12 pc18_c32
def pc18_c34 : PCode := .loop pc18_c33
def pc18_c35 : PCode := .block 0 pc18_c34
def pc18_c36 : PCode := .seq pc18_c11 pc18_c35
def pc18_o37 : List POper := [zo 49 (.gcall false false [4, 300000, 300001, 300002, 300003, 300004, 300005, 300006, 300007, 400032] [[(1, 1)]] 24 [.tmp 4]),
  zo 2 (.mv (.tmp 49)),
  zo 3 (.mv (.const (.int .i64 0)))]
def pc18_c37 : PCode := .region none false pc18_o37
def pc18_c38 : PCode := .ret
def pc18_c39 : PCode := .seq pc18_c37 pc18_c38
def pc18_c40 : PCode := .seq pc18_c36 pc18_c39
def pc18_c41 : PCode := .seq pc18_c10 pc18_c40
def pc18_c42 : PCode := .seq pc18_c9 pc18_c41
def pc18_c43 : PCode := .seq pc18_c8 pc18_c42
def pc18_c44 : PCode := .seq pc18_c1 pc18_c43
def pc18_r : List PRes := [PRes.tmp 2 [], PRes.tmp 3 []]
def pc18 : PFunc := ⟨50, pc18_r, pc18_c44, false⟩
def pc18_a : Ann := {
  kr := fun
    | 6 => some ([0, 4, 17, 18, 19], [4, 6, 400032], [])
    | _ => none
  ka := fun
    | _ => 0
  kh := fun
    | 0 => some (.imm)
    | 5 => some (.imm)
    | 6 => some (.at_ 6 0)
    | 8 => some (.imm)
    | 29 => some (.imm)
    | 30 => some (.imm)
    | 31 => some (.imm)
    | 32 => some (.imm)
    | 33 => some (.imm)
    | 34 => some (.imm)
    | 35 => some (.at_ 6 0)
    | 36 => some (.imm)
    | 37 => some (.imm)
    | 38 => some (.imm)
    | 39 => some (.imm)
    | 40 => some (.imm)
    | 41 => some (.imm)
    | 42 => some (.imm)
    | 43 => some (.imm)
    | 44 => some (.imm)
    | _ => none
  gf := fun d f => match d, f with
    | some 16, 19 => some (false, false, [4, 300000, 300001, 300002, 300003, 300004, 300005, 300006, 300007, 400032])
    | some 47, 19 => some (false, false, [4, 300000, 300001, 300002, 300003, 300004, 300005, 300006, 300007, 400032])
    | some 49, 24 => some (false, false, [4, 300000, 300001, 300002, 300003, 300004, 300005, 300006, 300007, 400032])
    | _, _ => none
  ow := fun t => match t with
    | 64 => [(1, 5, 1)]
    | _ => []
  tc := fun t => match t with
    | 64 => true
    | _ => false }
theorem pc18_ok : compFn Try.prog pc18_a Try.f18 = some pc18 := by kernel_rfl


-- 47: vedette/cmd.parts
def pc47_o1 : List POper := [zo 2 (.mv (.const (.slice none 0 0)))]
def pc47_c1 : PCode := .region none false pc47_o1
def pc47_o2 : List POper := [zo 3 (.mv (.tmp 0)),
  zo 4 (.nilc (.tmp 3)),
  zo 5 (.faddr 0 (.tmp 4)),
  zo 6 (.load false 1 (.tmp 5))]
def pc47_c2 : PCode := .region none false pc47_o2
def pc47_o3 : List POper := [zo 8 (.prim (.bin .eql 3 false true) [.tmp 6, .const (.int .i64 1)]),
  zo 7 (.mv (.tmp 8))]
def pc47_c3 : PCode := .region none false pc47_o3
def pc47_o4 : List POper := [⟨some 9, .mv (.tmp 0), none, [(0, .at_ 1000000 0)]⟩,
  ⟨some 10, .nilc (.tmp 9), none, [(9, .at_ 1000000 0)]⟩,
  ⟨some 11, .faddr 4 (.tmp 10), none, [(10, .at_ 1000000 0)]⟩,
  ⟨some 12, .faddr 0 (.tmp 11), none, [(11, .at_ 1000000 4)]⟩,
  ⟨some 13, .mv (.tmp 0), none, [(0, .at_ 1000000 0)]⟩,
  ⟨some 14, .nilc (.tmp 13), none, [(13, .at_ 1000000 0)]⟩,
  ⟨some 15, .faddr 4 (.tmp 14), none, [(14, .at_ 1000000 0)]⟩,
  ⟨some 16, .faddr 1 (.tmp 15), none, [(15, .at_ 1000000 4)]⟩,
  ⟨some 17, .bptrs 1 [.tmp 12, .tmp 16], none, [(12, .at_ 1000000 4), (16, .at_ 1000000 5)]⟩,
  ⟨some 2, .mv (.tmp 17), none, [(17, .obj 17)]⟩]
def pc47_c4 : PCode := .region none true pc47_o4
def pc47_c5 : PCode := .ret
def pc47_c6 : PCode := .seq pc47_c4 pc47_c5
def pc47_o7 : List POper := [zo 19 (.prim (.bin .eql 3 false true) [.tmp 6, .const (.int .i64 2)]),
  zo 18 (.mv (.tmp 19))]
def pc47_c7 : PCode := .region none false pc47_o7
def pc47_o8 : List POper := [⟨some 20, .mv (.tmp 0), none, [(0, .at_ 1000000 0)]⟩,
  ⟨some 21, .nilc (.tmp 20), none, [(20, .at_ 1000000 0)]⟩,
  ⟨some 22, .faddr 1 (.tmp 21), none, [(21, .at_ 1000000 0)]⟩,
  ⟨some 23, .mv (.tmp 0), none, [(0, .at_ 1000000 0)]⟩,
  ⟨some 24, .nilc (.tmp 23), none, [(23, .at_ 1000000 0)]⟩,
  ⟨some 25, .faddr 4 (.tmp 24), none, [(24, .at_ 1000000 0)]⟩,
  ⟨some 26, .faddr 0 (.tmp 25), none, [(25, .at_ 1000000 4)]⟩,
  ⟨some 27, .mv (.tmp 0), none, [(0, .at_ 1000000 0)]⟩,
  ⟨some 28, .nilc (.tmp 27), none, [(27, .at_ 1000000 0)]⟩,
  ⟨some 29, .faddr 4 (.tmp 28), none, [(28, .at_ 1000000 0)]⟩,
  ⟨some 30, .faddr 1 (.tmp 29), none, [(29, .at_ 1000000 4)]⟩,
  ⟨some 31, .bptrs 1 [.tmp 22, .tmp 26, .tmp 30], none, [(22, .at_ 1000000 1), (26, .at_ 1000000 4), (30, .at_ 1000000 5)]⟩,
  ⟨some 2, .mv (.tmp 31), none, [(31, .obj 31)]⟩]
def pc47_c8 : PCode := .region none true pc47_o8
def pc47_c9 : PCode := .ret
def pc47_c10 : PCode := .seq pc47_c8 pc47_c9
def pc47_o11 : List POper := [zo 33 (.prim (.bin .eql 3 false true) [.tmp 6, .const (.int .i64 3)]),
  zo 32 (.mv (.tmp 33))]
def pc47_c11 : PCode := .region none false pc47_o11
def pc47_o12 : List POper := [⟨some 34, .mv (.tmp 0), none, [(0, .at_ 1000000 0)]⟩,
  ⟨some 35, .nilc (.tmp 34), none, [(34, .at_ 1000000 0)]⟩,
  ⟨some 36, .faddr 1 (.tmp 35), none, [(35, .at_ 1000000 0)]⟩,
  ⟨some 37, .mv (.tmp 0), none, [(0, .at_ 1000000 0)]⟩,
  ⟨some 38, .nilc (.tmp 37), none, [(37, .at_ 1000000 0)]⟩,
  ⟨some 39, .faddr 2 (.tmp 38), none, [(38, .at_ 1000000 0)]⟩,
  ⟨some 40, .bptrs 1 [.tmp 36, .tmp 39], none, [(36, .at_ 1000000 1), (39, .at_ 1000000 2)]⟩,
  ⟨some 2, .mv (.tmp 40), none, [(40, .obj 40)]⟩]
def pc47_c12 : PCode := .region none true pc47_o12
def pc47_c13 : PCode := .ret
def pc47_c14 : PCode := .seq pc47_c12 pc47_c13
def pc47_o15 : List POper := [zo 42 (.prim (.bin .eql 3 false true) [.tmp 6, .const (.int .i64 4)]),
  zo 41 (.mv (.tmp 42))]
def pc47_c15 : PCode := .region none false pc47_o15
def pc47_o16 : List POper := [zo 43 (.mv (.tmp 0)),
  zo 44 (.nilc (.tmp 43)),
  zo 45 (.faddr 1 (.tmp 44)),
  zo 46 (.bptrs 1 [.tmp 45]),
  zo 2 (.mv (.tmp 46))]
def pc47_c16 : PCode := .region none false pc47_o16
def pc47_c17 : PCode := .ret
def pc47_c18 : PCode := .seq pc47_c16 pc47_c17
def pc47_o19 : List POper := [zo 48 (.prim (.bin .eql 3 false true) [.tmp 6, .const (.int .i64 5)]),
  zo 47 (.mv (.tmp 48))]
def pc47_c19 : PCode := .region none false pc47_o19
def pc47_o20 : List POper := [⟨some 49, .mv (.tmp 0), none, [(0, .at_ 1000000 0)]⟩,
  ⟨some 50, .nilc (.tmp 49), none, [(49, .at_ 1000000 0)]⟩,
  ⟨some 51, .faddr 2 (.tmp 50), none, [(50, .at_ 1000000 0)]⟩,
  ⟨some 52, .mv (.tmp 0), none, [(0, .at_ 1000000 0)]⟩,
  ⟨some 53, .nilc (.tmp 52), none, [(52, .at_ 1000000 0)]⟩,
  ⟨some 54, .faddr 3 (.tmp 53), none, [(53, .at_ 1000000 0)]⟩,
  ⟨some 55, .bptrs 1 [.tmp 51, .tmp 54], none, [(51, .at_ 1000000 2), (54, .at_ 1000000 3)]⟩,
  ⟨some 2, .mv (.tmp 55), none, [(55, .obj 55)]⟩]
def pc47_c20 : PCode := .region none true pc47_o20
def pc47_c21 : PCode := .ret
def pc47_c22 : PCode := .seq pc47_c20 pc47_c21
def pc47_o23 : List POper := [zo 57 (.prim (.bin .eql 3 false true) [.tmp 6, .const (.int .i64 6)]),
  zo 56 (.mv (.tmp 57))]
def pc47_c23 : PCode := .region none false pc47_o23
def pc47_c24 : PCode := .skip
def pc47_o25 : List POper := [zo 58 (.prim (.bin .eql 3 false true) [.tmp 6, .const (.int .i64 7)]),
  zo 56 (.mv (.tmp 58))]
def pc47_c25 : PCode := .region none false pc47_o25
def pc47_c26 : PCode := .cond (.tmp 56) pc47_c24 pc47_c25
def pc47_c27 : PCode := .seq pc47_c23 pc47_c26
def pc47_o28 : List POper := [⟨some 59, .mv (.tmp 0), none, [(0, .at_ 1000000 0)]⟩,
  ⟨some 60, .nilc (.tmp 59), none, [(59, .at_ 1000000 0)]⟩,
  ⟨some 61, .faddr 18 (.tmp 60), none, [(60, .at_ 1000000 0)]⟩,
  ⟨some 62, .faddr 0 (.tmp 61), none, [(61, .at_ 1000000 18)]⟩,
  ⟨some 63, .mv (.tmp 0), none, [(0, .at_ 1000000 0)]⟩,
  ⟨some 64, .nilc (.tmp 63), none, [(63, .at_ 1000000 0)]⟩,
  ⟨some 65, .faddr 18 (.tmp 64), none, [(64, .at_ 1000000 0)]⟩,
  ⟨some 66, .faddr 1 (.tmp 65), none, [(65, .at_ 1000000 18)]⟩,
  ⟨some 67, .mv (.tmp 0), none, [(0, .at_ 1000000 0)]⟩,
  ⟨some 68, .nilc (.tmp 67), none, [(67, .at_ 1000000 0)]⟩,
  ⟨some 69, .faddr 18 (.tmp 68), none, [(68, .at_ 1000000 0)]⟩,
  ⟨some 70, .faddr 2 (.tmp 69), none, [(69, .at_ 1000000 18)]⟩,
  ⟨some 71, .mv (.tmp 0), none, [(0, .at_ 1000000 0)]⟩,
  ⟨some 72, .nilc (.tmp 71), none, [(71, .at_ 1000000 0)]⟩,
  ⟨some 73, .faddr 18 (.tmp 72), none, [(72, .at_ 1000000 0)]⟩,
  ⟨some 74, .faddr 3 (.tmp 73), none, [(73, .at_ 1000000 18)]⟩,
  ⟨some 75, .bptrs 1 [.tmp 62, .tmp 66, .tmp 70, .tmp 74], none, [(62, .at_ 1000000 18), (66, .at_ 1000000 19), (70, .at_ 1000000 20), (74, .at_ 1000000 21)]⟩,
  ⟨some 2, .mv (.tmp 75), none, [(75, .obj 75)]⟩]
def pc47_c28 : PCode := .region (some ([0], [1000000], [])) true pc47_o28
def pc47_c29 : PCode := .ret
def pc47_c30 : PCode := .seq pc47_c28 pc47_c29
def pc47_c31 : PCode := .skip
def pc47_c32 : PCode := .cond (.tmp 56) pc47_c30 pc47_c31
def pc47_c33 : PCode := .seq pc47_c27 pc47_c32
def pc47_c34 : PCode := .cond (.tmp 47) pc47_c22 pc47_c33
def pc47_c35 : PCode := .seq pc47_c19 pc47_c34
def pc47_c36 : PCode := .cond (.tmp 41) pc47_c18 pc47_c35
def pc47_c37 : PCode := .seq pc47_c15 pc47_c36
def pc47_c38 : PCode := .cond (.tmp 32) pc47_c14 pc47_c37
def pc47_c39 : PCode := .seq pc47_c11 pc47_c38
def pc47_c40 : PCode := .cond (.tmp 18) pc47_c10 pc47_c39
def pc47_c41 : PCode := .seq pc47_c7 pc47_c40
def pc47_c42 : PCode := .cond (.tmp 7) pc47_c6 pc47_c41
def pc47_c43 : PCode := .seq pc47_c3 pc47_c42
def pc47_c44 : PCode := .block 0 pc47_c43
def pc47_c45 : PCode := .seq pc47_c2 pc47_c44
def pc47_o46 : List POper := [zo 2 (.mv (.const (.slice none 0 0)))]
def pc47_c46 : PCode := .region none false pc47_o46
def pc47_c47 : PCode := .ret
def pc47_c48 : PCode := .seq pc47_c46 pc47_c47
def pc47_c49 : PCode := .seq pc47_c45 pc47_c48
def pc47_c50 : PCode := .seq pc47_c1 pc47_c49
def pc47_r : List PRes := [PRes.tmp 2 [(0, 1)]]
def pc47 : PFunc := ⟨76, pc47_r, pc47_c50, false⟩
def pc47_a : Ann := {
  kr := fun
    | 14 => some ([0], [1000000], [])
    | _ => none
  ka := fun
    | _ => 0
  kh := fun
    | 0 => some (.at_ 1000000 0)
    | 9 => some (.at_ 1000000 0)
    | 10 => some (.at_ 1000000 0)
    | 11 => some (.at_ 1000000 4)
    | 12 => some (.at_ 1000000 4)
    | 13 => some (.at_ 1000000 0)
    | 14 => some (.at_ 1000000 0)
    | 15 => some (.at_ 1000000 4)
    | 16 => some (.at_ 1000000 5)
    | 17 => some (.obj 17)
    | 20 => some (.at_ 1000000 0)
    | 21 => some (.at_ 1000000 0)
    | 22 => some (.at_ 1000000 1)
    | 23 => some (.at_ 1000000 0)
    | 24 => some (.at_ 1000000 0)
    | 25 => some (.at_ 1000000 4)
    | 26 => some (.at_ 1000000 4)
    | 27 => some (.at_ 1000000 0)
    | 28 => some (.at_ 1000000 0)
    | 29 => some (.at_ 1000000 4)
    | 30 => some (.at_ 1000000 5)
    | 31 => some (.obj 31)
    | 34 => some (.at_ 1000000 0)
    | 35 => some (.at_ 1000000 0)
    | 36 => some (.at_ 1000000 1)
    | 37 => some (.at_ 1000000 0)
    | 38 => some (.at_ 1000000 0)
    | 39 => some (.at_ 1000000 2)
    | 40 => some (.obj 40)
    | 49 => some (.at_ 1000000 0)
    | 50 => some (.at_ 1000000 0)
    | 51 => some (.at_ 1000000 2)
    | 52 => some (.at_ 1000000 0)
    | 53 => some (.at_ 1000000 0)
    | 54 => some (.at_ 1000000 3)
    | 55 => some (.obj 55)
    | 59 => some (.at_ 1000000 0)
    | 60 => some (.at_ 1000000 0)
    | 61 => some (.at_ 1000000 18)
    | 62 => some (.at_ 1000000 18)
    | 63 => some (.at_ 1000000 0)
    | 64 => some (.at_ 1000000 0)
    | 65 => some (.at_ 1000000 18)
    | 66 => some (.at_ 1000000 19)
    | 67 => some (.at_ 1000000 0)
    | 68 => some (.at_ 1000000 0)
    | 69 => some (.at_ 1000000 18)
    | 70 => some (.at_ 1000000 20)
    | 71 => some (.at_ 1000000 0)
    | 72 => some (.at_ 1000000 0)
    | 73 => some (.at_ 1000000 18)
    | 74 => some (.at_ 1000000 21)
    | 75 => some (.obj 75)
    | _ => none
  ow := fun t => match t with
    | 64 => [(1, 5, 1)]
    | _ => []
  tc := fun t => match t with
    | 64 => true
    | _ => false }
theorem pc47_ok : compFn Try.prog pc47_a Try.f47 = some pc47 := by kernel_rfl


-- 48: vedette/cmd.values
def pc48_o1 : List POper := [zo 2 (.mv (.const (.slice none 0 0)))]
def pc48_c1 : PCode := .region none false pc48_o1
def pc48_o2 : List POper := [zo 3 (.mv (.tmp 0)),
  zo 4 (.nilc (.tmp 3)),
  zo 5 (.faddr 0 (.tmp 4)),
  zo 6 (.load false 1 (.tmp 5))]
def pc48_c2 : PCode := .region none false pc48_o2
def pc48_o3 : List POper := [zo 8 (.prim (.bin .eql 3 false true) [.tmp 6, .const (.int .i64 1)]),
  zo 7 (.mv (.tmp 8))]
def pc48_c3 : PCode := .region none false pc48_o3
def pc48_o4 : List POper := [⟨some 9, .mv (.tmp 0), none, [(0, .at_ 1000000 0)]⟩,
  ⟨some 10, .nilc (.tmp 9), none, [(9, .at_ 1000000 0)]⟩,
  ⟨some 11, .faddr 6 (.tmp 10), none, [(10, .at_ 1000000 0)]⟩,
  ⟨some 12, .iaddrA 4 2 (.tmp 11) (.const (.int .i64 0)), none, [(11, .at_ 1000000 6)]⟩,
  ⟨some 13, .mv (.tmp 0), none, [(0, .at_ 1000000 0)]⟩,
  ⟨some 14, .nilc (.tmp 13), none, [(13, .at_ 1000000 0)]⟩,
  ⟨some 15, .faddr 6 (.tmp 14), none, [(14, .at_ 1000000 0)]⟩,
  ⟨some 16, .iaddrA 4 2 (.tmp 15) (.const (.int .i64 1)), none, [(15, .at_ 1000000 6)]⟩,
  ⟨some 17, .mv (.tmp 0), none, [(0, .at_ 1000000 0)]⟩,
  ⟨some 18, .nilc (.tmp 17), none, [(17, .at_ 1000000 0)]⟩,
  ⟨some 19, .faddr 6 (.tmp 18), none, [(18, .at_ 1000000 0)]⟩,
  ⟨some 20, .iaddrA 4 2 (.tmp 19) (.const (.int .i64 2)), none, [(19, .at_ 1000000 6)]⟩,
  ⟨some 21, .mv (.tmp 0), none, [(0, .at_ 1000000 0)]⟩,
  ⟨some 22, .nilc (.tmp 21), none, [(21, .at_ 1000000 0)]⟩,
  ⟨some 23, .faddr 6 (.tmp 22), none, [(22, .at_ 1000000 0)]⟩,
  ⟨some 24, .iaddrA 4 2 (.tmp 23) (.const (.int .i64 3)), none, [(23, .at_ 1000000 6)]⟩,
  ⟨some 25, .bptrs 1 [.tmp 12, .tmp 16, .tmp 20, .tmp 24], none, [(12, .at_ 1000000 6), (16, .at_ 1000000 8), (20, .at_ 1000000 10), (24, .at_ 1000000 12)]⟩,
  ⟨some 2, .mv (.tmp 25), none, [(25, .obj 25)]⟩]
def pc48_c4 : PCode := .region none true pc48_o4
def pc48_c5 : PCode := .ret
def pc48_c6 : PCode := .seq pc48_c4 pc48_c5
def pc48_o7 : List POper := [zo 27 (.prim (.bin .eql 3 false true) [.tmp 6, .const (.int .i64 3)]),
  zo 26 (.mv (.tmp 27))]
def pc48_c7 : PCode := .region none false pc48_o7
def pc48_o8 : List POper := [zo 28 (.mv (.tmp 0)),
  zo 29 (.nilc (.tmp 28)),
  zo 30 (.faddr 14 (.tmp 29)),
  zo 31 (.bptrs 1 [.tmp 30]),
  zo 2 (.mv (.tmp 31))]
def pc48_c8 : PCode := .region none false pc48_o8
def pc48_c9 : PCode := .ret
def pc48_c10 : PCode := .seq pc48_c8 pc48_c9
def pc48_c11 : PCode := .skip
def pc48_c12 : PCode := .cond (.tmp 26) pc48_c10 pc48_c11
def pc48_c13 : PCode := .seq pc48_c7 pc48_c12
def pc48_c14 : PCode := .cond (.tmp 7) pc48_c6 pc48_c13
def pc48_c15 : PCode := .seq pc48_c3 pc48_c14
def pc48_c16 : PCode := .block 0 pc48_c15
def pc48_c17 : PCode := .seq pc48_c2 pc48_c16
def pc48_o18 : List POper := [zo 2 (.mv (.const (.slice none 0 0)))]
def pc48_c18 : PCode := .region none false pc48_o18
def pc48_c19 : PCode := .ret
def pc48_c20 : PCode := .seq pc48_c18 pc48_c19
def pc48_c21 : PCode := .seq pc48_c17 pc48_c20
def pc48_c22 : PCode := .seq pc48_c1 pc48_c21
def pc48_r : List PRes := [PRes.tmp 2 [(0, 1)]]
def pc48 : PFunc := ⟨32, pc48_r, pc48_c22, false⟩
def pc48_a : Ann := {
  kr := fun
    | _ => none
  ka := fun
    | _ => 0
  kh := fun
    | 0 => some (.at_ 1000000 0)
    | 9 => some (.at_ 1000000 0)
    | 10 => some (.at_ 1000000 0)
    | 11 => some (.at_ 1000000 6)
    | 12 => some (.at_ 1000000 6)
    | 13 => some (.at_ 1000000 0)
    | 14 => some (.at_ 1000000 0)
    | 15 => some (.at_ 1000000 6)
    | 16 => some (.at_ 1000000 8)
    | 17 => some (.at_ 1000000 0)
    | 18 => some (.at_ 1000000 0)
    | 19 => some (.at_ 1000000 6)
    | 20 => some (.at_ 1000000 10)
    | 21 => some (.at_ 1000000 0)
    | 22 => some (.at_ 1000000 0)
    | 23 => some (.at_ 1000000 6)
    | 24 => some (.at_ 1000000 12)
    | 25 => some (.obj 25)
    | _ => none
  ow := fun t => match t with
    | 64 => [(1, 5, 1)]
    | _ => []
  tc := fun t => match t with
    | 64 => true
    | _ => false }
theorem pc48_ok : compFn Try.prog pc48_a Try.f48 = some pc48 := by kernel_rfl


-- 21: vedette/cmd.Bytes
def pc21_o1 : List POper := [zo 1 (.box 53 (.tmp 0) []),
  zo 2 (.mv (.const (.string { data := { toList := [] } }))),
  zo 3 (.mv (.const (.int .i64 0)))]
def pc21_c1 : PCode := .region none false pc21_o1
def pc21_o2 : List POper := [zo 9 (.load true 22 (.tmp 1)),
  zo 10 (.call true [[]] 32 [.tmp 9]),
  zo 11 (.prim (.un .not) [.tmp 10])]
def pc21_c2 : PCode := .region none false pc21_o2
def pc21_o3 : List POper := [zo 2 (.mv (.const (.string { data := { toList := [] } }))),
  zo 3 (.mv (.const (.int .i64 11)))]
def pc21_c3 : PCode := .region none false pc21_o3
def pc21_c4 : PCode := .ret
def pc21_c5 : PCode := .seq pc21_c3 pc21_c4
def pc21_c6 : PCode := .skip
def pc21_c7 : PCode := .cond (.tmp 11) pc21_c5 pc21_c6
def pc21_c8 : PCode := .seq pc21_c2 pc21_c7
def pc21_o9 : List POper := [⟨some 12, .faddr 0 (.tmp 1), none, [(1, .at_ 1 0)]⟩,
  ⟨some 13, .load false 1 (.tmp 12), none, [(12, .at_ 1 0)]⟩,
  ⟨some 14, .call false [[]] 46 [.tmp 13], none, [(13, .imm)]⟩,
  ⟨some 15, .faddr 16 (.tmp 1), none, [(1, .at_ 1 0)]⟩,
  ⟨some 16, .load false 1 (.tmp 15), none, [(15, .at_ 1 16)]⟩,
  ⟨some 17, .call false [[]] 46 [.tmp 16], none, [(16, .imm)]⟩,
  ⟨some 18, .prim (.bin .add 9 false false) [.tmp 14, .tmp 17], none, [(14, .imm), (17, .imm)]⟩,
  ⟨some 19, .faddr 17 (.tmp 1), none, [(1, .at_ 1 0)]⟩,
  ⟨some 20, .load false 1 (.tmp 19), none, [(19, .at_ 1 17)]⟩,
  ⟨some 21, .call false [[]] 46 [.tmp 20], none, [(20, .imm)]⟩,
  ⟨some 22, .prim (.bin .add 9 false false) [.tmp 18, .tmp 21], none, [(18, .imm), (21, .imm)]⟩,
  ⟨some 4, .mv (.tmp 22), none, [(22, .imm)]⟩]
def pc21_c9 : PCode := .region none true pc21_o9
def pc21_o10 : List POper := [zo 23 (.gcall false false [1, 300000, 300001, 300002, 300003, 300004, 300005, 300006, 300007] [[]] 47 [.tmp 1]),
  zo 24 (.lenS (.tmp 23)),
  zo 25 (.mv (.const (.int .i64 0)))]
def pc21_c10 : PCode := .region none false pc21_o10
def pc21_o11 : List POper := [zo 26 (.prim (.bin .lss 3 false false) [.tmp 25, .tmp 24])]
def pc21_c11 : PCode := .region (some ([1, 4, 23, 24, 25], [1, 300000], [])) false pc21_o11
def pc21_c12 : PCode := .skip
def pc21_c13 : PCode := .exit 0
def pc21_c14 : PCode := .cond (.tmp 26) pc21_c12 pc21_c13
def pc21_o15 : List POper := [zo 27 (.iaddrS 1 (.tmp 23) (.tmp 25)),
  zo 28 (.load false 1 (.tmp 27)),
  zo 6 (.mv (.tmp 28))]
def pc21_c15 : PCode := .region none false pc21_o15
def pc21_o16 : List POper := [zo 29 (.mv (.tmp 4)),
  zo 30 (.mv (.tmp 6)),
  zo 31 (.nilc (.tmp 30)),
  zo 32 (.load false 1 (.tmp 31)),
  zo 33 (.call true [[]] 46 [.tmp 32]),
  zo 34 (.prim (.bin .add 9 false false) [.tmp 29, .tmp 33]),
  zo 4 (.mv (.tmp 34))]
def pc21_c16 : PCode := .region none false pc21_o16
def pc21_c17 : PCode := .seq pc21_c15 pc21_c16
def pc21_c18 : PCode := .block 1 pc21_c17
def pc21_o19 : List POper := [zo 35 (.prim (.bin .add 3 false true) [.tmp 25, .const (.int .i64 1)]),
  zo 25 (.mv (.tmp 35))]
def pc21_c19 : PCode := .region none false pc21_o19
def pc21_c20 : PCode := .seq pc21_c18 pc21_c19
def pc21_c21 : PCode := .seq pc21_c14 pc21_c20
def pc21_c22 : PCode := .seq pc21_c11 pc21_c21
def pc21_c23 : PCode := .loop pc21_c22
def pc21_c24 : PCode := .block 0 pc21_c23
def pc21_c25 : PCode := .seq pc21_c10 pc21_c24
def pc21_o26 : List POper := [zo 36 (.gcall false false [1, 300000, 300001, 300002, 300003, 300004, 300005, 300006, 300007] [[]] 48 [.tmp 1]),
  zo 37 (.lenS (.tmp 36)),
  zo 38 (.mv (.const (.int .i64 0)))]
def pc21_c26 : PCode := .region (some ([1, 4], [1, 300000], [])) false pc21_o26
def pc21_o27 : List POper := [zo 39 (.prim (.bin .lss 3 false false) [.tmp 38, .tmp 37])]
def pc21_c27 : PCode := .region (some ([4, 36, 37, 38], [1, 300000], [])) false pc21_o27
def pc21_c28 : PCode := .skip
def pc21_c29 : PCode := .exit 2
def pc21_c30 : PCode := .cond (.tmp 39) pc21_c28 pc21_c29
def pc21_o31 : List POper := [zo 40 (.iaddrS 1 (.tmp 36) (.tmp 38)),
  zo 41 (.load false 1 (.tmp 40)),
  zo 8 (.mv (.tmp 41))]
def pc21_c31 : PCode := .region none false pc21_o31
def pc21_o32 : List POper := [⟨some 42, .mv (.tmp 4), none, [(4, .imm)]⟩,
  ⟨some 43, .mv (.tmp 8), none, [(8, .obj 1)]⟩,
  ⟨some 44, .nilc (.tmp 43), none, [(43, .obj 1)]⟩,
  ⟨some 45, .faddr 1 (.tmp 44), none, [(44, .obj 1)]⟩,
  ⟨some 46, .load false 1 (.tmp 45), none, [(45, .obj 1)]⟩,
  ⟨some 47, .call false [[]] 49 [.tmp 46], none, [(46, .imm)]⟩,
  ⟨some 48, .mv (.tmp 8), none, [(8, .obj 1)]⟩,
  ⟨some 49, .nilc (.tmp 48), none, [(48, .obj 1)]⟩,
  ⟨some 50, .faddr 0 (.tmp 49), none, [(49, .obj 1)]⟩,
  ⟨some 51, .load false 1 (.tmp 50), none, [(50, .obj 1)]⟩,
  ⟨some 52, .call false [[]] 46 [.tmp 51], none, [(51, .imm)]⟩,
  ⟨some 53, .prim (.bin .add 9 false false) [.tmp 47, .tmp 52], none, [(47, .imm), (52, .imm)]⟩,
  ⟨some 54, .prim (.bin .add 9 false false) [.tmp 42, .tmp 53], none, [(42, .imm), (53, .imm)]⟩,
  ⟨some 4, .mv (.tmp 54), none, [(54, .imm)]⟩]
def pc21_c32 : PCode := .region none true pc21_o32
def pc21_c33 : PCode := .seq pc21_c31 pc21_c32
def pc21_c34 : PCode := .block 3 pc21_c33
def pc21_o35 : List POper := [zo 55 (.prim (.bin .add 3 false true) [.tmp 38, .const (.int .i64 1)]),
  zo 38 (.mv (.tmp 55))]
def pc21_c35 : PCode := .region none false pc21_o35
def pc21_c36 : PCode := .seq pc21_c34 pc21_c35
def pc21_c37 : PCode := .seq pc21_c30 pc21_c36
def pc21_c38 : PCode := .seq pc21_c27 pc21_c37
def pc21_c39 : PCode := .loop pc21_c38
def pc21_c40 : PCode := .block 2 pc21_c39
def pc21_c41 : PCode := .seq pc21_c26 pc21_c40
def pc21_o42 : List POper := [zo 56 (.mv (.tmp 4)),
  zo 2 (.mv (.tmp 56)),
  zo 3 (.mv (.const (.int .i64 0)))]
def pc21_c42 : PCode := .region none false pc21_o42
def pc21_c43 : PCode := .ret
def pc21_c44 : PCode := .seq pc21_c42 pc21_c43
def pc21_c45 : PCode := .seq pc21_c41 pc21_c44
def pc21_c46 : PCode := .seq pc21_c25 pc21_c45
def pc21_c47 : PCode := .seq pc21_c9 pc21_c46
def pc21_c48 : PCode := .seq pc21_c8 pc21_c47
def pc21_c49 : PCode := .seq pc21_c1 pc21_c48
def pc21_r : List PRes := [PRes.tmp 2 [], PRes.tmp 3 []]
def pc21 : PFunc := ⟨57, pc21_r, pc21_c49, false⟩
def pc21_a : Ann := {
  kr := fun
    | 5 => some ([1, 4, 23, 24, 25], [1, 300000], [])
    | 9 => some ([1, 4], [1, 300000], [])
    | 10 => some ([4, 36, 37, 38], [1, 300000], [])
    | _ => none
  ka := fun
    | _ => 0
  kh := fun
    | 1 => some (.at_ 1 0)
    | 4 => some (.imm)
    | 8 => some (.obj 1)
    | 12 => some (.at_ 1 0)
    | 13 => some (.imm)
    | 14 => some (.imm)
    | 15 => some (.at_ 1 16)
    | 16 => some (.imm)
    | 17 => some (.imm)
    | 18 => some (.imm)
    | 19 => some (.at_ 1 17)
    | 20 => some (.imm)
    | 21 => some (.imm)
    | 22 => some (.imm)
    | 42 => some (.imm)
    | 43 => some (.obj 1)
    | 44 => some (.obj 1)
    | 45 => some (.obj 1)
    | 46 => some (.imm)
    | 47 => some (.imm)
    | 48 => some (.obj 1)
    | 49 => some (.obj 1)
    | 50 => some (.obj 1)
    | 51 => some (.imm)
    | 52 => some (.imm)
    | 53 => some (.imm)
    | 54 => some (.imm)
    | _ => none
  gf := fun d f => match d, f with
    | some 23, 47 => some (false, false, [1, 300000, 300001, 300002, 300003, 300004, 300005, 300006, 300007])
    | some 36, 48 => some (false, false, [1, 300000, 300001, 300002, 300003, 300004, 300005, 300006, 300007])
    | _, _ => none
  ow := fun t => match t with
    | 64 => [(1, 5, 1)]
    | _ => []
  tc := fun t => match t with
    | 64 => true
    | _ => false }
theorem pc21_ok : compFn Try.prog pc21_a Try.f21 = some pc21 := by kernel_rfl


-- 50: vedette/sum.told
def pc50_o1 : List POper := [zo 2 (.mv (.const (.string { data := { toList := [] } })))]
def pc50_c1 : PCode := .region none false pc50_o1
def pc50_o2 : List POper := [zo 3 (.mv (.tmp 0)),
  zo 4 (.prim (.conv 101 5) [.tmp 3]),
  zo 5 (.mv (.tmp 0)),
  zo 6 (.prim (.bin .shr 101 false true) [.tmp 5, .const (.int .u64 8)]),
  zo 7 (.prim (.conv 101 5) [.tmp 6]),
  zo 8 (.mv (.tmp 0)),
  zo 9 (.prim (.bin .shr 101 false true) [.tmp 8, .const (.int .u64 16)]),
  zo 10 (.prim (.conv 101 5) [.tmp 9]),
  zo 11 (.mv (.tmp 0)),
  zo 12 (.prim (.bin .shr 101 false true) [.tmp 11, .const (.int .u64 24)]),
  zo 13 (.prim (.conv 101 5) [.tmp 12]),
  zo 14 (.bslice 5 1 [.tmp 4, .tmp 7, .tmp 10, .tmp 13]),
  zo 15 (.b2s (.tmp 14)),
  zo 2 (.mv (.tmp 15))]
def pc50_c2 : PCode := .region none false pc50_o2
def pc50_c3 : PCode := .ret
def pc50_c4 : PCode := .seq pc50_c2 pc50_c3
def pc50_c5 : PCode := .seq pc50_c1 pc50_c4
def pc50_r : List PRes := [PRes.tmp 2 []]
def pc50 : PFunc := ⟨16, pc50_r, pc50_c5, false⟩
def pc50_a : Ann := {
  kr := fun
    | _ => none
  ka := fun
    | _ => 0
  kh := fun
    | _ => none
  ow := fun t => match t with
    | 64 => [(1, 5, 1)]
    | _ => []
  tc := fun t => match t with
    | 64 => true
    | _ => false }
theorem pc50_ok : compFn Try.prog pc50_a Try.f50 = some pc50 := by kernel_rfl


-- 51: vedette/sum.Of
def pc51_o1 : List POper := [zo 2 (.mv (.const (.int .u32 0)))]
def pc51_c1 : PCode := .region none false pc51_o1
def pc51_o2 : List POper := [zo 3 (.mv (.const (.int .u32 4294967295)))]
def pc51_c2 : PCode := .region none false pc51_o2
def pc51_o3 : List POper := [zo 7 (.mv (.tmp 0)),
  zo 8 (.s2b 5 (.tmp 7)),
  zo 9 (.lenS (.tmp 8)),
  zo 10 (.mv (.const (.int .i64 0)))]
def pc51_c3 : PCode := .region none false pc51_o3
def pc51_o4 : List POper := [zo 11 (.prim (.bin .lss 3 false false) [.tmp 10, .tmp 9])]
def pc51_c4 : PCode := .region (some ([3, 8, 9, 10], [], [])) false pc51_o4
def pc51_c5 : PCode := .skip
def pc51_c6 : PCode := .exit 0
def pc51_c7 : PCode := .cond (.tmp 11) pc51_c5 pc51_c6
def pc51_o8 : List POper := [zo 12 (.iaddrS 1 (.tmp 8) (.tmp 10)),
  zo 13 (.load false 1 (.tmp 12)),
  zo 5 (.mv (.tmp 13))]
def pc51_c8 : PCode := .region none false pc51_o8
def pc51_o9 : List POper := [zo 14 (.mv (.tmp 3)),
  zo 15 (.mv (.tmp 5)),
  zo 16 (.prim (.conv 5 101) [.tmp 15]),
  zo 17 (.prim (.bin .xor 101 false false) [.tmp 14, .tmp 16]),
  zo 3 (.mv (.tmp 17))]
def pc51_c9 : PCode := .region none false pc51_o9
def pc51_o10 : List POper := [zo 18 (.mv (.const (.int .i64 0)))]
def pc51_c10 : PCode := .region none false pc51_o10
def pc51_o11 : List POper := [zo 19 (.prim (.bin .lss 3 false true) [.tmp 18, .const (.int .i64 8)])]
def pc51_c11 : PCode := .region (some ([3, 8, 9, 10, 18], [], [])) false pc51_o11
def pc51_c12 : PCode := .skip
def pc51_c13 : PCode := .exit 2
def pc51_c14 : PCode := .cond (.tmp 19) pc51_c12 pc51_c13
def pc51_o15 : List POper := [zo 20 (.mv (.tmp 3)),
  zo 21 (.prim (.bin .and 101 false true) [.tmp 20, .const (.int .u32 1)]),
  zo 6 (.mv (.tmp 21))]
def pc51_c15 : PCode := .region none false pc51_o15
def pc51_o16 : List POper := [zo 22 (.mv (.tmp 3)),
  zo 23 (.prim (.bin .shr 101 false true) [.tmp 22, .const (.int .u64 1)]),
  zo 3 (.mv (.tmp 23))]
def pc51_c16 : PCode := .region none false pc51_o16
def pc51_o17 : List POper := [zo 24 (.mv (.tmp 6)),
  zo 25 (.prim (.bin .eql 101 false true) [.tmp 24, .const (.int .u32 1)])]
def pc51_c17 : PCode := .region none false pc51_o17
def pc51_o18 : List POper := [zo 26 (.mv (.tmp 3)),
  zo 27 (.prim (.bin .xor 101 false true) [.tmp 26, .const (.int .u32 3988292384)]),
  zo 3 (.mv (.tmp 27))]
def pc51_c18 : PCode := .region none false pc51_o18
def pc51_c19 : PCode := .skip
def pc51_c20 : PCode := .cond (.tmp 25) pc51_c18 pc51_c19
def pc51_c21 : PCode := .seq pc51_c17 pc51_c20
def pc51_c22 : PCode := .seq pc51_c16 pc51_c21
def pc51_c23 : PCode := .seq pc51_c15 pc51_c22
def pc51_c24 : PCode := .block 3 pc51_c23
def pc51_o25 : List POper := [zo 28 (.prim (.bin .add 3 false true) [.tmp 18, .const (.int .i64 1)]),
  zo 18 (.mv (.tmp 28))]
def pc51_c25 : PCode := .region none false pc51_o25
def pc51_c26 : PCode := .seq pc51_c24 pc51_c25
def pc51_c27 : PCode := .seq pc51_c14 pc51_c26
def pc51_c28 : PCode := .seq pc51_c11 pc51_c27
def pc51_c29 : PCode := .loop pc51_c28
def pc51_c30 : PCode := .block 2 pc51_c29
def pc51_c31 : PCode := .seq pc51_c10 pc51_c30
def pc51_c32 : PCode := .seq pc51_c9 pc51_c31
def pc51_c33 : PCode := .seq pc51_c8 pc51_c32
def pc51_c34 : PCode := .block 1 pc51_c33
def pc51_o35 : List POper := [zo 29 (.prim (.bin .add 3 false true) [.tmp 10, .const (.int .i64 1)]),
  zo 10 (.mv (.tmp 29))]
def pc51_c35 : PCode := .region none false pc51_o35
def pc51_c36 : PCode := .seq pc51_c34 pc51_c35
def pc51_c37 : PCode := .seq pc51_c7 pc51_c36
def pc51_c38 : PCode := .seq pc51_c4 pc51_c37
def pc51_c39 : PCode := .loop pc51_c38
def pc51_c40 : PCode := .block 0 pc51_c39
def pc51_c41 : PCode := .seq pc51_c3 pc51_c40
def pc51_o42 : List POper := [zo 30 (.mv (.tmp 3)),
  zo 31 (.prim (.bin .xor 101 false true) [.tmp 30, .const (.int .u32 4294967295)]),
  zo 2 (.mv (.tmp 31))]
def pc51_c42 : PCode := .region none false pc51_o42
def pc51_c43 : PCode := .ret
def pc51_c44 : PCode := .seq pc51_c42 pc51_c43
def pc51_c45 : PCode := .seq pc51_c41 pc51_c44
def pc51_c46 : PCode := .seq pc51_c2 pc51_c45
def pc51_c47 : PCode := .seq pc51_c1 pc51_c46
def pc51_r : List PRes := [PRes.tmp 2 []]
def pc51 : PFunc := ⟨32, pc51_r, pc51_c47, false⟩
def pc51_a : Ann := {
  kr := fun
    | 3 => some ([3, 8, 9, 10], [], [])
    | 7 => some ([3, 8, 9, 10, 18], [], [])
    | _ => none
  ka := fun
    | _ => 0
  kh := fun
    | _ => none
  ow := fun t => match t with
    | 64 => [(1, 5, 1)]
    | _ => []
  tc := fun t => match t with
    | 64 => true
    | _ => false }
theorem pc51_ok : compFn Try.prog pc51_a Try.f51 = some pc51 := by kernel_rfl


-- 23: vedette/sum.Wrap
def pc23_o1 : List POper := [zo 2 (.mv (.const (.string { data := { toList := [] } })))]
def pc23_c1 : PCode := .region none false pc23_o1
def pc23_o2 : List POper := [zo 3 (.mv (.tmp 0)),
  zo 4 (.call true [[]] 49 [.tmp 3]),
  zo 5 (.mv (.tmp 0)),
  zo 6 (.call true [[]] 51 [.tmp 5]),
  zo 7 (.call true [[]] 50 [.tmp 6]),
  zo 8 (.prim (.bin .add 9 false false) [.tmp 4, .tmp 7]),
  zo 2 (.mv (.tmp 8))]
def pc23_c2 : PCode := .region none false pc23_o2
def pc23_c3 : PCode := .ret
def pc23_c4 : PCode := .seq pc23_c2 pc23_c3
def pc23_c5 : PCode := .seq pc23_c1 pc23_c4
def pc23_r : List PRes := [PRes.tmp 2 []]
def pc23 : PFunc := ⟨9, pc23_r, pc23_c5, false⟩
def pc23_a : Ann := {
  kr := fun
    | _ => none
  ka := fun
    | _ => 0
  kh := fun
    | _ => none
  ow := fun t => match t with
    | 64 => [(1, 5, 1)]
    | _ => []
  tc := fun t => match t with
    | 64 => true
    | _ => false }
theorem pc23_ok : compFn Try.prog pc23_a Try.f23 = some pc23 := by kernel_rfl


-- 9: vedette/note.Bytes
def pc9_o1 : List POper := [zo 1 (.box 26 (.tmp 0) []),
  zo 2 (.mv (.const (.string { data := { toList := [] } }))),
  zo 3 (.mv (.const (.int .i64 0)))]
def pc9_c1 : PCode := .region none false pc9_o1
def pc9_o2 : List POper := [zo 15 (.load true 6 (.tmp 1)),
  zo 16 (.call true [[(2, 11), (3, 2), (4, 11), (5, 22)], []] 11 [.tmp 15, .const (.int .i64 4)]),
  zo 17 (.prim (.un .not) [.tmp 16])]
def pc9_c2 : PCode := .region none false pc9_o2
def pc9_o3 : List POper := [zo 2 (.mv (.const (.string { data := { toList := [] } }))),
  zo 3 (.mv (.const (.int .i64 11)))]
def pc9_c3 : PCode := .region none false pc9_o3
def pc9_c4 : PCode := .ret
def pc9_c5 : PCode := .seq pc9_c3 pc9_c4
def pc9_c6 : PCode := .skip
def pc9_c7 : PCode := .cond (.tmp 17) pc9_c5 pc9_c6
def pc9_c8 : PCode := .seq pc9_c2 pc9_c7
def pc9_o9 : List POper := [zo 19 (.faddr 2 (.tmp 1)),
  zo 20 (.load false 1 (.tmp 19)),
  zo 21 (.call true [[(0, 11)]] 18 [.tmp 20]),
  zo 18 (.mv (.tmp 21)),
  zo 22 (.ext (.tmp 18) 0),
  zo 23 (.ext (.tmp 18) 1),
  zo 4 (.mv (.tmp 22)),
  zo 5 (.mv (.tmp 23))]
def pc9_c9 : PCode := .region none false pc9_o9
def pc9_o10 : List POper := [zo 25 (.faddr 4 (.tmp 1)),
  zo 26 (.load false 1 (.tmp 25)),
  zo 27 (.call true [[(0, 11)]] 18 [.tmp 26]),
  zo 24 (.mv (.tmp 27)),
  zo 28 (.ext (.tmp 24) 0),
  zo 29 (.ext (.tmp 24) 1),
  zo 6 (.mv (.tmp 28)),
  zo 7 (.mv (.tmp 29))]
def pc9_c10 : PCode := .region none false pc9_o10
def pc9_o11 : List POper := [zo 8 (.allocT 64 (.agg { toList := [.pointer none, .slice none 0 0] }) [(1, 5, 1)])]
def pc9_c11 : PCode := .region none false pc9_o11
def pc9_o12 : List POper := [⟨some 30, .faddr 0 (.tmp 1), none, [(1, .at_ 1 0)]⟩,
  ⟨some 31, .load false 1 (.tmp 30), none, [(30, .at_ 1 0)]⟩,
  ⟨some 32, .prim (.conv 3 38) [.tmp 31], none, [(31, .imm)]⟩,
  ⟨some 33, .call false [[]] 20 [.tmp 32], none, [(32, .imm)]⟩,
  ⟨some 34, .faddr 1 (.tmp 1), none, [(1, .at_ 1 0)]⟩,
  ⟨some 35, .load false 1 (.tmp 34), none, [(34, .at_ 1 1)]⟩,
  ⟨some 36, .prim (.conv 3 38) [.tmp 35], none, [(35, .imm)]⟩,
  ⟨some 37, .call false [[]] 20 [.tmp 36], none, [(36, .imm)]⟩,
  ⟨some 38, .prim (.bin .add 9 false false) [.tmp 33, .tmp 37], none, [(33, .imm), (37, .imm)]⟩,
  ⟨some 39, .mv (.tmp 4), none, [(4, .imm)]⟩,
  ⟨some 40, .prim (.bin .add 9 false false) [.tmp 38, .tmp 39], none, [(38, .imm), (39, .imm)]⟩,
  ⟨some 41, .mv (.tmp 6), none, [(6, .imm)]⟩,
  ⟨some 42, .prim (.bin .add 9 false false) [.tmp 40, .tmp 41], none, [(40, .imm), (41, .imm)]⟩,
  ⟨some 43, .faddr 3 (.tmp 1), none, [(1, .at_ 1 0)]⟩,
  ⟨some 44, .load false 1 (.tmp 43), none, [(43, .at_ 1 3)]⟩,
  ⟨some 45, .lenS (.tmp 44), none, [(44, .imm)]⟩,
  ⟨some 46, .prim (.conv 3 38) [.tmp 45], none, [(45, .imm)]⟩,
  ⟨some 47, .call false [[]] 20 [.tmp 46], none, [(46, .imm)]⟩,
  ⟨some 48, .prim (.bin .add 9 false false) [.tmp 42, .tmp 47], none, [(42, .imm), (47, .imm)]⟩,
  ⟨some 49, .gcall false false [8, 300000, 300001, 300002, 300003, 300004, 300005, 300006, 300007, 400064] [[(1, 1)], []] 19 [.tmp 8, .tmp 48], none, [(8, .at_ 8 0), (48, .imm)]⟩]
def pc9_c12 : PCode := .region none true pc9_o12
def pc9_o13 : List POper := [zo 50 (.faddr 3 (.tmp 1)),
  zo 51 (.load false 1 (.tmp 50)),
  zo 52 (.lenS (.tmp 51)),
  zo 53 (.mv (.const (.int .i64 0)))]
def pc9_c13 : PCode := .region none false pc9_o13
def pc9_o14 : List POper := [zo 54 (.prim (.bin .lss 3 false false) [.tmp 53, .tmp 52])]
def pc9_c14 : PCode := .region (some ([1, 8, 51, 52, 53], [1, 8, 10, 400064], [])) false pc9_o14
def pc9_c15 : PCode := .skip
def pc9_c16 : PCode := .exit 0
def pc9_c17 : PCode := .cond (.tmp 54) pc9_c15 pc9_c16
def pc9_o18 : List POper := [zo 55 (.iaddrS 2 (.tmp 51) (.tmp 53)),
  zo 56 (.load true 2 (.tmp 55)),
  zo 10 (.alloc 44 (.agg { toList := [.int .i64 0, .int .i64 0] }) []),
  ⟨none, .store 2 (.tmp 10) (.tmp 56), none, []⟩]
def pc9_c18 : PCode := .region none false pc9_o18
def pc9_o19 : List POper := [⟨some 57, .faddr 0 (.tmp 10), none, [(10, .at_ 10 0)]⟩,
  ⟨some 58, .load false 1 (.tmp 57), none, [(57, .at_ 10 0)]⟩,
  ⟨some 59, .prim (.conv 3 38) [.tmp 58], none, [(58, .imm)]⟩,
  ⟨some 60, .call false [[]] 20 [.tmp 59], none, [(59, .imm)]⟩,
  ⟨some 61, .faddr 1 (.tmp 10), none, [(10, .at_ 10 0)]⟩,
  ⟨some 62, .load false 1 (.tmp 61), none, [(61, .at_ 10 1)]⟩,
  ⟨some 63, .prim (.conv 3 38) [.tmp 62], none, [(62, .imm)]⟩,
  ⟨some 64, .call false [[]] 20 [.tmp 63], none, [(63, .imm)]⟩,
  ⟨some 65, .prim (.bin .add 9 false false) [.tmp 60, .tmp 64], none, [(60, .imm), (64, .imm)]⟩,
  ⟨some 66, .gcall false false [8, 300000, 300001, 300002, 300003, 300004, 300005, 300006, 300007, 400064] [[(1, 1)], []] 19 [.tmp 8, .tmp 65], none, [(8, .at_ 8 0), (65, .imm)]⟩]
def pc9_c19 : PCode := .region none true pc9_o19
def pc9_c20 : PCode := .seq pc9_c18 pc9_c19
def pc9_c21 : PCode := .block 1 pc9_c20
def pc9_o22 : List POper := [zo 67 (.prim (.bin .add 3 false true) [.tmp 53, .const (.int .i64 1)]),
  zo 53 (.mv (.tmp 67))]
def pc9_c22 : PCode := .region none false pc9_o22
def pc9_c23 : PCode := .seq pc9_c21 pc9_c22
def pc9_c24 : PCode := .seq pc9_c17 pc9_c23
def pc9_c25 : PCode := .seq pc9_c14 pc9_c24
def pc9_c26 : PCode := .loop pc9_c25
def pc9_c27 : PCode := .block 0 pc9_c26
def pc9_c28 : PCode := .seq pc9_c13 pc9_c27
def pc9_o29 : List POper := [zo 68 (.faddr 5 (.tmp 1)),
  zo 69 (.load false 1 (.tmp 68)),
  zo 70 (.lenS (.tmp 69)),
  zo 71 (.prim (.conv 3 38) [.tmp 70]),
  zo 72 (.call true [[]] 20 [.tmp 71]),
  zo 73 (.gcall false false [8, 300000, 300001, 300002, 300003, 300004, 300005, 300006, 300007, 400064] [[(1, 1)], []] 19 [.tmp 8, .tmp 72])]
def pc9_c29 : PCode := .region none false pc9_o29
def pc9_o30 : List POper := [zo 74 (.faddr 5 (.tmp 1)),
  zo 75 (.load false 1 (.tmp 74)),
  zo 76 (.lenS (.tmp 75)),
  zo 77 (.mv (.const (.int .i64 0)))]
def pc9_c30 : PCode := .region none false pc9_o30
def pc9_o31 : List POper := [zo 78 (.prim (.bin .lss 3 false false) [.tmp 77, .tmp 76])]
def pc9_c31 : PCode := .region (some ([8, 75, 76, 77], [1, 8, 12, 400064], [])) false pc9_o31
def pc9_c32 : PCode := .skip
def pc9_c33 : PCode := .exit 2
def pc9_c34 : PCode := .cond (.tmp 78) pc9_c32 pc9_c33
def pc9_o35 : List POper := [zo 79 (.iaddrS 22 (.tmp 75) (.tmp 77)),
  zo 80 (.load true 22 (.tmp 79)),
  zo 12 (.alloc 53 (.agg { toList := [.int .i64 0, .int .i64 0, .int .i64 0, .int .i64 0, .int .i64 0, .int .i64 0, .int .i64 0, .string { data := { toList := [] } }, .int .i64 0, .string { data := { toList := [] } }, .int .i64 0, .string { data := { toList := [] } }, .int .i64 0, .string { data := { toList := [] } }, .int .i64 0, .string { data := { toList := [] } }, .int .i64 0, .int .i64 0, .int .i64 0, .int .i64 0, .int .i64 0, .int .i64 0] }) []),
  ⟨none, .store 22 (.tmp 12) (.tmp 80), none, []⟩]
def pc9_c35 : PCode := .region none false pc9_o35
def pc9_o36 : List POper := [zo 82 (.load true 22 (.tmp 12)),
  zo 83 (.call true [[]] 21 [.tmp 82]),
  zo 81 (.mv (.tmp 83)),
  zo 84 (.ext (.tmp 81) 0),
  zo 85 (.ext (.tmp 81) 1),
  zo 13 (.mv (.tmp 84)),
  zo 14 (.mv (.tmp 85))]
def pc9_c36 : PCode := .region none false pc9_o36
def pc9_o37 : List POper := [zo 86 (.mv (.tmp 13)),
  zo 87 (.gcall false false [8, 300000, 300001, 300002, 300003, 300004, 300005, 300006, 300007, 400064] [[(1, 1)], []] 19 [.tmp 8, .tmp 86])]
def pc9_c37 : PCode := .region none false pc9_o37
def pc9_c38 : PCode := .seq pc9_c36 pc9_c37
def pc9_c39 : PCode := .seq pc9_c35 pc9_c38
def pc9_c40 : PCode := .block 3 pc9_c39
def pc9_o41 : List POper := [zo 88 (.prim (.bin .add 3 false true) [.tmp 77, .const (.int .i64 1)]),
  zo 77 (.mv (.tmp 88))]
def pc9_c41 : PCode := .region none false pc9_o41
def pc9_c42 : PCode := .seq pc9_c40 pc9_c41
def pc9_c43 : PCode := .seq pc9_c34 pc9_c42
def pc9_c44 : PCode := .seq pc9_c31 pc9_c43
def pc9_c45 : PCode := .loop pc9_c44
def pc9_c46 : PCode := .block 2 pc9_c45
def pc9_c47 : PCode := .seq pc9_c30 pc9_c46
def pc9_o48 : List POper := [zo 89 (.gcall false false [8, 300000, 300001, 300002, 300003, 300004, 300005, 300006, 300007, 400064] [[(1, 1)]] 22 [.tmp 8]),
  zo 90 (.prim (.bin .gtr 3 false true) [.tmp 89, .const (.int .i64 40000)])]
def pc9_c48 : PCode := .region none false pc9_o48
def pc9_o49 : List POper := [zo 2 (.mv (.const (.string { data := { toList := [] } }))),
  zo 3 (.mv (.const (.int .i64 13)))]
def pc9_c49 : PCode := .region none false pc9_o49
def pc9_c50 : PCode := .ret
def pc9_c51 : PCode := .seq pc9_c49 pc9_c50
def pc9_c52 : PCode := .skip
def pc9_c53 : PCode := .cond (.tmp 90) pc9_c51 pc9_c52
def pc9_c54 : PCode := .seq pc9_c48 pc9_c53
def pc9_o55 : List POper := [zo 91 (.gcall false false [8, 300000, 300001, 300002, 300003, 300004, 300005, 300006, 300007, 400064] [[(1, 1)]] 24 [.tmp 8]),
  zo 92 (.call true [[]] 23 [.tmp 91]),
  zo 2 (.mv (.tmp 92)),
  zo 3 (.mv (.const (.int .i64 0)))]
def pc9_c55 : PCode := .region none false pc9_o55
def pc9_c56 : PCode := .ret
def pc9_c57 : PCode := .seq pc9_c55 pc9_c56
def pc9_c58 : PCode := .seq pc9_c54 pc9_c57
def pc9_c59 : PCode := .seq pc9_c47 pc9_c58
def pc9_c60 : PCode := .seq pc9_c29 pc9_c59
def pc9_c61 : PCode := .seq pc9_c28 pc9_c60
def pc9_c62 : PCode := .seq pc9_c12 pc9_c61
def pc9_c63 : PCode := .seq pc9_c11 pc9_c62
def pc9_c64 : PCode := .seq pc9_c10 pc9_c63
def pc9_c65 : PCode := .seq pc9_c9 pc9_c64
def pc9_c66 : PCode := .seq pc9_c8 pc9_c65
def pc9_c67 : PCode := .seq pc9_c1 pc9_c66
def pc9_r : List PRes := [PRes.tmp 2 [], PRes.tmp 3 []]
def pc9 : PFunc := ⟨93, pc9_r, pc9_c67, false⟩
def pc9_a : Ann := {
  kr := fun
    | 8 => some ([1, 8, 51, 52, 53], [1, 8, 10, 400064], [])
    | 14 => some ([8, 75, 76, 77], [1, 8, 12, 400064], [])
    | _ => none
  ka := fun
    | _ => 0
  kh := fun
    | 1 => some (.at_ 1 0)
    | 4 => some (.imm)
    | 6 => some (.imm)
    | 8 => some (.at_ 8 0)
    | 10 => some (.at_ 10 0)
    | 30 => some (.at_ 1 0)
    | 31 => some (.imm)
    | 32 => some (.imm)
    | 33 => some (.imm)
    | 34 => some (.at_ 1 1)
    | 35 => some (.imm)
    | 36 => some (.imm)
    | 37 => some (.imm)
    | 38 => some (.imm)
    | 39 => some (.imm)
    | 40 => some (.imm)
    | 41 => some (.imm)
    | 42 => some (.imm)
    | 43 => some (.at_ 1 3)
    | 44 => some (.imm)
    | 45 => some (.imm)
    | 46 => some (.imm)
    | 47 => some (.imm)
    | 48 => some (.imm)
    | 57 => some (.at_ 10 0)
    | 58 => some (.imm)
    | 59 => some (.imm)
    | 60 => some (.imm)
    | 61 => some (.at_ 10 1)
    | 62 => some (.imm)
    | 63 => some (.imm)
    | 64 => some (.imm)
    | 65 => some (.imm)
    | _ => none
  gf := fun d f => match d, f with
    | some 49, 19 => some (false, false, [8, 300000, 300001, 300002, 300003, 300004, 300005, 300006, 300007, 400064])
    | some 66, 19 => some (false, false, [8, 300000, 300001, 300002, 300003, 300004, 300005, 300006, 300007, 400064])
    | some 73, 19 => some (false, false, [8, 300000, 300001, 300002, 300003, 300004, 300005, 300006, 300007, 400064])
    | some 87, 19 => some (false, false, [8, 300000, 300001, 300002, 300003, 300004, 300005, 300006, 300007, 400064])
    | some 89, 22 => some (false, false, [8, 300000, 300001, 300002, 300003, 300004, 300005, 300006, 300007, 400064])
    | some 91, 24 => some (false, false, [8, 300000, 300001, 300002, 300003, 300004, 300005, 300006, 300007, 400064])
    | _, _ => none
  ow := fun t => match t with
    | 64 => [(1, 5, 1)]
    | _ => []
  tc := fun t => match t with
    | 64 => true
    | _ => false }
theorem pc9_ok : compFn Try.prog pc9_a Try.f9 = some pc9 := by kernel_rfl


-- 37: slices.Equal[[]vedette/api.Thing,vedette/api.Thing]
def pc37_o1 : List POper := [zo 4 (.mv (.const (.bool false)))]
def pc37_c1 : PCode := .region none false pc37_o1
def pc37_o2 : List POper := [zo 6 (.mv (.tmp 0)),
  zo 7 (.lenS (.tmp 6)),
  zo 8 (.mv (.tmp 1)),
  zo 9 (.lenS (.tmp 8)),
  zo 10 (.prim (.bin .neq 3 false false) [.tmp 7, .tmp 9])]
def pc37_c2 : PCode := .region none false pc37_o2
def pc37_o3 : List POper := [zo 4 (.mv (.const (.bool false)))]
def pc37_c3 : PCode := .region none false pc37_o3
def pc37_c4 : PCode := .ret
def pc37_c5 : PCode := .seq pc37_c3 pc37_c4
def pc37_c6 : PCode := .skip
def pc37_c7 : PCode := .cond (.tmp 10) pc37_c5 pc37_c6
def pc37_c8 : PCode := .seq pc37_c2 pc37_c7
def pc37_o9 : List POper := [zo 11 (.mv (.tmp 0)),
  zo 12 (.lenS (.tmp 11)),
  zo 13 (.mv (.const (.int .i64 0)))]
def pc37_c9 : PCode := .region none false pc37_o9
def pc37_o10 : List POper := [zo 14 (.prim (.bin .lss 3 false false) [.tmp 13, .tmp 12])]
def pc37_c10 : PCode := .region (some ([0, 1, 12, 13], [], [])) false pc37_o10
def pc37_c11 : PCode := .skip
def pc37_c12 : PCode := .exit 0
def pc37_c13 : PCode := .cond (.tmp 14) pc37_c11 pc37_c12
def pc37_o14 : List POper := [zo 15 (.mv (.tmp 13)),
  zo 5 (.mv (.tmp 15))]
def pc37_c14 : PCode := .region none false pc37_o14
def pc37_o15 : List POper := [⟨some 16, .mv (.tmp 0), none, [(0, .imm)]⟩,
  ⟨some 17, .mv (.tmp 5), none, [(5, .imm)]⟩,
  ⟨some 18, .iaddrS 11 (.tmp 16) (.tmp 17), none, [(16, .imm), (17, .imm)]⟩,
  ⟨some 19, .load true 11 (.tmp 18), none, [(18, .imm)]⟩,
  ⟨some 20, .mv (.tmp 1), none, [(1, .imm)]⟩,
  ⟨some 21, .mv (.tmp 5), none, [(5, .imm)]⟩,
  ⟨some 22, .iaddrS 11 (.tmp 20) (.tmp 21), none, [(20, .imm), (21, .imm)]⟩,
  ⟨some 23, .load true 11 (.tmp 22), none, [(22, .imm)]⟩,
  ⟨some 24, .prim (.bin .neq 55 false false) [.tmp 19, .tmp 23], none, [(19, .imm), (23, .imm)]⟩]
def pc37_c15 : PCode := .region none true pc37_o15
def pc37_o16 : List POper := [zo 4 (.mv (.const (.bool false)))]
def pc37_c16 : PCode := .region none false pc37_o16
def pc37_c17 : PCode := .ret
def pc37_c18 : PCode := .seq pc37_c16 pc37_c17
def pc37_c19 : PCode := .skip
def pc37_c20 : PCode := .cond (.tmp 24) pc37_c18 pc37_c19
def pc37_c21 : PCode := .seq pc37_c15 pc37_c20
def pc37_c22 : PCode := .seq pc37_c14 pc37_c21
def pc37_c23 : PCode := .block 1 pc37_c22
def pc37_o24 : List POper := [zo 25 (.prim (.bin .add 3 false true) [.tmp 13, .const (.int .i64 1)]),
  zo 13 (.mv (.tmp 25))]
def pc37_c24 : PCode := .region none false pc37_o24
def pc37_c25 : PCode := .seq pc37_c23 pc37_c24
def pc37_c26 : PCode := .seq pc37_c13 pc37_c25
def pc37_c27 : PCode := .seq pc37_c10 pc37_c26
def pc37_c28 : PCode := .loop pc37_c27
def pc37_c29 : PCode := .block 0 pc37_c28
def pc37_c30 : PCode := .seq pc37_c9 pc37_c29
def pc37_o31 : List POper := [zo 4 (.mv (.const (.bool true)))]
def pc37_c31 : PCode := .region none false pc37_o31
def pc37_c32 : PCode := .ret
def pc37_c33 : PCode := .seq pc37_c31 pc37_c32
def pc37_c34 : PCode := .seq pc37_c30 pc37_c33
def pc37_c35 : PCode := .seq pc37_c8 pc37_c34
def pc37_c36 : PCode := .seq pc37_c1 pc37_c35
def pc37_r : List PRes := [PRes.tmp 4 []]
def pc37 : PFunc := ⟨26, pc37_r, pc37_c36, false⟩
def pc37_a : Ann := {
  kr := fun
    | 4 => some ([0, 1, 12, 13], [], [])
    | _ => none
  ka := fun
    | _ => 0
  kh := fun
    | 0 => some (.imm)
    | 1 => some (.imm)
    | 5 => some (.imm)
    | 16 => some (.imm)
    | 17 => some (.imm)
    | 18 => some (.imm)
    | 19 => some (.imm)
    | 20 => some (.imm)
    | 21 => some (.imm)
    | 22 => some (.imm)
    | 23 => some (.imm)
    | _ => none
  ow := fun t => match t with
    | 64 => [(1, 5, 1)]
    | _ => []
  tc := fun t => match t with
    | 64 => true
    | _ => false }
theorem pc37_ok : compFn Try.prog pc37_a Try.f37 = some pc37 := by kernel_rfl


-- 38: slices.Equal[[]vedette/api.Hand,vedette/api.Hand]
def pc38_o1 : List POper := [zo 4 (.mv (.const (.bool false)))]
def pc38_c1 : PCode := .region none false pc38_o1
def pc38_o2 : List POper := [zo 6 (.mv (.tmp 0)),
  zo 7 (.lenS (.tmp 6)),
  zo 8 (.mv (.tmp 1)),
  zo 9 (.lenS (.tmp 8)),
  zo 10 (.prim (.bin .neq 3 false false) [.tmp 7, .tmp 9])]
def pc38_c2 : PCode := .region none false pc38_o2
def pc38_o3 : List POper := [zo 4 (.mv (.const (.bool false)))]
def pc38_c3 : PCode := .region none false pc38_o3
def pc38_c4 : PCode := .ret
def pc38_c5 : PCode := .seq pc38_c3 pc38_c4
def pc38_c6 : PCode := .skip
def pc38_c7 : PCode := .cond (.tmp 10) pc38_c5 pc38_c6
def pc38_c8 : PCode := .seq pc38_c2 pc38_c7
def pc38_o9 : List POper := [zo 11 (.mv (.tmp 0)),
  zo 12 (.lenS (.tmp 11)),
  zo 13 (.mv (.const (.int .i64 0)))]
def pc38_c9 : PCode := .region none false pc38_o9
def pc38_o10 : List POper := [zo 14 (.prim (.bin .lss 3 false false) [.tmp 13, .tmp 12])]
def pc38_c10 : PCode := .region (some ([0, 1, 12, 13], [], [])) false pc38_o10
def pc38_c11 : PCode := .skip
def pc38_c12 : PCode := .exit 0
def pc38_c13 : PCode := .cond (.tmp 14) pc38_c11 pc38_c12
def pc38_o14 : List POper := [zo 15 (.mv (.tmp 13)),
  zo 5 (.mv (.tmp 15))]
def pc38_c14 : PCode := .region none false pc38_o14
def pc38_o15 : List POper := [⟨some 16, .mv (.tmp 0), none, [(0, .imm)]⟩,
  ⟨some 17, .mv (.tmp 5), none, [(5, .imm)]⟩,
  ⟨some 18, .iaddrS 2 (.tmp 16) (.tmp 17), none, [(16, .imm), (17, .imm)]⟩,
  ⟨some 19, .load true 2 (.tmp 18), none, [(18, .imm)]⟩,
  ⟨some 20, .mv (.tmp 1), none, [(1, .imm)]⟩,
  ⟨some 21, .mv (.tmp 5), none, [(5, .imm)]⟩,
  ⟨some 22, .iaddrS 2 (.tmp 20) (.tmp 21), none, [(20, .imm), (21, .imm)]⟩,
  ⟨some 23, .load true 2 (.tmp 22), none, [(22, .imm)]⟩,
  ⟨some 24, .prim (.bin .neq 44 false false) [.tmp 19, .tmp 23], none, [(19, .imm), (23, .imm)]⟩]
def pc38_c15 : PCode := .region none true pc38_o15
def pc38_o16 : List POper := [zo 4 (.mv (.const (.bool false)))]
def pc38_c16 : PCode := .region none false pc38_o16
def pc38_c17 : PCode := .ret
def pc38_c18 : PCode := .seq pc38_c16 pc38_c17
def pc38_c19 : PCode := .skip
def pc38_c20 : PCode := .cond (.tmp 24) pc38_c18 pc38_c19
def pc38_c21 : PCode := .seq pc38_c15 pc38_c20
def pc38_c22 : PCode := .seq pc38_c14 pc38_c21
def pc38_c23 : PCode := .block 1 pc38_c22
def pc38_o24 : List POper := [zo 25 (.prim (.bin .add 3 false true) [.tmp 13, .const (.int .i64 1)]),
  zo 13 (.mv (.tmp 25))]
def pc38_c24 : PCode := .region none false pc38_o24
def pc38_c25 : PCode := .seq pc38_c23 pc38_c24
def pc38_c26 : PCode := .seq pc38_c13 pc38_c25
def pc38_c27 : PCode := .seq pc38_c10 pc38_c26
def pc38_c28 : PCode := .loop pc38_c27
def pc38_c29 : PCode := .block 0 pc38_c28
def pc38_c30 : PCode := .seq pc38_c9 pc38_c29
def pc38_o31 : List POper := [zo 4 (.mv (.const (.bool true)))]
def pc38_c31 : PCode := .region none false pc38_o31
def pc38_c32 : PCode := .ret
def pc38_c33 : PCode := .seq pc38_c31 pc38_c32
def pc38_c34 : PCode := .seq pc38_c30 pc38_c33
def pc38_c35 : PCode := .seq pc38_c8 pc38_c34
def pc38_c36 : PCode := .seq pc38_c1 pc38_c35
def pc38_r : List PRes := [PRes.tmp 4 []]
def pc38 : PFunc := ⟨26, pc38_r, pc38_c36, false⟩
def pc38_a : Ann := {
  kr := fun
    | 4 => some ([0, 1, 12, 13], [], [])
    | _ => none
  ka := fun
    | _ => 0
  kh := fun
    | 0 => some (.imm)
    | 1 => some (.imm)
    | 5 => some (.imm)
    | 16 => some (.imm)
    | 17 => some (.imm)
    | 18 => some (.imm)
    | 19 => some (.imm)
    | 20 => some (.imm)
    | 21 => some (.imm)
    | 22 => some (.imm)
    | 23 => some (.imm)
    | _ => none
  ow := fun t => match t with
    | 64 => [(1, 5, 1)]
    | _ => []
  tc := fun t => match t with
    | 64 => true
    | _ => false }
theorem pc38_ok : compFn Try.prog pc38_a Try.f38 = some pc38 := by kernel_rfl


-- 39: slices.Equal[[]vedette/api.Command,vedette/api.Command]
def pc39_o1 : List POper := [zo 4 (.mv (.const (.bool false)))]
def pc39_c1 : PCode := .region none false pc39_o1
def pc39_o2 : List POper := [zo 6 (.mv (.tmp 0)),
  zo 7 (.lenS (.tmp 6)),
  zo 8 (.mv (.tmp 1)),
  zo 9 (.lenS (.tmp 8)),
  zo 10 (.prim (.bin .neq 3 false false) [.tmp 7, .tmp 9])]
def pc39_c2 : PCode := .region none false pc39_o2
def pc39_o3 : List POper := [zo 4 (.mv (.const (.bool false)))]
def pc39_c3 : PCode := .region none false pc39_o3
def pc39_c4 : PCode := .ret
def pc39_c5 : PCode := .seq pc39_c3 pc39_c4
def pc39_c6 : PCode := .skip
def pc39_c7 : PCode := .cond (.tmp 10) pc39_c5 pc39_c6
def pc39_c8 : PCode := .seq pc39_c2 pc39_c7
def pc39_o9 : List POper := [zo 11 (.mv (.tmp 0)),
  zo 12 (.lenS (.tmp 11)),
  zo 13 (.mv (.const (.int .i64 0)))]
def pc39_c9 : PCode := .region none false pc39_o9
def pc39_o10 : List POper := [zo 14 (.prim (.bin .lss 3 false false) [.tmp 13, .tmp 12])]
def pc39_c10 : PCode := .region (some ([0, 1, 12, 13], [], [])) false pc39_o10
def pc39_c11 : PCode := .skip
def pc39_c12 : PCode := .exit 0
def pc39_c13 : PCode := .cond (.tmp 14) pc39_c11 pc39_c12
def pc39_o14 : List POper := [zo 15 (.mv (.tmp 13)),
  zo 5 (.mv (.tmp 15))]
def pc39_c14 : PCode := .region none false pc39_o14
def pc39_o15 : List POper := [⟨some 16, .mv (.tmp 0), none, [(0, .imm)]⟩,
  ⟨some 17, .mv (.tmp 5), none, [(5, .imm)]⟩,
  ⟨some 18, .iaddrS 22 (.tmp 16) (.tmp 17), none, [(16, .imm), (17, .imm)]⟩,
  ⟨some 19, .load true 22 (.tmp 18), none, [(18, .imm)]⟩,
  ⟨some 20, .mv (.tmp 1), none, [(1, .imm)]⟩,
  ⟨some 21, .mv (.tmp 5), none, [(5, .imm)]⟩,
  ⟨some 22, .iaddrS 22 (.tmp 20) (.tmp 21), none, [(20, .imm), (21, .imm)]⟩,
  ⟨some 23, .load true 22 (.tmp 22), none, [(22, .imm)]⟩,
  ⟨some 24, .prim (.bin .neq 53 false false) [.tmp 19, .tmp 23], none, [(19, .imm), (23, .imm)]⟩]
def pc39_c15 : PCode := .region none true pc39_o15
def pc39_o16 : List POper := [zo 4 (.mv (.const (.bool false)))]
def pc39_c16 : PCode := .region none false pc39_o16
def pc39_c17 : PCode := .ret
def pc39_c18 : PCode := .seq pc39_c16 pc39_c17
def pc39_c19 : PCode := .skip
def pc39_c20 : PCode := .cond (.tmp 24) pc39_c18 pc39_c19
def pc39_c21 : PCode := .seq pc39_c15 pc39_c20
def pc39_c22 : PCode := .seq pc39_c14 pc39_c21
def pc39_c23 : PCode := .block 1 pc39_c22
def pc39_o24 : List POper := [zo 25 (.prim (.bin .add 3 false true) [.tmp 13, .const (.int .i64 1)]),
  zo 13 (.mv (.tmp 25))]
def pc39_c24 : PCode := .region none false pc39_o24
def pc39_c25 : PCode := .seq pc39_c23 pc39_c24
def pc39_c26 : PCode := .seq pc39_c13 pc39_c25
def pc39_c27 : PCode := .seq pc39_c10 pc39_c26
def pc39_c28 : PCode := .loop pc39_c27
def pc39_c29 : PCode := .block 0 pc39_c28
def pc39_c30 : PCode := .seq pc39_c9 pc39_c29
def pc39_o31 : List POper := [zo 4 (.mv (.const (.bool true)))]
def pc39_c31 : PCode := .region none false pc39_o31
def pc39_c32 : PCode := .ret
def pc39_c33 : PCode := .seq pc39_c31 pc39_c32
def pc39_c34 : PCode := .seq pc39_c30 pc39_c33
def pc39_c35 : PCode := .seq pc39_c8 pc39_c34
def pc39_c36 : PCode := .seq pc39_c1 pc39_c35
def pc39_r : List PRes := [PRes.tmp 4 []]
def pc39 : PFunc := ⟨26, pc39_r, pc39_c36, false⟩
def pc39_a : Ann := {
  kr := fun
    | 4 => some ([0, 1, 12, 13], [], [])
    | _ => none
  ka := fun
    | _ => 0
  kh := fun
    | 0 => some (.imm)
    | 1 => some (.imm)
    | 5 => some (.imm)
    | 16 => some (.imm)
    | 17 => some (.imm)
    | 18 => some (.imm)
    | 19 => some (.imm)
    | 20 => some (.imm)
    | 21 => some (.imm)
    | 22 => some (.imm)
    | 23 => some (.imm)
    | _ => none
  ow := fun t => match t with
    | 64 => [(1, 5, 1)]
    | _ => []
  tc := fun t => match t with
    | 64 => true
    | _ => false }
theorem pc39_ok : compFn Try.prog pc39_a Try.f39 = some pc39 := by kernel_rfl


-- 12: vedette/note.Same
def pc12_o1 : List POper := [zo 2 (.box 26 (.tmp 0) []),
  zo 3 (.box 26 (.tmp 1) []),
  zo 4 (.mv (.const (.bool false)))]
def pc12_c1 : PCode := .region none false pc12_o1
def pc12_o2 : List POper := [zo 5 (.faddr 0 (.tmp 2)),
  zo 6 (.load false 1 (.tmp 5)),
  zo 7 (.faddr 0 (.tmp 3)),
  zo 8 (.load false 1 (.tmp 7)),
  zo 9 (.prim (.bin .eql 3 false false) [.tmp 6, .tmp 8]),
  zo 10 (.mv (.tmp 9)),
  ⟨some 11, .faddr 1 (.tmp 2), some (10, true), []⟩,
  ⟨some 12, .load false 1 (.tmp 11), some (10, true), []⟩,
  ⟨some 13, .faddr 1 (.tmp 3), some (10, true), []⟩,
  ⟨some 14, .load false 1 (.tmp 13), some (10, true), []⟩,
  ⟨some 15, .prim (.bin .eql 3 false false) [.tmp 12, .tmp 14], some (10, true), []⟩,
  zo 16 (.pick (.tmp 10) (.tmp 15) (.const (.bool false))),
  zo 17 (.mv (.tmp 16)),
  ⟨some 18, .faddr 2 (.tmp 2), some (17, true), []⟩,
  ⟨some 19, .load false 1 (.tmp 18), some (17, true), []⟩,
  ⟨some 20, .faddr 2 (.tmp 3), some (17, true), []⟩,
  ⟨some 21, .load false 1 (.tmp 20), some (17, true), []⟩,
  ⟨some 22, .call true [[(0, 11)], [(0, 11)]] 37 [.tmp 19, .tmp 21], some (17, true), []⟩,
  zo 23 (.pick (.tmp 17) (.tmp 22) (.const (.bool false))),
  zo 24 (.mv (.tmp 23)),
  ⟨some 25, .faddr 3 (.tmp 2), some (24, true), []⟩,
  ⟨some 26, .load false 1 (.tmp 25), some (24, true), []⟩,
  ⟨some 27, .faddr 3 (.tmp 3), some (24, true), []⟩,
  ⟨some 28, .load false 1 (.tmp 27), some (24, true), []⟩,
  ⟨some 29, .call true [[(0, 2)], [(0, 2)]] 38 [.tmp 26, .tmp 28], some (24, true), []⟩,
  zo 30 (.pick (.tmp 24) (.tmp 29) (.const (.bool false))),
  zo 31 (.mv (.tmp 30)),
  ⟨some 32, .faddr 4 (.tmp 2), some (31, true), []⟩,
  ⟨some 33, .load false 1 (.tmp 32), some (31, true), []⟩,
  ⟨some 34, .faddr 4 (.tmp 3), some (31, true), []⟩,
  ⟨some 35, .load false 1 (.tmp 34), some (31, true), []⟩,
  ⟨some 36, .call true [[(0, 11)], [(0, 11)]] 37 [.tmp 33, .tmp 35], some (31, true), []⟩,
  zo 37 (.pick (.tmp 31) (.tmp 36) (.const (.bool false))),
  zo 38 (.mv (.tmp 37)),
  ⟨some 39, .faddr 5 (.tmp 2), some (38, true), []⟩,
  ⟨some 40, .load false 1 (.tmp 39), some (38, true), []⟩,
  ⟨some 41, .faddr 5 (.tmp 3), some (38, true), []⟩,
  ⟨some 42, .load false 1 (.tmp 41), some (38, true), []⟩,
  ⟨some 43, .call true [[(0, 22)], [(0, 22)]] 39 [.tmp 40, .tmp 42], some (38, true), []⟩,
  zo 44 (.pick (.tmp 38) (.tmp 43) (.const (.bool false))),
  zo 4 (.mv (.tmp 44))]
def pc12_c2 : PCode := .region none false pc12_o2
def pc12_c3 : PCode := .ret
def pc12_c4 : PCode := .seq pc12_c2 pc12_c3
def pc12_c5 : PCode := .seq pc12_c1 pc12_c4
def pc12_r : List PRes := [PRes.tmp 4 []]
def pc12 : PFunc := ⟨45, pc12_r, pc12_c5, false⟩
def pc12_a : Ann := {
  kr := fun
    | _ => none
  ka := fun
    | _ => 0
  kh := fun
    | _ => none
  ow := fun t => match t with
    | 64 => [(1, 5, 1)]
    | _ => []
  tc := fun t => match t with
    | 64 => true
    | _ => false }
theorem pc12_ok : compFn Try.prog pc12_a Try.f12 = some pc12 := by kernel_rfl


-- 40: vedette/vedetteref6.SameAll
def pc40_o1 : List POper := [zo 4 (.mv (.const (.bool false)))]
def pc40_c1 : PCode := .region none false pc40_o1
def pc40_o2 : List POper := [zo 6 (.mv (.tmp 0)),
  zo 7 (.lenS (.tmp 6)),
  zo 8 (.mv (.tmp 1)),
  zo 9 (.lenS (.tmp 8)),
  zo 10 (.prim (.bin .neq 3 false false) [.tmp 7, .tmp 9])]
def pc40_c2 : PCode := .region none false pc40_o2
def pc40_o3 : List POper := [zo 4 (.mv (.const (.bool false)))]
def pc40_c3 : PCode := .region none false pc40_o3
def pc40_c4 : PCode := .ret
def pc40_c5 : PCode := .seq pc40_c3 pc40_c4
def pc40_c6 : PCode := .skip
def pc40_c7 : PCode := .cond (.tmp 10) pc40_c5 pc40_c6
def pc40_c8 : PCode := .seq pc40_c2 pc40_c7
def pc40_o9 : List POper := [zo 5 (.mv (.const (.int .i64 0)))]
def pc40_c9 : PCode := .region none false pc40_o9
def pc40_o10 : List POper := [zo 11 (.mv (.tmp 5)),
  zo 12 (.mv (.tmp 0)),
  zo 13 (.lenS (.tmp 12)),
  zo 14 (.prim (.bin .lss 3 false false) [.tmp 11, .tmp 13])]
def pc40_c10 : PCode := .region (some ([0, 1, 5], [], [])) false pc40_o10
def pc40_c11 : PCode := .skip
def pc40_c12 : PCode := .exit 0
def pc40_c13 : PCode := .cond (.tmp 14) pc40_c11 pc40_c12
def pc40_c14 : PCode := .seq pc40_c10 pc40_c13
def pc40_o15 : List POper := [⟨some 17, .mv (.tmp 0), none, [(0, .imm)]⟩,
  ⟨some 18, .mv (.tmp 5), none, [(5, .imm)]⟩,
  ⟨some 19, .iaddrS 11 (.tmp 17) (.tmp 18), none, [(17, .imm), (18, .imm)]⟩,
  ⟨some 20, .load true 11 (.tmp 19), none, [(19, .imm)]⟩,
  ⟨some 21, .mv (.tmp 1), none, [(1, .imm)]⟩,
  ⟨some 22, .mv (.tmp 5), none, [(5, .imm)]⟩,
  ⟨some 23, .iaddrS 11 (.tmp 21) (.tmp 22), none, [(21, .imm), (22, .imm)]⟩,
  ⟨some 24, .load true 11 (.tmp 23), none, [(23, .imm)]⟩,
  ⟨some 25, .prim (.bin .neq 55 false false) [.tmp 20, .tmp 24], none, [(20, .imm), (24, .imm)]⟩]
def pc40_c15 : PCode := .region none true pc40_o15
def pc40_o16 : List POper := [zo 4 (.mv (.const (.bool false)))]
def pc40_c16 : PCode := .region none false pc40_o16
def pc40_c17 : PCode := .ret
def pc40_c18 : PCode := .seq pc40_c16 pc40_c17
def pc40_c19 : PCode := .skip
def pc40_c20 : PCode := .cond (.tmp 25) pc40_c18 pc40_c19
def pc40_c21 : PCode := .seq pc40_c15 pc40_c20
def pc40_c22 : PCode := .block 1 pc40_c21
def pc40_o23 : List POper := [zo 15 (.mv (.tmp 5)),
  zo 16 (.prim (.bin .add 3 false true) [.tmp 15, .const (.int .i64 1)]),
  zo 5 (.mv (.tmp 16))]
def pc40_c23 : PCode := .region none false pc40_o23
def pc40_c24 : PCode := .seq pc40_c22 pc40_c23
def pc40_c25 : PCode := .seq pc40_c14 pc40_c24
def pc40_c26 : PCode := .loop pc40_c25
def pc40_c27 : PCode := .block 0 pc40_c26
def pc40_c28 : PCode := .seq pc40_c9 pc40_c27
def pc40_o29 : List POper := [zo 4 (.mv (.const (.bool true)))]
def pc40_c29 : PCode := .region none false pc40_o29
def pc40_c30 : PCode := .ret
def pc40_c31 : PCode := .seq pc40_c29 pc40_c30
def pc40_c32 : PCode := .seq pc40_c28 pc40_c31
def pc40_c33 : PCode := .seq pc40_c8 pc40_c32
def pc40_c34 : PCode := .seq pc40_c1 pc40_c33
def pc40_r : List PRes := [PRes.tmp 4 []]
def pc40 : PFunc := ⟨26, pc40_r, pc40_c34, false⟩
def pc40_a : Ann := {
  kr := fun
    | 4 => some ([0, 1, 5], [], [])
    | _ => none
  ka := fun
    | _ => 0
  kh := fun
    | 0 => some (.imm)
    | 1 => some (.imm)
    | 5 => some (.imm)
    | 17 => some (.imm)
    | 18 => some (.imm)
    | 19 => some (.imm)
    | 20 => some (.imm)
    | 21 => some (.imm)
    | 22 => some (.imm)
    | 23 => some (.imm)
    | 24 => some (.imm)
    | _ => none
  ow := fun t => match t with
    | 64 => [(1, 5, 1)]
    | _ => []
  tc := fun t => match t with
    | 64 => true
    | _ => false }
theorem pc40_ok : compFn Try.prog pc40_a Try.f40 = some pc40 := by kernel_rfl


-- 13: vedette/vedetteref17.Same
def pc13_o1 : List POper := [zo 2 (.box 26 (.tmp 0) []),
  zo 3 (.box 26 (.tmp 1) []),
  zo 4 (.mv (.const (.bool false)))]
def pc13_c1 : PCode := .region none false pc13_o1
def pc13_o2 : List POper := [zo 7 (.faddr 0 (.tmp 2)),
  zo 8 (.load false 1 (.tmp 7)),
  zo 9 (.faddr 0 (.tmp 3)),
  zo 10 (.load false 1 (.tmp 9)),
  zo 11 (.prim (.bin .neq 3 false false) [.tmp 8, .tmp 10]),
  zo 12 (.mv (.tmp 11)),
  ⟨some 13, .faddr 1 (.tmp 2), some (12, false), []⟩,
  ⟨some 14, .load false 1 (.tmp 13), some (12, false), []⟩,
  ⟨some 15, .faddr 1 (.tmp 3), some (12, false), []⟩,
  ⟨some 16, .load false 1 (.tmp 15), some (12, false), []⟩,
  ⟨some 17, .prim (.bin .neq 3 false false) [.tmp 14, .tmp 16], some (12, false), []⟩,
  zo 18 (.pick (.tmp 12) (.const (.bool true)) (.tmp 17)),
  zo 19 (.mv (.tmp 18)),
  ⟨some 20, .faddr 2 (.tmp 2), some (19, false), []⟩,
  ⟨some 21, .load false 1 (.tmp 20), some (19, false), []⟩,
  ⟨some 22, .faddr 2 (.tmp 3), some (19, false), []⟩,
  ⟨some 23, .load false 1 (.tmp 22), some (19, false), []⟩,
  ⟨some 24, .call true [[(0, 11)], [(0, 11)]] 40 [.tmp 21, .tmp 23], some (19, false), []⟩,
  ⟨some 25, .prim (.un .not) [.tmp 24], some (19, false), []⟩,
  zo 26 (.pick (.tmp 19) (.const (.bool true)) (.tmp 25)),
  zo 27 (.mv (.tmp 26)),
  ⟨some 28, .faddr 4 (.tmp 2), some (27, false), []⟩,
  ⟨some 29, .load false 1 (.tmp 28), some (27, false), []⟩,
  ⟨some 30, .faddr 4 (.tmp 3), some (27, false), []⟩,
  ⟨some 31, .load false 1 (.tmp 30), some (27, false), []⟩,
  ⟨some 32, .call true [[(0, 11)], [(0, 11)]] 40 [.tmp 29, .tmp 31], some (27, false), []⟩,
  ⟨some 33, .prim (.un .not) [.tmp 32], some (27, false), []⟩,
  zo 34 (.pick (.tmp 27) (.const (.bool true)) (.tmp 33)),
  zo 35 (.mv (.tmp 34)),
  ⟨some 36, .faddr 3 (.tmp 2), some (35, false), []⟩,
  ⟨some 37, .load false 1 (.tmp 36), some (35, false), []⟩,
  ⟨some 38, .lenS (.tmp 37), some (35, false), []⟩,
  ⟨some 39, .faddr 3 (.tmp 3), some (35, false), []⟩,
  ⟨some 40, .load false 1 (.tmp 39), some (35, false), []⟩,
  ⟨some 41, .lenS (.tmp 40), some (35, false), []⟩,
  ⟨some 42, .prim (.bin .neq 3 false false) [.tmp 38, .tmp 41], some (35, false), []⟩,
  zo 43 (.pick (.tmp 35) (.const (.bool true)) (.tmp 42)),
  zo 44 (.mv (.tmp 43)),
  ⟨some 45, .faddr 5 (.tmp 2), some (44, false), []⟩,
  ⟨some 46, .load false 1 (.tmp 45), some (44, false), []⟩,
  ⟨some 47, .lenS (.tmp 46), some (44, false), []⟩,
  ⟨some 48, .faddr 5 (.tmp 3), some (44, false), []⟩,
  ⟨some 49, .load false 1 (.tmp 48), some (44, false), []⟩,
  ⟨some 50, .lenS (.tmp 49), some (44, false), []⟩,
  ⟨some 51, .prim (.bin .neq 3 false false) [.tmp 47, .tmp 50], some (44, false), []⟩,
  zo 52 (.pick (.tmp 44) (.const (.bool true)) (.tmp 51))]
def pc13_c2 : PCode := .region none false pc13_o2
def pc13_o3 : List POper := [zo 4 (.mv (.const (.bool false)))]
def pc13_c3 : PCode := .region none false pc13_o3
def pc13_c4 : PCode := .ret
def pc13_c5 : PCode := .seq pc13_c3 pc13_c4
def pc13_c6 : PCode := .skip
def pc13_c7 : PCode := .cond (.tmp 52) pc13_c5 pc13_c6
def pc13_c8 : PCode := .seq pc13_c2 pc13_c7
def pc13_o9 : List POper := [zo 5 (.mv (.const (.int .i64 0)))]
def pc13_c9 : PCode := .region none false pc13_o9
def pc13_o10 : List POper := [zo 53 (.mv (.tmp 5)),
  zo 54 (.faddr 3 (.tmp 2)),
  zo 55 (.load false 1 (.tmp 54)),
  zo 56 (.lenS (.tmp 55)),
  zo 57 (.prim (.bin .lss 3 false false) [.tmp 53, .tmp 56])]
def pc13_c10 : PCode := .region (some ([2, 3, 5], [2, 3], [])) false pc13_o10
def pc13_c11 : PCode := .skip
def pc13_c12 : PCode := .exit 0
def pc13_c13 : PCode := .cond (.tmp 57) pc13_c11 pc13_c12
def pc13_c14 : PCode := .seq pc13_c10 pc13_c13
def pc13_o15 : List POper := [⟨some 60, .faddr 3 (.tmp 2), none, [(2, .at_ 2 0)]⟩,
  ⟨some 61, .load false 1 (.tmp 60), none, [(60, .at_ 2 3)]⟩,
  ⟨some 62, .mv (.tmp 5), none, [(5, .imm)]⟩,
  ⟨some 63, .iaddrS 2 (.tmp 61) (.tmp 62), none, [(61, .imm), (62, .imm)]⟩,
  ⟨some 64, .load true 2 (.tmp 63), none, [(63, .imm)]⟩,
  ⟨some 65, .faddr 3 (.tmp 3), none, [(3, .at_ 3 0)]⟩,
  ⟨some 66, .load false 1 (.tmp 65), none, [(65, .at_ 3 3)]⟩,
  ⟨some 67, .mv (.tmp 5), none, [(5, .imm)]⟩,
  ⟨some 68, .iaddrS 2 (.tmp 66) (.tmp 67), none, [(66, .imm), (67, .imm)]⟩,
  ⟨some 69, .load true 2 (.tmp 68), none, [(68, .imm)]⟩,
  ⟨some 70, .prim (.bin .neq 44 false false) [.tmp 64, .tmp 69], none, [(64, .imm), (69, .imm)]⟩]
def pc13_c15 : PCode := .region none true pc13_o15
def pc13_o16 : List POper := [zo 4 (.mv (.const (.bool false)))]
def pc13_c16 : PCode := .region none false pc13_o16
def pc13_c17 : PCode := .ret
def pc13_c18 : PCode := .seq pc13_c16 pc13_c17
def pc13_c19 : PCode := .skip
def pc13_c20 : PCode := .cond (.tmp 70) pc13_c18 pc13_c19
def pc13_c21 : PCode := .seq pc13_c15 pc13_c20
def pc13_c22 : PCode := .block 1 pc13_c21
def pc13_o23 : List POper := [zo 58 (.mv (.tmp 5)),
  zo 59 (.prim (.bin .add 3 false true) [.tmp 58, .const (.int .i64 1)]),
  zo 5 (.mv (.tmp 59))]
def pc13_c23 : PCode := .region none false pc13_o23
def pc13_c24 : PCode := .seq pc13_c22 pc13_c23
def pc13_c25 : PCode := .seq pc13_c14 pc13_c24
def pc13_c26 : PCode := .loop pc13_c25
def pc13_c27 : PCode := .block 0 pc13_c26
def pc13_c28 : PCode := .seq pc13_c9 pc13_c27
def pc13_o29 : List POper := [zo 6 (.mv (.const (.int .i64 0)))]
def pc13_c29 : PCode := .region none false pc13_o29
def pc13_o30 : List POper := [zo 71 (.mv (.tmp 6)),
  zo 72 (.faddr 5 (.tmp 2)),
  zo 73 (.load false 1 (.tmp 72)),
  zo 74 (.lenS (.tmp 73)),
  zo 75 (.prim (.bin .lss 3 false false) [.tmp 71, .tmp 74])]
def pc13_c30 : PCode := .region (some ([2, 3, 6], [2, 3], [])) false pc13_o30
def pc13_c31 : PCode := .skip
def pc13_c32 : PCode := .exit 2
def pc13_c33 : PCode := .cond (.tmp 75) pc13_c31 pc13_c32
def pc13_c34 : PCode := .seq pc13_c30 pc13_c33
def pc13_o35 : List POper := [⟨some 78, .faddr 5 (.tmp 2), none, [(2, .at_ 2 0)]⟩,
  ⟨some 79, .load false 1 (.tmp 78), none, [(78, .at_ 2 5)]⟩,
  ⟨some 80, .mv (.tmp 6), none, [(6, .imm)]⟩,
  ⟨some 81, .iaddrS 22 (.tmp 79) (.tmp 80), none, [(79, .imm), (80, .imm)]⟩,
  ⟨some 82, .load true 22 (.tmp 81), none, [(81, .imm)]⟩,
  ⟨some 83, .faddr 5 (.tmp 3), none, [(3, .at_ 3 0)]⟩,
  ⟨some 84, .load false 1 (.tmp 83), none, [(83, .at_ 3 5)]⟩,
  ⟨some 85, .mv (.tmp 6), none, [(6, .imm)]⟩,
  ⟨some 86, .iaddrS 22 (.tmp 84) (.tmp 85), none, [(84, .imm), (85, .imm)]⟩,
  ⟨some 87, .load true 22 (.tmp 86), none, [(86, .imm)]⟩,
  ⟨some 88, .prim (.bin .neq 53 false false) [.tmp 82, .tmp 87], none, [(82, .imm), (87, .imm)]⟩]
def pc13_c35 : PCode := .region none true pc13_o35
def pc13_o36 : List POper := [zo 4 (.mv (.const (.bool false)))]
def pc13_c36 : PCode := .region none false pc13_o36
def pc13_c37 : PCode := .ret
def pc13_c38 : PCode := .seq pc13_c36 pc13_c37
def pc13_c39 : PCode := .skip
def pc13_c40 : PCode := .cond (.tmp 88) pc13_c38 pc13_c39
def pc13_c41 : PCode := .seq pc13_c35 pc13_c40
def pc13_c42 : PCode := .block 3 pc13_c41
def pc13_o43 : List POper := [zo 76 (.mv (.tmp 6)),
  zo 77 (.prim (.bin .add 3 false true) [.tmp 76, .const (.int .i64 1)]),
  zo 6 (.mv (.tmp 77))]
def pc13_c43 : PCode := .region none false pc13_o43
def pc13_c44 : PCode := .seq pc13_c42 pc13_c43
def pc13_c45 : PCode := .seq pc13_c34 pc13_c44
def pc13_c46 : PCode := .loop pc13_c45
def pc13_c47 : PCode := .block 2 pc13_c46
def pc13_c48 : PCode := .seq pc13_c29 pc13_c47
def pc13_o49 : List POper := [zo 4 (.mv (.const (.bool true)))]
def pc13_c49 : PCode := .region none false pc13_o49
def pc13_c50 : PCode := .ret
def pc13_c51 : PCode := .seq pc13_c49 pc13_c50
def pc13_c52 : PCode := .seq pc13_c48 pc13_c51
def pc13_c53 : PCode := .seq pc13_c28 pc13_c52
def pc13_c54 : PCode := .seq pc13_c8 pc13_c53
def pc13_c55 : PCode := .seq pc13_c1 pc13_c54
def pc13_r : List PRes := [PRes.tmp 4 []]
def pc13 : PFunc := ⟨89, pc13_r, pc13_c55, false⟩
def pc13_a : Ann := {
  kr := fun
    | 4 => some ([2, 3, 5], [2, 3], [])
    | 9 => some ([2, 3, 6], [2, 3], [])
    | _ => none
  ka := fun
    | _ => 0
  kh := fun
    | 2 => some (.at_ 2 0)
    | 3 => some (.at_ 3 0)
    | 5 => some (.imm)
    | 6 => some (.imm)
    | 60 => some (.at_ 2 3)
    | 61 => some (.imm)
    | 62 => some (.imm)
    | 63 => some (.imm)
    | 64 => some (.imm)
    | 65 => some (.at_ 3 3)
    | 66 => some (.imm)
    | 67 => some (.imm)
    | 68 => some (.imm)
    | 69 => some (.imm)
    | 78 => some (.at_ 2 5)
    | 79 => some (.imm)
    | 80 => some (.imm)
    | 81 => some (.imm)
    | 82 => some (.imm)
    | 83 => some (.at_ 3 5)
    | 84 => some (.imm)
    | 85 => some (.imm)
    | 86 => some (.imm)
    | 87 => some (.imm)
    | _ => none
  ow := fun t => match t with
    | 64 => [(1, 5, 1)]
    | _ => []
  tc := fun t => match t with
    | 64 => true
    | _ => false }
theorem pc13_ok : compFn Try.prog pc13_a Try.f13 = some pc13 := by kernel_rfl


-- 83: vedette/num.Get
def pc83_o1 : List POper := [zo 2 (.mv (.const (.int .u64 0))),
  zo 3 (.mv (.const (.int .i64 0))),
  zo 4 (.mv (.const (.int .i64 0)))]
def pc83_c1 : PCode := .region none false pc83_o1
def pc83_o2 : List POper := [zo 5 (.mv (.const (.int .u64 0))),
  zo 6 (.mv (.const (.int .i64 0)))]
def pc83_c2 : PCode := .region none false pc83_o2
def pc83_c3 : PCode := .label
def pc83_o4 : List POper := [zo 9 (.mv (.tmp 0)),
  zo 10 (.s2b 5 (.tmp 9)),
  zo 11 (.lenS (.tmp 10)),
  zo 12 (.mv (.const (.int .i64 0)))]
def pc83_c4 : PCode := .region none false pc83_o4
def pc83_o5 : List POper := [zo 13 (.prim (.bin .lss 3 false false) [.tmp 12, .tmp 11])]
def pc83_c5 : PCode := .region (some ([5, 6, 10, 11, 12], [], [])) false pc83_o5
def pc83_c6 : PCode := .skip
def pc83_c7 : PCode := .exit 0
def pc83_c8 : PCode := .cond (.tmp 13) pc83_c6 pc83_c7
def pc83_o9 : List POper := [zo 14 (.mv (.tmp 12)),
  zo 15 (.iaddrS 1 (.tmp 10) (.tmp 12)),
  zo 16 (.load false 1 (.tmp 15)),
  zo 7 (.mv (.tmp 14)),
  zo 8 (.mv (.tmp 16))]
def pc83_c9 : PCode := .region none false pc83_o9
def pc83_o10 : List POper := [zo 18 (.mv (.tmp 7)),
  zo 19 (.prim (.bin .eql 3 false true) [.tmp 18, .const (.int .i64 9)]),
  zo 20 (.mv (.tmp 19)),
  ⟨some 21, .mv (.tmp 8), some (20, true), []⟩,
  ⟨some 22, .prim (.bin .gtr 5 false true) [.tmp 21, .const (.int .u8 1)], some (20, true), []⟩,
  zo 23 (.pick (.tmp 20) (.tmp 22) (.const (.bool false))),
  zo 17 (.mv (.tmp 23))]
def pc83_c10 : PCode := .region none false pc83_o10
def pc83_c11 : PCode := .skip
def pc83_o12 : List POper := [zo 24 (.mv (.tmp 7)),
  zo 25 (.prim (.bin .gtr 3 false true) [.tmp 24, .const (.int .i64 0)]),
  zo 26 (.mv (.tmp 25)),
  ⟨some 27, .mv (.tmp 8), some (26, true), []⟩,
  ⟨some 28, .prim (.bin .eql 5 false true) [.tmp 27, .const (.int .u8 0)], some (26, true), []⟩,
  zo 29 (.pick (.tmp 26) (.tmp 28) (.const (.bool false))),
  zo 17 (.mv (.tmp 29))]
def pc83_c12 : PCode := .region (some ([5, 6, 7, 8, 10, 11, 12], [], [])) false pc83_o12
def pc83_c13 : PCode := .cond (.tmp 17) pc83_c11 pc83_c12
def pc83_c14 : PCode := .seq pc83_c10 pc83_c13
def pc83_o15 : List POper := [zo 2 (.mv (.const (.int .u64 0))),
  zo 3 (.mv (.const (.int .i64 0))),
  zo 4 (.mv (.const (.int .i64 11)))]
def pc83_c15 : PCode := .region none false pc83_o15
def pc83_c16 : PCode := .ret
def pc83_c17 : PCode := .seq pc83_c15 pc83_c16
def pc83_o18 : List POper := [zo 31 (.mv (.tmp 8)),
  zo 32 (.prim (.bin .lss 5 false true) [.tmp 31, .const (.int .u8 128)]),
  zo 30 (.mv (.tmp 32))]
def pc83_c18 : PCode := .region (some ([5, 6, 7, 8, 10, 11, 12], [], [])) false pc83_o18
def pc83_o19 : List POper := [zo 33 (.mv (.tmp 5)),
  zo 34 (.mv (.tmp 8)),
  zo 35 (.prim (.conv 5 38) [.tmp 34]),
  zo 36 (.mv (.tmp 7)),
  zo 37 (.prim (.bin .mul 3 true false) [.const (.int .i64 7), .tmp 36]),
  zo 38 (.prim (.bin .shl 38 false false) [.tmp 35, .tmp 37]),
  zo 39 (.prim (.bin .or 38 false false) [.tmp 33, .tmp 38]),
  zo 5 (.mv (.tmp 39))]
def pc83_c19 : PCode := .region none false pc83_o19
def pc83_o20 : List POper := [zo 40 (.mv (.tmp 7)),
  zo 41 (.prim (.bin .add 3 false true) [.tmp 40, .const (.int .i64 1)]),
  zo 6 (.mv (.tmp 41))]
def pc83_c20 : PCode := .region none false pc83_o20
def pc83_c21 : PCode := .exit 0
def pc83_c22 : PCode := .seq pc83_c20 pc83_c21
def pc83_c23 : PCode := .seq pc83_c19 pc83_c22
def pc83_c24 : PCode := .skip
def pc83_c25 : PCode := .cond (.tmp 30) pc83_c23 pc83_c24
def pc83_c26 : PCode := .seq pc83_c18 pc83_c25
def pc83_c27 : PCode := .cond (.tmp 17) pc83_c17 pc83_c26
def pc83_c28 : PCode := .seq pc83_c14 pc83_c27
def pc83_c29 : PCode := .block 2 pc83_c28
def pc83_o30 : List POper := [zo 42 (.mv (.tmp 5)),
  zo 43 (.mv (.tmp 8)),
  zo 44 (.prim (.bin .andNot 5 false true) [.tmp 43, .const (.int .u8 128)]),
  zo 45 (.prim (.conv 5 38) [.tmp 44]),
  zo 46 (.mv (.tmp 7)),
  zo 47 (.prim (.bin .mul 3 true false) [.const (.int .i64 7), .tmp 46]),
  zo 48 (.prim (.bin .shl 38 false false) [.tmp 45, .tmp 47]),
  zo 49 (.prim (.bin .or 38 false false) [.tmp 42, .tmp 48]),
  zo 5 (.mv (.tmp 49))]
def pc83_c30 : PCode := .region none false pc83_o30
def pc83_c31 : PCode := .seq pc83_c29 pc83_c30
def pc83_c32 : PCode := .seq pc83_c9 pc83_c31
def pc83_c33 : PCode := .block 1 pc83_c32
def pc83_o34 : List POper := [zo 50 (.prim (.bin .add 3 false true) [.tmp 12, .const (.int .i64 1)]),
  zo 12 (.mv (.tmp 50))]
def pc83_c34 : PCode := .region none false pc83_o34
def pc83_c35 : PCode := .seq pc83_c33 pc83_c34
def pc83_c36 : PCode := .seq pc83_c8 pc83_c35
def pc83_c37 : PCode := .seq pc83_c5 pc83_c36
def pc83_c38 : PCode := .loop pc83_c37
def pc83_c39 : PCode := .block 0 pc83_c38
def pc83_c40 : PCode := .seq pc83_c4 pc83_c39
def pc83_o41 : List POper := [zo 51 (.mv (.tmp 6)),
  zo 52 (.prim (.bin .eql 3 false true) [.tmp 51, .const (.int .i64 0)])]
def pc83_c41 : PCode := .region (some ([5, 6], [], [])) false pc83_o41
def pc83_o42 : List POper := [zo 2 (.mv (.const (.int .u64 0))),
  zo 3 (.mv (.const (.int .i64 0))),
  zo 4 (.mv (.const (.int .i64 10)))]
def pc83_c42 : PCode := .region none false pc83_o42
def pc83_c43 : PCode := .ret
def pc83_c44 : PCode := .seq pc83_c42 pc83_c43
def pc83_c45 : PCode := .skip
def pc83_c46 : PCode := .cond (.tmp 52) pc83_c44 pc83_c45
def pc83_c47 : PCode := .seq pc83_c41 pc83_c46
def pc83_o48 : List POper := [zo 53 (.mv (.tmp 5)),
  zo 54 (.mv (.tmp 6)),
  zo 2 (.mv (.tmp 53)),
  zo 3 (.mv (.tmp 54)),
  zo 4 (.mv (.const (.int .i64 0)))]
def pc83_c48 : PCode := .region none false pc83_o48
def pc83_c49 : PCode := .ret
def pc83_c50 : PCode := .seq pc83_c48 pc83_c49
def pc83_c51 : PCode := .seq pc83_c47 pc83_c50
def pc83_c52 : PCode := .seq pc83_c40 pc83_c51
def pc83_c53 : PCode := .seq pc83_c3 pc83_c52
def pc83_c54 : PCode := .seq pc83_c2 pc83_c53
def pc83_c55 : PCode := .scope pc83_c54
def pc83_c56 : PCode := .seq pc83_c1 pc83_c55
def pc83_r : List PRes := [PRes.tmp 2 [], PRes.tmp 3 [], PRes.tmp 4 []]
def pc83 : PFunc := ⟨55, pc83_r, pc83_c56, false⟩
def pc83_a : Ann := {
  kr := fun
    | 3 => some ([5, 6, 10, 11, 12], [], [])
    | 6 => some ([5, 6, 7, 8, 10, 11, 12], [], [])
    | 8 => some ([5, 6, 7, 8, 10, 11, 12], [], [])
    | 13 => some ([5, 6], [], [])
    | _ => none
  ka := fun
    | _ => 0
  kh := fun
    | _ => none
  ow := fun t => match t with
    | 64 => [(1, 5, 1)]
    | _ => []
  tc := fun t => match t with
    | 64 => true
    | _ => false }
theorem pc83_ok : compFn Try.prog pc83_a Try.f83 = some pc83 := by kernel_rfl


-- 69: vedette/num.Texts
def pc69_o1 : List POper := [zo 4 (.mv (.const (.string { data := { toList := [] } }))),
  zo 5 (.mv (.const (.int .i64 0))),
  zo 6 (.mv (.const (.int .i64 0)))]
def pc69_c1 : PCode := .region none false pc69_o1
def pc69_o2 : List POper := [zo 12 (.mv (.tmp 0)),
  zo 13 (.call true [[]] 83 [.tmp 12]),
  zo 11 (.mv (.tmp 13)),
  zo 14 (.ext (.tmp 11) 0),
  zo 15 (.ext (.tmp 11) 1),
  zo 16 (.ext (.tmp 11) 2),
  zo 7 (.mv (.tmp 14)),
  zo 8 (.mv (.tmp 15)),
  zo 9 (.mv (.tmp 16))]
def pc69_c2 : PCode := .region none false pc69_o2
def pc69_o3 : List POper := [zo 18 (.mv (.tmp 9)),
  zo 19 (.prim (.bin .neq 29 false true) [.tmp 18, .const (.int .i64 0)]),
  zo 17 (.mv (.tmp 19))]
def pc69_c3 : PCode := .region none false pc69_o3
def pc69_o4 : List POper := [zo 20 (.mv (.tmp 9)),
  zo 4 (.mv (.const (.string { data := { toList := [] } }))),
  zo 5 (.mv (.const (.int .i64 0))),
  zo 6 (.mv (.tmp 20))]
def pc69_c4 : PCode := .region none false pc69_o4
def pc69_c5 : PCode := .ret
def pc69_c6 : PCode := .seq pc69_c4 pc69_c5
def pc69_o7 : List POper := [zo 22 (.mv (.tmp 7)),
  zo 23 (.mv (.tmp 1)),
  zo 24 (.prim .max [.tmp 23, .const (.int .i64 0)]),
  zo 25 (.prim (.conv 3 38) [.tmp 24]),
  zo 26 (.prim (.bin .gtr 38 false false) [.tmp 22, .tmp 25]),
  zo 21 (.mv (.tmp 26))]
def pc69_c7 : PCode := .region none false pc69_o7
def pc69_o8 : List POper := [zo 4 (.mv (.const (.string { data := { toList := [] } }))),
  zo 5 (.mv (.const (.int .i64 0))),
  zo 6 (.mv (.const (.int .i64 13)))]
def pc69_c8 : PCode := .region none false pc69_o8
def pc69_c9 : PCode := .ret
def pc69_c10 : PCode := .seq pc69_c8 pc69_c9
def pc69_o11 : List POper := [zo 28 (.mv (.tmp 7)),
  zo 29 (.mv (.tmp 0)),
  zo 30 (.prim (.len 9) [.tmp 29]),
  zo 31 (.mv (.tmp 8)),
  zo 32 (.prim (.bin .sub 3 false false) [.tmp 30, .tmp 31]),
  zo 33 (.prim (.conv 3 38) [.tmp 32]),
  zo 34 (.prim (.bin .gtr 38 false false) [.tmp 28, .tmp 33]),
  zo 27 (.mv (.tmp 34))]
def pc69_c11 : PCode := .region none false pc69_o11
def pc69_o12 : List POper := [zo 4 (.mv (.const (.string { data := { toList := [] } }))),
  zo 5 (.mv (.const (.int .i64 0))),
  zo 6 (.mv (.const (.int .i64 10)))]
def pc69_c12 : PCode := .region none false pc69_o12
def pc69_c13 : PCode := .ret
def pc69_c14 : PCode := .seq pc69_c12 pc69_c13
def pc69_c15 : PCode := .skip
def pc69_c16 : PCode := .cond (.tmp 27) pc69_c14 pc69_c15
def pc69_c17 : PCode := .seq pc69_c11 pc69_c16
def pc69_c18 : PCode := .cond (.tmp 21) pc69_c10 pc69_c17
def pc69_c19 : PCode := .seq pc69_c7 pc69_c18
def pc69_c20 : PCode := .cond (.tmp 17) pc69_c6 pc69_c19
def pc69_c21 : PCode := .seq pc69_c3 pc69_c20
def pc69_c22 : PCode := .block 0 pc69_c21
def pc69_o23 : List POper := [zo 35 (.mv (.tmp 8)),
  zo 36 (.mv (.tmp 7)),
  zo 37 (.prim (.conv 38 3) [.tmp 36]),
  zo 38 (.prim (.bin .add 3 false false) [.tmp 35, .tmp 37]),
  zo 10 (.mv (.tmp 38))]
def pc69_c23 : PCode := .region none false pc69_o23
def pc69_o24 : List POper := [zo 39 (.mv (.tmp 0)),
  zo 40 (.mv (.tmp 8)),
  zo 41 (.mv (.tmp 10)),
  zo 42 (.prim (.slice 9 true true) [.tmp 39, .tmp 40, .tmp 41]),
  zo 43 (.mv (.tmp 10)),
  zo 4 (.mv (.tmp 42)),
  zo 5 (.mv (.tmp 43)),
  zo 6 (.mv (.const (.int .i64 0)))]
def pc69_c24 : PCode := .region none false pc69_o24
def pc69_c25 : PCode := .ret
def pc69_c26 : PCode := .seq pc69_c24 pc69_c25
def pc69_c27 : PCode := .seq pc69_c23 pc69_c26
def pc69_c28 : PCode := .seq pc69_c22 pc69_c27
def pc69_c29 : PCode := .seq pc69_c2 pc69_c28
def pc69_c30 : PCode := .seq pc69_c1 pc69_c29
def pc69_r : List PRes := [PRes.tmp 4 [], PRes.tmp 5 [], PRes.tmp 6 []]
def pc69 : PFunc := ⟨44, pc69_r, pc69_c30, false⟩
def pc69_a : Ann := {
  kr := fun
    | _ => none
  ka := fun
    | _ => 0
  kh := fun
    | _ => none
  ow := fun t => match t with
    | 64 => [(1, 5, 1)]
    | _ => []
  tc := fun t => match t with
    | 64 => true
    | _ => false }
theorem pc69_ok : compFn Try.prog pc69_a Try.f69 = some pc69 := by kernel_rfl


-- 41: vedette/sum.Open
def pc41_o1 : List POper := [zo 2 (.mv (.const (.string { data := { toList := [] } }))),
  zo 3 (.mv (.const (.int .i64 0))),
  zo 4 (.mv (.const (.int .i64 0)))]
def pc41_c1 : PCode := .region none false pc41_o1
def pc41_o2 : List POper := [zo 9 (.mv (.tmp 0)),
  zo 10 (.call true [[], []] 69 [.tmp 9, .const (.int .i64 40000)]),
  zo 8 (.mv (.tmp 10)),
  zo 11 (.ext (.tmp 8) 0),
  zo 12 (.ext (.tmp 8) 1),
  zo 13 (.ext (.tmp 8) 2),
  zo 5 (.mv (.tmp 11)),
  zo 6 (.mv (.tmp 12)),
  zo 7 (.mv (.tmp 13))]
def pc41_c2 : PCode := .region none false pc41_o2
def pc41_o3 : List POper := [zo 15 (.mv (.tmp 7)),
  zo 16 (.prim (.bin .neq 29 false true) [.tmp 15, .const (.int .i64 0)]),
  zo 14 (.mv (.tmp 16))]
def pc41_c3 : PCode := .region none false pc41_o3
def pc41_o4 : List POper := [zo 17 (.mv (.tmp 7)),
  zo 2 (.mv (.const (.string { data := { toList := [] } }))),
  zo 3 (.mv (.const (.int .i64 0))),
  zo 4 (.mv (.tmp 17))]
def pc41_c4 : PCode := .region none false pc41_o4
def pc41_c5 : PCode := .ret
def pc41_c6 : PCode := .seq pc41_c4 pc41_c5
def pc41_o7 : List POper := [zo 19 (.mv (.tmp 0)),
  zo 20 (.prim (.len 9) [.tmp 19]),
  zo 21 (.mv (.tmp 6)),
  zo 22 (.prim (.bin .sub 3 false false) [.tmp 20, .tmp 21]),
  zo 23 (.prim (.bin .lss 3 false true) [.tmp 22, .const (.int .i64 4)]),
  zo 18 (.mv (.tmp 23))]
def pc41_c7 : PCode := .region none false pc41_o7
def pc41_o8 : List POper := [zo 2 (.mv (.const (.string { data := { toList := [] } }))),
  zo 3 (.mv (.const (.int .i64 0))),
  zo 4 (.mv (.const (.int .i64 10)))]
def pc41_c8 : PCode := .region none false pc41_o8
def pc41_c9 : PCode := .ret
def pc41_c10 : PCode := .seq pc41_c8 pc41_c9
def pc41_o11 : List POper := [⟨some 25, .mv (.tmp 0), none, [(0, .imm)]⟩,
  ⟨some 26, .mv (.tmp 6), none, [(6, .imm)]⟩,
  ⟨some 27, .mv (.tmp 6), none, [(6, .imm)]⟩,
  ⟨some 28, .prim (.bin .add 3 false true) [.tmp 27, .const (.int .i64 4)], none, [(27, .imm)]⟩,
  ⟨some 29, .prim (.slice 9 true true) [.tmp 25, .tmp 26, .tmp 28], none, [(25, .imm), (26, .imm), (28, .imm)]⟩,
  ⟨some 30, .mv (.tmp 5), none, [(5, .imm)]⟩,
  ⟨some 31, .call false [[]] 51 [.tmp 30], none, [(30, .imm)]⟩,
  ⟨some 32, .call false [[]] 50 [.tmp 31], none, [(31, .imm)]⟩,
  ⟨some 33, .prim (.bin .neq 9 false false) [.tmp 29, .tmp 32], none, [(29, .imm), (32, .imm)]⟩,
  ⟨some 24, .mv (.tmp 33), none, [(33, .imm)]⟩]
def pc41_c11 : PCode := .region none true pc41_o11
def pc41_o12 : List POper := [zo 2 (.mv (.const (.string { data := { toList := [] } }))),
  zo 3 (.mv (.const (.int .i64 0))),
  zo 4 (.mv (.const (.int .i64 12)))]
def pc41_c12 : PCode := .region none false pc41_o12
def pc41_c13 : PCode := .ret
def pc41_c14 : PCode := .seq pc41_c12 pc41_c13
def pc41_c15 : PCode := .skip
def pc41_c16 : PCode := .cond (.tmp 24) pc41_c14 pc41_c15
def pc41_c17 : PCode := .seq pc41_c11 pc41_c16
def pc41_c18 : PCode := .cond (.tmp 18) pc41_c10 pc41_c17
def pc41_c19 : PCode := .seq pc41_c7 pc41_c18
def pc41_c20 : PCode := .cond (.tmp 14) pc41_c6 pc41_c19
def pc41_c21 : PCode := .seq pc41_c3 pc41_c20
def pc41_c22 : PCode := .block 0 pc41_c21
def pc41_o23 : List POper := [zo 34 (.mv (.tmp 5)),
  zo 35 (.mv (.tmp 6)),
  zo 36 (.prim (.bin .add 3 false true) [.tmp 35, .const (.int .i64 4)]),
  zo 2 (.mv (.tmp 34)),
  zo 3 (.mv (.tmp 36)),
  zo 4 (.mv (.const (.int .i64 0)))]
def pc41_c23 : PCode := .region none false pc41_o23
def pc41_c24 : PCode := .ret
def pc41_c25 : PCode := .seq pc41_c23 pc41_c24
def pc41_c26 : PCode := .seq pc41_c22 pc41_c25
def pc41_c27 : PCode := .seq pc41_c2 pc41_c26
def pc41_c28 : PCode := .seq pc41_c1 pc41_c27
def pc41_r : List PRes := [PRes.tmp 2 [], PRes.tmp 3 [], PRes.tmp 4 []]
def pc41 : PFunc := ⟨37, pc41_r, pc41_c28, false⟩
def pc41_a : Ann := {
  kr := fun
    | _ => none
  ka := fun
    | _ => 0
  kh := fun
    | 0 => some (.imm)
    | 5 => some (.imm)
    | 6 => some (.imm)
    | 25 => some (.imm)
    | 26 => some (.imm)
    | 27 => some (.imm)
    | 28 => some (.imm)
    | 29 => some (.imm)
    | 30 => some (.imm)
    | 31 => some (.imm)
    | 32 => some (.imm)
    | 33 => some (.imm)
    | _ => none
  ow := fun t => match t with
    | 64 => [(1, 5, 1)]
    | _ => []
  tc := fun t => match t with
    | 64 => true
    | _ => false }
theorem pc41_ok : compFn Try.prog pc41_a Try.f41 = some pc41 := by kernel_rfl


-- 73: (*vedette/note.reader).took
def pc73_o1 : List POper := [zo 6 (.mv (.tmp 0)),
  zo 7 (.nilc (.tmp 6)),
  zo 8 (.faddr 1 (.tmp 7)),
  zo 9 (.load false 1 (.tmp 8)),
  zo 10 (.mv (.tmp 1)),
  zo 11 (.prim (.bin .add 3 false false) [.tmp 9, .tmp 10]),
  zo 12 (.nilc (.tmp 6)),
  zo 13 (.faddr 1 (.tmp 12)),
  ⟨none, .store 1 (.tmp 13) (.tmp 11), none, []⟩]
def pc73_c1 : PCode := .region none false pc73_o1
def pc73_o2 : List POper := [zo 14 (.mv (.tmp 0)),
  zo 15 (.mv (.tmp 0)),
  zo 16 (.nilc (.tmp 15)),
  zo 17 (.faddr 2 (.tmp 16)),
  zo 18 (.load false 1 (.tmp 17)),
  zo 19 (.mv (.tmp 18)),
  ⟨some 20, .mv (.tmp 2), some (19, false), []⟩,
  ⟨some 21, .prim (.bin .neq 29 false true) [.tmp 20, .const (.int .i64 0)], some (19, false), []⟩,
  zo 22 (.pick (.tmp 19) (.const (.bool true)) (.tmp 21)),
  zo 23 (.nilc (.tmp 14)),
  zo 24 (.faddr 2 (.tmp 23)),
  ⟨none, .store 1 (.tmp 24) (.tmp 22), none, []⟩]
def pc73_c2 : PCode := .region none false pc73_o2
def pc73_c3 : PCode := .seq pc73_c1 pc73_c2
def pc73_r : List PRes := []
def pc73 : PFunc := ⟨25, pc73_r, pc73_c3, false⟩
def pc73_a : Ann := {
  kr := fun
    | _ => none
  ka := fun
    | _ => 0
  kh := fun
    | _ => none
  ow := fun t => match t with
    | 64 => [(1, 5, 1)]
    | _ => []
  tc := fun t => match t with
    | 64 => true
    | _ => false }
theorem pc73_ok : compFn Try.prog pc73_a Try.f73 = some pc73 := by kernel_rfl


-- 70: (*vedette/note.reader).number
def pc70_o1 : List POper := [zo 4 (.mv (.const (.int .i64 0)))]
def pc70_c1 : PCode := .region none false pc70_o1
def pc70_o2 : List POper := [zo 8 (.mv (.tmp 0)),
  zo 9 (.nilc (.tmp 8)),
  zo 10 (.faddr 2 (.tmp 9)),
  zo 11 (.load false 1 (.tmp 10))]
def pc70_c2 : PCode := .region none false pc70_o2
def pc70_o3 : List POper := [zo 4 (.mv (.const (.int .i64 0)))]
def pc70_c3 : PCode := .region none false pc70_o3
def pc70_c4 : PCode := .ret
def pc70_c5 : PCode := .seq pc70_c3 pc70_c4
def pc70_c6 : PCode := .skip
def pc70_c7 : PCode := .cond (.tmp 11) pc70_c5 pc70_c6
def pc70_c8 : PCode := .seq pc70_c2 pc70_c7
def pc70_o9 : List POper := [⟨some 13, .mv (.tmp 0), none, [(0, .at_ 1000000 0)]⟩,
  ⟨some 14, .nilc (.tmp 13), none, [(13, .at_ 1000000 0)]⟩,
  ⟨some 15, .faddr 0 (.tmp 14), none, [(14, .at_ 1000000 0)]⟩,
  ⟨some 16, .load false 1 (.tmp 15), none, [(15, .at_ 1000000 0)]⟩,
  ⟨some 17, .mv (.tmp 0), none, [(0, .at_ 1000000 0)]⟩,
  ⟨some 18, .nilc (.tmp 17), none, [(17, .at_ 1000000 0)]⟩,
  ⟨some 19, .faddr 1 (.tmp 18), none, [(18, .at_ 1000000 0)]⟩,
  ⟨some 20, .load false 1 (.tmp 19), none, [(19, .at_ 1000000 1)]⟩,
  ⟨some 21, .prim (.slice 9 true false) [.tmp 16, .tmp 20], none, [(16, .imm), (20, .imm)]⟩,
  ⟨some 22, .call false [[]] 83 [.tmp 21], none, [(21, .imm)]⟩,
  zo 12 (.mv (.tmp 22)),
  zo 23 (.ext (.tmp 12) 0),
  zo 24 (.ext (.tmp 12) 1),
  zo 25 (.ext (.tmp 12) 2),
  ⟨some 5, .mv (.tmp 23), none, [(23, .imm)]⟩,
  ⟨some 6, .mv (.tmp 24), none, [(24, .imm)]⟩,
  ⟨some 7, .mv (.tmp 25), none, [(25, .imm)]⟩]
def pc70_c9 : PCode := .region none true pc70_o9
def pc70_o10 : List POper := [zo 26 (.mv (.tmp 0)),
  zo 27 (.mv (.tmp 6)),
  zo 28 (.mv (.tmp 7)),
  zo 29 (.call true [[], [], []] 73 [.tmp 26, .tmp 27, .tmp 28])]
def pc70_c10 : PCode := .region none false pc70_o10
def pc70_o11 : List POper := [zo 30 (.mv (.tmp 5)),
  zo 31 (.mv (.tmp 1)),
  zo 32 (.prim (.bin .gtr 38 false false) [.tmp 30, .tmp 31])]
def pc70_c11 : PCode := .region none false pc70_o11
def pc70_o12 : List POper := [zo 33 (.mv (.tmp 0)),
  zo 34 (.nilc (.tmp 33)),
  zo 35 (.faddr 2 (.tmp 34)),
  ⟨none, .store 1 (.tmp 35) (.const (.bool true)), none, []⟩]
def pc70_c12 : PCode := .region none false pc70_o12
def pc70_o13 : List POper := [zo 4 (.mv (.const (.int .i64 0)))]
def pc70_c13 : PCode := .region none false pc70_o13
def pc70_c14 : PCode := .ret
def pc70_c15 : PCode := .seq pc70_c13 pc70_c14
def pc70_c16 : PCode := .seq pc70_c12 pc70_c15
def pc70_c17 : PCode := .skip
def pc70_c18 : PCode := .cond (.tmp 32) pc70_c16 pc70_c17
def pc70_c19 : PCode := .seq pc70_c11 pc70_c18
def pc70_o20 : List POper := [zo 36 (.mv (.tmp 5)),
  zo 37 (.prim (.conv 38 3) [.tmp 36]),
  zo 4 (.mv (.tmp 37))]
def pc70_c20 : PCode := .region none false pc70_o20
def pc70_c21 : PCode := .ret
def pc70_c22 : PCode := .seq pc70_c20 pc70_c21
def pc70_c23 : PCode := .seq pc70_c19 pc70_c22
def pc70_c24 : PCode := .seq pc70_c10 pc70_c23
def pc70_c25 : PCode := .seq pc70_c9 pc70_c24
def pc70_c26 : PCode := .seq pc70_c8 pc70_c25
def pc70_c27 : PCode := .seq pc70_c1 pc70_c26
def pc70_r : List PRes := [PRes.tmp 4 []]
def pc70 : PFunc := ⟨38, pc70_r, pc70_c27, false⟩
def pc70_a : Ann := {
  kr := fun
    | _ => none
  ka := fun
    | _ => 0
  kh := fun
    | 0 => some (.at_ 1000000 0)
    | 13 => some (.at_ 1000000 0)
    | 14 => some (.at_ 1000000 0)
    | 15 => some (.at_ 1000000 0)
    | 16 => some (.imm)
    | 17 => some (.at_ 1000000 0)
    | 18 => some (.at_ 1000000 0)
    | 19 => some (.at_ 1000000 1)
    | 20 => some (.imm)
    | 21 => some (.imm)
    | 23 => some (.imm)
    | 24 => some (.imm)
    | 25 => some (.imm)
    | _ => none
  ow := fun t => match t with
    | 64 => [(1, 5, 1)]
    | _ => []
  tc := fun t => match t with
    | 64 => true
    | _ => false }
theorem pc70_ok : compFn Try.prog pc70_a Try.f70 = some pc70 := by kernel_rfl


-- 98: (*vedette/fields.reader).took
def pc98_o1 : List POper := [zo 6 (.mv (.tmp 0)),
  zo 7 (.nilc (.tmp 6)),
  zo 8 (.faddr 1 (.tmp 7)),
  zo 9 (.load false 1 (.tmp 8)),
  zo 10 (.mv (.tmp 1)),
  zo 11 (.prim (.bin .add 3 false false) [.tmp 9, .tmp 10]),
  zo 12 (.nilc (.tmp 6)),
  zo 13 (.faddr 1 (.tmp 12)),
  ⟨none, .store 1 (.tmp 13) (.tmp 11), none, []⟩]
def pc98_c1 : PCode := .region none false pc98_o1
def pc98_o2 : List POper := [zo 14 (.mv (.tmp 0)),
  zo 15 (.mv (.tmp 2)),
  zo 16 (.nilc (.tmp 14)),
  zo 17 (.faddr 2 (.tmp 16)),
  ⟨none, .store 1 (.tmp 17) (.tmp 15), none, []⟩]
def pc98_c2 : PCode := .region none false pc98_o2
def pc98_c3 : PCode := .seq pc98_c1 pc98_c2
def pc98_r : List PRes := []
def pc98 : PFunc := ⟨18, pc98_r, pc98_c3, false⟩
def pc98_a : Ann := {
  kr := fun
    | _ => none
  ka := fun
    | _ => 0
  kh := fun
    | _ => none
  ow := fun t => match t with
    | 64 => [(1, 5, 1)]
    | _ => []
  tc := fun t => match t with
    | 64 => true
    | _ => false }
theorem pc98_ok : compFn Try.prog pc98_a Try.f98 = some pc98 := by kernel_rfl


-- 96: (*vedette/fields.reader).number
def pc96_o1 : List POper := [zo 2 (.mv (.const (.int .i64 0)))]
def pc96_c1 : PCode := .region none false pc96_o1
def pc96_o2 : List POper := [zo 6 (.mv (.tmp 0)),
  zo 7 (.nilc (.tmp 6)),
  zo 8 (.faddr 2 (.tmp 7)),
  zo 9 (.load false 1 (.tmp 8)),
  zo 10 (.prim (.bin .neq 29 false true) [.tmp 9, .const (.int .i64 0)])]
def pc96_c2 : PCode := .region none false pc96_o2
def pc96_o3 : List POper := [zo 2 (.mv (.const (.int .i64 0)))]
def pc96_c3 : PCode := .region none false pc96_o3
def pc96_c4 : PCode := .ret
def pc96_c5 : PCode := .seq pc96_c3 pc96_c4
def pc96_c6 : PCode := .skip
def pc96_c7 : PCode := .cond (.tmp 10) pc96_c5 pc96_c6
def pc96_c8 : PCode := .seq pc96_c2 pc96_c7
def pc96_o9 : List POper := [⟨some 12, .mv (.tmp 0), none, [(0, .at_ 1000000 0)]⟩,
  ⟨some 13, .nilc (.tmp 12), none, [(12, .at_ 1000000 0)]⟩,
  ⟨some 14, .faddr 0 (.tmp 13), none, [(13, .at_ 1000000 0)]⟩,
  ⟨some 15, .load false 1 (.tmp 14), none, [(14, .at_ 1000000 0)]⟩,
  ⟨some 16, .mv (.tmp 0), none, [(0, .at_ 1000000 0)]⟩,
  ⟨some 17, .nilc (.tmp 16), none, [(16, .at_ 1000000 0)]⟩,
  ⟨some 18, .faddr 1 (.tmp 17), none, [(17, .at_ 1000000 0)]⟩,
  ⟨some 19, .load false 1 (.tmp 18), none, [(18, .at_ 1000000 1)]⟩,
  ⟨some 20, .prim (.slice 9 true false) [.tmp 15, .tmp 19], none, [(15, .imm), (19, .imm)]⟩,
  ⟨some 21, .call false [[]] 83 [.tmp 20], none, [(20, .imm)]⟩,
  zo 11 (.mv (.tmp 21)),
  zo 22 (.ext (.tmp 11) 0),
  zo 23 (.ext (.tmp 11) 1),
  zo 24 (.ext (.tmp 11) 2),
  ⟨some 3, .mv (.tmp 22), none, [(22, .imm)]⟩,
  ⟨some 4, .mv (.tmp 23), none, [(23, .imm)]⟩,
  ⟨some 5, .mv (.tmp 24), none, [(24, .imm)]⟩]
def pc96_c9 : PCode := .region none true pc96_o9
def pc96_o10 : List POper := [zo 25 (.mv (.tmp 0)),
  zo 26 (.mv (.tmp 4)),
  zo 27 (.mv (.tmp 5)),
  zo 28 (.call true [[], [], []] 98 [.tmp 25, .tmp 26, .tmp 27])]
def pc96_c10 : PCode := .region none false pc96_o10
def pc96_o11 : List POper := [zo 29 (.mv (.tmp 3)),
  zo 30 (.prim .min [.tmp 29, .const (.int .u64 1000001)]),
  zo 31 (.prim (.conv 38 3) [.tmp 30]),
  zo 2 (.mv (.tmp 31))]
def pc96_c11 : PCode := .region none false pc96_o11
def pc96_c12 : PCode := .ret
def pc96_c13 : PCode := .seq pc96_c11 pc96_c12
def pc96_c14 : PCode := .seq pc96_c10 pc96_c13
def pc96_c15 : PCode := .seq pc96_c9 pc96_c14
def pc96_c16 : PCode := .seq pc96_c8 pc96_c15
def pc96_c17 : PCode := .seq pc96_c1 pc96_c16
def pc96_r : List PRes := [PRes.tmp 2 []]
def pc96 : PFunc := ⟨32, pc96_r, pc96_c17, false⟩
def pc96_a : Ann := {
  kr := fun
    | _ => none
  ka := fun
    | _ => 0
  kh := fun
    | 0 => some (.at_ 1000000 0)
    | 12 => some (.at_ 1000000 0)
    | 13 => some (.at_ 1000000 0)
    | 14 => some (.at_ 1000000 0)
    | 15 => some (.imm)
    | 16 => some (.at_ 1000000 0)
    | 17 => some (.at_ 1000000 0)
    | 18 => some (.at_ 1000000 1)
    | 19 => some (.imm)
    | 20 => some (.imm)
    | 22 => some (.imm)
    | 23 => some (.imm)
    | 24 => some (.imm)
    | _ => none
  ow := fun t => match t with
    | 64 => [(1, 5, 1)]
    | _ => []
  tc := fun t => match t with
    | 64 => true
    | _ => false }
theorem pc96_ok : compFn Try.prog pc96_a Try.f96 = some pc96 := by kernel_rfl


-- 93: vedette/num.Zag
def pc93_o1 : List POper := [zo 2 (.mv (.const (.int .i64 0)))]
def pc93_c1 : PCode := .region none false pc93_o1
def pc93_o2 : List POper := [zo 3 (.mv (.tmp 0)),
  zo 4 (.prim (.bin .shr 38 false true) [.tmp 3, .const (.int .u64 1)]),
  zo 5 (.prim (.conv 38 2) [.tmp 4]),
  zo 6 (.mv (.tmp 0)),
  zo 7 (.prim (.bin .and 38 false true) [.tmp 6, .const (.int .u64 1)]),
  zo 8 (.prim (.conv 38 2) [.tmp 7]),
  zo 9 (.prim (.un .neg) [.tmp 8]),
  zo 10 (.prim (.bin .xor 2 false false) [.tmp 5, .tmp 9]),
  zo 2 (.mv (.tmp 10))]
def pc93_c2 : PCode := .region none false pc93_o2
def pc93_c3 : PCode := .ret
def pc93_c4 : PCode := .seq pc93_c2 pc93_c3
def pc93_c5 : PCode := .seq pc93_c1 pc93_c4
def pc93_r : List PRes := [PRes.tmp 2 []]
def pc93 : PFunc := ⟨11, pc93_r, pc93_c5, false⟩
def pc93_a : Ann := {
  kr := fun
    | _ => none
  ka := fun
    | _ => 0
  kh := fun
    | _ => none
  ow := fun t => match t with
    | 64 => [(1, 5, 1)]
    | _ => []
  tc := fun t => match t with
    | 64 => true
    | _ => false }
theorem pc93_ok : compFn Try.prog pc93_a Try.f93 = some pc93 := by kernel_rfl


-- 86: vedette/num.Ints
def pc86_o1 : List POper := [zo 2 (.mv (.const (.int .i64 0))),
  zo 3 (.mv (.const (.int .i64 0))),
  zo 4 (.mv (.const (.int .i64 0)))]
def pc86_c1 : PCode := .region none false pc86_o1
def pc86_o2 : List POper := [zo 9 (.mv (.tmp 0)),
  zo 10 (.call true [[]] 83 [.tmp 9]),
  zo 8 (.mv (.tmp 10)),
  zo 11 (.ext (.tmp 8) 0),
  zo 12 (.ext (.tmp 8) 1),
  zo 13 (.ext (.tmp 8) 2),
  zo 5 (.mv (.tmp 11)),
  zo 6 (.mv (.tmp 12)),
  zo 7 (.mv (.tmp 13))]
def pc86_c2 : PCode := .region none false pc86_o2
def pc86_o3 : List POper := [zo 14 (.mv (.tmp 5)),
  zo 15 (.call true [[]] 93 [.tmp 14]),
  zo 16 (.mv (.tmp 6)),
  zo 17 (.mv (.tmp 7)),
  zo 2 (.mv (.tmp 15)),
  zo 3 (.mv (.tmp 16)),
  zo 4 (.mv (.tmp 17))]
def pc86_c3 : PCode := .region none false pc86_o3
def pc86_c4 : PCode := .ret
def pc86_c5 : PCode := .seq pc86_c3 pc86_c4
def pc86_c6 : PCode := .seq pc86_c2 pc86_c5
def pc86_c7 : PCode := .seq pc86_c1 pc86_c6
def pc86_r : List PRes := [PRes.tmp 2 [], PRes.tmp 3 [], PRes.tmp 4 []]
def pc86 : PFunc := ⟨18, pc86_r, pc86_c7, false⟩
def pc86_a : Ann := {
  kr := fun
    | _ => none
  ka := fun
    | _ => 0
  kh := fun
    | _ => none
  ow := fun t => match t with
    | 64 => [(1, 5, 1)]
    | _ => []
  tc := fun t => match t with
    | 64 => true
    | _ => false }
theorem pc86_ok : compFn Try.prog pc86_a Try.f86 = some pc86 := by kernel_rfl


-- 97: (*vedette/fields.reader).field
def pc97_o1 : List POper := [zo 2 (.alloc 48 (.agg { toList := [.int .i64 0, .string { data := { toList := [] } }] }) [])]
def pc97_c1 : PCode := .region none false pc97_o1
def pc97_o2 : List POper := [zo 3 (.alloc 48 (.agg { toList := [.int .i64 0, .string { data := { toList := [] } }] }) [])]
def pc97_c2 : PCode := .region none false pc97_o2
def pc97_o3 : List POper := [zo 10 (.mv (.tmp 0)),
  zo 11 (.nilc (.tmp 10)),
  zo 12 (.faddr 2 (.tmp 11)),
  zo 13 (.load false 1 (.tmp 12)),
  zo 14 (.prim (.bin .neq 29 false true) [.tmp 13, .const (.int .i64 0)])]
def pc97_c3 : PCode := .region none false pc97_o3
def pc97_o4 : List POper := [zo 15 (.load true 2 (.tmp 3)),
  ⟨none, .store 2 (.tmp 2) (.tmp 15), none, []⟩]
def pc97_c4 : PCode := .region none false pc97_o4
def pc97_c5 : PCode := .ret
def pc97_c6 : PCode := .seq pc97_c4 pc97_c5
def pc97_c7 : PCode := .skip
def pc97_c8 : PCode := .cond (.tmp 14) pc97_c6 pc97_c7
def pc97_c9 : PCode := .seq pc97_c3 pc97_c8
def pc97_o10 : List POper := [⟨some 17, .mv (.tmp 0), none, [(0, .at_ 1000000 0)]⟩,
  ⟨some 18, .nilc (.tmp 17), none, [(17, .at_ 1000000 0)]⟩,
  ⟨some 19, .faddr 0 (.tmp 18), none, [(18, .at_ 1000000 0)]⟩,
  ⟨some 20, .load false 1 (.tmp 19), none, [(19, .at_ 1000000 0)]⟩,
  ⟨some 21, .mv (.tmp 0), none, [(0, .at_ 1000000 0)]⟩,
  ⟨some 22, .nilc (.tmp 21), none, [(21, .at_ 1000000 0)]⟩,
  ⟨some 23, .faddr 1 (.tmp 22), none, [(22, .at_ 1000000 0)]⟩,
  ⟨some 24, .load false 1 (.tmp 23), none, [(23, .at_ 1000000 1)]⟩,
  ⟨some 25, .prim (.slice 9 true false) [.tmp 20, .tmp 24], none, [(20, .imm), (24, .imm)]⟩,
  ⟨some 26, .call false [[], []] 69 [.tmp 25, .const (.int .i64 12)], none, [(25, .imm)]⟩,
  zo 16 (.mv (.tmp 26)),
  zo 27 (.ext (.tmp 16) 0),
  zo 28 (.ext (.tmp 16) 1),
  zo 29 (.ext (.tmp 16) 2),
  ⟨some 4, .mv (.tmp 27), none, [(27, .imm)]⟩,
  ⟨some 5, .mv (.tmp 28), none, [(28, .imm)]⟩,
  ⟨some 6, .mv (.tmp 29), none, [(29, .imm)]⟩]
def pc97_c10 : PCode := .region none true pc97_o10
def pc97_o11 : List POper := [zo 30 (.mv (.tmp 0)),
  zo 31 (.mv (.tmp 5)),
  zo 32 (.mv (.tmp 6)),
  zo 33 (.call true [[], [], []] 98 [.tmp 30, .tmp 31, .tmp 32])]
def pc97_c11 : PCode := .region none false pc97_o11
def pc97_o12 : List POper := [zo 34 (.mv (.tmp 4)),
  zo 35 (.faddr 1 (.tmp 3)),
  ⟨none, .store 1 (.tmp 35) (.tmp 34), none, []⟩]
def pc97_c12 : PCode := .region none false pc97_o12
def pc97_o13 : List POper := [zo 36 (.mv (.tmp 4)),
  zo 37 (.prim (.bin .eql 9 false true) [.tmp 36, .const (.string { data := { toList := [] } })]),
  zo 38 (.mv (.tmp 37)),
  ⟨some 39, .mv (.tmp 6), some (38, true), []⟩,
  ⟨some 40, .prim (.bin .eql 29 false true) [.tmp 39, .const (.int .i64 0)], some (38, true), []⟩,
  zo 41 (.pick (.tmp 38) (.tmp 40) (.const (.bool false)))]
def pc97_c13 : PCode := .region none false pc97_o13
def pc97_o14 : List POper := [⟨some 43, .mv (.tmp 0), none, [(0, .at_ 1000000 0)]⟩,
  ⟨some 44, .nilc (.tmp 43), none, [(43, .at_ 1000000 0)]⟩,
  ⟨some 45, .faddr 0 (.tmp 44), none, [(44, .at_ 1000000 0)]⟩,
  ⟨some 46, .load false 1 (.tmp 45), none, [(45, .at_ 1000000 0)]⟩,
  ⟨some 47, .mv (.tmp 0), none, [(0, .at_ 1000000 0)]⟩,
  ⟨some 48, .nilc (.tmp 47), none, [(47, .at_ 1000000 0)]⟩,
  ⟨some 49, .faddr 1 (.tmp 48), none, [(48, .at_ 1000000 0)]⟩,
  ⟨some 50, .load false 1 (.tmp 49), none, [(49, .at_ 1000000 1)]⟩,
  ⟨some 51, .prim (.slice 9 true false) [.tmp 46, .tmp 50], none, [(46, .imm), (50, .imm)]⟩,
  ⟨some 52, .call false [[]] 86 [.tmp 51], none, [(51, .imm)]⟩,
  zo 42 (.mv (.tmp 52)),
  zo 53 (.ext (.tmp 42) 0),
  zo 54 (.ext (.tmp 42) 1),
  zo 55 (.ext (.tmp 42) 2),
  ⟨some 7, .mv (.tmp 53), none, [(53, .imm)]⟩,
  ⟨some 8, .mv (.tmp 54), none, [(54, .imm)]⟩,
  ⟨some 9, .mv (.tmp 55), none, [(55, .imm)]⟩]
def pc97_c14 : PCode := .region none true pc97_o14
def pc97_o15 : List POper := [zo 56 (.mv (.tmp 0)),
  zo 57 (.mv (.tmp 8)),
  zo 58 (.mv (.tmp 9)),
  zo 59 (.call true [[], [], []] 98 [.tmp 56, .tmp 57, .tmp 58])]
def pc97_c15 : PCode := .region none false pc97_o15
def pc97_o16 : List POper := [zo 60 (.mv (.tmp 7)),
  zo 61 (.faddr 0 (.tmp 3)),
  ⟨none, .store 1 (.tmp 61) (.tmp 60), none, []⟩]
def pc97_c16 : PCode := .region none false pc97_o16
def pc97_c17 : PCode := .seq pc97_c15 pc97_c16
def pc97_c18 : PCode := .seq pc97_c14 pc97_c17
def pc97_c19 : PCode := .skip
def pc97_c20 : PCode := .cond (.tmp 41) pc97_c18 pc97_c19
def pc97_c21 : PCode := .seq pc97_c13 pc97_c20
def pc97_c22 : PCode := .seq pc97_c12 pc97_c21
def pc97_o23 : List POper := [zo 62 (.load true 2 (.tmp 3)),
  ⟨none, .store 2 (.tmp 2) (.tmp 62), none, []⟩]
def pc97_c23 : PCode := .region none false pc97_o23
def pc97_c24 : PCode := .ret
def pc97_c25 : PCode := .seq pc97_c23 pc97_c24
def pc97_c26 : PCode := .seq pc97_c22 pc97_c25
def pc97_c27 : PCode := .seq pc97_c11 pc97_c26
def pc97_c28 : PCode := .seq pc97_c10 pc97_c27
def pc97_c29 : PCode := .seq pc97_c9 pc97_c28
def pc97_c30 : PCode := .seq pc97_c2 pc97_c29
def pc97_c31 : PCode := .seq pc97_c1 pc97_c30
def pc97_r : List PRes := [PRes.cell 2 true 2 []]
def pc97 : PFunc := ⟨63, pc97_r, pc97_c31, false⟩
def pc97_a : Ann := {
  kr := fun
    | _ => none
  ka := fun
    | _ => 0
  kh := fun
    | 0 => some (.at_ 1000000 0)
    | 17 => some (.at_ 1000000 0)
    | 18 => some (.at_ 1000000 0)
    | 19 => some (.at_ 1000000 0)
    | 20 => some (.imm)
    | 21 => some (.at_ 1000000 0)
    | 22 => some (.at_ 1000000 0)
    | 23 => some (.at_ 1000000 1)
    | 24 => some (.imm)
    | 25 => some (.imm)
    | 27 => some (.imm)
    | 28 => some (.imm)
    | 29 => some (.imm)
    | 43 => some (.at_ 1000000 0)
    | 44 => some (.at_ 1000000 0)
    | 45 => some (.at_ 1000000 0)
    | 46 => some (.imm)
    | 47 => some (.at_ 1000000 0)
    | 48 => some (.at_ 1000000 0)
    | 49 => some (.at_ 1000000 1)
    | 50 => some (.imm)
    | 51 => some (.imm)
    | 53 => some (.imm)
    | 54 => some (.imm)
    | 55 => some (.imm)
    | _ => none
  ow := fun t => match t with
    | 64 => [(1, 5, 1)]
    | _ => []
  tc := fun t => match t with
    | 64 => true
    | _ => false }
theorem pc97_ok : compFn Try.prog pc97_a Try.f97 = some pc97 := by kernel_rfl


end Go.Proofs.Ytpjejnefegdoeaa
