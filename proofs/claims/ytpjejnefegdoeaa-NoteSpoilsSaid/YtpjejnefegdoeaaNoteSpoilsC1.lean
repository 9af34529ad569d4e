/-
  Code of functions, as the pure machine runs it. No condition.
-/
import Derived.Test.YtpjejnefegdoeaaNoteSpoilsT
namespace Go.Proofs.Ytpjejnefegdoeaa
open Go Go.Rx
set_option maxRecDepth 100000
set_option linter.unusedVariables false
set_option linter.unusedSimpArgs false
set_option linter.unnecessarySimpa false
-- 95: vedette/fields.Read
def pc95_o1 : List POper := [zo 2 (.alloc 124 (.agg { toList := [.int .i64 0, .int .u8 0, .int .i64 0, .int .i64 0, .int .i64 0, .string { data := { toList := [] } }, .int .i64 0, .string { data := { toList := [] } }, .int .i64 0, .string { data := { toList := [] } }, .int .i64 0, .string { data := { toList := [] } }] }) []),
  zo 3 (.mv (.const (.int .i64 0))),
  zo 4 (.mv (.const (.int .i64 0)))]
def pc95_c1 : PCode := .region none false pc95_o1
def pc95_o2 : List POper := [zo 9 (.mv (.tmp 0)),
  zo 10 (.build (.agg { toList := [.string { data := { toList := [] } }, .int .i64 0, .int .i64 0] }) [(0, 1, .tmp 9)]),
  zo 11 (.box 156 (.tmp 10) []),
  zo 5 (.mv (.tmp 11))]
def pc95_c2 : PCode := .region none false pc95_o2
def pc95_o3 : List POper := [zo 12 (.mv (.tmp 5)),
  zo 13 (.call true [[]] 96 [.tmp 12]),
  zo 14 (.build (.agg { toList := [.int .i64 0, .int .u8 0, .int .i64 0, .int .i64 0, .int .i64 0, .string { data := { toList := [] } }, .int .i64 0, .string { data := { toList := [] } }, .int .i64 0, .string { data := { toList := [] } }, .int .i64 0, .string { data := { toList := [] } }] }) [(0, 1, .tmp 13)]),
  zo 6 (.alloc 124 (.agg { toList := [.int .i64 0, .int .u8 0, .int .i64 0, .int .i64 0, .int .i64 0, .string { data := { toList := [] } }, .int .i64 0, .string { data := { toList := [] } }, .int .i64 0, .string { data := { toList := [] } }, .int .i64 0, .string { data := { toList := [] } }] }) []),
  ⟨none, .store 12 (.tmp 6) (.tmp 14), none, []⟩]
def pc95_c3 : PCode := .region none false pc95_o3
def pc95_o4 : List POper := [zo 15 (.mv (.tmp 5)),
  zo 16 (.call true [[]] 96 [.tmp 15]),
  zo 7 (.mv (.tmp 16))]
def pc95_c4 : PCode := .region none false pc95_o4
def pc95_o5 : List POper := [zo 17 (.mv (.tmp 5)),
  zo 18 (.nilc (.tmp 17)),
  zo 19 (.faddr 2 (.tmp 18)),
  zo 20 (.load false 1 (.tmp 19)),
  zo 21 (.prim (.bin .eql 29 false true) [.tmp 20, .const (.int .i64 0)]),
  zo 22 (.mv (.tmp 21)),
  ⟨some 23, .faddr 0 (.tmp 6), some (22, true), []⟩,
  ⟨some 24, .load false 1 (.tmp 23), some (22, true), []⟩,
  ⟨some 25, .prim (.bin .gtr 3 false true) [.tmp 24, .const (.int .i64 1000000)], some (22, true), []⟩,
  ⟨some 26, .mv (.tmp 25), some (22, true), []⟩,
  ⟨some 27, .mv (.tmp 7), some (26, false), []⟩,
  ⟨some 28, .prim (.bin .eql 3 false true) [.tmp 27, .const (.int .i64 0)], some (26, false), []⟩,
  ⟨some 29, .pick (.tmp 26) (.const (.bool true)) (.tmp 28), some (22, true), []⟩,
  ⟨some 30, .mv (.tmp 29), some (22, true), []⟩,
  ⟨some 31, .mv (.tmp 7), some (30, false), []⟩,
  ⟨some 32, .prim (.bin .gtr 3 false true) [.tmp 31, .const (.int .i64 31)], some (30, false), []⟩,
  ⟨some 33, .pick (.tmp 30) (.const (.bool true)) (.tmp 32), some (22, true), []⟩,
  zo 34 (.pick (.tmp 22) (.tmp 33) (.const (.bool false)))]
def pc95_c5 : PCode := .region none false pc95_o5
def pc95_o6 : List POper := [zo 35 (.build (.agg { toList := [.int .i64 0, .int .u8 0, .int .i64 0, .int .i64 0, .int .i64 0, .string { data := { toList := [] } }, .int .i64 0, .string { data := { toList := [] } }, .int .i64 0, .string { data := { toList := [] } }, .int .i64 0, .string { data := { toList := [] } }] }) []),
  ⟨none, .store 12 (.tmp 2) (.tmp 35), none, []⟩,
  zo 3 (.mv (.const (.int .i64 0))),
  zo 4 (.mv (.const (.int .i64 11)))]
def pc95_c6 : PCode := .region none false pc95_o6
def pc95_c7 : PCode := .ret
def pc95_c8 : PCode := .seq pc95_c6 pc95_c7
def pc95_c9 : PCode := .skip
def pc95_c10 : PCode := .cond (.tmp 34) pc95_c8 pc95_c9
def pc95_c11 : PCode := .seq pc95_c5 pc95_c10
def pc95_o12 : List POper := [zo 36 (.mv (.tmp 7)),
  zo 37 (.prim (.conv 3 5) [.tmp 36]),
  zo 38 (.faddr 1 (.tmp 6)),
  ⟨none, .store 1 (.tmp 38) (.tmp 37), none, []⟩]
def pc95_c12 : PCode := .region (some ([2, 5, 6, 7], [2, 6, 11], [])) false pc95_o12
def pc95_o13 : List POper := [zo 39 (.faddr 1 (.tmp 6)),
  zo 40 (.load false 1 (.tmp 39)),
  zo 41 (.prim (.bin .and 5 false true) [.tmp 40, .const (.int .u8 1)]),
  zo 42 (.prim (.bin .neq 5 false true) [.tmp 41, .const (.int .u8 0)])]
def pc95_c13 : PCode := .region none false pc95_o13
def pc95_o14 : List POper := [zo 43 (.mv (.tmp 5)),
  zo 44 (.call true [[]] 96 [.tmp 43]),
  zo 45 (.faddr 2 (.tmp 6)),
  zo 46 (.faddr 0 (.tmp 45)),
  ⟨none, .store 1 (.tmp 46) (.tmp 44), none, []⟩]
def pc95_c14 : PCode := .region none false pc95_o14
def pc95_o15 : List POper := [zo 47 (.mv (.tmp 5)),
  zo 48 (.call true [[]] 96 [.tmp 47]),
  zo 49 (.faddr 2 (.tmp 6)),
  zo 50 (.faddr 1 (.tmp 49)),
  ⟨none, .store 1 (.tmp 50) (.tmp 48), none, []⟩]
def pc95_c15 : PCode := .region none false pc95_o15
def pc95_c16 : PCode := .seq pc95_c14 pc95_c15
def pc95_c17 : PCode := .skip
def pc95_c18 : PCode := .cond (.tmp 42) pc95_c16 pc95_c17
def pc95_c19 : PCode := .seq pc95_c13 pc95_c18
def pc95_c20 : PCode := .seq pc95_c12 pc95_c19
def pc95_c21 : PCode := .label
def pc95_o22 : List POper := [zo 51 (.mv (.const (.int .i64 0)))]
def pc95_c22 : PCode := .region none false pc95_o22
def pc95_o23 : List POper := [zo 52 (.prim (.bin .lss 3 false true) [.tmp 51, .const (.int .i64 4)])]
def pc95_c23 : PCode := .region (some ([2, 5, 6, 51], [2, 6, 11], [])) false pc95_o23
def pc95_c24 : PCode := .skip
def pc95_c25 : PCode := .exit 0
def pc95_c26 : PCode := .cond (.tmp 52) pc95_c24 pc95_c25
def pc95_o27 : List POper := [zo 53 (.mv (.tmp 51)),
  zo 8 (.mv (.tmp 53))]
def pc95_c27 : PCode := .region none false pc95_o27
def pc95_o28 : List POper := [zo 55 (.mv (.tmp 5)),
  zo 56 (.nilc (.tmp 55)),
  zo 57 (.faddr 2 (.tmp 56)),
  zo 58 (.load false 1 (.tmp 57)),
  zo 59 (.prim (.bin .neq 29 false true) [.tmp 58, .const (.int .i64 0)]),
  zo 54 (.mv (.tmp 59))]
def pc95_c28 : PCode := .region none false pc95_o28
def pc95_c29 : PCode := .exit 0
def pc95_o30 : List POper := [zo 61 (.faddr 1 (.tmp 6)),
  zo 62 (.load false 1 (.tmp 61)),
  zo 63 (.mv (.tmp 8)),
  zo 64 (.call true [[], []] 89 [.tmp 62, .tmp 63]),
  zo 60 (.mv (.tmp 64))]
def pc95_c30 : PCode := .region none false pc95_o30
def pc95_o31 : List POper := [zo 65 (.mv (.tmp 8)),
  zo 66 (.mv (.tmp 5)),
  zo 67 (.call true [[]] 97 [.tmp 66]),
  zo 68 (.faddr 4 (.tmp 6)),
  zo 69 (.iaddrA 4 2 (.tmp 68) (.tmp 65)),
  ⟨none, .store 2 (.tmp 69) (.tmp 67), none, []⟩]
def pc95_c31 : PCode := .region none false pc95_o31
def pc95_c32 : PCode := .skip
def pc95_c33 : PCode := .cond (.tmp 60) pc95_c31 pc95_c32
def pc95_c34 : PCode := .seq pc95_c30 pc95_c33
def pc95_c35 : PCode := .cond (.tmp 54) pc95_c29 pc95_c34
def pc95_c36 : PCode := .seq pc95_c28 pc95_c35
def pc95_c37 : PCode := .block 2 pc95_c36
def pc95_c38 : PCode := .seq pc95_c27 pc95_c37
def pc95_c39 : PCode := .block 1 pc95_c38
def pc95_o40 : List POper := [zo 70 (.prim (.bin .add 3 false true) [.tmp 51, .const (.int .i64 1)]),
  zo 51 (.mv (.tmp 70))]
def pc95_c40 : PCode := .region none false pc95_o40
def pc95_c41 : PCode := .seq pc95_c39 pc95_c40
def pc95_c42 : PCode := .seq pc95_c26 pc95_c41
def pc95_c43 : PCode := .seq pc95_c23 pc95_c42
def pc95_c44 : PCode := .loop pc95_c43
def pc95_c45 : PCode := .block 0 pc95_c44
def pc95_c46 : PCode := .seq pc95_c22 pc95_c45
def pc95_o47 : List POper := [zo 71 (.mv (.tmp 5)),
  zo 72 (.nilc (.tmp 71)),
  zo 73 (.faddr 2 (.tmp 72)),
  zo 74 (.load false 1 (.tmp 73)),
  zo 75 (.prim (.bin .neq 29 false true) [.tmp 74, .const (.int .i64 0)])]
def pc95_c47 : PCode := .region (some ([2, 5, 6], [2, 6, 11], [])) false pc95_o47
def pc95_o48 : List POper := [zo 76 (.build (.agg { toList := [.int .i64 0, .int .u8 0, .int .i64 0, .int .i64 0, .int .i64 0, .string { data := { toList := [] } }, .int .i64 0, .string { data := { toList := [] } }, .int .i64 0, .string { data := { toList := [] } }, .int .i64 0, .string { data := { toList := [] } }] }) []),
  ⟨some 77, .mv (.tmp 5), none, [(5, .at_ 11 0)]⟩,
  ⟨some 78, .nilc (.tmp 77), none, [(77, .at_ 11 0)]⟩,
  ⟨some 79, .faddr 2 (.tmp 78), none, [(78, .at_ 11 0)]⟩,
  ⟨some 80, .load false 1 (.tmp 79), none, [(79, .at_ 11 2)]⟩,
  ⟨none, .store 12 (.tmp 2) (.tmp 76), none, [(2, .at_ 2 0), (76, .imm)]⟩,
  zo 3 (.mv (.const (.int .i64 0))),
  ⟨some 4, .mv (.tmp 80), none, [(80, .imm)]⟩]
def pc95_c48 : PCode := .region none true pc95_o48
def pc95_c49 : PCode := .ret
def pc95_c50 : PCode := .seq pc95_c48 pc95_c49
def pc95_c51 : PCode := .skip
def pc95_c52 : PCode := .cond (.tmp 75) pc95_c50 pc95_c51
def pc95_c53 : PCode := .seq pc95_c47 pc95_c52
def pc95_o54 : List POper := [zo 81 (.load true 12 (.tmp 6)),
  zo 82 (.call true [[]] 88 [.tmp 81]),
  zo 83 (.prim (.un .not) [.tmp 82])]
def pc95_c54 : PCode := .region none false pc95_o54
def pc95_o55 : List POper := [zo 84 (.build (.agg { toList := [.int .i64 0, .int .u8 0, .int .i64 0, .int .i64 0, .int .i64 0, .string { data := { toList := [] } }, .int .i64 0, .string { data := { toList := [] } }, .int .i64 0, .string { data := { toList := [] } }, .int .i64 0, .string { data := { toList := [] } }] }) []),
  ⟨none, .store 12 (.tmp 2) (.tmp 84), none, []⟩,
  zo 3 (.mv (.const (.int .i64 0))),
  zo 4 (.mv (.const (.int .i64 11)))]
def pc95_c55 : PCode := .region none false pc95_o55
def pc95_c56 : PCode := .ret
def pc95_c57 : PCode := .seq pc95_c55 pc95_c56
def pc95_c58 : PCode := .skip
def pc95_c59 : PCode := .cond (.tmp 83) pc95_c57 pc95_c58
def pc95_c60 : PCode := .seq pc95_c54 pc95_c59
def pc95_o61 : List POper := [⟨some 85, .load true 12 (.tmp 6), none, [(6, .at_ 6 0)]⟩,
  ⟨some 86, .mv (.tmp 5), none, [(5, .at_ 11 0)]⟩,
  ⟨some 87, .nilc (.tmp 86), none, [(86, .at_ 11 0)]⟩,
  ⟨some 88, .faddr 1 (.tmp 87), none, [(87, .at_ 11 0)]⟩,
  ⟨some 89, .load false 1 (.tmp 88), none, [(88, .at_ 11 1)]⟩,
  ⟨none, .store 12 (.tmp 2) (.tmp 85), none, [(2, .at_ 2 0), (85, .imm)]⟩,
  ⟨some 3, .mv (.tmp 89), none, [(89, .imm)]⟩,
  zo 4 (.mv (.const (.int .i64 0)))]
def pc95_c61 : PCode := .region none true pc95_o61
def pc95_c62 : PCode := .ret
def pc95_c63 : PCode := .seq pc95_c61 pc95_c62
def pc95_c64 : PCode := .seq pc95_c60 pc95_c63
def pc95_c65 : PCode := .seq pc95_c53 pc95_c64
def pc95_c66 : PCode := .seq pc95_c46 pc95_c65
def pc95_c67 : PCode := .seq pc95_c21 pc95_c66
def pc95_c68 : PCode := .seq pc95_c20 pc95_c67
def pc95_c69 : PCode := .seq pc95_c11 pc95_c68
def pc95_c70 : PCode := .seq pc95_c4 pc95_c69
def pc95_c71 : PCode := .seq pc95_c3 pc95_c70
def pc95_c72 : PCode := .seq pc95_c2 pc95_c71
def pc95_c73 : PCode := .scope pc95_c72
def pc95_c74 : PCode := .seq pc95_c1 pc95_c73
def pc95_r : List PRes := [PRes.cell 2 true 12 [], PRes.tmp 3 [], PRes.tmp 4 []]
def pc95 : PFunc := ⟨90, pc95_r, pc95_c74, false⟩
def pc95_a : Ann := {
  kr := fun
    | 6 => some ([2, 5, 6, 7], [2, 6, 11], [])
    | 11 => some ([2, 5, 6, 51], [2, 6, 11], [])
    | 17 => some ([2, 5, 6], [2, 6, 11], [])
    | _ => none
  ka := fun
    | _ => 0
  kh := fun
    | 2 => some (.at_ 2 0)
    | 5 => some (.at_ 11 0)
    | 6 => some (.at_ 6 0)
    | 76 => some (.imm)
    | 77 => some (.at_ 11 0)
    | 78 => some (.at_ 11 0)
    | 79 => some (.at_ 11 2)
    | 80 => some (.imm)
    | 85 => some (.imm)
    | 86 => some (.at_ 11 0)
    | 87 => some (.at_ 11 0)
    | 88 => some (.at_ 11 1)
    | 89 => some (.imm)
    | _ => none
  ow := fun t => match t with
    | 64 => [(1, 5, 1)]
    | _ => []
  tc := fun t => match t with
    | 64 => true
    | _ => false }
theorem pc95_ok : compFn Try.prog pc95_a Try.f95 = some pc95 := by kernel_rfl


-- 92: vedette/thing.Read
def pc92_o1 : List POper := [zo 2 (.alloc 55 (.agg { toList := [.int .i64 0, .int .i64 0, .int .i64 0, .int .i64 0, .string { data := { toList := [] } }, .int .i64 0, .string { data := { toList := [] } }, .int .i64 0, .string { data := { toList := [] } }, .int .i64 0, .string { data := { toList := [] } }] }) []),
  zo 3 (.mv (.const (.int .i64 0))),
  zo 4 (.mv (.const (.int .i64 0)))]
def pc92_c1 : PCode := .region none false pc92_o1
def pc92_o2 : List POper := [zo 9 (.mv (.tmp 0)),
  zo 10 (.call true [[]] 95 [.tmp 9]),
  zo 8 (.mv (.tmp 10)),
  zo 11 (.ext (.tmp 8) 0),
  zo 12 (.ext (.tmp 8) 1),
  zo 13 (.ext (.tmp 8) 2),
  zo 5 (.alloc 124 (.agg { toList := [.int .i64 0, .int .u8 0, .int .i64 0, .int .i64 0, .int .i64 0, .string { data := { toList := [] } }, .int .i64 0, .string { data := { toList := [] } }, .int .i64 0, .string { data := { toList := [] } }, .int .i64 0, .string { data := { toList := [] } }] }) []),
  ⟨none, .store 12 (.tmp 5) (.tmp 11), none, []⟩,
  zo 6 (.mv (.tmp 12)),
  zo 7 (.mv (.tmp 13))]
def pc92_c2 : PCode := .region none false pc92_o2
def pc92_o3 : List POper := [zo 15 (.mv (.tmp 7)),
  zo 16 (.prim (.bin .neq 29 false true) [.tmp 15, .const (.int .i64 0)]),
  zo 14 (.mv (.tmp 16))]
def pc92_c3 : PCode := .region none false pc92_o3
def pc92_o4 : List POper := [zo 17 (.build (.agg { toList := [.int .i64 0, .int .i64 0, .int .i64 0, .int .i64 0, .string { data := { toList := [] } }, .int .i64 0, .string { data := { toList := [] } }, .int .i64 0, .string { data := { toList := [] } }, .int .i64 0, .string { data := { toList := [] } }] }) []),
  zo 18 (.mv (.tmp 7)),
  ⟨none, .store 11 (.tmp 2) (.tmp 17), none, []⟩,
  zo 3 (.mv (.const (.int .i64 0))),
  zo 4 (.mv (.tmp 18))]
def pc92_c4 : PCode := .region none false pc92_o4
def pc92_c5 : PCode := .ret
def pc92_c6 : PCode := .seq pc92_c4 pc92_c5
def pc92_o7 : List POper := [zo 20 (.faddr 1 (.tmp 5)),
  zo 21 (.load false 1 (.tmp 20)),
  zo 22 (.prim (.bin .neq 5 false true) [.tmp 21, .const (.int .u8 31)]),
  zo 19 (.mv (.tmp 22))]
def pc92_c7 : PCode := .region none false pc92_o7
def pc92_o8 : List POper := [zo 23 (.build (.agg { toList := [.int .i64 0, .int .i64 0, .int .i64 0, .int .i64 0, .string { data := { toList := [] } }, .int .i64 0, .string { data := { toList := [] } }, .int .i64 0, .string { data := { toList := [] } }, .int .i64 0, .string { data := { toList := [] } }] }) []),
  ⟨none, .store 11 (.tmp 2) (.tmp 23), none, []⟩,
  zo 3 (.mv (.const (.int .i64 0))),
  zo 4 (.mv (.const (.int .i64 11)))]
def pc92_c8 : PCode := .region none false pc92_o8
def pc92_c9 : PCode := .ret
def pc92_c10 : PCode := .seq pc92_c8 pc92_c9
def pc92_c11 : PCode := .skip
def pc92_c12 : PCode := .cond (.tmp 19) pc92_c10 pc92_c11
def pc92_c13 : PCode := .seq pc92_c7 pc92_c12
def pc92_c14 : PCode := .cond (.tmp 14) pc92_c6 pc92_c13
def pc92_c15 : PCode := .seq pc92_c3 pc92_c14
def pc92_c16 : PCode := .block 0 pc92_c15
def pc92_o17 : List POper := [zo 24 (.faddr 0 (.tmp 5)),
  zo 25 (.load false 1 (.tmp 24)),
  zo 26 (.faddr 2 (.tmp 5)),
  zo 27 (.load true 2 (.tmp 26)),
  zo 28 (.faddr 4 (.tmp 5)),
  zo 29 (.load true 8 (.tmp 28)),
  zo 30 (.build (.agg { toList := [.int .i64 0, .int .i64 0, .int .i64 0, .int .i64 0, .string { data := { toList := [] } }, .int .i64 0, .string { data := { toList := [] } }, .int .i64 0, .string { data := { toList := [] } }, .int .i64 0, .string { data := { toList := [] } }] }) [(0, 1, .tmp 25), (1, 2, .tmp 27), (3, 8, .tmp 29)]),
  zo 31 (.mv (.tmp 6)),
  ⟨none, .store 11 (.tmp 2) (.tmp 30), none, []⟩,
  zo 3 (.mv (.tmp 31)),
  zo 4 (.mv (.const (.int .i64 0)))]
def pc92_c17 : PCode := .region none false pc92_o17
def pc92_c18 : PCode := .ret
def pc92_c19 : PCode := .seq pc92_c17 pc92_c18
def pc92_c20 : PCode := .seq pc92_c16 pc92_c19
def pc92_c21 : PCode := .seq pc92_c2 pc92_c20
def pc92_c22 : PCode := .seq pc92_c1 pc92_c21
def pc92_r : List PRes := [PRes.cell 2 true 11 [], PRes.tmp 3 [], PRes.tmp 4 []]
def pc92 : PFunc := ⟨32, pc92_r, pc92_c22, false⟩
def pc92_a : Ann := {
  kr := fun
    | _ => none
  ka := fun
    | _ => 0
  kh := fun
    | _ => none
  ow := fun t => match t with
    | 64 => [(1, 5, 1)]
    | _ => []
  tc := fun t => match t with
    | 64 => true
    | _ => false }
theorem pc92_ok : compFn Try.prog pc92_a Try.f92 = some pc92 := by kernel_rfl


-- 84: vedette/thing.Some
def pc84_o1 : List POper := [zo 2 (.mv (.const (.slice none 0 0))),
  zo 3 (.mv (.const (.int .i64 0))),
  zo 4 (.mv (.const (.int .i64 0)))]
def pc84_c1 : PCode := .region none false pc84_o1
def pc84_o2 : List POper := [zo 13 (.mv (.tmp 0)),
  zo 14 (.call true [[]] 83 [.tmp 13]),
  zo 12 (.mv (.tmp 14)),
  zo 15 (.ext (.tmp 12) 0),
  zo 16 (.ext (.tmp 12) 1),
  zo 17 (.ext (.tmp 12) 2),
  zo 5 (.mv (.tmp 15)),
  zo 6 (.mv (.tmp 16)),
  zo 7 (.mv (.tmp 17))]
def pc84_c2 : PCode := .region none false pc84_o2
def pc84_o3 : List POper := [zo 19 (.mv (.tmp 7)),
  zo 20 (.prim (.bin .neq 29 false true) [.tmp 19, .const (.int .i64 0)]),
  zo 18 (.mv (.tmp 20))]
def pc84_c3 : PCode := .region none false pc84_o3
def pc84_o4 : List POper := [zo 21 (.mv (.tmp 7)),
  zo 2 (.mv (.const (.slice none 0 0))),
  zo 3 (.mv (.const (.int .i64 0))),
  zo 4 (.mv (.tmp 21))]
def pc84_c4 : PCode := .region none false pc84_o4
def pc84_c5 : PCode := .ret
def pc84_c6 : PCode := .seq pc84_c4 pc84_c5
def pc84_o7 : List POper := [zo 23 (.mv (.tmp 5)),
  zo 24 (.prim (.bin .gtr 38 false true) [.tmp 23, .const (.int .u64 200)]),
  zo 22 (.mv (.tmp 24))]
def pc84_c7 : PCode := .region none false pc84_o7
def pc84_o8 : List POper := [zo 2 (.mv (.const (.slice none 0 0))),
  zo 3 (.mv (.const (.int .i64 0))),
  zo 4 (.mv (.const (.int .i64 13)))]
def pc84_c8 : PCode := .region none false pc84_o8
def pc84_c9 : PCode := .ret
def pc84_c10 : PCode := .seq pc84_c8 pc84_c9
def pc84_c11 : PCode := .skip
def pc84_c12 : PCode := .cond (.tmp 22) pc84_c10 pc84_c11
def pc84_c13 : PCode := .seq pc84_c7 pc84_c12
def pc84_c14 : PCode := .cond (.tmp 18) pc84_c6 pc84_c13
def pc84_c15 : PCode := .seq pc84_c3 pc84_c14
def pc84_c16 : PCode := .block 0 pc84_c15
def pc84_o17 : List POper := [zo 8 (.mv (.const (.slice none 0 0)))]
def pc84_c17 : PCode := .region none false pc84_o17
def pc84_o18 : List POper := [zo 25 (.mv (.tmp 5)),
  zo 26 (.mv (.const (.int .u64 0)))]
def pc84_c18 : PCode := .region none false pc84_o18
def pc84_o19 : List POper := [zo 27 (.prim (.bin .lss 38 false false) [.tmp 26, .tmp 25])]
def pc84_c19 : PCode := .region (some ([0, 6, 8, 25, 26], [9, 100008], [(false, 8, 0, 100008, 55, 11)])) false pc84_o19
def pc84_c20 : PCode := .skip
def pc84_c21 : PCode := .exit 1
def pc84_c22 : PCode := .cond (.tmp 27) pc84_c20 pc84_c21
def pc84_o23 : List POper := [zo 29 (.mv (.tmp 0)),
  zo 30 (.mv (.tmp 6)),
  zo 31 (.prim (.slice 9 true false) [.tmp 29, .tmp 30]),
  zo 32 (.call true [[]] 92 [.tmp 31]),
  zo 28 (.mv (.tmp 32)),
  zo 33 (.ext (.tmp 28) 0),
  zo 34 (.ext (.tmp 28) 1),
  zo 35 (.ext (.tmp 28) 2),
  zo 9 (.alloc 55 (.agg { toList := [.int .i64 0, .int .i64 0, .int .i64 0, .int .i64 0, .string { data := { toList := [] } }, .int .i64 0, .string { data := { toList := [] } }, .int .i64 0, .string { data := { toList := [] } }, .int .i64 0, .string { data := { toList := [] } }] }) []),
  ⟨none, .store 11 (.tmp 9) (.tmp 33), none, []⟩,
  zo 10 (.mv (.tmp 34)),
  zo 11 (.mv (.tmp 35))]
def pc84_c23 : PCode := .region none false pc84_o23
def pc84_o24 : List POper := [zo 36 (.mv (.tmp 11)),
  zo 37 (.prim (.bin .neq 29 false true) [.tmp 36, .const (.int .i64 0)])]
def pc84_c24 : PCode := .region none false pc84_o24
def pc84_o25 : List POper := [zo 38 (.mv (.tmp 11)),
  zo 2 (.mv (.const (.slice none 0 0))),
  zo 3 (.mv (.const (.int .i64 0))),
  zo 4 (.mv (.tmp 38))]
def pc84_c25 : PCode := .region none false pc84_o25
def pc84_c26 : PCode := .ret
def pc84_c27 : PCode := .seq pc84_c25 pc84_c26
def pc84_c28 : PCode := .skip
def pc84_c29 : PCode := .cond (.tmp 37) pc84_c27 pc84_c28
def pc84_c30 : PCode := .seq pc84_c24 pc84_c29
def pc84_o31 : List POper := [⟨some 39, .mv (.tmp 8), none, [(8, .obj 100008)]⟩,
  ⟨some 40, .lenS (.tmp 39), none, [(39, .obj 100008)]⟩,
  ⟨some 41, .prim (.bin .gtr 3 false true) [.tmp 40, .const (.int .i64 0)], none, [(40, .imm)]⟩,
  ⟨some 42, .mv (.tmp 41), none, [(41, .imm)]⟩,
  ⟨some 43, .faddr 0 (.tmp 9), some (42, true), [(9, .at_ 9 0)]⟩,
  ⟨some 44, .load false 1 (.tmp 43), some (42, true), [(43, .at_ 9 0)]⟩,
  ⟨some 45, .mv (.tmp 8), some (42, true), [(8, .obj 100008)]⟩,
  ⟨some 46, .mv (.tmp 8), some (42, true), [(8, .obj 100008)]⟩,
  ⟨some 47, .lenS (.tmp 46), some (42, true), [(46, .obj 100008)]⟩,
  ⟨some 48, .prim (.bin .sub 3 false true) [.tmp 47, .const (.int .i64 1)], some (42, true), [(47, .imm)]⟩,
  ⟨some 49, .iaddrS 11 (.tmp 45) (.tmp 48), some (42, true), [(45, .obj 100008), (48, .imm)]⟩,
  ⟨some 50, .faddr 0 (.tmp 49), some (42, true), [(49, .obj 100008)]⟩,
  ⟨some 51, .load false 1 (.tmp 50), some (42, true), [(50, .obj 100008)]⟩,
  ⟨some 52, .prim (.bin .leq 3 false false) [.tmp 44, .tmp 51], some (42, true), [(44, .imm), (51, .imm)]⟩,
  ⟨some 53, .pick (.tmp 42) (.tmp 52) (.const (.bool false)), none, [(42, .imm), (52, .imm)]⟩]
def pc84_c31 : PCode := .region none true pc84_o31
def pc84_o32 : List POper := [zo 2 (.mv (.const (.slice none 0 0))),
  zo 3 (.mv (.const (.int .i64 0))),
  zo 4 (.mv (.const (.int .i64 11)))]
def pc84_c32 : PCode := .region none false pc84_o32
def pc84_c33 : PCode := .ret
def pc84_c34 : PCode := .seq pc84_c32 pc84_c33
def pc84_c35 : PCode := .skip
def pc84_c36 : PCode := .cond (.tmp 53) pc84_c34 pc84_c35
def pc84_c37 : PCode := .seq pc84_c31 pc84_c36
def pc84_o38 : List POper := [zo 54 (.mv (.tmp 8)),
  zo 55 (.load true 11 (.tmp 9)),
  zo 56 (.bslice 55 11 [.tmp 55]),
  zo 57 (.app 100008 55 11 120 (.tmp 54) (.tmp 56)),
  zo 8 (.mv (.tmp 57))]
def pc84_c38 : PCode := .region (some ([0, 6, 8, 9, 10, 25, 26], [9, 100008], [])) false pc84_o38
def pc84_o39 : List POper := [zo 58 (.mv (.tmp 6)),
  zo 59 (.mv (.tmp 10)),
  zo 60 (.prim (.bin .add 3 false false) [.tmp 58, .tmp 59]),
  zo 6 (.mv (.tmp 60))]
def pc84_c39 : PCode := .region none false pc84_o39
def pc84_c40 : PCode := .seq pc84_c38 pc84_c39
def pc84_c41 : PCode := .seq pc84_c37 pc84_c40
def pc84_c42 : PCode := .seq pc84_c30 pc84_c41
def pc84_c43 : PCode := .seq pc84_c23 pc84_c42
def pc84_c44 : PCode := .block 2 pc84_c43
def pc84_o45 : List POper := [zo 61 (.prim (.bin .add 38 false true) [.tmp 26, .const (.int .u64 1)]),
  zo 26 (.mv (.tmp 61))]
def pc84_c45 : PCode := .region none false pc84_o45
def pc84_c46 : PCode := .seq pc84_c44 pc84_c45
def pc84_c47 : PCode := .seq pc84_c22 pc84_c46
def pc84_c48 : PCode := .seq pc84_c19 pc84_c47
def pc84_c49 : PCode := .loop pc84_c48
def pc84_c50 : PCode := .block 1 pc84_c49
def pc84_c51 : PCode := .seq pc84_c18 pc84_c50
def pc84_o52 : List POper := [zo 62 (.mv (.tmp 8)),
  zo 63 (.mv (.tmp 6)),
  zo 2 (.mv (.tmp 62)),
  zo 3 (.mv (.tmp 63)),
  zo 4 (.mv (.const (.int .i64 0)))]
def pc84_c52 : PCode := .region none false pc84_o52
def pc84_c53 : PCode := .ret
def pc84_c54 : PCode := .seq pc84_c52 pc84_c53
def pc84_c55 : PCode := .seq pc84_c51 pc84_c54
def pc84_c56 : PCode := .seq pc84_c17 pc84_c55
def pc84_c57 : PCode := .seq pc84_c16 pc84_c56
def pc84_c58 : PCode := .seq pc84_c2 pc84_c57
def pc84_c59 : PCode := .seq pc84_c1 pc84_c58
def pc84_r : List PRes := [PRes.tmp 2 [(0, 11)], PRes.tmp 3 [], PRes.tmp 4 []]
def pc84 : PFunc := ⟨64, pc84_r, pc84_c59, false⟩
def pc84_a : Ann := {
  kr := fun
    | 8 => some ([0, 6, 8, 25, 26], [9, 100008], [(false, 8, 0, 100008, 55, 11)])
    | 14 => some ([0, 6, 8, 9, 10, 25, 26], [9, 100008], [])
    | _ => none
  ka := fun
    | 57 => 100008
    | _ => 0
  kh := fun
    | 8 => some (.obj 100008)
    | 9 => some (.at_ 9 0)
    | 39 => some (.obj 100008)
    | 40 => some (.imm)
    | 41 => some (.imm)
    | 42 => some (.imm)
    | 43 => some (.at_ 9 0)
    | 44 => some (.imm)
    | 45 => some (.obj 100008)
    | 46 => some (.obj 100008)
    | 47 => some (.imm)
    | 48 => some (.imm)
    | 49 => some (.obj 100008)
    | 50 => some (.obj 100008)
    | 51 => some (.imm)
    | 52 => some (.imm)
    | _ => none
  ow := fun t => match t with
    | 64 => [(1, 5, 1)]
    | _ => []
  tc := fun t => match t with
    | 64 => true
    | _ => false }
theorem pc84_ok : compFn Try.prog pc84_a Try.f84 = some pc84 := by kernel_rfl


-- 71: (*vedette/note.reader).things
def pc71_o1 : List POper := [zo 2 (.mv (.const (.slice none 0 0)))]
def pc71_c1 : PCode := .region none false pc71_o1
def pc71_o2 : List POper := [zo 6 (.mv (.tmp 0)),
  zo 7 (.nilc (.tmp 6)),
  zo 8 (.faddr 2 (.tmp 7)),
  zo 9 (.load false 1 (.tmp 8))]
def pc71_c2 : PCode := .region none false pc71_o2
def pc71_o3 : List POper := [zo 2 (.mv (.const (.slice none 0 0)))]
def pc71_c3 : PCode := .region none false pc71_o3
def pc71_c4 : PCode := .ret
def pc71_c5 : PCode := .seq pc71_c3 pc71_c4
def pc71_c6 : PCode := .skip
def pc71_c7 : PCode := .cond (.tmp 9) pc71_c5 pc71_c6
def pc71_c8 : PCode := .seq pc71_c2 pc71_c7
def pc71_o9 : List POper := [⟨some 11, .mv (.tmp 0), none, [(0, .at_ 1000000 0)]⟩,
  ⟨some 12, .nilc (.tmp 11), none, [(11, .at_ 1000000 0)]⟩,
  ⟨some 13, .faddr 0 (.tmp 12), none, [(12, .at_ 1000000 0)]⟩,
  ⟨some 14, .load false 1 (.tmp 13), none, [(13, .at_ 1000000 0)]⟩,
  ⟨some 15, .mv (.tmp 0), none, [(0, .at_ 1000000 0)]⟩,
  ⟨some 16, .nilc (.tmp 15), none, [(15, .at_ 1000000 0)]⟩,
  ⟨some 17, .faddr 1 (.tmp 16), none, [(16, .at_ 1000000 0)]⟩,
  ⟨some 18, .load false 1 (.tmp 17), none, [(17, .at_ 1000000 1)]⟩,
  ⟨some 19, .prim (.slice 9 true false) [.tmp 14, .tmp 18], none, [(14, .imm), (18, .imm)]⟩,
  ⟨some 20, .call false [[]] 84 [.tmp 19], none, [(19, .imm)]⟩,
  zo 10 (.mv (.tmp 20)),
  zo 21 (.ext (.tmp 10) 0),
  zo 22 (.ext (.tmp 10) 1),
  zo 23 (.ext (.tmp 10) 2),
  ⟨some 3, .mv (.tmp 21), none, [(21, .imm)]⟩,
  ⟨some 4, .mv (.tmp 22), none, [(22, .imm)]⟩,
  ⟨some 5, .mv (.tmp 23), none, [(23, .imm)]⟩]
def pc71_c9 : PCode := .region none true pc71_o9
def pc71_o10 : List POper := [zo 24 (.mv (.tmp 0)),
  zo 25 (.mv (.tmp 4)),
  zo 26 (.mv (.tmp 5)),
  zo 27 (.call true [[], [], []] 73 [.tmp 24, .tmp 25, .tmp 26])]
def pc71_c10 : PCode := .region none false pc71_o10
def pc71_o11 : List POper := [zo 28 (.mv (.tmp 3)),
  zo 2 (.mv (.tmp 28))]
def pc71_c11 : PCode := .region none false pc71_o11
def pc71_c12 : PCode := .ret
def pc71_c13 : PCode := .seq pc71_c11 pc71_c12
def pc71_c14 : PCode := .seq pc71_c10 pc71_c13
def pc71_c15 : PCode := .seq pc71_c9 pc71_c14
def pc71_c16 : PCode := .seq pc71_c8 pc71_c15
def pc71_c17 : PCode := .seq pc71_c1 pc71_c16
def pc71_r : List PRes := [PRes.tmp 2 [(0, 11)]]
def pc71 : PFunc := ⟨29, pc71_r, pc71_c17, false⟩
def pc71_a : Ann := {
  kr := fun
    | _ => none
  ka := fun
    | _ => 0
  kh := fun
    | 0 => some (.at_ 1000000 0)
    | 11 => some (.at_ 1000000 0)
    | 12 => some (.at_ 1000000 0)
    | 13 => some (.at_ 1000000 0)
    | 14 => some (.imm)
    | 15 => some (.at_ 1000000 0)
    | 16 => some (.at_ 1000000 0)
    | 17 => some (.at_ 1000000 1)
    | 18 => some (.imm)
    | 19 => some (.imm)
    | 21 => some (.imm)
    | 22 => some (.imm)
    | 23 => some (.imm)
    | _ => none
  ow := fun t => match t with
    | 64 => [(1, 5, 1)]
    | _ => []
  tc := fun t => match t with
    | 64 => true
    | _ => false }
theorem pc71_ok : compFn Try.prog pc71_a Try.f71 = some pc71 := by kernel_rfl


-- 85: vedette/cmd.Read$1
def pc85_o1 : List POper := [zo 2 (.mv (.const (.int .i64 0))),
  zo 3 (.mv (.const (.int .i64 0)))]
def pc85_c1 : PCode := .region none false pc85_o1
def pc85_o2 : List POper := [zo 8 (.load false 1 (.tmp 0)),
  zo 9 (.load false 1 (.tmp 1)),
  zo 10 (.prim (.slice 9 true false) [.tmp 8, .tmp 9]),
  zo 11 (.call true [[]] 86 [.tmp 10]),
  zo 7 (.mv (.tmp 11)),
  zo 12 (.ext (.tmp 7) 0),
  zo 13 (.ext (.tmp 7) 1),
  zo 14 (.ext (.tmp 7) 2),
  zo 4 (.mv (.tmp 12)),
  zo 5 (.mv (.tmp 13)),
  zo 6 (.mv (.tmp 14))]
def pc85_c2 : PCode := .region none false pc85_o2
def pc85_o3 : List POper := [zo 15 (.load false 1 (.tmp 1)),
  zo 16 (.mv (.tmp 5)),
  zo 17 (.prim (.bin .add 3 false false) [.tmp 15, .tmp 16]),
  ⟨none, .store 1 (.tmp 1) (.tmp 17), none, []⟩]
def pc85_c3 : PCode := .region none false pc85_o3
def pc85_o4 : List POper := [zo 18 (.mv (.tmp 4)),
  zo 19 (.mv (.tmp 6)),
  zo 2 (.mv (.tmp 18)),
  zo 3 (.mv (.tmp 19))]
def pc85_c4 : PCode := .region none false pc85_o4
def pc85_c5 : PCode := .ret
def pc85_c6 : PCode := .seq pc85_c4 pc85_c5
def pc85_c7 : PCode := .seq pc85_c3 pc85_c6
def pc85_c8 : PCode := .seq pc85_c2 pc85_c7
def pc85_c9 : PCode := .seq pc85_c1 pc85_c8
def pc85_r : List PRes := [PRes.tmp 2 [], PRes.tmp 3 []]
def pc85 : PFunc := ⟨20, pc85_r, pc85_c9, false⟩
def pc85_a : Ann := {
  kr := fun
    | _ => none
  ka := fun
    | _ => 0
  kh := fun
    | _ => none
  ow := fun t => match t with
    | 64 => [(1, 5, 1)]
    | _ => []
  tc := fun t => match t with
    | 64 => true
    | _ => false }
theorem pc85_ok : compFn Try.prog pc85_a Try.f85 = some pc85 := by kernel_rfl


-- 87: vedette/cmd.Read$2
def pc87_o1 : List POper := [zo 3 (.mv (.const (.int .i64 0)))]
def pc87_c1 : PCode := .region none false pc87_o1
def pc87_o2 : List POper := [zo 8 (.mv (.tmp 0)),
  zo 9 (.lenS (.tmp 8)),
  zo 10 (.mv (.const (.int .i64 0)))]
def pc87_c2 : PCode := .region none false pc87_o2
def pc87_o3 : List POper := [zo 11 (.prim (.bin .lss 3 false false) [.tmp 10, .tmp 9])]
def pc87_c3 : PCode := .region (some ([1, 8, 9, 10], [1000000, 1000001, 1000002, 1000003, 1000004], [])) false pc87_o3
def pc87_c4 : PCode := .skip
def pc87_c5 : PCode := .exit 0
def pc87_c6 : PCode := .cond (.tmp 11) pc87_c4 pc87_c5
def pc87_o7 : List POper := [zo 12 (.iaddrS 1 (.tmp 8) (.tmp 10)),
  zo 13 (.load false 1 (.tmp 12)),
  zo 5 (.mv (.tmp 13))]
def pc87_c7 : PCode := .region none false pc87_o7
def pc87_o8 : List POper := [zo 15 (.load false 1 (.tmp 1)),
  zo 16 (.gcallv false false [300000, 300001, 300002, 300003, 300004, 300005, 300006, 300007, 1000003, 1000004] [] (.tmp 15) []),
  zo 14 (.mv (.tmp 16)),
  zo 17 (.ext (.tmp 14) 0),
  zo 18 (.ext (.tmp 14) 1),
  zo 6 (.mv (.tmp 17)),
  zo 7 (.mv (.tmp 18))]
def pc87_c8 : PCode := .region none false pc87_o8
def pc87_o9 : List POper := [zo 19 (.mv (.tmp 7)),
  zo 20 (.prim (.bin .neq 29 false true) [.tmp 19, .const (.int .i64 0)])]
def pc87_c9 : PCode := .region none false pc87_o9
def pc87_o10 : List POper := [zo 21 (.mv (.tmp 7)),
  zo 3 (.mv (.tmp 21))]
def pc87_c10 : PCode := .region none false pc87_o10
def pc87_c11 : PCode := .ret
def pc87_c12 : PCode := .seq pc87_c10 pc87_c11
def pc87_c13 : PCode := .skip
def pc87_c14 : PCode := .cond (.tmp 20) pc87_c12 pc87_c13
def pc87_c15 : PCode := .seq pc87_c9 pc87_c14
def pc87_o16 : List POper := [zo 22 (.mv (.tmp 5)),
  zo 23 (.mv (.tmp 6)),
  zo 24 (.prim .max [.tmp 23, .const (.int .i64 (-1000001))]),
  zo 25 (.prim .min [.tmp 24, .const (.int .i64 1000001)]),
  zo 26 (.nilc (.tmp 22)),
  ⟨none, .store 1 (.tmp 26) (.tmp 25), none, []⟩]
def pc87_c16 : PCode := .region none false pc87_o16
def pc87_c17 : PCode := .seq pc87_c15 pc87_c16
def pc87_c18 : PCode := .seq pc87_c8 pc87_c17
def pc87_c19 : PCode := .seq pc87_c7 pc87_c18
def pc87_c20 : PCode := .block 1 pc87_c19
def pc87_o21 : List POper := [zo 27 (.prim (.bin .add 3 false true) [.tmp 10, .const (.int .i64 1)]),
  zo 10 (.mv (.tmp 27))]
def pc87_c21 : PCode := .region none false pc87_o21
def pc87_c22 : PCode := .seq pc87_c20 pc87_c21
def pc87_c23 : PCode := .seq pc87_c6 pc87_c22
def pc87_c24 : PCode := .seq pc87_c3 pc87_c23
def pc87_c25 : PCode := .loop pc87_c24
def pc87_c26 : PCode := .block 0 pc87_c25
def pc87_c27 : PCode := .seq pc87_c2 pc87_c26
def pc87_o28 : List POper := [zo 3 (.mv (.const (.int .i64 0)))]
def pc87_c28 : PCode := .region none false pc87_o28
def pc87_c29 : PCode := .ret
def pc87_c30 : PCode := .seq pc87_c28 pc87_c29
def pc87_c31 : PCode := .seq pc87_c27 pc87_c30
def pc87_c32 : PCode := .seq pc87_c1 pc87_c31
def pc87_r : List PRes := [PRes.tmp 3 []]
def pc87 : PFunc := ⟨28, pc87_r, pc87_c32, false⟩
def pc87_a : Ann := {
  kr := fun
    | 2 => some ([1, 8, 9, 10], [1000000, 1000001, 1000002, 1000003, 1000004], [])
    | _ => none
  ka := fun
    | _ => 0
  kh := fun
    | _ => none
  gv := fun d f => match d, f with
    | some 16, 15 => some (false, false, [300000, 300001, 300002, 300003, 300004, 300005, 300006, 300007, 1000003, 1000004])
    | _, _ => none
  ow := fun t => match t with
    | 64 => [(1, 5, 1)]
    | _ => []
  tc := fun t => match t with
    | 64 => true
    | _ => false }
theorem pc87_ok : compFn Try.prog pc87_a Try.f87 = some pc87 := by kernel_rfl


-- 72: vedette/cmd.Read
def pc72_o1 : List POper := [zo 1 (.box 9 (.tmp 0) []),
  zo 2 (.alloc 53 (.agg { toList := [.int .i64 0, .int .i64 0, .int .i64 0, .int .i64 0, .int .i64 0, .int .i64 0, .int .i64 0, .string { data := { toList := [] } }, .int .i64 0, .string { data := { toList := [] } }, .int .i64 0, .string { data := { toList := [] } }, .int .i64 0, .string { data := { toList := [] } }, .int .i64 0, .string { data := { toList := [] } }, .int .i64 0, .int .i64 0, .int .i64 0, .int .i64 0, .int .i64 0, .int .i64 0] }) []),
  zo 3 (.mv (.const (.int .i64 0))),
  zo 4 (.mv (.const (.int .i64 0)))]
def pc72_c1 : PCode := .region none false pc72_o1
def pc72_o2 : List POper := [zo 5 (.alloc 53 (.agg { toList := [.int .i64 0, .int .i64 0, .int .i64 0, .int .i64 0, .int .i64 0, .int .i64 0, .int .i64 0, .string { data := { toList := [] } }, .int .i64 0, .string { data := { toList := [] } }, .int .i64 0, .string { data := { toList := [] } }, .int .i64 0, .string { data := { toList := [] } }, .int .i64 0, .string { data := { toList := [] } }, .int .i64 0, .int .i64 0, .int .i64 0, .int .i64 0, .int .i64 0, .int .i64 0] }) [])]
def pc72_c2 : PCode := .region none false pc72_o2
def pc72_o3 : List POper := [zo 6 (.alloc 3 (.int .i64 0) []),
  ⟨none, .store 1 (.tmp 6) (.const (.int .i64 0)), none, []⟩]
def pc72_c3 : PCode := .region none false pc72_o3
def pc72_o4 : List POper := [zo 18 (.mkfn 85 [.tmp 1, .tmp 6]),
  zo 7 (.alloc 139 .nilFunc []),
  ⟨none, .store 1 (.tmp 7) (.tmp 18), none, []⟩]
def pc72_c4 : PCode := .region none false pc72_o4
def pc72_o5 : List POper := [zo 19 (.mkfn 87 [.tmp 7]),
  zo 8 (.mv (.tmp 19))]
def pc72_c5 : PCode := .region none false pc72_o5
def pc72_o6 : List POper := [zo 20 (.mv (.tmp 8)),
  zo 21 (.faddr 0 (.tmp 5)),
  zo 22 (.faddr 16 (.tmp 5)),
  zo 23 (.faddr 17 (.tmp 5)),
  zo 24 (.bptrs 1 [.tmp 21, .tmp 22, .tmp 23]),
  zo 25 (.gcallv false false [1, 5, 6, 7, 24, 300000, 300001, 300002, 300003, 300004, 300005, 300006, 300007] [[(0, 1)]] (.tmp 20) [.tmp 24]),
  zo 9 (.mv (.tmp 25))]
def pc72_c6 : PCode := .region none false pc72_o6
def pc72_o7 : List POper := [zo 26 (.mv (.tmp 9)),
  zo 27 (.prim (.bin .neq 29 false true) [.tmp 26, .const (.int .i64 0)])]
def pc72_c7 : PCode := .region none false pc72_o7
def pc72_o8 : List POper := [zo 28 (.build (.agg { toList := [.int .i64 0, .int .i64 0, .int .i64 0, .int .i64 0, .int .i64 0, .int .i64 0, .int .i64 0, .string { data := { toList := [] } }, .int .i64 0, .string { data := { toList := [] } }, .int .i64 0, .string { data := { toList := [] } }, .int .i64 0, .string { data := { toList := [] } }, .int .i64 0, .string { data := { toList := [] } }, .int .i64 0, .int .i64 0, .int .i64 0, .int .i64 0, .int .i64 0, .int .i64 0] }) []),
  zo 29 (.mv (.tmp 9)),
  ⟨none, .store 22 (.tmp 2) (.tmp 28), none, []⟩,
  zo 3 (.mv (.const (.int .i64 0))),
  zo 4 (.mv (.tmp 29))]
def pc72_c8 : PCode := .region none false pc72_o8
def pc72_c9 : PCode := .ret
def pc72_c10 : PCode := .seq pc72_c8 pc72_c9
def pc72_c11 : PCode := .skip
def pc72_c12 : PCode := .cond (.tmp 27) pc72_c10 pc72_c11
def pc72_c13 : PCode := .seq pc72_c7 pc72_c12
def pc72_c14 : PCode := .seq pc72_c6 pc72_c13
def pc72_o15 : List POper := [zo 30 (.mv (.tmp 8)),
  zo 31 (.gcall false false [5, 300000, 300001, 300002, 300003, 300004, 300005, 300006, 300007] [[]] 47 [.tmp 5]),
  zo 32 (.gcallv false false [1, 5, 6, 7, 300000, 300001, 300002, 300003, 300004, 300005, 300006, 300007] [[(0, 1)]] (.tmp 30) [.tmp 31]),
  zo 10 (.mv (.tmp 32))]
def pc72_c15 : PCode := .region none false pc72_o15
def pc72_o16 : List POper := [zo 33 (.mv (.tmp 10)),
  zo 34 (.prim (.bin .neq 29 false true) [.tmp 33, .const (.int .i64 0)])]
def pc72_c16 : PCode := .region (some ([1, 2, 5, 6, 7, 10], [1, 2, 5, 6, 7, 24, 300000], [])) false pc72_o16
def pc72_o17 : List POper := [zo 35 (.build (.agg { toList := [.int .i64 0, .int .i64 0, .int .i64 0, .int .i64 0, .int .i64 0, .int .i64 0, .int .i64 0, .string { data := { toList := [] } }, .int .i64 0, .string { data := { toList := [] } }, .int .i64 0, .string { data := { toList := [] } }, .int .i64 0, .string { data := { toList := [] } }, .int .i64 0, .string { data := { toList := [] } }, .int .i64 0, .int .i64 0, .int .i64 0, .int .i64 0, .int .i64 0, .int .i64 0] }) []),
  zo 36 (.mv (.tmp 10)),
  ⟨none, .store 22 (.tmp 2) (.tmp 35), none, []⟩,
  zo 3 (.mv (.const (.int .i64 0))),
  zo 4 (.mv (.tmp 36))]
def pc72_c17 : PCode := .region none false pc72_o17
def pc72_c18 : PCode := .ret
def pc72_c19 : PCode := .seq pc72_c17 pc72_c18
def pc72_c20 : PCode := .skip
def pc72_c21 : PCode := .cond (.tmp 34) pc72_c19 pc72_c20
def pc72_c22 : PCode := .seq pc72_c16 pc72_c21
def pc72_c23 : PCode := .seq pc72_c15 pc72_c22
def pc72_o24 : List POper := [zo 37 (.gcall false false [5, 300000, 300001, 300002, 300003, 300004, 300005, 300006, 300007] [[]] 48 [.tmp 5]),
  zo 38 (.lenS (.tmp 37)),
  zo 39 (.mv (.const (.int .i64 0)))]
def pc72_c24 : PCode := .region none false pc72_o24
def pc72_o25 : List POper := [zo 40 (.prim (.bin .lss 3 false false) [.tmp 39, .tmp 38])]
def pc72_c25 : PCode := .region (some ([1, 2, 5, 6, 7, 37, 38, 39], [1, 2, 5, 6, 7, 300000], [])) false pc72_o25
def pc72_c26 : PCode := .skip
def pc72_c27 : PCode := .exit 0
def pc72_c28 : PCode := .cond (.tmp 40) pc72_c26 pc72_c27
def pc72_o29 : List POper := [zo 41 (.iaddrS 1 (.tmp 37) (.tmp 39)),
  zo 42 (.load false 1 (.tmp 41)),
  zo 12 (.mv (.tmp 42))]
def pc72_c29 : PCode := .region none false pc72_o29
def pc72_o30 : List POper := [zo 44 (.load false 1 (.tmp 1)),
  zo 45 (.load false 1 (.tmp 6)),
  zo 46 (.prim (.slice 9 true false) [.tmp 44, .tmp 45]),
  zo 47 (.call true [[], []] 69 [.tmp 46, .const (.int .i64 12)]),
  zo 43 (.mv (.tmp 47)),
  zo 48 (.ext (.tmp 43) 0),
  zo 49 (.ext (.tmp 43) 1),
  zo 50 (.ext (.tmp 43) 2),
  zo 13 (.mv (.tmp 48)),
  zo 14 (.mv (.tmp 49)),
  zo 15 (.mv (.tmp 50))]
def pc72_c30 : PCode := .region none false pc72_o30
def pc72_o31 : List POper := [zo 51 (.load false 1 (.tmp 6)),
  zo 52 (.mv (.tmp 14)),
  zo 53 (.prim (.bin .add 3 false false) [.tmp 51, .tmp 52]),
  ⟨none, .store 1 (.tmp 6) (.tmp 53), none, []⟩]
def pc72_c31 : PCode := .region none false pc72_o31
def pc72_o32 : List POper := [zo 54 (.mv (.tmp 15)),
  zo 55 (.prim (.bin .eql 29 false true) [.tmp 54, .const (.int .i64 0)])]
def pc72_c32 : PCode := .region none false pc72_o32
def pc72_o33 : List POper := [zo 56 (.mv (.tmp 12)),
  zo 57 (.mv (.tmp 13)),
  zo 58 (.nilc (.tmp 56)),
  zo 59 (.faddr 1 (.tmp 58)),
  ⟨none, .store 1 (.tmp 59) (.tmp 57), none, []⟩]
def pc72_c33 : PCode := .region none false pc72_o33
def pc72_o34 : List POper := [zo 61 (.mv (.tmp 12)),
  zo 62 (.load false 1 (.tmp 7)),
  zo 63 (.gcallv false false [1, 6, 300000, 300001, 300002, 300003, 300004, 300005, 300006, 300007] [] (.tmp 62) []),
  zo 60 (.mv (.tmp 63)),
  zo 64 (.ext (.tmp 60) 0),
  zo 65 (.ext (.tmp 60) 1),
  zo 66 (.nilc (.tmp 61)),
  zo 67 (.faddr 0 (.tmp 66)),
  ⟨none, .store 1 (.tmp 67) (.tmp 64), none, []⟩,
  zo 15 (.mv (.tmp 65))]
def pc72_c34 : PCode := .region none false pc72_o34
def pc72_c35 : PCode := .seq pc72_c33 pc72_c34
def pc72_c36 : PCode := .skip
def pc72_c37 : PCode := .cond (.tmp 55) pc72_c35 pc72_c36
def pc72_c38 : PCode := .seq pc72_c32 pc72_c37
def pc72_o39 : List POper := [zo 68 (.mv (.tmp 15)),
  zo 69 (.prim (.bin .neq 29 false true) [.tmp 68, .const (.int .i64 0)])]
def pc72_c39 : PCode := .region (some ([1, 2, 5, 6, 7, 15, 37, 38, 39], [1, 2, 5, 6, 7, 300000], [])) false pc72_o39
def pc72_o40 : List POper := [zo 70 (.build (.agg { toList := [.int .i64 0, .int .i64 0, .int .i64 0, .int .i64 0, .int .i64 0, .int .i64 0, .int .i64 0, .string { data := { toList := [] } }, .int .i64 0, .string { data := { toList := [] } }, .int .i64 0, .string { data := { toList := [] } }, .int .i64 0, .string { data := { toList := [] } }, .int .i64 0, .string { data := { toList := [] } }, .int .i64 0, .int .i64 0, .int .i64 0, .int .i64 0, .int .i64 0, .int .i64 0] }) []),
  zo 71 (.mv (.tmp 15)),
  ⟨none, .store 22 (.tmp 2) (.tmp 70), none, []⟩,
  zo 3 (.mv (.const (.int .i64 0))),
  zo 4 (.mv (.tmp 71))]
def pc72_c40 : PCode := .region none false pc72_o40
def pc72_c41 : PCode := .ret
def pc72_c42 : PCode := .seq pc72_c40 pc72_c41
def pc72_c43 : PCode := .skip
def pc72_c44 : PCode := .cond (.tmp 69) pc72_c42 pc72_c43
def pc72_c45 : PCode := .seq pc72_c39 pc72_c44
def pc72_c46 : PCode := .seq pc72_c38 pc72_c45
def pc72_c47 : PCode := .seq pc72_c31 pc72_c46
def pc72_c48 : PCode := .seq pc72_c30 pc72_c47
def pc72_c49 : PCode := .seq pc72_c29 pc72_c48
def pc72_c50 : PCode := .block 1 pc72_c49
def pc72_o51 : List POper := [zo 72 (.prim (.bin .add 3 false true) [.tmp 39, .const (.int .i64 1)]),
  zo 39 (.mv (.tmp 72))]
def pc72_c51 : PCode := .region none false pc72_o51
def pc72_c52 : PCode := .seq pc72_c50 pc72_c51
def pc72_c53 : PCode := .seq pc72_c28 pc72_c52
def pc72_c54 : PCode := .seq pc72_c25 pc72_c53
def pc72_c55 : PCode := .loop pc72_c54
def pc72_c56 : PCode := .block 0 pc72_c55
def pc72_c57 : PCode := .seq pc72_c24 pc72_c56
def pc72_o58 : List POper := [zo 74 (.load true 22 (.tmp 5)),
  zo 75 (.call true [[]] 21 [.tmp 74]),
  zo 73 (.mv (.tmp 75)),
  zo 76 (.ext (.tmp 73) 0),
  zo 77 (.ext (.tmp 73) 1),
  zo 16 (.mv (.tmp 76)),
  zo 17 (.mv (.tmp 77))]
def pc72_c58 : PCode := .region (some ([1, 2, 5, 6], [1, 2, 5, 6, 7, 300000], [])) false pc72_o58
def pc72_o59 : List POper := [zo 78 (.mv (.tmp 17)),
  zo 79 (.prim (.bin .neq 29 false true) [.tmp 78, .const (.int .i64 0)]),
  zo 80 (.mv (.tmp 79)),
  ⟨some 81, .mv (.tmp 16), some (80, false), []⟩,
  ⟨some 82, .load false 1 (.tmp 1), some (80, false), []⟩,
  ⟨some 83, .load false 1 (.tmp 6), some (80, false), []⟩,
  ⟨some 84, .prim (.slice 9 false true) [.tmp 82, .tmp 83], some (80, false), []⟩,
  ⟨some 85, .prim (.bin .neq 9 false false) [.tmp 81, .tmp 84], some (80, false), []⟩,
  zo 86 (.pick (.tmp 80) (.const (.bool true)) (.tmp 85))]
def pc72_c59 : PCode := .region none false pc72_o59
def pc72_o60 : List POper := [zo 87 (.build (.agg { toList := [.int .i64 0, .int .i64 0, .int .i64 0, .int .i64 0, .int .i64 0, .int .i64 0, .int .i64 0, .string { data := { toList := [] } }, .int .i64 0, .string { data := { toList := [] } }, .int .i64 0, .string { data := { toList := [] } }, .int .i64 0, .string { data := { toList := [] } }, .int .i64 0, .string { data := { toList := [] } }, .int .i64 0, .int .i64 0, .int .i64 0, .int .i64 0, .int .i64 0, .int .i64 0] }) []),
  ⟨none, .store 22 (.tmp 2) (.tmp 87), none, []⟩,
  zo 3 (.mv (.const (.int .i64 0))),
  zo 4 (.mv (.const (.int .i64 11)))]
def pc72_c60 : PCode := .region none false pc72_o60
def pc72_c61 : PCode := .ret
def pc72_c62 : PCode := .seq pc72_c60 pc72_c61
def pc72_c63 : PCode := .skip
def pc72_c64 : PCode := .cond (.tmp 86) pc72_c62 pc72_c63
def pc72_c65 : PCode := .seq pc72_c59 pc72_c64
def pc72_c66 : PCode := .seq pc72_c58 pc72_c65
def pc72_o67 : List POper := [⟨some 88, .load true 22 (.tmp 5), none, [(5, .at_ 5 0)]⟩,
  ⟨some 89, .load false 1 (.tmp 6), none, [(6, .at_ 6 0)]⟩,
  ⟨none, .store 22 (.tmp 2) (.tmp 88), none, [(2, .at_ 2 0), (88, .imm)]⟩,
  ⟨some 3, .mv (.tmp 89), none, [(89, .imm)]⟩,
  zo 4 (.mv (.const (.int .i64 0)))]
def pc72_c67 : PCode := .region none true pc72_o67
def pc72_c68 : PCode := .ret
def pc72_c69 : PCode := .seq pc72_c67 pc72_c68
def pc72_c70 : PCode := .seq pc72_c66 pc72_c69
def pc72_c71 : PCode := .seq pc72_c57 pc72_c70
def pc72_c72 : PCode := .seq pc72_c23 pc72_c71
def pc72_c73 : PCode := .seq pc72_c14 pc72_c72
def pc72_c74 : PCode := .seq pc72_c5 pc72_c73
def pc72_c75 : PCode := .seq pc72_c4 pc72_c74
def pc72_c76 : PCode := .seq pc72_c3 pc72_c75
def pc72_c77 : PCode := .seq pc72_c2 pc72_c76
def pc72_c78 : PCode := .seq pc72_c1 pc72_c77
def pc72_r : List PRes := [PRes.cell 2 true 22 [], PRes.tmp 3 [], PRes.tmp 4 []]
def pc72 : PFunc := ⟨90, pc72_r, pc72_c78, false⟩
def pc72_a : Ann := {
  kr := fun
    | 9 => some ([1, 2, 5, 6, 7, 10], [1, 2, 5, 6, 7, 24, 300000], [])
    | 12 => some ([1, 2, 5, 6, 7, 37, 38, 39], [1, 2, 5, 6, 7, 300000], [])
    | 19 => some ([1, 2, 5, 6, 7, 15, 37, 38, 39], [1, 2, 5, 6, 7, 300000], [])
    | 22 => some ([1, 2, 5, 6], [1, 2, 5, 6, 7, 300000], [])
    | _ => none
  ka := fun
    | _ => 0
  kh := fun
    | 2 => some (.at_ 2 0)
    | 5 => some (.at_ 5 0)
    | 6 => some (.at_ 6 0)
    | 88 => some (.imm)
    | 89 => some (.imm)
    | _ => none
  gf := fun d f => match d, f with
    | some 31, 47 => some (false, false, [5, 300000, 300001, 300002, 300003, 300004, 300005, 300006, 300007])
    | some 37, 48 => some (false, false, [5, 300000, 300001, 300002, 300003, 300004, 300005, 300006, 300007])
    | _, _ => none
  gv := fun d f => match d, f with
    | some 25, 20 => some (false, false, [1, 5, 6, 7, 24, 300000, 300001, 300002, 300003, 300004, 300005, 300006, 300007])
    | some 32, 30 => some (false, false, [1, 5, 6, 7, 300000, 300001, 300002, 300003, 300004, 300005, 300006, 300007])
    | some 63, 62 => some (false, false, [1, 6, 300000, 300001, 300002, 300003, 300004, 300005, 300006, 300007])
    | _, _ => none
  ow := fun t => match t with
    | 64 => [(1, 5, 1)]
    | _ => []
  tc := fun t => match t with
    | 64 => true
    | _ => false }
theorem pc72_ok : compFn Try.prog pc72_a Try.f72 = some pc72 := by kernel_rfl


-- 42: (*vedette/note.reader).note
def pc42_o1 : List POper := [zo 2 (.alloc 26 (.agg { toList := [.int .i64 0, .int .i64 0, .slice none 0 0, .slice none 0 0, .slice none 0 0, .slice none 0 0] }) [])]
def pc42_c1 : PCode := .region none false pc42_o1
def pc42_o2 : List POper := [zo 7 (.mv (.tmp 0)),
  zo 8 (.call true [[], []] 70 [.tmp 7, .const (.int .u64 4)]),
  zo 9 (.mv (.tmp 0)),
  zo 10 (.call true [[], []] 70 [.tmp 9, .const (.int .u64 1073741824)]),
  zo 11 (.build (.agg { toList := [.int .i64 0, .int .i64 0, .slice none 0 0, .slice none 0 0, .slice none 0 0, .slice none 0 0] }) [(0, 1, .tmp 8), (1, 1, .tmp 10)]),
  zo 3 (.alloc 26 (.agg { toList := [.int .i64 0, .int .i64 0, .slice none 0 0, .slice none 0 0, .slice none 0 0, .slice none 0 0] }) []),
  ⟨none, .store 6 (.tmp 3) (.tmp 11), none, []⟩]
def pc42_c2 : PCode := .region none false pc42_o2
def pc42_o3 : List POper := [zo 12 (.mv (.tmp 0)),
  zo 13 (.call true [[]] 71 [.tmp 12]),
  zo 14 (.mv (.tmp 0)),
  zo 15 (.call true [[]] 71 [.tmp 14]),
  zo 16 (.faddr 2 (.tmp 3)),
  ⟨none, .store 1 (.tmp 16) (.tmp 13), none, []⟩,
  zo 17 (.faddr 4 (.tmp 3)),
  ⟨none, .store 1 (.tmp 17) (.tmp 15), none, []⟩]
def pc42_c3 : PCode := .region none false pc42_o3
def pc42_c4 : PCode := .label
def pc42_o5 : List POper := [zo 18 (.mv (.tmp 0)),
  zo 19 (.call true [[], []] 70 [.tmp 18, .const (.int .u64 16)]),
  zo 20 (.mv (.const (.int .i64 0)))]
def pc42_c5 : PCode := .region none false pc42_o5
def pc42_o6 : List POper := [zo 21 (.prim (.bin .lss 3 false false) [.tmp 20, .tmp 19])]
def pc42_c6 : PCode := .region (some ([0, 2, 3, 19, 20], [2, 3, 100027, 1000000], [(true, 3, 3, 100027, 44, 2)])) false pc42_o6
def pc42_c7 : PCode := .skip
def pc42_c8 : PCode := .exit 0
def pc42_c9 : PCode := .cond (.tmp 21) pc42_c7 pc42_c8
def pc42_o10 : List POper := [zo 22 (.mv (.tmp 0)),
  zo 23 (.nilc (.tmp 22)),
  zo 24 (.faddr 2 (.tmp 23)),
  zo 25 (.load false 1 (.tmp 24))]
def pc42_c10 : PCode := .region none false pc42_o10
def pc42_c11 : PCode := .exit 0
def pc42_c12 : PCode := .skip
def pc42_c13 : PCode := .cond (.tmp 25) pc42_c11 pc42_c12
def pc42_c14 : PCode := .seq pc42_c10 pc42_c13
def pc42_o15 : List POper := [⟨some 26, .faddr 3 (.tmp 3), none, [(3, .at_ 3 0)]⟩,
  ⟨some 27, .load false 1 (.tmp 26), none, [(26, .at_ 3 3)]⟩,
  ⟨some 28, .mv (.tmp 0), none, [(0, .at_ 1000000 0)]⟩,
  ⟨some 29, .call true [[], []] 70 [.tmp 28, .const (.int .u64 16)], none, [(28, .at_ 1000000 0)]⟩,
  ⟨some 30, .mv (.tmp 0), none, [(0, .at_ 1000000 0)]⟩,
  ⟨some 31, .call true [[], []] 70 [.tmp 30, .const (.int .u64 4)], none, [(30, .at_ 1000000 0)]⟩,
  ⟨some 32, .build (.agg { toList := [.int .i64 0, .int .i64 0] }) [(0, 1, .tmp 29), (1, 1, .tmp 31)], none, [(29, .imm), (31, .imm)]⟩,
  ⟨some 33, .bslice 44 2 [.tmp 32], none, [(32, .imm)]⟩,
  ⟨some 34, .app 100027 44 2 16 (.tmp 27) (.tmp 33), none, [(27, .obj 100027), (33, .imm)]⟩,
  ⟨some 35, .faddr 3 (.tmp 3), none, [(3, .at_ 3 0)]⟩,
  ⟨none, .store 1 (.tmp 35) (.tmp 34), none, [(35, .at_ 3 3), (34, .obj 100027)]⟩]
def pc42_c15 : PCode := .region none true pc42_o15
def pc42_c16 : PCode := .seq pc42_c14 pc42_c15
def pc42_c17 : PCode := .block 1 pc42_c16
def pc42_o18 : List POper := [zo 36 (.prim (.bin .add 3 false true) [.tmp 20, .const (.int .i64 1)]),
  zo 20 (.mv (.tmp 36))]
def pc42_c18 : PCode := .region none false pc42_o18
def pc42_c19 : PCode := .seq pc42_c17 pc42_c18
def pc42_c20 : PCode := .seq pc42_c9 pc42_c19
def pc42_c21 : PCode := .seq pc42_c6 pc42_c20
def pc42_c22 : PCode := .loop pc42_c21
def pc42_c23 : PCode := .block 0 pc42_c22
def pc42_c24 : PCode := .seq pc42_c5 pc42_c23
def pc42_c25 : PCode := .label
def pc42_o26 : List POper := [zo 37 (.mv (.tmp 0)),
  zo 38 (.call true [[], []] 70 [.tmp 37, .const (.int .u64 20)]),
  zo 39 (.mv (.const (.int .i64 0)))]
def pc42_c26 : PCode := .region none false pc42_o26
def pc42_o27 : List POper := [zo 40 (.prim (.bin .lss 3 false false) [.tmp 39, .tmp 38])]
def pc42_c27 : PCode := .region (some ([0, 2, 3, 38, 39], [2, 3, 4, 100027, 100064, 1000000], [(true, 3, 5, 100064, 53, 22)])) false pc42_o27
def pc42_c28 : PCode := .skip
def pc42_c29 : PCode := .exit 2
def pc42_c30 : PCode := .cond (.tmp 40) pc42_c28 pc42_c29
def pc42_o31 : List POper := [zo 41 (.mv (.tmp 0)),
  zo 42 (.nilc (.tmp 41)),
  zo 43 (.faddr 2 (.tmp 42)),
  zo 44 (.load false 1 (.tmp 43))]
def pc42_c31 : PCode := .region none false pc42_o31
def pc42_c32 : PCode := .exit 2
def pc42_c33 : PCode := .skip
def pc42_c34 : PCode := .cond (.tmp 44) pc42_c32 pc42_c33
def pc42_c35 : PCode := .seq pc42_c31 pc42_c34
def pc42_o36 : List POper := [⟨some 46, .mv (.tmp 0), none, [(0, .at_ 1000000 0)]⟩,
  ⟨some 47, .nilc (.tmp 46), none, [(46, .at_ 1000000 0)]⟩,
  ⟨some 48, .faddr 0 (.tmp 47), none, [(47, .at_ 1000000 0)]⟩,
  ⟨some 49, .load false 1 (.tmp 48), none, [(48, .at_ 1000000 0)]⟩,
  ⟨some 50, .mv (.tmp 0), none, [(0, .at_ 1000000 0)]⟩,
  ⟨some 51, .nilc (.tmp 50), none, [(50, .at_ 1000000 0)]⟩,
  ⟨some 52, .faddr 1 (.tmp 51), none, [(51, .at_ 1000000 0)]⟩,
  ⟨some 53, .load false 1 (.tmp 52), none, [(52, .at_ 1000000 1)]⟩,
  ⟨some 54, .prim (.slice 9 true false) [.tmp 49, .tmp 53], none, [(49, .imm), (53, .imm)]⟩,
  ⟨some 55, .call false [[]] 72 [.tmp 54], none, [(54, .imm)]⟩,
  zo 45 (.mv (.tmp 55)),
  zo 56 (.ext (.tmp 45) 0),
  zo 57 (.ext (.tmp 45) 1),
  zo 58 (.ext (.tmp 45) 2),
  zo 4 (.alloc 53 (.agg { toList := [.int .i64 0, .int .i64 0, .int .i64 0, .int .i64 0, .int .i64 0, .int .i64 0, .int .i64 0, .string { data := { toList := [] } }, .int .i64 0, .string { data := { toList := [] } }, .int .i64 0, .string { data := { toList := [] } }, .int .i64 0, .string { data := { toList := [] } }, .int .i64 0, .string { data := { toList := [] } }, .int .i64 0, .int .i64 0, .int .i64 0, .int .i64 0, .int .i64 0, .int .i64 0] }) []),
  ⟨none, .store 22 (.tmp 4) (.tmp 56), none, [(4, .at_ 4 0), (56, .imm)]⟩,
  ⟨some 5, .mv (.tmp 57), none, [(57, .imm)]⟩,
  ⟨some 6, .mv (.tmp 58), none, [(58, .imm)]⟩]
def pc42_c36 : PCode := .region none true pc42_o36
def pc42_o37 : List POper := [zo 59 (.mv (.tmp 0)),
  zo 60 (.mv (.tmp 5)),
  zo 61 (.mv (.tmp 6)),
  zo 62 (.call true [[], [], []] 73 [.tmp 59, .tmp 60, .tmp 61])]
def pc42_c37 : PCode := .region none false pc42_o37
def pc42_o38 : List POper := [zo 63 (.faddr 5 (.tmp 3)),
  zo 64 (.load false 1 (.tmp 63)),
  zo 65 (.load true 22 (.tmp 4)),
  zo 66 (.bslice 53 22 [.tmp 65]),
  zo 67 (.app 100064 53 22 216 (.tmp 64) (.tmp 66)),
  zo 68 (.faddr 5 (.tmp 3)),
  ⟨none, .store 1 (.tmp 68) (.tmp 67), none, []⟩]
def pc42_c38 : PCode := .region none false pc42_o38
def pc42_c39 : PCode := .seq pc42_c37 pc42_c38
def pc42_c40 : PCode := .seq pc42_c36 pc42_c39
def pc42_c41 : PCode := .seq pc42_c35 pc42_c40
def pc42_c42 : PCode := .block 3 pc42_c41
def pc42_o43 : List POper := [zo 69 (.prim (.bin .add 3 false true) [.tmp 39, .const (.int .i64 1)]),
  zo 39 (.mv (.tmp 69))]
def pc42_c43 : PCode := .region none false pc42_o43
def pc42_c44 : PCode := .seq pc42_c42 pc42_c43
def pc42_c45 : PCode := .seq pc42_c30 pc42_c44
def pc42_c46 : PCode := .seq pc42_c27 pc42_c45
def pc42_c47 : PCode := .loop pc42_c46
def pc42_c48 : PCode := .block 2 pc42_c47
def pc42_c49 : PCode := .seq pc42_c26 pc42_c48
def pc42_o50 : List POper := [zo 70 (.load true 6 (.tmp 3)),
  ⟨none, .store 6 (.tmp 2) (.tmp 70), none, []⟩]
def pc42_c50 : PCode := .region none false pc42_o50
def pc42_c51 : PCode := .ret
def pc42_c52 : PCode := .seq pc42_c50 pc42_c51
def pc42_c53 : PCode := .seq pc42_c49 pc42_c52
def pc42_c54 : PCode := .seq pc42_c25 pc42_c53
def pc42_c55 : PCode := .seq pc42_c24 pc42_c54
def pc42_c56 : PCode := .seq pc42_c4 pc42_c55
def pc42_c57 : PCode := .seq pc42_c3 pc42_c56
def pc42_c58 : PCode := .seq pc42_c2 pc42_c57
def pc42_c59 : PCode := .scope pc42_c58
def pc42_c60 : PCode := .seq pc42_c1 pc42_c59
def pc42_r : List PRes := [PRes.cell 2 true 6 [(2, 11), (3, 2), (4, 11), (5, 22)]]
def pc42 : PFunc := ⟨71, pc42_r, pc42_c60, false⟩
def pc42_a : Ann := {
  kr := fun
    | 4 => some ([0, 2, 3, 19, 20], [2, 3, 100027, 1000000], [(true, 3, 3, 100027, 44, 2)])
    | 9 => some ([0, 2, 3, 38, 39], [2, 3, 4, 100027, 100064, 1000000], [(true, 3, 5, 100064, 53, 22)])
    | _ => none
  ka := fun
    | 34 => 100027
    | 67 => 100064
    | _ => 0
  kh := fun
    | 0 => some (.at_ 1000000 0)
    | 3 => some (.at_ 3 0)
    | 4 => some (.at_ 4 0)
    | 26 => some (.at_ 3 3)
    | 27 => some (.obj 100027)
    | 28 => some (.at_ 1000000 0)
    | 29 => some (.imm)
    | 30 => some (.at_ 1000000 0)
    | 31 => some (.imm)
    | 32 => some (.imm)
    | 33 => some (.imm)
    | 34 => some (.obj 100027)
    | 35 => some (.at_ 3 3)
    | 46 => some (.at_ 1000000 0)
    | 47 => some (.at_ 1000000 0)
    | 48 => some (.at_ 1000000 0)
    | 49 => some (.imm)
    | 50 => some (.at_ 1000000 0)
    | 51 => some (.at_ 1000000 0)
    | 52 => some (.at_ 1000000 1)
    | 53 => some (.imm)
    | 54 => some (.imm)
    | 56 => some (.imm)
    | 57 => some (.imm)
    | 58 => some (.imm)
    | _ => none
  ow := fun t => match t with
    | 64 => [(1, 5, 1)]
    | _ => []
  tc := fun t => match t with
    | 64 => true
    | _ => false }
theorem pc42_ok : compFn Try.prog pc42_a Try.f42 = some pc42 := by kernel_rfl


-- 14: vedette/note.Read
def pc14_o1 : List POper := [zo 2 (.alloc 26 (.agg { toList := [.int .i64 0, .int .i64 0, .slice none 0 0, .slice none 0 0, .slice none 0 0, .slice none 0 0] }) []),
  zo 3 (.mv (.const (.int .i64 0))),
  zo 4 (.mv (.const (.int .i64 0)))]
def pc14_c1 : PCode := .region none false pc14_o1
def pc14_o2 : List POper := [zo 13 (.mv (.tmp 0)),
  zo 14 (.call true [[]] 41 [.tmp 13]),
  zo 12 (.mv (.tmp 14)),
  zo 15 (.ext (.tmp 12) 0),
  zo 16 (.ext (.tmp 12) 1),
  zo 17 (.ext (.tmp 12) 2),
  zo 5 (.mv (.tmp 15)),
  zo 6 (.mv (.tmp 16)),
  zo 7 (.mv (.tmp 17))]
def pc14_c2 : PCode := .region none false pc14_o2
def pc14_o3 : List POper := [zo 18 (.mv (.tmp 7)),
  zo 19 (.prim (.bin .neq 29 false true) [.tmp 18, .const (.int .i64 0)])]
def pc14_c3 : PCode := .region none false pc14_o3
def pc14_o4 : List POper := [zo 20 (.build (.agg { toList := [.int .i64 0, .int .i64 0, .slice none 0 0, .slice none 0 0, .slice none 0 0, .slice none 0 0] }) []),
  zo 21 (.mv (.tmp 7)),
  ⟨none, .store 6 (.tmp 2) (.tmp 20), none, []⟩,
  zo 3 (.mv (.const (.int .i64 0))),
  zo 4 (.mv (.tmp 21))]
def pc14_c4 : PCode := .region none false pc14_o4
def pc14_c5 : PCode := .ret
def pc14_c6 : PCode := .seq pc14_c4 pc14_c5
def pc14_c7 : PCode := .skip
def pc14_c8 : PCode := .cond (.tmp 19) pc14_c6 pc14_c7
def pc14_c9 : PCode := .seq pc14_c3 pc14_c8
def pc14_o10 : List POper := [zo 22 (.mv (.tmp 5)),
  zo 23 (.build (.agg { toList := [.string { data := { toList := [] } }, .int .i64 0, .bool false] }) [(0, 1, .tmp 22)]),
  zo 24 (.box 88 (.tmp 23) []),
  zo 8 (.mv (.tmp 24))]
def pc14_c10 : PCode := .region none false pc14_o10
def pc14_o11 : List POper := [zo 25 (.mv (.tmp 8)),
  zo 26 (.call true [[]] 42 [.tmp 25]),
  zo 9 (.alloc 26 (.agg { toList := [.int .i64 0, .int .i64 0, .slice none 0 0, .slice none 0 0, .slice none 0 0, .slice none 0 0] }) []),
  ⟨none, .store 6 (.tmp 9) (.tmp 26), none, []⟩]
def pc14_c11 : PCode := .region none false pc14_o11
def pc14_o12 : List POper := [zo 28 (.load true 6 (.tmp 9)),
  zo 29 (.call true [[(2, 11), (3, 2), (4, 11), (5, 22)]] 9 [.tmp 28]),
  zo 27 (.mv (.tmp 29)),
  zo 30 (.ext (.tmp 27) 0),
  zo 31 (.ext (.tmp 27) 1),
  zo 10 (.mv (.tmp 30)),
  zo 11 (.mv (.tmp 31))]
def pc14_c12 : PCode := .region none false pc14_o12
def pc14_o13 : List POper := [zo 32 (.mv (.tmp 8)),
  zo 33 (.nilc (.tmp 32)),
  zo 34 (.faddr 2 (.tmp 33)),
  zo 35 (.load false 1 (.tmp 34)),
  zo 36 (.mv (.tmp 35)),
  ⟨some 37, .mv (.tmp 11), some (36, false), []⟩,
  ⟨some 38, .prim (.bin .neq 29 false true) [.tmp 37, .const (.int .i64 0)], some (36, false), []⟩,
  zo 39 (.pick (.tmp 36) (.const (.bool true)) (.tmp 38)),
  zo 40 (.mv (.tmp 39)),
  ⟨some 41, .mv (.tmp 10), some (40, false), []⟩,
  ⟨some 42, .mv (.tmp 0), some (40, false), []⟩,
  ⟨some 43, .mv (.tmp 6), some (40, false), []⟩,
  ⟨some 44, .prim (.slice 9 false true) [.tmp 42, .tmp 43], some (40, false), []⟩,
  ⟨some 45, .prim (.bin .neq 9 false false) [.tmp 41, .tmp 44], some (40, false), []⟩,
  zo 46 (.pick (.tmp 40) (.const (.bool true)) (.tmp 45))]
def pc14_c13 : PCode := .region none false pc14_o13
def pc14_o14 : List POper := [zo 47 (.build (.agg { toList := [.int .i64 0, .int .i64 0, .slice none 0 0, .slice none 0 0, .slice none 0 0, .slice none 0 0] }) []),
  ⟨none, .store 6 (.tmp 2) (.tmp 47), none, []⟩,
  zo 3 (.mv (.const (.int .i64 0))),
  zo 4 (.mv (.const (.int .i64 11)))]
def pc14_c14 : PCode := .region none false pc14_o14
def pc14_c15 : PCode := .ret
def pc14_c16 : PCode := .seq pc14_c14 pc14_c15
def pc14_c17 : PCode := .skip
def pc14_c18 : PCode := .cond (.tmp 46) pc14_c16 pc14_c17
def pc14_c19 : PCode := .seq pc14_c13 pc14_c18
def pc14_c20 : PCode := .seq pc14_c12 pc14_c19
def pc14_o21 : List POper := [zo 48 (.load true 6 (.tmp 9)),
  zo 49 (.mv (.tmp 6)),
  ⟨none, .store 6 (.tmp 2) (.tmp 48), none, []⟩,
  zo 3 (.mv (.tmp 49)),
  zo 4 (.mv (.const (.int .i64 0)))]
def pc14_c21 : PCode := .region none false pc14_o21
def pc14_c22 : PCode := .ret
def pc14_c23 : PCode := .seq pc14_c21 pc14_c22
def pc14_c24 : PCode := .seq pc14_c20 pc14_c23
def pc14_c25 : PCode := .seq pc14_c11 pc14_c24
def pc14_c26 : PCode := .seq pc14_c10 pc14_c25
def pc14_c27 : PCode := .seq pc14_c9 pc14_c26
def pc14_c28 : PCode := .seq pc14_c2 pc14_c27
def pc14_c29 : PCode := .seq pc14_c1 pc14_c28
def pc14_r : List PRes := [PRes.cell 2 true 6 [(2, 11), (3, 2), (4, 11), (5, 22)], PRes.tmp 3 [], PRes.tmp 4 []]
def pc14 : PFunc := ⟨50, pc14_r, pc14_c29, false⟩
def pc14_a : Ann := {
  kr := fun
    | _ => none
  ka := fun
    | _ => 0
  kh := fun
    | _ => none
  ow := fun t => match t with
    | 64 => [(1, 5, 1)]
    | _ => []
  tc := fun t => match t with
    | 64 => true
    | _ => false }
theorem pc14_ok : compFn Try.prog pc14_a Try.f14 = some pc14 := by kernel_rfl


-- 7: vedette/vedettelaw17.known
def pc7_o1 : List POper := [zo 0 (.mv (.const (.bool false)))]
def pc7_c1 : PCode := .region none false pc7_o1
def pc7_o2 : List POper := [zo 12 (.build (.agg { toList := [.int .i64 0, .int .i64 0] }) [(0, 1, .const (.int .i64 1)), (1, 1, .const (.int .i64 0))]),
  zo 13 (.bslice 44 2 [.tmp 12]),
  zo 14 (.build (.agg { toList := [.int .i64 0, .int .i64 0] }) [(0, 1, .const (.int .i64 16))]),
  zo 15 (.build (.agg { toList := [.int .i64 0, .int .i64 0, .int .i64 0, .int .i64 0, .string { data := { toList := [] } }, .int .i64 0, .string { data := { toList := [] } }, .int .i64 0, .string { data := { toList := [] } }, .int .i64 0, .string { data := { toList := [] } }] }) [(0, 1, .const (.int .i64 5)), (1, 2, .tmp 14)]),
  zo 16 (.bslice 55 11 [.tmp 15]),
  zo 17 (.build (.agg { toList := [.int .i64 0, .int .i64 0, .slice none 0 0, .slice none 0 0, .slice none 0 0, .slice none 0 0] }) [(0, 1, .const (.int .i64 1)), (1, 1, .const (.int .i64 3)), (3, 1, .tmp 13), (4, 1, .tmp 16)]),
  zo 1 (.alloc 26 (.agg { toList := [.int .i64 0, .int .i64 0, .slice none 0 0, .slice none 0 0, .slice none 0 0, .slice none 0 0] }) []),
  ⟨none, .store 6 (.tmp 1) (.tmp 17), none, []⟩]
def pc7_c2 : PCode := .region none false pc7_o2
def pc7_o3 : List POper := [zo 19 (.load true 6 (.tmp 1)),
  zo 20 (.call true [[(2, 11), (3, 2), (4, 11), (5, 22)]] 9 [.tmp 19]),
  zo 18 (.mv (.tmp 20)),
  zo 21 (.ext (.tmp 18) 0),
  zo 22 (.ext (.tmp 18) 1),
  zo 2 (.mv (.tmp 21)),
  zo 3 (.mv (.tmp 22))]
def pc7_c3 : PCode := .region none false pc7_o3
def pc7_o4 : List POper := [zo 24 (.mv (.tmp 2)),
  zo 25 (.prim (.bin .add 9 false true) [.tmp 24, .const (.string { data := { toList := [113] } })]),
  zo 26 (.call true [[]] 14 [.tmp 25]),
  zo 23 (.mv (.tmp 26)),
  zo 27 (.ext (.tmp 23) 0),
  zo 28 (.ext (.tmp 23) 1),
  zo 29 (.ext (.tmp 23) 2),
  zo 4 (.alloc 26 (.agg { toList := [.int .i64 0, .int .i64 0, .slice none 0 0, .slice none 0 0, .slice none 0 0, .slice none 0 0] }) []),
  ⟨none, .store 6 (.tmp 4) (.tmp 27), none, []⟩,
  zo 5 (.mv (.tmp 28)),
  zo 6 (.mv (.tmp 29))]
def pc7_c4 : PCode := .region none false pc7_o4
def pc7_o5 : List POper := [zo 31 (.build (.agg { toList := [.int .i64 0, .int .i64 0, .slice none 0 0, .slice none 0 0, .slice none 0 0, .slice none 0 0] }) [(1, 1, .const (.int .i64 (-1)))]),
  zo 32 (.call true [[(2, 11), (3, 2), (4, 11), (5, 22)]] 9 [.tmp 31]),
  zo 30 (.mv (.tmp 32)),
  zo 33 (.ext (.tmp 30) 0),
  zo 34 (.ext (.tmp 30) 1),
  zo 7 (.mv (.tmp 33)),
  zo 8 (.mv (.tmp 34))]
def pc7_c5 : PCode := .region none false pc7_o5
def pc7_o6 : List POper := [zo 36 (.call true [[]] 14 [.const (.string { data := { toList := [] } })]),
  zo 35 (.mv (.tmp 36)),
  zo 37 (.ext (.tmp 35) 0),
  zo 38 (.ext (.tmp 35) 1),
  zo 39 (.ext (.tmp 35) 2),
  zo 9 (.alloc 26 (.agg { toList := [.int .i64 0, .int .i64 0, .slice none 0 0, .slice none 0 0, .slice none 0 0, .slice none 0 0] }) []),
  ⟨none, .store 6 (.tmp 9) (.tmp 37), none, []⟩,
  zo 10 (.mv (.tmp 38)),
  zo 11 (.mv (.tmp 39))]
def pc7_c6 : PCode := .region none false pc7_o6
def pc7_o7 : List POper := [zo 40 (.mv (.tmp 3)),
  zo 41 (.prim (.bin .eql 29 false true) [.tmp 40, .const (.int .i64 0)]),
  zo 42 (.mv (.tmp 41)),
  ⟨some 43, .mv (.tmp 6), some (42, true), []⟩,
  ⟨some 44, .prim (.bin .eql 29 false true) [.tmp 43, .const (.int .i64 0)], some (42, true), []⟩,
  zo 45 (.pick (.tmp 42) (.tmp 44) (.const (.bool false))),
  zo 46 (.mv (.tmp 45)),
  ⟨some 47, .mv (.tmp 5), some (46, true), []⟩,
  ⟨some 48, .mv (.tmp 2), some (46, true), []⟩,
  ⟨some 49, .prim (.len 9) [.tmp 48], some (46, true), []⟩,
  ⟨some 50, .prim (.bin .eql 3 false false) [.tmp 47, .tmp 49], some (46, true), []⟩,
  zo 51 (.pick (.tmp 46) (.tmp 50) (.const (.bool false))),
  zo 52 (.mv (.tmp 51)),
  ⟨some 53, .load true 6 (.tmp 1), some (52, true), []⟩,
  ⟨some 54, .load true 6 (.tmp 4), some (52, true), []⟩,
  ⟨some 55, .call true [[(2, 11), (3, 2), (4, 11), (5, 22)], [(2, 11), (3, 2), (4, 11), (5, 22)]] 13 [.tmp 53, .tmp 54], some (52, true), []⟩,
  zo 56 (.pick (.tmp 52) (.tmp 55) (.const (.bool false))),
  zo 57 (.mv (.tmp 56)),
  ⟨some 58, .mv (.tmp 8), some (57, true), []⟩,
  ⟨some 59, .prim (.bin .eql 29 false true) [.tmp 58, .const (.int .i64 11)], some (57, true), []⟩,
  zo 60 (.pick (.tmp 57) (.tmp 59) (.const (.bool false))),
  zo 61 (.mv (.tmp 60)),
  ⟨some 62, .mv (.tmp 11), some (61, true), []⟩,
  ⟨some 63, .prim (.bin .eql 29 false true) [.tmp 62, .const (.int .i64 10)], some (61, true), []⟩,
  zo 64 (.pick (.tmp 61) (.tmp 63) (.const (.bool false))),
  zo 65 (.mv (.tmp 64)),
  ⟨some 66, .load true 6 (.tmp 1), some (65, true), []⟩,
  ⟨some 67, .call true [[(2, 11), (3, 2), (4, 11), (5, 22)], []] 11 [.tmp 66, .const (.int .i64 2)], some (65, true), []⟩,
  zo 68 (.pick (.tmp 65) (.tmp 67) (.const (.bool false))),
  zo 69 (.mv (.tmp 68)),
  ⟨some 70, .load true 6 (.tmp 1), some (69, true), []⟩,
  ⟨some 71, .call true [[(2, 11), (3, 2), (4, 11), (5, 22)], []] 11 [.tmp 70, .const (.int .i64 1)], some (69, true), []⟩,
  ⟨some 72, .prim (.un .not) [.tmp 71], some (69, true), []⟩,
  zo 73 (.pick (.tmp 69) (.tmp 72) (.const (.bool false))),
  zo 74 (.mv (.tmp 73)),
  ⟨some 75, .load true 6 (.tmp 1), some (74, true), []⟩,
  ⟨some 76, .load true 6 (.tmp 4), some (74, true), []⟩,
  ⟨some 77, .call true [[(2, 11), (3, 2), (4, 11), (5, 22)], [(2, 11), (3, 2), (4, 11), (5, 22)]] 12 [.tmp 75, .tmp 76], some (74, true), []⟩,
  zo 78 (.pick (.tmp 74) (.tmp 77) (.const (.bool false))),
  zo 0 (.mv (.tmp 78))]
def pc7_c7 : PCode := .region none false pc7_o7
def pc7_c8 : PCode := .ret
def pc7_c9 : PCode := .seq pc7_c7 pc7_c8
def pc7_c10 : PCode := .seq pc7_c6 pc7_c9
def pc7_c11 : PCode := .seq pc7_c5 pc7_c10
def pc7_c12 : PCode := .seq pc7_c4 pc7_c11
def pc7_c13 : PCode := .seq pc7_c3 pc7_c12
def pc7_c14 : PCode := .seq pc7_c2 pc7_c13
def pc7_c15 : PCode := .seq pc7_c1 pc7_c14
def pc7_r : List PRes := [PRes.tmp 0 []]
def pc7 : PFunc := ⟨79, pc7_r, pc7_c15, false⟩
def pc7_a : Ann := {
  kr := fun
    | _ => none
  ka := fun
    | _ => 0
  kh := fun
    | _ => none
  ow := fun t => match t with
    | 64 => [(1, 5, 1)]
    | _ => []
  tc := fun t => match t with
    | 64 => true
    | _ => false }
theorem pc7_ok : compFn Try.prog pc7_a Try.f7 = some pc7 := by kernel_rfl


-- 16: vedette/vedettelaw17.fewCmd
def pc16_o1 : List POper := [zo 1 (.box 53 (.tmp 0) []),
  zo 2 (.mv (.const (.bool false)))]
def pc16_c1 : PCode := .region none false pc16_o1
def pc16_o2 : List POper := [zo 3 (.mv (.const (.int .i64 0)))]
def pc16_c2 : PCode := .region none false pc16_o2
def pc16_o3 : List POper := [zo 4 (.mv (.tmp 3)),
  zo 5 (.prim (.bin .lss 3 false true) [.tmp 4, .const (.int .i64 4)])]
def pc16_c3 : PCode := .region (some ([1, 3], [1], [])) false pc16_o3
def pc16_c4 : PCode := .skip
def pc16_c5 : PCode := .exit 0
def pc16_c6 : PCode := .cond (.tmp 5) pc16_c4 pc16_c5
def pc16_c7 : PCode := .seq pc16_c3 pc16_c6
def pc16_o8 : List POper := [zo 8 (.mv (.tmp 3)),
  zo 9 (.faddr 6 (.tmp 1)),
  zo 10 (.iaddrA 4 2 (.tmp 9) (.tmp 8)),
  zo 11 (.faddr 1 (.tmp 10)),
  zo 12 (.load false 1 (.tmp 11)),
  zo 13 (.prim (.len 9) [.tmp 12]),
  zo 14 (.prim (.bin .gtr 3 false true) [.tmp 13, .const (.int .i64 40)])]
def pc16_c8 : PCode := .region none false pc16_o8
def pc16_o9 : List POper := [zo 2 (.mv (.const (.bool false)))]
def pc16_c9 : PCode := .region none false pc16_o9
def pc16_c10 : PCode := .ret
def pc16_c11 : PCode := .seq pc16_c9 pc16_c10
def pc16_c12 : PCode := .skip
def pc16_c13 : PCode := .cond (.tmp 14) pc16_c11 pc16_c12
def pc16_c14 : PCode := .seq pc16_c8 pc16_c13
def pc16_c15 : PCode := .block 1 pc16_c14
def pc16_o16 : List POper := [zo 6 (.mv (.tmp 3)),
  zo 7 (.prim (.bin .add 3 false true) [.tmp 6, .const (.int .i64 1)]),
  zo 3 (.mv (.tmp 7))]
def pc16_c16 : PCode := .region none false pc16_o16
def pc16_c17 : PCode := .seq pc16_c15 pc16_c16
def pc16_c18 : PCode := .seq pc16_c7 pc16_c17
def pc16_c19 : PCode := .loop pc16_c18
def pc16_c20 : PCode := .block 0 pc16_c19
def pc16_c21 : PCode := .seq pc16_c2 pc16_c20
def pc16_o22 : List POper := [zo 15 (.faddr 14 (.tmp 1)),
  zo 16 (.faddr 1 (.tmp 15)),
  zo 17 (.load false 1 (.tmp 16)),
  zo 18 (.prim (.len 9) [.tmp 17]),
  zo 19 (.prim (.bin .leq 3 false true) [.tmp 18, .const (.int .i64 40)]),
  zo 2 (.mv (.tmp 19))]
def pc16_c22 : PCode := .region none false pc16_o22
def pc16_c23 : PCode := .ret
def pc16_c24 : PCode := .seq pc16_c22 pc16_c23
def pc16_c25 : PCode := .seq pc16_c21 pc16_c24
def pc16_c26 : PCode := .seq pc16_c1 pc16_c25
def pc16_r : List PRes := [PRes.tmp 2 []]
def pc16 : PFunc := ⟨20, pc16_r, pc16_c26, false⟩
def pc16_a : Ann := {
  kr := fun
    | 2 => some ([1, 3], [1], [])
    | _ => none
  ka := fun
    | _ => 0
  kh := fun
    | _ => none
  ow := fun t => match t with
    | 64 => [(1, 5, 1)]
    | _ => []
  tc := fun t => match t with
    | 64 => true
    | _ => false }
theorem pc16_ok : compFn Try.prog pc16_a Try.f16 = some pc16 := by kernel_rfl


-- 74: vedette/vedettelaw17.fewField
def pc74_o1 : List POper := [zo 1 (.box 48 (.tmp 0) []),
  zo 2 (.mv (.const (.bool false)))]
def pc74_c1 : PCode := .region none false pc74_o1
def pc74_o2 : List POper := [zo 3 (.faddr 1 (.tmp 1)),
  zo 4 (.load false 1 (.tmp 3)),
  zo 5 (.prim (.len 9) [.tmp 4]),
  zo 6 (.prim (.bin .leq 3 false true) [.tmp 5, .const (.int .i64 40)]),
  zo 2 (.mv (.tmp 6))]
def pc74_c2 : PCode := .region none false pc74_o2
def pc74_c3 : PCode := .ret
def pc74_c4 : PCode := .seq pc74_c2 pc74_c3
def pc74_c5 : PCode := .seq pc74_c1 pc74_c4
def pc74_r : List PRes := [PRes.tmp 2 []]
def pc74 : PFunc := ⟨7, pc74_r, pc74_c5, false⟩
def pc74_a : Ann := {
  kr := fun
    | _ => none
  ka := fun
    | _ => 0
  kh := fun
    | _ => none
  ow := fun t => match t with
    | 64 => [(1, 5, 1)]
    | _ => []
  tc := fun t => match t with
    | 64 => true
    | _ => false }
theorem pc74_ok : compFn Try.prog pc74_a Try.f74 = some pc74 := by kernel_rfl


-- 43: vedette/vedettelaw17.fewThing
def pc43_o1 : List POper := [zo 1 (.box 55 (.tmp 0) []),
  zo 2 (.mv (.const (.bool false)))]
def pc43_c1 : PCode := .region none false pc43_o1
def pc43_o2 : List POper := [zo 3 (.mv (.const (.int .i64 0)))]
def pc43_c2 : PCode := .region none false pc43_o2
def pc43_o3 : List POper := [zo 4 (.mv (.tmp 3)),
  zo 5 (.prim (.bin .lss 3 false true) [.tmp 4, .const (.int .i64 4)])]
def pc43_c3 : PCode := .region (some ([1, 3], [1], [])) false pc43_o3
def pc43_c4 : PCode := .skip
def pc43_c5 : PCode := .exit 0
def pc43_c6 : PCode := .cond (.tmp 5) pc43_c4 pc43_c5
def pc43_c7 : PCode := .seq pc43_c3 pc43_c6
def pc43_o8 : List POper := [zo 8 (.mv (.tmp 3)),
  zo 9 (.faddr 3 (.tmp 1)),
  zo 10 (.iaddrA 4 2 (.tmp 9) (.tmp 8)),
  zo 11 (.load true 2 (.tmp 10)),
  zo 12 (.call true [[]] 74 [.tmp 11]),
  zo 13 (.prim (.un .not) [.tmp 12])]
def pc43_c8 : PCode := .region none false pc43_o8
def pc43_o9 : List POper := [zo 2 (.mv (.const (.bool false)))]
def pc43_c9 : PCode := .region none false pc43_o9
def pc43_c10 : PCode := .ret
def pc43_c11 : PCode := .seq pc43_c9 pc43_c10
def pc43_c12 : PCode := .skip
def pc43_c13 : PCode := .cond (.tmp 13) pc43_c11 pc43_c12
def pc43_c14 : PCode := .seq pc43_c8 pc43_c13
def pc43_c15 : PCode := .block 1 pc43_c14
def pc43_o16 : List POper := [zo 6 (.mv (.tmp 3)),
  zo 7 (.prim (.bin .add 3 false true) [.tmp 6, .const (.int .i64 1)]),
  zo 3 (.mv (.tmp 7))]
def pc43_c16 : PCode := .region none false pc43_o16
def pc43_c17 : PCode := .seq pc43_c15 pc43_c16
def pc43_c18 : PCode := .seq pc43_c7 pc43_c17
def pc43_c19 : PCode := .loop pc43_c18
def pc43_c20 : PCode := .block 0 pc43_c19
def pc43_c21 : PCode := .seq pc43_c2 pc43_c20
def pc43_o22 : List POper := [zo 2 (.mv (.const (.bool true)))]
def pc43_c22 : PCode := .region none false pc43_o22
def pc43_c23 : PCode := .ret
def pc43_c24 : PCode := .seq pc43_c22 pc43_c23
def pc43_c25 : PCode := .seq pc43_c21 pc43_c24
def pc43_c26 : PCode := .seq pc43_c1 pc43_c25
def pc43_r : List PRes := [PRes.tmp 2 []]
def pc43 : PFunc := ⟨14, pc43_r, pc43_c26, false⟩
def pc43_a : Ann := {
  kr := fun
    | 2 => some ([1, 3], [1], [])
    | _ => none
  ka := fun
    | _ => 0
  kh := fun
    | _ => none
  ow := fun t => match t with
    | 64 => [(1, 5, 1)]
    | _ => []
  tc := fun t => match t with
    | 64 => true
    | _ => false }
theorem pc43_ok : compFn Try.prog pc43_a Try.f43 = some pc43 := by kernel_rfl


-- 17: vedette/vedettelaw17.fewThings
def pc17_o1 : List POper := [zo 2 (.mv (.const (.bool false)))]
def pc17_c1 : PCode := .region none false pc17_o1
def pc17_o2 : List POper := [zo 3 (.mv (.const (.int .i64 0)))]
def pc17_c2 : PCode := .region none false pc17_o2
def pc17_o3 : List POper := [zo 4 (.mv (.tmp 3)),
  zo 5 (.mv (.tmp 0)),
  zo 6 (.lenS (.tmp 5)),
  zo 7 (.prim (.bin .lss 3 false false) [.tmp 4, .tmp 6])]
def pc17_c3 : PCode := .region (some ([0, 3], [], [])) false pc17_o3
def pc17_c4 : PCode := .skip
def pc17_c5 : PCode := .exit 0
def pc17_c6 : PCode := .cond (.tmp 7) pc17_c4 pc17_c5
def pc17_c7 : PCode := .seq pc17_c3 pc17_c6
def pc17_o8 : List POper := [zo 10 (.mv (.tmp 0)),
  zo 11 (.mv (.tmp 3)),
  zo 12 (.iaddrS 11 (.tmp 10) (.tmp 11)),
  zo 13 (.load true 11 (.tmp 12)),
  zo 14 (.call true [[]] 43 [.tmp 13]),
  zo 15 (.prim (.un .not) [.tmp 14])]
def pc17_c8 : PCode := .region none false pc17_o8
def pc17_o9 : List POper := [zo 2 (.mv (.const (.bool false)))]
def pc17_c9 : PCode := .region none false pc17_o9
def pc17_c10 : PCode := .ret
def pc17_c11 : PCode := .seq pc17_c9 pc17_c10
def pc17_c12 : PCode := .skip
def pc17_c13 : PCode := .cond (.tmp 15) pc17_c11 pc17_c12
def pc17_c14 : PCode := .seq pc17_c8 pc17_c13
def pc17_c15 : PCode := .block 1 pc17_c14
def pc17_o16 : List POper := [zo 8 (.mv (.tmp 3)),
  zo 9 (.prim (.bin .add 3 false true) [.tmp 8, .const (.int .i64 1)]),
  zo 3 (.mv (.tmp 9))]
def pc17_c16 : PCode := .region none false pc17_o16
def pc17_c17 : PCode := .seq pc17_c15 pc17_c16
def pc17_c18 : PCode := .seq pc17_c7 pc17_c17
def pc17_c19 : PCode := .loop pc17_c18
def pc17_c20 : PCode := .block 0 pc17_c19
def pc17_c21 : PCode := .seq pc17_c2 pc17_c20
def pc17_o22 : List POper := [zo 16 (.mv (.tmp 0)),
  zo 17 (.lenS (.tmp 16)),
  zo 18 (.prim (.bin .leq 3 false true) [.tmp 17, .const (.int .i64 30)]),
  zo 2 (.mv (.tmp 18))]
def pc17_c22 : PCode := .region none false pc17_o22
def pc17_c23 : PCode := .ret
def pc17_c24 : PCode := .seq pc17_c22 pc17_c23
def pc17_c25 : PCode := .seq pc17_c21 pc17_c24
def pc17_c26 : PCode := .seq pc17_c1 pc17_c25
def pc17_r : List PRes := [PRes.tmp 2 []]
def pc17 : PFunc := ⟨19, pc17_r, pc17_c26, false⟩
def pc17_a : Ann := {
  kr := fun
    | 2 => some ([0, 3], [], [])
    | _ => none
  ka := fun
    | _ => 0
  kh := fun
    | _ => none
  ow := fun t => match t with
    | 64 => [(1, 5, 1)]
    | _ => []
  tc := fun t => match t with
    | 64 => true
    | _ => false }
theorem pc17_ok : compFn Try.prog pc17_a Try.f17 = some pc17 := by kernel_rfl


-- 8: vedette/vedettelaw17.fewNote
def pc8_o1 : List POper := [zo 1 (.box 26 (.tmp 0) []),
  zo 2 (.mv (.const (.bool false)))]
def pc8_c1 : PCode := .region none false pc8_o1
def pc8_o2 : List POper := [zo 3 (.mv (.const (.int .i64 0)))]
def pc8_c2 : PCode := .region none false pc8_o2
def pc8_o3 : List POper := [zo 4 (.mv (.tmp 3)),
  zo 5 (.faddr 5 (.tmp 1)),
  zo 6 (.load false 1 (.tmp 5)),
  zo 7 (.lenS (.tmp 6)),
  zo 8 (.prim (.bin .lss 3 false false) [.tmp 4, .tmp 7])]
def pc8_c3 : PCode := .region (some ([1, 3], [1], [])) false pc8_o3
def pc8_c4 : PCode := .skip
def pc8_c5 : PCode := .exit 0
def pc8_c6 : PCode := .cond (.tmp 8) pc8_c4 pc8_c5
def pc8_c7 : PCode := .seq pc8_c3 pc8_c6
def pc8_o8 : List POper := [zo 11 (.faddr 5 (.tmp 1)),
  zo 12 (.load false 1 (.tmp 11)),
  zo 13 (.mv (.tmp 3)),
  zo 14 (.iaddrS 22 (.tmp 12) (.tmp 13)),
  zo 15 (.load true 22 (.tmp 14)),
  zo 16 (.call true [[]] 16 [.tmp 15]),
  zo 17 (.prim (.un .not) [.tmp 16])]
def pc8_c8 : PCode := .region none false pc8_o8
def pc8_o9 : List POper := [zo 2 (.mv (.const (.bool false)))]
def pc8_c9 : PCode := .region none false pc8_o9
def pc8_c10 : PCode := .ret
def pc8_c11 : PCode := .seq pc8_c9 pc8_c10
def pc8_c12 : PCode := .skip
def pc8_c13 : PCode := .cond (.tmp 17) pc8_c11 pc8_c12
def pc8_c14 : PCode := .seq pc8_c8 pc8_c13
def pc8_c15 : PCode := .block 1 pc8_c14
def pc8_o16 : List POper := [zo 9 (.mv (.tmp 3)),
  zo 10 (.prim (.bin .add 3 false true) [.tmp 9, .const (.int .i64 1)]),
  zo 3 (.mv (.tmp 10))]
def pc8_c16 : PCode := .region none false pc8_o16
def pc8_c17 : PCode := .seq pc8_c15 pc8_c16
def pc8_c18 : PCode := .seq pc8_c7 pc8_c17
def pc8_c19 : PCode := .loop pc8_c18
def pc8_c20 : PCode := .block 0 pc8_c19
def pc8_c21 : PCode := .seq pc8_c2 pc8_c20
def pc8_o22 : List POper := [zo 18 (.faddr 2 (.tmp 1)),
  zo 19 (.load false 1 (.tmp 18)),
  zo 20 (.call true [[(0, 11)]] 17 [.tmp 19]),
  zo 21 (.mv (.tmp 20)),
  ⟨some 22, .faddr 4 (.tmp 1), some (21, true), []⟩,
  ⟨some 23, .load false 1 (.tmp 22), some (21, true), []⟩,
  ⟨some 24, .call true [[(0, 11)]] 17 [.tmp 23], some (21, true), []⟩,
  zo 25 (.pick (.tmp 21) (.tmp 24) (.const (.bool false))),
  zo 26 (.mv (.tmp 25)),
  ⟨some 27, .faddr 3 (.tmp 1), some (26, true), []⟩,
  ⟨some 28, .load false 1 (.tmp 27), some (26, true), []⟩,
  ⟨some 29, .lenS (.tmp 28), some (26, true), []⟩,
  ⟨some 30, .prim (.bin .leq 3 false true) [.tmp 29, .const (.int .i64 20)], some (26, true), []⟩,
  zo 31 (.pick (.tmp 26) (.tmp 30) (.const (.bool false))),
  zo 32 (.mv (.tmp 31)),
  ⟨some 33, .faddr 5 (.tmp 1), some (32, true), []⟩,
  ⟨some 34, .load false 1 (.tmp 33), some (32, true), []⟩,
  ⟨some 35, .lenS (.tmp 34), some (32, true), []⟩,
  ⟨some 36, .prim (.bin .leq 3 false true) [.tmp 35, .const (.int .i64 24)], some (32, true), []⟩,
  zo 37 (.pick (.tmp 32) (.tmp 36) (.const (.bool false))),
  zo 2 (.mv (.tmp 37))]
def pc8_c22 : PCode := .region none false pc8_o22
def pc8_c23 : PCode := .ret
def pc8_c24 : PCode := .seq pc8_c22 pc8_c23
def pc8_c25 : PCode := .seq pc8_c21 pc8_c24
def pc8_c26 : PCode := .seq pc8_c1 pc8_c25
def pc8_r : List PRes := [PRes.tmp 2 []]
def pc8 : PFunc := ⟨38, pc8_r, pc8_c26, false⟩
def pc8_a : Ann := {
  kr := fun
    | 2 => some ([1, 3], [1], [])
    | _ => none
  ka := fun
    | _ => 0
  kh := fun
    | _ => none
  ow := fun t => match t with
    | 64 => [(1, 5, 1)]
    | _ => []
  tc := fun t => match t with
    | 64 => true
    | _ => false }
theorem pc8_ok : compFn Try.prog pc8_a Try.f8 = some pc8 := by kernel_rfl


-- 5: vedette/vedettelaw17.NoteSpoils
def pc5_o1 : List POper := [zo 2 (.box 26 (.tmp 0) []),
  zo 4 (.mv (.const (.bool false)))]
def pc5_c1 : PCode := .region none false pc5_o1
def pc5_o2 : List POper := [zo 6 (.call true [] 7 []),
  zo 7 (.prim (.un .not) [.tmp 6])]
def pc5_c2 : PCode := .region none false pc5_o2
def pc5_o3 : List POper := [zo 4 (.mv (.const (.bool false)))]
def pc5_c3 : PCode := .region none false pc5_o3
def pc5_c4 : PCode := .ret
def pc5_c5 : PCode := .seq pc5_c3 pc5_c4
def pc5_c6 : PCode := .skip
def pc5_c7 : PCode := .cond (.tmp 7) pc5_c5 pc5_c6
def pc5_c8 : PCode := .seq pc5_c2 pc5_c7
def pc5_o9 : List POper := [zo 8 (.load true 6 (.tmp 2)),
  zo 9 (.call true [[(2, 11), (3, 2), (4, 11), (5, 22)]] 8 [.tmp 8]),
  zo 10 (.prim (.un .not) [.tmp 9]),
  zo 11 (.mv (.tmp 10)),
  ⟨some 12, .load true 6 (.tmp 2), some (11, false), []⟩,
  ⟨some 13, .call true [[(2, 11), (3, 2), (4, 11), (5, 22)], []] 11 [.tmp 12, .const (.int .i64 3)], some (11, false), []⟩,
  ⟨some 14, .prim (.un .not) [.tmp 13], some (11, false), []⟩,
  zo 15 (.pick (.tmp 11) (.const (.bool true)) (.tmp 14))]
def pc5_c9 : PCode := .region none false pc5_o9
def pc5_o10 : List POper := [zo 4 (.mv (.const (.bool true)))]
def pc5_c10 : PCode := .region none false pc5_o10
def pc5_c11 : PCode := .ret
def pc5_c12 : PCode := .seq pc5_c10 pc5_c11
def pc5_c13 : PCode := .skip
def pc5_c14 : PCode := .cond (.tmp 15) pc5_c12 pc5_c13
def pc5_c15 : PCode := .seq pc5_c9 pc5_c14
def pc5_o16 : List POper := [zo 16 (.load true 6 (.tmp 2)),
  zo 5 (.alloc 26 (.agg { toList := [.int .i64 0, .int .i64 0, .slice none 0 0, .slice none 0 0, .slice none 0 0, .slice none 0 0] }) []),
  ⟨none, .store 6 (.tmp 5) (.tmp 16), none, []⟩]
def pc5_c16 : PCode := .region none false pc5_o16
def pc5_o17 : List POper := [zo 17 (.mv (.tmp 1)),
  zo 18 (.prim (.bin .rem 5 false true) [.tmp 17, .const (.int .u8 7)])]
def pc5_c17 : PCode := .region none false pc5_o17
def pc5_o18 : List POper := [zo 28 (.prim (.bin .eql 5 false true) [.tmp 18, .const (.int .u8 0)]),
  zo 27 (.mv (.tmp 28))]
def pc5_c18 : PCode := .region none false pc5_o18
def pc5_o19 : List POper := [zo 29 (.faddr 0 (.tmp 5)),
  ⟨none, .store 1 (.tmp 29) (.const (.int .i64 3)), none, []⟩]
def pc5_c19 : PCode := .region none false pc5_o19
def pc5_o20 : List POper := [zo 31 (.prim (.bin .eql 5 false true) [.tmp 18, .const (.int .u8 1)]),
  zo 30 (.mv (.tmp 31))]
def pc5_c20 : PCode := .region none false pc5_o20
def pc5_o21 : List POper := [zo 32 (.faddr 1 (.tmp 5)),
  ⟨none, .store 1 (.tmp 32) (.const (.int .i64 (-1))), none, []⟩]
def pc5_c21 : PCode := .region none false pc5_o21
def pc5_o22 : List POper := [zo 34 (.prim (.bin .eql 5 false true) [.tmp 18, .const (.int .u8 2)]),
  zo 33 (.mv (.tmp 34))]
def pc5_c22 : PCode := .region none false pc5_o22
def pc5_o23 : List POper := [⟨some 35, .faddr 3 (.tmp 2), none, [(2, .at_ 2 0)]⟩,
  ⟨some 36, .load false 1 (.tmp 35), none, [(35, .at_ 2 3)]⟩,
  ⟨some 37, .app 100037 44 2 16 (.const (.slice none 0 0)) (.tmp 36), none, [(36, .imm)]⟩,
  ⟨some 38, .faddr 0 (.tmp 2), none, [(2, .at_ 2 0)]⟩,
  ⟨some 39, .load false 1 (.tmp 38), none, [(38, .at_ 2 0)]⟩,
  ⟨some 40, .prim (.bin .add 3 false true) [.tmp 39, .const (.int .i64 1)], none, [(39, .imm)]⟩,
  ⟨some 41, .prim (.bin .rem 3 false true) [.tmp 40, .const (.int .i64 3)], none, [(40, .imm)]⟩,
  ⟨some 42, .build (.agg { toList := [.int .i64 0, .int .i64 0] }) [(0, 1, .const (.int .i64 16)), (1, 1, .tmp 41)], none, [(41, .imm)]⟩,
  ⟨some 43, .bslice 44 2 [.tmp 42], none, [(42, .imm)]⟩,
  ⟨some 44, .app 100037 44 2 16 (.tmp 37) (.tmp 43), none, [(37, .obj 100037), (43, .imm)]⟩,
  ⟨some 45, .faddr 3 (.tmp 5), none, [(5, .at_ 5 0)]⟩,
  ⟨none, .store 1 (.tmp 45) (.tmp 44), none, [(45, .at_ 5 3), (44, .obj 100037)]⟩]
def pc5_c23 : PCode := .region none true pc5_o23
def pc5_o24 : List POper := [zo 47 (.prim (.bin .eql 5 false true) [.tmp 18, .const (.int .u8 3)]),
  zo 46 (.mv (.tmp 47))]
def pc5_c24 : PCode := .region none false pc5_o24
def pc5_o25 : List POper := [⟨some 48, .faddr 3 (.tmp 2), none, [(2, .at_ 2 0)]⟩,
  ⟨some 49, .load false 1 (.tmp 48), none, [(48, .at_ 2 3)]⟩,
  ⟨some 50, .app 100050 44 2 16 (.const (.slice none 0 0)) (.tmp 49), none, [(49, .imm)]⟩,
  ⟨some 51, .faddr 0 (.tmp 2), none, [(2, .at_ 2 0)]⟩,
  ⟨some 52, .load false 1 (.tmp 51), none, [(51, .at_ 2 0)]⟩,
  ⟨some 53, .build (.agg { toList := [.int .i64 0, .int .i64 0] }) [(0, 1, .const (.int .i64 15)), (1, 1, .tmp 52)], none, [(52, .imm)]⟩,
  ⟨some 54, .bslice 44 2 [.tmp 53], none, [(53, .imm)]⟩,
  ⟨some 55, .app 100050 44 2 16 (.tmp 50) (.tmp 54), none, [(50, .obj 100050), (54, .imm)]⟩,
  ⟨some 56, .faddr 3 (.tmp 5), none, [(5, .at_ 5 0)]⟩,
  ⟨none, .store 1 (.tmp 56) (.tmp 55), none, [(56, .at_ 5 3), (55, .obj 100050)]⟩]
def pc5_c25 : PCode := .region none true pc5_o25
def pc5_o26 : List POper := [zo 58 (.prim (.bin .eql 5 false true) [.tmp 18, .const (.int .u8 4)]),
  zo 57 (.mv (.tmp 58))]
def pc5_c26 : PCode := .region none false pc5_o26
def pc5_o27 : List POper := [zo 59 (.faddr 5 (.tmp 2)),
  zo 60 (.load false 1 (.tmp 59)),
  zo 61 (.app 100061 53 22 216 (.const (.slice none 0 0)) (.tmp 60)),
  zo 62 (.build (.agg { toList := [.int .i64 0, .int .i64 0, .int .i64 0, .int .i64 0, .int .i64 0, .int .i64 0, .int .i64 0, .string { data := { toList := [] } }, .int .i64 0, .string { data := { toList := [] } }, .int .i64 0, .string { data := { toList := [] } }, .int .i64 0, .string { data := { toList := [] } }, .int .i64 0, .string { data := { toList := [] } }, .int .i64 0, .int .i64 0, .int .i64 0, .int .i64 0, .int .i64 0, .int .i64 0] }) [(0, 1, .const (.int .i64 1))]),
  zo 63 (.bslice 53 22 [.tmp 62]),
  zo 64 (.app 100061 53 22 216 (.tmp 61) (.tmp 63)),
  zo 65 (.faddr 5 (.tmp 5)),
  ⟨none, .store 1 (.tmp 65) (.tmp 64), none, []⟩]
def pc5_c27 : PCode := .region none false pc5_o27
def pc5_o28 : List POper := [zo 67 (.prim (.bin .eql 5 false true) [.tmp 18, .const (.int .u8 5)]),
  zo 66 (.mv (.tmp 67))]
def pc5_c28 : PCode := .region none false pc5_o28
def pc5_o29 : List POper := [zo 68 (.faddr 2 (.tmp 2)),
  zo 69 (.load false 1 (.tmp 68)),
  zo 70 (.app 100070 55 11 120 (.const (.slice none 0 0)) (.tmp 69)),
  zo 71 (.build (.agg { toList := [.int .i64 0, .int .i64 0, .int .i64 0, .int .i64 0, .string { data := { toList := [] } }, .int .i64 0, .string { data := { toList := [] } }, .int .i64 0, .string { data := { toList := [] } }, .int .i64 0, .string { data := { toList := [] } }] }) [(0, 1, .const (.int .i64 (-1)))]),
  zo 72 (.bslice 55 11 [.tmp 71]),
  zo 73 (.app 100070 55 11 120 (.tmp 70) (.tmp 72)),
  zo 74 (.faddr 2 (.tmp 5)),
  ⟨none, .store 1 (.tmp 74) (.tmp 73), none, []⟩]
def pc5_c29 : PCode := .region none false pc5_o29
def pc5_o30 : List POper := [zo 19 (.faddr 4 (.tmp 2)),
  zo 20 (.load false 1 (.tmp 19)),
  zo 21 (.app 100021 55 11 120 (.const (.slice none 0 0)) (.tmp 20)),
  zo 22 (.build (.agg { toList := [.int .i64 0, .int .i64 0] }) [(0, 1, .const (.int .i64 64))]),
  zo 23 (.build (.agg { toList := [.int .i64 0, .int .i64 0, .int .i64 0, .int .i64 0, .string { data := { toList := [] } }, .int .i64 0, .string { data := { toList := [] } }, .int .i64 0, .string { data := { toList := [] } }, .int .i64 0, .string { data := { toList := [] } }] }) [(0, 1, .const (.int .i64 1000000)), (1, 2, .tmp 22)]),
  zo 24 (.bslice 55 11 [.tmp 23]),
  zo 25 (.app 100021 55 11 120 (.tmp 21) (.tmp 24)),
  zo 26 (.faddr 4 (.tmp 5)),
  ⟨none, .store 1 (.tmp 26) (.tmp 25), none, []⟩]
def pc5_c30 : PCode := .region none false pc5_o30
def pc5_c31 : PCode := .cond (.tmp 66) pc5_c29 pc5_c30
def pc5_c32 : PCode := .seq pc5_c28 pc5_c31
def pc5_c33 : PCode := .cond (.tmp 57) pc5_c27 pc5_c32
def pc5_c34 : PCode := .seq pc5_c26 pc5_c33
def pc5_c35 : PCode := .cond (.tmp 46) pc5_c25 pc5_c34
def pc5_c36 : PCode := .seq pc5_c24 pc5_c35
def pc5_c37 : PCode := .cond (.tmp 33) pc5_c23 pc5_c36
def pc5_c38 : PCode := .seq pc5_c22 pc5_c37
def pc5_c39 : PCode := .cond (.tmp 30) pc5_c21 pc5_c38
def pc5_c40 : PCode := .seq pc5_c20 pc5_c39
def pc5_c41 : PCode := .cond (.tmp 27) pc5_c19 pc5_c40
def pc5_c42 : PCode := .seq pc5_c18 pc5_c41
def pc5_c43 : PCode := .block 0 pc5_c42
def pc5_c44 : PCode := .seq pc5_c17 pc5_c43
def pc5_o45 : List POper := [zo 75 (.load true 6 (.tmp 5)),
  zo 76 (.gcall false false [100021, 100037, 100050, 100061, 100070, 300000, 300001, 300002, 300003, 300004, 300005, 300006, 300007] [[(2, 11), (3, 2), (4, 11), (5, 22)], []] 11 [.tmp 75, .const (.int .i64 3)]),
  zo 77 (.prim (.un .not) [.tmp 76]),
  zo 78 (.mv (.tmp 77)),
  ⟨some 79, .load true 6 (.tmp 2), some (78, true), []⟩,
  ⟨some 80, .load true 6 (.tmp 5), some (78, true), []⟩,
  ⟨some 81, .gcall false false [100021, 100037, 100050, 100061, 100070, 300000, 300001, 300002, 300003, 300004, 300005, 300006, 300007] [[(2, 11), (3, 2), (4, 11), (5, 22)], [(2, 11), (3, 2), (4, 11), (5, 22)]] 12 [.tmp 79, .tmp 80], some (78, true), []⟩,
  ⟨some 82, .prim (.un .not) [.tmp 81], some (78, true), []⟩,
  zo 83 (.pick (.tmp 78) (.tmp 82) (.const (.bool false))),
  zo 84 (.mv (.tmp 83)),
  ⟨some 85, .load true 6 (.tmp 2), some (84, true), []⟩,
  ⟨some 86, .call true [[(2, 11), (3, 2), (4, 11), (5, 22)], []] 11 [.tmp 85, .const (.int .i64 4)], some (84, true), []⟩,
  zo 87 (.pick (.tmp 84) (.tmp 86) (.const (.bool false))),
  zo 4 (.mv (.tmp 87))]
def pc5_c45 : PCode := .region (some ([2, 5], [2, 5, 100021, 100037, 100050, 100061, 100070], [])) false pc5_o45
def pc5_c46 : PCode := .ret
def pc5_c47 : PCode := .seq pc5_c45 pc5_c46
def pc5_c48 : PCode := .seq pc5_c44 pc5_c47
def pc5_c49 : PCode := .seq pc5_c16 pc5_c48
def pc5_c50 : PCode := .seq pc5_c15 pc5_c49
def pc5_c51 : PCode := .seq pc5_c8 pc5_c50
def pc5_c52 : PCode := .seq pc5_c1 pc5_c51
def pc5_r : List PRes := [PRes.tmp 4 []]
def pc5 : PFunc := ⟨88, pc5_r, pc5_c52, false⟩
def pc5_a : Ann := {
  kr := fun
    | 20 => some ([2, 5], [2, 5, 100021, 100037, 100050, 100061, 100070], [])
    | _ => none
  ka := fun
    | 21 => 100021
    | 25 => 100021
    | 37 => 100037
    | 44 => 100037
    | 50 => 100050
    | 55 => 100050
    | 61 => 100061
    | 64 => 100061
    | 70 => 100070
    | 73 => 100070
    | _ => 0
  kh := fun
    | 2 => some (.at_ 2 0)
    | 5 => some (.at_ 5 0)
    | 35 => some (.at_ 2 3)
    | 36 => some (.imm)
    | 37 => some (.obj 100037)
    | 38 => some (.at_ 2 0)
    | 39 => some (.imm)
    | 40 => some (.imm)
    | 41 => some (.imm)
    | 42 => some (.imm)
    | 43 => some (.imm)
    | 44 => some (.obj 100037)
    | 45 => some (.at_ 5 3)
    | 48 => some (.at_ 2 3)
    | 49 => some (.imm)
    | 50 => some (.obj 100050)
    | 51 => some (.at_ 2 0)
    | 52 => some (.imm)
    | 53 => some (.imm)
    | 54 => some (.imm)
    | 55 => some (.obj 100050)
    | 56 => some (.at_ 5 3)
    | _ => none
  gf := fun d f => match d, f with
    | some 76, 11 => some (false, false, [100021, 100037, 100050, 100061, 100070, 300000, 300001, 300002, 300003, 300004, 300005, 300006, 300007])
    | some 81, 12 => some (false, false, [100021, 100037, 100050, 100061, 100070, 300000, 300001, 300002, 300003, 300004, 300005, 300006, 300007])
    | _, _ => none
  ow := fun t => match t with
    | 64 => [(1, 5, 1)]
    | _ => []
  tc := fun t => match t with
    | 64 => true
    | _ => false }
theorem pc5_ok : compFn Try.prog pc5_a Try.f5 = some pc5 := by kernel_rfl


end Go.Proofs.Ytpjejnefegdoeaa
