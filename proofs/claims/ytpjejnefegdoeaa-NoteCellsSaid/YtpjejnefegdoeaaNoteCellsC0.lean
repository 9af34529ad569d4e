/-
  Code of functions, as the pure machine runs it. No condition.
-/
import Derived.Test.YtpjejnefegdoeaaNoteCellsT
namespace Go.Proofs.Ytpjejnefegdoeaa
open Go Go.Rx
set_option maxRecDepth 100000
set_option linter.unusedVariables false
set_option linter.unusedSimpArgs false
set_option linter.unnecessarySimpa false
-- 60: vedette/fields.IsField
def p60o1 := [zo 1 (.box 48 0 []),
  zo 2 (.mv kf)]
def p60o2 := [zo 3 (.faddr 0 1),
  zo 4 (.load false 1 3),
  zo 5 (.prim (.bin .eql 2 false true) [4, kk 0]),
  zo 6 (.mv 5),
  zf 7 6 (.faddr 1 1),
  zf 8 6 (.load false 1 7),
  zf 9 6 (.prim (.bin .eql 9 false true) [8, .const (.string { data := { toList := [] } })]),
  zo 10 (.pick 6 kt 9),
  zo 11 (.mv 10),
  zt 12 11 (.faddr 1 1),
  zt 13 11 (.load false 1 12),
  zt 14 11 (.prim (.len 9) [13]),
  zt 15 11 (.prim (.bin .leq 3 false true) [14, kk 12]),
  zo 16 (.pick 11 15 kf),
  zo 2 (.mv 16)]
def p60c5 := sq (rg p60o1) (sq (rg p60o2) (rt))
def pc60_r : List PRes := [PRes.tmp 2 []]
def pc60 : PFunc := ⟨17, pc60_r, p60c5, false⟩
def pc60_a : Ann := {
  kr := fun
    | _ => none
  ka := fun
    | _ => 0
  kh := fun
    | _ => none
  ow := fun t => match t with
    | 64 => [(1, 5, 1)]
    | _ => []
  tc := fun t => match t with
    | 64 => true
    | _ => false }
theorem pc60_ok : compFn Try.prog pc60_a Try.f60 = some pc60 := by kernel_rfl


-- 61: vedette/cmd.core
def p61o1 := [zo 1 (.box 53 0 []),
  zo 2 (.alloc 53 (.agg { toList := [.int .i64 0, .int .i64 0, .int .i64 0, .int .i64 0, .int .i64 0, .int .i64 0, .int .i64 0, .string { data := { toList := [] } }, .int .i64 0, .string { data := { toList := [] } }, .int .i64 0, .string { data := { toList := [] } }, .int .i64 0, .string { data := { toList := [] } }, .int .i64 0, .string { data := { toList := [] } }, .int .i64 0, .int .i64 0, .int .i64 0, .int .i64 0, .int .i64 0, .int .i64 0] }) [])]
def p61o2 := [zo 4 (.faddr 0 1),
  zo 5 (.load false 1 4),
  zo 6 (.faddr 16 1),
  zo 7 (.load false 1 6),
  zo 8 (.faddr 17 1),
  zo 9 (.load false 1 8),
  zo 10 (.build (.agg { toList := [.int .i64 0, .int .i64 0, .int .i64 0, .int .i64 0, .int .i64 0, .int .i64 0, .int .i64 0, .string { data := { toList := [] } }, .int .i64 0, .string { data := { toList := [] } }, .int .i64 0, .string { data := { toList := [] } }, .int .i64 0, .string { data := { toList := [] } }, .int .i64 0, .string { data := { toList := [] } }, .int .i64 0, .int .i64 0, .int .i64 0, .int .i64 0, .int .i64 0, .int .i64 0] }) [(0, 1, .tmp 5), (16, 1, .tmp 7), (17, 1, .tmp 9)]),
  zo 3 (.alloc 53 (.agg { toList := [.int .i64 0, .int .i64 0, .int .i64 0, .int .i64 0, .int .i64 0, .int .i64 0, .int .i64 0, .string { data := { toList := [] } }, .int .i64 0, .string { data := { toList := [] } }, .int .i64 0, .string { data := { toList := [] } }, .int .i64 0, .string { data := { toList := [] } }, .int .i64 0, .string { data := { toList := [] } }, .int .i64 0, .int .i64 0, .int .i64 0, .int .i64 0, .int .i64 0, .int .i64 0] }) []),
  zs (.store 22 3 10)]
def p61o3 := [zo 11 (.faddr 0 1),
  zo 12 (.load false 1 11)]
def p61o4 := [zo 14 (.prim (.bin .eql 3 false true) [12, kk 1]),
  zo 13 (.mv 14)]
def p61o5 := [za 15 1 1 0 (.faddr 4 1),
  za 16 15 1 4 (.load true 2 15),
  za 17 1 1 0 (.faddr 6 1),
  za 18 17 1 6 (.load true 8 17),
  za 19 3 3 0 (.faddr 4 3),
  zn (.store 2 19 16) [(19, .at_ 3 4), (16, .imm)],
  za 20 3 3 0 (.faddr 6 3),
  zn (.store 8 20 18) [(20, .at_ 3 6), (18, .imm)]]
def p61o6 := [zo 22 (.prim (.bin .eql 3 false true) [12, kk 2]),
  zo 21 (.mv 22)]
def p61o7 := [za 23 1 1 0 (.faddr 1 1),
  za 24 23 1 1 (.load false 1 23),
  za 25 1 1 0 (.faddr 4 1),
  za 26 25 1 4 (.load true 2 25),
  za 27 3 3 0 (.faddr 1 3),
  zn (.store 1 27 24) [(27, .at_ 3 1), (24, .imm)],
  za 28 3 3 0 (.faddr 4 3),
  zn (.store 2 28 26) [(28, .at_ 3 4), (26, .imm)]]
def p61o8 := [zo 30 (.prim (.bin .eql 3 false true) [12, kk 3]),
  zo 29 (.mv 30)]
def p61o9 := [za 31 1 1 0 (.faddr 1 1),
  za 32 31 1 1 (.load false 1 31),
  za 33 1 1 0 (.faddr 2 1),
  za 34 33 1 2 (.load false 1 33),
  za 35 1 1 0 (.faddr 14 1),
  za 36 35 1 14 (.load true 2 35),
  za 37 3 3 0 (.faddr 1 3),
  zn (.store 1 37 32) [(37, .at_ 3 1), (32, .imm)],
  za 38 3 3 0 (.faddr 2 3),
  zn (.store 1 38 34) [(38, .at_ 3 2), (34, .imm)],
  za 39 3 3 0 (.faddr 14 3),
  zn (.store 2 39 36) [(39, .at_ 3 14), (36, .imm)]]
def p61o10 := [zo 41 (.prim (.bin .eql 3 false true) [12, kk 4]),
  zo 40 (.mv 41)]
def p61o11 := [zo 42 (.faddr 1 1),
  zo 43 (.load false 1 42),
  zo 44 (.faddr 1 3),
  zs (.store 1 44 43)]
def p61o12 := [zo 46 (.prim (.bin .eql 3 false true) [12, kk 5]),
  zo 45 (.mv 46)]
def p61o13 := [za 47 1 1 0 (.faddr 2 1),
  za 48 47 1 2 (.load false 1 47),
  za 49 1 1 0 (.faddr 3 1),
  za 50 49 1 3 (.load false 1 49),
  za 51 3 3 0 (.faddr 2 3),
  zn (.store 1 51 48) [(51, .at_ 3 2), (48, .imm)],
  za 52 3 3 0 (.faddr 3 3),
  zn (.store 1 52 50) [(52, .at_ 3 3), (50, .imm)]]
def p61o14 := [zo 54 (.prim (.bin .eql 3 false true) [12, kk 6]),
  zo 53 (.mv 54)]
def p61o16 := [zo 55 (.prim (.bin .eql 3 false true) [12, kk 7]),
  zo 53 (.mv 55)]
def p61o19 := [zo 56 (.faddr 18 1),
  zo 57 (.load true 4 56),
  zo 58 (.faddr 18 3),
  zs (.store 4 58 57)]
def p61o35 := [zo 59 (.load true 22 3),
  zs (.store 22 2 59)]
def p61c40 := sq (rg p61o1) (sq (rg p61o2) (sq (sq (rg p61o3) (.block 0 (sq (rg p61o4) (.cond 13 (rh p61o5) (sq (rg p61o6) (.cond 21 (rh p61o7) (sq (rg p61o8) (.cond 29 (rh p61o9) (sq (rg p61o10) (.cond 40 (rg p61o11) (sq (rg p61o12) (.cond 45 (rh p61o13) (sq (sq (rg p61o14) (.cond 53 (.skip) (rg p61o16))) (.cond 53 (rg p61o19) (.skip))))))))))))))) (sq (rg p61o35) (rt))))
def pc61_r : List PRes := [PRes.cell 2 true 22 []]
def pc61 : PFunc := ⟨60, pc61_r, p61c40, false⟩
def pc61_a : Ann := {
  kr := fun
    | _ => none
  ka := fun
    | _ => 0
  kh := fun x => [(1, Hint.at_ 1 0), (3, .at_ 3 0), (15, .at_ 1 4), (16, .imm), (17, .at_ 1 6), (18, .imm), (19, .at_ 3 4), (20, .at_ 3 6), (23, .at_ 1 1), (24, .imm), (25, .at_ 1 4), (26, .imm), (27, .at_ 3 1), (28, .at_ 3 4), (31, .at_ 1 1), (32, .imm), (33, .at_ 1 2), (34, .imm), (35, .at_ 1 14), (36, .imm), (37, .at_ 3 1), (38, .at_ 3 2), (39, .at_ 3 14), (47, .at_ 1 2), (48, .imm), (49, .at_ 1 3), (50, .imm), (51, .at_ 3 2), (52, .at_ 3 3)].lookup x
  ow := fun t => match t with
    | 64 => [(1, 5, 1)]
    | _ => []
  tc := fun t => match t with
    | 64 => true
    | _ => false }
theorem pc61_ok : compFn Try.prog pc61_a Try.f61 = some pc61 := by kernel_rfl


-- 62: vedette/cmd.near
def p62o1 := [zo 2 (.mv kf)]
def p62o3 := [zo 5 (.mv 0),
  zo 6 (.lenS 5),
  zo 7 (.mv (kk 0))]
def p62o4 := [zo 8 (.prim (.bin .lss 3 false false) [7, 6])]
def p62o8 := [zo 9 (.iaddrS 1 5 7),
  zo 10 (.load false 1 9),
  zo 4 (.mv 10)]
def p62o9 := [zo 11 (.mv 4),
  zo 12 (.prim (.bin .geq 3 false true) [11, .const (.int .i64 (-1000))]),
  zo 13 (.mv 12),
  zt 14 13 (.mv 4),
  zt 15 13 (.prim (.bin .leq 3 false true) [14, kk 1000]),
  zo 16 (.pick 13 15 kf)]
def p62o14 := [zo 2 (.mv kf)]
def p62o20 := [zo 17 (.prim (.bin .add 3 false true) [7, kk 1]),
  zo 7 (.mv 17)]
def p62c23 := sq (.region (some ([5, 6, 7], [], [])) false p62o4) (sq (.cond 8 (.skip) (.exit 0)) (sq (.block 1 (sq (rg p62o8) (sq (sq (rg p62o9) (.cond 16 (.exit 1) (.skip))) (sq (rg p62o14) (rt))))) (rg p62o20)))
def p62o27 := [zo 2 (.mv kt)]
def p62c29 := sq (rg p62o27) (rt)
def p62c33 := sq (rg p62o1) (.scope (sq (.label) (sq (sq (rg p62o3) (.block 0 (.loop p62c23))) p62c29)))
def pc62_r : List PRes := [PRes.tmp 2 []]
def pc62 : PFunc := ⟨18, pc62_r, p62c33, false⟩
def pc62_a : Ann := {
  kr := fun
    | 2 => some ([5, 6, 7], [], [])
    | _ => none
  ka := fun
    | _ => 0
  kh := fun
    | _ => none
  ow := fun t => match t with
    | 64 => [(1, 5, 1)]
    | _ => []
  tc := fun t => match t with
    | 64 => true
    | _ => false }
theorem pc62_ok : compFn Try.prog pc62_a Try.f62 = some pc62 := by kernel_rfl


-- 32: vedette/cmd.Is
def p32o1 := [zo 1 (.box 53 0 []),
  zo 2 (.mv kf)]
def p32o2 := [zo 8 (.faddr 6 1),
  zo 9 (.load true 8 8),
  zo 10 (.mv (kk 0))]
def p32o3 := [zo 11 (.prim (.bin .lss 3 false true) [10, kk 4])]
def p32o7 := [zo 12 (.idx true 2 4 9 10),
  zo 4 (.alloc 48 (.agg { toList := [.int .i64 0, .string { data := { toList := [] } }] }) []),
  zs (.store 2 4 12)]
def p32o8 := [zo 13 (.load true 2 4),
  zo 14 (.call true [[]] 60 [13]),
  zo 15 (.prim (.un .not) [14])]
def p32o9 := [zo 2 (.mv kf)]
def p32o17 := [zo 16 (.prim (.bin .add 3 false true) [10, kk 1]),
  zo 10 (.mv 16)]
def p32o24 := [za 17 1 1 0 (.faddr 0 1),
  za 18 17 1 0 (.load false 1 17),
  ⟨some 19, .prim (.bin .geq 3 false true) [18, kk 1], none, [(18, .imm)]⟩,
  ⟨some 20, .mv 19, none, [(19, .imm)]⟩,
  ⟨some 21, .faddr 0 1, some (20, true), [(1, .at_ 1 0)]⟩,
  ⟨some 22, .load false 1 21, some (20, true), [(21, .at_ 1 0)]⟩,
  ⟨some 23, .prim (.bin .leq 3 false true) [22, kk 8], some (20, true), [(22, .imm)]⟩,
  ⟨some 24, .pick 20 23 kf, none, [(20, .imm), (23, .imm)]⟩,
  ⟨some 25, .mv 24, none, [(24, .imm)]⟩,
  ⟨some 26, .load true 22 1, some (25, true), [(1, .at_ 1 0)]⟩,
  ⟨some 27, .load true 22 1, some (25, true), [(1, .at_ 1 0)]⟩,
  ⟨some 28, .call false [[]] 61 [27], some (25, true), [(27, .imm)]⟩,
  ⟨some 29, .prim (.bin .eql 53 false false) [26, 28], some (25, true), [(26, .imm), (28, .imm)]⟩,
  ⟨some 30, .pick 25 29 kf, none, [(25, .imm), (29, .imm)]⟩,
  ⟨some 5, .mv 30, none, [(30, .imm)]⟩]
def p32o25 := [zo 31 (.faddr 16 1),
  zo 32 (.load false 1 31),
  zo 33 (.prim (.bin .geq 3 false true) [32, kk 0]),
  zo 34 (.mv 33),
  zt 35 34 (.faddr 16 1),
  zt 36 34 (.load false 1 35),
  zt 37 34 (.prim (.bin .lss 3 false true) [36, kk 4]),
  zo 38 (.pick 34 37 kf),
  zo 39 (.mv 38),
  zt 40 39 (.faddr 17 1),
  zt 41 39 (.load false 1 40),
  zt 42 39 (.prim (.bin .geq 3 false true) [41, kk 0]),
  zo 43 (.pick 39 42 kf),
  zo 44 (.mv 43),
  zt 45 44 (.faddr 17 1),
  zt 46 44 (.load false 1 45),
  zt 47 44 (.prim (.bin .leq 3 false true) [46, kk 1000000]),
  zo 48 (.pick 44 47 kf),
  zo 6 (.mv 48)]
def p32o26 := [zo 49 (.faddr 1 1),
  zo 50 (.load false 1 49),
  zo 51 (.prim (.bin .geq 3 false true) [50, kk 0]),
  zo 52 (.mv 51),
  zt 53 52 (.faddr 1 1),
  zt 54 52 (.load false 1 53),
  zt 55 52 (.prim (.bin .leq 3 false true) [54, kk 1000000]),
  zo 56 (.pick 52 55 kf),
  zo 57 (.mv 56),
  zt 58 57 (.faddr 2 1),
  zt 59 57 (.load false 1 58),
  zt 60 57 (.prim (.bin .geq 3 false true) [59, .const (.int .i64 (-1))]),
  zo 61 (.pick 57 60 kf),
  zo 62 (.mv 61),
  zt 63 62 (.faddr 2 1),
  zt 64 62 (.load false 1 63),
  zt 65 62 (.prim (.bin .leq 3 false true) [64, kk 100]),
  zo 66 (.pick 62 65 kf),
  zo 67 (.mv 66),
  zt 68 67 (.faddr 3 1),
  zt 69 67 (.load false 1 68),
  zt 70 67 (.prim (.bin .geq 3 false true) [69, .const (.int .i64 (-1))]),
  zo 71 (.pick 67 70 kf),
  zo 72 (.mv 71),
  zt 73 72 (.faddr 3 1),
  zt 74 72 (.load false 1 73),
  zt 75 72 (.prim (.bin .leq 3 false true) [74, kk 100]),
  zo 76 (.pick 72 75 kf),
  zo 77 (.mv 76),
  zt 78 77 (.faddr 14 1),
  zt 79 77 (.load true 2 78),
  zt 80 77 (.call true [[]] 60 [79]),
  zo 81 (.pick 77 80 kf),
  zo 7 (.mv 81)]
def p32o27 := [zo 82 (.mv 5),
  zo 83 (.mv 82),
  zt 84 83 (.mv 6),
  zo 85 (.pick 83 84 kf),
  zo 86 (.mv 85),
  zt 87 86 (.mv 7),
  zo 88 (.pick 86 87 kf),
  zo 89 (.mv 88),
  zt 90 89 (.faddr 4 1),
  zt 91 89 (.faddr 0 90),
  zt 92 89 (.load false 1 91),
  zt 93 89 (.faddr 4 1),
  zt 94 89 (.faddr 1 93),
  zt 95 89 (.load false 1 94),
  zt 96 89 (.faddr 18 1),
  zt 97 89 (.faddr 0 96),
  zt 98 89 (.load false 1 97),
  zt 99 89 (.faddr 18 1),
  zt 100 89 (.faddr 1 99),
  zt 101 89 (.load false 1 100),
  zt 102 89 (.faddr 18 1),
  zt 103 89 (.faddr 2 102),
  zt 104 89 (.load false 1 103),
  zt 105 89 (.faddr 18 1),
  zt 106 89 (.faddr 3 105),
  zt 107 89 (.load false 1 106),
  zt 108 89 (.bslice 3 1 [92, 95, 98, 101, 104, 107]),
  zt 109 89 (.call true [[(0, 1)]] 62 [108]),
  zo 110 (.pick 89 109 kf),
  zo 2 (.mv 110)]
def p32c29 := sq (.region (some ([1, 5, 6, 7], [1], [])) false p32o27) (rt)
def p32c30 := sq (.region (some ([1, 5, 6], [1], [])) false p32o26) p32c29
def p32c31 := sq (.region (some ([1, 5], [1], [])) false p32o25) p32c30
def p32c34 := sq (rg p32o1) (sq (sq (rg p32o2) (.block 0 (.loop (sq (.region (some ([1, 9, 10], [1, 4], [])) false p32o3) (sq (.cond 11 (.skip) (.exit 0)) (sq (.block 1 (sq (rg p32o7) (sq (rg p32o8) (.cond 15 (sq (rg p32o9) (rt)) (.skip))))) (rg p32o17))))))) (sq (rh p32o24) p32c31))
def pc32_r : List PRes := [PRes.tmp 2 []]
def pc32 : PFunc := ⟨111, pc32_r, p32c34, false⟩
def pc32_a : Ann := {
  kr := fun
    | 2 => some ([1, 9, 10], [1, 4], [])
    | 8 => some ([1, 5], [1], [])
    | 9 => some ([1, 5, 6], [1], [])
    | 10 => some ([1, 5, 6, 7], [1], [])
    | _ => none
  ka := fun
    | _ => 0
  kh := fun x => [(1, Hint.at_ 1 0), (17, .at_ 1 0), (18, .imm), (19, .imm), (20, .imm), (21, .at_ 1 0), (22, .imm), (23, .imm), (24, .imm), (25, .imm), (26, .imm), (27, .imm), (28, .imm), (29, .imm), (30, .imm)].lookup x
  ow := fun t => match t with
    | 64 => [(1, 5, 1)]
    | _ => []
  tc := fun t => match t with
    | 64 => true
    | _ => false }
theorem pc32_ok : compFn Try.prog pc32_a Try.f32 = some pc32 := by kernel_rfl


-- 33: vedette/cmd.Watches
def p33o1 := [zo 1 (.box 53 0 []),
  zo 2 (.mv kf)]
def p33o2 := [zo 3 (.faddr 0 1),
  zo 4 (.load false 1 3),
  zo 5 (.prim (.bin .geq 3 false true) [4, kk 6]),
  zo 6 (.mv 5),
  zt 7 6 (.faddr 0 1),
  zt 8 6 (.load false 1 7),
  zt 9 6 (.prim (.bin .leq 3 false true) [8, kk 8]),
  zo 10 (.pick 6 9 kf),
  zo 2 (.mv 10)]
def p33c5 := sq (rg p33o1) (sq (rg p33o2) (rt))
def pc33_r : List PRes := [PRes.tmp 2 []]
def pc33 : PFunc := ⟨11, pc33_r, p33c5, false⟩
def pc33_a : Ann := {
  kr := fun
    | _ => none
  ka := fun
    | _ => 0
  kh := fun
    | _ => none
  ow := fun t => match t with
    | 64 => [(1, 5, 1)]
    | _ => []
  tc := fun t => match t with
    | 64 => true
    | _ => false }
theorem pc33_ok : compFn Try.prog pc33_a Try.f33 = some pc33 := by kernel_rfl


-- 31: vedette/note.Is$1
def p31o1 := [zo 1 (.box 53 0 []),
  zo 2 (.mv kf)]
def p31o2 := [zo 3 (.load true 22 1),
  zo 4 (.call true [[]] 32 [3]),
  zo 5 (.prim (.un .not) [4]),
  zo 6 (.mv 5),
  zf 7 6 (.load true 22 1),
  zf 8 6 (.call true [[]] 33 [7]),
  zf 9 6 (.prim (.un .not) [8]),
  zo 10 (.pick 6 kt 9),
  zo 2 (.mv 10)]
def p31c5 := sq (rg p31o1) (sq (rg p31o2) (rt))
def pc31_r : List PRes := [PRes.tmp 2 []]
def pc31 : PFunc := ⟨11, pc31_r, p31c5, false⟩
def pc31_a : Ann := {
  kr := fun
    | _ => none
  ka := fun
    | _ => 0
  kh := fun
    | _ => none
  ow := fun t => match t with
    | 64 => [(1, 5, 1)]
    | _ => []
  tc := fun t => match t with
    | 64 => true
    | _ => false }
theorem pc31_ok : compFn Try.prog pc31_a Try.f31 = some pc31 := by kernel_rfl


-- 63: vedette/cells.Is
def p63o1 := [zo 2 (.mv kf)]
def p63o2 := [zo 3 (.mv 0),
  zo 4 (.prim (.bin .geq 3 false true) [3, kk 0]),
  zo 5 (.mv 4),
  zt 6 5 (.mv 0),
  zt 7 5 (.prim (.bin .lss 3 false true) [6, kk 16]),
  zo 8 (.pick 5 7 kf),
  zo 2 (.mv 8)]
def p63c5 := sq (rg p63o1) (sq (rg p63o2) (rt))
def pc63_r : List PRes := [PRes.tmp 2 []]
def pc63 : PFunc := ⟨9, pc63_r, p63c5, false⟩
def pc63_a : Ann := {
  kr := fun
    | _ => none
  ka := fun
    | _ => 0
  kh := fun
    | _ => none
  ow := fun t => match t with
    | 64 => [(1, 5, 1)]
    | _ => []
  tc := fun t => match t with
    | 64 => true
    | _ => false }
theorem pc63_ok : compFn Try.prog pc63_a Try.f63 = some pc63 := by kernel_rfl


-- 34: vedette/note.isHands
def p34o1 := [zo 6 (.mv kf)]
def p34o2 := [zo 9 (.mv 0),
  zo 10 (.lenS 9),
  zo 11 (.mv (kk 0))]
def p34o3 := [zo 12 (.prim (.bin .lss 3 false false) [11, 10])]
def p34o7 := [zo 13 (.mv 11),
  zo 14 (.iaddrS 2 9 11),
  zo 15 (.load true 2 14),
  zo 8 (.alloc 44 (.agg { toList := [.int .i64 0, .int .i64 0] }) []),
  zo 7 (.mv 13),
  zs (.store 2 8 15)]
def p34o8 := [za 16 8 8 0 (.faddr 0 8),
  za 17 16 8 0 (.load false 1 16),
  ⟨some 18, .call false [[]] 63 [17], none, [(17, .imm)]⟩,
  ⟨some 19, .prim (.un .not) [18], none, [(18, .imm)]⟩,
  ⟨some 20, .mv 19, none, [(19, .imm)]⟩,
  ⟨some 21, .mv 7, some (20, false), [(7, .imm)]⟩,
  ⟨some 22, .prim (.bin .gtr 3 false true) [21, kk 0], some (20, false), [(21, .imm)]⟩,
  ⟨some 23, .mv 22, some (20, false), [(22, .imm)]⟩,
  ⟨some 24, .faddr 0 8, some (23, true), [(8, .at_ 8 0)]⟩,
  ⟨some 25, .load false 1 24, some (23, true), [(24, .at_ 8 0)]⟩,
  ⟨some 26, .mv 0, some (23, true), [(0, .imm)]⟩,
  ⟨some 27, .mv 7, some (23, true), [(7, .imm)]⟩,
  ⟨some 28, .prim (.bin .sub 3 false true) [27, kk 1], some (23, true), [(27, .imm)]⟩,
  ⟨some 29, .iaddrS 2 26 28, some (23, true), [(26, .imm), (28, .imm)]⟩,
  ⟨some 30, .faddr 0 29, some (23, true), [(29, .imm)]⟩,
  ⟨some 31, .load false 1 30, some (23, true), [(30, .imm)]⟩,
  ⟨some 32, .prim (.bin .leq 3 false false) [25, 31], some (23, true), [(25, .imm), (31, .imm)]⟩,
  ⟨some 33, .pick 23 32 kf, some (20, false), [(23, .imm), (32, .imm)]⟩,
  ⟨some 34, .pick 20 kt 33, none, [(20, .imm), (33, .imm)]⟩,
  ⟨some 35, .mv 34, none, [(34, .imm)]⟩,
  ⟨some 36, .faddr 1 8, some (35, false), [(8, .at_ 8 0)]⟩,
  ⟨some 37, .load false 1 36, some (35, false), [(36, .at_ 8 1)]⟩,
  ⟨some 38, .prim (.bin .lss 3 false true) [37, kk 0], some (35, false), [(37, .imm)]⟩,
  ⟨some 39, .pick 35 kt 38, none, [(35, .imm), (38, .imm)]⟩,
  ⟨some 40, .mv 39, none, [(39, .imm)]⟩,
  ⟨some 41, .faddr 1 8, some (40, false), [(8, .at_ 8 0)]⟩,
  ⟨some 42, .load false 1 41, some (40, false), [(41, .at_ 8 1)]⟩,
  ⟨some 43, .mv 2, some (40, false), [(2, .imm)]⟩,
  ⟨some 44, .prim (.bin .geq 3 false false) [42, 43], some (40, false), [(42, .imm), (43, .imm)]⟩,
  ⟨some 45, .pick 40 kt 44, none, [(40, .imm), (44, .imm)]⟩,
  ⟨some 46, .mv 45, none, [(45, .imm)]⟩,
  ⟨some 47, .faddr 1 8, some (46, false), [(8, .at_ 8 0)]⟩,
  ⟨some 48, .load false 1 47, some (46, false), [(47, .at_ 8 1)]⟩,
  ⟨some 49, .mv 1, some (46, false), [(1, .imm)]⟩,
  ⟨some 50, .prim (.bin .eql 3 false false) [48, 49], some (46, false), [(48, .imm), (49, .imm)]⟩,
  ⟨some 51, .pick 46 kt 50, none, [(46, .imm), (50, .imm)]⟩]
def p34o9 := [zo 6 (.mv kf)]
def p34o17 := [zo 52 (.prim (.bin .add 3 false true) [11, kk 1]),
  zo 11 (.mv 52)]
def p34c20 := sq (.region (some ([0, 1, 2, 9, 10, 11], [8], [])) false p34o3) (sq (.cond 12 (.skip) (.exit 0)) (sq (.block 1 (sq (rg p34o7) (sq (rh p34o8) (.cond 51 (sq (rg p34o9) (rt)) (.skip))))) (rg p34o17)))
def p34o24 := [zo 6 (.mv kt)]
def p34c26 := sq (rg p34o24) (rt)
def p34c28 := sq (rg p34o1) (sq (sq (rg p34o2) (.block 0 (.loop p34c20))) p34c26)
def pc34_r : List PRes := [PRes.tmp 6 []]
def pc34 : PFunc := ⟨53, pc34_r, p34c28, false⟩
def pc34_a : Ann := {
  kr := fun
    | 2 => some ([0, 1, 2, 9, 10, 11], [8], [])
    | _ => none
  ka := fun
    | _ => 0
  kh := fun x => [(0, Hint.imm), (1, .imm), (2, .imm), (7, .imm), (8, .at_ 8 0), (16, .at_ 8 0), (17, .imm), (18, .imm), (19, .imm), (20, .imm), (21, .imm), (22, .imm), (23, .imm), (24, .at_ 8 0), (25, .imm), (26, .imm), (27, .imm), (28, .imm), (29, .imm), (30, .imm), (31, .imm), (32, .imm), (33, .imm), (34, .imm), (35, .imm), (36, .at_ 8 1), (37, .imm), (38, .imm), (39, .imm), (40, .imm), (41, .at_ 8 1), (42, .imm), (43, .imm), (44, .imm), (45, .imm), (46, .imm), (47, .at_ 8 1), (48, .imm), (49, .imm), (50, .imm)].lookup x
  ow := fun t => match t with
    | 64 => [(1, 5, 1)]
    | _ => []
  tc := fun t => match t with
    | 64 => true
    | _ => false }
theorem pc34_ok : compFn Try.prog pc34_a Try.f34 = some pc34 := by kernel_rfl


-- 78: vedette/geom.On
def p78o1 := [zo 1 (.box 46 0 []),
  zo 2 (.mv kf)]
def p78o2 := [zo 3 (.faddr 0 1),
  zo 4 (.load false 1 3),
  zo 5 (.prim (.bin .geq 3 false true) [4, kk 0]),
  zo 6 (.mv 5),
  zt 7 6 (.faddr 0 1),
  zt 8 6 (.load false 1 7),
  zt 9 6 (.prim (.bin .lss 3 false true) [8, kk 64]),
  zo 10 (.pick 6 9 kf),
  zo 11 (.mv 10),
  zt 12 11 (.faddr 1 1),
  zt 13 11 (.load false 1 12),
  zt 14 11 (.prim (.bin .geq 3 false true) [13, kk 0]),
  zo 15 (.pick 11 14 kf),
  zo 16 (.mv 15),
  zt 17 16 (.faddr 1 1),
  zt 18 16 (.load false 1 17),
  zt 19 16 (.prim (.bin .lss 3 false true) [18, kk 64]),
  zo 20 (.pick 16 19 kf),
  zo 2 (.mv 20)]
def p78c5 := sq (rg p78o1) (sq (rg p78o2) (rt))
def pc78_r : List PRes := [PRes.tmp 2 []]
def pc78 : PFunc := ⟨21, pc78_r, p78c5, false⟩
def pc78_a : Ann := {
  kr := fun
    | _ => none
  ka := fun
    | _ => 0
  kh := fun
    | _ => none
  ow := fun t => match t with
    | 64 => [(1, 5, 1)]
    | _ => []
  tc := fun t => match t with
    | 64 => true
    | _ => false }
theorem pc78_ok : compFn Try.prog pc78_a Try.f78 = some pc78 := by kernel_rfl


-- 94: vedette/morton.spread
def p94o1 := [zo 2 (.mv (.const (.int .u32 0)))]
def p94o2 := [zo 5 (.build (.agg { toList := [.int .u64 0, .int .u32 0] }) [(0, 1, .const (.int .u64 8)), (1, 1, .const (.int .u32 16711935))]),
  zo 6 (.build (.agg { toList := [.int .u64 0, .int .u32 0] }) [(0, 1, .const (.int .u64 4)), (1, 1, .const (.int .u32 252645135))]),
  zo 7 (.build (.agg { toList := [.int .u64 0, .int .u32 0] }) [(0, 1, .const (.int .u64 2)), (1, 1, .const (.int .u32 858993459))]),
  zo 8 (.build (.agg { toList := [.int .u64 0, .int .u32 0] }) [(0, 1, .const (.int .u64 1)), (1, 1, .const (.int .u32 1431655765))]),
  zo 9 (.build (.agg { toList := [.int .u64 0, .int .u32 0, .int .u64 0, .int .u32 0, .int .u64 0, .int .u32 0, .int .u64 0, .int .u32 0] }) [(0, 2, .tmp 5), (2, 2, .tmp 6), (4, 2, .tmp 7), (6, 2, .tmp 8)]),
  zo 10 (.mv (kk 0))]
def p94o3 := [zo 11 (.prim (.bin .lss 3 false true) [10, kk 4])]
def p94o7 := [zo 12 (.idx true 2 4 9 10),
  zo 4 (.alloc 152 (.agg { toList := [.int .u64 0, .int .u32 0] }) []),
  zs (.store 2 4 12)]
def p94o8 := [zo 13 (.mv 0),
  zo 14 (.mv 0),
  zo 15 (.faddr 0 4),
  zo 16 (.load false 1 15),
  zo 17 (.prim (.bin .shl 101 false false) [14, 16]),
  zo 18 (.prim (.bin .or 101 false false) [13, 17]),
  zo 19 (.faddr 1 4),
  zo 20 (.load false 1 19),
  zo 21 (.prim (.bin .and 101 false false) [18, 20]),
  zo 0 (.mv 21)]
def p94o11 := [zo 22 (.prim (.bin .add 3 false true) [10, kk 1]),
  zo 10 (.mv 22)]
def p94o18 := [zo 23 (.mv 0),
  zo 2 (.mv 23)]
def p94c22 := sq (rg p94o1) (sq (sq (rg p94o2) (.block 0 (.loop (sq (.region (some ([0, 9, 10], [4], [])) false p94o3) (sq (.cond 11 (.skip) (.exit 0)) (sq (.block 1 (sq (rg p94o7) (rg p94o8))) (rg p94o11))))))) (sq (rg p94o18) (rt)))
def pc94_r : List PRes := [PRes.tmp 2 []]
def pc94 : PFunc := ⟨24, pc94_r, p94c22, false⟩
def pc94_a : Ann := {
  kr := fun
    | 2 => some ([0, 9, 10], [4], [])
    | _ => none
  ka := fun
    | _ => 0
  kh := fun
    | _ => none
  ow := fun t => match t with
    | 64 => [(1, 5, 1)]
    | _ => []
  tc := fun t => match t with
    | 64 => true
    | _ => false }
theorem pc94_ok : compFn Try.prog pc94_a Try.f94 = some pc94 := by kernel_rfl


-- 90: vedette/morton.Weave
def p90o1 := [zo 4 (.mv (.const (.int .u32 0)))]
def p90o2 := [zo 5 (.mv 0),
  zo 6 (.prim (.conv 35 101) [5]),
  zo 7 (.call true [[]] 94 [6]),
  zo 8 (.mv 1),
  zo 9 (.prim (.conv 35 101) [8]),
  zo 10 (.call true [[]] 94 [9]),
  zo 11 (.prim (.bin .shl 101 false true) [10, .const (.int .u64 1)]),
  zo 12 (.prim (.bin .or 101 false false) [7, 11]),
  zo 4 (.mv 12)]
def p90c5 := sq (rg p90o1) (sq (rg p90o2) (rt))
def pc90_r : List PRes := [PRes.tmp 4 []]
def pc90 : PFunc := ⟨13, pc90_r, p90c5, false⟩
def pc90_a : Ann := {
  kr := fun
    | _ => none
  ka := fun
    | _ => 0
  kh := fun
    | _ => none
  ow := fun t => match t with
    | 64 => [(1, 5, 1)]
    | _ => []
  tc := fun t => match t with
    | 64 => true
    | _ => false }
theorem pc90_ok : compFn Try.prog pc90_a Try.f90 = some pc90 := by kernel_rfl


-- 79: vedette/cells.at
def p79o1 := [zo 4 (.mv (kk 0))]
def p79o2 := [zo 5 (.mv 0),
  zo 6 (.prim (.conv 3 35) [5]),
  zo 7 (.mv 1),
  zo 8 (.prim (.conv 3 35) [7]),
  zo 9 (.call true [[], []] 90 [6, 8]),
  zo 10 (.prim (.conv 101 3) [9]),
  zo 4 (.mv 10)]
def p79c5 := sq (rg p79o1) (sq (rg p79o2) (rt))
def pc79_r : List PRes := [PRes.tmp 4 []]
def pc79 : PFunc := ⟨11, pc79_r, p79c5, false⟩
def pc79_a : Ann := {
  kr := fun
    | _ => none
  ka := fun
    | _ => 0
  kh := fun
    | _ => none
  ow := fun t => match t with
    | 64 => [(1, 5, 1)]
    | _ => []
  tc := fun t => match t with
    | 64 => true
    | _ => false }
theorem pc79_ok : compFn Try.prog pc79_a Try.f79 = some pc79 := by kernel_rfl


-- 64: vedette/cells.Of
def p64o1 := [zo 1 (.box 46 0 []),
  zo 2 (.mv (kk 0)),
  zo 3 (.mv (kk 0))]
def p64o2 := [zo 4 (.load true 2 1),
  zo 5 (.call true [[]] 78 [4]),
  zo 6 (.prim (.un .not) [5])]
def p64o3 := [zo 2 (.mv (kk 0)),
  zo 3 (.mv (kk 14))]
def p64o9 := [zo 7 (.faddr 0 1),
  zo 8 (.load false 1 7),
  zo 9 (.prim (.bin .quo 3 false true) [8, kk 16]),
  zo 10 (.faddr 1 1),
  zo 11 (.load false 1 10),
  zo 12 (.prim (.bin .quo 3 false true) [11, kk 16]),
  zo 13 (.call true [[], []] 79 [9, 12]),
  zo 2 (.mv 13),
  zo 3 (.mv (kk 0))]
def p64c13 := sq (rg p64o1) (sq (sq (rg p64o2) (.cond 6 (sq (rg p64o3) (rt)) (.skip))) (sq (rg p64o9) (rt)))
def pc64_r : List PRes := [PRes.tmp 2 [], PRes.tmp 3 []]
def pc64 : PFunc := ⟨14, pc64_r, p64c13, false⟩
def pc64_a : Ann := {
  kr := fun
    | _ => none
  ka := fun
    | _ => 0
  kh := fun
    | _ => none
  ow := fun t => match t with
    | 64 => [(1, 5, 1)]
    | _ => []
  tc := fun t => match t with
    | 64 => true
    | _ => false }
theorem pc64_ok : compFn Try.prog pc64_a Try.f64 = some pc64 := by kernel_rfl


-- 66: vedette/note.isThings$1
def p66o1 := [zo 2 (.box 44 0 []),
  zo 3 (.mv kf)]
def p66o2 := [zo 4 (.faddr 0 2),
  zo 5 (.load false 1 4),
  zo 6 (.load false 1 1),
  zo 7 (.prim (.bin .eql 3 false false) [5, 6]),
  zo 3 (.mv 7)]
def p66c5 := sq (rg p66o1) (sq (rg p66o2) (rt))
def pc66_r : List PRes := [PRes.tmp 3 []]
def pc66 : PFunc := ⟨8, pc66_r, p66c5, false⟩
def pc66_a : Ann := {
  kr := fun
    | _ => none
  ka := fun
    | _ => 0
  kh := fun
    | _ => none
  ow := fun t => match t with
    | 64 => [(1, 5, 1)]
    | _ => []
  tc := fun t => match t with
    | 64 => true
    | _ => false }
theorem pc66_ok : compFn Try.prog pc66_a Try.f66 = some pc66 := by kernel_rfl


-- 80: slices.IndexFunc[[]vedette/api.Hand,vedette/api.Hand]
def p80o1 := [zo 4 (.mv (kk 0))]
def p80o2 := [zo 6 (.mv 0),
  zo 7 (.lenS 6),
  zo 8 (.mv (kk 0))]
def p80o3 := [zo 9 (.prim (.bin .lss 3 false false) [8, 7])]
def p80o7 := [zo 10 (.mv 8),
  zo 5 (.mv 10)]
def p80o8 := [zo 11 (.mv 1),
  zo 12 (.mv 0),
  zo 13 (.mv 5),
  zo 14 (.iaddrS 2 12 13),
  zo 15 (.load true 2 14),
  zo 16 (.gcallv false false [300000, 300001, 300002, 300003, 300004, 300005, 300006, 300007, 1000000] [[]] 11 [15])]
def p80o9 := [zo 17 (.mv 5),
  zo 4 (.mv 17)]
def p80o17 := [zo 18 (.prim (.bin .add 3 false true) [8, kk 1]),
  zo 8 (.mv 18)]
def p80c20 := sq (.region (some ([0, 1, 7, 8], [1000000], [])) false p80o3) (sq (.cond 9 (.skip) (.exit 0)) (sq (.block 1 (sq (rg p80o7) (sq (rg p80o8) (.cond 16 (sq (rg p80o9) (rt)) (.skip))))) (rg p80o17)))
def p80o24 := [zo 4 (.mv (kk (-1)))]
def p80c26 := sq (rg p80o24) (rt)
def p80c28 := sq (rg p80o1) (sq (sq (rg p80o2) (.block 0 (.loop p80c20))) p80c26)
def pc80_r : List PRes := [PRes.tmp 4 []]
def pc80 : PFunc := ⟨19, pc80_r, p80c28, false⟩
def pc80_a : Ann := {
  kr := fun
    | 2 => some ([0, 1, 7, 8], [1000000], [])
    | _ => none
  ka := fun
    | _ => 0
  kh := fun
    | _ => none
  gv := fun d f => match d, f with
    | some 16, 11 => some (false, false, [300000, 300001, 300002, 300003, 300004, 300005, 300006, 300007, 1000000])
    | _, _ => none
  ow := fun t => match t with
    | 64 => [(1, 5, 1)]
    | _ => []
  tc := fun t => match t with
    | 64 => true
    | _ => false }
theorem pc80_ok : compFn Try.prog pc80_a Try.f80 = some pc80 := by kernel_rfl


-- 65: slices.ContainsFunc[[]vedette/api.Hand,vedette/api.Hand]
def p65o1 := [zo 4 (.mv kf)]
def p65o2 := [zo 5 (.mv 0),
  zo 6 (.mv 1),
  zo 7 (.gcall false false [300000, 300001, 300002, 300003, 300004, 300005, 300006, 300007, 1000000] [[(0, 2)], []] 80 [5, 6]),
  zo 8 (.prim (.bin .geq 3 false true) [7, kk 0]),
  zo 4 (.mv 8)]
def p65c5 := sq (rg p65o1) (sq (rg p65o2) (rt))
def pc65_r : List PRes := [PRes.tmp 4 []]
def pc65 : PFunc := ⟨9, pc65_r, p65c5, false⟩
def pc65_a : Ann := {
  kr := fun
    | _ => none
  ka := fun
    | _ => 0
  kh := fun
    | _ => none
  gf := fun d f => match d, f with
    | some 7, 80 => some (false, false, [300000, 300001, 300002, 300003, 300004, 300005, 300006, 300007, 1000000])
    | _, _ => none
  ow := fun t => match t with
    | 64 => [(1, 5, 1)]
    | _ => []
  tc := fun t => match t with
    | 64 => true
    | _ => false }
theorem pc65_ok : compFn Try.prog pc65_a Try.f65 = some pc65 := by kernel_rfl


-- 82: vedette/thing.Is$1
def p82o1 := [zo 1 (.box 48 0 []),
  zo 2 (.mv kf)]
def p82o2 := [zo 3 (.load true 2 1),
  zo 4 (.call true [[]] 60 [3]),
  zo 5 (.prim (.un .not) [4]),
  zo 2 (.mv 5)]
def p82c5 := sq (rg p82o1) (sq (rg p82o2) (rt))
def pc82_r : List PRes := [PRes.tmp 2 []]
def pc82 : PFunc := ⟨6, pc82_r, p82c5, false⟩
def pc82_a : Ann := {
  kr := fun
    | _ => none
  ka := fun
    | _ => 0
  kh := fun
    | _ => none
  ow := fun t => match t with
    | 64 => [(1, 5, 1)]
    | _ => []
  tc := fun t => match t with
    | 64 => true
    | _ => false }
theorem pc82_ok : compFn Try.prog pc82_a Try.f82 = some pc82 := by kernel_rfl


-- 91: slices.IndexFunc[[]vedette/api.Field,vedette/api.Field]
def p91o1 := [zo 4 (.mv (kk 0))]
def p91o2 := [zo 6 (.mv 0),
  zo 7 (.lenS 6),
  zo 8 (.mv (kk 0))]
def p91o3 := [zo 9 (.prim (.bin .lss 3 false false) [8, 7])]
def p91o7 := [zo 10 (.mv 8),
  zo 5 (.mv 10)]
def p91o8 := [zo 11 (.mv 1),
  zo 12 (.mv 0),
  zo 13 (.mv 5),
  zo 14 (.iaddrS 2 12 13),
  zo 15 (.load true 2 14),
  zo 16 (.callv true [[]] 11 [15])]
def p91o9 := [zo 17 (.mv 5),
  zo 4 (.mv 17)]
def p91o17 := [zo 18 (.prim (.bin .add 3 false true) [8, kk 1]),
  zo 8 (.mv 18)]
def p91c20 := sq (.region (some ([0, 1, 7, 8], [], [])) false p91o3) (sq (.cond 9 (.skip) (.exit 0)) (sq (.block 1 (sq (rg p91o7) (sq (rg p91o8) (.cond 16 (sq (rg p91o9) (rt)) (.skip))))) (rg p91o17)))
def p91o24 := [zo 4 (.mv (kk (-1)))]
def p91c26 := sq (rg p91o24) (rt)
def p91c28 := sq (rg p91o1) (sq (sq (rg p91o2) (.block 0 (.loop p91c20))) p91c26)
def pc91_r : List PRes := [PRes.tmp 4 []]
def pc91 : PFunc := ⟨19, pc91_r, p91c28, false⟩
def pc91_a : Ann := {
  kr := fun
    | 2 => some ([0, 1, 7, 8], [], [])
    | _ => none
  ka := fun
    | _ => 0
  kh := fun
    | _ => none
  ow := fun t => match t with
    | 64 => [(1, 5, 1)]
    | _ => []
  tc := fun t => match t with
    | 64 => true
    | _ => false }
theorem pc91_ok : compFn Try.prog pc91_a Try.f91 = some pc91 := by kernel_rfl


-- 81: slices.ContainsFunc[[]vedette/api.Field,vedette/api.Field]
def p81o1 := [zo 4 (.mv kf)]
def p81o2 := [zo 5 (.mv 0),
  zo 6 (.mv 1),
  zo 7 (.gcall false false [300000, 300001, 300002, 300003, 300004, 300005, 300006, 300007] [[(0, 2)], []] 91 [5, 6]),
  zo 8 (.prim (.bin .geq 3 false true) [7, kk 0]),
  zo 4 (.mv 8)]
def p81c5 := sq (rg p81o1) (sq (rg p81o2) (rt))
def pc81_r : List PRes := [PRes.tmp 4 []]
def pc81 : PFunc := ⟨9, pc81_r, p81c5, false⟩
def pc81_a : Ann := {
  kr := fun
    | _ => none
  ka := fun
    | _ => 0
  kh := fun
    | _ => none
  gf := fun d f => match d, f with
    | some 7, 91 => some (false, false, [300000, 300001, 300002, 300003, 300004, 300005, 300006, 300007])
    | _, _ => none
  ow := fun t => match t with
    | 64 => [(1, 5, 1)]
    | _ => []
  tc := fun t => match t with
    | 64 => true
    | _ => false }
theorem pc81_ok : compFn Try.prog pc81_a Try.f81 = some pc81 := by kernel_rfl


-- 67: vedette/thing.Is
def p67o1 := [zo 1 (.box 55 0 []),
  zo 2 (.mv kf)]
def p67o2 := [zo 3 (.faddr 0 1),
  zo 4 (.load false 1 3),
  zo 5 (.prim (.bin .geq 3 false true) [4, kk 0]),
  zo 6 (.mv 5),
  zt 7 6 (.faddr 0 1),
  zt 8 6 (.load false 1 7),
  zt 9 6 (.prim (.bin .leq 3 false true) [8, kk 1000000]),
  zo 10 (.pick 6 9 kf),
  zo 11 (.mv 10),
  zt 12 11 (.faddr 1 1),
  zt 13 11 (.load true 2 12),
  zt 14 11 (.call true [[]] 78 [13]),
  zo 15 (.pick 11 14 kf),
  zo 16 (.mv 15),
  zt 17 16 (.faddr 3 1),
  zt 18 16 (.slcA 4 2 17 none none),
  zt 19 16 (.gcall false false [1, 300000, 300001, 300002, 300003, 300004, 300005, 300006, 300007] [[(0, 2)], []] 81 [18, .func 82]),
  zt 20 16 (.prim (.un .not) [19]),
  zo 21 (.pick 16 20 kf),
  zo 2 (.mv 21)]
def p67c5 := sq (rg p67o1) (sq (rg p67o2) (rt))
def pc67_r : List PRes := [PRes.tmp 2 []]
def pc67 : PFunc := ⟨22, pc67_r, p67c5, false⟩
def pc67_a : Ann := {
  kr := fun
    | _ => none
  ka := fun
    | _ => 0
  kh := fun
    | _ => none
  gf := fun d f => match d, f with
    | some 19, 81 => some (false, false, [1, 300000, 300001, 300002, 300003, 300004, 300005, 300006, 300007])
    | _, _ => none
  ow := fun t => match t with
    | 64 => [(1, 5, 1)]
    | _ => []
  tc := fun t => match t with
    | 64 => true
    | _ => false }
theorem pc67_ok : compFn Try.prog pc67_a Try.f67 = some pc67 := by kernel_rfl


-- 35: vedette/note.isThings
def p35o1 := [zo 6 (.mv kf)]
def p35o2 := [zo 12 (.mv 0),
  zo 13 (.lenS 12),
  zo 14 (.mv (kk 0))]
def p35o3 := [zo 15 (.prim (.bin .lss 3 false false) [14, 13])]
def p35o7 := [zo 16 (.mv 14),
  zo 17 (.iaddrS 11 12 14),
  zo 18 (.load true 11 17),
  zo 8 (.alloc 55 (.agg { toList := [.int .i64 0, .int .i64 0, .int .i64 0, .int .i64 0, .string { data := { toList := [] } }, .int .i64 0, .string { data := { toList := [] } }, .int .i64 0, .string { data := { toList := [] } }, .int .i64 0, .string { data := { toList := [] } }] }) []),
  zo 7 (.mv 16),
  zs (.store 11 8 18)]
def p35o8 := [zo 20 (.faddr 1 8),
  zo 21 (.load true 2 20),
  zo 22 (.call true [[]] 64 [21]),
  zo 19 (.mv 22),
  zo 23 (.ext 19 0),
  zo 24 (.ext 19 1),
  zo 9 (.alloc 3 (.int .i64 0) []),
  zs (.store 1 9 23),
  zo 10 (.mv 24)]
def p35o9 := [zo 25 (.mv 1),
  zo 26 (.mkfn 66 [9]),
  zo 27 (.gcall false false [9, 300000, 300001, 300002, 300003, 300004, 300005, 300006, 300007] [[(0, 2)], []] 65 [25, 26]),
  zo 11 (.mv 27)]
def p35o10 := [za 28 8 8 0 (.load true 11 8),
  ⟨some 29, .call false [[]] 67 [28], none, [(28, .imm)]⟩,
  ⟨some 30, .prim (.un .not) [29], none, [(29, .imm)]⟩,
  ⟨some 31, .mv 30, none, [(30, .imm)]⟩,
  ⟨some 32, .mv 7, some (31, false), [(7, .imm)]⟩,
  ⟨some 33, .prim (.bin .gtr 3 false true) [32, kk 0], some (31, false), [(32, .imm)]⟩,
  ⟨some 34, .mv 33, some (31, false), [(33, .imm)]⟩,
  ⟨some 35, .faddr 0 8, some (34, true), [(8, .at_ 8 0)]⟩,
  ⟨some 36, .load false 1 35, some (34, true), [(35, .at_ 8 0)]⟩,
  ⟨some 37, .mv 0, some (34, true), [(0, .imm)]⟩,
  ⟨some 38, .mv 7, some (34, true), [(7, .imm)]⟩,
  ⟨some 39, .prim (.bin .sub 3 false true) [38, kk 1], some (34, true), [(38, .imm)]⟩,
  ⟨some 40, .iaddrS 11 37 39, some (34, true), [(37, .imm), (39, .imm)]⟩,
  ⟨some 41, .faddr 0 40, some (34, true), [(40, .imm)]⟩,
  ⟨some 42, .load false 1 41, some (34, true), [(41, .imm)]⟩,
  ⟨some 43, .prim (.bin .leq 3 false false) [36, 42], some (34, true), [(36, .imm), (42, .imm)]⟩,
  ⟨some 44, .pick 34 43 kf, some (31, false), [(34, .imm), (43, .imm)]⟩,
  ⟨some 45, .pick 31 kt 44, none, [(31, .imm), (44, .imm)]⟩,
  ⟨some 46, .mv 45, none, [(45, .imm)]⟩,
  ⟨some 47, .mv 11, some (46, false), [(11, .imm)]⟩,
  ⟨some 48, .mv 2, some (46, false), [(2, .imm)]⟩,
  ⟨some 49, .prim (.bin .neq 4 false false) [47, 48], some (46, false), [(47, .imm), (48, .imm)]⟩,
  ⟨some 50, .pick 46 kt 49, none, [(46, .imm), (49, .imm)]⟩]
def p35o11 := [zo 6 (.mv kf)]
def p35o21 := [zo 51 (.prim (.bin .add 3 false true) [14, kk 1]),
  zo 14 (.mv 51)]
def p35c24 := sq (.region (some ([0, 1, 2, 12, 13, 14], [8, 9], [])) false p35o3) (sq (.cond 15 (.skip) (.exit 0)) (sq (.block 1 (sq (rg p35o7) (sq (rg p35o8) (sq (rg p35o9) (sq (rh p35o10) (.cond 50 (sq (rg p35o11) (rt)) (.skip))))))) (rg p35o21)))
def p35o28 := [zo 52 (.mv 0),
  zo 53 (.lenS 52),
  zo 54 (.prim (.bin .leq 3 false true) [53, kk 200]),
  zo 6 (.mv 54)]
def p35c30 := sq (rg p35o28) (rt)
def p35c32 := sq (rg p35o1) (sq (sq (rg p35o2) (.block 0 (.loop p35c24))) p35c30)
def pc35_r : List PRes := [PRes.tmp 6 []]
def pc35 : PFunc := ⟨55, pc35_r, p35c32, false⟩
def pc35_a : Ann := {
  kr := fun
    | 2 => some ([0, 1, 2, 12, 13, 14], [8, 9], [])
    | _ => none
  ka := fun
    | _ => 0
  kh := fun x => [(0, Hint.imm), (2, .imm), (7, .imm), (8, .at_ 8 0), (11, .imm), (28, .imm), (29, .imm), (30, .imm), (31, .imm), (32, .imm), (33, .imm), (34, .imm), (35, .at_ 8 0), (36, .imm), (37, .imm), (38, .imm), (39, .imm), (40, .imm), (41, .imm), (42, .imm), (43, .imm), (44, .imm), (45, .imm), (46, .imm), (47, .imm), (48, .imm), (49, .imm)].lookup x
  gf := fun d f => match d, f with
    | some 27, 65 => some (false, false, [9, 300000, 300001, 300002, 300003, 300004, 300005, 300006, 300007])
    | _, _ => none
  ow := fun t => match t with
    | 64 => [(1, 5, 1)]
    | _ => []
  tc := fun t => match t with
    | 64 => true
    | _ => false }
theorem pc35_ok : compFn Try.prog pc35_a Try.f35 = some pc35 := by kernel_rfl


-- 68: slices.IndexFunc[[]vedette/api.Command,vedette/api.Command]
def p68o1 := [zo 4 (.mv (kk 0))]
def p68o2 := [zo 6 (.mv 0),
  zo 7 (.lenS 6),
  zo 8 (.mv (kk 0))]
def p68o3 := [zo 9 (.prim (.bin .lss 3 false false) [8, 7])]
def p68o7 := [zo 10 (.mv 8),
  zo 5 (.mv 10)]
def p68o8 := [zo 11 (.mv 1),
  zo 12 (.mv 0),
  zo 13 (.mv 5),
  zo 14 (.iaddrS 22 12 13),
  zo 15 (.load true 22 14),
  zo 16 (.callv true [[]] 11 [15])]
def p68o9 := [zo 17 (.mv 5),
  zo 4 (.mv 17)]
def p68o17 := [zo 18 (.prim (.bin .add 3 false true) [8, kk 1]),
  zo 8 (.mv 18)]
def p68c20 := sq (.region (some ([0, 1, 7, 8], [], [])) false p68o3) (sq (.cond 9 (.skip) (.exit 0)) (sq (.block 1 (sq (rg p68o7) (sq (rg p68o8) (.cond 16 (sq (rg p68o9) (rt)) (.skip))))) (rg p68o17)))
def p68o24 := [zo 4 (.mv (kk (-1)))]
def p68c26 := sq (rg p68o24) (rt)
def p68c28 := sq (rg p68o1) (sq (sq (rg p68o2) (.block 0 (.loop p68c20))) p68c26)
def pc68_r : List PRes := [PRes.tmp 4 []]
def pc68 : PFunc := ⟨19, pc68_r, p68c28, false⟩
def pc68_a : Ann := {
  kr := fun
    | 2 => some ([0, 1, 7, 8], [], [])
    | _ => none
  ka := fun
    | _ => 0
  kh := fun
    | _ => none
  ow := fun t => match t with
    | 64 => [(1, 5, 1)]
    | _ => []
  tc := fun t => match t with
    | 64 => true
    | _ => false }
theorem pc68_ok : compFn Try.prog pc68_a Try.f68 = some pc68 := by kernel_rfl


-- 36: slices.ContainsFunc[[]vedette/api.Command,vedette/api.Command]
def p36o1 := [zo 4 (.mv kf)]
def p36o2 := [zo 5 (.mv 0),
  zo 6 (.mv 1),
  zo 7 (.gcall false false [300000, 300001, 300002, 300003, 300004, 300005, 300006, 300007] [[(0, 22)], []] 68 [5, 6]),
  zo 8 (.prim (.bin .geq 3 false true) [7, kk 0]),
  zo 4 (.mv 8)]
def p36c5 := sq (rg p36o1) (sq (rg p36o2) (rt))
def pc36_r : List PRes := [PRes.tmp 4 []]
def pc36 : PFunc := ⟨9, pc36_r, p36c5, false⟩
def pc36_a : Ann := {
  kr := fun
    | _ => none
  ka := fun
    | _ => 0
  kh := fun
    | _ => none
  gf := fun d f => match d, f with
    | some 7, 68 => some (false, false, [300000, 300001, 300002, 300003, 300004, 300005, 300006, 300007])
    | _, _ => none
  ow := fun t => match t with
    | 64 => [(1, 5, 1)]
    | _ => []
  tc := fun t => match t with
    | 64 => true
    | _ => false }
theorem pc36_ok : compFn Try.prog pc36_a Try.f36 = some pc36 := by kernel_rfl


-- 11: vedette/note.Is
def p11o1 := [zo 2 (.box 26 0 []),
  zo 4 (.mv kf)]
def p11o2 := [zo 6 (.mv 1),
  zo 7 (.prim .min [6, kk 4]),
  zo 1 (.mv 7)]
def p11o3 := [zo 8 (.faddr 0 2),
  zo 9 (.load false 1 8),
  zo 10 (.prim (.bin .lss 3 false true) [9, kk 0]),
  zo 11 (.mv 10),
  zf 12 11 (.faddr 0 2),
  zf 13 11 (.load false 1 12),
  zf 14 11 (.mv 1),
  zf 15 11 (.prim (.bin .geq 3 false false) [13, 14]),
  zo 16 (.pick 11 kt 15),
  zo 17 (.mv 16),
  zf 18 17 (.faddr 1 2),
  zf 19 17 (.load false 1 18),
  zf 20 17 (.prim (.bin .lss 3 false true) [19, kk 0]),
  zo 21 (.pick 17 kt 20),
  zo 22 (.mv 21),
  zf 23 22 (.faddr 1 2),
  zf 24 22 (.load false 1 23),
  zf 25 22 (.prim (.bin .gtr 3 false true) [24, kk 1073741824]),
  zo 26 (.pick 22 kt 25),
  zo 27 (.mv 26),
  zf 28 27 (.faddr 5 2),
  zf 29 27 (.load false 1 28),
  zf 30 27 (.lenS 29),
  zf 31 27 (.prim (.bin .gtr 3 false true) [30, kk 20]),
  zo 32 (.pick 27 kt 31)]
def p11o4 := [zo 4 (.mv kf)]
def p11o10 := [zo 5 (.mv (.func 31))]
def p11o11 := [zo 33 (.faddr 3 2),
  zo 34 (.load false 1 33),
  zo 35 (.faddr 0 2),
  zo 36 (.load false 1 35),
  zo 37 (.mv 1),
  zo 38 (.call true [[(0, 2)], [], []] 34 [34, 36, 37]),
  zo 39 (.mv 38),
  zt 40 39 (.faddr 2 2),
  zt 41 39 (.load false 1 40),
  zt 42 39 (.faddr 3 2),
  zt 43 39 (.load false 1 42),
  zt 44 39 (.call true [[(0, 11)], [(0, 2)], []] 35 [41, 43, kf]),
  zo 45 (.pick 39 44 kf),
  zo 46 (.mv 45),
  zt 47 46 (.faddr 4 2),
  zt 48 46 (.load false 1 47),
  zt 49 46 (.faddr 3 2),
  zt 50 46 (.load false 1 49),
  zt 51 46 (.call true [[(0, 11)], [(0, 2)], []] 35 [48, 50, kt]),
  zo 52 (.pick 46 51 kf),
  zo 53 (.mv 52),
  zt 54 53 (.faddr 5 2),
  zt 55 53 (.load false 1 54),
  zt 56 53 (.mv 5),
  zt 57 53 (.gcall false false [300000, 300001, 300002, 300003, 300004, 300005, 300006, 300007] [[(0, 22)], []] 36 [55, 56]),
  zt 58 53 (.prim (.un .not) [57]),
  zo 59 (.pick 53 58 kf),
  zo 4 (.mv 59)]
def p11c17 := sq (rg p11o1) (sq (rg p11o2) (sq (sq (rg p11o3) (.cond 32 (sq (rg p11o4) (rt)) (.skip))) (sq (rg p11o10) (sq (rg p11o11) (rt)))))
def pc11_r : List PRes := [PRes.tmp 4 []]
def pc11 : PFunc := ⟨60, pc11_r, p11c17, false⟩
def pc11_a : Ann := {
  kr := fun
    | _ => none
  ka := fun
    | _ => 0
  kh := fun
    | _ => none
  gf := fun d f => match d, f with
    | some 57, 36 => some (false, false, [300000, 300001, 300002, 300003, 300004, 300005, 300006, 300007])
    | _, _ => none
  ow := fun t => match t with
    | 64 => [(1, 5, 1)]
    | _ => []
  tc := fun t => match t with
    | 64 => true
    | _ => false }
theorem pc11_ok : compFn Try.prog pc11_a Try.f11 = some pc11 := by kernel_rfl


-- 20: vedette/num.Put
def p20o1 := [zo 2 (.mv (.const (.string { data := { toList := [] } })))]
def p20o2 := [zo 3 (.mv (.const (.slice none 0 0)))]
def p20o3 := [zo 4 (.mv 0),
  zo 5 (.prim (.bin .geq 38 false true) [4, .const (.int .u64 128)])]
def p20o8 := [zo 6 (.mv 3),
  zo 7 (.mv 0),
  zo 8 (.prim (.conv 38 5) [7]),
  zo 9 (.prim (.bin .or 5 false true) [8, .const (.int .u8 128)]),
  zo 10 (.bslice 5 1 [9]),
  zo 11 (.app 100003 5 1 1 6 10),
  zo 3 (.mv 11)]
def p20o9 := [zo 12 (.mv 0),
  zo 13 (.prim (.bin .shr 38 false true) [12, .const (.int .u64 7)]),
  zo 0 (.mv 13)]
def p20o15 := [zo 14 (.mv 3),
  zo 15 (.mv 0),
  zo 16 (.prim (.conv 38 5) [15]),
  zo 17 (.bslice 5 1 [16]),
  zo 18 (.app 100003 5 1 1 14 17),
  zo 19 (.b2s 18),
  zo 2 (.mv 19)]
def pc20_r : List PRes := [PRes.tmp 2 []]
def pc20 : PFunc := ⟨20, pc20_r, (sq (rg p20o1) (sq (rg p20o2) (sq (.block 0 (.loop (sq (sq (.region (some ([0, 3], [100003], [(false, 3, 0, 100003, 5, 1)])) false p20o3) (.cond 5 (.skip) (.exit 0))) (.block 1 (sq (rg p20o8) (rg p20o9)))))) (sq (rg p20o15) (rt))))), false⟩
def pc20_a : Ann := {
  kr := fun
    | 2 => some ([0, 3], [100003], [(false, 3, 0, 100003, 5, 1)])
    | _ => none
  ka := fun
    | 11 => 100003
    | 18 => 100003
    | _ => 0
  kh := fun
    | _ => none
  ow := fun t => match t with
    | 64 => [(1, 5, 1)]
    | _ => []
  tc := fun t => match t with
    | 64 => true
    | _ => false }
theorem pc20_ok : compFn Try.prog pc20_a Try.f20 = some pc20 := by kernel_rfl


-- 77: vedette/num.Zig
def p77o1 := [zo 2 (.mv (.const (.int .u64 0)))]
def p77o2 := [zo 3 (.mv 0),
  zo 4 (.prim (.conv 2 38) [3]),
  zo 5 (.prim (.bin .shl 38 false true) [4, .const (.int .u64 1)]),
  zo 6 (.mv 0),
  zo 7 (.prim (.bin .shr 2 false true) [6, .const (.int .u64 63)]),
  zo 8 (.prim (.conv 2 38) [7]),
  zo 9 (.prim (.bin .xor 38 false false) [5, 8]),
  zo 2 (.mv 9)]
def pc77_r : List PRes := [PRes.tmp 2 []]
def pc77 : PFunc := ⟨10, pc77_r, (sq (rg p77o1) (sq (rg p77o2) (rt))), false⟩
def pc77_a : Ann := {
  kr := fun
    | _ => none
  ka := fun
    | _ => 0
  kh := fun
    | _ => none
  ow := fun t => match t with
    | 64 => [(1, 5, 1)]
    | _ => []
  tc := fun t => match t with
    | 64 => true
    | _ => false }
theorem pc77_ok : compFn Try.prog pc77_a Try.f77 = some pc77 := by kernel_rfl


-- 46: vedette/num.Int
def p46o1 := [zo 2 (.mv (.const (.string { data := { toList := [] } })))]
def p46o2 := [zo 3 (.mv 0),
  zo 4 (.call true [[]] 77 [3]),
  zo 5 (.call true [[]] 20 [4]),
  zo 2 (.mv 5)]
def pc46_r : List PRes := [PRes.tmp 2 []]
def pc46 : PFunc := ⟨6, pc46_r, (sq (rg p46o1) (sq (rg p46o2) (rt))), false⟩
def pc46_a : Ann := {
  kr := fun
    | _ => none
  ka := fun
    | _ => 0
  kh := fun
    | _ => none
  ow := fun t => match t with
    | 64 => [(1, 5, 1)]
    | _ => []
  tc := fun t => match t with
    | 64 => true
    | _ => false }
theorem pc46_ok : compFn Try.prog pc46_a Try.f46 = some pc46 := by kernel_rfl


-- 49: vedette/num.Text
def p49o1 := [zo 2 (.mv (.const (.string { data := { toList := [] } })))]
def p49o2 := [zo 3 (.mv 0),
  zo 4 (.prim (.len 9) [3]),
  zo 5 (.prim (.conv 3 38) [4]),
  zo 6 (.call true [[]] 20 [5]),
  zo 7 (.mv 0),
  zo 8 (.prim (.bin .add 9 false false) [6, 7]),
  zo 2 (.mv 8)]
def pc49_r : List PRes := [PRes.tmp 2 []]
def pc49 : PFunc := ⟨9, pc49_r, (sq (rg p49o1) (sq (rg p49o2) (rt))), false⟩
def pc49_a : Ann := {
  kr := fun
    | _ => none
  ka := fun
    | _ => 0
  kh := fun
    | _ => none
  ow := fun t => match t with
    | 64 => [(1, 5, 1)]
    | _ => []
  tc := fun t => match t with
    | 64 => true
    | _ => false }
theorem pc49_ok : compFn Try.prog pc49_a Try.f49 = some pc49 := by kernel_rfl


-- 89: vedette/fields.has
def p89o1 := [zo 4 (.mv kf)]
def p89o2 := [zo 5 (.mv 0),
  zo 6 (.mv 1),
  zo 7 (.prim (.bin .add 3 false true) [6, kk 1]),
  zo 8 (.prim (.bin .shr 5 false false) [5, 7]),
  zo 9 (.prim (.bin .and 5 false true) [8, .const (.int .u8 1)]),
  zo 10 (.prim (.bin .eql 5 false true) [9, .const (.int .u8 1)]),
  zo 4 (.mv 10)]
def pc89_r : List PRes := [PRes.tmp 4 []]
def pc89 : PFunc := ⟨11, pc89_r, (sq (rg p89o1) (sq (rg p89o2) (rt))), false⟩
def pc89_a : Ann := {
  kr := fun
    | _ => none
  ka := fun
    | _ => 0
  kh := fun
    | _ => none
  ow := fun t => match t with
    | 64 => [(1, 5, 1)]
    | _ => []
  tc := fun t => match t with
    | 64 => true
    | _ => false }
theorem pc89_ok : compFn Try.prog pc89_a Try.f89 = some pc89 := by kernel_rfl


-- 88: vedette/fields.IsDelta
def p88o1 := [zo 1 (.box 124 0 []),
  zo 2 (.mv kf)]
def p88o2 := [zo 5 (.faddr 0 1),
  zo 6 (.load false 1 5),
  zo 7 (.prim (.bin .lss 3 false true) [6, kk 0]),
  zo 8 (.mv 7),
  zf 9 8 (.faddr 0 1),
  zf 10 8 (.load false 1 9),
  zf 11 8 (.prim (.bin .gtr 3 false true) [10, kk 1000000]),
  zo 12 (.pick 8 kt 11),
  zo 13 (.mv 12),
  zf 14 13 (.faddr 1 1),
  zf 15 13 (.load false 1 14),
  zf 16 13 (.prim (.bin .eql 5 false true) [15, .const (.int .u8 0)]),
  zo 17 (.pick 13 kt 16),
  zo 18 (.mv 17),
  zf 19 18 (.faddr 1 1),
  zf 20 18 (.load false 1 19),
  zf 21 18 (.prim (.bin .gtr 5 false true) [20, .const (.int .u8 31)]),
  zo 22 (.pick 18 kt 21)]
def p88o3 := [zo 2 (.mv kf)]
def p88o9 := [zo 23 (.faddr 1 1),
  zo 24 (.load false 1 23),
  zo 25 (.prim (.bin .and 5 false true) [24, .const (.int .u8 1)]),
  zo 26 (.prim (.bin .eql 5 false true) [25, .const (.int .u8 0)]),
  zo 27 (.mv 26),
  zt 28 27 (.faddr 2 1),
  zt 29 27 (.load true 2 28),
  zt 30 27 (.build (.agg { toList := [.int .i64 0, .int .i64 0] }) []),
  zt 31 27 (.prim (.bin .neq 46 false false) [29, 30]),
  zo 32 (.pick 27 31 kf),
  zo 33 (.mv 32),
  zf 34 33 (.faddr 2 1),
  zf 35 33 (.load true 2 34),
  zf 36 33 (.call true [[]] 78 [35]),
  zf 37 33 (.prim (.un .not) [36]),
  zo 38 (.pick 33 kt 37)]
def p88o10 := [zo 2 (.mv kf)]
def p88o16 := [zo 39 (.faddr 4 1),
  zo 40 (.load true 8 39),
  zo 41 (.mv (kk 0))]
def p88o17 := [zo 42 (.prim (.bin .lss 3 false true) [41, kk 4])]
def p88o21 := [zo 43 (.mv 41),
  zo 44 (.idx true 2 4 40 41),
  zo 4 (.alloc 48 (.agg { toList := [.int .i64 0, .string { data := { toList := [] } }] }) []),
  zo 3 (.mv 43),
  zs (.store 2 4 44)]
def p88o22 := [zo 45 (.load true 2 4),
  zo 46 (.call true [[]] 60 [45]),
  zo 47 (.prim (.un .not) [46]),
  zo 48 (.mv 47),
  zf 49 48 (.faddr 1 1),
  zf 50 48 (.load false 1 49),
  zf 51 48 (.mv 3),
  zf 52 48 (.call true [[], []] 89 [50, 51]),
  zf 53 48 (.prim (.un .not) [52]),
  zf 54 48 (.mv 53),
  zt 55 54 (.load true 2 4),
  zt 56 54 (.build (.agg { toList := [.int .i64 0, .string { data := { toList := [] } }] }) []),
  zt 57 54 (.prim (.bin .neq 48 false false) [55, 56]),
  zf 58 48 (.pick 54 57 kf),
  zo 59 (.pick 48 kt 58)]
def p88o23 := [zo 2 (.mv kf)]
def p88o31 := [zo 60 (.prim (.bin .add 3 false true) [41, kk 1]),
  zo 41 (.mv 60)]
def p88o38 := [zo 2 (.mv kt)]
def pc88_r : List PRes := [PRes.tmp 2 []]
def pc88 : PFunc := ⟨61, pc88_r, (sq (rg p88o1) (sq (sq (rg p88o2) (.cond 22 (sq (rg p88o3) (rt)) (.skip))) (sq (sq (rg p88o9) (.cond 38 (sq (rg p88o10) (rt)) (.skip))) (sq (sq (.region (some ([1], [1], [])) false p88o16) (.block 0 (.loop (sq (.region (some ([1, 40, 41], [1, 4], [])) false p88o17) (sq (.cond 42 (.skip) (.exit 0)) (sq (.block 1 (sq (rg p88o21) (sq (rg p88o22) (.cond 59 (sq (rg p88o23) (rt)) (.skip))))) (rg p88o31))))))) (sq (rg p88o38) (rt)))))), false⟩
def pc88_a : Ann := {
  kr := fun
    | 5 => some ([1], [1], [])
    | 6 => some ([1, 40, 41], [1, 4], [])
    | _ => none
  ka := fun
    | _ => 0
  kh := fun
    | _ => none
  ow := fun t => match t with
    | 64 => [(1, 5, 1)]
    | _ => []
  tc := fun t => match t with
    | 64 => true
    | _ => false }
theorem pc88_ok : compFn Try.prog pc88_a Try.f88 = some pc88 := by kernel_rfl


-- 75: vedette/fields.Bytes
def p75o1 := [zo 1 (.box 124 0 []),
  zo 2 (.mv (.const (.string { data := { toList := [] } }))),
  zo 3 (.mv (kk 0))]
def p75o2 := [zo 7 (.load true 12 1),
  zo 8 (.call true [[]] 88 [7]),
  zo 9 (.prim (.un .not) [8])]
def p75o3 := [zo 2 (.mv (.const (.string { data := { toList := [] } }))),
  zo 3 (.mv (kk 11))]
def p75o9 := [za 10 1 1 0 (.faddr 0 1),
  za 11 10 1 0 (.load false 1 10),
  ⟨some 12, .prim (.conv 3 38) [11], none, [(11, .imm)]⟩,
  ⟨some 13, .call false [[]] 20 [12], none, [(12, .imm)]⟩,
  za 14 1 1 0 (.faddr 1 1),
  za 15 14 1 1 (.load false 1 14),
  ⟨some 16, .prim (.conv 5 38) [15], none, [(15, .imm)]⟩,
  ⟨some 17, .call false [[]] 20 [16], none, [(16, .imm)]⟩,
  ⟨some 18, .prim (.bin .add 9 false false) [13, 17], none, [(13, .imm), (17, .imm)]⟩,
  ⟨some 4, .mv 18, none, [(18, .imm)]⟩]
def p75o10 := [zo 19 (.faddr 1 1),
  zo 20 (.load false 1 19),
  zo 21 (.prim (.bin .and 5 false true) [20, .const (.int .u8 1)]),
  zo 22 (.prim (.bin .neq 5 false true) [21, .const (.int .u8 0)])]
def p75o11 : List POper := [⟨some 23, .mv 4, none, [(4, .imm)]⟩,
  za 24 1 1 0 (.faddr 2 1),
  za 25 24 1 2 (.faddr 0 24),
  za 26 25 1 2 (.load false 1 25),
  ⟨some 27, .prim (.conv 3 38) [26], none, [(26, .imm)]⟩,
  ⟨some 28, .call false [[]] 20 [27], none, [(27, .imm)]⟩,
  za 29 1 1 0 (.faddr 2 1),
  za 30 29 1 2 (.faddr 1 29),
  za 31 30 1 3 (.load false 1 30),
  ⟨some 32, .prim (.conv 3 38) [31], none, [(31, .imm)]⟩,
  ⟨some 33, .call false [[]] 20 [32], none, [(32, .imm)]⟩,
  ⟨some 34, .prim (.bin .add 9 false false) [28, 33], none, [(28, .imm), (33, .imm)]⟩,
  ⟨some 35, .prim (.bin .add 9 false false) [23, 34], none, [(23, .imm), (34, .imm)]⟩,
  ⟨some 4, .mv 35, none, [(35, .imm)]⟩]
def p75o15 := [zo 36 (.faddr 4 1),
  zo 37 (.load true 8 36),
  zo 38 (.mv (kk 0))]
def p75o16 := [zo 39 (.prim (.bin .lss 3 false true) [38, kk 4])]
def p75o20 := [zo 40 (.mv 38),
  zo 41 (.idx true 2 4 37 38),
  zo 6 (.alloc 48 (.agg { toList := [.int .i64 0, .string { data := { toList := [] } }] }) []),
  zo 5 (.mv 40),
  zs (.store 2 6 41)]
def p75o21 := [zo 42 (.faddr 1 1),
  zo 43 (.load false 1 42),
  zo 44 (.mv 5),
  zo 45 (.call true [[], []] 89 [43, 44]),
  zo 46 (.prim (.un .not) [45])]
def p75o26 := [zo 47 (.mv 4),
  zo 48 (.faddr 1 6),
  zo 49 (.load false 1 48),
  zo 50 (.call true [[]] 49 [49]),
  zo 51 (.prim (.bin .add 9 false false) [47, 50]),
  zo 4 (.mv 51)]
def p75o27 := [zo 52 (.faddr 1 6),
  zo 53 (.load false 1 52),
  zo 54 (.prim (.bin .eql 9 false true) [53, .const (.string { data := { toList := [] } })])]
def p75o28 := [zo 55 (.mv 4),
  zo 56 (.faddr 0 6),
  zo 57 (.load false 1 56),
  zo 58 (.call true [[]] 46 [57]),
  zo 59 (.prim (.bin .add 9 false false) [55, 58]),
  zo 4 (.mv 59)]
def p75o36 := [zo 60 (.prim (.bin .add 3 false true) [38, kk 1]),
  zo 38 (.mv 60)]
def p75o43 := [zo 61 (.mv 4),
  zo 2 (.mv 61),
  zo 3 (.mv (kk 0))]
def pc75_r : List PRes := [PRes.tmp 2 [], PRes.tmp 3 []]
def pc75 : PFunc := ⟨62, pc75_r, (sq (rg p75o1) (sq (sq (rg p75o2) (.cond 9 (sq (rg p75o3) (rt)) (.skip))) (sq (rh p75o9) (sq (sq (rg p75o10) (.cond 22 (rh p75o11) (.skip))) (sq (sq (.region (some ([1, 4], [1], [])) false p75o15) (.block 0 (.loop (sq (.region (some ([1, 4, 37, 38], [1, 6], [])) false p75o16) (sq (.cond 39 (.skip) (.exit 0)) (sq (.block 1 (sq (rg p75o20) (sq (sq (rg p75o21) (.cond 46 (.exit 1) (.skip))) (sq (rg p75o26) (sq (rg p75o27) (.cond 54 (rg p75o28) (.skip))))))) (rg p75o36))))))) (sq (rg p75o43) (rt))))))), false⟩
def pc75_a : Ann := {
  kr := fun
    | 6 => some ([1, 4], [1], [])
    | 7 => some ([1, 4, 37, 38], [1, 6], [])
    | _ => none
  ka := fun
    | _ => 0
  kh := fun x => [(1, Hint.at_ 1 0), (4, .imm), (10, .at_ 1 0), (11, .imm), (12, .imm), (13, .imm), (14, .at_ 1 1), (15, .imm), (16, .imm), (17, .imm), (18, .imm), (23, .imm), (24, .at_ 1 2), (25, .at_ 1 2), (26, .imm), (27, .imm), (28, .imm), (29, .at_ 1 2), (30, .at_ 1 3), (31, .imm), (32, .imm), (33, .imm), (34, .imm), (35, .imm)].lookup x
  ow := fun t => match t with
    | 64 => [(1, 5, 1)]
    | _ => []
  tc := fun t => match t with
    | 64 => true
    | _ => false }
theorem pc75_ok : compFn Try.prog pc75_a Try.f75 = some pc75 := by kernel_rfl


-- 44: vedette/thing.Bytes
def p44o1 := [zo 1 (.box 55 0 []),
  zo 2 (.mv (.const (.string { data := { toList := [] } }))),
  zo 3 (.mv (kk 0))]
def p44o2 := [zo 4 (.load true 11 1),
  zo 5 (.call true [[]] 67 [4]),
  zo 6 (.prim (.un .not) [5])]
def p44o3 := [zo 2 (.mv (.const (.string { data := { toList := [] } }))),
  zo 3 (.mv (kk 11))]
def p44o9 := [zo 7 (.faddr 0 1),
  zo 8 (.load false 1 7),
  zo 9 (.faddr 1 1),
  zo 10 (.load true 2 9),
  zo 11 (.faddr 3 1),
  zo 12 (.load true 8 11),
  zo 13 (.build (.agg { toList := [.int .i64 0, .int .u8 0, .int .i64 0, .int .i64 0, .int .i64 0, .string { data := { toList := [] } }, .int .i64 0, .string { data := { toList := [] } }, .int .i64 0, .string { data := { toList := [] } }, .int .i64 0, .string { data := { toList := [] } }] }) [(0, 1, .tmp 8), (1, 1, .const (.int .u8 31)), (2, 2, .tmp 10), (4, 8, .tmp 12)]),
  zo 14 (.call true [[]] 75 [13]),
  zo 15 (.ext 14 0),
  zo 16 (.ext 14 1),
  zo 2 (.mv 15),
  zo 3 (.mv 16)]
def pc44_r : List PRes := [PRes.tmp 2 [], PRes.tmp 3 []]
def pc44 : PFunc := ⟨17, pc44_r, (sq (rg p44o1) (sq (sq (rg p44o2) (.cond 6 (sq (rg p44o3) (rt)) (.skip))) (sq (rg p44o9) (rt)))), false⟩
def pc44_a : Ann := {
  kr := fun
    | _ => none
  ka := fun
    | _ => 0
  kh := fun
    | _ => none
  ow := fun t => match t with
    | 64 => [(1, 5, 1)]
    | _ => []
  tc := fun t => match t with
    | 64 => true
    | _ => false }
theorem pc44_ok : compFn Try.prog pc44_a Try.f44 = some pc44 := by kernel_rfl


-- 18: vedette/thing.All
def p18o1 := [zo 2 (.mv (.const (.string { data := { toList := [] } }))),
  zo 3 (.mv (kk 0))]
def p18o2 := [zo 9 (.mv 0),
  zo 10 (.lenS 9),
  zo 11 (.prim (.bin .gtr 3 false true) [10, kk 200])]
def p18o3 := [zo 2 (.mv (.const (.string { data := { toList := [] } }))),
  zo 3 (.mv (kk 13))]
def p18o9 := [zo 4 (.allocT 64 (.agg { toList := [.pointer none, .slice none 0 0] }) [(1, 5, 1)])]
def p18o10 := [zo 12 (.mv 0),
  zo 13 (.lenS 12),
  zo 14 (.prim (.conv 3 38) [13]),
  zo 15 (.call true [[]] 20 [14]),
  zo 16 (.gcall false false [4, 300000, 300001, 300002, 300003, 300004, 300005, 300006, 300007, 400032] [[(1, 1)], []] 19 [4, 15])]
def p18o11 := [zo 17 (.mv 0),
  zo 18 (.lenS 17),
  zo 19 (.mv (kk 0))]
def p18o12 := [zo 20 (.prim (.bin .lss 3 false false) [19, 18])]
def p18o16 := [zo 21 (.mv 19),
  zo 22 (.iaddrS 11 17 19),
  zo 23 (.load true 11 22),
  zo 6 (.alloc 55 (.agg { toList := [.int .i64 0, .int .i64 0, .int .i64 0, .int .i64 0, .string { data := { toList := [] } }, .int .i64 0, .string { data := { toList := [] } }, .int .i64 0, .string { data := { toList := [] } }, .int .i64 0, .string { data := { toList := [] } }] }) []),
  zo 5 (.mv 21),
  zs (.store 11 6 23)]
def p18o17 := [zo 25 (.load true 11 6),
  zo 26 (.call true [[]] 44 [25]),
  zo 24 (.mv 26),
  zo 27 (.ext 24 0),
  zo 28 (.ext 24 1),
  zo 7 (.mv 27),
  zo 8 (.mv 28)]
def p18o18 : List POper := [⟨some 29, .mv 8, none, [(8, .imm)]⟩,
  ⟨some 30, .prim (.bin .neq 29 false true) [29, kk 0], none, [(29, .imm)]⟩,
  ⟨some 31, .mv 30, none, [(30, .imm)]⟩,
  ⟨some 32, .mv 5, some (31, false), [(5, .imm)]⟩,
  ⟨some 33, .prim (.bin .gtr 3 false true) [32, kk 0], some (31, false), [(32, .imm)]⟩,
  ⟨some 34, .mv 33, some (31, false), [(33, .imm)]⟩,
  ⟨some 35, .faddr 0 6, some (34, true), [(6, .at_ 6 0)]⟩,
  ⟨some 36, .load false 1 35, some (34, true), [(35, .at_ 6 0)]⟩,
  ⟨some 37, .mv 0, some (34, true), [(0, .imm)]⟩,
  ⟨some 38, .mv 5, some (34, true), [(5, .imm)]⟩,
  ⟨some 39, .prim (.bin .sub 3 false true) [38, kk 1], some (34, true), [(38, .imm)]⟩,
  ⟨some 40, .iaddrS 11 37 39, some (34, true), [(37, .imm), (39, .imm)]⟩,
  ⟨some 41, .faddr 0 40, some (34, true), [(40, .imm)]⟩,
  ⟨some 42, .load false 1 41, some (34, true), [(41, .imm)]⟩,
  ⟨some 43, .prim (.bin .leq 3 false false) [36, 42], some (34, true), [(36, .imm), (42, .imm)]⟩,
  ⟨some 44, .pick 34 43 kf, some (31, false), [(34, .imm), (43, .imm)]⟩,
  ⟨some 45, .pick 31 kt 44, none, [(31, .imm), (44, .imm)]⟩]
def p18o19 := [zo 2 (.mv (.const (.string { data := { toList := [] } }))),
  zo 3 (.mv (kk 11))]
def p18o25 := [zo 46 (.mv 7),
  zo 47 (.gcall false false [4, 300000, 300001, 300002, 300003, 300004, 300005, 300006, 300007, 400032] [[(1, 1)], []] 19 [4, 46])]
def p18o30 := [zo 48 (.prim (.bin .add 3 false true) [19, kk 1]),
  zo 19 (.mv 48)]
def p18o37 := [zo 49 (.gcall false false [4, 300000, 300001, 300002, 300003, 300004, 300005, 300006, 300007, 400032] [[(1, 1)]] 24 [4]),
  zo 2 (.mv 49),
  zo 3 (.mv (kk 0))]
def pc18_r : List PRes := [PRes.tmp 2 [], PRes.tmp 3 []]
def pc18 : PFunc := ⟨50, pc18_r, (sq (rg p18o1) (sq (sq (rg p18o2) (.cond 11 (sq (rg p18o3) (rt)) (.skip))) (sq (rg p18o9) (sq (rg p18o10) (sq (sq (rg p18o11) (.block 0 (.loop (sq (.region (some ([0, 4, 17, 18, 19], [4, 6, 400032], [])) false p18o12) (sq (.cond 20 (.skip) (.exit 0)) (sq (.block 1 (sq (rg p18o16) (sq (rg p18o17) (sq (sq (rh p18o18) (.cond 45 (sq (rg p18o19) (rt)) (.skip))) (rg p18o25))))) (rg p18o30))))))) (sq (rg p18o37) (rt))))))), false⟩
def pc18_a : Ann := {
  kr := fun
    | 6 => some ([0, 4, 17, 18, 19], [4, 6, 400032], [])
    | _ => none
  ka := fun
    | _ => 0
  kh := fun x => [(0, Hint.imm), (5, .imm), (6, .at_ 6 0), (8, .imm), (29, .imm), (30, .imm), (31, .imm), (32, .imm), (33, .imm), (34, .imm), (35, .at_ 6 0), (36, .imm), (37, .imm), (38, .imm), (39, .imm), (40, .imm), (41, .imm), (42, .imm), (43, .imm), (44, .imm)].lookup x
  gf := fun d f => match d, f with
    | some 16, 19 => some (false, false, [4, 300000, 300001, 300002, 300003, 300004, 300005, 300006, 300007, 400032])
    | some 47, 19 => some (false, false, [4, 300000, 300001, 300002, 300003, 300004, 300005, 300006, 300007, 400032])
    | some 49, 24 => some (false, false, [4, 300000, 300001, 300002, 300003, 300004, 300005, 300006, 300007, 400032])
    | _, _ => none
  ow := fun t => match t with
    | 64 => [(1, 5, 1)]
    | _ => []
  tc := fun t => match t with
    | 64 => true
    | _ => false }
theorem pc18_ok : compFn Try.prog pc18_a Try.f18 = some pc18 := by kernel_rfl


-- 47: vedette/cmd.parts
def p47o1 := [zo 2 (.mv (.const (.slice none 0 0)))]
def p47o2 := [zo 3 (.mv 0),
  zo 4 (.nilc 3),
  zo 5 (.faddr 0 4),
  zo 6 (.load false 1 5)]
def p47o3 := [zo 8 (.prim (.bin .eql 3 false true) [6, kk 1]),
  zo 7 (.mv 8)]
def p47o4 := [za 9 0 1000000 0 (.mv 0),
  za 10 9 1000000 0 (.nilc 9),
  za 11 10 1000000 0 (.faddr 4 10),
  za 12 11 1000000 4 (.faddr 0 11),
  za 13 0 1000000 0 (.mv 0),
  za 14 13 1000000 0 (.nilc 13),
  za 15 14 1000000 0 (.faddr 4 14),
  za 16 15 1000000 4 (.faddr 1 15),
  ⟨some 17, .bptrs 1 [12, 16], none, [(12, .at_ 1000000 4), (16, .at_ 1000000 5)]⟩,
  ⟨some 2, .mv 17, none, [(17, .obj 17)]⟩]
def p47o7 := [zo 19 (.prim (.bin .eql 3 false true) [6, kk 2]),
  zo 18 (.mv 19)]
def p47o8 := [za 20 0 1000000 0 (.mv 0),
  za 21 20 1000000 0 (.nilc 20),
  za 22 21 1000000 0 (.faddr 1 21),
  za 23 0 1000000 0 (.mv 0),
  za 24 23 1000000 0 (.nilc 23),
  za 25 24 1000000 0 (.faddr 4 24),
  za 26 25 1000000 4 (.faddr 0 25),
  za 27 0 1000000 0 (.mv 0),
  za 28 27 1000000 0 (.nilc 27),
  za 29 28 1000000 0 (.faddr 4 28),
  za 30 29 1000000 4 (.faddr 1 29),
  ⟨some 31, .bptrs 1 [22, 26, 30], none, [(22, .at_ 1000000 1), (26, .at_ 1000000 4), (30, .at_ 1000000 5)]⟩,
  ⟨some 2, .mv 31, none, [(31, .obj 31)]⟩]
def p47o11 := [zo 33 (.prim (.bin .eql 3 false true) [6, kk 3]),
  zo 32 (.mv 33)]
def p47o12 := [za 34 0 1000000 0 (.mv 0),
  za 35 34 1000000 0 (.nilc 34),
  za 36 35 1000000 0 (.faddr 1 35),
  za 37 0 1000000 0 (.mv 0),
  za 38 37 1000000 0 (.nilc 37),
  za 39 38 1000000 0 (.faddr 2 38),
  ⟨some 40, .bptrs 1 [36, 39], none, [(36, .at_ 1000000 1), (39, .at_ 1000000 2)]⟩,
  ⟨some 2, .mv 40, none, [(40, .obj 40)]⟩]
def p47o15 := [zo 42 (.prim (.bin .eql 3 false true) [6, kk 4]),
  zo 41 (.mv 42)]
def p47o16 := [zo 43 (.mv 0),
  zo 44 (.nilc 43),
  zo 45 (.faddr 1 44),
  zo 46 (.bptrs 1 [45]),
  zo 2 (.mv 46)]
def p47o19 := [zo 48 (.prim (.bin .eql 3 false true) [6, kk 5]),
  zo 47 (.mv 48)]
def p47o20 := [za 49 0 1000000 0 (.mv 0),
  za 50 49 1000000 0 (.nilc 49),
  za 51 50 1000000 0 (.faddr 2 50),
  za 52 0 1000000 0 (.mv 0),
  za 53 52 1000000 0 (.nilc 52),
  za 54 53 1000000 0 (.faddr 3 53),
  ⟨some 55, .bptrs 1 [51, 54], none, [(51, .at_ 1000000 2), (54, .at_ 1000000 3)]⟩,
  ⟨some 2, .mv 55, none, [(55, .obj 55)]⟩]
def p47o23 := [zo 57 (.prim (.bin .eql 3 false true) [6, kk 6]),
  zo 56 (.mv 57)]
def p47o25 := [zo 58 (.prim (.bin .eql 3 false true) [6, kk 7]),
  zo 56 (.mv 58)]
def p47o28 := [za 59 0 1000000 0 (.mv 0),
  za 60 59 1000000 0 (.nilc 59),
  za 61 60 1000000 0 (.faddr 18 60),
  za 62 61 1000000 18 (.faddr 0 61),
  za 63 0 1000000 0 (.mv 0),
  za 64 63 1000000 0 (.nilc 63),
  za 65 64 1000000 0 (.faddr 18 64),
  za 66 65 1000000 18 (.faddr 1 65),
  za 67 0 1000000 0 (.mv 0),
  za 68 67 1000000 0 (.nilc 67),
  za 69 68 1000000 0 (.faddr 18 68),
  za 70 69 1000000 18 (.faddr 2 69),
  za 71 0 1000000 0 (.mv 0),
  za 72 71 1000000 0 (.nilc 71),
  za 73 72 1000000 0 (.faddr 18 72),
  za 74 73 1000000 18 (.faddr 3 73),
  ⟨some 75, .bptrs 1 [62, 66, 70, 74], none, [(62, .at_ 1000000 18), (66, .at_ 1000000 19), (70, .at_ 1000000 20), (74, .at_ 1000000 21)]⟩,
  ⟨some 2, .mv 75, none, [(75, .obj 75)]⟩]
def p47o46 := [zo 2 (.mv (.const (.slice none 0 0)))]
def pc47_r : List PRes := [PRes.tmp 2 [(0, 1)]]
def pc47 : PFunc := ⟨76, pc47_r, (sq (rg p47o1) (sq (sq (rg p47o2) (.block 0 (sq (rg p47o3) (.cond 7 (sq (rh p47o4) (rt)) (sq (rg p47o7) (.cond 18 (sq (rh p47o8) (rt)) (sq (rg p47o11) (.cond 32 (sq (rh p47o12) (rt)) (sq (rg p47o15) (.cond 41 (sq (rg p47o16) (rt)) (sq (rg p47o19) (.cond 47 (sq (rh p47o20) (rt)) (sq (sq (rg p47o23) (.cond 56 (.skip) (rg p47o25))) (.cond 56 (sq (.region (some ([0], [1000000], [])) true p47o28) (rt)) (.skip))))))))))))))) (sq (rg p47o46) (rt)))), false⟩
def pc47_a : Ann := {
  kr := fun
    | 14 => some ([0], [1000000], [])
    | _ => none
  ka := fun
    | _ => 0
  kh := fun x => [(0, Hint.at_ 1000000 0), (9, .at_ 1000000 0), (10, .at_ 1000000 0), (11, .at_ 1000000 4), (12, .at_ 1000000 4), (13, .at_ 1000000 0), (14, .at_ 1000000 0), (15, .at_ 1000000 4), (16, .at_ 1000000 5), (17, .obj 17), (20, .at_ 1000000 0), (21, .at_ 1000000 0), (22, .at_ 1000000 1), (23, .at_ 1000000 0), (24, .at_ 1000000 0), (25, .at_ 1000000 4), (26, .at_ 1000000 4), (27, .at_ 1000000 0), (28, .at_ 1000000 0), (29, .at_ 1000000 4), (30, .at_ 1000000 5), (31, .obj 31), (34, .at_ 1000000 0), (35, .at_ 1000000 0), (36, .at_ 1000000 1), (37, .at_ 1000000 0), (38, .at_ 1000000 0), (39, .at_ 1000000 2), (40, .obj 40), (49, .at_ 1000000 0), (50, .at_ 1000000 0), (51, .at_ 1000000 2), (52, .at_ 1000000 0), (53, .at_ 1000000 0), (54, .at_ 1000000 3), (55, .obj 55), (59, .at_ 1000000 0), (60, .at_ 1000000 0), (61, .at_ 1000000 18), (62, .at_ 1000000 18), (63, .at_ 1000000 0), (64, .at_ 1000000 0), (65, .at_ 1000000 18), (66, .at_ 1000000 19), (67, .at_ 1000000 0), (68, .at_ 1000000 0), (69, .at_ 1000000 18), (70, .at_ 1000000 20), (71, .at_ 1000000 0), (72, .at_ 1000000 0), (73, .at_ 1000000 18), (74, .at_ 1000000 21), (75, .obj 75)].lookup x
  ow := fun t => match t with
    | 64 => [(1, 5, 1)]
    | _ => []
  tc := fun t => match t with
    | 64 => true
    | _ => false }
theorem pc47_ok : compFn Try.prog pc47_a Try.f47 = some pc47 := by kernel_rfl


-- 48: vedette/cmd.values
def p48o1 := [zo 2 (.mv (.const (.slice none 0 0)))]
def p48o2 := [zo 3 (.mv 0),
  zo 4 (.nilc 3),
  zo 5 (.faddr 0 4),
  zo 6 (.load false 1 5)]
def p48o3 := [zo 8 (.prim (.bin .eql 3 false true) [6, kk 1]),
  zo 7 (.mv 8)]
def p48o4 := [za 9 0 1000000 0 (.mv 0),
  za 10 9 1000000 0 (.nilc 9),
  za 11 10 1000000 0 (.faddr 6 10),
  za 12 11 1000000 6 (.iaddrA 4 2 11 (kk 0)),
  za 13 0 1000000 0 (.mv 0),
  za 14 13 1000000 0 (.nilc 13),
  za 15 14 1000000 0 (.faddr 6 14),
  za 16 15 1000000 6 (.iaddrA 4 2 15 (kk 1)),
  za 17 0 1000000 0 (.mv 0),
  za 18 17 1000000 0 (.nilc 17),
  za 19 18 1000000 0 (.faddr 6 18),
  za 20 19 1000000 6 (.iaddrA 4 2 19 (kk 2)),
  za 21 0 1000000 0 (.mv 0),
  za 22 21 1000000 0 (.nilc 21),
  za 23 22 1000000 0 (.faddr 6 22),
  za 24 23 1000000 6 (.iaddrA 4 2 23 (kk 3)),
  ⟨some 25, .bptrs 1 [12, 16, 20, 24], none, [(12, .at_ 1000000 6), (16, .at_ 1000000 8), (20, .at_ 1000000 10), (24, .at_ 1000000 12)]⟩,
  ⟨some 2, .mv 25, none, [(25, .obj 25)]⟩]
def p48o7 := [zo 27 (.prim (.bin .eql 3 false true) [6, kk 3]),
  zo 26 (.mv 27)]
def p48o8 := [zo 28 (.mv 0),
  zo 29 (.nilc 28),
  zo 30 (.faddr 14 29),
  zo 31 (.bptrs 1 [30]),
  zo 2 (.mv 31)]
def p48o18 := [zo 2 (.mv (.const (.slice none 0 0)))]
def pc48_r : List PRes := [PRes.tmp 2 [(0, 1)]]
def pc48 : PFunc := ⟨32, pc48_r, (sq (rg p48o1) (sq (sq (rg p48o2) (.block 0 (sq (rg p48o3) (.cond 7 (sq (rh p48o4) (rt)) (sq (rg p48o7) (.cond 26 (sq (rg p48o8) (rt)) (.skip))))))) (sq (rg p48o18) (rt)))), false⟩
def pc48_a : Ann := {
  kr := fun
    | _ => none
  ka := fun
    | _ => 0
  kh := fun x => [(0, Hint.at_ 1000000 0), (9, .at_ 1000000 0), (10, .at_ 1000000 0), (11, .at_ 1000000 6), (12, .at_ 1000000 6), (13, .at_ 1000000 0), (14, .at_ 1000000 0), (15, .at_ 1000000 6), (16, .at_ 1000000 8), (17, .at_ 1000000 0), (18, .at_ 1000000 0), (19, .at_ 1000000 6), (20, .at_ 1000000 10), (21, .at_ 1000000 0), (22, .at_ 1000000 0), (23, .at_ 1000000 6), (24, .at_ 1000000 12), (25, .obj 25)].lookup x
  ow := fun t => match t with
    | 64 => [(1, 5, 1)]
    | _ => []
  tc := fun t => match t with
    | 64 => true
    | _ => false }
theorem pc48_ok : compFn Try.prog pc48_a Try.f48 = some pc48 := by kernel_rfl


-- 21: vedette/cmd.Bytes
def p21o1 := [zo 1 (.box 53 0 []),
  zo 2 (.mv (.const (.string { data := { toList := [] } }))),
  zo 3 (.mv (kk 0))]
def p21o2 := [zo 9 (.load true 22 1),
  zo 10 (.call true [[]] 32 [9]),
  zo 11 (.prim (.un .not) [10])]
def p21o3 := [zo 2 (.mv (.const (.string { data := { toList := [] } }))),
  zo 3 (.mv (kk 11))]
def p21o9 := [za 12 1 1 0 (.faddr 0 1),
  za 13 12 1 0 (.load false 1 12),
  ⟨some 14, .call false [[]] 46 [13], none, [(13, .imm)]⟩,
  za 15 1 1 0 (.faddr 16 1),
  za 16 15 1 16 (.load false 1 15),
  ⟨some 17, .call false [[]] 46 [16], none, [(16, .imm)]⟩,
  ⟨some 18, .prim (.bin .add 9 false false) [14, 17], none, [(14, .imm), (17, .imm)]⟩,
  za 19 1 1 0 (.faddr 17 1),
  za 20 19 1 17 (.load false 1 19),
  ⟨some 21, .call false [[]] 46 [20], none, [(20, .imm)]⟩,
  ⟨some 22, .prim (.bin .add 9 false false) [18, 21], none, [(18, .imm), (21, .imm)]⟩,
  ⟨some 4, .mv 22, none, [(22, .imm)]⟩]
def p21o10 := [zo 23 (.gcall false false [1, 300000, 300001, 300002, 300003, 300004, 300005, 300006, 300007] [[]] 47 [1]),
  zo 24 (.lenS 23),
  zo 25 (.mv (kk 0))]
def p21o11 := [zo 26 (.prim (.bin .lss 3 false false) [25, 24])]
def p21o15 := [zo 27 (.iaddrS 1 23 25),
  zo 28 (.load false 1 27),
  zo 6 (.mv 28)]
def p21o16 := [zo 29 (.mv 4),
  zo 30 (.mv 6),
  zo 31 (.nilc 30),
  zo 32 (.load false 1 31),
  zo 33 (.call true [[]] 46 [32]),
  zo 34 (.prim (.bin .add 9 false false) [29, 33]),
  zo 4 (.mv 34)]
def p21o19 := [zo 35 (.prim (.bin .add 3 false true) [25, kk 1]),
  zo 25 (.mv 35)]
def p21o26 := [zo 36 (.gcall false false [1, 300000, 300001, 300002, 300003, 300004, 300005, 300006, 300007] [[]] 48 [1]),
  zo 37 (.lenS 36),
  zo 38 (.mv (kk 0))]
def p21o27 := [zo 39 (.prim (.bin .lss 3 false false) [38, 37])]
def p21o31 := [zo 40 (.iaddrS 1 36 38),
  zo 41 (.load false 1 40),
  zo 8 (.mv 41)]
def p21o32 : List POper := [⟨some 42, .mv 4, none, [(4, .imm)]⟩,
  ⟨some 43, .mv 8, none, [(8, .obj 1)]⟩,
  ⟨some 44, .nilc 43, none, [(43, .obj 1)]⟩,
  ⟨some 45, .faddr 1 44, none, [(44, .obj 1)]⟩,
  ⟨some 46, .load false 1 45, none, [(45, .obj 1)]⟩,
  ⟨some 47, .call false [[]] 49 [46], none, [(46, .imm)]⟩,
  ⟨some 48, .mv 8, none, [(8, .obj 1)]⟩,
  ⟨some 49, .nilc 48, none, [(48, .obj 1)]⟩,
  ⟨some 50, .faddr 0 49, none, [(49, .obj 1)]⟩,
  ⟨some 51, .load false 1 50, none, [(50, .obj 1)]⟩,
  ⟨some 52, .call false [[]] 46 [51], none, [(51, .imm)]⟩,
  ⟨some 53, .prim (.bin .add 9 false false) [47, 52], none, [(47, .imm), (52, .imm)]⟩,
  ⟨some 54, .prim (.bin .add 9 false false) [42, 53], none, [(42, .imm), (53, .imm)]⟩,
  ⟨some 4, .mv 54, none, [(54, .imm)]⟩]
def p21o35 := [zo 55 (.prim (.bin .add 3 false true) [38, kk 1]),
  zo 38 (.mv 55)]
def p21o42 := [zo 56 (.mv 4),
  zo 2 (.mv 56),
  zo 3 (.mv (kk 0))]
def pc21_r : List PRes := [PRes.tmp 2 [], PRes.tmp 3 []]
def pc21 : PFunc := ⟨57, pc21_r, (sq (rg p21o1) (sq (sq (rg p21o2) (.cond 11 (sq (rg p21o3) (rt)) (.skip))) (sq (rh p21o9) (sq (sq (rg p21o10) (.block 0 (.loop (sq (.region (some ([1, 4, 23, 24, 25], [1, 300000], [])) false p21o11) (sq (.cond 26 (.skip) (.exit 0)) (sq (.block 1 (sq (rg p21o15) (rg p21o16))) (rg p21o19))))))) (sq (sq (.region (some ([1, 4], [1, 300000], [])) false p21o26) (.block 2 (.loop (sq (.region (some ([4, 36, 37, 38], [1, 300000], [])) false p21o27) (sq (.cond 39 (.skip) (.exit 2)) (sq (.block 3 (sq (rg p21o31) (rh p21o32))) (rg p21o35))))))) (sq (rg p21o42) (rt))))))), false⟩
def pc21_a : Ann := {
  kr := fun
    | 5 => some ([1, 4, 23, 24, 25], [1, 300000], [])
    | 9 => some ([1, 4], [1, 300000], [])
    | 10 => some ([4, 36, 37, 38], [1, 300000], [])
    | _ => none
  ka := fun
    | _ => 0
  kh := fun x => [(1, Hint.at_ 1 0), (4, .imm), (8, .obj 1), (12, .at_ 1 0), (13, .imm), (14, .imm), (15, .at_ 1 16), (16, .imm), (17, .imm), (18, .imm), (19, .at_ 1 17), (20, .imm), (21, .imm), (22, .imm), (42, .imm), (43, .obj 1), (44, .obj 1), (45, .obj 1), (46, .imm), (47, .imm), (48, .obj 1), (49, .obj 1), (50, .obj 1), (51, .imm), (52, .imm), (53, .imm), (54, .imm)].lookup x
  gf := fun d f => match d, f with
    | some 23, 47 => some (false, false, [1, 300000, 300001, 300002, 300003, 300004, 300005, 300006, 300007])
    | some 36, 48 => some (false, false, [1, 300000, 300001, 300002, 300003, 300004, 300005, 300006, 300007])
    | _, _ => none
  ow := fun t => match t with
    | 64 => [(1, 5, 1)]
    | _ => []
  tc := fun t => match t with
    | 64 => true
    | _ => false }
theorem pc21_ok : compFn Try.prog pc21_a Try.f21 = some pc21 := by kernel_rfl


-- 50: vedette/sum.told
def p50o1 := [zo 2 (.mv (.const (.string { data := { toList := [] } })))]
def p50o2 := [zo 3 (.mv 0),
  zo 4 (.prim (.conv 101 5) [3]),
  zo 5 (.mv 0),
  zo 6 (.prim (.bin .shr 101 false true) [5, .const (.int .u64 8)]),
  zo 7 (.prim (.conv 101 5) [6]),
  zo 8 (.mv 0),
  zo 9 (.prim (.bin .shr 101 false true) [8, .const (.int .u64 16)]),
  zo 10 (.prim (.conv 101 5) [9]),
  zo 11 (.mv 0),
  zo 12 (.prim (.bin .shr 101 false true) [11, .const (.int .u64 24)]),
  zo 13 (.prim (.conv 101 5) [12]),
  zo 14 (.bslice 5 1 [4, 7, 10, 13]),
  zo 15 (.b2s 14),
  zo 2 (.mv 15)]
def pc50_r : List PRes := [PRes.tmp 2 []]
def pc50 : PFunc := ⟨16, pc50_r, (sq (rg p50o1) (sq (rg p50o2) (rt))), false⟩
def pc50_a : Ann := {
  kr := fun
    | _ => none
  ka := fun
    | _ => 0
  kh := fun
    | _ => none
  ow := fun t => match t with
    | 64 => [(1, 5, 1)]
    | _ => []
  tc := fun t => match t with
    | 64 => true
    | _ => false }
theorem pc50_ok : compFn Try.prog pc50_a Try.f50 = some pc50 := by kernel_rfl


-- 51: vedette/sum.Of
def p51o1 := [zo 2 (.mv (.const (.int .u32 0)))]
def p51o2 := [zo 3 (.mv (.const (.int .u32 4294967295)))]
def p51o3 := [zo 7 (.mv 0),
  zo 8 (.s2b 5 7),
  zo 9 (.lenS 8),
  zo 10 (.mv (kk 0))]
def p51o4 := [zo 11 (.prim (.bin .lss 3 false false) [10, 9])]
def p51o8 := [zo 12 (.iaddrS 1 8 10),
  zo 13 (.load false 1 12),
  zo 5 (.mv 13)]
def p51o9 := [zo 14 (.mv 3),
  zo 15 (.mv 5),
  zo 16 (.prim (.conv 5 101) [15]),
  zo 17 (.prim (.bin .xor 101 false false) [14, 16]),
  zo 3 (.mv 17)]
def p51o10 := [zo 18 (.mv (kk 0))]
def p51o11 := [zo 19 (.prim (.bin .lss 3 false true) [18, kk 8])]
def p51o15 := [zo 20 (.mv 3),
  zo 21 (.prim (.bin .and 101 false true) [20, .const (.int .u32 1)]),
  zo 6 (.mv 21)]
def p51o16 := [zo 22 (.mv 3),
  zo 23 (.prim (.bin .shr 101 false true) [22, .const (.int .u64 1)]),
  zo 3 (.mv 23)]
def p51o17 := [zo 24 (.mv 6),
  zo 25 (.prim (.bin .eql 101 false true) [24, .const (.int .u32 1)])]
def p51o18 := [zo 26 (.mv 3),
  zo 27 (.prim (.bin .xor 101 false true) [26, .const (.int .u32 3988292384)]),
  zo 3 (.mv 27)]
def p51o25 := [zo 28 (.prim (.bin .add 3 false true) [18, kk 1]),
  zo 18 (.mv 28)]
def p51o35 := [zo 29 (.prim (.bin .add 3 false true) [10, kk 1]),
  zo 10 (.mv 29)]
def p51o42 := [zo 30 (.mv 3),
  zo 31 (.prim (.bin .xor 101 false true) [30, .const (.int .u32 4294967295)]),
  zo 2 (.mv 31)]
def pc51_r : List PRes := [PRes.tmp 2 []]
def pc51 : PFunc := ⟨32, pc51_r, (sq (rg p51o1) (sq (rg p51o2) (sq (sq (rg p51o3) (.block 0 (.loop (sq (.region (some ([3, 8, 9, 10], [], [])) false p51o4) (sq (.cond 11 (.skip) (.exit 0)) (sq (.block 1 (sq (rg p51o8) (sq (rg p51o9) (sq (rg p51o10) (.block 2 (.loop (sq (.region (some ([3, 8, 9, 10, 18], [], [])) false p51o11) (sq (.cond 19 (.skip) (.exit 2)) (sq (.block 3 (sq (rg p51o15) (sq (rg p51o16) (sq (rg p51o17) (.cond 25 (rg p51o18) (.skip)))))) (rg p51o25)))))))))) (rg p51o35))))))) (sq (rg p51o42) (rt))))), false⟩
def pc51_a : Ann := {
  kr := fun
    | 3 => some ([3, 8, 9, 10], [], [])
    | 7 => some ([3, 8, 9, 10, 18], [], [])
    | _ => none
  ka := fun
    | _ => 0
  kh := fun
    | _ => none
  ow := fun t => match t with
    | 64 => [(1, 5, 1)]
    | _ => []
  tc := fun t => match t with
    | 64 => true
    | _ => false }
theorem pc51_ok : compFn Try.prog pc51_a Try.f51 = some pc51 := by kernel_rfl


-- 23: vedette/sum.Wrap
def p23o1 := [zo 2 (.mv (.const (.string { data := { toList := [] } })))]
def p23o2 := [zo 3 (.mv 0),
  zo 4 (.call true [[]] 49 [3]),
  zo 5 (.mv 0),
  zo 6 (.call true [[]] 51 [5]),
  zo 7 (.call true [[]] 50 [6]),
  zo 8 (.prim (.bin .add 9 false false) [4, 7]),
  zo 2 (.mv 8)]
def pc23_r : List PRes := [PRes.tmp 2 []]
def pc23 : PFunc := ⟨9, pc23_r, (sq (rg p23o1) (sq (rg p23o2) (rt))), false⟩
def pc23_a : Ann := {
  kr := fun
    | _ => none
  ka := fun
    | _ => 0
  kh := fun
    | _ => none
  ow := fun t => match t with
    | 64 => [(1, 5, 1)]
    | _ => []
  tc := fun t => match t with
    | 64 => true
    | _ => false }
theorem pc23_ok : compFn Try.prog pc23_a Try.f23 = some pc23 := by kernel_rfl


-- 9: vedette/note.Bytes
def p9o1 := [zo 1 (.box 26 0 []),
  zo 2 (.mv (.const (.string { data := { toList := [] } }))),
  zo 3 (.mv (kk 0))]
def p9o2 := [zo 15 (.load true 6 1),
  zo 16 (.call true [[(2, 11), (3, 2), (4, 11), (5, 22)], []] 11 [15, kk 4]),
  zo 17 (.prim (.un .not) [16])]
def p9o3 := [zo 2 (.mv (.const (.string { data := { toList := [] } }))),
  zo 3 (.mv (kk 11))]
def p9o9 := [zo 19 (.faddr 2 1),
  zo 20 (.load false 1 19),
  zo 21 (.call true [[(0, 11)]] 18 [20]),
  zo 18 (.mv 21),
  zo 22 (.ext 18 0),
  zo 23 (.ext 18 1),
  zo 4 (.mv 22),
  zo 5 (.mv 23)]
def p9o10 := [zo 25 (.faddr 4 1),
  zo 26 (.load false 1 25),
  zo 27 (.call true [[(0, 11)]] 18 [26]),
  zo 24 (.mv 27),
  zo 28 (.ext 24 0),
  zo 29 (.ext 24 1),
  zo 6 (.mv 28),
  zo 7 (.mv 29)]
def p9o11 := [zo 8 (.allocT 64 (.agg { toList := [.pointer none, .slice none 0 0] }) [(1, 5, 1)])]
def p9o12 := [za 30 1 1 0 (.faddr 0 1),
  za 31 30 1 0 (.load false 1 30),
  ⟨some 32, .prim (.conv 3 38) [31], none, [(31, .imm)]⟩,
  ⟨some 33, .call false [[]] 20 [32], none, [(32, .imm)]⟩,
  za 34 1 1 0 (.faddr 1 1),
  za 35 34 1 1 (.load false 1 34),
  ⟨some 36, .prim (.conv 3 38) [35], none, [(35, .imm)]⟩,
  ⟨some 37, .call false [[]] 20 [36], none, [(36, .imm)]⟩,
  ⟨some 38, .prim (.bin .add 9 false false) [33, 37], none, [(33, .imm), (37, .imm)]⟩,
  ⟨some 39, .mv 4, none, [(4, .imm)]⟩,
  ⟨some 40, .prim (.bin .add 9 false false) [38, 39], none, [(38, .imm), (39, .imm)]⟩,
  ⟨some 41, .mv 6, none, [(6, .imm)]⟩,
  ⟨some 42, .prim (.bin .add 9 false false) [40, 41], none, [(40, .imm), (41, .imm)]⟩,
  za 43 1 1 0 (.faddr 3 1),
  za 44 43 1 3 (.load false 1 43),
  ⟨some 45, .lenS 44, none, [(44, .imm)]⟩,
  ⟨some 46, .prim (.conv 3 38) [45], none, [(45, .imm)]⟩,
  ⟨some 47, .call false [[]] 20 [46], none, [(46, .imm)]⟩,
  ⟨some 48, .prim (.bin .add 9 false false) [42, 47], none, [(42, .imm), (47, .imm)]⟩,
  ⟨some 49, .gcall false false [8, 300000, 300001, 300002, 300003, 300004, 300005, 300006, 300007, 400064] [[(1, 1)], []] 19 [8, 48], none, [(8, .at_ 8 0), (48, .imm)]⟩]
def p9o13 := [zo 50 (.faddr 3 1),
  zo 51 (.load false 1 50),
  zo 52 (.lenS 51),
  zo 53 (.mv (kk 0))]
def p9o14 := [zo 54 (.prim (.bin .lss 3 false false) [53, 52])]
def p9o18 := [zo 55 (.iaddrS 2 51 53),
  zo 56 (.load true 2 55),
  zo 10 (.alloc 44 (.agg { toList := [.int .i64 0, .int .i64 0] }) []),
  zs (.store 2 10 56)]
def p9o19 := [za 57 10 10 0 (.faddr 0 10),
  za 58 57 10 0 (.load false 1 57),
  ⟨some 59, .prim (.conv 3 38) [58], none, [(58, .imm)]⟩,
  ⟨some 60, .call false [[]] 20 [59], none, [(59, .imm)]⟩,
  za 61 10 10 0 (.faddr 1 10),
  za 62 61 10 1 (.load false 1 61),
  ⟨some 63, .prim (.conv 3 38) [62], none, [(62, .imm)]⟩,
  ⟨some 64, .call false [[]] 20 [63], none, [(63, .imm)]⟩,
  ⟨some 65, .prim (.bin .add 9 false false) [60, 64], none, [(60, .imm), (64, .imm)]⟩,
  ⟨some 66, .gcall false false [8, 300000, 300001, 300002, 300003, 300004, 300005, 300006, 300007, 400064] [[(1, 1)], []] 19 [8, 65], none, [(8, .at_ 8 0), (65, .imm)]⟩]
def p9o22 := [zo 67 (.prim (.bin .add 3 false true) [53, kk 1]),
  zo 53 (.mv 67)]
def p9o29 := [zo 68 (.faddr 5 1),
  zo 69 (.load false 1 68),
  zo 70 (.lenS 69),
  zo 71 (.prim (.conv 3 38) [70]),
  zo 72 (.call true [[]] 20 [71]),
  zo 73 (.gcall false false [8, 300000, 300001, 300002, 300003, 300004, 300005, 300006, 300007, 400064] [[(1, 1)], []] 19 [8, 72])]
def p9o30 := [zo 74 (.faddr 5 1),
  zo 75 (.load false 1 74),
  zo 76 (.lenS 75),
  zo 77 (.mv (kk 0))]
def p9o31 := [zo 78 (.prim (.bin .lss 3 false false) [77, 76])]
def p9o35 := [zo 79 (.iaddrS 22 75 77),
  zo 80 (.load true 22 79),
  zo 12 (.alloc 53 (.agg { toList := [.int .i64 0, .int .i64 0, .int .i64 0, .int .i64 0, .int .i64 0, .int .i64 0, .int .i64 0, .string { data := { toList := [] } }, .int .i64 0, .string { data := { toList := [] } }, .int .i64 0, .string { data := { toList := [] } }, .int .i64 0, .string { data := { toList := [] } }, .int .i64 0, .string { data := { toList := [] } }, .int .i64 0, .int .i64 0, .int .i64 0, .int .i64 0, .int .i64 0, .int .i64 0] }) []),
  zs (.store 22 12 80)]
def p9o36 := [zo 82 (.load true 22 12),
  zo 83 (.call true [[]] 21 [82]),
  zo 81 (.mv 83),
  zo 84 (.ext 81 0),
  zo 85 (.ext 81 1),
  zo 13 (.mv 84),
  zo 14 (.mv 85)]
def p9o37 := [zo 86 (.mv 13),
  zo 87 (.gcall false false [8, 300000, 300001, 300002, 300003, 300004, 300005, 300006, 300007, 400064] [[(1, 1)], []] 19 [8, 86])]
def p9o41 := [zo 88 (.prim (.bin .add 3 false true) [77, kk 1]),
  zo 77 (.mv 88)]
def p9o48 := [zo 89 (.gcall false false [8, 300000, 300001, 300002, 300003, 300004, 300005, 300006, 300007, 400064] [[(1, 1)]] 22 [8]),
  zo 90 (.prim (.bin .gtr 3 false true) [89, kk 40000])]
def p9o49 := [zo 2 (.mv (.const (.string { data := { toList := [] } }))),
  zo 3 (.mv (kk 13))]
def p9o55 := [zo 91 (.gcall false false [8, 300000, 300001, 300002, 300003, 300004, 300005, 300006, 300007, 400064] [[(1, 1)]] 24 [8]),
  zo 92 (.call true [[]] 23 [91]),
  zo 2 (.mv 92),
  zo 3 (.mv (kk 0))]
def pc9_r : List PRes := [PRes.tmp 2 [], PRes.tmp 3 []]
def pc9 : PFunc := ⟨93, pc9_r, (sq (rg p9o1) (sq (sq (rg p9o2) (.cond 17 (sq (rg p9o3) (rt)) (.skip))) (sq (rg p9o9) (sq (rg p9o10) (sq (rg p9o11) (sq (rh p9o12) (sq (sq (rg p9o13) (.block 0 (.loop (sq (.region (some ([1, 8, 51, 52, 53], [1, 8, 10, 400064], [])) false p9o14) (sq (.cond 54 (.skip) (.exit 0)) (sq (.block 1 (sq (rg p9o18) (rh p9o19))) (rg p9o22))))))) (sq (rg p9o29) (sq (sq (rg p9o30) (.block 2 (.loop (sq (.region (some ([8, 75, 76, 77], [1, 8, 12, 400064], [])) false p9o31) (sq (.cond 78 (.skip) (.exit 2)) (sq (.block 3 (sq (rg p9o35) (sq (rg p9o36) (rg p9o37)))) (rg p9o41))))))) (sq (sq (rg p9o48) (.cond 90 (sq (rg p9o49) (rt)) (.skip))) (sq (rg p9o55) (rt)))))))))))), false⟩
def pc9_a : Ann := {
  kr := fun
    | 8 => some ([1, 8, 51, 52, 53], [1, 8, 10, 400064], [])
    | 14 => some ([8, 75, 76, 77], [1, 8, 12, 400064], [])
    | _ => none
  ka := fun
    | _ => 0
  kh := fun x => [(1, Hint.at_ 1 0), (4, .imm), (6, .imm), (8, .at_ 8 0), (10, .at_ 10 0), (30, .at_ 1 0), (31, .imm), (32, .imm), (33, .imm), (34, .at_ 1 1), (35, .imm), (36, .imm), (37, .imm), (38, .imm), (39, .imm), (40, .imm), (41, .imm), (42, .imm), (43, .at_ 1 3), (44, .imm), (45, .imm), (46, .imm), (47, .imm), (48, .imm), (57, .at_ 10 0), (58, .imm), (59, .imm), (60, .imm), (61, .at_ 10 1), (62, .imm), (63, .imm), (64, .imm), (65, .imm)].lookup x
  gf := fun d f => match d, f with
    | some 49, 19 => some (false, false, [8, 300000, 300001, 300002, 300003, 300004, 300005, 300006, 300007, 400064])
    | some 66, 19 => some (false, false, [8, 300000, 300001, 300002, 300003, 300004, 300005, 300006, 300007, 400064])
    | some 73, 19 => some (false, false, [8, 300000, 300001, 300002, 300003, 300004, 300005, 300006, 300007, 400064])
    | some 87, 19 => some (false, false, [8, 300000, 300001, 300002, 300003, 300004, 300005, 300006, 300007, 400064])
    | some 89, 22 => some (false, false, [8, 300000, 300001, 300002, 300003, 300004, 300005, 300006, 300007, 400064])
    | some 91, 24 => some (false, false, [8, 300000, 300001, 300002, 300003, 300004, 300005, 300006, 300007, 400064])
    | _, _ => none
  ow := fun t => match t with
    | 64 => [(1, 5, 1)]
    | _ => []
  tc := fun t => match t with
    | 64 => true
    | _ => false }
theorem pc9_ok : compFn Try.prog pc9_a Try.f9 = some pc9 := by kernel_rfl


-- 37: slices.Equal[[]vedette/api.Thing,vedette/api.Thing]
def p37o1 := [zo 4 (.mv kf)]
def p37o2 := [zo 6 (.mv 0),
  zo 7 (.lenS 6),
  zo 8 (.mv 1),
  zo 9 (.lenS 8),
  zo 10 (.prim (.bin .neq 3 false false) [7, 9])]
def p37o3 := [zo 4 (.mv kf)]
def p37o9 := [zo 11 (.mv 0),
  zo 12 (.lenS 11),
  zo 13 (.mv (kk 0))]
def p37o10 := [zo 14 (.prim (.bin .lss 3 false false) [13, 12])]
def p37o14 := [zo 15 (.mv 13),
  zo 5 (.mv 15)]
def p37o15 : List POper := [⟨some 16, .mv 0, none, [(0, .imm)]⟩,
  ⟨some 17, .mv 5, none, [(5, .imm)]⟩,
  ⟨some 18, .iaddrS 11 16 17, none, [(16, .imm), (17, .imm)]⟩,
  ⟨some 19, .load true 11 18, none, [(18, .imm)]⟩,
  ⟨some 20, .mv 1, none, [(1, .imm)]⟩,
  ⟨some 21, .mv 5, none, [(5, .imm)]⟩,
  ⟨some 22, .iaddrS 11 20 21, none, [(20, .imm), (21, .imm)]⟩,
  ⟨some 23, .load true 11 22, none, [(22, .imm)]⟩,
  ⟨some 24, .prim (.bin .neq 55 false false) [19, 23], none, [(19, .imm), (23, .imm)]⟩]
def p37o16 := [zo 4 (.mv kf)]
def p37o24 := [zo 25 (.prim (.bin .add 3 false true) [13, kk 1]),
  zo 13 (.mv 25)]
def p37o31 := [zo 4 (.mv kt)]
def pc37_r : List PRes := [PRes.tmp 4 []]
def pc37 : PFunc := ⟨26, pc37_r, (sq (rg p37o1) (sq (sq (rg p37o2) (.cond 10 (sq (rg p37o3) (rt)) (.skip))) (sq (sq (rg p37o9) (.block 0 (.loop (sq (.region (some ([0, 1, 12, 13], [], [])) false p37o10) (sq (.cond 14 (.skip) (.exit 0)) (sq (.block 1 (sq (rg p37o14) (sq (rh p37o15) (.cond 24 (sq (rg p37o16) (rt)) (.skip))))) (rg p37o24))))))) (sq (rg p37o31) (rt))))), false⟩
def pc37_a : Ann := {
  kr := fun
    | 4 => some ([0, 1, 12, 13], [], [])
    | _ => none
  ka := fun
    | _ => 0
  kh := fun x => [(0, Hint.imm), (1, .imm), (5, .imm), (16, .imm), (17, .imm), (18, .imm), (19, .imm), (20, .imm), (21, .imm), (22, .imm), (23, .imm)].lookup x
  ow := fun t => match t with
    | 64 => [(1, 5, 1)]
    | _ => []
  tc := fun t => match t with
    | 64 => true
    | _ => false }
theorem pc37_ok : compFn Try.prog pc37_a Try.f37 = some pc37 := by kernel_rfl


-- 38: slices.Equal[[]vedette/api.Hand,vedette/api.Hand]
def p38o1 := [zo 4 (.mv kf)]
def p38o2 := [zo 6 (.mv 0),
  zo 7 (.lenS 6),
  zo 8 (.mv 1),
  zo 9 (.lenS 8),
  zo 10 (.prim (.bin .neq 3 false false) [7, 9])]
def p38o3 := [zo 4 (.mv kf)]
def p38o9 := [zo 11 (.mv 0),
  zo 12 (.lenS 11),
  zo 13 (.mv (kk 0))]
def p38o10 := [zo 14 (.prim (.bin .lss 3 false false) [13, 12])]
def p38o14 := [zo 15 (.mv 13),
  zo 5 (.mv 15)]
def p38o15 : List POper := [⟨some 16, .mv 0, none, [(0, .imm)]⟩,
  ⟨some 17, .mv 5, none, [(5, .imm)]⟩,
  ⟨some 18, .iaddrS 2 16 17, none, [(16, .imm), (17, .imm)]⟩,
  ⟨some 19, .load true 2 18, none, [(18, .imm)]⟩,
  ⟨some 20, .mv 1, none, [(1, .imm)]⟩,
  ⟨some 21, .mv 5, none, [(5, .imm)]⟩,
  ⟨some 22, .iaddrS 2 20 21, none, [(20, .imm), (21, .imm)]⟩,
  ⟨some 23, .load true 2 22, none, [(22, .imm)]⟩,
  ⟨some 24, .prim (.bin .neq 44 false false) [19, 23], none, [(19, .imm), (23, .imm)]⟩]
def p38o16 := [zo 4 (.mv kf)]
def p38o24 := [zo 25 (.prim (.bin .add 3 false true) [13, kk 1]),
  zo 13 (.mv 25)]
def p38o31 := [zo 4 (.mv kt)]
def pc38_r : List PRes := [PRes.tmp 4 []]
def pc38 : PFunc := ⟨26, pc38_r, (sq (rg p38o1) (sq (sq (rg p38o2) (.cond 10 (sq (rg p38o3) (rt)) (.skip))) (sq (sq (rg p38o9) (.block 0 (.loop (sq (.region (some ([0, 1, 12, 13], [], [])) false p38o10) (sq (.cond 14 (.skip) (.exit 0)) (sq (.block 1 (sq (rg p38o14) (sq (rh p38o15) (.cond 24 (sq (rg p38o16) (rt)) (.skip))))) (rg p38o24))))))) (sq (rg p38o31) (rt))))), false⟩
def pc38_a : Ann := {
  kr := fun
    | 4 => some ([0, 1, 12, 13], [], [])
    | _ => none
  ka := fun
    | _ => 0
  kh := fun x => [(0, Hint.imm), (1, .imm), (5, .imm), (16, .imm), (17, .imm), (18, .imm), (19, .imm), (20, .imm), (21, .imm), (22, .imm), (23, .imm)].lookup x
  ow := fun t => match t with
    | 64 => [(1, 5, 1)]
    | _ => []
  tc := fun t => match t with
    | 64 => true
    | _ => false }
theorem pc38_ok : compFn Try.prog pc38_a Try.f38 = some pc38 := by kernel_rfl


-- 39: slices.Equal[[]vedette/api.Command,vedette/api.Command]
def p39o1 := [zo 4 (.mv kf)]
def p39o2 := [zo 6 (.mv 0),
  zo 7 (.lenS 6),
  zo 8 (.mv 1),
  zo 9 (.lenS 8),
  zo 10 (.prim (.bin .neq 3 false false) [7, 9])]
def p39o3 := [zo 4 (.mv kf)]
def p39o9 := [zo 11 (.mv 0),
  zo 12 (.lenS 11),
  zo 13 (.mv (kk 0))]
def p39o10 := [zo 14 (.prim (.bin .lss 3 false false) [13, 12])]
def p39o14 := [zo 15 (.mv 13),
  zo 5 (.mv 15)]
def p39o15 : List POper := [⟨some 16, .mv 0, none, [(0, .imm)]⟩,
  ⟨some 17, .mv 5, none, [(5, .imm)]⟩,
  ⟨some 18, .iaddrS 22 16 17, none, [(16, .imm), (17, .imm)]⟩,
  ⟨some 19, .load true 22 18, none, [(18, .imm)]⟩,
  ⟨some 20, .mv 1, none, [(1, .imm)]⟩,
  ⟨some 21, .mv 5, none, [(5, .imm)]⟩,
  ⟨some 22, .iaddrS 22 20 21, none, [(20, .imm), (21, .imm)]⟩,
  ⟨some 23, .load true 22 22, none, [(22, .imm)]⟩,
  ⟨some 24, .prim (.bin .neq 53 false false) [19, 23], none, [(19, .imm), (23, .imm)]⟩]
def p39o16 := [zo 4 (.mv kf)]
def p39o24 := [zo 25 (.prim (.bin .add 3 false true) [13, kk 1]),
  zo 13 (.mv 25)]
def p39o31 := [zo 4 (.mv kt)]
def pc39_r : List PRes := [PRes.tmp 4 []]
def pc39 : PFunc := ⟨26, pc39_r, (sq (rg p39o1) (sq (sq (rg p39o2) (.cond 10 (sq (rg p39o3) (rt)) (.skip))) (sq (sq (rg p39o9) (.block 0 (.loop (sq (.region (some ([0, 1, 12, 13], [], [])) false p39o10) (sq (.cond 14 (.skip) (.exit 0)) (sq (.block 1 (sq (rg p39o14) (sq (rh p39o15) (.cond 24 (sq (rg p39o16) (rt)) (.skip))))) (rg p39o24))))))) (sq (rg p39o31) (rt))))), false⟩
def pc39_a : Ann := {
  kr := fun
    | 4 => some ([0, 1, 12, 13], [], [])
    | _ => none
  ka := fun
    | _ => 0
  kh := fun x => [(0, Hint.imm), (1, .imm), (5, .imm), (16, .imm), (17, .imm), (18, .imm), (19, .imm), (20, .imm), (21, .imm), (22, .imm), (23, .imm)].lookup x
  ow := fun t => match t with
    | 64 => [(1, 5, 1)]
    | _ => []
  tc := fun t => match t with
    | 64 => true
    | _ => false }
theorem pc39_ok : compFn Try.prog pc39_a Try.f39 = some pc39 := by kernel_rfl


-- 12: vedette/note.Same
def p12o1 := [zo 2 (.box 26 0 []),
  zo 3 (.box 26 1 []),
  zo 4 (.mv kf)]
def p12o2 := [zo 5 (.faddr 0 2),
  zo 6 (.load false 1 5),
  zo 7 (.faddr 0 3),
  zo 8 (.load false 1 7),
  zo 9 (.prim (.bin .eql 3 false false) [6, 8]),
  zo 10 (.mv 9),
  zt 11 10 (.faddr 1 2),
  zt 12 10 (.load false 1 11),
  zt 13 10 (.faddr 1 3),
  zt 14 10 (.load false 1 13),
  zt 15 10 (.prim (.bin .eql 3 false false) [12, 14]),
  zo 16 (.pick 10 15 kf),
  zo 17 (.mv 16),
  zt 18 17 (.faddr 2 2),
  zt 19 17 (.load false 1 18),
  zt 20 17 (.faddr 2 3),
  zt 21 17 (.load false 1 20),
  zt 22 17 (.call true [[(0, 11)], [(0, 11)]] 37 [19, 21]),
  zo 23 (.pick 17 22 kf),
  zo 24 (.mv 23),
  zt 25 24 (.faddr 3 2),
  zt 26 24 (.load false 1 25),
  zt 27 24 (.faddr 3 3),
  zt 28 24 (.load false 1 27),
  zt 29 24 (.call true [[(0, 2)], [(0, 2)]] 38 [26, 28]),
  zo 30 (.pick 24 29 kf),
  zo 31 (.mv 30),
  zt 32 31 (.faddr 4 2),
  zt 33 31 (.load false 1 32),
  zt 34 31 (.faddr 4 3),
  zt 35 31 (.load false 1 34),
  zt 36 31 (.call true [[(0, 11)], [(0, 11)]] 37 [33, 35]),
  zo 37 (.pick 31 36 kf),
  zo 38 (.mv 37),
  zt 39 38 (.faddr 5 2),
  zt 40 38 (.load false 1 39),
  zt 41 38 (.faddr 5 3),
  zt 42 38 (.load false 1 41),
  zt 43 38 (.call true [[(0, 22)], [(0, 22)]] 39 [40, 42]),
  zo 44 (.pick 38 43 kf),
  zo 4 (.mv 44)]
def pc12_r : List PRes := [PRes.tmp 4 []]
def pc12 : PFunc := ⟨45, pc12_r, (sq (rg p12o1) (sq (rg p12o2) (rt))), false⟩
def pc12_a : Ann := {
  kr := fun
    | _ => none
  ka := fun
    | _ => 0
  kh := fun
    | _ => none
  ow := fun t => match t with
    | 64 => [(1, 5, 1)]
    | _ => []
  tc := fun t => match t with
    | 64 => true
    | _ => false }
theorem pc12_ok : compFn Try.prog pc12_a Try.f12 = some pc12 := by kernel_rfl


-- 40: vedette/vedetteref6.SameAll
def p40o1 := [zo 4 (.mv kf)]
def p40o2 := [zo 6 (.mv 0),
  zo 7 (.lenS 6),
  zo 8 (.mv 1),
  zo 9 (.lenS 8),
  zo 10 (.prim (.bin .neq 3 false false) [7, 9])]
def p40o3 := [zo 4 (.mv kf)]
def p40o9 := [zo 5 (.mv (kk 0))]
def p40o10 := [zo 11 (.mv 5),
  zo 12 (.mv 0),
  zo 13 (.lenS 12),
  zo 14 (.prim (.bin .lss 3 false false) [11, 13])]
def p40o15 : List POper := [⟨some 17, .mv 0, none, [(0, .imm)]⟩,
  ⟨some 18, .mv 5, none, [(5, .imm)]⟩,
  ⟨some 19, .iaddrS 11 17 18, none, [(17, .imm), (18, .imm)]⟩,
  ⟨some 20, .load true 11 19, none, [(19, .imm)]⟩,
  ⟨some 21, .mv 1, none, [(1, .imm)]⟩,
  ⟨some 22, .mv 5, none, [(5, .imm)]⟩,
  ⟨some 23, .iaddrS 11 21 22, none, [(21, .imm), (22, .imm)]⟩,
  ⟨some 24, .load true 11 23, none, [(23, .imm)]⟩,
  ⟨some 25, .prim (.bin .neq 55 false false) [20, 24], none, [(20, .imm), (24, .imm)]⟩]
def p40o16 := [zo 4 (.mv kf)]
def p40o23 := [zo 15 (.mv 5),
  zo 16 (.prim (.bin .add 3 false true) [15, kk 1]),
  zo 5 (.mv 16)]
def p40o29 := [zo 4 (.mv kt)]
def pc40_r : List PRes := [PRes.tmp 4 []]
def pc40 : PFunc := ⟨26, pc40_r, (sq (rg p40o1) (sq (sq (rg p40o2) (.cond 10 (sq (rg p40o3) (rt)) (.skip))) (sq (sq (rg p40o9) (.block 0 (.loop (sq (sq (.region (some ([0, 1, 5], [], [])) false p40o10) (.cond 14 (.skip) (.exit 0))) (sq (.block 1 (sq (rh p40o15) (.cond 25 (sq (rg p40o16) (rt)) (.skip)))) (rg p40o23)))))) (sq (rg p40o29) (rt))))), false⟩
def pc40_a : Ann := {
  kr := fun
    | 4 => some ([0, 1, 5], [], [])
    | _ => none
  ka := fun
    | _ => 0
  kh := fun x => [(0, Hint.imm), (1, .imm), (5, .imm), (17, .imm), (18, .imm), (19, .imm), (20, .imm), (21, .imm), (22, .imm), (23, .imm), (24, .imm)].lookup x
  ow := fun t => match t with
    | 64 => [(1, 5, 1)]
    | _ => []
  tc := fun t => match t with
    | 64 => true
    | _ => false }
theorem pc40_ok : compFn Try.prog pc40_a Try.f40 = some pc40 := by kernel_rfl


-- 13: vedette/vedetteref17.Same
def p13o1 := [zo 2 (.box 26 0 []),
  zo 3 (.box 26 1 []),
  zo 4 (.mv kf)]
def p13o2 := [zo 7 (.faddr 0 2),
  zo 8 (.load false 1 7),
  zo 9 (.faddr 0 3),
  zo 10 (.load false 1 9),
  zo 11 (.prim (.bin .neq 3 false false) [8, 10]),
  zo 12 (.mv 11),
  zf 13 12 (.faddr 1 2),
  zf 14 12 (.load false 1 13),
  zf 15 12 (.faddr 1 3),
  zf 16 12 (.load false 1 15),
  zf 17 12 (.prim (.bin .neq 3 false false) [14, 16]),
  zo 18 (.pick 12 kt 17),
  zo 19 (.mv 18),
  zf 20 19 (.faddr 2 2),
  zf 21 19 (.load false 1 20),
  zf 22 19 (.faddr 2 3),
  zf 23 19 (.load false 1 22),
  zf 24 19 (.call true [[(0, 11)], [(0, 11)]] 40 [21, 23]),
  zf 25 19 (.prim (.un .not) [24]),
  zo 26 (.pick 19 kt 25),
  zo 27 (.mv 26),
  zf 28 27 (.faddr 4 2),
  zf 29 27 (.load false 1 28),
  zf 30 27 (.faddr 4 3),
  zf 31 27 (.load false 1 30),
  zf 32 27 (.call true [[(0, 11)], [(0, 11)]] 40 [29, 31]),
  zf 33 27 (.prim (.un .not) [32]),
  zo 34 (.pick 27 kt 33),
  zo 35 (.mv 34),
  zf 36 35 (.faddr 3 2),
  zf 37 35 (.load false 1 36),
  zf 38 35 (.lenS 37),
  zf 39 35 (.faddr 3 3),
  zf 40 35 (.load false 1 39),
  zf 41 35 (.lenS 40),
  zf 42 35 (.prim (.bin .neq 3 false false) [38, 41]),
  zo 43 (.pick 35 kt 42),
  zo 44 (.mv 43),
  zf 45 44 (.faddr 5 2),
  zf 46 44 (.load false 1 45),
  zf 47 44 (.lenS 46),
  zf 48 44 (.faddr 5 3),
  zf 49 44 (.load false 1 48),
  zf 50 44 (.lenS 49),
  zf 51 44 (.prim (.bin .neq 3 false false) [47, 50]),
  zo 52 (.pick 44 kt 51)]
def p13o3 := [zo 4 (.mv kf)]
def p13o9 := [zo 5 (.mv (kk 0))]
def p13o10 := [zo 53 (.mv 5),
  zo 54 (.faddr 3 2),
  zo 55 (.load false 1 54),
  zo 56 (.lenS 55),
  zo 57 (.prim (.bin .lss 3 false false) [53, 56])]
def p13o15 := [za 60 2 2 0 (.faddr 3 2),
  za 61 60 2 3 (.load false 1 60),
  ⟨some 62, .mv 5, none, [(5, .imm)]⟩,
  ⟨some 63, .iaddrS 2 61 62, none, [(61, .imm), (62, .imm)]⟩,
  ⟨some 64, .load true 2 63, none, [(63, .imm)]⟩,
  za 65 3 3 0 (.faddr 3 3),
  za 66 65 3 3 (.load false 1 65),
  ⟨some 67, .mv 5, none, [(5, .imm)]⟩,
  ⟨some 68, .iaddrS 2 66 67, none, [(66, .imm), (67, .imm)]⟩,
  ⟨some 69, .load true 2 68, none, [(68, .imm)]⟩,
  ⟨some 70, .prim (.bin .neq 44 false false) [64, 69], none, [(64, .imm), (69, .imm)]⟩]
def p13o16 := [zo 4 (.mv kf)]
def p13o23 := [zo 58 (.mv 5),
  zo 59 (.prim (.bin .add 3 false true) [58, kk 1]),
  zo 5 (.mv 59)]
def p13o29 := [zo 6 (.mv (kk 0))]
def p13o30 := [zo 71 (.mv 6),
  zo 72 (.faddr 5 2),
  zo 73 (.load false 1 72),
  zo 74 (.lenS 73),
  zo 75 (.prim (.bin .lss 3 false false) [71, 74])]
def p13o35 := [za 78 2 2 0 (.faddr 5 2),
  za 79 78 2 5 (.load false 1 78),
  ⟨some 80, .mv 6, none, [(6, .imm)]⟩,
  ⟨some 81, .iaddrS 22 79 80, none, [(79, .imm), (80, .imm)]⟩,
  ⟨some 82, .load true 22 81, none, [(81, .imm)]⟩,
  za 83 3 3 0 (.faddr 5 3),
  za 84 83 3 5 (.load false 1 83),
  ⟨some 85, .mv 6, none, [(6, .imm)]⟩,
  ⟨some 86, .iaddrS 22 84 85, none, [(84, .imm), (85, .imm)]⟩,
  ⟨some 87, .load true 22 86, none, [(86, .imm)]⟩,
  ⟨some 88, .prim (.bin .neq 53 false false) [82, 87], none, [(82, .imm), (87, .imm)]⟩]
def p13o36 := [zo 4 (.mv kf)]
def p13o43 := [zo 76 (.mv 6),
  zo 77 (.prim (.bin .add 3 false true) [76, kk 1]),
  zo 6 (.mv 77)]
def p13o49 := [zo 4 (.mv kt)]
def pc13_r : List PRes := [PRes.tmp 4 []]
def pc13 : PFunc := ⟨89, pc13_r, (sq (rg p13o1) (sq (sq (rg p13o2) (.cond 52 (sq (rg p13o3) (rt)) (.skip))) (sq (sq (rg p13o9) (.block 0 (.loop (sq (sq (.region (some ([2, 3, 5], [2, 3], [])) false p13o10) (.cond 57 (.skip) (.exit 0))) (sq (.block 1 (sq (rh p13o15) (.cond 70 (sq (rg p13o16) (rt)) (.skip)))) (rg p13o23)))))) (sq (sq (rg p13o29) (.block 2 (.loop (sq (sq (.region (some ([2, 3, 6], [2, 3], [])) false p13o30) (.cond 75 (.skip) (.exit 2))) (sq (.block 3 (sq (rh p13o35) (.cond 88 (sq (rg p13o36) (rt)) (.skip)))) (rg p13o43)))))) (sq (rg p13o49) (rt)))))), false⟩
def pc13_a : Ann := {
  kr := fun
    | 4 => some ([2, 3, 5], [2, 3], [])
    | 9 => some ([2, 3, 6], [2, 3], [])
    | _ => none
  ka := fun
    | _ => 0
  kh := fun x => [(2, Hint.at_ 2 0), (3, .at_ 3 0), (5, .imm), (6, .imm), (60, .at_ 2 3), (61, .imm), (62, .imm), (63, .imm), (64, .imm), (65, .at_ 3 3), (66, .imm), (67, .imm), (68, .imm), (69, .imm), (78, .at_ 2 5), (79, .imm), (80, .imm), (81, .imm), (82, .imm), (83, .at_ 3 5), (84, .imm), (85, .imm), (86, .imm), (87, .imm)].lookup x
  ow := fun t => match t with
    | 64 => [(1, 5, 1)]
    | _ => []
  tc := fun t => match t with
    | 64 => true
    | _ => false }
theorem pc13_ok : compFn Try.prog pc13_a Try.f13 = some pc13 := by kernel_rfl


-- 83: vedette/num.Get
def p83o1 := [zo 2 (.mv (.const (.int .u64 0))),
  zo 3 (.mv (kk 0)),
  zo 4 (.mv (kk 0))]
def p83o2 := [zo 5 (.mv (.const (.int .u64 0))),
  zo 6 (.mv (kk 0))]
def p83o4 := [zo 9 (.mv 0),
  zo 10 (.s2b 5 9),
  zo 11 (.lenS 10),
  zo 12 (.mv (kk 0))]
def p83o5 := [zo 13 (.prim (.bin .lss 3 false false) [12, 11])]
def p83o9 := [zo 14 (.mv 12),
  zo 15 (.iaddrS 1 10 12),
  zo 16 (.load false 1 15),
  zo 7 (.mv 14),
  zo 8 (.mv 16)]
def p83o10 := [zo 18 (.mv 7),
  zo 19 (.prim (.bin .eql 3 false true) [18, kk 9]),
  zo 20 (.mv 19),
  zt 21 20 (.mv 8),
  zt 22 20 (.prim (.bin .gtr 5 false true) [21, .const (.int .u8 1)]),
  zo 23 (.pick 20 22 kf),
  zo 17 (.mv 23)]
def p83o12 := [zo 24 (.mv 7),
  zo 25 (.prim (.bin .gtr 3 false true) [24, kk 0]),
  zo 26 (.mv 25),
  zt 27 26 (.mv 8),
  zt 28 26 (.prim (.bin .eql 5 false true) [27, .const (.int .u8 0)]),
  zo 29 (.pick 26 28 kf),
  zo 17 (.mv 29)]
def p83o15 := [zo 2 (.mv (.const (.int .u64 0))),
  zo 3 (.mv (kk 0)),
  zo 4 (.mv (kk 11))]
def p83o18 := [zo 31 (.mv 8),
  zo 32 (.prim (.bin .lss 5 false true) [31, .const (.int .u8 128)]),
  zo 30 (.mv 32)]
def p83o19 := [zo 33 (.mv 5),
  zo 34 (.mv 8),
  zo 35 (.prim (.conv 5 38) [34]),
  zo 36 (.mv 7),
  zo 37 (.prim (.bin .mul 3 true false) [kk 7, 36]),
  zo 38 (.prim (.bin .shl 38 false false) [35, 37]),
  zo 39 (.prim (.bin .or 38 false false) [33, 38]),
  zo 5 (.mv 39)]
def p83o20 := [zo 40 (.mv 7),
  zo 41 (.prim (.bin .add 3 false true) [40, kk 1]),
  zo 6 (.mv 41)]
def p83o30 := [zo 42 (.mv 5),
  zo 43 (.mv 8),
  zo 44 (.prim (.bin .andNot 5 false true) [43, .const (.int .u8 128)]),
  zo 45 (.prim (.conv 5 38) [44]),
  zo 46 (.mv 7),
  zo 47 (.prim (.bin .mul 3 true false) [kk 7, 46]),
  zo 48 (.prim (.bin .shl 38 false false) [45, 47]),
  zo 49 (.prim (.bin .or 38 false false) [42, 48]),
  zo 5 (.mv 49)]
def p83o34 := [zo 50 (.prim (.bin .add 3 false true) [12, kk 1]),
  zo 12 (.mv 50)]
def p83o41 := [zo 51 (.mv 6),
  zo 52 (.prim (.bin .eql 3 false true) [51, kk 0])]
def p83o42 := [zo 2 (.mv (.const (.int .u64 0))),
  zo 3 (.mv (kk 0)),
  zo 4 (.mv (kk 10))]
def p83o48 := [zo 53 (.mv 5),
  zo 54 (.mv 6),
  zo 2 (.mv 53),
  zo 3 (.mv 54),
  zo 4 (.mv (kk 0))]
def pc83_r : List PRes := [PRes.tmp 2 [], PRes.tmp 3 [], PRes.tmp 4 []]
def pc83 : PFunc := ⟨55, pc83_r, (sq (rg p83o1) (.scope (sq (rg p83o2) (sq (.label) (sq (sq (rg p83o4) (.block 0 (.loop (sq (.region (some ([5, 6, 10, 11, 12], [], [])) false p83o5) (sq (.cond 13 (.skip) (.exit 0)) (sq (.block 1 (sq (rg p83o9) (sq (.block 2 (sq (sq (rg p83o10) (.cond 17 (.skip) (.region (some ([5, 6, 7, 8, 10, 11, 12], [], [])) false p83o12))) (.cond 17 (sq (rg p83o15) (rt)) (sq (.region (some ([5, 6, 7, 8, 10, 11, 12], [], [])) false p83o18) (.cond 30 (sq (rg p83o19) (sq (rg p83o20) (.exit 0))) (.skip)))))) (rg p83o30)))) (rg p83o34))))))) (sq (sq (.region (some ([5, 6], [], [])) false p83o41) (.cond 52 (sq (rg p83o42) (rt)) (.skip))) (sq (rg p83o48) (rt)))))))), false⟩
def pc83_a : Ann := {
  kr := fun
    | 3 => some ([5, 6, 10, 11, 12], [], [])
    | 6 => some ([5, 6, 7, 8, 10, 11, 12], [], [])
    | 8 => some ([5, 6, 7, 8, 10, 11, 12], [], [])
    | 13 => some ([5, 6], [], [])
    | _ => none
  ka := fun
    | _ => 0
  kh := fun
    | _ => none
  ow := fun t => match t with
    | 64 => [(1, 5, 1)]
    | _ => []
  tc := fun t => match t with
    | 64 => true
    | _ => false }
theorem pc83_ok : compFn Try.prog pc83_a Try.f83 = some pc83 := by kernel_rfl


-- 69: vedette/num.Texts
def p69o1 := [zo 4 (.mv (.const (.string { data := { toList := [] } }))),
  zo 5 (.mv (kk 0)),
  zo 6 (.mv (kk 0))]
def p69o2 := [zo 12 (.mv 0),
  zo 13 (.call true [[]] 83 [12]),
  zo 11 (.mv 13),
  zo 14 (.ext 11 0),
  zo 15 (.ext 11 1),
  zo 16 (.ext 11 2),
  zo 7 (.mv 14),
  zo 8 (.mv 15),
  zo 9 (.mv 16)]
def p69o3 := [zo 18 (.mv 9),
  zo 19 (.prim (.bin .neq 29 false true) [18, kk 0]),
  zo 17 (.mv 19)]
def p69o4 := [zo 20 (.mv 9),
  zo 4 (.mv (.const (.string { data := { toList := [] } }))),
  zo 5 (.mv (kk 0)),
  zo 6 (.mv 20)]
def p69o7 := [zo 22 (.mv 7),
  zo 23 (.mv 1),
  zo 24 (.prim .max [23, kk 0]),
  zo 25 (.prim (.conv 3 38) [24]),
  zo 26 (.prim (.bin .gtr 38 false false) [22, 25]),
  zo 21 (.mv 26)]
def p69o8 := [zo 4 (.mv (.const (.string { data := { toList := [] } }))),
  zo 5 (.mv (kk 0)),
  zo 6 (.mv (kk 13))]
def p69o11 := [zo 28 (.mv 7),
  zo 29 (.mv 0),
  zo 30 (.prim (.len 9) [29]),
  zo 31 (.mv 8),
  zo 32 (.prim (.bin .sub 3 false false) [30, 31]),
  zo 33 (.prim (.conv 3 38) [32]),
  zo 34 (.prim (.bin .gtr 38 false false) [28, 33]),
  zo 27 (.mv 34)]
def p69o12 := [zo 4 (.mv (.const (.string { data := { toList := [] } }))),
  zo 5 (.mv (kk 0)),
  zo 6 (.mv (kk 10))]
def p69o23 := [zo 35 (.mv 8),
  zo 36 (.mv 7),
  zo 37 (.prim (.conv 38 3) [36]),
  zo 38 (.prim (.bin .add 3 false false) [35, 37]),
  zo 10 (.mv 38)]
def p69o24 := [zo 39 (.mv 0),
  zo 40 (.mv 8),
  zo 41 (.mv 10),
  zo 42 (.prim (.slice 9 true true) [39, 40, 41]),
  zo 43 (.mv 10),
  zo 4 (.mv 42),
  zo 5 (.mv 43),
  zo 6 (.mv (kk 0))]
def pc69_r : List PRes := [PRes.tmp 4 [], PRes.tmp 5 [], PRes.tmp 6 []]
def pc69 : PFunc := ⟨44, pc69_r, (sq (rg p69o1) (sq (rg p69o2) (sq (.block 0 (sq (rg p69o3) (.cond 17 (sq (rg p69o4) (rt)) (sq (rg p69o7) (.cond 21 (sq (rg p69o8) (rt)) (sq (rg p69o11) (.cond 27 (sq (rg p69o12) (rt)) (.skip)))))))) (sq (rg p69o23) (sq (rg p69o24) (rt)))))), false⟩
def pc69_a : Ann := {
  kr := fun
    | _ => none
  ka := fun
    | _ => 0
  kh := fun
    | _ => none
  ow := fun t => match t with
    | 64 => [(1, 5, 1)]
    | _ => []
  tc := fun t => match t with
    | 64 => true
    | _ => false }
theorem pc69_ok : compFn Try.prog pc69_a Try.f69 = some pc69 := by kernel_rfl


-- 41: vedette/sum.Open
def p41o1 := [zo 2 (.mv (.const (.string { data := { toList := [] } }))),
  zo 3 (.mv (kk 0)),
  zo 4 (.mv (kk 0))]
def p41o2 := [zo 9 (.mv 0),
  zo 10 (.call true [[], []] 69 [9, kk 40000]),
  zo 8 (.mv 10),
  zo 11 (.ext 8 0),
  zo 12 (.ext 8 1),
  zo 13 (.ext 8 2),
  zo 5 (.mv 11),
  zo 6 (.mv 12),
  zo 7 (.mv 13)]
def p41o3 := [zo 15 (.mv 7),
  zo 16 (.prim (.bin .neq 29 false true) [15, kk 0]),
  zo 14 (.mv 16)]
def p41o4 := [zo 17 (.mv 7),
  zo 2 (.mv (.const (.string { data := { toList := [] } }))),
  zo 3 (.mv (kk 0)),
  zo 4 (.mv 17)]
def p41o7 := [zo 19 (.mv 0),
  zo 20 (.prim (.len 9) [19]),
  zo 21 (.mv 6),
  zo 22 (.prim (.bin .sub 3 false false) [20, 21]),
  zo 23 (.prim (.bin .lss 3 false true) [22, kk 4]),
  zo 18 (.mv 23)]
def p41o8 := [zo 2 (.mv (.const (.string { data := { toList := [] } }))),
  zo 3 (.mv (kk 0)),
  zo 4 (.mv (kk 10))]
def p41o11 : List POper := [⟨some 25, .mv 0, none, [(0, .imm)]⟩,
  ⟨some 26, .mv 6, none, [(6, .imm)]⟩,
  ⟨some 27, .mv 6, none, [(6, .imm)]⟩,
  ⟨some 28, .prim (.bin .add 3 false true) [27, kk 4], none, [(27, .imm)]⟩,
  ⟨some 29, .prim (.slice 9 true true) [25, 26, 28], none, [(25, .imm), (26, .imm), (28, .imm)]⟩,
  ⟨some 30, .mv 5, none, [(5, .imm)]⟩,
  ⟨some 31, .call false [[]] 51 [30], none, [(30, .imm)]⟩,
  ⟨some 32, .call false [[]] 50 [31], none, [(31, .imm)]⟩,
  ⟨some 33, .prim (.bin .neq 9 false false) [29, 32], none, [(29, .imm), (32, .imm)]⟩,
  ⟨some 24, .mv 33, none, [(33, .imm)]⟩]
def p41o12 := [zo 2 (.mv (.const (.string { data := { toList := [] } }))),
  zo 3 (.mv (kk 0)),
  zo 4 (.mv (kk 12))]
def p41o23 := [zo 34 (.mv 5),
  zo 35 (.mv 6),
  zo 36 (.prim (.bin .add 3 false true) [35, kk 4]),
  zo 2 (.mv 34),
  zo 3 (.mv 36),
  zo 4 (.mv (kk 0))]
def pc41_r : List PRes := [PRes.tmp 2 [], PRes.tmp 3 [], PRes.tmp 4 []]
def pc41 : PFunc := ⟨37, pc41_r, (sq (rg p41o1) (sq (rg p41o2) (sq (.block 0 (sq (rg p41o3) (.cond 14 (sq (rg p41o4) (rt)) (sq (rg p41o7) (.cond 18 (sq (rg p41o8) (rt)) (sq (rh p41o11) (.cond 24 (sq (rg p41o12) (rt)) (.skip)))))))) (sq (rg p41o23) (rt))))), false⟩
def pc41_a : Ann := {
  kr := fun
    | _ => none
  ka := fun
    | _ => 0
  kh := fun x => [(0, Hint.imm), (5, .imm), (6, .imm), (25, .imm), (26, .imm), (27, .imm), (28, .imm), (29, .imm), (30, .imm), (31, .imm), (32, .imm), (33, .imm)].lookup x
  ow := fun t => match t with
    | 64 => [(1, 5, 1)]
    | _ => []
  tc := fun t => match t with
    | 64 => true
    | _ => false }
theorem pc41_ok : compFn Try.prog pc41_a Try.f41 = some pc41 := by kernel_rfl


-- 73: (*vedette/note.reader).took
def p73o1 := [zo 6 (.mv 0),
  zo 7 (.nilc 6),
  zo 8 (.faddr 1 7),
  zo 9 (.load false 1 8),
  zo 10 (.mv 1),
  zo 11 (.prim (.bin .add 3 false false) [9, 10]),
  zo 12 (.nilc 6),
  zo 13 (.faddr 1 12),
  zs (.store 1 13 11)]
def p73o2 := [zo 14 (.mv 0),
  zo 15 (.mv 0),
  zo 16 (.nilc 15),
  zo 17 (.faddr 2 16),
  zo 18 (.load false 1 17),
  zo 19 (.mv 18),
  zf 20 19 (.mv 2),
  zf 21 19 (.prim (.bin .neq 29 false true) [20, kk 0]),
  zo 22 (.pick 19 kt 21),
  zo 23 (.nilc 14),
  zo 24 (.faddr 2 23),
  zs (.store 1 24 22)]
def pc73_r : List PRes := []
def pc73 : PFunc := ⟨25, pc73_r, (sq (rg p73o1) (rg p73o2)), false⟩
def pc73_a : Ann := {
  kr := fun
    | _ => none
  ka := fun
    | _ => 0
  kh := fun
    | _ => none
  ow := fun t => match t with
    | 64 => [(1, 5, 1)]
    | _ => []
  tc := fun t => match t with
    | 64 => true
    | _ => false }
theorem pc73_ok : compFn Try.prog pc73_a Try.f73 = some pc73 := by kernel_rfl


-- 70: (*vedette/note.reader).number
def p70o1 := [zo 4 (.mv (kk 0))]
def p70o2 := [zo 8 (.mv 0),
  zo 9 (.nilc 8),
  zo 10 (.faddr 2 9),
  zo 11 (.load false 1 10)]
def p70o3 := [zo 4 (.mv (kk 0))]
def p70o9 := [za 13 0 1000000 0 (.mv 0),
  za 14 13 1000000 0 (.nilc 13),
  za 15 14 1000000 0 (.faddr 0 14),
  za 16 15 1000000 0 (.load false 1 15),
  za 17 0 1000000 0 (.mv 0),
  za 18 17 1000000 0 (.nilc 17),
  za 19 18 1000000 0 (.faddr 1 18),
  za 20 19 1000000 1 (.load false 1 19),
  ⟨some 21, .prim (.slice 9 true false) [16, 20], none, [(16, .imm), (20, .imm)]⟩,
  ⟨some 22, .call false [[]] 83 [21], none, [(21, .imm)]⟩,
  zo 12 (.mv 22),
  zo 23 (.ext 12 0),
  zo 24 (.ext 12 1),
  zo 25 (.ext 12 2),
  ⟨some 5, .mv 23, none, [(23, .imm)]⟩,
  ⟨some 6, .mv 24, none, [(24, .imm)]⟩,
  ⟨some 7, .mv 25, none, [(25, .imm)]⟩]
def p70o10 := [zo 26 (.mv 0),
  zo 27 (.mv 6),
  zo 28 (.mv 7),
  zo 29 (.call true [[], [], []] 73 [26, 27, 28])]
def p70o11 := [zo 30 (.mv 5),
  zo 31 (.mv 1),
  zo 32 (.prim (.bin .gtr 38 false false) [30, 31])]
def p70o12 := [zo 33 (.mv 0),
  zo 34 (.nilc 33),
  zo 35 (.faddr 2 34),
  zs (.store 1 35 kt)]
def p70o13 := [zo 4 (.mv (kk 0))]
def p70o20 := [zo 36 (.mv 5),
  zo 37 (.prim (.conv 38 3) [36]),
  zo 4 (.mv 37)]
def pc70_r : List PRes := [PRes.tmp 4 []]
def pc70 : PFunc := ⟨38, pc70_r, (sq (rg p70o1) (sq (sq (rg p70o2) (.cond 11 (sq (rg p70o3) (rt)) (.skip))) (sq (rh p70o9) (sq (rg p70o10) (sq (sq (rg p70o11) (.cond 32 (sq (rg p70o12) (sq (rg p70o13) (rt))) (.skip))) (sq (rg p70o20) (rt))))))), false⟩
def pc70_a : Ann := {
  kr := fun
    | _ => none
  ka := fun
    | _ => 0
  kh := fun x => [(0, Hint.at_ 1000000 0), (13, .at_ 1000000 0), (14, .at_ 1000000 0), (15, .at_ 1000000 0), (16, .imm), (17, .at_ 1000000 0), (18, .at_ 1000000 0), (19, .at_ 1000000 1), (20, .imm), (21, .imm), (23, .imm), (24, .imm), (25, .imm)].lookup x
  ow := fun t => match t with
    | 64 => [(1, 5, 1)]
    | _ => []
  tc := fun t => match t with
    | 64 => true
    | _ => false }
theorem pc70_ok : compFn Try.prog pc70_a Try.f70 = some pc70 := by kernel_rfl


-- 98: (*vedette/fields.reader).took
def p98o1 := [zo 6 (.mv 0),
  zo 7 (.nilc 6),
  zo 8 (.faddr 1 7),
  zo 9 (.load false 1 8),
  zo 10 (.mv 1),
  zo 11 (.prim (.bin .add 3 false false) [9, 10]),
  zo 12 (.nilc 6),
  zo 13 (.faddr 1 12),
  zs (.store 1 13 11)]
def p98o2 := [zo 14 (.mv 0),
  zo 15 (.mv 2),
  zo 16 (.nilc 14),
  zo 17 (.faddr 2 16),
  zs (.store 1 17 15)]
def pc98_r : List PRes := []
def pc98 : PFunc := ⟨18, pc98_r, (sq (rg p98o1) (rg p98o2)), false⟩
def pc98_a : Ann := {
  kr := fun
    | _ => none
  ka := fun
    | _ => 0
  kh := fun
    | _ => none
  ow := fun t => match t with
    | 64 => [(1, 5, 1)]
    | _ => []
  tc := fun t => match t with
    | 64 => true
    | _ => false }
theorem pc98_ok : compFn Try.prog pc98_a Try.f98 = some pc98 := by kernel_rfl


-- 96: (*vedette/fields.reader).number
def p96o1 := [zo 2 (.mv (kk 0))]
def p96o2 := [zo 6 (.mv 0),
  zo 7 (.nilc 6),
  zo 8 (.faddr 2 7),
  zo 9 (.load false 1 8),
  zo 10 (.prim (.bin .neq 29 false true) [9, kk 0])]
def p96o3 := [zo 2 (.mv (kk 0))]
def p96o9 := [za 12 0 1000000 0 (.mv 0),
  za 13 12 1000000 0 (.nilc 12),
  za 14 13 1000000 0 (.faddr 0 13),
  za 15 14 1000000 0 (.load false 1 14),
  za 16 0 1000000 0 (.mv 0),
  za 17 16 1000000 0 (.nilc 16),
  za 18 17 1000000 0 (.faddr 1 17),
  za 19 18 1000000 1 (.load false 1 18),
  ⟨some 20, .prim (.slice 9 true false) [15, 19], none, [(15, .imm), (19, .imm)]⟩,
  ⟨some 21, .call false [[]] 83 [20], none, [(20, .imm)]⟩,
  zo 11 (.mv 21),
  zo 22 (.ext 11 0),
  zo 23 (.ext 11 1),
  zo 24 (.ext 11 2),
  ⟨some 3, .mv 22, none, [(22, .imm)]⟩,
  ⟨some 4, .mv 23, none, [(23, .imm)]⟩,
  ⟨some 5, .mv 24, none, [(24, .imm)]⟩]
def p96o10 := [zo 25 (.mv 0),
  zo 26 (.mv 4),
  zo 27 (.mv 5),
  zo 28 (.call true [[], [], []] 98 [25, 26, 27])]
def p96o11 := [zo 29 (.mv 3),
  zo 30 (.prim .min [29, .const (.int .u64 1000001)]),
  zo 31 (.prim (.conv 38 3) [30]),
  zo 2 (.mv 31)]
def pc96_r : List PRes := [PRes.tmp 2 []]
def pc96 : PFunc := ⟨32, pc96_r, (sq (rg p96o1) (sq (sq (rg p96o2) (.cond 10 (sq (rg p96o3) (rt)) (.skip))) (sq (rh p96o9) (sq (rg p96o10) (sq (rg p96o11) (rt)))))), false⟩
def pc96_a : Ann := {
  kr := fun
    | _ => none
  ka := fun
    | _ => 0
  kh := fun x => [(0, Hint.at_ 1000000 0), (12, .at_ 1000000 0), (13, .at_ 1000000 0), (14, .at_ 1000000 0), (15, .imm), (16, .at_ 1000000 0), (17, .at_ 1000000 0), (18, .at_ 1000000 1), (19, .imm), (20, .imm), (22, .imm), (23, .imm), (24, .imm)].lookup x
  ow := fun t => match t with
    | 64 => [(1, 5, 1)]
    | _ => []
  tc := fun t => match t with
    | 64 => true
    | _ => false }
theorem pc96_ok : compFn Try.prog pc96_a Try.f96 = some pc96 := by kernel_rfl


-- 93: vedette/num.Zag
def p93o1 := [zo 2 (.mv (kk 0))]
def p93o2 := [zo 3 (.mv 0),
  zo 4 (.prim (.bin .shr 38 false true) [3, .const (.int .u64 1)]),
  zo 5 (.prim (.conv 38 2) [4]),
  zo 6 (.mv 0),
  zo 7 (.prim (.bin .and 38 false true) [6, .const (.int .u64 1)]),
  zo 8 (.prim (.conv 38 2) [7]),
  zo 9 (.prim (.un .neg) [8]),
  zo 10 (.prim (.bin .xor 2 false false) [5, 9]),
  zo 2 (.mv 10)]
def pc93_r : List PRes := [PRes.tmp 2 []]
def pc93 : PFunc := ⟨11, pc93_r, (sq (rg p93o1) (sq (rg p93o2) (rt))), false⟩
def pc93_a : Ann := {
  kr := fun
    | _ => none
  ka := fun
    | _ => 0
  kh := fun
    | _ => none
  ow := fun t => match t with
    | 64 => [(1, 5, 1)]
    | _ => []
  tc := fun t => match t with
    | 64 => true
    | _ => false }
theorem pc93_ok : compFn Try.prog pc93_a Try.f93 = some pc93 := by kernel_rfl


-- 86: vedette/num.Ints
def p86o1 := [zo 2 (.mv (kk 0)),
  zo 3 (.mv (kk 0)),
  zo 4 (.mv (kk 0))]
def p86o2 := [zo 9 (.mv 0),
  zo 10 (.call true [[]] 83 [9]),
  zo 8 (.mv 10),
  zo 11 (.ext 8 0),
  zo 12 (.ext 8 1),
  zo 13 (.ext 8 2),
  zo 5 (.mv 11),
  zo 6 (.mv 12),
  zo 7 (.mv 13)]
def p86o3 := [zo 14 (.mv 5),
  zo 15 (.call true [[]] 93 [14]),
  zo 16 (.mv 6),
  zo 17 (.mv 7),
  zo 2 (.mv 15),
  zo 3 (.mv 16),
  zo 4 (.mv 17)]
def pc86_r : List PRes := [PRes.tmp 2 [], PRes.tmp 3 [], PRes.tmp 4 []]
def pc86 : PFunc := ⟨18, pc86_r, (sq (rg p86o1) (sq (rg p86o2) (sq (rg p86o3) (rt)))), false⟩
def pc86_a : Ann := {
  kr := fun
    | _ => none
  ka := fun
    | _ => 0
  kh := fun
    | _ => none
  ow := fun t => match t with
    | 64 => [(1, 5, 1)]
    | _ => []
  tc := fun t => match t with
    | 64 => true
    | _ => false }
theorem pc86_ok : compFn Try.prog pc86_a Try.f86 = some pc86 := by kernel_rfl


-- 97: (*vedette/fields.reader).field
def p97o1 := [zo 2 (.alloc 48 (.agg { toList := [.int .i64 0, .string { data := { toList := [] } }] }) [])]
def p97o2 := [zo 3 (.alloc 48 (.agg { toList := [.int .i64 0, .string { data := { toList := [] } }] }) [])]
def p97o3 := [zo 10 (.mv 0),
  zo 11 (.nilc 10),
  zo 12 (.faddr 2 11),
  zo 13 (.load false 1 12),
  zo 14 (.prim (.bin .neq 29 false true) [13, kk 0])]
def p97o4 := [zo 15 (.load true 2 3),
  zs (.store 2 2 15)]
def p97o10 := [za 17 0 1000000 0 (.mv 0),
  za 18 17 1000000 0 (.nilc 17),
  za 19 18 1000000 0 (.faddr 0 18),
  za 20 19 1000000 0 (.load false 1 19),
  za 21 0 1000000 0 (.mv 0),
  za 22 21 1000000 0 (.nilc 21),
  za 23 22 1000000 0 (.faddr 1 22),
  za 24 23 1000000 1 (.load false 1 23),
  ⟨some 25, .prim (.slice 9 true false) [20, 24], none, [(20, .imm), (24, .imm)]⟩,
  ⟨some 26, .call false [[], []] 69 [25, kk 12], none, [(25, .imm)]⟩,
  zo 16 (.mv 26),
  zo 27 (.ext 16 0),
  zo 28 (.ext 16 1),
  zo 29 (.ext 16 2),
  ⟨some 4, .mv 27, none, [(27, .imm)]⟩,
  ⟨some 5, .mv 28, none, [(28, .imm)]⟩,
  ⟨some 6, .mv 29, none, [(29, .imm)]⟩]
def p97o11 := [zo 30 (.mv 0),
  zo 31 (.mv 5),
  zo 32 (.mv 6),
  zo 33 (.call true [[], [], []] 98 [30, 31, 32])]
def p97o12 := [zo 34 (.mv 4),
  zo 35 (.faddr 1 3),
  zs (.store 1 35 34)]
def p97o13 := [zo 36 (.mv 4),
  zo 37 (.prim (.bin .eql 9 false true) [36, .const (.string { data := { toList := [] } })]),
  zo 38 (.mv 37),
  zt 39 38 (.mv 6),
  zt 40 38 (.prim (.bin .eql 29 false true) [39, kk 0]),
  zo 41 (.pick 38 40 kf)]
def p97o14 := [za 43 0 1000000 0 (.mv 0),
  za 44 43 1000000 0 (.nilc 43),
  za 45 44 1000000 0 (.faddr 0 44),
  za 46 45 1000000 0 (.load false 1 45),
  za 47 0 1000000 0 (.mv 0),
  za 48 47 1000000 0 (.nilc 47),
  za 49 48 1000000 0 (.faddr 1 48),
  za 50 49 1000000 1 (.load false 1 49),
  ⟨some 51, .prim (.slice 9 true false) [46, 50], none, [(46, .imm), (50, .imm)]⟩,
  ⟨some 52, .call false [[]] 86 [51], none, [(51, .imm)]⟩,
  zo 42 (.mv 52),
  zo 53 (.ext 42 0),
  zo 54 (.ext 42 1),
  zo 55 (.ext 42 2),
  ⟨some 7, .mv 53, none, [(53, .imm)]⟩,
  ⟨some 8, .mv 54, none, [(54, .imm)]⟩,
  ⟨some 9, .mv 55, none, [(55, .imm)]⟩]
def p97o15 := [zo 56 (.mv 0),
  zo 57 (.mv 8),
  zo 58 (.mv 9),
  zo 59 (.call true [[], [], []] 98 [56, 57, 58])]
def p97o16 := [zo 60 (.mv 7),
  zo 61 (.faddr 0 3),
  zs (.store 1 61 60)]
def p97o23 := [zo 62 (.load true 2 3),
  zs (.store 2 2 62)]
def pc97_r : List PRes := [PRes.cell 2 true 2 []]
def pc97 : PFunc := ⟨63, pc97_r, (sq (rg p97o1) (sq (rg p97o2) (sq (sq (rg p97o3) (.cond 14 (sq (rg p97o4) (rt)) (.skip))) (sq (rh p97o10) (sq (rg p97o11) (sq (sq (rg p97o12) (sq (rg p97o13) (.cond 41 (sq (rh p97o14) (sq (rg p97o15) (rg p97o16))) (.skip)))) (sq (rg p97o23) (rt)))))))), false⟩
def pc97_a : Ann := {
  kr := fun
    | _ => none
  ka := fun
    | _ => 0
  kh := fun x => [(0, Hint.at_ 1000000 0), (17, .at_ 1000000 0), (18, .at_ 1000000 0), (19, .at_ 1000000 0), (20, .imm), (21, .at_ 1000000 0), (22, .at_ 1000000 0), (23, .at_ 1000000 1), (24, .imm), (25, .imm), (27, .imm), (28, .imm), (29, .imm), (43, .at_ 1000000 0), (44, .at_ 1000000 0), (45, .at_ 1000000 0), (46, .imm), (47, .at_ 1000000 0), (48, .at_ 1000000 0), (49, .at_ 1000000 1), (50, .imm), (51, .imm), (53, .imm), (54, .imm), (55, .imm)].lookup x
  ow := fun t => match t with
    | 64 => [(1, 5, 1)]
    | _ => []
  tc := fun t => match t with
    | 64 => true
    | _ => false }
theorem pc97_ok : compFn Try.prog pc97_a Try.f97 = some pc97 := by kernel_rfl


-- 95: vedette/fields.Read
def p95o1 := [zo 2 (.alloc 124 (.agg { toList := [.int .i64 0, .int .u8 0, .int .i64 0, .int .i64 0, .int .i64 0, .string { data := { toList := [] } }, .int .i64 0, .string { data := { toList := [] } }, .int .i64 0, .string { data := { toList := [] } }, .int .i64 0, .string { data := { toList := [] } }] }) []),
  zo 3 (.mv (kk 0)),
  zo 4 (.mv (kk 0))]
def p95o2 := [zo 9 (.mv 0),
  zo 10 (.build (.agg { toList := [.string { data := { toList := [] } }, .int .i64 0, .int .i64 0] }) [(0, 1, .tmp 9)]),
  zo 11 (.box 156 10 []),
  zo 5 (.mv 11)]
def p95o3 := [zo 12 (.mv 5),
  zo 13 (.call true [[]] 96 [12]),
  zo 14 (.build (.agg { toList := [.int .i64 0, .int .u8 0, .int .i64 0, .int .i64 0, .int .i64 0, .string { data := { toList := [] } }, .int .i64 0, .string { data := { toList := [] } }, .int .i64 0, .string { data := { toList := [] } }, .int .i64 0, .string { data := { toList := [] } }] }) [(0, 1, .tmp 13)]),
  zo 6 (.alloc 124 (.agg { toList := [.int .i64 0, .int .u8 0, .int .i64 0, .int .i64 0, .int .i64 0, .string { data := { toList := [] } }, .int .i64 0, .string { data := { toList := [] } }, .int .i64 0, .string { data := { toList := [] } }, .int .i64 0, .string { data := { toList := [] } }] }) []),
  zs (.store 12 6 14)]
def p95o4 := [zo 15 (.mv 5),
  zo 16 (.call true [[]] 96 [15]),
  zo 7 (.mv 16)]
def p95o5 := [zo 17 (.mv 5),
  zo 18 (.nilc 17),
  zo 19 (.faddr 2 18),
  zo 20 (.load false 1 19),
  zo 21 (.prim (.bin .eql 29 false true) [20, kk 0]),
  zo 22 (.mv 21),
  zt 23 22 (.faddr 0 6),
  zt 24 22 (.load false 1 23),
  zt 25 22 (.prim (.bin .gtr 3 false true) [24, kk 1000000]),
  zt 26 22 (.mv 25),
  zf 27 26 (.mv 7),
  zf 28 26 (.prim (.bin .eql 3 false true) [27, kk 0]),
  zt 29 22 (.pick 26 kt 28),
  zt 30 22 (.mv 29),
  zf 31 30 (.mv 7),
  zf 32 30 (.prim (.bin .gtr 3 false true) [31, kk 31]),
  zt 33 22 (.pick 30 kt 32),
  zo 34 (.pick 22 33 kf)]
def p95o6 := [zo 35 (.build (.agg { toList := [.int .i64 0, .int .u8 0, .int .i64 0, .int .i64 0, .int .i64 0, .string { data := { toList := [] } }, .int .i64 0, .string { data := { toList := [] } }, .int .i64 0, .string { data := { toList := [] } }, .int .i64 0, .string { data := { toList := [] } }] }) []),
  zs (.store 12 2 35),
  zo 3 (.mv (kk 0)),
  zo 4 (.mv (kk 11))]
def p95o12 := [zo 36 (.mv 7),
  zo 37 (.prim (.conv 3 5) [36]),
  zo 38 (.faddr 1 6),
  zs (.store 1 38 37)]
def p95o13 := [zo 39 (.faddr 1 6),
  zo 40 (.load false 1 39),
  zo 41 (.prim (.bin .and 5 false true) [40, .const (.int .u8 1)]),
  zo 42 (.prim (.bin .neq 5 false true) [41, .const (.int .u8 0)])]
def p95o14 := [zo 43 (.mv 5),
  zo 44 (.call true [[]] 96 [43]),
  zo 45 (.faddr 2 6),
  zo 46 (.faddr 0 45),
  zs (.store 1 46 44)]
def p95o15 := [zo 47 (.mv 5),
  zo 48 (.call true [[]] 96 [47]),
  zo 49 (.faddr 2 6),
  zo 50 (.faddr 1 49),
  zs (.store 1 50 48)]
def p95o22 := [zo 51 (.mv (kk 0))]
def p95o23 := [zo 52 (.prim (.bin .lss 3 false true) [51, kk 4])]
def p95o27 := [zo 53 (.mv 51),
  zo 8 (.mv 53)]
def p95o28 := [zo 55 (.mv 5),
  zo 56 (.nilc 55),
  zo 57 (.faddr 2 56),
  zo 58 (.load false 1 57),
  zo 59 (.prim (.bin .neq 29 false true) [58, kk 0]),
  zo 54 (.mv 59)]
def p95o30 := [zo 61 (.faddr 1 6),
  zo 62 (.load false 1 61),
  zo 63 (.mv 8),
  zo 64 (.call true [[], []] 89 [62, 63]),
  zo 60 (.mv 64)]
def p95o31 := [zo 65 (.mv 8),
  zo 66 (.mv 5),
  zo 67 (.call true [[]] 97 [66]),
  zo 68 (.faddr 4 6),
  zo 69 (.iaddrA 4 2 68 65),
  zs (.store 2 69 67)]
def p95o40 := [zo 70 (.prim (.bin .add 3 false true) [51, kk 1]),
  zo 51 (.mv 70)]
def p95o47 := [zo 71 (.mv 5),
  zo 72 (.nilc 71),
  zo 73 (.faddr 2 72),
  zo 74 (.load false 1 73),
  zo 75 (.prim (.bin .neq 29 false true) [74, kk 0])]
def p95o48 := [zo 76 (.build (.agg { toList := [.int .i64 0, .int .u8 0, .int .i64 0, .int .i64 0, .int .i64 0, .string { data := { toList := [] } }, .int .i64 0, .string { data := { toList := [] } }, .int .i64 0, .string { data := { toList := [] } }, .int .i64 0, .string { data := { toList := [] } }] }) []),
  za 77 5 11 0 (.mv 5),
  za 78 77 11 0 (.nilc 77),
  za 79 78 11 0 (.faddr 2 78),
  za 80 79 11 2 (.load false 1 79),
  zn (.store 12 2 76) [(2, .at_ 2 0), (76, .imm)],
  zo 3 (.mv (kk 0)),
  ⟨some 4, .mv 80, none, [(80, .imm)]⟩]
def p95o54 := [zo 81 (.load true 12 6),
  zo 82 (.call true [[]] 88 [81]),
  zo 83 (.prim (.un .not) [82])]
def p95o55 := [zo 84 (.build (.agg { toList := [.int .i64 0, .int .u8 0, .int .i64 0, .int .i64 0, .int .i64 0, .string { data := { toList := [] } }, .int .i64 0, .string { data := { toList := [] } }, .int .i64 0, .string { data := { toList := [] } }, .int .i64 0, .string { data := { toList := [] } }] }) []),
  zs (.store 12 2 84),
  zo 3 (.mv (kk 0)),
  zo 4 (.mv (kk 11))]
def p95o61 := [za 85 6 6 0 (.load true 12 6),
  za 86 5 11 0 (.mv 5),
  za 87 86 11 0 (.nilc 86),
  za 88 87 11 0 (.faddr 1 87),
  za 89 88 11 1 (.load false 1 88),
  zn (.store 12 2 85) [(2, .at_ 2 0), (85, .imm)],
  ⟨some 3, .mv 89, none, [(89, .imm)]⟩,
  zo 4 (.mv (kk 0))]
def pc95_r : List PRes := [PRes.cell 2 true 12 [], PRes.tmp 3 [], PRes.tmp 4 []]
def pc95 : PFunc := ⟨90, pc95_r, (sq (rg p95o1) (.scope (sq (rg p95o2) (sq (rg p95o3) (sq (rg p95o4) (sq (sq (rg p95o5) (.cond 34 (sq (rg p95o6) (rt)) (.skip))) (sq (sq (.region (some ([2, 5, 6, 7], [2, 6, 11], [])) false p95o12) (sq (rg p95o13) (.cond 42 (sq (rg p95o14) (rg p95o15)) (.skip)))) (sq (.label) (sq (sq (rg p95o22) (.block 0 (.loop (sq (.region (some ([2, 5, 6, 51], [2, 6, 11], [])) false p95o23) (sq (.cond 52 (.skip) (.exit 0)) (sq (.block 1 (sq (rg p95o27) (.block 2 (sq (rg p95o28) (.cond 54 (.exit 0) (sq (rg p95o30) (.cond 60 (rg p95o31) (.skip)))))))) (rg p95o40))))))) (sq (sq (.region (some ([2, 5, 6], [2, 6, 11], [])) false p95o47) (.cond 75 (sq (rh p95o48) (rt)) (.skip))) (sq (sq (rg p95o54) (.cond 83 (sq (rg p95o55) (rt)) (.skip))) (sq (rh p95o61) (rt))))))))))))), false⟩
def pc95_a : Ann := {
  kr := fun
    | 6 => some ([2, 5, 6, 7], [2, 6, 11], [])
    | 11 => some ([2, 5, 6, 51], [2, 6, 11], [])
    | 17 => some ([2, 5, 6], [2, 6, 11], [])
    | _ => none
  ka := fun
    | _ => 0
  kh := fun x => [(2, Hint.at_ 2 0), (5, .at_ 11 0), (6, .at_ 6 0), (76, .imm), (77, .at_ 11 0), (78, .at_ 11 0), (79, .at_ 11 2), (80, .imm), (85, .imm), (86, .at_ 11 0), (87, .at_ 11 0), (88, .at_ 11 1), (89, .imm)].lookup x
  ow := fun t => match t with
    | 64 => [(1, 5, 1)]
    | _ => []
  tc := fun t => match t with
    | 64 => true
    | _ => false }
theorem pc95_ok : compFn Try.prog pc95_a Try.f95 = some pc95 := by kernel_rfl


-- 92: vedette/thing.Read
def p92o1 := [zo 2 (.alloc 55 (.agg { toList := [.int .i64 0, .int .i64 0, .int .i64 0, .int .i64 0, .string { data := { toList := [] } }, .int .i64 0, .string { data := { toList := [] } }, .int .i64 0, .string { data := { toList := [] } }, .int .i64 0, .string { data := { toList := [] } }] }) []),
  zo 3 (.mv (kk 0)),
  zo 4 (.mv (kk 0))]
def p92o2 := [zo 9 (.mv 0),
  zo 10 (.call true [[]] 95 [9]),
  zo 8 (.mv 10),
  zo 11 (.ext 8 0),
  zo 12 (.ext 8 1),
  zo 13 (.ext 8 2),
  zo 5 (.alloc 124 (.agg { toList := [.int .i64 0, .int .u8 0, .int .i64 0, .int .i64 0, .int .i64 0, .string { data := { toList := [] } }, .int .i64 0, .string { data := { toList := [] } }, .int .i64 0, .string { data := { toList := [] } }, .int .i64 0, .string { data := { toList := [] } }] }) []),
  zs (.store 12 5 11),
  zo 6 (.mv 12),
  zo 7 (.mv 13)]
def p92o3 := [zo 15 (.mv 7),
  zo 16 (.prim (.bin .neq 29 false true) [15, kk 0]),
  zo 14 (.mv 16)]
def p92o4 := [zo 17 (.build (.agg { toList := [.int .i64 0, .int .i64 0, .int .i64 0, .int .i64 0, .string { data := { toList := [] } }, .int .i64 0, .string { data := { toList := [] } }, .int .i64 0, .string { data := { toList := [] } }, .int .i64 0, .string { data := { toList := [] } }] }) []),
  zo 18 (.mv 7),
  zs (.store 11 2 17),
  zo 3 (.mv (kk 0)),
  zo 4 (.mv 18)]
def p92o7 := [zo 20 (.faddr 1 5),
  zo 21 (.load false 1 20),
  zo 22 (.prim (.bin .neq 5 false true) [21, .const (.int .u8 31)]),
  zo 19 (.mv 22)]
def p92o8 := [zo 23 (.build (.agg { toList := [.int .i64 0, .int .i64 0, .int .i64 0, .int .i64 0, .string { data := { toList := [] } }, .int .i64 0, .string { data := { toList := [] } }, .int .i64 0, .string { data := { toList := [] } }, .int .i64 0, .string { data := { toList := [] } }] }) []),
  zs (.store 11 2 23),
  zo 3 (.mv (kk 0)),
  zo 4 (.mv (kk 11))]
def p92o17 := [zo 24 (.faddr 0 5),
  zo 25 (.load false 1 24),
  zo 26 (.faddr 2 5),
  zo 27 (.load true 2 26),
  zo 28 (.faddr 4 5),
  zo 29 (.load true 8 28),
  zo 30 (.build (.agg { toList := [.int .i64 0, .int .i64 0, .int .i64 0, .int .i64 0, .string { data := { toList := [] } }, .int .i64 0, .string { data := { toList := [] } }, .int .i64 0, .string { data := { toList := [] } }, .int .i64 0, .string { data := { toList := [] } }] }) [(0, 1, .tmp 25), (1, 2, .tmp 27), (3, 8, .tmp 29)]),
  zo 31 (.mv 6),
  zs (.store 11 2 30),
  zo 3 (.mv 31),
  zo 4 (.mv (kk 0))]
def pc92_r : List PRes := [PRes.cell 2 true 11 [], PRes.tmp 3 [], PRes.tmp 4 []]
def pc92 : PFunc := ⟨32, pc92_r, (sq (rg p92o1) (sq (rg p92o2) (sq (.block 0 (sq (rg p92o3) (.cond 14 (sq (rg p92o4) (rt)) (sq (rg p92o7) (.cond 19 (sq (rg p92o8) (rt)) (.skip)))))) (sq (rg p92o17) (rt))))), false⟩
def pc92_a : Ann := {
  kr := fun
    | _ => none
  ka := fun
    | _ => 0
  kh := fun
    | _ => none
  ow := fun t => match t with
    | 64 => [(1, 5, 1)]
    | _ => []
  tc := fun t => match t with
    | 64 => true
    | _ => false }
theorem pc92_ok : compFn Try.prog pc92_a Try.f92 = some pc92 := by kernel_rfl


-- 84: vedette/thing.Some
def p84o1 := [zo 2 (.mv (.const (.slice none 0 0))),
  zo 3 (.mv (kk 0)),
  zo 4 (.mv (kk 0))]
def p84o2 := [zo 13 (.mv 0),
  zo 14 (.call true [[]] 83 [13]),
  zo 12 (.mv 14),
  zo 15 (.ext 12 0),
  zo 16 (.ext 12 1),
  zo 17 (.ext 12 2),
  zo 5 (.mv 15),
  zo 6 (.mv 16),
  zo 7 (.mv 17)]
def p84o3 := [zo 19 (.mv 7),
  zo 20 (.prim (.bin .neq 29 false true) [19, kk 0]),
  zo 18 (.mv 20)]
def p84o4 := [zo 21 (.mv 7),
  zo 2 (.mv (.const (.slice none 0 0))),
  zo 3 (.mv (kk 0)),
  zo 4 (.mv 21)]
def p84o7 := [zo 23 (.mv 5),
  zo 24 (.prim (.bin .gtr 38 false true) [23, .const (.int .u64 200)]),
  zo 22 (.mv 24)]
def p84o8 := [zo 2 (.mv (.const (.slice none 0 0))),
  zo 3 (.mv (kk 0)),
  zo 4 (.mv (kk 13))]
def p84o17 := [zo 8 (.mv (.const (.slice none 0 0)))]
def p84o18 := [zo 25 (.mv 5),
  zo 26 (.mv (.const (.int .u64 0)))]
def p84o19 := [zo 27 (.prim (.bin .lss 38 false false) [26, 25])]
def p84o23 := [zo 29 (.mv 0),
  zo 30 (.mv 6),
  zo 31 (.prim (.slice 9 true false) [29, 30]),
  zo 32 (.call true [[]] 92 [31]),
  zo 28 (.mv 32),
  zo 33 (.ext 28 0),
  zo 34 (.ext 28 1),
  zo 35 (.ext 28 2),
  zo 9 (.alloc 55 (.agg { toList := [.int .i64 0, .int .i64 0, .int .i64 0, .int .i64 0, .string { data := { toList := [] } }, .int .i64 0, .string { data := { toList := [] } }, .int .i64 0, .string { data := { toList := [] } }, .int .i64 0, .string { data := { toList := [] } }] }) []),
  zs (.store 11 9 33),
  zo 10 (.mv 34),
  zo 11 (.mv 35)]
def p84o24 := [zo 36 (.mv 11),
  zo 37 (.prim (.bin .neq 29 false true) [36, kk 0])]
def p84o25 := [zo 38 (.mv 11),
  zo 2 (.mv (.const (.slice none 0 0))),
  zo 3 (.mv (kk 0)),
  zo 4 (.mv 38)]
def p84o31 : List POper := [⟨some 39, .mv 8, none, [(8, .obj 100008)]⟩,
  ⟨some 40, .lenS 39, none, [(39, .obj 100008)]⟩,
  ⟨some 41, .prim (.bin .gtr 3 false true) [40, kk 0], none, [(40, .imm)]⟩,
  ⟨some 42, .mv 41, none, [(41, .imm)]⟩,
  ⟨some 43, .faddr 0 9, some (42, true), [(9, .at_ 9 0)]⟩,
  ⟨some 44, .load false 1 43, some (42, true), [(43, .at_ 9 0)]⟩,
  ⟨some 45, .mv 8, some (42, true), [(8, .obj 100008)]⟩,
  ⟨some 46, .mv 8, some (42, true), [(8, .obj 100008)]⟩,
  ⟨some 47, .lenS 46, some (42, true), [(46, .obj 100008)]⟩,
  ⟨some 48, .prim (.bin .sub 3 false true) [47, kk 1], some (42, true), [(47, .imm)]⟩,
  ⟨some 49, .iaddrS 11 45 48, some (42, true), [(45, .obj 100008), (48, .imm)]⟩,
  ⟨some 50, .faddr 0 49, some (42, true), [(49, .obj 100008)]⟩,
  ⟨some 51, .load false 1 50, some (42, true), [(50, .obj 100008)]⟩,
  ⟨some 52, .prim (.bin .leq 3 false false) [44, 51], some (42, true), [(44, .imm), (51, .imm)]⟩,
  ⟨some 53, .pick 42 52 kf, none, [(42, .imm), (52, .imm)]⟩]
def p84o32 := [zo 2 (.mv (.const (.slice none 0 0))),
  zo 3 (.mv (kk 0)),
  zo 4 (.mv (kk 11))]
def p84o38 := [zo 54 (.mv 8),
  zo 55 (.load true 11 9),
  zo 56 (.bslice 55 11 [55]),
  zo 57 (.app 100008 55 11 120 54 56),
  zo 8 (.mv 57)]
def p84o39 := [zo 58 (.mv 6),
  zo 59 (.mv 10),
  zo 60 (.prim (.bin .add 3 false false) [58, 59]),
  zo 6 (.mv 60)]
def p84o45 := [zo 61 (.prim (.bin .add 38 false true) [26, .const (.int .u64 1)]),
  zo 26 (.mv 61)]
def p84o52 := [zo 62 (.mv 8),
  zo 63 (.mv 6),
  zo 2 (.mv 62),
  zo 3 (.mv 63),
  zo 4 (.mv (kk 0))]
def pc84_r : List PRes := [PRes.tmp 2 [(0, 11)], PRes.tmp 3 [], PRes.tmp 4 []]
def pc84 : PFunc := ⟨64, pc84_r, (sq (rg p84o1) (sq (rg p84o2) (sq (.block 0 (sq (rg p84o3) (.cond 18 (sq (rg p84o4) (rt)) (sq (rg p84o7) (.cond 22 (sq (rg p84o8) (rt)) (.skip)))))) (sq (rg p84o17) (sq (sq (rg p84o18) (.block 1 (.loop (sq (.region (some ([0, 6, 8, 25, 26], [9, 100008], [(false, 8, 0, 100008, 55, 11)])) false p84o19) (sq (.cond 27 (.skip) (.exit 1)) (sq (.block 2 (sq (rg p84o23) (sq (sq (rg p84o24) (.cond 37 (sq (rg p84o25) (rt)) (.skip))) (sq (sq (rh p84o31) (.cond 53 (sq (rg p84o32) (rt)) (.skip))) (sq (.region (some ([0, 6, 8, 9, 10, 25, 26], [9, 100008], [])) false p84o38) (rg p84o39)))))) (rg p84o45))))))) (sq (rg p84o52) (rt))))))), false⟩
def pc84_a : Ann := {
  kr := fun
    | 8 => some ([0, 6, 8, 25, 26], [9, 100008], [(false, 8, 0, 100008, 55, 11)])
    | 14 => some ([0, 6, 8, 9, 10, 25, 26], [9, 100008], [])
    | _ => none
  ka := fun
    | 57 => 100008
    | _ => 0
  kh := fun x => [(8, Hint.obj 100008), (9, .at_ 9 0), (39, .obj 100008), (40, .imm), (41, .imm), (42, .imm), (43, .at_ 9 0), (44, .imm), (45, .obj 100008), (46, .obj 100008), (47, .imm), (48, .imm), (49, .obj 100008), (50, .obj 100008), (51, .imm), (52, .imm)].lookup x
  ow := fun t => match t with
    | 64 => [(1, 5, 1)]
    | _ => []
  tc := fun t => match t with
    | 64 => true
    | _ => false }
theorem pc84_ok : compFn Try.prog pc84_a Try.f84 = some pc84 := by kernel_rfl


-- 71: (*vedette/note.reader).things
def p71o1 := [zo 2 (.mv (.const (.slice none 0 0)))]
def p71o2 := [zo 6 (.mv 0),
  zo 7 (.nilc 6),
  zo 8 (.faddr 2 7),
  zo 9 (.load false 1 8)]
def p71o3 := [zo 2 (.mv (.const (.slice none 0 0)))]
def p71o9 := [za 11 0 1000000 0 (.mv 0),
  za 12 11 1000000 0 (.nilc 11),
  za 13 12 1000000 0 (.faddr 0 12),
  za 14 13 1000000 0 (.load false 1 13),
  za 15 0 1000000 0 (.mv 0),
  za 16 15 1000000 0 (.nilc 15),
  za 17 16 1000000 0 (.faddr 1 16),
  za 18 17 1000000 1 (.load false 1 17),
  ⟨some 19, .prim (.slice 9 true false) [14, 18], none, [(14, .imm), (18, .imm)]⟩,
  ⟨some 20, .call false [[]] 84 [19], none, [(19, .imm)]⟩,
  zo 10 (.mv 20),
  zo 21 (.ext 10 0),
  zo 22 (.ext 10 1),
  zo 23 (.ext 10 2),
  ⟨some 3, .mv 21, none, [(21, .imm)]⟩,
  ⟨some 4, .mv 22, none, [(22, .imm)]⟩,
  ⟨some 5, .mv 23, none, [(23, .imm)]⟩]
def p71o10 := [zo 24 (.mv 0),
  zo 25 (.mv 4),
  zo 26 (.mv 5),
  zo 27 (.call true [[], [], []] 73 [24, 25, 26])]
def p71o11 := [zo 28 (.mv 3),
  zo 2 (.mv 28)]
def pc71_r : List PRes := [PRes.tmp 2 [(0, 11)]]
def pc71 : PFunc := ⟨29, pc71_r, (sq (rg p71o1) (sq (sq (rg p71o2) (.cond 9 (sq (rg p71o3) (rt)) (.skip))) (sq (rh p71o9) (sq (rg p71o10) (sq (rg p71o11) (rt)))))), false⟩
def pc71_a : Ann := {
  kr := fun
    | _ => none
  ka := fun
    | _ => 0
  kh := fun x => [(0, Hint.at_ 1000000 0), (11, .at_ 1000000 0), (12, .at_ 1000000 0), (13, .at_ 1000000 0), (14, .imm), (15, .at_ 1000000 0), (16, .at_ 1000000 0), (17, .at_ 1000000 1), (18, .imm), (19, .imm), (21, .imm), (22, .imm), (23, .imm)].lookup x
  ow := fun t => match t with
    | 64 => [(1, 5, 1)]
    | _ => []
  tc := fun t => match t with
    | 64 => true
    | _ => false }
theorem pc71_ok : compFn Try.prog pc71_a Try.f71 = some pc71 := by kernel_rfl


-- 85: vedette/cmd.Read$1
def p85o1 := [zo 2 (.mv (kk 0)),
  zo 3 (.mv (kk 0))]
def p85o2 := [zo 8 (.load false 1 0),
  zo 9 (.load false 1 1),
  zo 10 (.prim (.slice 9 true false) [8, 9]),
  zo 11 (.call true [[]] 86 [10]),
  zo 7 (.mv 11),
  zo 12 (.ext 7 0),
  zo 13 (.ext 7 1),
  zo 14 (.ext 7 2),
  zo 4 (.mv 12),
  zo 5 (.mv 13),
  zo 6 (.mv 14)]
def p85o3 := [zo 15 (.load false 1 1),
  zo 16 (.mv 5),
  zo 17 (.prim (.bin .add 3 false false) [15, 16]),
  zs (.store 1 1 17)]
def p85o4 := [zo 18 (.mv 4),
  zo 19 (.mv 6),
  zo 2 (.mv 18),
  zo 3 (.mv 19)]
def pc85_r : List PRes := [PRes.tmp 2 [], PRes.tmp 3 []]
def pc85 : PFunc := ⟨20, pc85_r, (sq (rg p85o1) (sq (rg p85o2) (sq (rg p85o3) (sq (rg p85o4) (rt))))), false⟩
def pc85_a : Ann := {
  kr := fun
    | _ => none
  ka := fun
    | _ => 0
  kh := fun
    | _ => none
  ow := fun t => match t with
    | 64 => [(1, 5, 1)]
    | _ => []
  tc := fun t => match t with
    | 64 => true
    | _ => false }
theorem pc85_ok : compFn Try.prog pc85_a Try.f85 = some pc85 := by kernel_rfl


-- 87: vedette/cmd.Read$2
def p87o1 := [zo 3 (.mv (kk 0))]
def p87o2 := [zo 8 (.mv 0),
  zo 9 (.lenS 8),
  zo 10 (.mv (kk 0))]
def p87o3 := [zo 11 (.prim (.bin .lss 3 false false) [10, 9])]
def p87o7 := [zo 12 (.iaddrS 1 8 10),
  zo 13 (.load false 1 12),
  zo 5 (.mv 13)]
def p87o8 := [zo 15 (.load false 1 1),
  zo 16 (.gcallv false false [300000, 300001, 300002, 300003, 300004, 300005, 300006, 300007, 1000003, 1000004] [] 15 []),
  zo 14 (.mv 16),
  zo 17 (.ext 14 0),
  zo 18 (.ext 14 1),
  zo 6 (.mv 17),
  zo 7 (.mv 18)]
def p87o9 := [zo 19 (.mv 7),
  zo 20 (.prim (.bin .neq 29 false true) [19, kk 0])]
def p87o10 := [zo 21 (.mv 7),
  zo 3 (.mv 21)]
def p87o16 := [zo 22 (.mv 5),
  zo 23 (.mv 6),
  zo 24 (.prim .max [23, .const (.int .i64 (-1000001))]),
  zo 25 (.prim .min [24, kk 1000001]),
  zo 26 (.nilc 22),
  zs (.store 1 26 25)]
def p87o21 := [zo 27 (.prim (.bin .add 3 false true) [10, kk 1]),
  zo 10 (.mv 27)]
def p87o28 := [zo 3 (.mv (kk 0))]
def pc87_r : List PRes := [PRes.tmp 3 []]
def pc87 : PFunc := ⟨28, pc87_r, (sq (rg p87o1) (sq (sq (rg p87o2) (.block 0 (.loop (sq (.region (some ([1, 8, 9, 10], [1000000, 1000001, 1000002, 1000003, 1000004], [])) false p87o3) (sq (.cond 11 (.skip) (.exit 0)) (sq (.block 1 (sq (rg p87o7) (sq (rg p87o8) (sq (sq (rg p87o9) (.cond 20 (sq (rg p87o10) (rt)) (.skip))) (rg p87o16))))) (rg p87o21))))))) (sq (rg p87o28) (rt)))), false⟩
def pc87_a : Ann := {
  kr := fun
    | 2 => some ([1, 8, 9, 10], [1000000, 1000001, 1000002, 1000003, 1000004], [])
    | _ => none
  ka := fun
    | _ => 0
  kh := fun
    | _ => none
  gv := fun d f => match d, f with
    | some 16, 15 => some (false, false, [300000, 300001, 300002, 300003, 300004, 300005, 300006, 300007, 1000003, 1000004])
    | _, _ => none
  ow := fun t => match t with
    | 64 => [(1, 5, 1)]
    | _ => []
  tc := fun t => match t with
    | 64 => true
    | _ => false }
theorem pc87_ok : compFn Try.prog pc87_a Try.f87 = some pc87 := by kernel_rfl


-- 72: vedette/cmd.Read
def p72o1 := [zo 1 (.box 9 0 []),
  zo 2 (.alloc 53 (.agg { toList := [.int .i64 0, .int .i64 0, .int .i64 0, .int .i64 0, .int .i64 0, .int .i64 0, .int .i64 0, .string { data := { toList := [] } }, .int .i64 0, .string { data := { toList := [] } }, .int .i64 0, .string { data := { toList := [] } }, .int .i64 0, .string { data := { toList := [] } }, .int .i64 0, .string { data := { toList := [] } }, .int .i64 0, .int .i64 0, .int .i64 0, .int .i64 0, .int .i64 0, .int .i64 0] }) []),
  zo 3 (.mv (kk 0)),
  zo 4 (.mv (kk 0))]
def p72o2 := [zo 5 (.alloc 53 (.agg { toList := [.int .i64 0, .int .i64 0, .int .i64 0, .int .i64 0, .int .i64 0, .int .i64 0, .int .i64 0, .string { data := { toList := [] } }, .int .i64 0, .string { data := { toList := [] } }, .int .i64 0, .string { data := { toList := [] } }, .int .i64 0, .string { data := { toList := [] } }, .int .i64 0, .string { data := { toList := [] } }, .int .i64 0, .int .i64 0, .int .i64 0, .int .i64 0, .int .i64 0, .int .i64 0] }) [])]
def p72o3 := [zo 6 (.alloc 3 (.int .i64 0) []),
  zs (.store 1 6 (kk 0))]
def p72o4 := [zo 18 (.mkfn 85 [1, 6]),
  zo 7 (.alloc 139 .nilFunc []),
  zs (.store 1 7 18)]
def p72o5 := [zo 19 (.mkfn 87 [7]),
  zo 8 (.mv 19)]
def p72o6 := [zo 20 (.mv 8),
  zo 21 (.faddr 0 5),
  zo 22 (.faddr 16 5),
  zo 23 (.faddr 17 5),
  zo 24 (.bptrs 1 [21, 22, 23]),
  zo 25 (.gcallv false false [1, 5, 6, 7, 24, 300000, 300001, 300002, 300003, 300004, 300005, 300006, 300007] [[(0, 1)]] 20 [24]),
  zo 9 (.mv 25)]
def p72o7 := [zo 26 (.mv 9),
  zo 27 (.prim (.bin .neq 29 false true) [26, kk 0])]
def p72o8 := [zo 28 (.build (.agg { toList := [.int .i64 0, .int .i64 0, .int .i64 0, .int .i64 0, .int .i64 0, .int .i64 0, .int .i64 0, .string { data := { toList := [] } }, .int .i64 0, .string { data := { toList := [] } }, .int .i64 0, .string { data := { toList := [] } }, .int .i64 0, .string { data := { toList := [] } }, .int .i64 0, .string { data := { toList := [] } }, .int .i64 0, .int .i64 0, .int .i64 0, .int .i64 0, .int .i64 0, .int .i64 0] }) []),
  zo 29 (.mv 9),
  zs (.store 22 2 28),
  zo 3 (.mv (kk 0)),
  zo 4 (.mv 29)]
def p72o15 := [zo 30 (.mv 8),
  zo 31 (.gcall false false [5, 300000, 300001, 300002, 300003, 300004, 300005, 300006, 300007] [[]] 47 [5]),
  zo 32 (.gcallv false false [1, 5, 6, 7, 300000, 300001, 300002, 300003, 300004, 300005, 300006, 300007] [[(0, 1)]] 30 [31]),
  zo 10 (.mv 32)]
def p72o16 := [zo 33 (.mv 10),
  zo 34 (.prim (.bin .neq 29 false true) [33, kk 0])]
def p72o17 := [zo 35 (.build (.agg { toList := [.int .i64 0, .int .i64 0, .int .i64 0, .int .i64 0, .int .i64 0, .int .i64 0, .int .i64 0, .string { data := { toList := [] } }, .int .i64 0, .string { data := { toList := [] } }, .int .i64 0, .string { data := { toList := [] } }, .int .i64 0, .string { data := { toList := [] } }, .int .i64 0, .string { data := { toList := [] } }, .int .i64 0, .int .i64 0, .int .i64 0, .int .i64 0, .int .i64 0, .int .i64 0] }) []),
  zo 36 (.mv 10),
  zs (.store 22 2 35),
  zo 3 (.mv (kk 0)),
  zo 4 (.mv 36)]
def p72o24 := [zo 37 (.gcall false false [5, 300000, 300001, 300002, 300003, 300004, 300005, 300006, 300007] [[]] 48 [5]),
  zo 38 (.lenS 37),
  zo 39 (.mv (kk 0))]
def p72o25 := [zo 40 (.prim (.bin .lss 3 false false) [39, 38])]
def p72o29 := [zo 41 (.iaddrS 1 37 39),
  zo 42 (.load false 1 41),
  zo 12 (.mv 42)]
def p72o30 := [zo 44 (.load false 1 1),
  zo 45 (.load false 1 6),
  zo 46 (.prim (.slice 9 true false) [44, 45]),
  zo 47 (.call true [[], []] 69 [46, kk 12]),
  zo 43 (.mv 47),
  zo 48 (.ext 43 0),
  zo 49 (.ext 43 1),
  zo 50 (.ext 43 2),
  zo 13 (.mv 48),
  zo 14 (.mv 49),
  zo 15 (.mv 50)]
def p72o31 := [zo 51 (.load false 1 6),
  zo 52 (.mv 14),
  zo 53 (.prim (.bin .add 3 false false) [51, 52]),
  zs (.store 1 6 53)]
def p72o32 := [zo 54 (.mv 15),
  zo 55 (.prim (.bin .eql 29 false true) [54, kk 0])]
def p72o33 := [zo 56 (.mv 12),
  zo 57 (.mv 13),
  zo 58 (.nilc 56),
  zo 59 (.faddr 1 58),
  zs (.store 1 59 57)]
def p72o34 := [zo 61 (.mv 12),
  zo 62 (.load false 1 7),
  zo 63 (.gcallv false false [1, 6, 300000, 300001, 300002, 300003, 300004, 300005, 300006, 300007] [] 62 []),
  zo 60 (.mv 63),
  zo 64 (.ext 60 0),
  zo 65 (.ext 60 1),
  zo 66 (.nilc 61),
  zo 67 (.faddr 0 66),
  zs (.store 1 67 64),
  zo 15 (.mv 65)]
def p72o39 := [zo 68 (.mv 15),
  zo 69 (.prim (.bin .neq 29 false true) [68, kk 0])]
def p72o40 := [zo 70 (.build (.agg { toList := [.int .i64 0, .int .i64 0, .int .i64 0, .int .i64 0, .int .i64 0, .int .i64 0, .int .i64 0, .string { data := { toList := [] } }, .int .i64 0, .string { data := { toList := [] } }, .int .i64 0, .string { data := { toList := [] } }, .int .i64 0, .string { data := { toList := [] } }, .int .i64 0, .string { data := { toList := [] } }, .int .i64 0, .int .i64 0, .int .i64 0, .int .i64 0, .int .i64 0, .int .i64 0] }) []),
  zo 71 (.mv 15),
  zs (.store 22 2 70),
  zo 3 (.mv (kk 0)),
  zo 4 (.mv 71)]
def p72o51 := [zo 72 (.prim (.bin .add 3 false true) [39, kk 1]),
  zo 39 (.mv 72)]
def p72o58 := [zo 74 (.load true 22 5),
  zo 75 (.call true [[]] 21 [74]),
  zo 73 (.mv 75),
  zo 76 (.ext 73 0),
  zo 77 (.ext 73 1),
  zo 16 (.mv 76),
  zo 17 (.mv 77)]
def p72o59 := [zo 78 (.mv 17),
  zo 79 (.prim (.bin .neq 29 false true) [78, kk 0]),
  zo 80 (.mv 79),
  zf 81 80 (.mv 16),
  zf 82 80 (.load false 1 1),
  zf 83 80 (.load false 1 6),
  zf 84 80 (.prim (.slice 9 false true) [82, 83]),
  zf 85 80 (.prim (.bin .neq 9 false false) [81, 84]),
  zo 86 (.pick 80 kt 85)]
def p72o60 := [zo 87 (.build (.agg { toList := [.int .i64 0, .int .i64 0, .int .i64 0, .int .i64 0, .int .i64 0, .int .i64 0, .int .i64 0, .string { data := { toList := [] } }, .int .i64 0, .string { data := { toList := [] } }, .int .i64 0, .string { data := { toList := [] } }, .int .i64 0, .string { data := { toList := [] } }, .int .i64 0, .string { data := { toList := [] } }, .int .i64 0, .int .i64 0, .int .i64 0, .int .i64 0, .int .i64 0, .int .i64 0] }) []),
  zs (.store 22 2 87),
  zo 3 (.mv (kk 0)),
  zo 4 (.mv (kk 11))]
def p72o67 := [za 88 5 5 0 (.load true 22 5),
  za 89 6 6 0 (.load false 1 6),
  zn (.store 22 2 88) [(2, .at_ 2 0), (88, .imm)],
  ⟨some 3, .mv 89, none, [(89, .imm)]⟩,
  zo 4 (.mv (kk 0))]
def pc72_r : List PRes := [PRes.cell 2 true 22 [], PRes.tmp 3 [], PRes.tmp 4 []]
def pc72 : PFunc := ⟨90, pc72_r, (sq (rg p72o1) (sq (rg p72o2) (sq (rg p72o3) (sq (rg p72o4) (sq (rg p72o5) (sq (sq (rg p72o6) (sq (rg p72o7) (.cond 27 (sq (rg p72o8) (rt)) (.skip)))) (sq (sq (rg p72o15) (sq (.region (some ([1, 2, 5, 6, 7, 10], [1, 2, 5, 6, 7, 24, 300000], [])) false p72o16) (.cond 34 (sq (rg p72o17) (rt)) (.skip)))) (sq (sq (rg p72o24) (.block 0 (.loop (sq (.region (some ([1, 2, 5, 6, 7, 37, 38, 39], [1, 2, 5, 6, 7, 300000], [])) false p72o25) (sq (.cond 40 (.skip) (.exit 0)) (sq (.block 1 (sq (rg p72o29) (sq (rg p72o30) (sq (rg p72o31) (sq (sq (rg p72o32) (.cond 55 (sq (rg p72o33) (rg p72o34)) (.skip))) (sq (.region (some ([1, 2, 5, 6, 7, 15, 37, 38, 39], [1, 2, 5, 6, 7, 300000], [])) false p72o39) (.cond 69 (sq (rg p72o40) (rt)) (.skip)))))))) (rg p72o51))))))) (sq (sq (.region (some ([1, 2, 5, 6], [1, 2, 5, 6, 7, 300000], [])) false p72o58) (sq (rg p72o59) (.cond 86 (sq (rg p72o60) (rt)) (.skip)))) (sq (rh p72o67) (rt))))))))))), false⟩
def pc72_a : Ann := {
  kr := fun
    | 9 => some ([1, 2, 5, 6, 7, 10], [1, 2, 5, 6, 7, 24, 300000], [])
    | 12 => some ([1, 2, 5, 6, 7, 37, 38, 39], [1, 2, 5, 6, 7, 300000], [])
    | 19 => some ([1, 2, 5, 6, 7, 15, 37, 38, 39], [1, 2, 5, 6, 7, 300000], [])
    | 22 => some ([1, 2, 5, 6], [1, 2, 5, 6, 7, 300000], [])
    | _ => none
  ka := fun
    | _ => 0
  kh := fun x => [(2, Hint.at_ 2 0), (5, .at_ 5 0), (6, .at_ 6 0), (88, .imm), (89, .imm)].lookup x
  gf := fun d f => match d, f with
    | some 31, 47 => some (false, false, [5, 300000, 300001, 300002, 300003, 300004, 300005, 300006, 300007])
    | some 37, 48 => some (false, false, [5, 300000, 300001, 300002, 300003, 300004, 300005, 300006, 300007])
    | _, _ => none
  gv := fun d f => match d, f with
    | some 25, 20 => some (false, false, [1, 5, 6, 7, 24, 300000, 300001, 300002, 300003, 300004, 300005, 300006, 300007])
    | some 32, 30 => some (false, false, [1, 5, 6, 7, 300000, 300001, 300002, 300003, 300004, 300005, 300006, 300007])
    | some 63, 62 => some (false, false, [1, 6, 300000, 300001, 300002, 300003, 300004, 300005, 300006, 300007])
    | _, _ => none
  ow := fun t => match t with
    | 64 => [(1, 5, 1)]
    | _ => []
  tc := fun t => match t with
    | 64 => true
    | _ => false }
theorem pc72_ok : compFn Try.prog pc72_a Try.f72 = some pc72 := by kernel_rfl


-- 42: (*vedette/note.reader).note
def p42o1 := [zo 2 (.alloc 26 (.agg { toList := [.int .i64 0, .int .i64 0, .slice none 0 0, .slice none 0 0, .slice none 0 0, .slice none 0 0] }) [])]
def p42o2 := [zo 7 (.mv 0),
  zo 8 (.call true [[], []] 70 [7, .const (.int .u64 4)]),
  zo 9 (.mv 0),
  zo 10 (.call true [[], []] 70 [9, .const (.int .u64 1073741824)]),
  zo 11 (.build (.agg { toList := [.int .i64 0, .int .i64 0, .slice none 0 0, .slice none 0 0, .slice none 0 0, .slice none 0 0] }) [(0, 1, .tmp 8), (1, 1, .tmp 10)]),
  zo 3 (.alloc 26 (.agg { toList := [.int .i64 0, .int .i64 0, .slice none 0 0, .slice none 0 0, .slice none 0 0, .slice none 0 0] }) []),
  zs (.store 6 3 11)]
def p42o3 := [zo 12 (.mv 0),
  zo 13 (.call true [[]] 71 [12]),
  zo 14 (.mv 0),
  zo 15 (.call true [[]] 71 [14]),
  zo 16 (.faddr 2 3),
  zs (.store 1 16 13),
  zo 17 (.faddr 4 3),
  zs (.store 1 17 15)]
def p42o5 := [zo 18 (.mv 0),
  zo 19 (.call true [[], []] 70 [18, .const (.int .u64 16)]),
  zo 20 (.mv (kk 0))]
def p42o6 := [zo 21 (.prim (.bin .lss 3 false false) [20, 19])]
def p42o10 := [zo 22 (.mv 0),
  zo 23 (.nilc 22),
  zo 24 (.faddr 2 23),
  zo 25 (.load false 1 24)]
def p42o15 := [za 26 3 3 0 (.faddr 3 3),
  za 27 26 3 3 (.load false 1 26),
  za 28 0 1000000 0 (.mv 0),
  za 29 28 1000000 0 (.call true [[], []] 70 [28, .const (.int .u64 16)]),
  za 30 0 1000000 0 (.mv 0),
  za 31 30 1000000 0 (.call true [[], []] 70 [30, .const (.int .u64 4)]),
  ⟨some 32, .build (.agg { toList := [.int .i64 0, .int .i64 0] }) [(0, 1, .tmp 29), (1, 1, .tmp 31)], none, [(29, .imm), (31, .imm)]⟩,
  ⟨some 33, .bslice 44 2 [32], none, [(32, .imm)]⟩,
  ⟨some 34, .app 100027 44 2 16 27 33, none, [(27, .obj 100027), (33, .imm)]⟩,
  za 35 3 3 0 (.faddr 3 3),
  zn (.store 1 35 34) [(35, .at_ 3 3), (34, .obj 100027)]]
def p42o18 := [zo 36 (.prim (.bin .add 3 false true) [20, kk 1]),
  zo 20 (.mv 36)]
def p42o26 := [zo 37 (.mv 0),
  zo 38 (.call true [[], []] 70 [37, .const (.int .u64 20)]),
  zo 39 (.mv (kk 0))]
def p42o27 := [zo 40 (.prim (.bin .lss 3 false false) [39, 38])]
def p42o31 := [zo 41 (.mv 0),
  zo 42 (.nilc 41),
  zo 43 (.faddr 2 42),
  zo 44 (.load false 1 43)]
def p42o36 := [za 46 0 1000000 0 (.mv 0),
  za 47 46 1000000 0 (.nilc 46),
  za 48 47 1000000 0 (.faddr 0 47),
  za 49 48 1000000 0 (.load false 1 48),
  za 50 0 1000000 0 (.mv 0),
  za 51 50 1000000 0 (.nilc 50),
  za 52 51 1000000 0 (.faddr 1 51),
  za 53 52 1000000 1 (.load false 1 52),
  ⟨some 54, .prim (.slice 9 true false) [49, 53], none, [(49, .imm), (53, .imm)]⟩,
  ⟨some 55, .call false [[]] 72 [54], none, [(54, .imm)]⟩,
  zo 45 (.mv 55),
  zo 56 (.ext 45 0),
  zo 57 (.ext 45 1),
  zo 58 (.ext 45 2),
  zo 4 (.alloc 53 (.agg { toList := [.int .i64 0, .int .i64 0, .int .i64 0, .int .i64 0, .int .i64 0, .int .i64 0, .int .i64 0, .string { data := { toList := [] } }, .int .i64 0, .string { data := { toList := [] } }, .int .i64 0, .string { data := { toList := [] } }, .int .i64 0, .string { data := { toList := [] } }, .int .i64 0, .string { data := { toList := [] } }, .int .i64 0, .int .i64 0, .int .i64 0, .int .i64 0, .int .i64 0, .int .i64 0] }) []),
  zn (.store 22 4 56) [(4, .at_ 4 0), (56, .imm)],
  ⟨some 5, .mv 57, none, [(57, .imm)]⟩,
  ⟨some 6, .mv 58, none, [(58, .imm)]⟩]
def p42o37 := [zo 59 (.mv 0),
  zo 60 (.mv 5),
  zo 61 (.mv 6),
  zo 62 (.call true [[], [], []] 73 [59, 60, 61])]
def p42o38 := [zo 63 (.faddr 5 3),
  zo 64 (.load false 1 63),
  zo 65 (.load true 22 4),
  zo 66 (.bslice 53 22 [65]),
  zo 67 (.app 100064 53 22 216 64 66),
  zo 68 (.faddr 5 3),
  zs (.store 1 68 67)]
def p42o43 := [zo 69 (.prim (.bin .add 3 false true) [39, kk 1]),
  zo 39 (.mv 69)]
def p42o50 := [zo 70 (.load true 6 3),
  zs (.store 6 2 70)]
def pc42_r : List PRes := [PRes.cell 2 true 6 [(2, 11), (3, 2), (4, 11), (5, 22)]]
def pc42 : PFunc := ⟨71, pc42_r, (sq (rg p42o1) (.scope (sq (rg p42o2) (sq (rg p42o3) (sq (.label) (sq (sq (rg p42o5) (.block 0 (.loop (sq (.region (some ([0, 2, 3, 19, 20], [2, 3, 100027, 1000000], [(true, 3, 3, 100027, 44, 2)])) false p42o6) (sq (.cond 21 (.skip) (.exit 0)) (sq (.block 1 (sq (sq (rg p42o10) (.cond 25 (.exit 0) (.skip))) (rh p42o15))) (rg p42o18))))))) (sq (.label) (sq (sq (rg p42o26) (.block 2 (.loop (sq (.region (some ([0, 2, 3, 38, 39], [2, 3, 4, 100027, 100064, 1000000], [(true, 3, 5, 100064, 53, 22)])) false p42o27) (sq (.cond 40 (.skip) (.exit 2)) (sq (.block 3 (sq (sq (rg p42o31) (.cond 44 (.exit 2) (.skip))) (sq (rh p42o36) (sq (rg p42o37) (rg p42o38))))) (rg p42o43))))))) (sq (rg p42o50) (rt)))))))))), false⟩
def pc42_a : Ann := {
  kr := fun
    | 4 => some ([0, 2, 3, 19, 20], [2, 3, 100027, 1000000], [(true, 3, 3, 100027, 44, 2)])
    | 9 => some ([0, 2, 3, 38, 39], [2, 3, 4, 100027, 100064, 1000000], [(true, 3, 5, 100064, 53, 22)])
    | _ => none
  ka := fun
    | 34 => 100027
    | 67 => 100064
    | _ => 0
  kh := fun x => [(0, Hint.at_ 1000000 0), (3, .at_ 3 0), (4, .at_ 4 0), (26, .at_ 3 3), (27, .obj 100027), (28, .at_ 1000000 0), (29, .imm), (30, .at_ 1000000 0), (31, .imm), (32, .imm), (33, .imm), (34, .obj 100027), (35, .at_ 3 3), (46, .at_ 1000000 0), (47, .at_ 1000000 0), (48, .at_ 1000000 0), (49, .imm), (50, .at_ 1000000 0), (51, .at_ 1000000 0), (52, .at_ 1000000 1), (53, .imm), (54, .imm), (56, .imm), (57, .imm), (58, .imm)].lookup x
  ow := fun t => match t with
    | 64 => [(1, 5, 1)]
    | _ => []
  tc := fun t => match t with
    | 64 => true
    | _ => false }
theorem pc42_ok : compFn Try.prog pc42_a Try.f42 = some pc42 := by kernel_rfl


-- 14: vedette/note.Read
def p14o1 := [zo 2 (.alloc 26 (.agg { toList := [.int .i64 0, .int .i64 0, .slice none 0 0, .slice none 0 0, .slice none 0 0, .slice none 0 0] }) []),
  zo 3 (.mv (kk 0)),
  zo 4 (.mv (kk 0))]
def p14o2 := [zo 13 (.mv 0),
  zo 14 (.call true [[]] 41 [13]),
  zo 12 (.mv 14),
  zo 15 (.ext 12 0),
  zo 16 (.ext 12 1),
  zo 17 (.ext 12 2),
  zo 5 (.mv 15),
  zo 6 (.mv 16),
  zo 7 (.mv 17)]
def p14o3 := [zo 18 (.mv 7),
  zo 19 (.prim (.bin .neq 29 false true) [18, kk 0])]
def p14o4 := [zo 20 (.build (.agg { toList := [.int .i64 0, .int .i64 0, .slice none 0 0, .slice none 0 0, .slice none 0 0, .slice none 0 0] }) []),
  zo 21 (.mv 7),
  zs (.store 6 2 20),
  zo 3 (.mv (kk 0)),
  zo 4 (.mv 21)]
def p14o10 := [zo 22 (.mv 5),
  zo 23 (.build (.agg { toList := [.string { data := { toList := [] } }, .int .i64 0, .bool false] }) [(0, 1, .tmp 22)]),
  zo 24 (.box 88 23 []),
  zo 8 (.mv 24)]
def p14o11 := [zo 25 (.mv 8),
  zo 26 (.call true [[]] 42 [25]),
  zo 9 (.alloc 26 (.agg { toList := [.int .i64 0, .int .i64 0, .slice none 0 0, .slice none 0 0, .slice none 0 0, .slice none 0 0] }) []),
  zs (.store 6 9 26)]
def p14o12 := [zo 28 (.load true 6 9),
  zo 29 (.call true [[(2, 11), (3, 2), (4, 11), (5, 22)]] 9 [28]),
  zo 27 (.mv 29),
  zo 30 (.ext 27 0),
  zo 31 (.ext 27 1),
  zo 10 (.mv 30),
  zo 11 (.mv 31)]
def p14o13 := [zo 32 (.mv 8),
  zo 33 (.nilc 32),
  zo 34 (.faddr 2 33),
  zo 35 (.load false 1 34),
  zo 36 (.mv 35),
  zf 37 36 (.mv 11),
  zf 38 36 (.prim (.bin .neq 29 false true) [37, kk 0]),
  zo 39 (.pick 36 kt 38),
  zo 40 (.mv 39),
  zf 41 40 (.mv 10),
  zf 42 40 (.mv 0),
  zf 43 40 (.mv 6),
  zf 44 40 (.prim (.slice 9 false true) [42, 43]),
  zf 45 40 (.prim (.bin .neq 9 false false) [41, 44]),
  zo 46 (.pick 40 kt 45)]
def p14o14 := [zo 47 (.build (.agg { toList := [.int .i64 0, .int .i64 0, .slice none 0 0, .slice none 0 0, .slice none 0 0, .slice none 0 0] }) []),
  zs (.store 6 2 47),
  zo 3 (.mv (kk 0)),
  zo 4 (.mv (kk 11))]
def p14o21 := [zo 48 (.load true 6 9),
  zo 49 (.mv 6),
  zs (.store 6 2 48),
  zo 3 (.mv 49),
  zo 4 (.mv (kk 0))]
def pc14_r : List PRes := [PRes.cell 2 true 6 [(2, 11), (3, 2), (4, 11), (5, 22)], PRes.tmp 3 [], PRes.tmp 4 []]
def pc14 : PFunc := ⟨50, pc14_r, (sq (rg p14o1) (sq (rg p14o2) (sq (sq (rg p14o3) (.cond 19 (sq (rg p14o4) (rt)) (.skip))) (sq (rg p14o10) (sq (rg p14o11) (sq (sq (rg p14o12) (sq (rg p14o13) (.cond 46 (sq (rg p14o14) (rt)) (.skip)))) (sq (rg p14o21) (rt)))))))), false⟩
def pc14_a : Ann := {
  kr := fun
    | _ => none
  ka := fun
    | _ => 0
  kh := fun
    | _ => none
  ow := fun t => match t with
    | 64 => [(1, 5, 1)]
    | _ => []
  tc := fun t => match t with
    | 64 => true
    | _ => false }
theorem pc14_ok : compFn Try.prog pc14_a Try.f14 = some pc14 := by kernel_rfl


-- 7: vedette/vedettelaw17.known
def p7o1 := [zo 0 (.mv kf)]
def p7o2 := [zo 12 (.build (.agg { toList := [.int .i64 0, .int .i64 0] }) [(0, 1, kk 1), (1, 1, kk 0)]),
  zo 13 (.bslice 44 2 [12]),
  zo 14 (.build (.agg { toList := [.int .i64 0, .int .i64 0] }) [(0, 1, kk 16)]),
  zo 15 (.build (.agg { toList := [.int .i64 0, .int .i64 0, .int .i64 0, .int .i64 0, .string { data := { toList := [] } }, .int .i64 0, .string { data := { toList := [] } }, .int .i64 0, .string { data := { toList := [] } }, .int .i64 0, .string { data := { toList := [] } }] }) [(0, 1, kk 5), (1, 2, .tmp 14)]),
  zo 16 (.bslice 55 11 [15]),
  zo 17 (.build (.agg { toList := [.int .i64 0, .int .i64 0, .slice none 0 0, .slice none 0 0, .slice none 0 0, .slice none 0 0] }) [(0, 1, kk 1), (1, 1, kk 3), (3, 1, .tmp 13), (4, 1, .tmp 16)]),
  zo 1 (.alloc 26 (.agg { toList := [.int .i64 0, .int .i64 0, .slice none 0 0, .slice none 0 0, .slice none 0 0, .slice none 0 0] }) []),
  zs (.store 6 1 17)]
def p7o3 := [zo 19 (.load true 6 1),
  zo 20 (.call true [[(2, 11), (3, 2), (4, 11), (5, 22)]] 9 [19]),
  zo 18 (.mv 20),
  zo 21 (.ext 18 0),
  zo 22 (.ext 18 1),
  zo 2 (.mv 21),
  zo 3 (.mv 22)]
def p7o4 := [zo 24 (.mv 2),
  zo 25 (.prim (.bin .add 9 false true) [24, .const (.string { data := { toList := [113] } })]),
  zo 26 (.call true [[]] 14 [25]),
  zo 23 (.mv 26),
  zo 27 (.ext 23 0),
  zo 28 (.ext 23 1),
  zo 29 (.ext 23 2),
  zo 4 (.alloc 26 (.agg { toList := [.int .i64 0, .int .i64 0, .slice none 0 0, .slice none 0 0, .slice none 0 0, .slice none 0 0] }) []),
  zs (.store 6 4 27),
  zo 5 (.mv 28),
  zo 6 (.mv 29)]
def p7o5 := [zo 31 (.build (.agg { toList := [.int .i64 0, .int .i64 0, .slice none 0 0, .slice none 0 0, .slice none 0 0, .slice none 0 0] }) [(1, 1, .const (.int .i64 (-1)))]),
  zo 32 (.call true [[(2, 11), (3, 2), (4, 11), (5, 22)]] 9 [31]),
  zo 30 (.mv 32),
  zo 33 (.ext 30 0),
  zo 34 (.ext 30 1),
  zo 7 (.mv 33),
  zo 8 (.mv 34)]
def p7o6 := [zo 36 (.call true [[]] 14 [.const (.string { data := { toList := [] } })]),
  zo 35 (.mv 36),
  zo 37 (.ext 35 0),
  zo 38 (.ext 35 1),
  zo 39 (.ext 35 2),
  zo 9 (.alloc 26 (.agg { toList := [.int .i64 0, .int .i64 0, .slice none 0 0, .slice none 0 0, .slice none 0 0, .slice none 0 0] }) []),
  zs (.store 6 9 37),
  zo 10 (.mv 38),
  zo 11 (.mv 39)]
def p7o7 := [zo 40 (.mv 3),
  zo 41 (.prim (.bin .eql 29 false true) [40, kk 0]),
  zo 42 (.mv 41),
  zt 43 42 (.mv 6),
  zt 44 42 (.prim (.bin .eql 29 false true) [43, kk 0]),
  zo 45 (.pick 42 44 kf),
  zo 46 (.mv 45),
  zt 47 46 (.mv 5),
  zt 48 46 (.mv 2),
  zt 49 46 (.prim (.len 9) [48]),
  zt 50 46 (.prim (.bin .eql 3 false false) [47, 49]),
  zo 51 (.pick 46 50 kf),
  zo 52 (.mv 51),
  zt 53 52 (.load true 6 1),
  zt 54 52 (.load true 6 4),
  zt 55 52 (.call true [[(2, 11), (3, 2), (4, 11), (5, 22)], [(2, 11), (3, 2), (4, 11), (5, 22)]] 13 [53, 54]),
  zo 56 (.pick 52 55 kf),
  zo 57 (.mv 56),
  zt 58 57 (.mv 8),
  zt 59 57 (.prim (.bin .eql 29 false true) [58, kk 11]),
  zo 60 (.pick 57 59 kf),
  zo 61 (.mv 60),
  zt 62 61 (.mv 11),
  zt 63 61 (.prim (.bin .eql 29 false true) [62, kk 10]),
  zo 64 (.pick 61 63 kf),
  zo 65 (.mv 64),
  zt 66 65 (.load true 6 1),
  zt 67 65 (.call true [[(2, 11), (3, 2), (4, 11), (5, 22)], []] 11 [66, kk 2]),
  zo 68 (.pick 65 67 kf),
  zo 69 (.mv 68),
  zt 70 69 (.load true 6 1),
  zt 71 69 (.call true [[(2, 11), (3, 2), (4, 11), (5, 22)], []] 11 [70, kk 1]),
  zt 72 69 (.prim (.un .not) [71]),
  zo 73 (.pick 69 72 kf),
  zo 74 (.mv 73),
  zt 75 74 (.load true 6 1),
  zt 76 74 (.load true 6 4),
  zt 77 74 (.call true [[(2, 11), (3, 2), (4, 11), (5, 22)], [(2, 11), (3, 2), (4, 11), (5, 22)]] 12 [75, 76]),
  zo 78 (.pick 74 77 kf),
  zo 0 (.mv 78)]
def pc7_r : List PRes := [PRes.tmp 0 []]
def pc7 : PFunc := ⟨79, pc7_r, (sq (rg p7o1) (sq (rg p7o2) (sq (rg p7o3) (sq (rg p7o4) (sq (rg p7o5) (sq (rg p7o6) (sq (rg p7o7) (rt)))))))), false⟩
def pc7_a : Ann := {
  kr := fun
    | _ => none
  ka := fun
    | _ => 0
  kh := fun
    | _ => none
  ow := fun t => match t with
    | 64 => [(1, 5, 1)]
    | _ => []
  tc := fun t => match t with
    | 64 => true
    | _ => false }
theorem pc7_ok : compFn Try.prog pc7_a Try.f7 = some pc7 := by kernel_rfl


-- 6: vedette/vedettelaw17.NoteCells
def p6o1 := [zo 8 (.mv kf)]
def p6o2 := [zo 19 (.call true [] 7 []),
  zo 20 (.prim (.un .not) [19])]
def p6o3 := [zo 8 (.mv kf)]
def p6o9 := [zo 21 (.mv 0),
  zo 22 (.prim (.bin .rem 5 false true) [21, .const (.int .u8 16)]),
  zo 23 (.prim (.conv 5 3) [22]),
  zo 24 (.mv 1),
  zo 25 (.prim (.bin .rem 5 false true) [24, .const (.int .u8 16)]),
  zo 26 (.prim (.conv 5 3) [25]),
  zo 9 (.mv 23),
  zo 10 (.mv 26)]
def p6o10 := [zo 27 (.mv 2),
  zo 28 (.prim (.bin .rem 5 false true) [27, .const (.int .u8 64)]),
  zo 29 (.prim (.conv 5 3) [28]),
  zo 30 (.mv 3),
  zo 31 (.prim (.bin .rem 5 false true) [30, .const (.int .u8 64)]),
  zo 32 (.prim (.conv 5 3) [31]),
  zo 33 (.build (.agg { toList := [.int .i64 0, .int .i64 0] }) [(0, 1, .tmp 29), (1, 1, .tmp 32)]),
  zo 34 (.build (.agg { toList := [.int .i64 0, .int .i64 0, .int .i64 0, .int .i64 0, .string { data := { toList := [] } }, .int .i64 0, .string { data := { toList := [] } }, .int .i64 0, .string { data := { toList := [] } }, .int .i64 0, .string { data := { toList := [] } }] }) [(0, 1, kk 5), (1, 2, .tmp 33)]),
  zo 11 (.alloc 55 (.agg { toList := [.int .i64 0, .int .i64 0, .int .i64 0, .int .i64 0, .string { data := { toList := [] } }, .int .i64 0, .string { data := { toList := [] } }, .int .i64 0, .string { data := { toList := [] } }, .int .i64 0, .string { data := { toList := [] } }] }) []),
  zs (.store 11 11 34)]
def p6o11 := [zo 35 (.mv 9),
  zo 36 (.mv 10),
  zo 37 (.prim .min [35, 36]),
  zo 38 (.build (.agg { toList := [.int .i64 0, .int .i64 0] }) [(0, 1, .tmp 37), (1, 1, kk 1)]),
  zo 39 (.bown 44 2 [38]),
  zo 40 (.build (.agg { toList := [.int .i64 0, .int .i64 0, .slice none 0 0, .slice none 0 0, .slice none 0 0, .slice none 0 0] }) [(0, 1, kk 0), (1, 1, kk 2), (3, 1, .tmp 39)]),
  zo 12 (.alloc 26 (.agg { toList := [.int .i64 0, .int .i64 0, .slice none 0 0, .slice none 0 0, .slice none 0 0, .slice none 0 0] }) []),
  zs (.store 6 12 40)]
def p6o12 := [zo 41 (.mv 9),
  zo 42 (.mv 10),
  zo 43 (.prim (.bin .neq 3 false false) [41, 42])]
def p6o13 := [zo 44 (.faddr 3 12),
  zo 45 (.load false 1 44),
  zo 46 (.mv 9),
  zo 47 (.mv 10),
  zo 48 (.prim .max [46, 47]),
  zo 49 (.build (.agg { toList := [.int .i64 0, .int .i64 0] }) [(0, 1, .tmp 48), (1, 1, kk 1)]),
  zo 50 (.bslice 44 2 [49]),
  zo 51 (.app 100045 44 2 16 45 50),
  zo 52 (.faddr 3 12),
  zs (.store 1 52 51)]
def p6o17 := [za 53 12 12 0 (.load true 6 12),
  za 54 12 12 0 (.load true 6 12),
  zo 13 (.alloc 26 (.agg { toList := [.int .i64 0, .int .i64 0, .slice none 0 0, .slice none 0 0, .slice none 0 0, .slice none 0 0] }) []),
  zo 14 (.alloc 26 (.agg { toList := [.int .i64 0, .int .i64 0, .slice none 0 0, .slice none 0 0, .slice none 0 0, .slice none 0 0] }) []),
  zn (.store 6 13 53) [(13, .at_ 13 0)],
  zn (.store 6 14 54) [(14, .at_ 14 0)]]
def p6o18 := [zo 55 (.load true 11 11),
  zo 56 (.bslice 55 11 [55]),
  zo 57 (.faddr 4 13),
  zs (.store 1 57 56)]
def p6o19 := [zo 58 (.load true 11 11),
  zo 59 (.bslice 55 11 [58]),
  zo 60 (.faddr 2 14),
  zs (.store 1 60 59)]
def p6o20 := [za 61 11 11 0 (.faddr 1 11),
  za 62 61 11 1 (.faddr 0 61),
  za 63 62 11 1 (.load false 1 62),
  ⟨some 64, .prim (.bin .quo 3 false true) [63, kk 16], none, [(63, .imm)]⟩,
  za 65 11 11 0 (.faddr 1 11),
  za 66 65 11 1 (.faddr 1 65),
  za 67 66 11 2 (.load false 1 66),
  ⟨some 68, .prim (.bin .quo 3 false true) [67, kk 16], none, [(67, .imm)]⟩,
  ⟨some 15, .mv 64, none, [(64, .imm)]⟩,
  ⟨some 16, .mv 68, none, [(68, .imm)]⟩]
def p6o21 := [zo 69 (.mv 15),
  zo 70 (.prim (.bin .and 3 false true) [69, kk 1]),
  zo 71 (.mv 16),
  zo 72 (.prim (.bin .and 3 false true) [71, kk 1]),
  zo 73 (.prim (.bin .shl 3 false true) [72, .const (.int .u64 1)]),
  zo 74 (.prim (.bin .or 3 false false) [70, 73]),
  zo 75 (.mv 15),
  zo 76 (.prim (.bin .and 3 false true) [75, kk 2]),
  zo 77 (.prim (.bin .shl 3 false true) [76, .const (.int .u64 1)]),
  zo 78 (.prim (.bin .or 3 false false) [74, 77]),
  zo 79 (.mv 16),
  zo 80 (.prim (.bin .and 3 false true) [79, kk 2]),
  zo 81 (.prim (.bin .shl 3 false true) [80, .const (.int .u64 2)]),
  zo 82 (.prim (.bin .or 3 false false) [78, 81]),
  zo 17 (.mv 82)]
def p6o22 := [zo 83 (.mv 17),
  zo 84 (.mv 9),
  zo 85 (.prim (.bin .eql 3 false false) [83, 84]),
  zo 86 (.mv 85),
  zf 87 86 (.mv 17),
  zf 88 86 (.mv 10),
  zf 89 86 (.prim (.bin .eql 3 false false) [87, 88]),
  zo 90 (.pick 86 kt 89),
  zo 18 (.mv 90)]
def p6o23 := [zo 91 (.load true 6 12),
  zo 92 (.gcall false false [39, 300000, 300001, 300002, 300003, 300004, 300005, 300006, 300007] [[(2, 11), (3, 2), (4, 11), (5, 22)], []] 11 [91, kk 2]),
  zo 93 (.mv 92),
  zt 94 93 (.load true 6 13),
  zt 95 93 (.gcall false false [39, 300000, 300001, 300002, 300003, 300004, 300005, 300006, 300007] [[(2, 11), (3, 2), (4, 11), (5, 22)], []] 11 [94, kk 2]),
  zt 96 93 (.mv 18),
  zt 97 93 (.prim (.bin .eql 4 false false) [95, 96]),
  zo 98 (.pick 93 97 kf),
  zo 99 (.mv 98),
  zt 100 99 (.load true 6 14),
  zt 101 99 (.gcall false false [39, 300000, 300001, 300002, 300003, 300004, 300005, 300006, 300007] [[(2, 11), (3, 2), (4, 11), (5, 22)], []] 11 [100, kk 2]),
  zt 102 99 (.mv 18),
  zt 103 99 (.prim (.un .not) [102]),
  zt 104 99 (.prim (.bin .eql 4 false false) [101, 103]),
  zo 105 (.pick 99 104 kf),
  zo 8 (.mv 105)]
def p6c25 := sq (.region (some ([12, 13, 14, 18], [11, 12, 13, 14, 39], [])) false p6o23) (rt)
def p6c31 := sq (.region (some ([9, 10, 11, 12], [11, 12, 39], [])) true p6o17) (sq (rg p6o18) (sq (rg p6o19) (sq (rh p6o20) (sq (rg p6o21) (sq (rg p6o22) p6c25)))))
def p6c37 := sq (rg p6o1) (sq (sq (rg p6o2) (.cond 20 (sq (rg p6o3) (rt)) (.skip))) (sq (rg p6o9) (sq (rg p6o10) (sq (rg p6o11) (sq (sq (rg p6o12) (.cond 43 (rg p6o13) (.skip))) p6c31)))))
def pc6_r : List PRes := [PRes.tmp 8 []]
def pc6 : PFunc := ⟨106, pc6_r, p6c37, false⟩
def pc6_a : Ann := {
  kr := fun
    | 8 => some ([9, 10, 11, 12], [11, 12, 39], [])
    | 14 => some ([12, 13, 14, 18], [11, 12, 13, 14, 39], [])
    | _ => none
  ka := fun
    | 51 => 100045
    | _ => 0
  kh := fun x => [(11, Hint.at_ 11 0), (12, .at_ 12 0), (13, .at_ 13 0), (14, .at_ 14 0), (61, .at_ 11 1), (62, .at_ 11 1), (63, .imm), (64, .imm), (65, .at_ 11 1), (66, .at_ 11 2), (67, .imm), (68, .imm)].lookup x
  gf := fun d f => match d, f with
    | some 92, 11 => some (false, false, [39, 300000, 300001, 300002, 300003, 300004, 300005, 300006, 300007])
    | some 95, 11 => some (false, false, [39, 300000, 300001, 300002, 300003, 300004, 300005, 300006, 300007])
    | some 101, 11 => some (false, false, [39, 300000, 300001, 300002, 300003, 300004, 300005, 300006, 300007])
    | _, _ => none
  ow := fun t => match t with
    | 64 => [(1, 5, 1)]
    | _ => []
  tc := fun t => match t with
    | 64 => true
    | _ => false
  bo := fun d => match d with
    | some 39 => true
    | _ => false }
theorem pc6_ok : compFn Try.prog pc6_a Try.f6 = some pc6 := by kernel_rfl


-- 57: vedette/vedetteref6.IsField
def p57o1 := [zo 1 (.box 48 0 []),
  zo 2 (.mv kf)]
def p57o2 := [zo 3 (.faddr 0 1),
  zo 4 (.load false 1 3),
  zo 5 (.prim (.bin .eql 2 false true) [4, kk 0]),
  zo 6 (.mv 5),
  zf 7 6 (.faddr 1 1),
  zf 8 6 (.load false 1 7),
  zf 9 6 (.prim (.bin .eql 9 false true) [8, .const (.string { data := { toList := [] } })]),
  zo 10 (.pick 6 kt 9),
  zo 11 (.mv 10),
  zt 12 11 (.faddr 1 1),
  zt 13 11 (.load false 1 12),
  zt 14 11 (.prim (.len 9) [13]),
  zt 15 11 (.prim (.bin .leq 3 false true) [14, kk 12]),
  zo 16 (.pick 11 15 kf),
  zo 2 (.mv 16)]
def p57c5 := sq (rg p57o1) (sq (rg p57o2) (rt))
def pc57_r : List PRes := [PRes.tmp 2 []]
def pc57 : PFunc := ⟨17, pc57_r, p57c5, false⟩
def pc57_a : Ann := {
  kr := fun
    | _ => none
  ka := fun
    | _ => 0
  kh := fun
    | _ => none
  ow := fun t => match t with
    | 64 => [(1, 5, 1)]
    | _ => []
  tc := fun t => match t with
    | 64 => true
    | _ => false }
theorem pc57_ok : compFn Try.prog pc57_a Try.f57 = some pc57 := by kernel_rfl


-- 58: vedette/vedetteref3.On
def p58o1 := [zo 1 (.box 46 0 []),
  zo 2 (.mv kf)]
def p58o2 := [zo 3 (.faddr 0 1),
  zo 4 (.load false 1 3),
  zo 5 (.prim (.bin .geq 3 false true) [4, kk 0]),
  zo 6 (.mv 5),
  zt 7 6 (.faddr 0 1),
  zt 8 6 (.load false 1 7),
  zt 9 6 (.prim (.bin .lss 3 false true) [8, kk 64]),
  zo 10 (.pick 6 9 kf),
  zo 11 (.mv 10),
  zt 12 11 (.faddr 1 1),
  zt 13 11 (.load false 1 12),
  zt 14 11 (.prim (.bin .geq 3 false true) [13, kk 0]),
  zo 15 (.pick 11 14 kf),
  zo 16 (.mv 15),
  zt 17 16 (.faddr 1 1),
  zt 18 16 (.load false 1 17),
  zt 19 16 (.prim (.bin .lss 3 false true) [18, kk 64]),
  zo 20 (.pick 16 19 kf),
  zo 2 (.mv 20)]
def p58c5 := sq (rg p58o1) (sq (rg p58o2) (rt))
def pc58_r : List PRes := [PRes.tmp 2 []]
def pc58 : PFunc := ⟨21, pc58_r, p58c5, false⟩
def pc58_a : Ann := {
  kr := fun
    | _ => none
  ka := fun
    | _ => 0
  kh := fun
    | _ => none
  ow := fun t => match t with
    | 64 => [(1, 5, 1)]
    | _ => []
  tc := fun t => match t with
    | 64 => true
    | _ => false }
theorem pc58_ok : compFn Try.prog pc58_a Try.f58 = some pc58 := by kernel_rfl


-- 52: vedette/vedetteref6.Is
def p52o1 := [zo 1 (.box 55 0 []),
  zo 2 (.mv kf)]
def p52o2 := [zo 5 (.faddr 0 1),
  zo 6 (.load false 1 5),
  zo 7 (.prim (.bin .geq 3 false true) [6, kk 0]),
  zo 8 (.mv 7),
  zt 9 8 (.faddr 0 1),
  zt 10 8 (.load false 1 9),
  zt 11 8 (.prim (.bin .leq 3 false true) [10, kk 1000000]),
  zo 12 (.pick 8 11 kf),
  zo 13 (.mv 12),
  zt 14 13 (.faddr 1 1),
  zt 15 13 (.load true 2 14),
  zt 16 13 (.call true [[]] 58 [15]),
  zo 17 (.pick 13 16 kf),
  zo 3 (.mv 17)]
def p52o3 := [zo 4 (.mv (kk 0))]
def p52o4 := [zo 18 (.mv 4),
  zo 19 (.prim (.bin .lss 3 false true) [18, kk 4])]
def p52o9 := [zo 22 (.mv 3),
  zo 23 (.mv 22),
  zt 24 23 (.mv 4),
  zt 25 23 (.faddr 3 1),
  zt 26 23 (.iaddrA 4 2 25 24),
  zt 27 23 (.load true 2 26),
  zt 28 23 (.call true [[]] 57 [27]),
  zo 29 (.pick 23 28 kf),
  zo 3 (.mv 29)]
def p52o11 := [zo 20 (.mv 4),
  zo 21 (.prim (.bin .add 3 false true) [20, kk 1]),
  zo 4 (.mv 21)]
def p52c13 := sq (sq (.region (some ([1, 3, 4], [1], [])) false p52o4) (.cond 19 (.skip) (.exit 0))) (sq (.block 1 (rg p52o9)) (rg p52o11))
def p52o17 := [zo 30 (.mv 3),
  zo 2 (.mv 30)]
def p52c19 := sq (rg p52o17) (rt)
def p52c20 := sq (sq (.region (some ([1, 3], [1], [])) false p52o3) (.block 0 (.loop p52c13))) p52c19
def p52c22 := sq (rg p52o1) (sq (rg p52o2) p52c20)
def pc52_r : List PRes := [PRes.tmp 2 []]
def pc52 : PFunc := ⟨31, pc52_r, p52c22, false⟩
def pc52_a : Ann := {
  kr := fun
    | 2 => some ([1, 3], [1], [])
    | 3 => some ([1, 3, 4], [1], [])
    | _ => none
  ka := fun
    | _ => 0
  kh := fun
    | _ => none
  ow := fun t => match t with
    | 64 => [(1, 5, 1)]
    | _ => []
  tc := fun t => match t with
    | 64 => true
    | _ => false }
theorem pc52_ok : compFn Try.prog pc52_a Try.f52 = some pc52 := by kernel_rfl


-- 25: vedette/vedetteref17.things
def p25o1 := [zo 2 (.mv kf)]
def p25o2 := [zo 3 (.mv (kk 0))]
def p25o3 := [zo 4 (.mv 3),
  zo 5 (.mv 0),
  zo 6 (.lenS 5),
  zo 7 (.prim (.bin .lss 3 false false) [4, 6])]
def p25o8 : List POper := [⟨some 10, .mv 0, none, [(0, .imm)]⟩,
  ⟨some 11, .mv 3, none, [(3, .imm)]⟩,
  ⟨some 12, .iaddrS 11 10 11, none, [(10, .imm), (11, .imm)]⟩,
  ⟨some 13, .load true 11 12, none, [(12, .imm)]⟩,
  ⟨some 14, .call false [[]] 52 [13], none, [(13, .imm)]⟩,
  ⟨some 15, .prim (.un .not) [14], none, [(14, .imm)]⟩,
  ⟨some 16, .mv 15, none, [(15, .imm)]⟩,
  ⟨some 17, .mv 3, some (16, false), [(3, .imm)]⟩,
  ⟨some 18, .prim (.bin .gtr 3 false true) [17, kk 0], some (16, false), [(17, .imm)]⟩,
  ⟨some 19, .mv 18, some (16, false), [(18, .imm)]⟩,
  ⟨some 20, .mv 0, some (19, true), [(0, .imm)]⟩,
  ⟨some 21, .mv 3, some (19, true), [(3, .imm)]⟩,
  ⟨some 22, .iaddrS 11 20 21, some (19, true), [(20, .imm), (21, .imm)]⟩,
  ⟨some 23, .faddr 0 22, some (19, true), [(22, .imm)]⟩,
  ⟨some 24, .load false 1 23, some (19, true), [(23, .imm)]⟩,
  ⟨some 25, .mv 0, some (19, true), [(0, .imm)]⟩,
  ⟨some 26, .mv 3, some (19, true), [(3, .imm)]⟩,
  ⟨some 27, .prim (.bin .sub 3 false true) [26, kk 1], some (19, true), [(26, .imm)]⟩,
  ⟨some 28, .iaddrS 11 25 27, some (19, true), [(25, .imm), (27, .imm)]⟩,
  ⟨some 29, .faddr 0 28, some (19, true), [(28, .imm)]⟩,
  ⟨some 30, .load false 1 29, some (19, true), [(29, .imm)]⟩,
  ⟨some 31, .prim (.bin .leq 3 false false) [24, 30], some (19, true), [(24, .imm), (30, .imm)]⟩,
  ⟨some 32, .pick 19 31 kf, some (16, false), [(19, .imm), (31, .imm)]⟩,
  ⟨some 33, .pick 16 kt 32, none, [(16, .imm), (32, .imm)]⟩]
def p25o9 := [zo 2 (.mv kf)]
def p25o16 := [zo 8 (.mv 3),
  zo 9 (.prim (.bin .add 3 false true) [8, kk 1]),
  zo 3 (.mv 9)]
def p25c18 := sq (sq (.region (some ([0, 3], [], [])) false p25o3) (.cond 7 (.skip) (.exit 0))) (sq (.block 1 (sq (rh p25o8) (.cond 33 (sq (rg p25o9) (rt)) (.skip)))) (rg p25o16))
def p25o22 := [zo 34 (.mv 0),
  zo 35 (.lenS 34),
  zo 36 (.prim (.bin .leq 3 false true) [35, kk 200]),
  zo 2 (.mv 36)]
def p25c24 := sq (rg p25o22) (rt)
def p25c26 := sq (rg p25o1) (sq (sq (rg p25o2) (.block 0 (.loop p25c18))) p25c24)
def pc25_r : List PRes := [PRes.tmp 2 []]
def pc25 : PFunc := ⟨37, pc25_r, p25c26, false⟩
def pc25_a : Ann := {
  kr := fun
    | 2 => some ([0, 3], [], [])
    | _ => none
  ka := fun
    | _ => 0
  kh := fun x => [(0, Hint.imm), (3, .imm), (10, .imm), (11, .imm), (12, .imm), (13, .imm), (14, .imm), (15, .imm), (16, .imm), (17, .imm), (18, .imm), (19, .imm), (20, .imm), (21, .imm), (22, .imm), (23, .imm), (24, .imm), (25, .imm), (26, .imm), (27, .imm), (28, .imm), (29, .imm), (30, .imm), (31, .imm), (32, .imm)].lookup x
  ow := fun t => match t with
    | 64 => [(1, 5, 1)]
    | _ => []
  tc := fun t => match t with
    | 64 => true
    | _ => false }
theorem pc25_ok : compFn Try.prog pc25_a Try.f25 = some pc25 := by kernel_rfl


-- 26: vedette/vedetteref3.IsCell
def p26o1 := [zo 2 (.mv kf)]
def p26o2 := [zo 3 (.mv 0),
  zo 4 (.prim (.bin .geq 3 false true) [3, kk 0]),
  zo 5 (.mv 4),
  zt 6 5 (.mv 0),
  zt 7 5 (.prim (.bin .lss 3 false true) [6, kk 16]),
  zo 8 (.pick 5 7 kf),
  zo 2 (.mv 8)]
def p26c5 := sq (rg p26o1) (sq (rg p26o2) (rt))
def pc26_r : List PRes := [PRes.tmp 2 []]
def pc26 : PFunc := ⟨9, pc26_r, p26c5, false⟩
def pc26_a : Ann := {
  kr := fun
    | _ => none
  ka := fun
    | _ => 0
  kh := fun
    | _ => none
  ow := fun t => match t with
    | 64 => [(1, 5, 1)]
    | _ => []
  tc := fun t => match t with
    | 64 => true
    | _ => false }
theorem pc26_ok : compFn Try.prog pc26_a Try.f26 = some pc26 := by kernel_rfl


-- 53: vedette/vedetteref10.within
def p53o1 := [zo 6 (.mv kf)]
def p53o2 := [zo 7 (.mv 0),
  zo 8 (.mv 1),
  zo 9 (.prim (.bin .geq 3 false false) [7, 8]),
  zo 10 (.mv 9),
  zt 11 10 (.mv 0),
  zt 12 10 (.mv 2),
  zt 13 10 (.prim (.bin .leq 3 false false) [11, 12]),
  zo 14 (.pick 10 13 kf),
  zo 6 (.mv 14)]
def p53c5 := sq (rg p53o1) (sq (rg p53o2) (rt))
def pc53_r : List PRes := [PRes.tmp 6 []]
def pc53 : PFunc := ⟨15, pc53_r, p53c5, false⟩
def pc53_a : Ann := {
  kr := fun
    | _ => none
  ka := fun
    | _ => 0
  kh := fun
    | _ => none
  ow := fun t => match t with
    | 64 => [(1, 5, 1)]
    | _ => []
  tc := fun t => match t with
    | 64 => true
    | _ => false }
theorem pc53_ok : compFn Try.prog pc53_a Try.f53 = some pc53 := by kernel_rfl


-- 54: vedette/vedetteref10.shape
def p54o1 := [zo 1 (.box 53 0 []),
  zo 2 (.alloc 53 (.agg { toList := [.int .i64 0, .int .i64 0, .int .i64 0, .int .i64 0, .int .i64 0, .int .i64 0, .int .i64 0, .string { data := { toList := [] } }, .int .i64 0, .string { data := { toList := [] } }, .int .i64 0, .string { data := { toList := [] } }, .int .i64 0, .string { data := { toList := [] } }, .int .i64 0, .string { data := { toList := [] } }, .int .i64 0, .int .i64 0, .int .i64 0, .int .i64 0, .int .i64 0, .int .i64 0] }) [])]
def p54o2 := [zo 4 (.faddr 0 1),
  zo 5 (.load false 1 4),
  zo 6 (.faddr 16 1),
  zo 7 (.load false 1 6),
  zo 8 (.faddr 17 1),
  zo 9 (.load false 1 8),
  zo 10 (.build (.agg { toList := [.int .i64 0, .int .i64 0, .int .i64 0, .int .i64 0, .int .i64 0, .int .i64 0, .int .i64 0, .string { data := { toList := [] } }, .int .i64 0, .string { data := { toList := [] } }, .int .i64 0, .string { data := { toList := [] } }, .int .i64 0, .string { data := { toList := [] } }, .int .i64 0, .string { data := { toList := [] } }, .int .i64 0, .int .i64 0, .int .i64 0, .int .i64 0, .int .i64 0, .int .i64 0] }) [(0, 1, .tmp 5), (16, 1, .tmp 7), (17, 1, .tmp 9)]),
  zo 3 (.alloc 53 (.agg { toList := [.int .i64 0, .int .i64 0, .int .i64 0, .int .i64 0, .int .i64 0, .int .i64 0, .int .i64 0, .string { data := { toList := [] } }, .int .i64 0, .string { data := { toList := [] } }, .int .i64 0, .string { data := { toList := [] } }, .int .i64 0, .string { data := { toList := [] } }, .int .i64 0, .string { data := { toList := [] } }, .int .i64 0, .int .i64 0, .int .i64 0, .int .i64 0, .int .i64 0, .int .i64 0] }) []),
  zs (.store 22 3 10)]
def p54o3 := [zo 11 (.faddr 0 1),
  zo 12 (.load false 1 11)]
def p54o4 := [zo 14 (.prim (.bin .eql 3 false true) [12, kk 1]),
  zo 13 (.mv 14)]
def p54o5 := [za 15 1 1 0 (.faddr 4 1),
  za 16 15 1 4 (.load true 2 15),
  za 17 1 1 0 (.faddr 6 1),
  za 18 17 1 6 (.load true 8 17),
  za 19 3 3 0 (.faddr 4 3),
  zn (.store 2 19 16) [(19, .at_ 3 4), (16, .imm)],
  za 20 3 3 0 (.faddr 6 3),
  zn (.store 8 20 18) [(20, .at_ 3 6), (18, .imm)]]
def p54o6 := [zo 22 (.prim (.bin .eql 3 false true) [12, kk 2]),
  zo 21 (.mv 22)]
def p54o7 := [za 23 1 1 0 (.faddr 1 1),
  za 24 23 1 1 (.load false 1 23),
  za 25 1 1 0 (.faddr 4 1),
  za 26 25 1 4 (.load true 2 25),
  za 27 3 3 0 (.faddr 1 3),
  zn (.store 1 27 24) [(27, .at_ 3 1), (24, .imm)],
  za 28 3 3 0 (.faddr 4 3),
  zn (.store 2 28 26) [(28, .at_ 3 4), (26, .imm)]]
def p54o8 := [zo 30 (.prim (.bin .eql 3 false true) [12, kk 3]),
  zo 29 (.mv 30)]
def p54o9 := [za 31 1 1 0 (.faddr 1 1),
  za 32 31 1 1 (.load false 1 31),
  za 33 1 1 0 (.faddr 2 1),
  za 34 33 1 2 (.load false 1 33),
  za 35 1 1 0 (.faddr 14 1),
  za 36 35 1 14 (.load true 2 35),
  za 37 3 3 0 (.faddr 1 3),
  zn (.store 1 37 32) [(37, .at_ 3 1), (32, .imm)],
  za 38 3 3 0 (.faddr 2 3),
  zn (.store 1 38 34) [(38, .at_ 3 2), (34, .imm)],
  za 39 3 3 0 (.faddr 14 3),
  zn (.store 2 39 36) [(39, .at_ 3 14), (36, .imm)]]
def p54o10 := [zo 41 (.prim (.bin .eql 3 false true) [12, kk 4]),
  zo 40 (.mv 41)]
def p54o11 := [zo 42 (.faddr 1 1),
  zo 43 (.load false 1 42),
  zo 44 (.faddr 1 3),
  zs (.store 1 44 43)]
def p54o12 := [zo 46 (.prim (.bin .eql 3 false true) [12, kk 5]),
  zo 45 (.mv 46)]
def p54o13 := [za 47 1 1 0 (.faddr 2 1),
  za 48 47 1 2 (.load false 1 47),
  za 49 1 1 0 (.faddr 3 1),
  za 50 49 1 3 (.load false 1 49),
  za 51 3 3 0 (.faddr 2 3),
  zn (.store 1 51 48) [(51, .at_ 3 2), (48, .imm)],
  za 52 3 3 0 (.faddr 3 3),
  zn (.store 1 52 50) [(52, .at_ 3 3), (50, .imm)]]
def p54o14 := [zo 54 (.prim (.bin .eql 3 false true) [12, kk 6]),
  zo 53 (.mv 54)]
def p54o16 := [zo 55 (.prim (.bin .eql 3 false true) [12, kk 7]),
  zo 53 (.mv 55)]
def p54o19 := [zo 56 (.faddr 18 1),
  zo 57 (.load true 4 56),
  zo 58 (.faddr 18 3),
  zs (.store 4 58 57)]
def p54o35 := [zo 59 (.load true 22 3),
  zs (.store 22 2 59)]
def p54c40 := sq (rg p54o1) (sq (rg p54o2) (sq (sq (rg p54o3) (.block 0 (sq (rg p54o4) (.cond 13 (rh p54o5) (sq (rg p54o6) (.cond 21 (rh p54o7) (sq (rg p54o8) (.cond 29 (rh p54o9) (sq (rg p54o10) (.cond 40 (rg p54o11) (sq (rg p54o12) (.cond 45 (rh p54o13) (sq (sq (rg p54o14) (.cond 53 (.skip) (rg p54o16))) (.cond 53 (rg p54o19) (.skip))))))))))))))) (sq (rg p54o35) (rt))))
def pc54_r : List PRes := [PRes.cell 2 true 22 []]
def pc54 : PFunc := ⟨60, pc54_r, p54c40, false⟩
def pc54_a : Ann := {
  kr := fun
    | _ => none
  ka := fun
    | _ => 0
  kh := fun x => [(1, Hint.at_ 1 0), (3, .at_ 3 0), (15, .at_ 1 4), (16, .imm), (17, .at_ 1 6), (18, .imm), (19, .at_ 3 4), (20, .at_ 3 6), (23, .at_ 1 1), (24, .imm), (25, .at_ 1 4), (26, .imm), (27, .at_ 3 1), (28, .at_ 3 4), (31, .at_ 1 1), (32, .imm), (33, .at_ 1 2), (34, .imm), (35, .at_ 1 14), (36, .imm), (37, .at_ 3 1), (38, .at_ 3 2), (39, .at_ 3 14), (47, .at_ 1 2), (48, .imm), (49, .at_ 1 3), (50, .imm), (51, .at_ 3 2), (52, .at_ 3 3)].lookup x
  ow := fun t => match t with
    | 64 => [(1, 5, 1)]
    | _ => []
  tc := fun t => match t with
    | 64 => true
    | _ => false }
theorem pc54_ok : compFn Try.prog pc54_a Try.f54 = some pc54 := by kernel_rfl


-- 55: vedette/vedetteref10.point
def p55o1 := [zo 1 (.box 46 0 []),
  zo 2 (.mv kf)]
def p55o2 := [zo 3 (.faddr 0 1),
  zo 4 (.load false 1 3),
  zo 5 (.call true [[], [], []] 53 [4, .const (.int .i64 (-1000)), kk 1000]),
  zo 6 (.mv 5),
  zt 7 6 (.faddr 1 1),
  zt 8 6 (.load false 1 7),
  zt 9 6 (.call true [[], [], []] 53 [8, .const (.int .i64 (-1000)), kk 1000]),
  zo 10 (.pick 6 9 kf),
  zo 2 (.mv 10)]
def p55c5 := sq (rg p55o1) (sq (rg p55o2) (rt))
def pc55_r : List PRes := [PRes.tmp 2 []]
def pc55 : PFunc := ⟨11, pc55_r, p55c5, false⟩
def pc55_a : Ann := {
  kr := fun
    | _ => none
  ka := fun
    | _ => 0
  kh := fun
    | _ => none
  ow := fun t => match t with
    | 64 => [(1, 5, 1)]
    | _ => []
  tc := fun t => match t with
    | 64 => true
    | _ => false }
theorem pc55_ok : compFn Try.prog pc55_a Try.f55 = some pc55 := by kernel_rfl


-- 56: vedette/vedetteref10.rect
def p56o1 := [zo 1 (.box 51 0 []),
  zo 2 (.mv kf)]
def p56o2 := [zo 3 (.faddr 0 1),
  zo 4 (.load false 1 3),
  zo 5 (.faddr 1 1),
  zo 6 (.load false 1 5),
  zo 7 (.build (.agg { toList := [.int .i64 0, .int .i64 0] }) [(0, 1, .tmp 4), (1, 1, .tmp 6)]),
  zo 8 (.call true [[]] 55 [7]),
  zo 9 (.mv 8),
  zt 10 9 (.faddr 2 1),
  zt 11 9 (.load false 1 10),
  zt 12 9 (.faddr 3 1),
  zt 13 9 (.load false 1 12),
  zt 14 9 (.build (.agg { toList := [.int .i64 0, .int .i64 0] }) [(0, 1, .tmp 11), (1, 1, .tmp 13)]),
  zt 15 9 (.call true [[]] 55 [14]),
  zo 16 (.pick 9 15 kf),
  zo 2 (.mv 16)]
def p56c5 := sq (rg p56o1) (sq (rg p56o2) (rt))
def pc56_r : List PRes := [PRes.tmp 2 []]
def pc56 : PFunc := ⟨17, pc56_r, p56c5, false⟩
def pc56_a : Ann := {
  kr := fun
    | _ => none
  ka := fun
    | _ => 0
  kh := fun
    | _ => none
  ow := fun t => match t with
    | 64 => [(1, 5, 1)]
    | _ => []
  tc := fun t => match t with
    | 64 => true
    | _ => false }
theorem pc56_ok : compFn Try.prog pc56_a Try.f56 = some pc56 := by kernel_rfl


-- 27: vedette/vedetteref10.Is
def p27o1 := [zo 1 (.box 53 0 []),
  zo 2 (.mv kf)]
def p27o2 := [za 5 1 1 0 (.faddr 0 1),
  za 6 5 1 0 (.load false 1 5),
  ⟨some 7, .call false [[], [], []] 53 [6, kk 1, kk 8], none, [(6, .imm)]⟩,
  ⟨some 8, .mv 7, none, [(7, .imm)]⟩,
  ⟨some 9, .faddr 16 1, some (8, true), [(1, .at_ 1 0)]⟩,
  ⟨some 10, .load false 1 9, some (8, true), [(9, .at_ 1 16)]⟩,
  ⟨some 11, .call false [[], [], []] 53 [10, kk 0, kk 3], some (8, true), [(10, .imm)]⟩,
  ⟨some 12, .pick 8 11 kf, none, [(8, .imm), (11, .imm)]⟩,
  ⟨some 13, .mv 12, none, [(12, .imm)]⟩,
  ⟨some 14, .faddr 17 1, some (13, true), [(1, .at_ 1 0)]⟩,
  ⟨some 15, .load false 1 14, some (13, true), [(14, .at_ 1 17)]⟩,
  ⟨some 16, .call false [[], [], []] 53 [15, kk 0, kk 1000000], some (13, true), [(15, .imm)]⟩,
  ⟨some 17, .pick 13 16 kf, none, [(13, .imm), (16, .imm)]⟩,
  ⟨some 18, .mv 17, none, [(17, .imm)]⟩,
  ⟨some 19, .load true 22 1, some (18, true), [(1, .at_ 1 0)]⟩,
  ⟨some 20, .load true 22 1, some (18, true), [(1, .at_ 1 0)]⟩,
  ⟨some 21, .call false [[]] 54 [20], some (18, true), [(20, .imm)]⟩,
  ⟨some 22, .prim (.bin .eql 53 false false) [19, 21], some (18, true), [(19, .imm), (21, .imm)]⟩,
  ⟨some 23, .pick 18 22 kf, none, [(18, .imm), (22, .imm)]⟩,
  ⟨some 24, .mv 23, none, [(23, .imm)]⟩,
  ⟨some 25, .faddr 4 1, some (24, true), [(1, .at_ 1 0)]⟩,
  ⟨some 26, .load true 2 25, some (24, true), [(25, .at_ 1 4)]⟩,
  ⟨some 27, .call false [[]] 55 [26], some (24, true), [(26, .imm)]⟩,
  ⟨some 28, .pick 24 27 kf, none, [(24, .imm), (27, .imm)]⟩,
  ⟨some 29, .mv 28, none, [(28, .imm)]⟩,
  ⟨some 30, .faddr 18 1, some (29, true), [(1, .at_ 1 0)]⟩,
  ⟨some 31, .load true 4 30, some (29, true), [(30, .at_ 1 18)]⟩,
  ⟨some 32, .call false [[]] 56 [31], some (29, true), [(31, .imm)]⟩,
  ⟨some 33, .pick 29 32 kf, none, [(29, .imm), (32, .imm)]⟩,
  ⟨some 34, .mv 33, none, [(33, .imm)]⟩,
  ⟨some 35, .faddr 1 1, some (34, true), [(1, .at_ 1 0)]⟩,
  ⟨some 36, .load false 1 35, some (34, true), [(35, .at_ 1 1)]⟩,
  ⟨some 37, .call false [[], [], []] 53 [36, kk 0, kk 1000000], some (34, true), [(36, .imm)]⟩,
  ⟨some 38, .pick 34 37 kf, none, [(34, .imm), (37, .imm)]⟩,
  ⟨some 39, .mv 38, none, [(38, .imm)]⟩,
  ⟨some 40, .faddr 2 1, some (39, true), [(1, .at_ 1 0)]⟩,
  ⟨some 41, .load false 1 40, some (39, true), [(40, .at_ 1 2)]⟩,
  ⟨some 42, .call false [[], [], []] 53 [41, .const (.int .i64 (-1)), kk 100], some (39, true), [(41, .imm)]⟩,
  ⟨some 43, .pick 39 42 kf, none, [(39, .imm), (42, .imm)]⟩,
  ⟨some 44, .mv 43, none, [(43, .imm)]⟩,
  ⟨some 45, .faddr 3 1, some (44, true), [(1, .at_ 1 0)]⟩,
  ⟨some 46, .load false 1 45, some (44, true), [(45, .at_ 1 3)]⟩,
  ⟨some 47, .call false [[], [], []] 53 [46, .const (.int .i64 (-1)), kk 100], some (44, true), [(46, .imm)]⟩,
  ⟨some 48, .pick 44 47 kf, none, [(44, .imm), (47, .imm)]⟩,
  ⟨some 49, .mv 48, none, [(48, .imm)]⟩,
  ⟨some 50, .faddr 14 1, some (49, true), [(1, .at_ 1 0)]⟩,
  ⟨some 51, .load true 2 50, some (49, true), [(50, .at_ 1 14)]⟩,
  ⟨some 52, .call false [[]] 57 [51], some (49, true), [(51, .imm)]⟩,
  ⟨some 53, .pick 49 52 kf, none, [(49, .imm), (52, .imm)]⟩,
  ⟨some 3, .mv 53, none, [(53, .imm)]⟩]
def p27o3 := [zo 4 (.mv (kk 0))]
def p27o4 := [zo 54 (.mv 4),
  zo 55 (.prim (.bin .lss 3 false true) [54, kk 4])]
def p27o9 := [zo 58 (.mv 3),
  zo 59 (.mv 58),
  zt 60 59 (.mv 4),
  zt 61 59 (.faddr 6 1),
  zt 62 59 (.iaddrA 4 2 61 60),
  zt 63 59 (.load true 2 62),
  zt 64 59 (.call true [[]] 57 [63]),
  zo 65 (.pick 59 64 kf),
  zo 3 (.mv 65)]
def p27o11 := [zo 56 (.mv 4),
  zo 57 (.prim (.bin .add 3 false true) [56, kk 1]),
  zo 4 (.mv 57)]
def p27c13 := sq (sq (.region (some ([1, 3, 4], [1], [])) false p27o4) (.cond 55 (.skip) (.exit 0))) (sq (.block 1 (rg p27o9)) (rg p27o11))
def p27o17 := [zo 66 (.mv 3),
  zo 2 (.mv 66)]
def p27c19 := sq (rg p27o17) (rt)
def p27c20 := sq (sq (.region (some ([1, 3], [1], [])) false p27o3) (.block 0 (.loop p27c13))) p27c19
def p27c22 := sq (rg p27o1) (sq (rh p27o2) p27c20)
def pc27_r : List PRes := [PRes.tmp 2 []]
def pc27 : PFunc := ⟨67, pc27_r, p27c22, false⟩
def pc27_a : Ann := {
  kr := fun
    | 2 => some ([1, 3], [1], [])
    | 3 => some ([1, 3, 4], [1], [])
    | _ => none
  ka := fun
    | _ => 0
  kh := fun x => [(1, Hint.at_ 1 0), (5, .at_ 1 0), (6, .imm), (7, .imm), (8, .imm), (9, .at_ 1 16), (10, .imm), (11, .imm), (12, .imm), (13, .imm), (14, .at_ 1 17), (15, .imm), (16, .imm), (17, .imm), (18, .imm), (19, .imm), (20, .imm), (21, .imm), (22, .imm), (23, .imm), (24, .imm), (25, .at_ 1 4), (26, .imm), (27, .imm), (28, .imm), (29, .imm), (30, .at_ 1 18), (31, .imm), (32, .imm), (33, .imm), (34, .imm), (35, .at_ 1 1), (36, .imm), (37, .imm), (38, .imm), (39, .imm), (40, .at_ 1 2), (41, .imm), (42, .imm), (43, .imm), (44, .imm), (45, .at_ 1 3), (46, .imm), (47, .imm), (48, .imm), (49, .imm), (50, .at_ 1 14), (51, .imm), (52, .imm), (53, .imm)].lookup x
  ow := fun t => match t with
    | 64 => [(1, 5, 1)]
    | _ => []
  tc := fun t => match t with
    | 64 => true
    | _ => false }
theorem pc27_ok : compFn Try.prog pc27_a Try.f27 = some pc27 := by kernel_rfl


-- 28: vedette/vedetteref10.Watches
def p28o1 := [zo 1 (.box 53 0 []),
  zo 2 (.mv kf)]
def p28o2 := [zo 3 (.faddr 0 1),
  zo 4 (.load false 1 3),
  zo 5 (.call true [[], [], []] 53 [4, kk 6, kk 8]),
  zo 2 (.mv 5)]
def p28c5 := sq (rg p28o1) (sq (rg p28o2) (rt))
def pc28_r : List PRes := [PRes.tmp 2 []]
def pc28 : PFunc := ⟨6, pc28_r, p28c5, false⟩
def pc28_a : Ann := {
  kr := fun
    | _ => none
  ka := fun
    | _ => 0
  kh := fun
    | _ => none
  ow := fun t => match t with
    | 64 => [(1, 5, 1)]
    | _ => []
  tc := fun t => match t with
    | 64 => true
    | _ => false }
theorem pc28_ok : compFn Try.prog pc28_a Try.f28 = some pc28 := by kernel_rfl


-- 59: vedette/vedetteref3.Weave
def p59o1 := [zo 4 (.mv (.const (.int .u32 0)))]
def p59o2 := [zo 5 (.mv (.const (.int .u32 0)))]
def p59o3 := [zo 6 (.mv (kk 0))]
def p59o4 := [zo 7 (.mv 6),
  zo 8 (.prim (.bin .lss 3 false true) [7, kk 16])]
def p59o9 := [zo 11 (.mv 5),
  zo 12 (.mv 0),
  zo 13 (.mv 6),
  zo 14 (.prim (.conv 3 57) [13]),
  zo 15 (.prim (.bin .shr 35 false false) [12, 14]),
  zo 16 (.prim (.bin .and 35 false true) [15, .const (.int .u16 1)]),
  zo 17 (.prim (.conv 35 101) [16]),
  zo 18 (.mv 6),
  zo 19 (.prim (.bin .mul 3 true false) [kk 2, 18]),
  zo 20 (.prim (.conv 3 57) [19]),
  zo 21 (.prim (.bin .shl 101 false false) [17, 20]),
  zo 22 (.prim (.bin .or 101 false false) [11, 21]),
  zo 23 (.mv 1),
  zo 24 (.mv 6),
  zo 25 (.prim (.conv 3 57) [24]),
  zo 26 (.prim (.bin .shr 35 false false) [23, 25]),
  zo 27 (.prim (.bin .and 35 false true) [26, .const (.int .u16 1)]),
  zo 28 (.prim (.conv 35 101) [27]),
  zo 29 (.mv 6),
  zo 30 (.prim (.bin .mul 3 true false) [kk 2, 29]),
  zo 31 (.prim (.bin .add 3 false true) [30, kk 1]),
  zo 32 (.prim (.conv 3 57) [31]),
  zo 33 (.prim (.bin .shl 101 false false) [28, 32]),
  zo 34 (.prim (.bin .or 101 false false) [22, 33]),
  zo 5 (.mv 34)]
def p59o11 := [zo 9 (.mv 6),
  zo 10 (.prim (.bin .add 3 false true) [9, kk 1]),
  zo 6 (.mv 10)]
def p59c13 := sq (sq (.region (some ([0, 1, 5, 6], [], [])) false p59o4) (.cond 8 (.skip) (.exit 0))) (sq (.block 1 (rg p59o9)) (rg p59o11))
def p59o17 := [zo 35 (.mv 5),
  zo 4 (.mv 35)]
def p59c19 := sq (rg p59o17) (rt)
def p59c22 := sq (rg p59o1) (sq (rg p59o2) (sq (sq (rg p59o3) (.block 0 (.loop p59c13))) p59c19))
def pc59_r : List PRes := [PRes.tmp 4 []]
def pc59 : PFunc := ⟨36, pc59_r, p59c22, false⟩
def pc59_a : Ann := {
  kr := fun
    | 3 => some ([0, 1, 5, 6], [], [])
    | _ => none
  ka := fun
    | _ => 0
  kh := fun
    | _ => none
  ow := fun t => match t with
    | 64 => [(1, 5, 1)]
    | _ => []
  tc := fun t => match t with
    | 64 => true
    | _ => false }
theorem pc59_ok : compFn Try.prog pc59_a Try.f59 = some pc59 := by kernel_rfl


-- 29: vedette/vedetteref3.Cell
def p29o1 := [zo 1 (.box 46 0 []),
  zo 2 (.mv (kk 0)),
  zo 3 (.mv (kk 0))]
def p29o2 := [zo 4 (.load true 2 1),
  zo 5 (.call true [[]] 58 [4]),
  zo 6 (.prim (.un .not) [5])]
def p29o3 := [zo 2 (.mv (kk 0)),
  zo 3 (.mv (kk 14))]
def p29o9 := [zo 7 (.faddr 0 1),
  zo 8 (.load false 1 7),
  zo 9 (.prim (.bin .quo 3 false true) [8, kk 16]),
  zo 10 (.prim (.conv 3 35) [9]),
  zo 11 (.faddr 1 1),
  zo 12 (.load false 1 11),
  zo 13 (.prim (.bin .quo 3 false true) [12, kk 16]),
  zo 14 (.prim (.conv 3 35) [13]),
  zo 15 (.call true [[], []] 59 [10, 14]),
  zo 16 (.prim (.conv 101 3) [15]),
  zo 2 (.mv 16),
  zo 3 (.mv (kk 0))]
def p29c13 := sq (rg p29o1) (sq (sq (rg p29o2) (.cond 6 (sq (rg p29o3) (rt)) (.skip))) (sq (rg p29o9) (rt)))
def pc29_r : List PRes := [PRes.tmp 2 [], PRes.tmp 3 []]
def pc29 : PFunc := ⟨17, pc29_r, p29c13, false⟩
def pc29_a : Ann := {
  kr := fun
    | _ => none
  ka := fun
    | _ => 0
  kh := fun
    | _ => none
  ow := fun t => match t with
    | 64 => [(1, 5, 1)]
    | _ => []
  tc := fun t => match t with
    | 64 => true
    | _ => false }
theorem pc29_ok : compFn Try.prog pc29_a Try.f29 = some pc29 := by kernel_rfl


-- 30: vedette/vedetteref17.handed
def p30o1 := [zo 4 (.mv kf)]
def p30o2 := [zo 5 (.mv (kk 0))]
def p30o3 := [zo 6 (.mv 5),
  zo 7 (.mv 0),
  zo 8 (.lenS 7),
  zo 9 (.prim (.bin .lss 3 false false) [6, 8])]
def p30o8 := [zo 12 (.mv 0),
  zo 13 (.mv 5),
  zo 14 (.iaddrS 2 12 13),
  zo 15 (.faddr 0 14),
  zo 16 (.load false 1 15),
  zo 17 (.mv 1),
  zo 18 (.prim (.bin .eql 3 false false) [16, 17])]
def p30o9 := [zo 4 (.mv kt)]
def p30o16 := [zo 10 (.mv 5),
  zo 11 (.prim (.bin .add 3 false true) [10, kk 1]),
  zo 5 (.mv 11)]
def p30c18 := sq (sq (.region (some ([0, 1, 5], [], [])) false p30o3) (.cond 9 (.skip) (.exit 0))) (sq (.block 1 (sq (rg p30o8) (.cond 18 (sq (rg p30o9) (rt)) (.skip)))) (rg p30o16))
def p30o22 := [zo 4 (.mv kf)]
def p30c24 := sq (rg p30o22) (rt)
def p30c26 := sq (rg p30o1) (sq (sq (rg p30o2) (.block 0 (.loop p30c18))) p30c24)
def pc30_r : List PRes := [PRes.tmp 4 []]
def pc30 : PFunc := ⟨19, pc30_r, p30c26, false⟩
def pc30_a : Ann := {
  kr := fun
    | 2 => some ([0, 1, 5], [], [])
    | _ => none
  ka := fun
    | _ => 0
  kh := fun
    | _ => none
  ow := fun t => match t with
    | 64 => [(1, 5, 1)]
    | _ => []
  tc := fun t => match t with
    | 64 => true
    | _ => false }
theorem pc30_ok : compFn Try.prog pc30_a Try.f30 = some pc30 := by kernel_rfl


end Go.Proofs.Ytpjejnefegdoeaa
