/-
  Code of functions, as the pure machine runs it. No condition.
-/
import Derived.Test.YthmbegagkgdopaaCmdReadsT
namespace Go.Proofs.Ythmbegagkgdopaa
open Go Go.Rx
set_option maxRecDepth 100000
set_option linter.unusedVariables false
set_option linter.unusedSimpArgs false
set_option linter.unnecessarySimpa false
-- 26: vedette/fields.IsField
def p26o1 := [zo 1 (.box 25 0 []),
  zo 2 (.mv kf)]
def p26o2 := [zo 3 (.faddr 0 1),
  zo 4 (.load false 1 3),
  zo 5 (.prim (.bin .eql 2 false true) [4, kk 0]),
  zo 6 (.mv 5),
  zf 7 6 (.faddr 1 1),
  zf 8 6 (.load false 1 7),
  zf 9 6 (.prim (.bin .eql 9 false true) [8, .const (.string { data := { toList := [] } })]),
  zo 10 (.pick 6 kt 9),
  zo 11 (.mv 10),
  zt 12 11 (.faddr 1 1),
  zt 13 11 (.load false 1 12),
  zt 14 11 (.prim (.len 9) [13]),
  zt 15 11 (.prim (.bin .leq 3 false true) [14, kk 12]),
  zo 16 (.pick 11 15 kf),
  zo 2 (.mv 16)]
def p26c5 := sq (rg p26o1) (sq (rg p26o2) (rt))
def pc26_r : List PRes := [PRes.tmp 2 []]
def pc26 : PFunc := ⟨17, pc26_r, p26c5, false⟩
def pc26_a : Ann := {
  kr := fun
    | _ => none
  ka := fun
    | _ => 0
  kh := fun
    | _ => none }
theorem pc26_ok : compFn Try.prog pc26_a Try.f26 = some pc26 := by kernel_rfl


-- 58: vedette/cmd.core
def p58o1 := [zo 1 (.box 57 0 []),
  zo 2 (.alloc 57 (.agg { toList := [.int .i64 0, .int .i64 0, .int .i64 0, .int .i64 0, .int .i64 0, .int .i64 0, .int .i64 0, .string { data := { toList := [] } }, .int .i64 0, .string { data := { toList := [] } }, .int .i64 0, .string { data := { toList := [] } }, .int .i64 0, .string { data := { toList := [] } }, .int .i64 0, .string { data := { toList := [] } }, .int .i64 0, .int .i64 0, .int .i64 0, .int .i64 0, .int .i64 0, .int .i64 0] }) [])]
def p58o2 := [zo 4 (.faddr 0 1),
  zo 5 (.load false 1 4),
  zo 6 (.faddr 16 1),
  zo 7 (.load false 1 6),
  zo 8 (.faddr 17 1),
  zo 9 (.load false 1 8),
  zo 10 (.build (.agg { toList := [.int .i64 0, .int .i64 0, .int .i64 0, .int .i64 0, .int .i64 0, .int .i64 0, .int .i64 0, .string { data := { toList := [] } }, .int .i64 0, .string { data := { toList := [] } }, .int .i64 0, .string { data := { toList := [] } }, .int .i64 0, .string { data := { toList := [] } }, .int .i64 0, .string { data := { toList := [] } }, .int .i64 0, .int .i64 0, .int .i64 0, .int .i64 0, .int .i64 0, .int .i64 0] }) [(0, 1, .tmp 5), (16, 1, .tmp 7), (17, 1, .tmp 9)]),
  zo 3 (.alloc 57 (.agg { toList := [.int .i64 0, .int .i64 0, .int .i64 0, .int .i64 0, .int .i64 0, .int .i64 0, .int .i64 0, .string { data := { toList := [] } }, .int .i64 0, .string { data := { toList := [] } }, .int .i64 0, .string { data := { toList := [] } }, .int .i64 0, .string { data := { toList := [] } }, .int .i64 0, .string { data := { toList := [] } }, .int .i64 0, .int .i64 0, .int .i64 0, .int .i64 0, .int .i64 0, .int .i64 0] }) []),
  zs (.store 22 3 10)]
def p58o3 := [zo 11 (.faddr 0 1),
  zo 12 (.load false 1 11)]
def p58o4 := [zo 14 (.prim (.bin .eql 3 false true) [12, kk 1]),
  zo 13 (.mv 14)]
def p58o5 := [za 15 1 1 0 (.faddr 4 1),
  za 16 15 1 4 (.load true 2 15),
  za 17 1 1 0 (.faddr 6 1),
  za 18 17 1 6 (.load true 8 17),
  za 19 3 3 0 (.faddr 4 3),
  zn (.store 2 19 16) [(19, .at_ 3 4), (16, .imm)],
  za 20 3 3 0 (.faddr 6 3),
  zn (.store 8 20 18) [(20, .at_ 3 6), (18, .imm)]]
def p58o6 := [zo 22 (.prim (.bin .eql 3 false true) [12, kk 2]),
  zo 21 (.mv 22)]
def p58o7 := [za 23 1 1 0 (.faddr 1 1),
  za 24 23 1 1 (.load false 1 23),
  za 25 1 1 0 (.faddr 4 1),
  za 26 25 1 4 (.load true 2 25),
  za 27 3 3 0 (.faddr 1 3),
  zn (.store 1 27 24) [(27, .at_ 3 1), (24, .imm)],
  za 28 3 3 0 (.faddr 4 3),
  zn (.store 2 28 26) [(28, .at_ 3 4), (26, .imm)]]
def p58o8 := [zo 30 (.prim (.bin .eql 3 false true) [12, kk 3]),
  zo 29 (.mv 30)]
def p58o9 := [za 31 1 1 0 (.faddr 1 1),
  za 32 31 1 1 (.load false 1 31),
  za 33 1 1 0 (.faddr 2 1),
  za 34 33 1 2 (.load false 1 33),
  za 35 1 1 0 (.faddr 14 1),
  za 36 35 1 14 (.load true 2 35),
  za 37 3 3 0 (.faddr 1 3),
  zn (.store 1 37 32) [(37, .at_ 3 1), (32, .imm)],
  za 38 3 3 0 (.faddr 2 3),
  zn (.store 1 38 34) [(38, .at_ 3 2), (34, .imm)],
  za 39 3 3 0 (.faddr 14 3),
  zn (.store 2 39 36) [(39, .at_ 3 14), (36, .imm)]]
def p58o10 := [zo 41 (.prim (.bin .eql 3 false true) [12, kk 4]),
  zo 40 (.mv 41)]
def p58o11 := [zo 42 (.faddr 1 1),
  zo 43 (.load false 1 42),
  zo 44 (.faddr 1 3),
  zs (.store 1 44 43)]
def p58o12 := [zo 46 (.prim (.bin .eql 3 false true) [12, kk 5]),
  zo 45 (.mv 46)]
def p58o13 := [za 47 1 1 0 (.faddr 2 1),
  za 48 47 1 2 (.load false 1 47),
  za 49 1 1 0 (.faddr 3 1),
  za 50 49 1 3 (.load false 1 49),
  za 51 3 3 0 (.faddr 2 3),
  zn (.store 1 51 48) [(51, .at_ 3 2), (48, .imm)],
  za 52 3 3 0 (.faddr 3 3),
  zn (.store 1 52 50) [(52, .at_ 3 3), (50, .imm)]]
def p58o14 := [zo 54 (.prim (.bin .eql 3 false true) [12, kk 6]),
  zo 53 (.mv 54)]
def p58o16 := [zo 55 (.prim (.bin .eql 3 false true) [12, kk 7]),
  zo 53 (.mv 55)]
def p58o19 := [zo 56 (.faddr 18 1),
  zo 57 (.load true 4 56),
  zo 58 (.faddr 18 3),
  zs (.store 4 58 57)]
def p58o35 := [zo 59 (.load true 22 3),
  zs (.store 22 2 59)]
def p58c40 := sq (rg p58o1) (sq (rg p58o2) (sq (sq (rg p58o3) (.block 0 (sq (rg p58o4) (.cond 13 (rh p58o5) (sq (rg p58o6) (.cond 21 (rh p58o7) (sq (rg p58o8) (.cond 29 (rh p58o9) (sq (rg p58o10) (.cond 40 (rg p58o11) (sq (rg p58o12) (.cond 45 (rh p58o13) (sq (sq (rg p58o14) (.cond 53 (.skip) (rg p58o16))) (.cond 53 (rg p58o19) (.skip))))))))))))))) (sq (rg p58o35) (rt))))
def pc58_r : List PRes := [PRes.cell 2 true 22 []]
def pc58 : PFunc := ⟨60, pc58_r, p58c40, false⟩
def pc58_a : Ann := {
  kr := fun
    | _ => none
  ka := fun
    | _ => 0
  kh := fun
    | 1 => some (.at_ 1 0)
    | 3 => some (.at_ 3 0)
    | 15 => some (.at_ 1 4)
    | 16 => some (.imm)
    | 17 => some (.at_ 1 6)
    | 18 => some (.imm)
    | 19 => some (.at_ 3 4)
    | 20 => some (.at_ 3 6)
    | 23 => some (.at_ 1 1)
    | 24 => some (.imm)
    | 25 => some (.at_ 1 4)
    | 26 => some (.imm)
    | 27 => some (.at_ 3 1)
    | 28 => some (.at_ 3 4)
    | 31 => some (.at_ 1 1)
    | 32 => some (.imm)
    | 33 => some (.at_ 1 2)
    | 34 => some (.imm)
    | 35 => some (.at_ 1 14)
    | 36 => some (.imm)
    | 37 => some (.at_ 3 1)
    | 38 => some (.at_ 3 2)
    | 39 => some (.at_ 3 14)
    | 47 => some (.at_ 1 2)
    | 48 => some (.imm)
    | 49 => some (.at_ 1 3)
    | 50 => some (.imm)
    | 51 => some (.at_ 3 2)
    | 52 => some (.at_ 3 3)
    | _ => none }
theorem pc58_ok : compFn Try.prog pc58_a Try.f58 = some pc58 := by kernel_rfl


-- 59: vedette/cmd.near
def p59o1 := [zo 2 (.mv kf)]
def p59o3 := [zo 5 (.mv 0),
  zo 6 (.lenS 5),
  zo 7 (.mv (kk 0))]
def p59o4 := [zo 8 (.prim (.bin .lss 3 false false) [7, 6])]
def p59o8 := [zo 9 (.iaddrS 1 5 7),
  zo 10 (.load false 1 9),
  zo 4 (.mv 10)]
def p59o9 := [zo 11 (.mv 4),
  zo 12 (.prim (.bin .geq 3 false true) [11, .const (.int .i64 (-1000))]),
  zo 13 (.mv 12),
  zt 14 13 (.mv 4),
  zt 15 13 (.prim (.bin .leq 3 false true) [14, kk 1000]),
  zo 16 (.pick 13 15 kf)]
def p59o14 := [zo 2 (.mv kf)]
def p59o20 := [zo 17 (.prim (.bin .add 3 false true) [7, kk 1]),
  zo 7 (.mv 17)]
def p59c23 := sq (.region (some ([5, 6, 7], [], [])) false p59o4) (sq (.cond 8 (.skip) (.exit 0)) (sq (.block 1 (sq (rg p59o8) (sq (sq (rg p59o9) (.cond 16 (.exit 1) (.skip))) (sq (rg p59o14) (rt))))) (rg p59o20)))
def p59o27 := [zo 2 (.mv kt)]
def p59c29 := sq (rg p59o27) (rt)
def p59c33 := sq (rg p59o1) (.scope (sq (.label) (sq (sq (rg p59o3) (.block 0 (.loop p59c23))) p59c29)))
def pc59_r : List PRes := [PRes.tmp 2 []]
def pc59 : PFunc := ⟨18, pc59_r, p59c33, false⟩
def pc59_a : Ann := {
  kr := fun
    | 2 => some ([5, 6, 7], [], [])
    | _ => none
  ka := fun
    | _ => 0
  kh := fun
    | _ => none }
theorem pc59_ok : compFn Try.prog pc59_a Try.f59 = some pc59 := by kernel_rfl


-- 35: vedette/cmd.Is
def p35o1 := [zo 1 (.box 57 0 []),
  zo 2 (.mv kf)]
def p35o2 := [zo 8 (.faddr 6 1),
  zo 9 (.load true 8 8),
  zo 10 (.mv (kk 0))]
def p35o3 := [zo 11 (.prim (.bin .lss 3 false true) [10, kk 4])]
def p35o7 := [zo 12 (.idx true 2 4 9 10),
  zo 4 (.alloc 25 (.agg { toList := [.int .i64 0, .string { data := { toList := [] } }] }) []),
  zs (.store 2 4 12)]
def p35o8 := [zo 13 (.load true 2 4),
  zo 14 (.call true [[]] 26 [13]),
  zo 15 (.prim (.un .not) [14])]
def p35o9 := [zo 2 (.mv kf)]
def p35o17 := [zo 16 (.prim (.bin .add 3 false true) [10, kk 1]),
  zo 10 (.mv 16)]
def p35o24 := [za 17 1 1 0 (.faddr 0 1),
  za 18 17 1 0 (.load false 1 17),
  ⟨some 19, .prim (.bin .geq 3 false true) [18, kk 1], none, [(18, .imm)]⟩,
  ⟨some 20, .mv 19, none, [(19, .imm)]⟩,
  ⟨some 21, .faddr 0 1, some (20, true), [(1, .at_ 1 0)]⟩,
  ⟨some 22, .load false 1 21, some (20, true), [(21, .at_ 1 0)]⟩,
  ⟨some 23, .prim (.bin .leq 3 false true) [22, kk 8], some (20, true), [(22, .imm)]⟩,
  ⟨some 24, .pick 20 23 kf, none, [(20, .imm), (23, .imm)]⟩,
  ⟨some 25, .mv 24, none, [(24, .imm)]⟩,
  ⟨some 26, .load true 22 1, some (25, true), [(1, .at_ 1 0)]⟩,
  ⟨some 27, .load true 22 1, some (25, true), [(1, .at_ 1 0)]⟩,
  ⟨some 28, .call false [[]] 58 [27], some (25, true), [(27, .imm)]⟩,
  ⟨some 29, .prim (.bin .eql 57 false false) [26, 28], some (25, true), [(26, .imm), (28, .imm)]⟩,
  ⟨some 30, .pick 25 29 kf, none, [(25, .imm), (29, .imm)]⟩,
  ⟨some 5, .mv 30, none, [(30, .imm)]⟩]
def p35o25 := [zo 31 (.faddr 16 1),
  zo 32 (.load false 1 31),
  zo 33 (.prim (.bin .geq 3 false true) [32, kk 0]),
  zo 34 (.mv 33),
  zt 35 34 (.faddr 16 1),
  zt 36 34 (.load false 1 35),
  zt 37 34 (.prim (.bin .lss 3 false true) [36, kk 4]),
  zo 38 (.pick 34 37 kf),
  zo 39 (.mv 38),
  zt 40 39 (.faddr 17 1),
  zt 41 39 (.load false 1 40),
  zt 42 39 (.prim (.bin .geq 3 false true) [41, kk 0]),
  zo 43 (.pick 39 42 kf),
  zo 44 (.mv 43),
  zt 45 44 (.faddr 17 1),
  zt 46 44 (.load false 1 45),
  zt 47 44 (.prim (.bin .leq 3 false true) [46, kk 1000000]),
  zo 48 (.pick 44 47 kf),
  zo 6 (.mv 48)]
def p35o26 := [zo 49 (.faddr 1 1),
  zo 50 (.load false 1 49),
  zo 51 (.prim (.bin .geq 3 false true) [50, kk 0]),
  zo 52 (.mv 51),
  zt 53 52 (.faddr 1 1),
  zt 54 52 (.load false 1 53),
  zt 55 52 (.prim (.bin .leq 3 false true) [54, kk 1000000]),
  zo 56 (.pick 52 55 kf),
  zo 57 (.mv 56),
  zt 58 57 (.faddr 2 1),
  zt 59 57 (.load false 1 58),
  zt 60 57 (.prim (.bin .geq 3 false true) [59, .const (.int .i64 (-1))]),
  zo 61 (.pick 57 60 kf),
  zo 62 (.mv 61),
  zt 63 62 (.faddr 2 1),
  zt 64 62 (.load false 1 63),
  zt 65 62 (.prim (.bin .leq 3 false true) [64, kk 100]),
  zo 66 (.pick 62 65 kf),
  zo 67 (.mv 66),
  zt 68 67 (.faddr 3 1),
  zt 69 67 (.load false 1 68),
  zt 70 67 (.prim (.bin .geq 3 false true) [69, .const (.int .i64 (-1))]),
  zo 71 (.pick 67 70 kf),
  zo 72 (.mv 71),
  zt 73 72 (.faddr 3 1),
  zt 74 72 (.load false 1 73),
  zt 75 72 (.prim (.bin .leq 3 false true) [74, kk 100]),
  zo 76 (.pick 72 75 kf),
  zo 77 (.mv 76),
  zt 78 77 (.faddr 14 1),
  zt 79 77 (.load true 2 78),
  zt 80 77 (.call true [[]] 26 [79]),
  zo 81 (.pick 77 80 kf),
  zo 7 (.mv 81)]
def p35o27 := [zo 82 (.mv 5),
  zo 83 (.mv 82),
  zt 84 83 (.mv 6),
  zo 85 (.pick 83 84 kf),
  zo 86 (.mv 85),
  zt 87 86 (.mv 7),
  zo 88 (.pick 86 87 kf),
  zo 89 (.mv 88),
  zt 90 89 (.faddr 4 1),
  zt 91 89 (.faddr 0 90),
  zt 92 89 (.load false 1 91),
  zt 93 89 (.faddr 4 1),
  zt 94 89 (.faddr 1 93),
  zt 95 89 (.load false 1 94),
  zt 96 89 (.faddr 18 1),
  zt 97 89 (.faddr 0 96),
  zt 98 89 (.load false 1 97),
  zt 99 89 (.faddr 18 1),
  zt 100 89 (.faddr 1 99),
  zt 101 89 (.load false 1 100),
  zt 102 89 (.faddr 18 1),
  zt 103 89 (.faddr 2 102),
  zt 104 89 (.load false 1 103),
  zt 105 89 (.faddr 18 1),
  zt 106 89 (.faddr 3 105),
  zt 107 89 (.load false 1 106),
  zt 108 89 (.bslice 3 1 [92, 95, 98, 101, 104, 107]),
  zt 109 89 (.call true [[(0, 1)]] 59 [108]),
  zo 110 (.pick 89 109 kf),
  zo 2 (.mv 110)]
def p35c29 := sq (.region (some ([1, 5, 6, 7], [1], [])) false p35o27) (rt)
def p35c30 := sq (.region (some ([1, 5, 6], [1], [])) false p35o26) p35c29
def p35c31 := sq (.region (some ([1, 5], [1], [])) false p35o25) p35c30
def p35c34 := sq (rg p35o1) (sq (sq (rg p35o2) (.block 0 (.loop (sq (.region (some ([1, 9, 10], [1, 4], [])) false p35o3) (sq (.cond 11 (.skip) (.exit 0)) (sq (.block 1 (sq (rg p35o7) (sq (rg p35o8) (.cond 15 (sq (rg p35o9) (rt)) (.skip))))) (rg p35o17))))))) (sq (rh p35o24) p35c31))
def pc35_r : List PRes := [PRes.tmp 2 []]
def pc35 : PFunc := ⟨111, pc35_r, p35c34, false⟩
def pc35_a : Ann := {
  kr := fun
    | 2 => some ([1, 9, 10], [1, 4], [])
    | 8 => some ([1, 5], [1], [])
    | 9 => some ([1, 5, 6], [1], [])
    | 10 => some ([1, 5, 6, 7], [1], [])
    | _ => none
  ka := fun
    | _ => 0
  kh := fun
    | 1 => some (.at_ 1 0)
    | 17 => some (.at_ 1 0)
    | 18 => some (.imm)
    | 19 => some (.imm)
    | 20 => some (.imm)
    | 21 => some (.at_ 1 0)
    | 22 => some (.imm)
    | 23 => some (.imm)
    | 24 => some (.imm)
    | 25 => some (.imm)
    | 26 => some (.imm)
    | 27 => some (.imm)
    | 28 => some (.imm)
    | 29 => some (.imm)
    | 30 => some (.imm)
    | _ => none }
theorem pc35_ok : compFn Try.prog pc35_a Try.f35 = some pc35 := by kernel_rfl


-- 42: vedette/num.Put
def p42o1 := [zo 2 (.mv (.const (.string { data := { toList := [] } })))]
def p42o2 := [zo 3 (.mv (.const (.slice none 0 0)))]
def p42o3 := [zo 4 (.mv 0),
  zo 5 (.prim (.bin .geq 70 false true) [4, .const (.int .u64 128)])]
def p42o8 := [zo 6 (.mv 3),
  zo 7 (.mv 0),
  zo 8 (.prim (.conv 70 5) [7]),
  zo 9 (.prim (.bin .or 5 false true) [8, .const (.int .u8 128)]),
  zo 10 (.bslice 5 1 [9]),
  zo 11 (.app 100003 5 1 1 6 10),
  zo 3 (.mv 11)]
def p42o9 := [zo 12 (.mv 0),
  zo 13 (.prim (.bin .shr 70 false true) [12, .const (.int .u64 7)]),
  zo 0 (.mv 13)]
def p42c12 := sq (sq (.region (some ([0, 3], [100003], [(false, 3, 0, 100003, 5, 1)])) false p42o3) (.cond 5 (.skip) (.exit 0))) (.block 1 (sq (rg p42o8) (rg p42o9)))
def p42o15 := [zo 14 (.mv 3),
  zo 15 (.mv 0),
  zo 16 (.prim (.conv 70 5) [15]),
  zo 17 (.bslice 5 1 [16]),
  zo 18 (.app 100003 5 1 1 14 17),
  zo 19 (.b2s 18),
  zo 2 (.mv 19)]
def p42c17 := sq (rg p42o15) (rt)
def p42c20 := sq (rg p42o1) (sq (rg p42o2) (sq (.block 0 (.loop p42c12)) p42c17))
def pc42_r : List PRes := [PRes.tmp 2 []]
def pc42 : PFunc := ⟨20, pc42_r, p42c20, false⟩
def pc42_a : Ann := {
  kr := fun
    | 2 => some ([0, 3], [100003], [(false, 3, 0, 100003, 5, 1)])
    | _ => none
  ka := fun
    | 11 => 100003
    | 18 => 100003
    | _ => 0
  kh := fun
    | _ => none }
theorem pc42_ok : compFn Try.prog pc42_a Try.f42 = some pc42 := by kernel_rfl


-- 44: vedette/num.Text
def p44o1 := [zo 2 (.mv (.const (.string { data := { toList := [] } })))]
def p44o2 := [zo 3 (.mv 0),
  zo 4 (.prim (.len 9) [3]),
  zo 5 (.prim (.conv 3 70) [4]),
  zo 6 (.call true [[]] 42 [5]),
  zo 7 (.mv 0),
  zo 8 (.prim (.bin .add 9 false false) [6, 7]),
  zo 2 (.mv 8)]
def p44c5 := sq (rg p44o1) (sq (rg p44o2) (rt))
def pc44_r : List PRes := [PRes.tmp 2 []]
def pc44 : PFunc := ⟨9, pc44_r, p44c5, false⟩
def pc44_a : Ann := {
  kr := fun
    | _ => none
  ka := fun
    | _ => 0
  kh := fun
    | _ => none }
theorem pc44_ok : compFn Try.prog pc44_a Try.f44 = some pc44 := by kernel_rfl


-- 68: vedette/num.Zig
def p68o1 := [zo 2 (.mv (.const (.int .u64 0)))]
def p68o2 := [zo 3 (.mv 0),
  zo 4 (.prim (.conv 2 70) [3]),
  zo 5 (.prim (.bin .shl 70 false true) [4, .const (.int .u64 1)]),
  zo 6 (.mv 0),
  zo 7 (.prim (.bin .shr 2 false true) [6, .const (.int .u64 63)]),
  zo 8 (.prim (.conv 2 70) [7]),
  zo 9 (.prim (.bin .xor 70 false false) [5, 8]),
  zo 2 (.mv 9)]
def p68c5 := sq (rg p68o1) (sq (rg p68o2) (rt))
def pc68_r : List PRes := [PRes.tmp 2 []]
def pc68 : PFunc := ⟨10, pc68_r, p68c5, false⟩
def pc68_a : Ann := {
  kr := fun
    | _ => none
  ka := fun
    | _ => 0
  kh := fun
    | _ => none }
theorem pc68_ok : compFn Try.prog pc68_a Try.f68 = some pc68 := by kernel_rfl


-- 45: vedette/num.Int
def p45o1 := [zo 2 (.mv (.const (.string { data := { toList := [] } })))]
def p45o2 := [zo 3 (.mv 0),
  zo 4 (.call true [[]] 68 [3]),
  zo 5 (.call true [[]] 42 [4]),
  zo 2 (.mv 5)]
def p45c5 := sq (rg p45o1) (sq (rg p45o2) (rt))
def pc45_r : List PRes := [PRes.tmp 2 []]
def pc45 : PFunc := ⟨6, pc45_r, p45c5, false⟩
def pc45_a : Ann := {
  kr := fun
    | _ => none
  ka := fun
    | _ => 0
  kh := fun
    | _ => none }
theorem pc45_ok : compFn Try.prog pc45_a Try.f45 = some pc45 := by kernel_rfl


-- 56: vedette/cmd.parts
def p56o1 := [zo 2 (.mv (.const (.slice none 0 0)))]
def p56o2 := [zo 3 (.mv 0),
  zo 4 (.nilc 3),
  zo 5 (.faddr 0 4),
  zo 6 (.load false 1 5)]
def p56o3 := [zo 8 (.prim (.bin .eql 3 false true) [6, kk 1]),
  zo 7 (.mv 8)]
def p56o4 := [za 9 0 1000000 0 (.mv 0),
  za 10 9 1000000 0 (.nilc 9),
  za 11 10 1000000 0 (.faddr 4 10),
  za 12 11 1000000 4 (.faddr 0 11),
  za 13 0 1000000 0 (.mv 0),
  za 14 13 1000000 0 (.nilc 13),
  za 15 14 1000000 0 (.faddr 4 14),
  za 16 15 1000000 4 (.faddr 1 15),
  ⟨some 17, .bptrs 1 [12, 16], none, [(12, .at_ 1000000 4), (16, .at_ 1000000 5)]⟩,
  ⟨some 2, .mv 17, none, [(17, .obj 17)]⟩]
def p56o7 := [zo 19 (.prim (.bin .eql 3 false true) [6, kk 2]),
  zo 18 (.mv 19)]
def p56o8 := [za 20 0 1000000 0 (.mv 0),
  za 21 20 1000000 0 (.nilc 20),
  za 22 21 1000000 0 (.faddr 1 21),
  za 23 0 1000000 0 (.mv 0),
  za 24 23 1000000 0 (.nilc 23),
  za 25 24 1000000 0 (.faddr 4 24),
  za 26 25 1000000 4 (.faddr 0 25),
  za 27 0 1000000 0 (.mv 0),
  za 28 27 1000000 0 (.nilc 27),
  za 29 28 1000000 0 (.faddr 4 28),
  za 30 29 1000000 4 (.faddr 1 29),
  ⟨some 31, .bptrs 1 [22, 26, 30], none, [(22, .at_ 1000000 1), (26, .at_ 1000000 4), (30, .at_ 1000000 5)]⟩,
  ⟨some 2, .mv 31, none, [(31, .obj 31)]⟩]
def p56o11 := [zo 33 (.prim (.bin .eql 3 false true) [6, kk 3]),
  zo 32 (.mv 33)]
def p56o12 := [za 34 0 1000000 0 (.mv 0),
  za 35 34 1000000 0 (.nilc 34),
  za 36 35 1000000 0 (.faddr 1 35),
  za 37 0 1000000 0 (.mv 0),
  za 38 37 1000000 0 (.nilc 37),
  za 39 38 1000000 0 (.faddr 2 38),
  ⟨some 40, .bptrs 1 [36, 39], none, [(36, .at_ 1000000 1), (39, .at_ 1000000 2)]⟩,
  ⟨some 2, .mv 40, none, [(40, .obj 40)]⟩]
def p56o15 := [zo 42 (.prim (.bin .eql 3 false true) [6, kk 4]),
  zo 41 (.mv 42)]
def p56o16 := [zo 43 (.mv 0),
  zo 44 (.nilc 43),
  zo 45 (.faddr 1 44),
  zo 46 (.bptrs 1 [45]),
  zo 2 (.mv 46)]
def p56o19 := [zo 48 (.prim (.bin .eql 3 false true) [6, kk 5]),
  zo 47 (.mv 48)]
def p56o20 := [za 49 0 1000000 0 (.mv 0),
  za 50 49 1000000 0 (.nilc 49),
  za 51 50 1000000 0 (.faddr 2 50),
  za 52 0 1000000 0 (.mv 0),
  za 53 52 1000000 0 (.nilc 52),
  za 54 53 1000000 0 (.faddr 3 53),
  ⟨some 55, .bptrs 1 [51, 54], none, [(51, .at_ 1000000 2), (54, .at_ 1000000 3)]⟩,
  ⟨some 2, .mv 55, none, [(55, .obj 55)]⟩]
def p56o23 := [zo 57 (.prim (.bin .eql 3 false true) [6, kk 6]),
  zo 56 (.mv 57)]
def p56o25 := [zo 58 (.prim (.bin .eql 3 false true) [6, kk 7]),
  zo 56 (.mv 58)]
def p56o28 := [za 59 0 1000000 0 (.mv 0),
  za 60 59 1000000 0 (.nilc 59),
  za 61 60 1000000 0 (.faddr 18 60),
  za 62 61 1000000 18 (.faddr 0 61),
  za 63 0 1000000 0 (.mv 0),
  za 64 63 1000000 0 (.nilc 63),
  za 65 64 1000000 0 (.faddr 18 64),
  za 66 65 1000000 18 (.faddr 1 65),
  za 67 0 1000000 0 (.mv 0),
  za 68 67 1000000 0 (.nilc 67),
  za 69 68 1000000 0 (.faddr 18 68),
  za 70 69 1000000 18 (.faddr 2 69),
  za 71 0 1000000 0 (.mv 0),
  za 72 71 1000000 0 (.nilc 71),
  za 73 72 1000000 0 (.faddr 18 72),
  za 74 73 1000000 18 (.faddr 3 73),
  ⟨some 75, .bptrs 1 [62, 66, 70, 74], none, [(62, .at_ 1000000 18), (66, .at_ 1000000 19), (70, .at_ 1000000 20), (74, .at_ 1000000 21)]⟩,
  ⟨some 2, .mv 75, none, [(75, .obj 75)]⟩]
def p56c30 := sq (.region (some ([0], [1000000], [])) true p56o28) (rt)
def p56o46 := [zo 2 (.mv (.const (.slice none 0 0)))]
def p56c48 := sq (rg p56o46) (rt)
def p56c50 := sq (rg p56o1) (sq (sq (rg p56o2) (.block 0 (sq (rg p56o3) (.cond 7 (sq (rh p56o4) (rt)) (sq (rg p56o7) (.cond 18 (sq (rh p56o8) (rt)) (sq (rg p56o11) (.cond 32 (sq (rh p56o12) (rt)) (sq (rg p56o15) (.cond 41 (sq (rg p56o16) (rt)) (sq (rg p56o19) (.cond 47 (sq (rh p56o20) (rt)) (sq (sq (rg p56o23) (.cond 56 (.skip) (rg p56o25))) (.cond 56 p56c30 (.skip))))))))))))))) p56c48)
def pc56_r : List PRes := [PRes.tmp 2 [(0, 1)]]
def pc56 : PFunc := ⟨76, pc56_r, p56c50, false⟩
def pc56_a : Ann := {
  kr := fun
    | 14 => some ([0], [1000000], [])
    | _ => none
  ka := fun
    | _ => 0
  kh := fun
    | 0 => some (.at_ 1000000 0)
    | 9 => some (.at_ 1000000 0)
    | 10 => some (.at_ 1000000 0)
    | 11 => some (.at_ 1000000 4)
    | 12 => some (.at_ 1000000 4)
    | 13 => some (.at_ 1000000 0)
    | 14 => some (.at_ 1000000 0)
    | 15 => some (.at_ 1000000 4)
    | 16 => some (.at_ 1000000 5)
    | 17 => some (.obj 17)
    | 20 => some (.at_ 1000000 0)
    | 21 => some (.at_ 1000000 0)
    | 22 => some (.at_ 1000000 1)
    | 23 => some (.at_ 1000000 0)
    | 24 => some (.at_ 1000000 0)
    | 25 => some (.at_ 1000000 4)
    | 26 => some (.at_ 1000000 4)
    | 27 => some (.at_ 1000000 0)
    | 28 => some (.at_ 1000000 0)
    | 29 => some (.at_ 1000000 4)
    | 30 => some (.at_ 1000000 5)
    | 31 => some (.obj 31)
    | 34 => some (.at_ 1000000 0)
    | 35 => some (.at_ 1000000 0)
    | 36 => some (.at_ 1000000 1)
    | 37 => some (.at_ 1000000 0)
    | 38 => some (.at_ 1000000 0)
    | 39 => some (.at_ 1000000 2)
    | 40 => some (.obj 40)
    | 49 => some (.at_ 1000000 0)
    | 50 => some (.at_ 1000000 0)
    | 51 => some (.at_ 1000000 2)
    | 52 => some (.at_ 1000000 0)
    | 53 => some (.at_ 1000000 0)
    | 54 => some (.at_ 1000000 3)
    | 55 => some (.obj 55)
    | 59 => some (.at_ 1000000 0)
    | 60 => some (.at_ 1000000 0)
    | 61 => some (.at_ 1000000 18)
    | 62 => some (.at_ 1000000 18)
    | 63 => some (.at_ 1000000 0)
    | 64 => some (.at_ 1000000 0)
    | 65 => some (.at_ 1000000 18)
    | 66 => some (.at_ 1000000 19)
    | 67 => some (.at_ 1000000 0)
    | 68 => some (.at_ 1000000 0)
    | 69 => some (.at_ 1000000 18)
    | 70 => some (.at_ 1000000 20)
    | 71 => some (.at_ 1000000 0)
    | 72 => some (.at_ 1000000 0)
    | 73 => some (.at_ 1000000 18)
    | 74 => some (.at_ 1000000 21)
    | 75 => some (.obj 75)
    | _ => none }
theorem pc56_ok : compFn Try.prog pc56_a Try.f56 = some pc56 := by kernel_rfl


-- 57: vedette/cmd.values
def p57o1 := [zo 2 (.mv (.const (.slice none 0 0)))]
def p57o2 := [zo 3 (.mv 0),
  zo 4 (.nilc 3),
  zo 5 (.faddr 0 4),
  zo 6 (.load false 1 5)]
def p57o3 := [zo 8 (.prim (.bin .eql 3 false true) [6, kk 1]),
  zo 7 (.mv 8)]
def p57o4 := [za 9 0 1000000 0 (.mv 0),
  za 10 9 1000000 0 (.nilc 9),
  za 11 10 1000000 0 (.faddr 6 10),
  za 12 11 1000000 6 (.iaddrA 4 2 11 (kk 0)),
  za 13 0 1000000 0 (.mv 0),
  za 14 13 1000000 0 (.nilc 13),
  za 15 14 1000000 0 (.faddr 6 14),
  za 16 15 1000000 6 (.iaddrA 4 2 15 (kk 1)),
  za 17 0 1000000 0 (.mv 0),
  za 18 17 1000000 0 (.nilc 17),
  za 19 18 1000000 0 (.faddr 6 18),
  za 20 19 1000000 6 (.iaddrA 4 2 19 (kk 2)),
  za 21 0 1000000 0 (.mv 0),
  za 22 21 1000000 0 (.nilc 21),
  za 23 22 1000000 0 (.faddr 6 22),
  za 24 23 1000000 6 (.iaddrA 4 2 23 (kk 3)),
  ⟨some 25, .bptrs 1 [12, 16, 20, 24], none, [(12, .at_ 1000000 6), (16, .at_ 1000000 8), (20, .at_ 1000000 10), (24, .at_ 1000000 12)]⟩,
  ⟨some 2, .mv 25, none, [(25, .obj 25)]⟩]
def p57o7 := [zo 27 (.prim (.bin .eql 3 false true) [6, kk 3]),
  zo 26 (.mv 27)]
def p57o8 := [zo 28 (.mv 0),
  zo 29 (.nilc 28),
  zo 30 (.faddr 14 29),
  zo 31 (.bptrs 1 [30]),
  zo 2 (.mv 31)]
def p57o18 := [zo 2 (.mv (.const (.slice none 0 0)))]
def p57c22 := sq (rg p57o1) (sq (sq (rg p57o2) (.block 0 (sq (rg p57o3) (.cond 7 (sq (rh p57o4) (rt)) (sq (rg p57o7) (.cond 26 (sq (rg p57o8) (rt)) (.skip))))))) (sq (rg p57o18) (rt)))
def pc57_r : List PRes := [PRes.tmp 2 [(0, 1)]]
def pc57 : PFunc := ⟨32, pc57_r, p57c22, false⟩
def pc57_a : Ann := {
  kr := fun
    | _ => none
  ka := fun
    | _ => 0
  kh := fun
    | 0 => some (.at_ 1000000 0)
    | 9 => some (.at_ 1000000 0)
    | 10 => some (.at_ 1000000 0)
    | 11 => some (.at_ 1000000 6)
    | 12 => some (.at_ 1000000 6)
    | 13 => some (.at_ 1000000 0)
    | 14 => some (.at_ 1000000 0)
    | 15 => some (.at_ 1000000 6)
    | 16 => some (.at_ 1000000 8)
    | 17 => some (.at_ 1000000 0)
    | 18 => some (.at_ 1000000 0)
    | 19 => some (.at_ 1000000 6)
    | 20 => some (.at_ 1000000 10)
    | 21 => some (.at_ 1000000 0)
    | 22 => some (.at_ 1000000 0)
    | 23 => some (.at_ 1000000 6)
    | 24 => some (.at_ 1000000 12)
    | 25 => some (.obj 25)
    | _ => none }
theorem pc57_ok : compFn Try.prog pc57_a Try.f57 = some pc57 := by kernel_rfl


-- 34: vedette/cmd.Bytes
def p34o1 := [zo 1 (.box 57 0 []),
  zo 2 (.mv (.const (.string { data := { toList := [] } }))),
  zo 3 (.mv (kk 0))]
def p34o2 := [zo 9 (.load true 22 1),
  zo 10 (.call true [[]] 35 [9]),
  zo 11 (.prim (.un .not) [10])]
def p34o3 := [zo 2 (.mv (.const (.string { data := { toList := [] } }))),
  zo 3 (.mv (kk 11))]
def p34o9 := [za 12 1 1 0 (.faddr 0 1),
  za 13 12 1 0 (.load false 1 12),
  ⟨some 14, .call false [[]] 45 [13], none, [(13, .imm)]⟩,
  za 15 1 1 0 (.faddr 16 1),
  za 16 15 1 16 (.load false 1 15),
  ⟨some 17, .call false [[]] 45 [16], none, [(16, .imm)]⟩,
  ⟨some 18, .prim (.bin .add 9 false false) [14, 17], none, [(14, .imm), (17, .imm)]⟩,
  za 19 1 1 0 (.faddr 17 1),
  za 20 19 1 17 (.load false 1 19),
  ⟨some 21, .call false [[]] 45 [20], none, [(20, .imm)]⟩,
  ⟨some 22, .prim (.bin .add 9 false false) [18, 21], none, [(18, .imm), (21, .imm)]⟩,
  ⟨some 4, .mv 22, none, [(22, .imm)]⟩]
def p34o10 := [zo 23 (.gcall false false [1, 300000, 300001, 300002, 300003, 300004, 300005, 300006, 300007] [[]] 56 [1]),
  zo 24 (.lenS 23),
  zo 25 (.mv (kk 0))]
def p34o11 := [zo 26 (.prim (.bin .lss 3 false false) [25, 24])]
def p34o15 := [zo 27 (.iaddrS 1 23 25),
  zo 28 (.load false 1 27),
  zo 6 (.mv 28)]
def p34o16 := [zo 29 (.mv 4),
  zo 30 (.mv 6),
  zo 31 (.nilc 30),
  zo 32 (.load false 1 31),
  zo 33 (.call true [[]] 45 [32]),
  zo 34 (.prim (.bin .add 9 false false) [29, 33]),
  zo 4 (.mv 34)]
def p34o19 := [zo 35 (.prim (.bin .add 3 false true) [25, kk 1]),
  zo 25 (.mv 35)]
def p34o26 := [zo 36 (.gcall false false [1, 300000, 300001, 300002, 300003, 300004, 300005, 300006, 300007] [[]] 57 [1]),
  zo 37 (.lenS 36),
  zo 38 (.mv (kk 0))]
def p34o27 := [zo 39 (.prim (.bin .lss 3 false false) [38, 37])]
def p34o31 := [zo 40 (.iaddrS 1 36 38),
  zo 41 (.load false 1 40),
  zo 8 (.mv 41)]
def p34o32 : List POper := [⟨some 42, .mv 4, none, [(4, .imm)]⟩,
  ⟨some 43, .mv 8, none, [(8, .obj 1)]⟩,
  ⟨some 44, .nilc 43, none, [(43, .obj 1)]⟩,
  ⟨some 45, .faddr 1 44, none, [(44, .obj 1)]⟩,
  ⟨some 46, .load false 1 45, none, [(45, .obj 1)]⟩,
  ⟨some 47, .call false [[]] 44 [46], none, [(46, .imm)]⟩,
  ⟨some 48, .mv 8, none, [(8, .obj 1)]⟩,
  ⟨some 49, .nilc 48, none, [(48, .obj 1)]⟩,
  ⟨some 50, .faddr 0 49, none, [(49, .obj 1)]⟩,
  ⟨some 51, .load false 1 50, none, [(50, .obj 1)]⟩,
  ⟨some 52, .call false [[]] 45 [51], none, [(51, .imm)]⟩,
  ⟨some 53, .prim (.bin .add 9 false false) [47, 52], none, [(47, .imm), (52, .imm)]⟩,
  ⟨some 54, .prim (.bin .add 9 false false) [42, 53], none, [(42, .imm), (53, .imm)]⟩,
  ⟨some 4, .mv 54, none, [(54, .imm)]⟩]
def p34o35 := [zo 55 (.prim (.bin .add 3 false true) [38, kk 1]),
  zo 38 (.mv 55)]
def p34o42 := [zo 56 (.mv 4),
  zo 2 (.mv 56),
  zo 3 (.mv (kk 0))]
def p34c45 := sq (sq (.region (some ([1, 4], [1, 300000], [])) false p34o26) (.block 2 (.loop (sq (.region (some ([4, 36, 37, 38], [1, 300000], [])) false p34o27) (sq (.cond 39 (.skip) (.exit 2)) (sq (.block 3 (sq (rg p34o31) (rh p34o32))) (rg p34o35))))))) (sq (rg p34o42) (rt))
def p34c49 := sq (rg p34o1) (sq (sq (rg p34o2) (.cond 11 (sq (rg p34o3) (rt)) (.skip))) (sq (rh p34o9) (sq (sq (rg p34o10) (.block 0 (.loop (sq (.region (some ([1, 4, 23, 24, 25], [1, 300000], [])) false p34o11) (sq (.cond 26 (.skip) (.exit 0)) (sq (.block 1 (sq (rg p34o15) (rg p34o16))) (rg p34o19))))))) p34c45)))
def pc34_r : List PRes := [PRes.tmp 2 [], PRes.tmp 3 []]
def pc34 : PFunc := ⟨57, pc34_r, p34c49, false⟩
def pc34_a : Ann := {
  kr := fun
    | 5 => some ([1, 4, 23, 24, 25], [1, 300000], [])
    | 9 => some ([1, 4], [1, 300000], [])
    | 10 => some ([4, 36, 37, 38], [1, 300000], [])
    | _ => none
  ka := fun
    | _ => 0
  kh := fun x => [(1, Hint.at_ 1 0), (4, .imm), (8, .obj 1), (12, .at_ 1 0), (13, .imm), (14, .imm), (15, .at_ 1 16), (16, .imm), (17, .imm), (18, .imm), (19, .at_ 1 17), (20, .imm), (21, .imm), (22, .imm), (42, .imm), (43, .obj 1), (44, .obj 1), (45, .obj 1), (46, .imm), (47, .imm), (48, .obj 1), (49, .obj 1), (50, .obj 1), (51, .imm), (52, .imm), (53, .imm), (54, .imm)].lookup x
  gf := fun d f => match d, f with
    | some 23, 56 => some (false, false, [1, 300000, 300001, 300002, 300003, 300004, 300005, 300006, 300007])
    | some 36, 57 => some (false, false, [1, 300000, 300001, 300002, 300003, 300004, 300005, 300006, 300007])
    | _, _ => none }
theorem pc34_ok : compFn Try.prog pc34_a Try.f34 = some pc34 := by kernel_rfl


-- 37: vedette/cmd.Watches
def p37o1 := [zo 1 (.box 57 0 []),
  zo 2 (.mv kf)]
def p37o2 := [zo 3 (.faddr 0 1),
  zo 4 (.load false 1 3),
  zo 5 (.prim (.bin .geq 3 false true) [4, kk 6]),
  zo 6 (.mv 5),
  zt 7 6 (.faddr 0 1),
  zt 8 6 (.load false 1 7),
  zt 9 6 (.prim (.bin .leq 3 false true) [8, kk 8]),
  zo 10 (.pick 6 9 kf),
  zo 2 (.mv 10)]
def pc37_r : List PRes := [PRes.tmp 2 []]
def pc37 : PFunc := ⟨11, pc37_r, (sq (rg p37o1) (sq (rg p37o2) (rt))), false⟩
def pc37_a : Ann := {
  kr := fun
    | _ => none
  ka := fun
    | _ => 0
  kh := fun
    | _ => none }
theorem pc37_ok : compFn Try.prog pc37_a Try.f37 = some pc37 := by kernel_rfl


-- 39: vedette/cmd.Same
def p39o1 := [zo 2 (.box 57 0 []),
  zo 3 (.box 57 1 []),
  zo 4 (.mv kf)]
def p39o2 := [zo 5 (.load true 22 2),
  zo 6 (.load true 22 3),
  zo 7 (.prim (.bin .eql 57 false false) [5, 6]),
  zo 4 (.mv 7)]
def pc39_r : List PRes := [PRes.tmp 4 []]
def pc39 : PFunc := ⟨8, pc39_r, (sq (rg p39o1) (sq (rg p39o2) (rt))), false⟩
def pc39_a : Ann := {
  kr := fun
    | _ => none
  ka := fun
    | _ => 0
  kh := fun
    | _ => none }
theorem pc39_ok : compFn Try.prog pc39_a Try.f39 = some pc39 := by kernel_rfl


-- 70: vedette/num.Get
def p70o1 := [zo 2 (.mv (.const (.int .u64 0))),
  zo 3 (.mv (kk 0)),
  zo 4 (.mv (kk 0))]
def p70o2 := [zo 5 (.mv (.const (.int .u64 0))),
  zo 6 (.mv (kk 0))]
def p70o4 := [zo 9 (.mv 0),
  zo 10 (.s2b 5 9),
  zo 11 (.lenS 10),
  zo 12 (.mv (kk 0))]
def p70o5 := [zo 13 (.prim (.bin .lss 3 false false) [12, 11])]
def p70o9 := [zo 14 (.mv 12),
  zo 15 (.iaddrS 1 10 12),
  zo 16 (.load false 1 15),
  zo 7 (.mv 14),
  zo 8 (.mv 16)]
def p70o10 := [zo 18 (.mv 7),
  zo 19 (.prim (.bin .eql 3 false true) [18, kk 9]),
  zo 20 (.mv 19),
  zt 21 20 (.mv 8),
  zt 22 20 (.prim (.bin .gtr 5 false true) [21, .const (.int .u8 1)]),
  zo 23 (.pick 20 22 kf),
  zo 17 (.mv 23)]
def p70o12 := [zo 24 (.mv 7),
  zo 25 (.prim (.bin .gtr 3 false true) [24, kk 0]),
  zo 26 (.mv 25),
  zt 27 26 (.mv 8),
  zt 28 26 (.prim (.bin .eql 5 false true) [27, .const (.int .u8 0)]),
  zo 29 (.pick 26 28 kf),
  zo 17 (.mv 29)]
def p70c12 : PCode := .region (some ([5, 6, 7, 8, 10, 11, 12], [], [])) false p70o12
def p70o15 := [zo 2 (.mv (.const (.int .u64 0))),
  zo 3 (.mv (kk 0)),
  zo 4 (.mv (kk 11))]
def p70o18 := [zo 31 (.mv 8),
  zo 32 (.prim (.bin .lss 5 false true) [31, .const (.int .u8 128)]),
  zo 30 (.mv 32)]
def p70o19 := [zo 33 (.mv 5),
  zo 34 (.mv 8),
  zo 35 (.prim (.conv 5 70) [34]),
  zo 36 (.mv 7),
  zo 37 (.prim (.bin .mul 3 true false) [kk 7, 36]),
  zo 38 (.prim (.bin .shl 70 false false) [35, 37]),
  zo 39 (.prim (.bin .or 70 false false) [33, 38]),
  zo 5 (.mv 39)]
def p70o20 := [zo 40 (.mv 7),
  zo 41 (.prim (.bin .add 3 false true) [40, kk 1]),
  zo 6 (.mv 41)]
def p70c26 := sq (.region (some ([5, 6, 7, 8, 10, 11, 12], [], [])) false p70o18) (.cond 30 (sq (rg p70o19) (sq (rg p70o20) (.exit 0))) (.skip))
def p70c27 : PCode := .cond 17 (sq (rg p70o15) (rt)) p70c26
def p70o30 := [zo 42 (.mv 5),
  zo 43 (.mv 8),
  zo 44 (.prim (.bin .andNot 5 false true) [43, .const (.int .u8 128)]),
  zo 45 (.prim (.conv 5 70) [44]),
  zo 46 (.mv 7),
  zo 47 (.prim (.bin .mul 3 true false) [kk 7, 46]),
  zo 48 (.prim (.bin .shl 70 false false) [45, 47]),
  zo 49 (.prim (.bin .or 70 false false) [42, 48]),
  zo 5 (.mv 49)]
def p70c30 := rg p70o30
def p70o34 := [zo 50 (.prim (.bin .add 3 false true) [12, kk 1]),
  zo 12 (.mv 50)]
def p70c34 := rg p70o34
def p70c37 := sq (.region (some ([5, 6, 10, 11, 12], [], [])) false p70o5) (sq (.cond 13 (.skip) (.exit 0)) (sq (.block 1 (sq (rg p70o9) (sq (.block 2 (sq (sq (rg p70o10) (.cond 17 (.skip) p70c12)) p70c27)) p70c30))) p70c34))
def p70o41 := [zo 51 (.mv 6),
  zo 52 (.prim (.bin .eql 3 false true) [51, kk 0])]
def p70o42 := [zo 2 (.mv (.const (.int .u64 0))),
  zo 3 (.mv (kk 0)),
  zo 4 (.mv (kk 10))]
def p70o48 := [zo 53 (.mv 5),
  zo 54 (.mv 6),
  zo 2 (.mv 53),
  zo 3 (.mv 54),
  zo 4 (.mv (kk 0))]
def p70c51 := sq (sq (.region (some ([5, 6], [], [])) false p70o41) (.cond 52 (sq (rg p70o42) (rt)) (.skip))) (sq (rg p70o48) (rt))
def p70c56 := sq (rg p70o1) (.scope (sq (rg p70o2) (sq (.label) (sq (sq (rg p70o4) (.block 0 (.loop p70c37))) p70c51))))
def pc70_r : List PRes := [PRes.tmp 2 [], PRes.tmp 3 [], PRes.tmp 4 []]
def pc70 : PFunc := ⟨55, pc70_r, p70c56, false⟩
def pc70_a : Ann := {
  kr := fun
    | 3 => some ([5, 6, 10, 11, 12], [], [])
    | 6 => some ([5, 6, 7, 8, 10, 11, 12], [], [])
    | 8 => some ([5, 6, 7, 8, 10, 11, 12], [], [])
    | 13 => some ([5, 6], [], [])
    | _ => none
  ka := fun
    | _ => 0
  kh := fun
    | _ => none }
theorem pc70_ok : compFn Try.prog pc70_a Try.f70 = some pc70 := by kernel_rfl


-- 74: vedette/num.Zag
def p74o1 := [zo 2 (.mv (kk 0))]
def p74o2 := [zo 3 (.mv 0),
  zo 4 (.prim (.bin .shr 70 false true) [3, .const (.int .u64 1)]),
  zo 5 (.prim (.conv 70 2) [4]),
  zo 6 (.mv 0),
  zo 7 (.prim (.bin .and 70 false true) [6, .const (.int .u64 1)]),
  zo 8 (.prim (.conv 70 2) [7]),
  zo 9 (.prim (.un .neg) [8]),
  zo 10 (.prim (.bin .xor 2 false false) [5, 9]),
  zo 2 (.mv 10)]
def p74c5 := sq (rg p74o1) (sq (rg p74o2) (rt))
def pc74_r : List PRes := [PRes.tmp 2 []]
def pc74 : PFunc := ⟨11, pc74_r, p74c5, false⟩
def pc74_a : Ann := {
  kr := fun
    | _ => none
  ka := fun
    | _ => 0
  kh := fun
    | _ => none }
theorem pc74_ok : compFn Try.prog pc74_a Try.f74 = some pc74 := by kernel_rfl


-- 65: vedette/num.Ints
def p65o1 := [zo 2 (.mv (kk 0)),
  zo 3 (.mv (kk 0)),
  zo 4 (.mv (kk 0))]
def p65o2 := [zo 9 (.mv 0),
  zo 10 (.call true [[]] 70 [9]),
  zo 8 (.mv 10),
  zo 11 (.ext 8 0),
  zo 12 (.ext 8 1),
  zo 13 (.ext 8 2),
  zo 5 (.mv 11),
  zo 6 (.mv 12),
  zo 7 (.mv 13)]
def p65o3 := [zo 14 (.mv 5),
  zo 15 (.call true [[]] 74 [14]),
  zo 16 (.mv 6),
  zo 17 (.mv 7),
  zo 2 (.mv 15),
  zo 3 (.mv 16),
  zo 4 (.mv 17)]
def p65c7 := sq (rg p65o1) (sq (rg p65o2) (sq (rg p65o3) (rt)))
def pc65_r : List PRes := [PRes.tmp 2 [], PRes.tmp 3 [], PRes.tmp 4 []]
def pc65 : PFunc := ⟨18, pc65_r, p65c7, false⟩
def pc65_a : Ann := {
  kr := fun
    | _ => none
  ka := fun
    | _ => 0
  kh := fun
    | _ => none }
theorem pc65_ok : compFn Try.prog pc65_a Try.f65 = some pc65 := by kernel_rfl


-- 64: vedette/cmd.Read$1
def p64o1 := [zo 2 (.mv (kk 0)),
  zo 3 (.mv (kk 0))]
def p64o2 := [zo 8 (.load false 1 0),
  zo 9 (.load false 1 1),
  zo 10 (.prim (.slice 9 true false) [8, 9]),
  zo 11 (.call true [[]] 65 [10]),
  zo 7 (.mv 11),
  zo 12 (.ext 7 0),
  zo 13 (.ext 7 1),
  zo 14 (.ext 7 2),
  zo 4 (.mv 12),
  zo 5 (.mv 13),
  zo 6 (.mv 14)]
def p64o3 := [zo 15 (.load false 1 1),
  zo 16 (.mv 5),
  zo 17 (.prim (.bin .add 3 false false) [15, 16]),
  zs (.store 1 1 17)]
def p64o4 := [zo 18 (.mv 4),
  zo 19 (.mv 6),
  zo 2 (.mv 18),
  zo 3 (.mv 19)]
def p64c9 := sq (rg p64o1) (sq (rg p64o2) (sq (rg p64o3) (sq (rg p64o4) (rt))))
def pc64_r : List PRes := [PRes.tmp 2 [], PRes.tmp 3 []]
def pc64 : PFunc := ⟨20, pc64_r, p64c9, false⟩
def pc64_a : Ann := {
  kr := fun
    | _ => none
  ka := fun
    | _ => 0
  kh := fun
    | _ => none }
theorem pc64_ok : compFn Try.prog pc64_a Try.f64 = some pc64 := by kernel_rfl


-- 66: vedette/cmd.Read$2
def p66o1 := [zo 3 (.mv (kk 0))]
def p66o2 := [zo 8 (.mv 0),
  zo 9 (.lenS 8),
  zo 10 (.mv (kk 0))]
def p66o3 := [zo 11 (.prim (.bin .lss 3 false false) [10, 9])]
def p66o7 := [zo 12 (.iaddrS 1 8 10),
  zo 13 (.load false 1 12),
  zo 5 (.mv 13)]
def p66o8 := [zo 15 (.load false 1 1),
  zo 16 (.gcallv false false [300000, 300001, 300002, 300003, 300004, 300005, 300006, 300007, 1000003, 1000004] [] 15 []),
  zo 14 (.mv 16),
  zo 17 (.ext 14 0),
  zo 18 (.ext 14 1),
  zo 6 (.mv 17),
  zo 7 (.mv 18)]
def p66o9 := [zo 19 (.mv 7),
  zo 20 (.prim (.bin .neq 37 false true) [19, kk 0])]
def p66o10 := [zo 21 (.mv 7),
  zo 3 (.mv 21)]
def p66o16 := [zo 22 (.mv 5),
  zo 23 (.mv 6),
  zo 24 (.prim .max [23, .const (.int .i64 (-1000001))]),
  zo 25 (.prim .min [24, kk 1000001]),
  zo 26 (.nilc 22),
  zs (.store 1 26 25)]
def p66o21 := [zo 27 (.prim (.bin .add 3 false true) [10, kk 1]),
  zo 10 (.mv 27)]
def p66c24 := sq (.region (some ([1, 8, 9, 10], [1000000, 1000001, 1000002, 1000003, 1000004], [])) false p66o3) (sq (.cond 11 (.skip) (.exit 0)) (sq (.block 1 (sq (rg p66o7) (sq (rg p66o8) (sq (sq (rg p66o9) (.cond 20 (sq (rg p66o10) (rt)) (.skip))) (rg p66o16))))) (rg p66o21)))
def p66o28 := [zo 3 (.mv (kk 0))]
def p66c30 := sq (rg p66o28) (rt)
def p66c32 := sq (rg p66o1) (sq (sq (rg p66o2) (.block 0 (.loop p66c24))) p66c30)
def pc66_r : List PRes := [PRes.tmp 3 []]
def pc66 : PFunc := ⟨28, pc66_r, p66c32, false⟩
def pc66_a : Ann := {
  kr := fun
    | 2 => some ([1, 8, 9, 10], [1000000, 1000001, 1000002, 1000003, 1000004], [])
    | _ => none
  ka := fun
    | _ => 0
  kh := fun
    | _ => none
  gv := fun d f => match d, f with
    | some 16, 15 => some (false, false, [300000, 300001, 300002, 300003, 300004, 300005, 300006, 300007, 1000003, 1000004])
    | _, _ => none }
theorem pc66_ok : compFn Try.prog pc66_a Try.f66 = some pc66 := by kernel_rfl


-- 67: vedette/num.Texts
def p67o1 := [zo 4 (.mv (.const (.string { data := { toList := [] } }))),
  zo 5 (.mv (kk 0)),
  zo 6 (.mv (kk 0))]
def p67o2 := [zo 12 (.mv 0),
  zo 13 (.call true [[]] 70 [12]),
  zo 11 (.mv 13),
  zo 14 (.ext 11 0),
  zo 15 (.ext 11 1),
  zo 16 (.ext 11 2),
  zo 7 (.mv 14),
  zo 8 (.mv 15),
  zo 9 (.mv 16)]
def p67o3 := [zo 18 (.mv 9),
  zo 19 (.prim (.bin .neq 37 false true) [18, kk 0]),
  zo 17 (.mv 19)]
def p67o4 := [zo 20 (.mv 9),
  zo 4 (.mv (.const (.string { data := { toList := [] } }))),
  zo 5 (.mv (kk 0)),
  zo 6 (.mv 20)]
def p67o7 := [zo 22 (.mv 7),
  zo 23 (.mv 1),
  zo 24 (.prim .max [23, kk 0]),
  zo 25 (.prim (.conv 3 70) [24]),
  zo 26 (.prim (.bin .gtr 70 false false) [22, 25]),
  zo 21 (.mv 26)]
def p67o8 := [zo 4 (.mv (.const (.string { data := { toList := [] } }))),
  zo 5 (.mv (kk 0)),
  zo 6 (.mv (kk 13))]
def p67o11 := [zo 28 (.mv 7),
  zo 29 (.mv 0),
  zo 30 (.prim (.len 9) [29]),
  zo 31 (.mv 8),
  zo 32 (.prim (.bin .sub 3 false false) [30, 31]),
  zo 33 (.prim (.conv 3 70) [32]),
  zo 34 (.prim (.bin .gtr 70 false false) [28, 33]),
  zo 27 (.mv 34)]
def p67o12 := [zo 4 (.mv (.const (.string { data := { toList := [] } }))),
  zo 5 (.mv (kk 0)),
  zo 6 (.mv (kk 10))]
def p67o23 := [zo 35 (.mv 8),
  zo 36 (.mv 7),
  zo 37 (.prim (.conv 70 3) [36]),
  zo 38 (.prim (.bin .add 3 false false) [35, 37]),
  zo 10 (.mv 38)]
def p67o24 := [zo 39 (.mv 0),
  zo 40 (.mv 8),
  zo 41 (.mv 10),
  zo 42 (.prim (.slice 9 true true) [39, 40, 41]),
  zo 43 (.mv 10),
  zo 4 (.mv 42),
  zo 5 (.mv 43),
  zo 6 (.mv (kk 0))]
def p67c30 := sq (rg p67o1) (sq (rg p67o2) (sq (.block 0 (sq (rg p67o3) (.cond 17 (sq (rg p67o4) (rt)) (sq (rg p67o7) (.cond 21 (sq (rg p67o8) (rt)) (sq (rg p67o11) (.cond 27 (sq (rg p67o12) (rt)) (.skip)))))))) (sq (rg p67o23) (sq (rg p67o24) (rt)))))
def pc67_r : List PRes := [PRes.tmp 4 [], PRes.tmp 5 [], PRes.tmp 6 []]
def pc67 : PFunc := ⟨44, pc67_r, p67c30, false⟩
def pc67_a : Ann := {
  kr := fun
    | _ => none
  ka := fun
    | _ => 0
  kh := fun
    | _ => none }
theorem pc67_ok : compFn Try.prog pc67_a Try.f67 = some pc67 := by kernel_rfl


-- 40: vedette/cmd.Read
def p40o1 := [zo 1 (.box 9 0 []),
  zo 2 (.alloc 57 (.agg { toList := [.int .i64 0, .int .i64 0, .int .i64 0, .int .i64 0, .int .i64 0, .int .i64 0, .int .i64 0, .string { data := { toList := [] } }, .int .i64 0, .string { data := { toList := [] } }, .int .i64 0, .string { data := { toList := [] } }, .int .i64 0, .string { data := { toList := [] } }, .int .i64 0, .string { data := { toList := [] } }, .int .i64 0, .int .i64 0, .int .i64 0, .int .i64 0, .int .i64 0, .int .i64 0] }) []),
  zo 3 (.mv (kk 0)),
  zo 4 (.mv (kk 0))]
def p40o2 := [zo 5 (.alloc 57 (.agg { toList := [.int .i64 0, .int .i64 0, .int .i64 0, .int .i64 0, .int .i64 0, .int .i64 0, .int .i64 0, .string { data := { toList := [] } }, .int .i64 0, .string { data := { toList := [] } }, .int .i64 0, .string { data := { toList := [] } }, .int .i64 0, .string { data := { toList := [] } }, .int .i64 0, .string { data := { toList := [] } }, .int .i64 0, .int .i64 0, .int .i64 0, .int .i64 0, .int .i64 0, .int .i64 0] }) [])]
def p40o3 := [zo 6 (.alloc 3 (.int .i64 0) []),
  zs (.store 1 6 (kk 0))]
def p40o4 := [zo 18 (.mkfn 64 [1, 6]),
  zo 7 (.alloc 99 .nilFunc []),
  zs (.store 1 7 18)]
def p40o5 := [zo 19 (.mkfn 66 [7]),
  zo 8 (.mv 19)]
def p40o6 := [zo 20 (.mv 8),
  zo 21 (.faddr 0 5),
  zo 22 (.faddr 16 5),
  zo 23 (.faddr 17 5),
  zo 24 (.bptrs 1 [21, 22, 23]),
  zo 25 (.gcallv false false [1, 5, 6, 7, 24, 300000, 300001, 300002, 300003, 300004, 300005, 300006, 300007] [[(0, 1)]] 20 [24]),
  zo 9 (.mv 25)]
def p40o7 := [zo 26 (.mv 9),
  zo 27 (.prim (.bin .neq 37 false true) [26, kk 0])]
def p40o8 := [zo 28 (.build (.agg { toList := [.int .i64 0, .int .i64 0, .int .i64 0, .int .i64 0, .int .i64 0, .int .i64 0, .int .i64 0, .string { data := { toList := [] } }, .int .i64 0, .string { data := { toList := [] } }, .int .i64 0, .string { data := { toList := [] } }, .int .i64 0, .string { data := { toList := [] } }, .int .i64 0, .string { data := { toList := [] } }, .int .i64 0, .int .i64 0, .int .i64 0, .int .i64 0, .int .i64 0, .int .i64 0] }) []),
  zo 29 (.mv 9),
  zs (.store 22 2 28),
  zo 3 (.mv (kk 0)),
  zo 4 (.mv 29)]
def p40o15 := [zo 30 (.mv 8),
  zo 31 (.gcall false false [5, 300000, 300001, 300002, 300003, 300004, 300005, 300006, 300007] [[]] 56 [5]),
  zo 32 (.gcallv false false [1, 5, 6, 7, 300000, 300001, 300002, 300003, 300004, 300005, 300006, 300007] [[(0, 1)]] 30 [31]),
  zo 10 (.mv 32)]
def p40o16 := [zo 33 (.mv 10),
  zo 34 (.prim (.bin .neq 37 false true) [33, kk 0])]
def p40o17 := [zo 35 (.build (.agg { toList := [.int .i64 0, .int .i64 0, .int .i64 0, .int .i64 0, .int .i64 0, .int .i64 0, .int .i64 0, .string { data := { toList := [] } }, .int .i64 0, .string { data := { toList := [] } }, .int .i64 0, .string { data := { toList := [] } }, .int .i64 0, .string { data := { toList := [] } }, .int .i64 0, .string { data := { toList := [] } }, .int .i64 0, .int .i64 0, .int .i64 0, .int .i64 0, .int .i64 0, .int .i64 0] }) []),
  zo 36 (.mv 10),
  zs (.store 22 2 35),
  zo 3 (.mv (kk 0)),
  zo 4 (.mv 36)]
def p40c22 := sq (.region (some ([1, 2, 5, 6, 7, 10], [1, 2, 5, 6, 7, 24, 300000], [])) false p40o16) (.cond 34 (sq (rg p40o17) (rt)) (.skip))
def p40o24 := [zo 37 (.gcall false false [5, 300000, 300001, 300002, 300003, 300004, 300005, 300006, 300007] [[]] 57 [5]),
  zo 38 (.lenS 37),
  zo 39 (.mv (kk 0))]
def p40o25 := [zo 40 (.prim (.bin .lss 3 false false) [39, 38])]
def p40o29 := [zo 41 (.iaddrS 1 37 39),
  zo 42 (.load false 1 41),
  zo 12 (.mv 42)]
def p40o30 := [zo 44 (.load false 1 1),
  zo 45 (.load false 1 6),
  zo 46 (.prim (.slice 9 true false) [44, 45]),
  zo 47 (.call true [[], []] 67 [46, kk 12]),
  zo 43 (.mv 47),
  zo 48 (.ext 43 0),
  zo 49 (.ext 43 1),
  zo 50 (.ext 43 2),
  zo 13 (.mv 48),
  zo 14 (.mv 49),
  zo 15 (.mv 50)]
def p40o31 := [zo 51 (.load false 1 6),
  zo 52 (.mv 14),
  zo 53 (.prim (.bin .add 3 false false) [51, 52]),
  zs (.store 1 6 53)]
def p40o32 := [zo 54 (.mv 15),
  zo 55 (.prim (.bin .eql 37 false true) [54, kk 0])]
def p40o33 := [zo 56 (.mv 12),
  zo 57 (.mv 13),
  zo 58 (.nilc 56),
  zo 59 (.faddr 1 58),
  zs (.store 1 59 57)]
def p40o34 := [zo 61 (.mv 12),
  zo 62 (.load false 1 7),
  zo 63 (.gcallv false false [1, 6, 300000, 300001, 300002, 300003, 300004, 300005, 300006, 300007] [] 62 []),
  zo 60 (.mv 63),
  zo 64 (.ext 60 0),
  zo 65 (.ext 60 1),
  zo 66 (.nilc 61),
  zo 67 (.faddr 0 66),
  zs (.store 1 67 64),
  zo 15 (.mv 65)]
def p40o39 := [zo 68 (.mv 15),
  zo 69 (.prim (.bin .neq 37 false true) [68, kk 0])]
def p40o40 := [zo 70 (.build (.agg { toList := [.int .i64 0, .int .i64 0, .int .i64 0, .int .i64 0, .int .i64 0, .int .i64 0, .int .i64 0, .string { data := { toList := [] } }, .int .i64 0, .string { data := { toList := [] } }, .int .i64 0, .string { data := { toList := [] } }, .int .i64 0, .string { data := { toList := [] } }, .int .i64 0, .string { data := { toList := [] } }, .int .i64 0, .int .i64 0, .int .i64 0, .int .i64 0, .int .i64 0, .int .i64 0] }) []),
  zo 71 (.mv 15),
  zs (.store 22 2 70),
  zo 3 (.mv (kk 0)),
  zo 4 (.mv 71)]
def p40c45 := sq (.region (some ([1, 2, 5, 6, 7, 15, 37, 38, 39], [1, 2, 5, 6, 7, 300000], [])) false p40o39) (.cond 69 (sq (rg p40o40) (rt)) (.skip))
def p40o51 := [zo 72 (.prim (.bin .add 3 false true) [39, kk 1]),
  zo 39 (.mv 72)]
def p40c51 := rg p40o51
def p40c54 := sq (.region (some ([1, 2, 5, 6, 7, 37, 38, 39], [1, 2, 5, 6, 7, 300000], [])) false p40o25) (sq (.cond 40 (.skip) (.exit 0)) (sq (.block 1 (sq (rg p40o29) (sq (rg p40o30) (sq (rg p40o31) (sq (sq (rg p40o32) (.cond 55 (sq (rg p40o33) (rg p40o34)) (.skip))) p40c45))))) p40c51))
def p40o58 := [zo 74 (.load true 22 5),
  zo 75 (.call true [[]] 34 [74]),
  zo 73 (.mv 75),
  zo 76 (.ext 73 0),
  zo 77 (.ext 73 1),
  zo 16 (.mv 76),
  zo 17 (.mv 77)]
def p40o59 := [zo 78 (.mv 17),
  zo 79 (.prim (.bin .neq 37 false true) [78, kk 0]),
  zo 80 (.mv 79),
  zf 81 80 (.mv 16),
  zf 82 80 (.load false 1 1),
  zf 83 80 (.load false 1 6),
  zf 84 80 (.prim (.slice 9 false true) [82, 83]),
  zf 85 80 (.prim (.bin .neq 9 false false) [81, 84]),
  zo 86 (.pick 80 kt 85)]
def p40o60 := [zo 87 (.build (.agg { toList := [.int .i64 0, .int .i64 0, .int .i64 0, .int .i64 0, .int .i64 0, .int .i64 0, .int .i64 0, .string { data := { toList := [] } }, .int .i64 0, .string { data := { toList := [] } }, .int .i64 0, .string { data := { toList := [] } }, .int .i64 0, .string { data := { toList := [] } }, .int .i64 0, .string { data := { toList := [] } }, .int .i64 0, .int .i64 0, .int .i64 0, .int .i64 0, .int .i64 0, .int .i64 0] }) []),
  zs (.store 22 2 87),
  zo 3 (.mv (kk 0)),
  zo 4 (.mv (kk 11))]
def p40o67 := [za 88 5 5 0 (.load true 22 5),
  za 89 6 6 0 (.load false 1 6),
  zn (.store 22 2 88) [(2, .at_ 2 0), (88, .imm)],
  ⟨some 3, .mv 89, none, [(89, .imm)]⟩,
  zo 4 (.mv (kk 0))]
def p40c70 := sq (sq (.region (some ([1, 2, 5, 6], [1, 2, 5, 6, 7, 300000], [])) false p40o58) (sq (rg p40o59) (.cond 86 (sq (rg p40o60) (rt)) (.skip)))) (sq (rh p40o67) (rt))
def p40c71 := sq (sq (rg p40o24) (.block 0 (.loop p40c54))) p40c70
def p40c78 := sq (rg p40o1) (sq (rg p40o2) (sq (rg p40o3) (sq (rg p40o4) (sq (rg p40o5) (sq (sq (rg p40o6) (sq (rg p40o7) (.cond 27 (sq (rg p40o8) (rt)) (.skip)))) (sq (sq (rg p40o15) p40c22) p40c71))))))
def pc40_r : List PRes := [PRes.cell 2 true 22 [], PRes.tmp 3 [], PRes.tmp 4 []]
def pc40 : PFunc := ⟨90, pc40_r, p40c78, false⟩
def pc40_a : Ann := {
  kr := fun
    | 9 => some ([1, 2, 5, 6, 7, 10], [1, 2, 5, 6, 7, 24, 300000], [])
    | 12 => some ([1, 2, 5, 6, 7, 37, 38, 39], [1, 2, 5, 6, 7, 300000], [])
    | 19 => some ([1, 2, 5, 6, 7, 15, 37, 38, 39], [1, 2, 5, 6, 7, 300000], [])
    | 22 => some ([1, 2, 5, 6], [1, 2, 5, 6, 7, 300000], [])
    | _ => none
  ka := fun
    | _ => 0
  kh := fun x => [(2, Hint.at_ 2 0), (5, .at_ 5 0), (6, .at_ 6 0), (88, .imm), (89, .imm)].lookup x
  gf := fun d f => match d, f with
    | some 31, 56 => some (false, false, [5, 300000, 300001, 300002, 300003, 300004, 300005, 300006, 300007])
    | some 37, 57 => some (false, false, [5, 300000, 300001, 300002, 300003, 300004, 300005, 300006, 300007])
    | _, _ => none
  gv := fun d f => match d, f with
    | some 25, 20 => some (false, false, [1, 5, 6, 7, 24, 300000, 300001, 300002, 300003, 300004, 300005, 300006, 300007])
    | some 32, 30 => some (false, false, [1, 5, 6, 7, 300000, 300001, 300002, 300003, 300004, 300005, 300006, 300007])
    | some 63, 62 => some (false, false, [1, 6, 300000, 300001, 300002, 300003, 300004, 300005, 300006, 300007])
    | _, _ => none }
theorem pc40_ok : compFn Try.prog pc40_a Try.f40 = some pc40 := by kernel_rfl


-- 32: vedette/vedettelaw10.known
def p32o1 := [zo 0 (.mv kf)]
def p32o2 := [zo 12 (.build (.agg { toList := [.int .i64 0, .int .i64 0, .int .i64 0, .int .i64 0, .int .i64 0, .int .i64 0, .int .i64 0, .string { data := { toList := [] } }, .int .i64 0, .string { data := { toList := [] } }, .int .i64 0, .string { data := { toList := [] } }, .int .i64 0, .string { data := { toList := [] } }, .int .i64 0, .string { data := { toList := [] } }, .int .i64 0, .int .i64 0, .int .i64 0, .int .i64 0, .int .i64 0, .int .i64 0] }) [(0, 1, kk 4), (1, 1, kk 5)]),
  zo 1 (.alloc 57 (.agg { toList := [.int .i64 0, .int .i64 0, .int .i64 0, .int .i64 0, .int .i64 0, .int .i64 0, .int .i64 0, .string { data := { toList := [] } }, .int .i64 0, .string { data := { toList := [] } }, .int .i64 0, .string { data := { toList := [] } }, .int .i64 0, .string { data := { toList := [] } }, .int .i64 0, .string { data := { toList := [] } }, .int .i64 0, .int .i64 0, .int .i64 0, .int .i64 0, .int .i64 0, .int .i64 0] }) []),
  zs (.store 22 1 12)]
def p32o3 := [zo 14 (.load true 22 1),
  zo 15 (.call true [[]] 34 [14]),
  zo 13 (.mv 15),
  zo 16 (.ext 13 0),
  zo 17 (.ext 13 1),
  zo 2 (.mv 16),
  zo 3 (.mv 17)]
def p32o4 := [zo 19 (.mv 2),
  zo 20 (.prim (.bin .add 9 false true) [19, .const (.string { data := { toList := [120] } })]),
  zo 21 (.call true [[]] 40 [20]),
  zo 18 (.mv 21),
  zo 22 (.ext 18 0),
  zo 23 (.ext 18 1),
  zo 24 (.ext 18 2),
  zo 4 (.alloc 57 (.agg { toList := [.int .i64 0, .int .i64 0, .int .i64 0, .int .i64 0, .int .i64 0, .int .i64 0, .int .i64 0, .string { data := { toList := [] } }, .int .i64 0, .string { data := { toList := [] } }, .int .i64 0, .string { data := { toList := [] } }, .int .i64 0, .string { data := { toList := [] } }, .int .i64 0, .string { data := { toList := [] } }, .int .i64 0, .int .i64 0, .int .i64 0, .int .i64 0, .int .i64 0, .int .i64 0] }) []),
  zs (.store 22 4 22),
  zo 5 (.mv 23),
  zo 6 (.mv 24)]
def p32o5 := [zo 26 (.build (.agg { toList := [.int .i64 0, .int .i64 0, .int .i64 0, .int .i64 0, .int .i64 0, .int .i64 0, .int .i64 0, .string { data := { toList := [] } }, .int .i64 0, .string { data := { toList := [] } }, .int .i64 0, .string { data := { toList := [] } }, .int .i64 0, .string { data := { toList := [] } }, .int .i64 0, .string { data := { toList := [] } }, .int .i64 0, .int .i64 0, .int .i64 0, .int .i64 0, .int .i64 0, .int .i64 0] }) []),
  zo 27 (.call true [[]] 34 [26]),
  zo 25 (.mv 27),
  zo 28 (.ext 25 0),
  zo 29 (.ext 25 1),
  zo 7 (.mv 28),
  zo 8 (.mv 29)]
def p32o6 := [zo 31 (.call true [[]] 40 [.const (.string { data := { toList := [] } })]),
  zo 30 (.mv 31),
  zo 32 (.ext 30 0),
  zo 33 (.ext 30 1),
  zo 34 (.ext 30 2),
  zo 9 (.alloc 57 (.agg { toList := [.int .i64 0, .int .i64 0, .int .i64 0, .int .i64 0, .int .i64 0, .int .i64 0, .int .i64 0, .string { data := { toList := [] } }, .int .i64 0, .string { data := { toList := [] } }, .int .i64 0, .string { data := { toList := [] } }, .int .i64 0, .string { data := { toList := [] } }, .int .i64 0, .string { data := { toList := [] } }, .int .i64 0, .int .i64 0, .int .i64 0, .int .i64 0, .int .i64 0, .int .i64 0] }) []),
  zs (.store 22 9 32),
  zo 10 (.mv 33),
  zo 11 (.mv 34)]
def p32o7 := [zo 35 (.mv 3),
  zo 36 (.prim (.bin .eql 37 false true) [35, kk 0]),
  zo 37 (.mv 36),
  zt 38 37 (.mv 6),
  zt 39 37 (.prim (.bin .eql 37 false true) [38, kk 0]),
  zo 40 (.pick 37 39 kf),
  zo 41 (.mv 40),
  zt 42 41 (.mv 5),
  zt 43 41 (.mv 2),
  zt 44 41 (.prim (.len 9) [43]),
  zt 45 41 (.prim (.bin .eql 3 false false) [42, 44]),
  zo 46 (.pick 41 45 kf),
  zo 47 (.mv 46),
  zt 48 47 (.load true 22 4),
  zt 49 47 (.load true 22 1),
  zt 50 47 (.prim (.bin .eql 57 false false) [48, 49]),
  zo 51 (.pick 47 50 kf),
  zo 52 (.mv 51),
  zt 53 52 (.mv 8),
  zt 54 52 (.prim (.bin .eql 37 false true) [53, kk 11]),
  zo 55 (.pick 52 54 kf),
  zo 56 (.mv 55),
  zt 57 56 (.mv 11),
  zt 58 56 (.prim (.bin .neq 37 false true) [57, kk 0]),
  zo 59 (.pick 56 58 kf),
  zo 60 (.mv 59),
  zt 61 60 (.load true 22 1),
  zt 62 60 (.call true [[]] 35 [61]),
  zo 63 (.pick 60 62 kf),
  zo 64 (.mv 63),
  zt 65 64 (.build (.agg { toList := [.int .i64 0, .int .i64 0, .int .i64 0, .int .i64 0, .int .i64 0, .int .i64 0, .int .i64 0, .string { data := { toList := [] } }, .int .i64 0, .string { data := { toList := [] } }, .int .i64 0, .string { data := { toList := [] } }, .int .i64 0, .string { data := { toList := [] } }, .int .i64 0, .string { data := { toList := [] } }, .int .i64 0, .int .i64 0, .int .i64 0, .int .i64 0, .int .i64 0, .int .i64 0] }) []),
  zt 66 64 (.call true [[]] 35 [65]),
  zt 67 64 (.prim (.un .not) [66]),
  zo 68 (.pick 64 67 kf),
  zo 69 (.mv 68),
  zt 70 69 (.load true 22 1),
  zt 71 69 (.call true [[]] 37 [70]),
  zt 72 69 (.prim (.un .not) [71]),
  zo 73 (.pick 69 72 kf),
  zo 74 (.mv 73),
  zt 75 74 (.load true 22 1),
  zt 76 74 (.load true 22 4),
  zt 77 74 (.call true [[], []] 39 [75, 76]),
  zo 78 (.pick 74 77 kf),
  zo 0 (.mv 78)]
def pc32_r : List PRes := [PRes.tmp 0 []]
def pc32 : PFunc := ⟨79, pc32_r, (sq (rg p32o1) (sq (rg p32o2) (sq (rg p32o3) (sq (rg p32o4) (sq (rg p32o5) (sq (rg p32o6) (sq (rg p32o7) (rt)))))))), false⟩
def pc32_a : Ann := {
  kr := fun
    | _ => none
  ka := fun
    | _ => 0
  kh := fun
    | _ => none }
theorem pc32_ok : compFn Try.prog pc32_a Try.f32 = some pc32 := by kernel_rfl


-- 33: vedette/vedettelaw10.fewCmd
def p33o1 := [zo 1 (.box 57 0 []),
  zo 2 (.mv kf)]
def p33o2 := [zo 3 (.mv (kk 0))]
def p33o3 := [zo 4 (.mv 3),
  zo 5 (.prim (.bin .lss 3 false true) [4, kk 4])]
def p33o8 := [zo 8 (.mv 3),
  zo 9 (.faddr 6 1),
  zo 10 (.iaddrA 4 2 9 8),
  zo 11 (.faddr 1 10),
  zo 12 (.load false 1 11),
  zo 13 (.prim (.len 9) [12]),
  zo 14 (.prim (.bin .gtr 3 false true) [13, kk 40])]
def p33o9 := [zo 2 (.mv kf)]
def p33o16 := [zo 6 (.mv 3),
  zo 7 (.prim (.bin .add 3 false true) [6, kk 1]),
  zo 3 (.mv 7)]
def p33o22 := [zo 15 (.faddr 14 1),
  zo 16 (.faddr 1 15),
  zo 17 (.load false 1 16),
  zo 18 (.prim (.len 9) [17]),
  zo 19 (.prim (.bin .leq 3 false true) [18, kk 40]),
  zo 2 (.mv 19)]
def p33c26 := sq (rg p33o1) (sq (sq (rg p33o2) (.block 0 (.loop (sq (sq (.region (some ([1, 3], [1], [])) false p33o3) (.cond 5 (.skip) (.exit 0))) (sq (.block 1 (sq (rg p33o8) (.cond 14 (sq (rg p33o9) (rt)) (.skip)))) (rg p33o16)))))) (sq (rg p33o22) (rt)))
def pc33_r : List PRes := [PRes.tmp 2 []]
def pc33 : PFunc := ⟨20, pc33_r, p33c26, false⟩
def pc33_a : Ann := {
  kr := fun
    | 2 => some ([1, 3], [1], [])
    | _ => none
  ka := fun
    | _ => 0
  kh := fun
    | _ => none }
theorem pc33_ok : compFn Try.prog pc33_a Try.f33 = some pc33 := by kernel_rfl


-- 27: vedette/vedetteref6.IsField
def p27o1 := [zo 1 (.box 25 0 []),
  zo 2 (.mv kf)]
def p27o2 := [zo 3 (.faddr 0 1),
  zo 4 (.load false 1 3),
  zo 5 (.prim (.bin .eql 2 false true) [4, kk 0]),
  zo 6 (.mv 5),
  zf 7 6 (.faddr 1 1),
  zf 8 6 (.load false 1 7),
  zf 9 6 (.prim (.bin .eql 9 false true) [8, .const (.string { data := { toList := [] } })]),
  zo 10 (.pick 6 kt 9),
  zo 11 (.mv 10),
  zt 12 11 (.faddr 1 1),
  zt 13 11 (.load false 1 12),
  zt 14 11 (.prim (.len 9) [13]),
  zt 15 11 (.prim (.bin .leq 3 false true) [14, kk 12]),
  zo 16 (.pick 11 15 kf),
  zo 2 (.mv 16)]
def p27c5 := sq (rg p27o1) (sq (rg p27o2) (rt))
def pc27_r : List PRes := [PRes.tmp 2 []]
def pc27 : PFunc := ⟨17, pc27_r, p27c5, false⟩
def pc27_a : Ann := {
  kr := fun
    | _ => none
  ka := fun
    | _ => 0
  kh := fun
    | _ => none }
theorem pc27_ok : compFn Try.prog pc27_a Try.f27 = some pc27 := by kernel_rfl


-- 60: vedette/vedetteref10.within
def p60o1 := [zo 6 (.mv kf)]
def p60o2 := [zo 7 (.mv 0),
  zo 8 (.mv 1),
  zo 9 (.prim (.bin .geq 3 false false) [7, 8]),
  zo 10 (.mv 9),
  zt 11 10 (.mv 0),
  zt 12 10 (.mv 2),
  zt 13 10 (.prim (.bin .leq 3 false false) [11, 12]),
  zo 14 (.pick 10 13 kf),
  zo 6 (.mv 14)]
def p60c5 := sq (rg p60o1) (sq (rg p60o2) (rt))
def pc60_r : List PRes := [PRes.tmp 6 []]
def pc60 : PFunc := ⟨15, pc60_r, p60c5, false⟩
def pc60_a : Ann := {
  kr := fun
    | _ => none
  ka := fun
    | _ => 0
  kh := fun
    | _ => none }
theorem pc60_ok : compFn Try.prog pc60_a Try.f60 = some pc60 := by kernel_rfl


-- 61: vedette/vedetteref10.shape
def p61o1 := [zo 1 (.box 57 0 []),
  zo 2 (.alloc 57 (.agg { toList := [.int .i64 0, .int .i64 0, .int .i64 0, .int .i64 0, .int .i64 0, .int .i64 0, .int .i64 0, .string { data := { toList := [] } }, .int .i64 0, .string { data := { toList := [] } }, .int .i64 0, .string { data := { toList := [] } }, .int .i64 0, .string { data := { toList := [] } }, .int .i64 0, .string { data := { toList := [] } }, .int .i64 0, .int .i64 0, .int .i64 0, .int .i64 0, .int .i64 0, .int .i64 0] }) [])]
def p61o2 := [zo 4 (.faddr 0 1),
  zo 5 (.load false 1 4),
  zo 6 (.faddr 16 1),
  zo 7 (.load false 1 6),
  zo 8 (.faddr 17 1),
  zo 9 (.load false 1 8),
  zo 10 (.build (.agg { toList := [.int .i64 0, .int .i64 0, .int .i64 0, .int .i64 0, .int .i64 0, .int .i64 0, .int .i64 0, .string { data := { toList := [] } }, .int .i64 0, .string { data := { toList := [] } }, .int .i64 0, .string { data := { toList := [] } }, .int .i64 0, .string { data := { toList := [] } }, .int .i64 0, .string { data := { toList := [] } }, .int .i64 0, .int .i64 0, .int .i64 0, .int .i64 0, .int .i64 0, .int .i64 0] }) [(0, 1, .tmp 5), (16, 1, .tmp 7), (17, 1, .tmp 9)]),
  zo 3 (.alloc 57 (.agg { toList := [.int .i64 0, .int .i64 0, .int .i64 0, .int .i64 0, .int .i64 0, .int .i64 0, .int .i64 0, .string { data := { toList := [] } }, .int .i64 0, .string { data := { toList := [] } }, .int .i64 0, .string { data := { toList := [] } }, .int .i64 0, .string { data := { toList := [] } }, .int .i64 0, .string { data := { toList := [] } }, .int .i64 0, .int .i64 0, .int .i64 0, .int .i64 0, .int .i64 0, .int .i64 0] }) []),
  zs (.store 22 3 10)]
def p61o3 := [zo 11 (.faddr 0 1),
  zo 12 (.load false 1 11)]
def p61o4 := [zo 14 (.prim (.bin .eql 3 false true) [12, kk 1]),
  zo 13 (.mv 14)]
def p61o5 := [za 15 1 1 0 (.faddr 4 1),
  za 16 15 1 4 (.load true 2 15),
  za 17 1 1 0 (.faddr 6 1),
  za 18 17 1 6 (.load true 8 17),
  za 19 3 3 0 (.faddr 4 3),
  zn (.store 2 19 16) [(19, .at_ 3 4), (16, .imm)],
  za 20 3 3 0 (.faddr 6 3),
  zn (.store 8 20 18) [(20, .at_ 3 6), (18, .imm)]]
def p61o6 := [zo 22 (.prim (.bin .eql 3 false true) [12, kk 2]),
  zo 21 (.mv 22)]
def p61o7 := [za 23 1 1 0 (.faddr 1 1),
  za 24 23 1 1 (.load false 1 23),
  za 25 1 1 0 (.faddr 4 1),
  za 26 25 1 4 (.load true 2 25),
  za 27 3 3 0 (.faddr 1 3),
  zn (.store 1 27 24) [(27, .at_ 3 1), (24, .imm)],
  za 28 3 3 0 (.faddr 4 3),
  zn (.store 2 28 26) [(28, .at_ 3 4), (26, .imm)]]
def p61o8 := [zo 30 (.prim (.bin .eql 3 false true) [12, kk 3]),
  zo 29 (.mv 30)]
def p61o9 := [za 31 1 1 0 (.faddr 1 1),
  za 32 31 1 1 (.load false 1 31),
  za 33 1 1 0 (.faddr 2 1),
  za 34 33 1 2 (.load false 1 33),
  za 35 1 1 0 (.faddr 14 1),
  za 36 35 1 14 (.load true 2 35),
  za 37 3 3 0 (.faddr 1 3),
  zn (.store 1 37 32) [(37, .at_ 3 1), (32, .imm)],
  za 38 3 3 0 (.faddr 2 3),
  zn (.store 1 38 34) [(38, .at_ 3 2), (34, .imm)],
  za 39 3 3 0 (.faddr 14 3),
  zn (.store 2 39 36) [(39, .at_ 3 14), (36, .imm)]]
def p61o10 := [zo 41 (.prim (.bin .eql 3 false true) [12, kk 4]),
  zo 40 (.mv 41)]
def p61o11 := [zo 42 (.faddr 1 1),
  zo 43 (.load false 1 42),
  zo 44 (.faddr 1 3),
  zs (.store 1 44 43)]
def p61o12 := [zo 46 (.prim (.bin .eql 3 false true) [12, kk 5]),
  zo 45 (.mv 46)]
def p61o13 := [za 47 1 1 0 (.faddr 2 1),
  za 48 47 1 2 (.load false 1 47),
  za 49 1 1 0 (.faddr 3 1),
  za 50 49 1 3 (.load false 1 49),
  za 51 3 3 0 (.faddr 2 3),
  zn (.store 1 51 48) [(51, .at_ 3 2), (48, .imm)],
  za 52 3 3 0 (.faddr 3 3),
  zn (.store 1 52 50) [(52, .at_ 3 3), (50, .imm)]]
def p61o14 := [zo 54 (.prim (.bin .eql 3 false true) [12, kk 6]),
  zo 53 (.mv 54)]
def p61o16 := [zo 55 (.prim (.bin .eql 3 false true) [12, kk 7]),
  zo 53 (.mv 55)]
def p61o19 := [zo 56 (.faddr 18 1),
  zo 57 (.load true 4 56),
  zo 58 (.faddr 18 3),
  zs (.store 4 58 57)]
def p61o35 := [zo 59 (.load true 22 3),
  zs (.store 22 2 59)]
def p61c40 := sq (rg p61o1) (sq (rg p61o2) (sq (sq (rg p61o3) (.block 0 (sq (rg p61o4) (.cond 13 (rh p61o5) (sq (rg p61o6) (.cond 21 (rh p61o7) (sq (rg p61o8) (.cond 29 (rh p61o9) (sq (rg p61o10) (.cond 40 (rg p61o11) (sq (rg p61o12) (.cond 45 (rh p61o13) (sq (sq (rg p61o14) (.cond 53 (.skip) (rg p61o16))) (.cond 53 (rg p61o19) (.skip))))))))))))))) (sq (rg p61o35) (rt))))
def pc61_r : List PRes := [PRes.cell 2 true 22 []]
def pc61 : PFunc := ⟨60, pc61_r, p61c40, false⟩
def pc61_a : Ann := {
  kr := fun
    | _ => none
  ka := fun
    | _ => 0
  kh := fun
    | 1 => some (.at_ 1 0)
    | 3 => some (.at_ 3 0)
    | 15 => some (.at_ 1 4)
    | 16 => some (.imm)
    | 17 => some (.at_ 1 6)
    | 18 => some (.imm)
    | 19 => some (.at_ 3 4)
    | 20 => some (.at_ 3 6)
    | 23 => some (.at_ 1 1)
    | 24 => some (.imm)
    | 25 => some (.at_ 1 4)
    | 26 => some (.imm)
    | 27 => some (.at_ 3 1)
    | 28 => some (.at_ 3 4)
    | 31 => some (.at_ 1 1)
    | 32 => some (.imm)
    | 33 => some (.at_ 1 2)
    | 34 => some (.imm)
    | 35 => some (.at_ 1 14)
    | 36 => some (.imm)
    | 37 => some (.at_ 3 1)
    | 38 => some (.at_ 3 2)
    | 39 => some (.at_ 3 14)
    | 47 => some (.at_ 1 2)
    | 48 => some (.imm)
    | 49 => some (.at_ 1 3)
    | 50 => some (.imm)
    | 51 => some (.at_ 3 2)
    | 52 => some (.at_ 3 3)
    | _ => none }
theorem pc61_ok : compFn Try.prog pc61_a Try.f61 = some pc61 := by kernel_rfl


-- 62: vedette/vedetteref10.point
def p62o1 := [zo 1 (.box 23 0 []),
  zo 2 (.mv kf)]
def p62o2 := [zo 3 (.faddr 0 1),
  zo 4 (.load false 1 3),
  zo 5 (.call true [[], [], []] 60 [4, .const (.int .i64 (-1000)), kk 1000]),
  zo 6 (.mv 5),
  zt 7 6 (.faddr 1 1),
  zt 8 6 (.load false 1 7),
  zt 9 6 (.call true [[], [], []] 60 [8, .const (.int .i64 (-1000)), kk 1000]),
  zo 10 (.pick 6 9 kf),
  zo 2 (.mv 10)]
def p62c5 := sq (rg p62o1) (sq (rg p62o2) (rt))
def pc62_r : List PRes := [PRes.tmp 2 []]
def pc62 : PFunc := ⟨11, pc62_r, p62c5, false⟩
def pc62_a : Ann := {
  kr := fun
    | _ => none
  ka := fun
    | _ => 0
  kh := fun
    | _ => none }
theorem pc62_ok : compFn Try.prog pc62_a Try.f62 = some pc62 := by kernel_rfl


-- 63: vedette/vedetteref10.rect
def p63o1 := [zo 1 (.box 55 0 []),
  zo 2 (.mv kf)]
def p63o2 := [zo 3 (.faddr 0 1),
  zo 4 (.load false 1 3),
  zo 5 (.faddr 1 1),
  zo 6 (.load false 1 5),
  zo 7 (.build (.agg { toList := [.int .i64 0, .int .i64 0] }) [(0, 1, .tmp 4), (1, 1, .tmp 6)]),
  zo 8 (.call true [[]] 62 [7]),
  zo 9 (.mv 8),
  zt 10 9 (.faddr 2 1),
  zt 11 9 (.load false 1 10),
  zt 12 9 (.faddr 3 1),
  zt 13 9 (.load false 1 12),
  zt 14 9 (.build (.agg { toList := [.int .i64 0, .int .i64 0] }) [(0, 1, .tmp 11), (1, 1, .tmp 13)]),
  zt 15 9 (.call true [[]] 62 [14]),
  zo 16 (.pick 9 15 kf),
  zo 2 (.mv 16)]
def p63c5 := sq (rg p63o1) (sq (rg p63o2) (rt))
def pc63_r : List PRes := [PRes.tmp 2 []]
def pc63 : PFunc := ⟨17, pc63_r, p63c5, false⟩
def pc63_a : Ann := {
  kr := fun
    | _ => none
  ka := fun
    | _ => 0
  kh := fun
    | _ => none }
theorem pc63_ok : compFn Try.prog pc63_a Try.f63 = some pc63 := by kernel_rfl


-- 36: vedette/vedetteref10.Is
def p36o1 := [zo 1 (.box 57 0 []),
  zo 2 (.mv kf)]
def p36o2 := [za 5 1 1 0 (.faddr 0 1),
  za 6 5 1 0 (.load false 1 5),
  ⟨some 7, .call false [[], [], []] 60 [6, kk 1, kk 8], none, [(6, .imm)]⟩,
  ⟨some 8, .mv 7, none, [(7, .imm)]⟩,
  ⟨some 9, .faddr 16 1, some (8, true), [(1, .at_ 1 0)]⟩,
  ⟨some 10, .load false 1 9, some (8, true), [(9, .at_ 1 16)]⟩,
  ⟨some 11, .call false [[], [], []] 60 [10, kk 0, kk 3], some (8, true), [(10, .imm)]⟩,
  ⟨some 12, .pick 8 11 kf, none, [(8, .imm), (11, .imm)]⟩,
  ⟨some 13, .mv 12, none, [(12, .imm)]⟩,
  ⟨some 14, .faddr 17 1, some (13, true), [(1, .at_ 1 0)]⟩,
  ⟨some 15, .load false 1 14, some (13, true), [(14, .at_ 1 17)]⟩,
  ⟨some 16, .call false [[], [], []] 60 [15, kk 0, kk 1000000], some (13, true), [(15, .imm)]⟩,
  ⟨some 17, .pick 13 16 kf, none, [(13, .imm), (16, .imm)]⟩,
  ⟨some 18, .mv 17, none, [(17, .imm)]⟩,
  ⟨some 19, .load true 22 1, some (18, true), [(1, .at_ 1 0)]⟩,
  ⟨some 20, .load true 22 1, some (18, true), [(1, .at_ 1 0)]⟩,
  ⟨some 21, .call false [[]] 61 [20], some (18, true), [(20, .imm)]⟩,
  ⟨some 22, .prim (.bin .eql 57 false false) [19, 21], some (18, true), [(19, .imm), (21, .imm)]⟩,
  ⟨some 23, .pick 18 22 kf, none, [(18, .imm), (22, .imm)]⟩,
  ⟨some 24, .mv 23, none, [(23, .imm)]⟩,
  ⟨some 25, .faddr 4 1, some (24, true), [(1, .at_ 1 0)]⟩,
  ⟨some 26, .load true 2 25, some (24, true), [(25, .at_ 1 4)]⟩,
  ⟨some 27, .call false [[]] 62 [26], some (24, true), [(26, .imm)]⟩,
  ⟨some 28, .pick 24 27 kf, none, [(24, .imm), (27, .imm)]⟩,
  ⟨some 29, .mv 28, none, [(28, .imm)]⟩,
  ⟨some 30, .faddr 18 1, some (29, true), [(1, .at_ 1 0)]⟩,
  ⟨some 31, .load true 4 30, some (29, true), [(30, .at_ 1 18)]⟩,
  ⟨some 32, .call false [[]] 63 [31], some (29, true), [(31, .imm)]⟩,
  ⟨some 33, .pick 29 32 kf, none, [(29, .imm), (32, .imm)]⟩,
  ⟨some 34, .mv 33, none, [(33, .imm)]⟩,
  ⟨some 35, .faddr 1 1, some (34, true), [(1, .at_ 1 0)]⟩,
  ⟨some 36, .load false 1 35, some (34, true), [(35, .at_ 1 1)]⟩,
  ⟨some 37, .call false [[], [], []] 60 [36, kk 0, kk 1000000], some (34, true), [(36, .imm)]⟩,
  ⟨some 38, .pick 34 37 kf, none, [(34, .imm), (37, .imm)]⟩,
  ⟨some 39, .mv 38, none, [(38, .imm)]⟩,
  ⟨some 40, .faddr 2 1, some (39, true), [(1, .at_ 1 0)]⟩,
  ⟨some 41, .load false 1 40, some (39, true), [(40, .at_ 1 2)]⟩,
  ⟨some 42, .call false [[], [], []] 60 [41, .const (.int .i64 (-1)), kk 100], some (39, true), [(41, .imm)]⟩,
  ⟨some 43, .pick 39 42 kf, none, [(39, .imm), (42, .imm)]⟩,
  ⟨some 44, .mv 43, none, [(43, .imm)]⟩,
  ⟨some 45, .faddr 3 1, some (44, true), [(1, .at_ 1 0)]⟩,
  ⟨some 46, .load false 1 45, some (44, true), [(45, .at_ 1 3)]⟩,
  ⟨some 47, .call false [[], [], []] 60 [46, .const (.int .i64 (-1)), kk 100], some (44, true), [(46, .imm)]⟩,
  ⟨some 48, .pick 44 47 kf, none, [(44, .imm), (47, .imm)]⟩,
  ⟨some 49, .mv 48, none, [(48, .imm)]⟩,
  ⟨some 50, .faddr 14 1, some (49, true), [(1, .at_ 1 0)]⟩,
  ⟨some 51, .load true 2 50, some (49, true), [(50, .at_ 1 14)]⟩,
  ⟨some 52, .call false [[]] 27 [51], some (49, true), [(51, .imm)]⟩,
  ⟨some 53, .pick 49 52 kf, none, [(49, .imm), (52, .imm)]⟩,
  ⟨some 3, .mv 53, none, [(53, .imm)]⟩]
def p36o3 := [zo 4 (.mv (kk 0))]
def p36o4 := [zo 54 (.mv 4),
  zo 55 (.prim (.bin .lss 3 false true) [54, kk 4])]
def p36o9 := [zo 58 (.mv 3),
  zo 59 (.mv 58),
  zt 60 59 (.mv 4),
  zt 61 59 (.faddr 6 1),
  zt 62 59 (.iaddrA 4 2 61 60),
  zt 63 59 (.load true 2 62),
  zt 64 59 (.call true [[]] 27 [63]),
  zo 65 (.pick 59 64 kf),
  zo 3 (.mv 65)]
def p36o11 := [zo 56 (.mv 4),
  zo 57 (.prim (.bin .add 3 false true) [56, kk 1]),
  zo 4 (.mv 57)]
def p36c13 := sq (sq (.region (some ([1, 3, 4], [1], [])) false p36o4) (.cond 55 (.skip) (.exit 0))) (sq (.block 1 (rg p36o9)) (rg p36o11))
def p36o17 := [zo 66 (.mv 3),
  zo 2 (.mv 66)]
def p36c19 := sq (rg p36o17) (rt)
def p36c20 := sq (sq (.region (some ([1, 3], [1], [])) false p36o3) (.block 0 (.loop p36c13))) p36c19
def p36c22 := sq (rg p36o1) (sq (rh p36o2) p36c20)
def pc36_r : List PRes := [PRes.tmp 2 []]
def pc36 : PFunc := ⟨67, pc36_r, p36c22, false⟩
def pc36_a : Ann := {
  kr := fun
    | 2 => some ([1, 3], [1], [])
    | 3 => some ([1, 3, 4], [1], [])
    | _ => none
  ka := fun
    | _ => 0
  kh := fun
    | 1 => some (.at_ 1 0)
    | 5 => some (.at_ 1 0)
    | 6 => some (.imm)
    | 7 => some (.imm)
    | 8 => some (.imm)
    | 9 => some (.at_ 1 16)
    | 10 => some (.imm)
    | 11 => some (.imm)
    | 12 => some (.imm)
    | 13 => some (.imm)
    | 14 => some (.at_ 1 17)
    | 15 => some (.imm)
    | 16 => some (.imm)
    | 17 => some (.imm)
    | 18 => some (.imm)
    | 19 => some (.imm)
    | 20 => some (.imm)
    | 21 => some (.imm)
    | 22 => some (.imm)
    | 23 => some (.imm)
    | 24 => some (.imm)
    | 25 => some (.at_ 1 4)
    | 26 => some (.imm)
    | 27 => some (.imm)
    | 28 => some (.imm)
    | 29 => some (.imm)
    | 30 => some (.at_ 1 18)
    | 31 => some (.imm)
    | 32 => some (.imm)
    | 33 => some (.imm)
    | 34 => some (.imm)
    | 35 => some (.at_ 1 1)
    | 36 => some (.imm)
    | 37 => some (.imm)
    | 38 => some (.imm)
    | 39 => some (.imm)
    | 40 => some (.at_ 1 2)
    | 41 => some (.imm)
    | 42 => some (.imm)
    | 43 => some (.imm)
    | 44 => some (.imm)
    | 45 => some (.at_ 1 3)
    | 46 => some (.imm)
    | 47 => some (.imm)
    | 48 => some (.imm)
    | 49 => some (.imm)
    | 50 => some (.at_ 1 14)
    | 51 => some (.imm)
    | 52 => some (.imm)
    | 53 => some (.imm)
    | _ => none }
theorem pc36_ok : compFn Try.prog pc36_a Try.f36 = some pc36 := by kernel_rfl


-- 41: vedette/vedettelaw10.reads
def p41o1 := [zo 2 (.mv kf)]
def p41o2 := [zo 9 (.mv 0),
  zo 10 (.call true [[]] 40 [9]),
  zo 8 (.mv 10),
  zo 11 (.ext 8 0),
  zo 12 (.ext 8 1),
  zo 13 (.ext 8 2),
  zo 3 (.alloc 57 (.agg { toList := [.int .i64 0, .int .i64 0, .int .i64 0, .int .i64 0, .int .i64 0, .int .i64 0, .int .i64 0, .string { data := { toList := [] } }, .int .i64 0, .string { data := { toList := [] } }, .int .i64 0, .string { data := { toList := [] } }, .int .i64 0, .string { data := { toList := [] } }, .int .i64 0, .string { data := { toList := [] } }, .int .i64 0, .int .i64 0, .int .i64 0, .int .i64 0, .int .i64 0, .int .i64 0] }) []),
  zs (.store 22 3 11),
  zo 4 (.mv 12),
  zo 5 (.mv 13)]
def p41o3 := [zo 14 (.mv 5),
  zo 15 (.prim (.bin .neq 37 false true) [14, kk 0])]
def p41o4 := [zo 16 (.mv 5),
  zo 17 (.prim (.bin .eql 37 false true) [16, kk 10]),
  zo 18 (.mv 17),
  zf 19 18 (.mv 5),
  zf 20 18 (.prim (.bin .eql 37 false true) [19, kk 11]),
  zo 21 (.pick 18 kt 20),
  zo 22 (.mv 21),
  zf 23 22 (.mv 5),
  zf 24 22 (.prim (.bin .eql 37 false true) [23, kk 13]),
  zo 25 (.pick 22 kt 24),
  zo 26 (.mv 25),
  zt 27 26 (.mv 4),
  zt 28 26 (.prim (.bin .eql 3 false true) [27, kk 0]),
  zo 29 (.pick 26 28 kf),
  zo 30 (.mv 29),
  zt 31 30 (.load true 22 3),
  zt 32 30 (.build (.agg { toList := [.int .i64 0, .int .i64 0, .int .i64 0, .int .i64 0, .int .i64 0, .int .i64 0, .int .i64 0, .string { data := { toList := [] } }, .int .i64 0, .string { data := { toList := [] } }, .int .i64 0, .string { data := { toList := [] } }, .int .i64 0, .string { data := { toList := [] } }, .int .i64 0, .string { data := { toList := [] } }, .int .i64 0, .int .i64 0, .int .i64 0, .int .i64 0, .int .i64 0, .int .i64 0] }) []),
  zt 33 30 (.prim (.bin .eql 57 false false) [31, 32]),
  zo 34 (.pick 30 33 kf),
  zo 2 (.mv 34)]
def p41o10 := [zo 36 (.load true 22 3),
  zo 37 (.call true [[]] 34 [36]),
  zo 35 (.mv 37),
  zo 38 (.ext 35 0),
  zo 39 (.ext 35 1),
  zo 6 (.mv 38),
  zo 7 (.mv 39)]
def p41o11 := [zo 40 (.mv 7),
  zo 41 (.prim (.bin .eql 37 false true) [40, kk 0]),
  zo 42 (.mv 41),
  zt 43 42 (.mv 4),
  zt 44 42 (.mv 6),
  zt 45 42 (.prim (.len 9) [44]),
  zt 46 42 (.prim (.bin .eql 3 false false) [43, 45]),
  zo 47 (.pick 42 46 kf),
  zo 48 (.mv 47),
  zt 49 48 (.mv 4),
  zt 50 48 (.mv 0),
  zt 51 48 (.prim (.len 9) [50]),
  zt 52 48 (.prim (.bin .leq 3 false false) [49, 51]),
  zo 53 (.pick 48 52 kf),
  zo 54 (.mv 53),
  zt 55 54 (.mv 0),
  zt 56 54 (.mv 4),
  zt 57 54 (.prim (.slice 9 false true) [55, 56]),
  zt 58 54 (.mv 6),
  zt 59 54 (.prim (.bin .eql 9 false false) [57, 58]),
  zo 60 (.pick 54 59 kf),
  zo 61 (.mv 60),
  zt 62 61 (.load true 22 3),
  zt 63 61 (.call true [[]] 36 [62]),
  zo 64 (.pick 61 63 kf),
  zo 2 (.mv 64)]
def p41c17 := sq (rg p41o1) (sq (rg p41o2) (sq (sq (rg p41o3) (.cond 15 (sq (rg p41o4) (rt)) (.skip))) (sq (rg p41o10) (sq (rg p41o11) (rt)))))
def pc41_r : List PRes := [PRes.tmp 2 []]
def pc41 : PFunc := ⟨65, pc41_r, p41c17, false⟩
def pc41_a : Ann := {
  kr := fun
    | _ => none
  ka := fun
    | _ => 0
  kh := fun
    | _ => none }
theorem pc41_ok : compFn Try.prog pc41_a Try.f41 = some pc41 := by kernel_rfl


-- 11: vedette/vedettelaw10.CmdReads
def p11o1 := [zo 4 (.box 57 0 []),
  zo 8 (.mv kf)]
def p11o2 := [zo 12 (.call true [] 32 []),
  zo 13 (.prim (.un .not) [12])]
def p11o3 := [zo 8 (.mv kf)]
def p11o9 := [zo 14 (.load true 22 4),
  zo 15 (.call true [[]] 33 [14]),
  zo 16 (.prim (.un .not) [15]),
  zo 17 (.mv 16),
  zf 18 17 (.mv 3),
  zf 19 17 (.prim (.len 9) [18]),
  zf 20 17 (.prim (.bin .gtr 3 false true) [19, kk 300]),
  zo 21 (.pick 17 kt 20)]
def p11o10 := [zo 8 (.mv kt)]
def p11o16 := [zo 23 (.load true 22 4),
  zo 24 (.call true [[]] 34 [23]),
  zo 22 (.mv 24),
  zo 25 (.ext 22 0),
  zo 26 (.ext 22 1),
  zo 9 (.mv 25),
  zo 10 (.mv 26)]
def p11o17 := [zo 27 (.mv 10),
  zo 28 (.prim (.bin .eql 37 false true) [27, kk 0]),
  zo 29 (.mv 28),
  zt 30 29 (.mv 9),
  zt 31 29 (.prim (.len 9) [30]),
  zt 32 29 (.prim (.bin .gtr 3 false true) [31, kk 0]),
  zo 33 (.pick 29 32 kf)]
def p11o18 := [zo 34 (.mv 9),
  zo 35 (.s2bo 5 34),
  zo 11 (.mv 35)]
def p11o19 : List POper := [⟨some 36, .mv 11, none, [(11, .obj 35)]⟩,
  ⟨some 37, .mv 1, none, [(1, .imm)]⟩,
  ⟨some 38, .prim (.conv 5 3) [37], none, [(37, .imm)]⟩,
  ⟨some 39, .mv 11, none, [(11, .obj 35)]⟩,
  ⟨some 40, .lenS 39, none, [(39, .obj 35)]⟩,
  ⟨some 41, .prim (.bin .rem 3 false false) [38, 40], none, [(38, .imm), (40, .imm)]⟩,
  ⟨some 42, .mv 11, none, [(11, .obj 35)]⟩,
  ⟨some 43, .mv 1, none, [(1, .imm)]⟩,
  ⟨some 44, .prim (.conv 5 3) [43], none, [(43, .imm)]⟩,
  ⟨some 45, .mv 11, none, [(11, .obj 35)]⟩,
  ⟨some 46, .lenS 45, none, [(45, .obj 35)]⟩,
  ⟨some 47, .prim (.bin .rem 3 false false) [44, 46], none, [(44, .imm), (46, .imm)]⟩,
  ⟨some 48, .iaddrS 1 42 47, none, [(42, .obj 35), (47, .imm)]⟩,
  ⟨some 49, .load false 1 48, none, [(48, .obj 35)]⟩,
  ⟨some 50, .mv 2, none, [(2, .imm)]⟩,
  ⟨some 51, .prim (.bin .xor 5 false false) [49, 50], none, [(49, .imm), (50, .imm)]⟩,
  ⟨some 52, .iaddrS 1 36 41, none, [(36, .obj 35), (41, .imm)]⟩,
  zn (.store 1 52 51) [(52, .obj 35), (51, .imm)]]
def p11o20 := [zo 53 (.mv 11),
  zo 54 (.b2s 53),
  zo 55 (.call true [[]] 41 [54]),
  zo 56 (.prim (.un .not) [55])]
def p11o21 := [zo 8 (.mv kf)]
def p11o32 := [zo 57 (.mv 3),
  zo 58 (.call true [[]] 41 [57]),
  zo 8 (.mv 58)]
def p11c39 := sq (rg p11o1) (sq (sq (rg p11o2) (.cond 13 (sq (rg p11o3) (rt)) (.skip))) (sq (sq (rg p11o9) (.cond 21 (sq (rg p11o10) (rt)) (.skip))) (sq (rg p11o16) (sq (sq (rg p11o17) (.cond 33 (sq (rg p11o18) (sq (rh p11o19) (sq (rg p11o20) (.cond 56 (sq (rg p11o21) (rt)) (.skip))))) (.skip))) (sq (rg p11o32) (rt))))))
def pc11_r : List PRes := [PRes.tmp 8 []]
def pc11 : PFunc := ⟨59, pc11_r, p11c39, false⟩
def pc11_a : Ann := {
  kr := fun
    | _ => none
  ka := fun
    | _ => 0
  kh := fun x => [(1, Hint.imm), (2, .imm), (11, .obj 35), (36, .obj 35), (37, .imm), (38, .imm), (39, .obj 35), (40, .imm), (41, .imm), (42, .obj 35), (43, .imm), (44, .imm), (45, .obj 35), (46, .imm), (47, .imm), (48, .obj 35), (49, .imm), (50, .imm), (51, .imm), (52, .obj 35)].lookup x
  bo := fun d => match d with
    | some 35 => true
    | _ => false }
theorem pc11_ok : compFn Try.prog pc11_a Try.f11 = some pc11 := by kernel_rfl


end Go.Proofs.Ythmbegagkgdopaa
