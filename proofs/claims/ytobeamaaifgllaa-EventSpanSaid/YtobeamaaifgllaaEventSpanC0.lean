/- No condition. -/
import Derived.Test.YtobeamaaifgllaaEventSpanT
namespace Go.Proofs.Ytobeamaaifgllaa
open Go Go.Rx
set_option maxRecDepth 100000
set_option linter.unusedVariables false
set_option linter.unusedSimpArgs false
set_option linter.unnecessarySimpa false
set_option linter.unnecessarySimpa false
def p67o1 := [zo 1 (.box 23 0 []),
 zM 2 kf]
def p67o2 := [zG 3 0 1,
 zL 4 3,
 zK 5 .geq 3 4 0,
 zM 6 5,
 zt 7 6 (.faddr 0 1),
 zt 8 6 (.load false 1 7),
 zt 9 6 (.prim (.bin .lss 3 false true) [8, kk 64]),
 zo 10 (.pick 6 9 kf),
 zM 11 10,
 zt 12 11 (.faddr 1 1),
 zt 13 11 (.load false 1 12),
 zt 14 11 (.prim (.bin .geq 3 false true) [13, kk 0]),
 zo 15 (.pick 11 14 kf),
 zM 16 15,
 zt 17 16 (.faddr 1 1),
 zt 18 16 (.load false 1 17),
 zt 19 16 (.prim (.bin .lss 3 false true) [18, kk 64]),
 zo 20 (.pick 16 19 kf),
 zM 2 20]
def p67c5 := sq (rg p67o1) (sq (rg p67o2) (rt))
def pc67_r : List PRes := [PRes.tmp 2 []]
def pc67 : PFunc := ⟨21, pc67_r, p67c5, false⟩
def pc67_a : Ann := {
 kr := fun _ => none
 ka := fun _ => 0
 kh := fun _ => none
 ow := ow0
 tc := tc1 }
theorem pc67_ok : compFn Try.prog pc67_a Try.f67 = some pc67 := by kernel_rfl
def p70o1 := [zo 1 (.box 25 0 []),
 zM 2 kf]
def p70o2 := [zG 3 0 1,
 zL 4 3,
 zK 5 .eql 2 4 0,
 zM 6 5,
 zf 7 6 (.faddr 1 1),
 zf 8 6 (.load false 1 7),
 zf 9 6 (.prim (.bin .eql 9 false true) [8, .const (ks)]),
 zo 10 (.pick 6 kt 9),
 zM 11 10,
 zt 12 11 (.faddr 1 1),
 zt 13 11 (.load false 1 12),
 zt 14 11 (.prim (.len 9) [13]),
 zt 15 11 (.prim (.bin .leq 3 false true) [14, kk 12]),
 zo 16 (.pick 11 15 kf),
 zM 2 16]
def p70c5 := sq (rg p70o1) (sq (rg p70o2) (rt))
def pc70_r : List PRes := [PRes.tmp 2 []]
def pc70 : PFunc := ⟨17, pc70_r, p70c5, false⟩
def pc70_a : Ann := {
 kr := fun _ => none
 ka := fun _ => 0
 kh := fun _ => none
 ow := ow0
 tc := tc1 }
theorem pc70_ok : compFn Try.prog pc70_a Try.f70 = some pc70 := by kernel_rfl
def p69o1 := [zo 1 (.box 25 0 []),
 zM 2 kf]
def p69o2 := [zo 3 (.load true 2 1),
 zo 4 (.call true [[]] 70 [3]),
 zo 5 (.prim (.un .not) [4]),
 zM 2 5]
def p69c5 := sq (rg p69o1) (sq (rg p69o2) (rt))
def pc69_r : List PRes := [PRes.tmp 2 []]
def pc69 : PFunc := ⟨6, pc69_r, p69c5, false⟩
def pc69_a : Ann := {
 kr := fun _ => none
 ka := fun _ => 0
 kh := fun _ => none
 ow := ow0
 tc := tc1 }
theorem pc69_ok : compFn Try.prog pc69_a Try.f69 = some pc69 := by kernel_rfl
def p103o1 := [zM 4 (kk 0)]
def p103o2 := [zM 6 0,
 zo 7 (.lenS 6),
 zM 8 (kk 0)]
def p103o3 := [zB 9 .lss 3 8 7]
def p103o7 := [zM 10 8,
 zM 5 10]
def p103o8 := [zM 11 1,
 zM 12 0,
 zM 13 5,
 zo 14 (.iaddrS 2 12 13),
 zo 15 (.load true 2 14),
 zo 16 (.callv true [[]] 11 [15])]
def p103o9 := [zM 17 5,
 zM 4 17]
def p103o17 := [zK 18 .add 3 8 1,
 zM 8 18]
def p103c20 := sq (.region (some ([0, 1, 7, 8], [], [])) false p103o3) (sq (.cond 9 (.skip) (.exit 0)) (sq (.block 1 (sq (rg p103o7) (sq (rg p103o8) (.cond 16 (sq (rg p103o9) (rt)) (.skip))))) (rg p103o17)))
def p103o24 := [zM 4 (kk (-1))]
def p103c26 := sq (rg p103o24) (rt)
def p103c28 := sq (rg p103o1) (sq (sq (rg p103o2) (.block 0 (.loop p103c20))) p103c26)
def pc103_r : List PRes := [PRes.tmp 4 []]
def pc103 : PFunc := ⟨19, pc103_r, p103c28, false⟩
def pc103_a : Ann := {
 kr := fun
  | 2 => some ([0, 1, 7, 8], [], [])
  | _ => none
 ka := fun _ => 0
 kh := fun _ => none
 ow := ow0
 tc := tc1 }
theorem pc103_ok : compFn Try.prog pc103_a Try.f103 = some pc103 := by kernel_rfl
def p68o1 := [zM 4 kf]
def p68o2 := [zM 5 0,
 zM 6 1,
 zo 7 (.gcall false false [300000, 300001, 300002, 300003, 300004, 300005, 300006, 300007] [[(0, 2)], []] 103 [5, 6]),
 zK 8 .geq 3 7 0,
 zM 4 8]
def p68c5 := sq (rg p68o1) (sq (rg p68o2) (rt))
def pc68_r : List PRes := [PRes.tmp 4 []]
def pc68 : PFunc := ⟨9, pc68_r, p68c5, false⟩
def pc68_a : Ann := {
 kr := fun _ => none
 ka := fun _ => 0
 kh := fun _ => none
 gf := fun d f => match d, f with
  | some 7, 103 => some (false, false, [300000, 300001, 300002, 300003, 300004, 300005, 300006, 300007])
  | _, _ => none
 ow := ow0
 tc := tc1 }
theorem pc68_ok : compFn Try.prog pc68_a Try.f68 = some pc68 := by kernel_rfl
def p24o1 := [zo 1 (.box 28 0 []),
 zM 2 kf]
def p24o2 := [zG 3 0 1,
 zL 4 3,
 zK 5 .geq 3 4 0,
 zM 6 5,
 zt 7 6 (.faddr 0 1),
 zt 8 6 (.load false 1 7),
 zt 9 6 (.prim (.bin .leq 3 false true) [8, kk 1000000]),
 zo 10 (.pick 6 9 kf),
 zM 11 10,
 zt 12 11 (.faddr 1 1),
 zt 13 11 (.load true 2 12),
 zt 14 11 (.call true [[]] 67 [13]),
 zo 15 (.pick 11 14 kf),
 zM 16 15,
 zt 17 16 (.faddr 3 1),
 zt 18 16 (.slcA 4 2 17 none none),
 zt 19 16 (.gcall false false [1, 300000, 300001, 300002, 300003, 300004, 300005, 300006, 300007] [[(0, 2)], []] 68 [18, .func 69]),
 zt 20 16 (.prim (.un .not) [19]),
 zo 21 (.pick 16 20 kf),
 zM 2 21]
def p24c5 := sq (rg p24o1) (sq (rg p24o2) (rt))
def pc24_r : List PRes := [PRes.tmp 2 []]
def pc24 : PFunc := ⟨22, pc24_r, p24c5, false⟩
def pc24_a : Ann := {
 kr := fun _ => none
 ka := fun _ => 0
 kh := fun _ => none
 gf := fun d f => match d, f with
  | some 19, 68 => some (false, false, [1, 300000, 300001, 300002, 300003, 300004, 300005, 300006, 300007])
  | _, _ => none
 ow := ow0
 tc := tc1 }
theorem pc24_ok : compFn Try.prog pc24_a Try.f24 = some pc24 := by kernel_rfl
def p99o1 := [zM 4 kf]
def p99o2 := [zM 5 0,
 zM 6 1,
 zK 7 .add 3 6 1,
 zB 8 .shr 5 5 7,
 zo 9 (.prim (.bin .and 5 false true) [8, .const (.int .u8 1)]),
 zo 10 (.prim (.bin .eql 5 false true) [9, .const (.int .u8 1)]),
 zM 4 10]
def p99c5 := sq (rg p99o1) (sq (rg p99o2) (rt))
def pc99_r : List PRes := [PRes.tmp 4 []]
def pc99 : PFunc := ⟨11, pc99_r, p99c5, false⟩
def pc99_a : Ann := {
 kr := fun _ => none
 ka := fun _ => 0
 kh := fun _ => none
 ow := ow0
 tc := tc1 }
theorem pc99_ok : compFn Try.prog pc99_a Try.f99 = some pc99 := by kernel_rfl
def p77o1 := [zo 1 (.box 35 0 []),
 zM 2 kf]
def p77o2 := [zG 5 0 1,
 zL 6 5,
 zK 7 .lss 3 6 0,
 zM 8 7,
 zf 9 8 (.faddr 0 1),
 zf 10 8 (.load false 1 9),
 zf 11 8 (.prim (.bin .gtr 3 false true) [10, kk 1000000]),
 zo 12 (.pick 8 kt 11),
 zM 13 12,
 zf 14 13 (.faddr 1 1),
 zf 15 13 (.load false 1 14),
 zf 16 13 (.prim (.bin .eql 5 false true) [15, .const (.int .u8 0)]),
 zo 17 (.pick 13 kt 16),
 zM 18 17,
 zf 19 18 (.faddr 1 1),
 zf 20 18 (.load false 1 19),
 zf 21 18 (.prim (.bin .gtr 5 false true) [20, .const (.int .u8 31)]),
 zo 22 (.pick 18 kt 21)]
def p77o3 := [zM 2 kf]
def p77o9 := [zG 23 1 1,
 zL 24 23,
 zo 25 (.prim (.bin .and 5 false true) [24, .const (.int .u8 1)]),
 zo 26 (.prim (.bin .eql 5 false true) [25, .const (.int .u8 0)]),
 zM 27 26,
 zt 28 27 (.faddr 2 1),
 zt 29 27 (.load true 2 28),
 zt 30 27 (.build (.agg #[ki, ki]) []),
 zt 31 27 (.prim (.bin .neq 23 false false) [29, 30]),
 zo 32 (.pick 27 31 kf),
 zM 33 32,
 zf 34 33 (.faddr 2 1),
 zf 35 33 (.load true 2 34),
 zf 36 33 (.call true [[]] 67 [35]),
 zf 37 33 (.prim (.un .not) [36]),
 zo 38 (.pick 33 kt 37)]
def p77o10 := [zM 2 kf]
def p77o16 := [zG 39 4 1,
 zo 40 (.load true 8 39),
 zM 41 (kk 0)]
def p77o17 := [zK 42 .lss 3 41 4]
def p77o21 := [zM 43 41,
 zo 44 (.idx true 2 4 40 41),
 zo 4 (.alloc 25 (.agg #[ki, ks]) []),
 zM 3 43,
 zs (.store 2 4 44)]
def p77o22 := [zo 45 (.load true 2 4),
 zo 46 (.call true [[]] 70 [45]),
 zo 47 (.prim (.un .not) [46]),
 zM 48 47,
 zf 49 48 (.faddr 1 1),
 zf 50 48 (.load false 1 49),
 zf 51 48 (.mv 3),
 zf 52 48 (.call true [[], []] 99 [50, 51]),
 zf 53 48 (.prim (.un .not) [52]),
 zf 54 48 (.mv 53),
 zt 55 54 (.load true 2 4),
 zt 56 54 (.build (.agg #[ki, ks]) []),
 zt 57 54 (.prim (.bin .neq 25 false false) [55, 56]),
 zf 58 48 (.pick 54 57 kf),
 zo 59 (.pick 48 kt 58)]
def p77o23 := [zM 2 kf]
def p77o31 := [zK 60 .add 3 41 1,
 zM 41 60]
def p77c34 := sq (.region (some ([1, 40, 41], [1, 4], [])) false p77o17) (sq (.cond 42 (.skip) (.exit 0)) (sq (.block 1 (sq (rg p77o21) (sq (rg p77o22) (.cond 59 (sq (rg p77o23) (rt)) (.skip))))) (rg p77o31)))
def p77o38 := [zM 2 kt]
def p77c40 := sq (rg p77o38) (rt)
def p77c41 := sq (sq (.region (some ([1], [1], [])) false p77o16) (.block 0 (.loop p77c34))) p77c40
def p77c44 := sq (rg p77o1) (sq (sq (rg p77o2) (.cond 22 (sq (rg p77o3) (rt)) (.skip))) (sq (sq (rg p77o9) (.cond 38 (sq (rg p77o10) (rt)) (.skip))) p77c41))
def pc77_r : List PRes := [PRes.tmp 2 []]
def pc77 : PFunc := ⟨61, pc77_r, p77c44, false⟩
def pc77_a : Ann := {
 kr := fun
  | 5 => some ([1], [1], [])
  | 6 => some ([1, 40, 41], [1, 4], [])
  | _ => none
 ka := fun _ => 0
 kh := fun _ => none
 ow := ow0
 tc := tc1 }
theorem pc77_ok : compFn Try.prog pc77_a Try.f77 = some pc77 := by kernel_rfl
def p39o1 := [zo 1 (.box 67 0 []),
 zM 2 kf]
def p39o2 := [za 5 1 1 0 (.faddr 2 1),
 za 6 5 1 2 (.load true 11 5),
 zo 7 (.build (.agg #[ki, ki, ki, ki, ks, ki, ks, ki, ks, ki, ks]) []),
 zj 8 6 7 (.prim (.bin .eql 28 false false) [6, 7]),
 za 9 1 1 0 (.faddr 13 1),
 za 10 9 1 13 (.load true 12 9),
 zo 11 (.build (.agg #[ki, .int .u8 0, ki, ki, ki, ks, ki, ks, ki, ks, ki, ks]) []),
 zj 12 10 11 (.prim (.bin .eql 35 false false) [10, 11]),
 zi 3 8 (.mv 8),
 zi 4 12 (.mv 12)]
def p39o3 := [zG 13 0 1,
 zL 14 13]
def p39o4 := [zK 16 .eql 3 14 1,
 zM 15 16]
def p39o5 := [zG 17 2 1,
 zo 18 (.load true 11 17),
 zo 19 (.call true [[]] 24 [18]),
 zM 20 19,
 zt 21 20 (.faddr 1 1),
 zt 22 20 (.load false 1 21),
 zt 23 20 (.faddr 2 1),
 zt 24 20 (.faddr 0 23),
 zt 25 20 (.load false 1 24),
 zt 26 20 (.prim (.bin .eql 3 false false) [22, 25]),
 zo 27 (.pick 20 26 kf),
 zM 28 27,
 zt 29 28 (.mv 4),
 zo 30 (.pick 28 29 kf),
 zM 2 30]
def p39o8 := [zK 32 .eql 3 14 2,
 zM 31 32]
def p39o9 := [zG 33 13 1,
 zo 34 (.load true 12 33),
 zo 35 (.call true [[]] 77 [34]),
 zM 36 35,
 zt 37 36 (.faddr 1 1),
 zt 38 36 (.load false 1 37),
 zt 39 36 (.faddr 13 1),
 zt 40 36 (.faddr 0 39),
 zt 41 36 (.load false 1 40),
 zt 42 36 (.prim (.bin .eql 3 false false) [38, 41]),
 zo 43 (.pick 36 42 kf),
 zM 44 43,
 zt 45 44 (.mv 3),
 zo 46 (.pick 44 45 kf),
 zM 2 46]
def p39o12 := [zK 48 .eql 3 14 3,
 zM 47 48]
def p39o13 := [zG 49 1 1,
 zL 50 49,
 zK 51 .geq 3 50 0,
 zM 52 51,
 zt 53 52 (.faddr 1 1),
 zt 54 52 (.load false 1 53),
 zt 55 52 (.prim (.bin .leq 3 false true) [54, kk 1000000]),
 zo 56 (.pick 52 55 kf),
 zM 57 56,
 zt 58 57 (.mv 3),
 zo 59 (.pick 57 58 kf),
 zM 60 59,
 zt 61 60 (.mv 4),
 zo 62 (.pick 60 61 kf),
 zM 2 62]
def p39o25 := [zM 2 kf]
def p39c30 := sq (rg p39o1) (sq (rh p39o2) (sq (sq (rg p39o3) (.block 0 (sq (rg p39o4) (.cond 15 (sq (rg p39o5) (rt)) (sq (rg p39o8) (.cond 31 (sq (rg p39o9) (rt)) (sq (rg p39o12) (.cond 47 (sq (rg p39o13) (rt)) (.skip))))))))) (sq (rg p39o25) (rt))))
def pc39_r : List PRes := [PRes.tmp 2 []]
def pc39 : PFunc := ⟨63, pc39_r, p39c30, false⟩
def pc39_a : Ann := {
 kr := fun _ => none
 ka := fun _ => 0
 kh := hg [([1], .at_ 1 0), ([5], .at_ 1 2), ([6, 7, 8, 10, 11, 12], .imm), ([9], .at_ 1 13)]
 ow := ow0
 tc := tc1 }
theorem pc39_ok : compFn Try.prog pc39_a Try.f39 = some pc39 := by kernel_rfl
def p111o1 := [zM 2 kf]
def p111o2 := [zM 3 0,
 zM 4 0,
 zB 5 .neq 3 3 4,
 zM 2 5]
def p111c5 := sq (rg p111o1) (sq (rg p111o2) (rt))
def pc111_r : List PRes := [PRes.tmp 2 []]
def pc111 : PFunc := ⟨6, pc111_r, p111c5, false⟩
def pc111_a : Ann := {
 kr := fun _ => none
 ka := fun _ => 0
 kh := fun _ => none
 ow := ow0
 tc := tc1 }
theorem pc111_ok : compFn Try.prog pc111_a Try.f111 = some pc111 := by kernel_rfl
def p86o1 := [zM 4 (kk 0)]
def p86o2 := [zM 7 0,
 zo 8 (.call true [[]] 111 [7]),
 zM 5 8]
def p86o3 := [zM 9 1,
 zo 10 (.call true [[]] 111 [9]),
 zM 6 10]
def p86o4 := [zM 11 5]
def p86o5 := [zM 12 6]
def p86o6 := [zM 4 (kk 0)]
def p86o12 := [zM 4 (kk (-1))]
def p86o19 := [zM 13 6]
def p86o20 := [zM 4 (kk 1)]
def p86o26 := [zM 14 0,
 zM 15 1,
 zB 16 .lss 3 14 15]
def p86o27 := [zM 4 (kk (-1))]
def p86o33 := [zM 17 0,
 zM 18 1,
 zB 19 .gtr 3 17 18]
def p86o34 := [zM 4 (kk 1)]
def p86o40 := [zM 4 (kk 0)]
def p86c49 := sq (rg p86o1) (sq (rg p86o2) (sq (rg p86o3) (sq (sq (rg p86o4) (.cond 11 (sq (sq (rg p86o5) (.cond 12 (sq (rg p86o6) (rt)) (.skip))) (sq (rg p86o12) (rt))) (.skip))) (sq (sq (rg p86o19) (.cond 13 (sq (rg p86o20) (rt)) (.skip))) (sq (sq (rg p86o26) (.cond 16 (sq (rg p86o27) (rt)) (.skip))) (sq (sq (rg p86o33) (.cond 19 (sq (rg p86o34) (rt)) (.skip))) (sq (rg p86o40) (rt))))))))
def pc86_r : List PRes := [PRes.tmp 4 []]
def pc86 : PFunc := ⟨20, pc86_r, p86c49, false⟩
def pc86_a : Ann := {
 kr := fun _ => none
 ka := fun _ => 0
 kh := fun _ => none
 ow := ow0
 tc := tc1 }
theorem pc86_ok : compFn Try.prog pc86_a Try.f86 = some pc86 := by kernel_rfl
def p85o1 := [zo 2 (.box 28 0 []),
 zM 4 (kk 0)]
def p85o2 := [zG 5 0 2,
 zL 6 5,
 zM 7 1,
 zo 8 (.call true [[], []] 86 [6, 7]),
 zM 4 8]
def p85c5 := sq (rg p85o1) (sq (rg p85o2) (rt))
def pc85_r : List PRes := [PRes.tmp 4 []]
def pc85 : PFunc := ⟨9, pc85_r, p85c5, false⟩
def pc85_a : Ann := {
 kr := fun _ => none
 ka := fun _ => 0
 kh := fun _ => none
 ow := ow0
 tc := tc1 }
theorem pc85_ok : compFn Try.prog pc85_a Try.f85 = some pc85 := by kernel_rfl
def p84o1 := [zM 6 (kk 0),
 zM 7 kf]
def p84o2 := [zM 12 0,
 zo 13 (.lenS 12),
 zM 8 13]
def p84o3 := [zM 14 8,
 zM 9 (kk 0),
 zM 10 14]
def p84o4 := [zM 15 9,
 zM 16 10,
 zB 17 .lss 3 15 16]
def p84o9 := [zM 18 9,
 zM 19 10,
 zB 20 .add 3 18 19,
 zo 21 (.prim (.conv 3 90) [20]),
 zo 22 (.prim (.bin .shr 90 false true) [21, .const (.int .u64 1)]),
 zo 23 (.prim (.conv 90 3) [22]),
 zM 11 23]
def p84o10 := [zM 24 2,
 zM 25 0,
 zM 26 11,
 zo 27 (.iaddrS 11 25 26),
 zo 28 (.load true 11 27),
 zM 29 1,
 zo 30 (.callv true [[], []] 24 [28, 29]),
 zK 31 .lss 3 30 0]
def p84o11 := [zM 32 11,
 zK 33 .add 3 32 1,
 zM 9 33]
def p84o12 := [zM 34 11,
 zM 10 34]
def p84c17 := sq (sq (.region (some ([0, 1, 2, 8, 9, 10], [], [])) false p84o4) (.cond 17 (.skip) (.exit 0))) (.block 1 (sq (rg p84o9) (sq (rg p84o10) (.cond 31 (rg p84o11) (rg p84o12)))))
def p84o20 := [zM 35 9,
 zM 36 9,
 zM 37 8,
 zB 38 .lss 3 36 37,
 zM 39 38,
 zt 40 39 (.mv 2),
 zt 41 39 (.mv 0),
 zt 42 39 (.mv 9),
 zt 43 39 (.iaddrS 11 41 42),
 zt 44 39 (.load true 11 43),
 zt 45 39 (.mv 1),
 zt 46 39 (.callv true [[], []] 40 [44, 45]),
 zt 47 39 (.prim (.bin .eql 3 false true) [46, kk 0]),
 zo 48 (.pick 39 47 kf),
 zM 6 35,
 zM 7 48]
def p84c22 := sq (rg p84o20) (rt)
def p84c26 := sq (rg p84o1) (sq (rg p84o2) (sq (rg p84o3) (sq (.block 0 (.loop p84c17)) p84c22)))
def pc84_r : List PRes := [PRes.tmp 6 [], PRes.tmp 7 []]
def pc84 : PFunc := ⟨49, pc84_r, p84c26, false⟩
def pc84_a : Ann := {
 kr := fun
  | 3 => some ([0, 1, 2, 8, 9, 10], [], [])
  | _ => none
 ka := fun _ => 0
 kh := fun _ => none
 ow := ow0
 tc := tc1 }
theorem pc84_ok : compFn Try.prog pc84_a Try.f84 = some pc84 := by kernel_rfl
def p88o1 := [zo 2 (.box 28 0 []),
 zo 3 (.box 35 1 []),
 zo 4 (.alloc 28 (.agg #[ki, ki, ki, ki, ks, ki, ks, ki, ks, ki, ks]) [])]
def p88o2 := [zG 7 1 3,
 zL 8 7,
 zo 9 (.prim (.bin .and 5 false true) [8, .const (.int .u8 1)]),
 zo 10 (.prim (.bin .neq 5 false true) [9, .const (.int .u8 0)])]
def p88o3 := [zG 11 2 3,
 zo 12 (.load true 2 11),
 zG 13 1 2,
 zs (.store 2 13 12)]
def p88o7 := [zG 14 4 3,
 zo 15 (.load true 8 14),
 zM 16 (kk 0)]
def p88o8 := [zK 17 .lss 3 16 4]
def p88o12 := [zM 18 16,
 zo 19 (.idx true 2 4 15 16),
 zo 6 (.alloc 25 (.agg #[ki, ks]) []),
 zM 5 18,
 zs (.store 2 6 19)]
def p88o13 := [zG 20 1 3,
 zL 21 20,
 zM 22 5,
 zo 23 (.call true [[], []] 99 [21, 22])]
def p88o14 := [zM 24 5,
 zo 25 (.load true 2 6),
 zG 26 3 2,
 zo 27 (.iaddrA 4 2 26 24),
 zs (.store 2 27 25)]
def p88o20 := [zK 28 .add 3 16 1,
 zM 16 28]
def p88c23 := sq (.region (some ([2, 3, 4, 15, 16], [2, 3, 4, 6], [])) false p88o8) (sq (.cond 17 (.skip) (.exit 0)) (sq (.block 1 (sq (rg p88o12) (sq (rg p88o13) (.cond 23 (rg p88o14) (.skip))))) (rg p88o20)))
def p88o27 := [zo 29 (.load true 11 2),
 zs (.store 11 4 29)]
def p88c29 := sq (rg p88o27) (rt)
def p88c30 := sq (sq (.region (some ([2, 3, 4], [2, 3, 4], [])) false p88o7) (.block 0 (.loop p88c23))) p88c29
def p88c32 := sq (rg p88o1) (sq (sq (rg p88o2) (.cond 10 (rg p88o3) (.skip))) p88c30)
def pc88_r : List PRes := [PRes.cell 4 true 11 []]
def pc88 : PFunc := ⟨30, pc88_r, p88c32, false⟩
def pc88_a : Ann := {
 kr := fun
  | 3 => some ([2, 3, 4], [2, 3, 4], [])
  | 4 => some ([2, 3, 4, 15, 16], [2, 3, 4, 6], [])
  | _ => none
 ka := fun _ => 0
 kh := fun _ => none
 ow := ow0
 tc := tc1 }
theorem pc88_ok : compFn Try.prog pc88_a Try.f88 = some pc88 := by kernel_rfl
def p51o1 := [zo 3 (.box 67 1 []),
 zo 4 (.mv (.const (kl))),
 zM 5 kf]
def p51o2 := [zM 10 0,
 zG 11 1 3,
 zL 12 11,
 zo 13 (.gcall false false [300000, 300001, 300002, 300003, 300004, 300005, 300006, 300007] [[(0, 11)], [], []] 84 [10, 12, .func 85]),
 zM 9 13,
 zX 14 9 0,
 zX 15 9 1,
 zM 6 14,
 zM 7 15]
def p51o3 := [zo 16 (.load true 25 3),
 zo 17 (.call true [[]] 39 [16]),
 zo 18 (.prim (.un .not) [17]),
 zM 19 18,
 zf 20 19 (.mv 7),
 zf 21 19 (.faddr 0 3),
 zf 22 19 (.load false 1 21),
 zf 23 19 (.prim (.bin .eql 3 false true) [22, kk 1]),
 zf 24 19 (.prim (.bin .eql 4 false false) [20, 23]),
 zo 25 (.pick 19 kt 24)]
def p51o4 := [zM 26 0,
 zo 27 (.gcall false false [300000, 300001, 300002, 300003, 300004, 300005, 300006, 300007] [[(0, 11)]] 78 [26]),
 zM 4 27,
 zM 5 kf]
def p51o10 := [zM 28 0,
 zo 29 (.gcall false false [300000, 300001, 300002, 300003, 300004, 300005, 300006, 300007] [[(0, 11)]] 78 [28]),
 zM 8 29]
def p51o11 := [zG 30 0 3,
 zL 31 30]
def p51o12 := [zK 38 .eql 3 31 1,
 zM 37 38]
def p51o13 := [zM 39 8,
 zM 40 6,
 zG 41 2 3,
 zo 42 (.load true 11 41),
 zo 43 (.bptrs 11 [42]),
 zo 44 (.gcall true false [43, 300000, 300001, 300002, 300003, 300004, 300005, 300006, 300007] [[(0, 11)], [], [(0, 11)]] 87 [39, 40, 43]),
 zM 8 44]
def p51o14 := [zK 46 .eql 3 31 2,
 zM 45 46]
def p51o15 : List POper := [⟨some 47, .mv 8, none, [(8, .obj 300000)]⟩,
 zi 48 6 (.mv 6),
 ⟨some 49, .mv 8, none, [(8, .obj 300000)]⟩,
 zi 50 6 (.mv 6),
 ⟨some 51, .iaddrS 11 49 50, none, [(49, .obj 300000), (50, .imm)]⟩,
 ⟨some 52, .load true 11 51, none, [(51, .obj 300000)]⟩,
 za 53 3 3 0 (.faddr 13 3),
 za 54 53 3 13 (.load true 12 53),
 zj 55 52 54 (.call false [[], []] 88 [52, 54]),
 ⟨some 56, .iaddrS 11 47 48, none, [(47, .obj 300000), (48, .imm)]⟩,
 zn (.store 11 56 55) [(56, .obj 300000), (55, .imm)]]
def p51o16 := [zM 32 8,
 zM 33 6,
 zM 34 6,
 zK 35 .add 3 34 1,
 zo 36 (.gcall true false [300000, 300001, 300002, 300003, 300004, 300005, 300006, 300007] [[(0, 11)], [], []] 89 [32, 33, 35]),
 zM 8 36]
def p51o23 := [zM 57 8,
 zM 4 57,
 zM 5 kt]
def p51c30 := sq (rg p51o1) (sq (rg p51o2) (sq (sq (rg p51o3) (.cond 25 (sq (rg p51o4) (rt)) (.skip))) (sq (rg p51o10) (sq (sq (rg p51o11) (.block 0 (sq (rg p51o12) (.cond 37 (rg p51o13) (sq (rg p51o14) (.cond 45 (rh p51o15) (rg p51o16))))))) (sq (rg p51o23) (rt))))))
def pc51_r : List PRes := [PRes.tmp 4 [(0, 11)], PRes.tmp 5 []]
def pc51 : PFunc := ⟨58, pc51_r, p51c30, true⟩
def pc51_a : Ann := {
 kr := fun _ => none
 ka := fun _ => 0
 kh := hg [([3], .at_ 3 0), ([6, 48, 50, 52, 54, 55], .imm), ([8, 47, 49, 51, 56], .obj 300000), ([53], .at_ 3 13)]
 gf := fun d f => match d, f with
  | some 13, 84 => some (false, false, [300000, 300001, 300002, 300003, 300004, 300005, 300006, 300007])
  | some 27, 78 => some (false, false, [300000, 300001, 300002, 300003, 300004, 300005, 300006, 300007])
  | some 29, 78 => some (false, false, [300000, 300001, 300002, 300003, 300004, 300005, 300006, 300007])
  | some 36, 89 => some (true, false, [300000, 300001, 300002, 300003, 300004, 300005, 300006, 300007])
  | some 44, 87 => some (true, false, [43, 300000, 300001, 300002, 300003, 300004, 300005, 300006, 300007])
  | _, _ => none
 ow := ow0
 tc := tc1
 bv := fun d => match d with
  | some 43 => true
  | _ => false
 ex := true }
theorem pc51_ok : compFn Try.prog pc51_a Try.f51 = some pc51 := by kernel_rfl
def p40o1 := [zo 4 (.mv (.const (kl))),
 zM 5 kf]
def p40o2 := [zM 10 0,
 zo 11 (.gcall false false [300000, 300001, 300002, 300003, 300004, 300005, 300006, 300007] [[(0, 11)]] 78 [10]),
 zM 6 11,
 zM 7 kt]
def p40o4 := [zM 12 1,
 zo 13 (.lenS 12),
 zM 14 (kk 0)]
def p40o5 := [zB 15 .lss 3 14 13]
def p40o9 := [zo 16 (.iaddrS 25 12 14),
 zo 17 (.load true 25 16),
 zo 9 (.alloc 67 (.agg #[ki, ki, ki, ki, ki, ki, ks, ki, ks, ki, ks, ki, ks, ki, .int .u8 0, ki, ki, ki, ks, ki, ks, ki, ks, ki, ks]) []),
 zs (.store 25 9 17)]
def p40o10 := [zM 19 6,
 zo 20 (.load true 25 9),
 zo 21 (.gcall false false [300000, 300001, 300002, 300003, 300004, 300005, 300006, 300007, 399990, 399991] [[(0, 11)], []] 51 [19, 20]),
 zM 18 21,
 zX 22 18 0,
 zX 23 18 1,
 zM 6 22,
 zM 7 23]
def p40o11 := [zM 24 7,
 zo 25 (.prim (.un .not) [24])]
def p40o19 := [zK 26 .add 3 14 1,
 zM 14 26]
def p40c22 := sq (.region (some ([0, 6, 7, 12, 13, 14], [9, 300000, 300001], [(false, 300001, 0, 300000, 1000000000, 1)])) false p40o5) (sq (.cond 15 (.skip) (.exit 0)) (sq (.block 1 (sq (rg p40o9) (sq (rg p40o10) (sq (rg p40o11) (.cond 25 (.exit 0) (.skip)))))) (rg p40o19)))
def p40o26 := [zM 27 7,
 zo 28 (.prim (.un .not) [27])]
def p40o27 := [zM 29 0,
 zo 30 (.gcall false false [300000, 300001, 300002, 300003, 300004, 300005, 300006, 300007] [[(0, 11)]] 78 [29]),
 zM 4 30,
 zM 5 kf]
def p40o33 := [zM 31 6,
 zM 4 31,
 zM 5 kt]
def p40c36 := sq (sq (.region (some ([0, 6, 7], [9, 300000, 300001], [(false, 300000, 0, 300001, 1000000000, 1)])) false p40o26) (.cond 28 (sq (rg p40o27) (rt)) (.skip))) (sq (rg p40o33) (rt))
def p40c41 := sq (rg p40o1) (.scope (sq (rg p40o2) (sq (.label) (sq (sq (rg p40o4) (.block 0 (.loop p40c22))) p40c36))))
def pc40_r : List PRes := [PRes.tmp 4 [(0, 11)], PRes.tmp 5 []]
def pc40 : PFunc := ⟨32, pc40_r, p40c41, true⟩
def pc40_a : Ann := {
 kr := fun
  | 3 => some ([0, 6, 7, 12, 13, 14], [9, 300000, 300001], [(false, 300001, 0, 300000, 1000000000, 1)])
  | 8 => some ([0, 6, 7], [9, 300000, 300001], [(false, 300000, 0, 300001, 1000000000, 1)])
  | _ => none
 ka := fun _ => 0
 kh := fun _ => none
 gf := fun d f => match d, f with
  | some 11, 78 => some (false, false, [300000, 300001, 300002, 300003, 300004, 300005, 300006, 300007])
  | some 21, 51 => some (false, false, [300000, 300001, 300002, 300003, 300004, 300005, 300006, 300007, 399990, 399991])
  | some 30, 78 => some (false, false, [300000, 300001, 300002, 300003, 300004, 300005, 300006, 300007])
  | _, _ => none
 ow := ow0
 tc := tc1
 ex := true }
theorem pc40_ok : compFn Try.prog pc40_a Try.f40 = some pc40 := by kernel_rfl
def p65o1 := [zo 2 (.mv (.const (ks)))]
def p65o2 := [zo 3 (.mv (.const (kl)))]
def p65o3 := [zM 4 0,
 zo 5 (.prim (.bin .geq 89 false true) [4, .const (.int .u64 128)])]
def p65o8 := [zM 6 3,
 zM 7 0,
 zo 8 (.prim (.conv 89 5) [7]),
 zo 9 (.prim (.bin .or 5 false true) [8, .const (.int .u8 128)]),
 zo 10 (.bslice 5 1 [9]),
 zo 11 (.app 100003 5 1 1 6 10),
 zM 3 11]
def p65o9 := [zM 12 0,
 zo 13 (.prim (.bin .shr 89 false true) [12, .const (.int .u64 7)]),
 zM 0 13]
def p65o15 := [zM 14 3,
 zM 15 0,
 zo 16 (.prim (.conv 89 5) [15]),
 zo 17 (.bslice 5 1 [16]),
 zo 18 (.app 100003 5 1 1 14 17),
 zo 19 (.b2s 18),
 zM 2 19]
def pc65_r : List PRes := [PRes.tmp 2 []]
def pc65 : PFunc := ⟨20, pc65_r, (sq (rg p65o1) (sq (rg p65o2) (sq (.block 0 (.loop (sq (sq (.region (some ([0, 3], [100003], [(false, 3, 0, 100003, 5, 1)])) false p65o3) (.cond 5 (.skip) (.exit 0))) (.block 1 (sq (rg p65o8) (rg p65o9)))))) (sq (rg p65o15) (rt))))), false⟩
def pc65_a : Ann := {
 kr := fun
  | 2 => some ([0, 3], [100003], [(false, 3, 0, 100003, 5, 1)])
  | _ => none
 ka := fun
  | 11 => 100003
  | 18 => 100003
  | _ => 0
 kh := fun _ => none
 ow := ow0
 tc := tc1 }
theorem pc65_ok : compFn Try.prog pc65_a Try.f65 = some pc65 := by kernel_rfl
def p110o1 := [zM 4 (kk 0)]
def p110o2 := [zM 6 0,
 zo 7 (.lenS 6),
 zM 8 (kk 0)]
def p110o3 := [zB 9 .lss 3 8 7]
def p110o7 := [zM 10 8,
 zM 5 10]
def p110o8 := [zM 11 1,
 zM 12 0,
 zM 13 5,
 zo 14 (.iaddrS 25 12 13),
 zo 15 (.load true 25 14),
 zo 16 (.callv true [[]] 11 [15])]
def p110o9 := [zM 17 5,
 zM 4 17]
def p110o17 := [zK 18 .add 3 8 1,
 zM 8 18]
def p110o24 := [zM 4 (kk (-1))]
def pc110_r : List PRes := [PRes.tmp 4 []]
def pc110 : PFunc := ⟨19, pc110_r, (sq (rg p110o1) (sq (sq (rg p110o2) (.block 0 (.loop (sq (.region (some ([0, 1, 7, 8], [], [])) false p110o3) (sq (.cond 9 (.skip) (.exit 0)) (sq (.block 1 (sq (rg p110o7) (sq (rg p110o8) (.cond 16 (sq (rg p110o9) (rt)) (.skip))))) (rg p110o17))))))) (sq (rg p110o24) (rt)))), false⟩
def pc110_a : Ann := {
 kr := fun
  | 2 => some ([0, 1, 7, 8], [], [])
  | _ => none
 ka := fun _ => 0
 kh := fun _ => none
 ow := ow0
 tc := tc1 }
theorem pc110_ok : compFn Try.prog pc110_a Try.f110 = some pc110 := by kernel_rfl
def p80o1 := [zM 4 kf]
def p80o2 := [zM 5 0,
 zM 6 1,
 zo 7 (.gcall false false [300000, 300001, 300002, 300003, 300004, 300005, 300006, 300007] [[(0, 25)], []] 110 [5, 6]),
 zK 8 .geq 3 7 0,
 zM 4 8]
def pc80_r : List PRes := [PRes.tmp 4 []]
def pc80 : PFunc := ⟨9, pc80_r, (sq (rg p80o1) (sq (rg p80o2) (rt))), false⟩
def pc80_a : Ann := {
 kr := fun _ => none
 ka := fun _ => 0
 kh := fun _ => none
 gf := fun d f => match d, f with
  | some 7, 110 => some (false, false, [300000, 300001, 300002, 300003, 300004, 300005, 300006, 300007])
  | _, _ => none
 ow := ow0
 tc := tc1 }
theorem pc80_ok : compFn Try.prog pc80_a Try.f80 = some pc80 := by kernel_rfl
def p81o1 := [zo 1 (.box 67 0 []),
 zM 2 kf]
def p81o2 := [zo 3 (.load true 25 1),
 zo 4 (.call true [[]] 39 [3]),
 zo 5 (.prim (.un .not) [4]),
 zM 2 5]
def pc81_r : List PRes := [PRes.tmp 2 []]
def pc81 : PFunc := ⟨6, pc81_r, (sq (rg p81o1) (sq (rg p81o2) (rt))), false⟩
def pc81_a : Ann := {
 kr := fun _ => none
 ka := fun _ => 0
 kh := fun _ => none
 ow := ow0
 tc := tc1 }
theorem pc81_ok : compFn Try.prog pc81_a Try.f81 = some pc81 := by kernel_rfl
def p100o1 := [zo 2 (.mv (.const (ks)))]
def p100o2 := [zM 3 0,
 zo 4 (.prim (.len 9) [3]),
 zo 5 (.prim (.conv 3 89) [4]),
 zo 6 (.call true [[]] 65 [5]),
 zM 7 0,
 zB 8 .add 9 6 7,
 zM 2 8]
def pc100_r : List PRes := [PRes.tmp 2 []]
def pc100 : PFunc := ⟨9, pc100_r, (sq (rg p100o1) (sq (rg p100o2) (rt))), false⟩
def pc100_a : Ann := {
 kr := fun _ => none
 ka := fun _ => 0
 kh := fun _ => none
 ow := ow0
 tc := tc1 }
theorem pc100_ok : compFn Try.prog pc100_a Try.f100 = some pc100 := by kernel_rfl
def p114o1 := [zo 2 (.mv (.const (.int .u64 0)))]
def p114o2 := [zM 3 0,
 zo 4 (.prim (.conv 2 89) [3]),
 zo 5 (.prim (.bin .shl 89 false true) [4, .const (.int .u64 1)]),
 zM 6 0,
 zo 7 (.prim (.bin .shr 2 false true) [6, .const (.int .u64 63)]),
 zo 8 (.prim (.conv 2 89) [7]),
 zB 9 .xor 89 5 8,
 zM 2 9]
def pc114_r : List PRes := [PRes.tmp 2 []]
def pc114 : PFunc := ⟨10, pc114_r, (sq (rg p114o1) (sq (rg p114o2) (rt))), false⟩
def pc114_a : Ann := {
 kr := fun _ => none
 ka := fun _ => 0
 kh := fun _ => none
 ow := ow0
 tc := tc1 }
theorem pc114_ok : compFn Try.prog pc114_a Try.f114 = some pc114 := by kernel_rfl
def p101o1 := [zo 2 (.mv (.const (ks)))]
def p101o2 := [zM 3 0,
 zo 4 (.call true [[]] 114 [3]),
 zo 5 (.call true [[]] 65 [4]),
 zM 2 5]
def pc101_r : List PRes := [PRes.tmp 2 []]
def pc101 : PFunc := ⟨6, pc101_r, (sq (rg p101o1) (sq (rg p101o2) (rt))), false⟩
def pc101_a : Ann := {
 kr := fun _ => none
 ka := fun _ => 0
 kh := fun _ => none
 ow := ow0
 tc := tc1 }
theorem pc101_ok : compFn Try.prog pc101_a Try.f101 = some pc101 := by kernel_rfl
def p63o1 := [zo 1 (.box 35 0 []),
 zo 2 (.mv (.const (ks))),
 zM 3 (kk 0)]
def p63o2 := [zo 7 (.load true 12 1),
 zo 8 (.call true [[]] 77 [7]),
 zo 9 (.prim (.un .not) [8])]
def p63o3 := [zo 2 (.mv (.const (ks))),
 zM 3 (kk 11)]
def p63o9 := [za 10 1 1 0 (.faddr 0 1),
 za 11 10 1 0 (.load false 1 10),
 zi 12 11 (.prim (.conv 3 89) [11]),
 zi 13 12 (.call false [[]] 65 [12]),
 za 14 1 1 0 (.faddr 1 1),
 za 15 14 1 1 (.load false 1 14),
 zi 16 15 (.prim (.conv 5 89) [15]),
 zi 17 16 (.call false [[]] 65 [16]),
 zj 18 13 17 (.prim (.bin .add 9 false false) [13, 17]),
 zi 4 18 (.mv 18)]
def p63o10 := [zG 19 1 1,
 zL 20 19,
 zo 21 (.prim (.bin .and 5 false true) [20, .const (.int .u8 1)]),
 zo 22 (.prim (.bin .neq 5 false true) [21, .const (.int .u8 0)])]
def p63o11 := [zi 23 4 (.mv 4),
 za 24 1 1 0 (.faddr 2 1),
 za 25 24 1 2 (.faddr 0 24),
 za 26 25 1 2 (.load false 1 25),
 zi 27 26 (.prim (.conv 3 89) [26]),
 zi 28 27 (.call false [[]] 65 [27]),
 za 29 1 1 0 (.faddr 2 1),
 za 30 29 1 2 (.faddr 1 29),
 za 31 30 1 3 (.load false 1 30),
 zi 32 31 (.prim (.conv 3 89) [31]),
 zi 33 32 (.call false [[]] 65 [32]),
 zj 34 28 33 (.prim (.bin .add 9 false false) [28, 33]),
 zj 35 23 34 (.prim (.bin .add 9 false false) [23, 34]),
 zi 4 35 (.mv 35)]
def p63o15 := [zG 36 4 1,
 zo 37 (.load true 8 36),
 zM 38 (kk 0)]
def p63o16 := [zK 39 .lss 3 38 4]
def p63o20 := [zM 40 38,
 zo 41 (.idx true 2 4 37 38),
 zo 6 (.alloc 25 (.agg #[ki, ks]) []),
 zM 5 40,
 zs (.store 2 6 41)]
def p63o21 := [zG 42 1 1,
 zL 43 42,
 zM 44 5,
 zo 45 (.call true [[], []] 99 [43, 44]),
 zo 46 (.prim (.un .not) [45])]
def p63o26 := [zM 47 4,
 zG 48 1 6,
 zL 49 48,
 zo 50 (.call true [[]] 100 [49]),
 zB 51 .add 9 47 50,
 zM 4 51]
def p63o27 := [zG 52 1 6,
 zL 53 52,
 zo 54 (.prim (.bin .eql 9 false true) [53, .const (ks)])]
def p63o28 := [zM 55 4,
 zG 56 0 6,
 zL 57 56,
 zo 58 (.call true [[]] 101 [57]),
 zB 59 .add 9 55 58,
 zM 4 59]
def p63o36 := [zK 60 .add 3 38 1,
 zM 38 60]
def p63o43 := [zM 61 4,
 zM 2 61,
 zM 3 (kk 0)]
def pc63_r : List PRes := [PRes.tmp 2 [], PRes.tmp 3 []]
def pc63 : PFunc := ⟨62, pc63_r, (sq (rg p63o1) (sq (sq (rg p63o2) (.cond 9 (sq (rg p63o3) (rt)) (.skip))) (sq (rh p63o9) (sq (sq (rg p63o10) (.cond 22 (rh p63o11) (.skip))) (sq (sq (.region (some ([1, 4], [1], [])) false p63o15) (.block 0 (.loop (sq (.region (some ([1, 4, 37, 38], [1, 6], [])) false p63o16) (sq (.cond 39 (.skip) (.exit 0)) (sq (.block 1 (sq (rg p63o20) (sq (sq (rg p63o21) (.cond 46 (.exit 1) (.skip))) (sq (rg p63o26) (sq (rg p63o27) (.cond 54 (rg p63o28) (.skip))))))) (rg p63o36))))))) (sq (rg p63o43) (rt))))))), false⟩
def pc63_a : Ann := {
 kr := fun
  | 6 => some ([1, 4], [1], [])
  | 7 => some ([1, 4, 37, 38], [1, 6], [])
  | _ => none
 ka := fun _ => 0
 kh := hg [([1, 10], .at_ 1 0), ([4, 11, 12, 13, 15, 16, 17, 18, 23, 26, 27, 28, 31, 32, 33, 34, 35], .imm), ([14], .at_ 1 1), ([24, 25, 29], .at_ 1 2), ([30], .at_ 1 3)]
 ow := ow0
 tc := tc1 }
theorem pc63_ok : compFn Try.prog pc63_a Try.f63 = some pc63 := by kernel_rfl
def p21o1 := [zo 1 (.box 28 0 []),
 zo 2 (.mv (.const (ks))),
 zM 3 (kk 0)]
def p21o2 := [zo 4 (.load true 11 1),
 zo 5 (.call true [[]] 24 [4]),
 zo 6 (.prim (.un .not) [5])]
def p21o3 := [zo 2 (.mv (.const (ks))),
 zM 3 (kk 11)]
def p21o9 := [zG 7 0 1,
 zL 8 7,
 zG 9 1 1,
 zo 10 (.load true 2 9),
 zG 11 3 1,
 zo 12 (.load true 8 11),
 zo 13 (.build (.agg #[ki, .int .u8 0, ki, ki, ki, ks, ki, ks, ki, ks, ki, ks]) [(0, 1, .tmp 8), (1, 1, .const (.int .u8 31)), (2, 2, .tmp 10), (4, 8, .tmp 12)]),
 zo 14 (.call true [[]] 63 [13]),
 zX 15 14 0,
 zX 16 14 1,
 zM 2 15,
 zM 3 16]
def pc21_r : List PRes := [PRes.tmp 2 [], PRes.tmp 3 []]
def pc21 : PFunc := ⟨17, pc21_r, (sq (rg p21o1) (sq (sq (rg p21o2) (.cond 6 (sq (rg p21o3) (rt)) (.skip))) (sq (rg p21o9) (rt)))), false⟩
def pc21_a : Ann := {
 kr := fun _ => none
 ka := fun _ => 0
 kh := fun _ => none
 ow := ow0
 tc := tc1 }
theorem pc21_ok : compFn Try.prog pc21_a Try.f21 = some pc21 := by kernel_rfl
def p82o1 := [zo 1 (.box 67 0 []),
 zo 2 (.mv (.const (ks)))]
def p82o2 := [zo 3 (.mv (.const (ks)))]
def p82o3 := [zG 4 0 1,
 zL 5 4]
def p82o4 := [zK 11 .eql 3 5 1,
 zM 10 11]
def p82o5 := [zG 13 2 1,
 zo 14 (.load true 11 13),
 zo 15 (.call true [[]] 21 [14]),
 zM 12 15,
 zX 16 12 0,
 zX 17 12 1,
 zM 3 16]
def p82o6 := [zK 19 .eql 3 5 2,
 zM 18 19]
def p82o7 := [zG 21 13 1,
 zo 22 (.load true 12 21),
 zo 23 (.call true [[]] 63 [22]),
 zM 20 23,
 zX 24 20 0,
 zX 25 20 1,
 zM 3 24]
def p82o8 := [zG 6 1 1,
 zL 7 6,
 zo 8 (.prim (.conv 3 89) [7]),
 zo 9 (.call true [[]] 65 [8]),
 zM 3 9]
def p82o15 := [zG 26 0 1,
 zL 27 26,
 zo 28 (.prim (.conv 3 89) [27]),
 zo 29 (.call true [[]] 65 [28]),
 zM 30 3,
 zB 31 .add 9 29 30,
 zM 2 31]
def pc82_r : List PRes := [PRes.tmp 2 []]
def pc82 : PFunc := ⟨32, pc82_r, (sq (rg p82o1) (sq (rg p82o2) (sq (sq (rg p82o3) (.block 0 (sq (rg p82o4) (.cond 10 (rg p82o5) (sq (rg p82o6) (.cond 18 (rg p82o7) (rg p82o8))))))) (sq (.region (some ([1, 3], [1], [])) false p82o15) (rt))))), false⟩
def pc82_a : Ann := {
 kr := fun
  | 8 => some ([1, 3], [1], [])
  | _ => none
 ka := fun _ => 0
 kh := fun _ => none
 ow := ow0
 tc := tc1 }
theorem pc82_ok : compFn Try.prog pc82_a Try.f82 = some pc82 := by kernel_rfl
def p46o1 := [zo 2 (.mv (.const (ks))),
 zM 3 (kk 0)]
def p46o2 := [zM 7 0,
 zo 8 (.gcall false false [300000, 300001, 300002, 300003, 300004, 300005, 300006, 300007] [[(0, 25)], []] 80 [7, .func 81])]
def p46o3 := [zo 2 (.mv (.const (ks))),
 zM 3 (kk 11)]
def p46o9 := [zM 9 0,
 zo 10 (.lenS 9),
 zK 11 .gtr 3 10 400]
def p46o10 := [zo 2 (.mv (.const (ks))),
 zM 3 (kk 13)]
def p46o16 := [zo 4 (.allocT 96 (.agg #[.pointer none, kl]) [(1, 5, 1)])]
def p46o17 := [zM 12 0,
 zo 13 (.lenS 12),
 zo 14 (.prim (.conv 3 89) [13]),
 zo 15 (.call true [[]] 65 [14]),
 zo 16 (.gcall false false [4, 300000, 300001, 300002, 300003, 300004, 300005, 300006, 300007, 400032] [[(1, 1)], []] 64 [4, 15])]
def p46o18 := [zM 17 0,
 zo 18 (.lenS 17),
 zM 19 (kk 0)]
def p46o19 := [zB 20 .lss 3 19 18]
def p46o23 := [zo 21 (.iaddrS 25 17 19),
 zo 22 (.load true 25 21),
 zo 6 (.alloc 67 (.agg #[ki, ki, ki, ki, ki, ki, ks, ki, ks, ki, ks, ki, ks, ki, .int .u8 0, ki, ki, ki, ks, ki, ks, ki, ks, ki, ks]) []),
 zs (.store 25 6 22)]
def p46o24 := [zo 23 (.load true 25 6),
 zo 24 (.call true [[]] 82 [23]),
 zo 25 (.gcall false false [4, 300000, 300001, 300002, 300003, 300004, 300005, 300006, 300007, 400032] [[(1, 1)], []] 64 [4, 24])]
def p46o27 := [zK 26 .add 3 19 1,
 zM 19 26]
def p46o34 := [zo 27 (.gcall false false [4, 300000, 300001, 300002, 300003, 300004, 300005, 300006, 300007, 400032] [[(1, 1)]] 66 [4]),
 zM 2 27,
 zM 3 (kk 0)]
def pc46_r : List PRes := [PRes.tmp 2 [], PRes.tmp 3 []]
def pc46 : PFunc := ⟨28, pc46_r, (sq (rg p46o1) (sq (sq (rg p46o2) (.cond 8 (sq (rg p46o3) (rt)) (.skip))) (sq (sq (rg p46o9) (.cond 11 (sq (rg p46o10) (rt)) (.skip))) (sq (rg p46o16) (sq (rg p46o17) (sq (sq (rg p46o18) (.block 0 (.loop (sq (.region (some ([4, 17, 18, 19], [4, 6, 400032], [])) false p46o19) (sq (.cond 20 (.skip) (.exit 0)) (sq (.block 1 (sq (rg p46o23) (rg p46o24))) (rg p46o27))))))) (sq (rg p46o34) (rt)))))))), false⟩
def pc46_a : Ann := {
 kr := fun
  | 8 => some ([4, 17, 18, 19], [4, 6, 400032], [])
  | _ => none
 ka := fun _ => 0
 kh := fun _ => none
 gf := fun d f => match d, f with
  | some 8, 80 => some (false, false, [300000, 300001, 300002, 300003, 300004, 300005, 300006, 300007])
  | some 16, 64 => some (false, false, [4, 300000, 300001, 300002, 300003, 300004, 300005, 300006, 300007, 400032])
  | some 25, 64 => some (false, false, [4, 300000, 300001, 300002, 300003, 300004, 300005, 300006, 300007, 400032])
  | some 27, 66 => some (false, false, [4, 300000, 300001, 300002, 300003, 300004, 300005, 300006, 300007, 400032])
  | _, _ => none
 ow := ow0
 tc := tc1 }
theorem pc46_ok : compFn Try.prog pc46_a Try.f46 = some pc46 := by kernel_rfl
def p83o1 := [zM 4 kf]
def p83o2 := [zM 6 0,
 zo 7 (.lenS 6),
 zM 8 1,
 zo 9 (.lenS 8),
 zB 10 .neq 3 7 9]
def p83o3 := [zM 4 kf]
def p83o9 := [zM 11 0,
 zo 12 (.lenS 11),
 zM 13 (kk 0)]
def p83o10 := [zB 14 .lss 3 13 12]
def p83o14 := [zM 15 13,
 zM 5 15]
def p83o15 := [zi 16 0 (.mv 0),
 zi 17 5 (.mv 5),
 zj 18 16 17 (.iaddrS 25 16 17),
 zi 19 18 (.load true 25 18),
 zi 20 1 (.mv 1),
 zi 21 5 (.mv 5),
 zj 22 20 21 (.iaddrS 25 20 21),
 zi 23 22 (.load true 25 22),
 zj 24 19 23 (.prim (.bin .neq 67 false false) [19, 23])]
def p83o16 := [zM 4 kf]
def p83o24 := [zK 25 .add 3 13 1,
 zM 13 25]
def p83o31 := [zM 4 kt]
def pc83_r : List PRes := [PRes.tmp 4 []]
def pc83 : PFunc := ⟨26, pc83_r, (sq (rg p83o1) (sq (sq (rg p83o2) (.cond 10 (sq (rg p83o3) (rt)) (.skip))) (sq (sq (rg p83o9) (.block 0 (.loop (sq (.region (some ([0, 1, 12, 13], [], [])) false p83o10) (sq (.cond 14 (.skip) (.exit 0)) (sq (.block 1 (sq (rg p83o14) (sq (rh p83o15) (.cond 24 (sq (rg p83o16) (rt)) (.skip))))) (rg p83o24))))))) (sq (rg p83o31) (rt))))), false⟩
def pc83_a : Ann := {
 kr := fun
  | 4 => some ([0, 1, 12, 13], [], [])
  | _ => none
 ka := fun _ => 0
 kh := hg [([0, 1, 5, 16, 17, 18, 19, 20, 21, 22, 23], .imm)]
 ow := ow0
 tc := tc1 }
theorem pc83_ok : compFn Try.prog pc83_a Try.f83 = some pc83 := by kernel_rfl
def p49o1 := [zM 4 kf]
def p49o2 := [zM 5 0,
 zM 6 1,
 zo 7 (.call true [[(0, 25)], [(0, 25)]] 83 [5, 6]),
 zM 4 7]
def pc49_r : List PRes := [PRes.tmp 4 []]
def pc49 : PFunc := ⟨8, pc49_r, (sq (rg p49o1) (sq (rg p49o2) (rt))), false⟩
def pc49_a : Ann := {
 kr := fun _ => none
 ka := fun _ => 0
 kh := fun _ => none
 ow := ow0
 tc := tc1 }
theorem pc49_ok : compFn Try.prog pc49_a Try.f49 = some pc49 := by kernel_rfl
def p73o1 := [zo 2 (.mv (.const (.int .u64 0))),
 zM 3 (kk 0),
 zM 4 (kk 0)]
def p73o2 := [zo 5 (.mv (.const (.int .u64 0))),
 zM 6 (kk 0)]
def p73o4 := [zM 9 0,
 zo 10 (.s2b 5 9),
 zo 11 (.lenS 10),
 zM 12 (kk 0)]
def p73o5 := [zB 13 .lss 3 12 11]
def p73o9 := [zM 14 12,
 zo 15 (.iaddrS 1 10 12),
 zL 16 15,
 zM 7 14,
 zM 8 16]
def p73o10 := [zM 18 7,
 zK 19 .eql 3 18 9,
 zM 20 19,
 zt 21 20 (.mv 8),
 zt 22 20 (.prim (.bin .gtr 5 false true) [21, .const (.int .u8 1)]),
 zo 23 (.pick 20 22 kf),
 zM 17 23]
def p73o12 := [zM 24 7,
 zK 25 .gtr 3 24 0,
 zM 26 25,
 zt 27 26 (.mv 8),
 zt 28 26 (.prim (.bin .eql 5 false true) [27, .const (.int .u8 0)]),
 zo 29 (.pick 26 28 kf),
 zM 17 29]
def p73o15 := [zo 2 (.mv (.const (.int .u64 0))),
 zM 3 (kk 0),
 zM 4 (kk 11)]
def p73o18 := [zM 31 8,
 zo 32 (.prim (.bin .lss 5 false true) [31, .const (.int .u8 128)]),
 zM 30 32]
def p73o19 := [zM 33 5,
 zM 34 8,
 zo 35 (.prim (.conv 5 89) [34]),
 zM 36 7,
 zo 37 (.prim (.bin .mul 3 true false) [kk 7, 36]),
 zB 38 .shl 89 35 37,
 zB 39 .or 89 33 38,
 zM 5 39]
def p73o20 := [zM 40 7,
 zK 41 .add 3 40 1,
 zM 6 41]
def p73o30 := [zM 42 5,
 zM 43 8,
 zo 44 (.prim (.bin .andNot 5 false true) [43, .const (.int .u8 128)]),
 zo 45 (.prim (.conv 5 89) [44]),
 zM 46 7,
 zo 47 (.prim (.bin .mul 3 true false) [kk 7, 46]),
 zB 48 .shl 89 45 47,
 zB 49 .or 89 42 48,
 zM 5 49]
def p73o34 := [zK 50 .add 3 12 1,
 zM 12 50]
def p73o41 := [zM 51 6,
 zK 52 .eql 3 51 0]
def p73o42 := [zo 2 (.mv (.const (.int .u64 0))),
 zM 3 (kk 0),
 zM 4 (kk 10)]
def p73o48 := [zM 53 5,
 zM 54 6,
 zM 2 53,
 zM 3 54,
 zM 4 (kk 0)]
def pc73_r : List PRes := [PRes.tmp 2 [], PRes.tmp 3 [], PRes.tmp 4 []]
def pc73 : PFunc := ⟨55, pc73_r, (sq (rg p73o1) (.scope (sq (rg p73o2) (sq (.label) (sq (sq (rg p73o4) (.block 0 (.loop (sq (.region (some ([5, 6, 10, 11, 12], [], [])) false p73o5) (sq (.cond 13 (.skip) (.exit 0)) (sq (.block 1 (sq (rg p73o9) (sq (.block 2 (sq (sq (rg p73o10) (.cond 17 (.skip) (.region (some ([5, 6, 7, 8, 10, 11, 12], [], [])) false p73o12))) (.cond 17 (sq (rg p73o15) (rt)) (sq (.region (some ([5, 6, 7, 8, 10, 11, 12], [], [])) false p73o18) (.cond 30 (sq (rg p73o19) (sq (rg p73o20) (.exit 0))) (.skip)))))) (rg p73o30)))) (rg p73o34))))))) (sq (sq (.region (some ([5, 6], [], [])) false p73o41) (.cond 52 (sq (rg p73o42) (rt)) (.skip))) (sq (rg p73o48) (rt)))))))), false⟩
def pc73_a : Ann := {
 kr := fun
  | 3 => some ([5, 6, 10, 11, 12], [], [])
  | 6 => some ([5, 6, 7, 8, 10, 11, 12], [], [])
  | 8 => some ([5, 6, 7, 8, 10, 11, 12], [], [])
  | 13 => some ([5, 6], [], [])
  | _ => none
 ka := fun _ => 0
 kh := fun _ => none
 ow := ow0
 tc := tc1 }
theorem pc73_ok : compFn Try.prog pc73_a Try.f73 = some pc73 := by kernel_rfl
def p116o1 := [zM 6 0,
 zo 7 (.nilc 6),
 zG 8 1 7,
 zL 9 8,
 zM 10 1,
 zB 11 .add 3 9 10,
 zo 12 (.nilc 6),
 zG 13 1 12,
 zs (.store 1 13 11)]
def p116o2 := [zM 14 0,
 zM 15 2,
 zo 16 (.nilc 14),
 zG 17 2 16,
 zs (.store 1 17 15)]
def pc116_r : List PRes := []
def pc116 : PFunc := ⟨18, pc116_r, (sq (rg p116o1) (rg p116o2)), false⟩
def pc116_a : Ann := {
 kr := fun _ => none
 ka := fun _ => 0
 kh := fun _ => none
 ow := ow0
 tc := tc1 }
theorem pc116_ok : compFn Try.prog pc116_a Try.f116 = some pc116 := by kernel_rfl
def p104o1 := [zM 2 (kk 0)]
def p104o2 := [zM 6 0,
 zo 7 (.nilc 6),
 zG 8 2 7,
 zL 9 8,
 zK 10 .neq 37 9 0]
def p104o3 := [zM 2 (kk 0)]
def p104o9 := [za 12 0 1000000 0 (.mv 0),
 za 13 12 1000000 0 (.nilc 12),
 za 14 13 1000000 0 (.faddr 0 13),
 za 15 14 1000000 0 (.load false 1 14),
 za 16 0 1000000 0 (.mv 0),
 za 17 16 1000000 0 (.nilc 16),
 za 18 17 1000000 0 (.faddr 1 17),
 za 19 18 1000000 1 (.load false 1 18),
 zj 20 15 19 (.prim (.slice 9 true false) [15, 19]),
 zi 21 20 (.call false [[]] 73 [20]),
 zM 11 21,
 zX 22 11 0,
 zX 23 11 1,
 zX 24 11 2,
 zi 3 22 (.mv 22),
 zi 4 23 (.mv 23),
 zi 5 24 (.mv 24)]
def p104o10 := [zM 25 0,
 zM 26 4,
 zM 27 5,
 zo 28 (.call true [[], [], []] 116 [25, 26, 27])]
def p104o11 := [zM 29 3,
 zo 30 (.prim .min [29, .const (.int .u64 1000001)]),
 zo 31 (.prim (.conv 89 3) [30]),
 zM 2 31]
def pc104_r : List PRes := [PRes.tmp 2 []]
def pc104 : PFunc := ⟨32, pc104_r, (sq (rg p104o1) (sq (sq (rg p104o2) (.cond 10 (sq (rg p104o3) (rt)) (.skip))) (sq (rh p104o9) (sq (rg p104o10) (sq (rg p104o11) (rt)))))), false⟩
def pc104_a : Ann := {
 kr := fun _ => none
 ka := fun _ => 0
 kh := hg [([0, 12, 13, 14, 16, 17], .at_ 1000000 0), ([15, 19, 20, 22, 23, 24], .imm), ([18], .at_ 1000000 1)]
 ow := ow0
 tc := tc1 }
theorem pc104_ok : compFn Try.prog pc104_a Try.f104 = some pc104 := by kernel_rfl
def p117o1 := [zo 4 (.mv (.const (ks))),
 zM 5 (kk 0),
 zM 6 (kk 0)]
def p117o2 := [zM 12 0,
 zo 13 (.call true [[]] 73 [12]),
 zM 11 13,
 zX 14 11 0,
 zX 15 11 1,
 zX 16 11 2,
 zM 7 14,
 zM 8 15,
 zM 9 16]
def p117o3 := [zM 18 9,
 zK 19 .neq 37 18 0,
 zM 17 19]
def p117o4 := [zM 20 9,
 zo 4 (.mv (.const (ks))),
 zM 5 (kk 0),
 zM 6 20]
def p117o7 := [zM 22 7,
 zM 23 1,
 zo 24 (.prim .max [23, kk 0]),
 zo 25 (.prim (.conv 3 89) [24]),
 zB 26 .gtr 89 22 25,
 zM 21 26]
def p117o8 := [zo 4 (.mv (.const (ks))),
 zM 5 (kk 0),
 zM 6 (kk 13)]
def p117o11 := [zM 28 7,
 zM 29 0,
 zo 30 (.prim (.len 9) [29]),
 zM 31 8,
 zB 32 .sub 3 30 31,
 zo 33 (.prim (.conv 3 89) [32]),
 zB 34 .gtr 89 28 33,
 zM 27 34]
def p117o12 := [zo 4 (.mv (.const (ks))),
 zM 5 (kk 0),
 zM 6 (kk 10)]
def p117o23 := [zM 35 8,
 zM 36 7,
 zo 37 (.prim (.conv 89 3) [36]),
 zB 38 .add 3 35 37,
 zM 10 38]
def p117o24 := [zM 39 0,
 zM 40 8,
 zM 41 10,
 zo 42 (.prim (.slice 9 true true) [39, 40, 41]),
 zM 43 10,
 zM 4 42,
 zM 5 43,
 zM 6 (kk 0)]
def pc117_r : List PRes := [PRes.tmp 4 [], PRes.tmp 5 [], PRes.tmp 6 []]
def pc117 : PFunc := ⟨44, pc117_r, (sq (rg p117o1) (sq (rg p117o2) (sq (.block 0 (sq (rg p117o3) (.cond 17 (sq (rg p117o4) (rt)) (sq (rg p117o7) (.cond 21 (sq (rg p117o8) (rt)) (sq (rg p117o11) (.cond 27 (sq (rg p117o12) (rt)) (.skip)))))))) (sq (rg p117o23) (sq (rg p117o24) (rt)))))), false⟩
def pc117_a : Ann := {
 kr := fun _ => none
 ka := fun _ => 0
 kh := fun _ => none
 ow := ow0
 tc := tc1 }
theorem pc117_ok : compFn Try.prog pc117_a Try.f117 = some pc117 := by kernel_rfl
def p121o1 := [zM 2 (kk 0)]
def p121o2 := [zM 3 0,
 zo 4 (.prim (.bin .shr 89 false true) [3, .const (.int .u64 1)]),
 zo 5 (.prim (.conv 89 2) [4]),
 zM 6 0,
 zo 7 (.prim (.bin .and 89 false true) [6, .const (.int .u64 1)]),
 zo 8 (.prim (.conv 89 2) [7]),
 zo 9 (.prim (.un .neg) [8]),
 zB 10 .xor 2 5 9,
 zM 2 10]
def pc121_r : List PRes := [PRes.tmp 2 []]
def pc121 : PFunc := ⟨11, pc121_r, (sq (rg p121o1) (sq (rg p121o2) (rt))), false⟩
def pc121_a : Ann := {
 kr := fun _ => none
 ka := fun _ => 0
 kh := fun _ => none
 ow := ow0
 tc := tc1 }
theorem pc121_ok : compFn Try.prog pc121_a Try.f121 = some pc121 := by kernel_rfl
def p118o1 := [zM 2 (kk 0),
 zM 3 (kk 0),
 zM 4 (kk 0)]
def p118o2 := [zM 9 0,
 zo 10 (.call true [[]] 73 [9]),
 zM 8 10,
 zX 11 8 0,
 zX 12 8 1,
 zX 13 8 2,
 zM 5 11,
 zM 6 12,
 zM 7 13]
def p118o3 := [zM 14 5,
 zo 15 (.call true [[]] 121 [14]),
 zM 16 6,
 zM 17 7,
 zM 2 15,
 zM 3 16,
 zM 4 17]
def pc118_r : List PRes := [PRes.tmp 2 [], PRes.tmp 3 [], PRes.tmp 4 []]
def pc118 : PFunc := ⟨18, pc118_r, (sq (rg p118o1) (sq (rg p118o2) (sq (rg p118o3) (rt)))), false⟩
def pc118_a : Ann := {
 kr := fun _ => none
 ka := fun _ => 0
 kh := fun _ => none
 ow := ow0
 tc := tc1 }
theorem pc118_ok : compFn Try.prog pc118_a Try.f118 = some pc118 := by kernel_rfl
def p105o1 := [zo 2 (.alloc 25 (.agg #[ki, ks]) [])]
def p105o2 := [zo 3 (.alloc 25 (.agg #[ki, ks]) [])]
def p105o3 := [zM 10 0,
 zo 11 (.nilc 10),
 zG 12 2 11,
 zL 13 12,
 zK 14 .neq 37 13 0]
def p105o4 := [zo 15 (.load true 2 3),
 zs (.store 2 2 15)]
def p105o10 := [za 17 0 1000000 0 (.mv 0),
 za 18 17 1000000 0 (.nilc 17),
 za 19 18 1000000 0 (.faddr 0 18),
 za 20 19 1000000 0 (.load false 1 19),
 za 21 0 1000000 0 (.mv 0),
 za 22 21 1000000 0 (.nilc 21),
 za 23 22 1000000 0 (.faddr 1 22),
 za 24 23 1000000 1 (.load false 1 23),
 zj 25 20 24 (.prim (.slice 9 true false) [20, 24]),
 zi 26 25 (.call false [[], []] 117 [25, kk 12]),
 zM 16 26,
 zX 27 16 0,
 zX 28 16 1,
 zX 29 16 2,
 zi 4 27 (.mv 27),
 zi 5 28 (.mv 28),
 zi 6 29 (.mv 29)]
def p105o11 := [zM 30 0,
 zM 31 5,
 zM 32 6,
 zo 33 (.call true [[], [], []] 116 [30, 31, 32])]
def p105o12 := [zM 34 4,
 zG 35 1 3,
 zs (.store 1 35 34)]
def p105o13 := [zM 36 4,
 zo 37 (.prim (.bin .eql 9 false true) [36, .const (ks)]),
 zM 38 37,
 zt 39 38 (.mv 6),
 zt 40 38 (.prim (.bin .eql 37 false true) [39, kk 0]),
 zo 41 (.pick 38 40 kf)]
def p105o14 := [za 43 0 1000000 0 (.mv 0),
 za 44 43 1000000 0 (.nilc 43),
 za 45 44 1000000 0 (.faddr 0 44),
 za 46 45 1000000 0 (.load false 1 45),
 za 47 0 1000000 0 (.mv 0),
 za 48 47 1000000 0 (.nilc 47),
 za 49 48 1000000 0 (.faddr 1 48),
 za 50 49 1000000 1 (.load false 1 49),
 zj 51 46 50 (.prim (.slice 9 true false) [46, 50]),
 zi 52 51 (.call false [[]] 118 [51]),
 zM 42 52,
 zX 53 42 0,
 zX 54 42 1,
 zX 55 42 2,
 zi 7 53 (.mv 53),
 zi 8 54 (.mv 54),
 zi 9 55 (.mv 55)]
def p105o15 := [zM 56 0,
 zM 57 8,
 zM 58 9,
 zo 59 (.call true [[], [], []] 116 [56, 57, 58])]
def p105o16 := [zM 60 7,
 zG 61 0 3,
 zs (.store 1 61 60)]
def p105o23 := [zo 62 (.load true 2 3),
 zs (.store 2 2 62)]
def pc105_r : List PRes := [PRes.cell 2 true 2 []]
def pc105 : PFunc := ⟨63, pc105_r, (sq (rg p105o1) (sq (rg p105o2) (sq (sq (rg p105o3) (.cond 14 (sq (rg p105o4) (rt)) (.skip))) (sq (rh p105o10) (sq (rg p105o11) (sq (sq (rg p105o12) (sq (rg p105o13) (.cond 41 (sq (rh p105o14) (sq (rg p105o15) (rg p105o16))) (.skip)))) (sq (rg p105o23) (rt)))))))), false⟩
def pc105_a : Ann := {
 kr := fun _ => none
 ka := fun _ => 0
 kh := hg [([0, 17, 18, 19, 21, 22, 43, 44, 45, 47, 48], .at_ 1000000 0), ([20, 24, 25, 27, 28, 29, 46, 50, 51, 53, 54, 55], .imm), ([23, 49], .at_ 1000000 1)]
 ow := ow0
 tc := tc1 }
theorem pc105_ok : compFn Try.prog pc105_a Try.f105 = some pc105 := by kernel_rfl
def p71o1 := [zo 2 (.alloc 35 (.agg #[ki, .int .u8 0, ki, ki, ki, ks, ki, ks, ki, ks, ki, ks]) []),
 zM 3 (kk 0),
 zM 4 (kk 0)]
def p71o2 := [zM 9 0,
 zo 10 (.build (.agg #[ks, ki, ki]) [(0, 1, .tmp 9)]),
 zo 11 (.box 138 10 []),
 zM 5 11]
def p71o3 := [zM 12 5,
 zo 13 (.call true [[]] 104 [12]),
 zo 14 (.build (.agg #[ki, .int .u8 0, ki, ki, ki, ks, ki, ks, ki, ks, ki, ks]) [(0, 1, .tmp 13)]),
 zo 6 (.alloc 35 (.agg #[ki, .int .u8 0, ki, ki, ki, ks, ki, ks, ki, ks, ki, ks]) []),
 zs (.store 12 6 14)]
def p71o4 := [zM 15 5,
 zo 16 (.call true [[]] 104 [15]),
 zM 7 16]
def p71o5 := [zM 17 5,
 zo 18 (.nilc 17),
 zG 19 2 18,
 zL 20 19,
 zK 21 .eql 37 20 0,
 zM 22 21,
 zt 23 22 (.faddr 0 6),
 zt 24 22 (.load false 1 23),
 zt 25 22 (.prim (.bin .gtr 3 false true) [24, kk 1000000]),
 zt 26 22 (.mv 25),
 zf 27 26 (.mv 7),
 zf 28 26 (.prim (.bin .eql 3 false true) [27, kk 0]),
 zt 29 22 (.pick 26 kt 28),
 zt 30 22 (.mv 29),
 zf 31 30 (.mv 7),
 zf 32 30 (.prim (.bin .gtr 3 false true) [31, kk 31]),
 zt 33 22 (.pick 30 kt 32),
 zo 34 (.pick 22 33 kf)]
def p71o6 := [zo 35 (.build (.agg #[ki, .int .u8 0, ki, ki, ki, ks, ki, ks, ki, ks, ki, ks]) []),
 zs (.store 12 2 35),
 zM 3 (kk 0),
 zM 4 (kk 11)]
def p71o12 := [zM 36 7,
 zo 37 (.prim (.conv 3 5) [36]),
 zG 38 1 6,
 zs (.store 1 38 37)]
def p71o13 := [zG 39 1 6,
 zL 40 39,
 zo 41 (.prim (.bin .and 5 false true) [40, .const (.int .u8 1)]),
 zo 42 (.prim (.bin .neq 5 false true) [41, .const (.int .u8 0)])]
def p71o14 := [zM 43 5,
 zo 44 (.call true [[]] 104 [43]),
 zG 45 2 6,
 zG 46 0 45,
 zs (.store 1 46 44)]
def p71o15 := [zM 47 5,
 zo 48 (.call true [[]] 104 [47]),
 zG 49 2 6,
 zG 50 1 49,
 zs (.store 1 50 48)]
def p71o22 := [zM 51 (kk 0)]
def p71o23 := [zK 52 .lss 3 51 4]
def p71o27 := [zM 53 51,
 zM 8 53]
def p71o28 := [zM 55 5,
 zo 56 (.nilc 55),
 zG 57 2 56,
 zL 58 57,
 zK 59 .neq 37 58 0,
 zM 54 59]
def p71o30 := [zG 61 1 6,
 zL 62 61,
 zM 63 8,
 zo 64 (.call true [[], []] 99 [62, 63]),
 zM 60 64]
def p71o31 := [zM 65 8,
 zM 66 5,
 zo 67 (.call true [[]] 105 [66]),
 zG 68 4 6,
 zo 69 (.iaddrA 4 2 68 65),
 zs (.store 2 69 67)]
def p71o40 := [zK 70 .add 3 51 1,
 zM 51 70]
def p71o47 := [zM 71 5,
 zo 72 (.nilc 71),
 zG 73 2 72,
 zL 74 73,
 zK 75 .neq 37 74 0]
def p71o48 := [zo 76 (.build (.agg #[ki, .int .u8 0, ki, ki, ki, ks, ki, ks, ki, ks, ki, ks]) []),
 za 77 5 11 0 (.mv 5),
 za 78 77 11 0 (.nilc 77),
 za 79 78 11 0 (.faddr 2 78),
 za 80 79 11 2 (.load false 1 79),
 zn (.store 12 2 76) [(2, .at_ 2 0), (76, .imm)],
 zM 3 (kk 0),
 zi 4 80 (.mv 80)]
def p71o54 := [zo 81 (.load true 12 6),
 zo 82 (.call true [[]] 77 [81]),
 zo 83 (.prim (.un .not) [82])]
def p71o55 := [zo 84 (.build (.agg #[ki, .int .u8 0, ki, ki, ki, ks, ki, ks, ki, ks, ki, ks]) []),
 zs (.store 12 2 84),
 zM 3 (kk 0),
 zM 4 (kk 11)]
def p71o61 := [za 85 6 6 0 (.load true 12 6),
 za 86 5 11 0 (.mv 5),
 za 87 86 11 0 (.nilc 86),
 za 88 87 11 0 (.faddr 1 87),
 za 89 88 11 1 (.load false 1 88),
 zn (.store 12 2 85) [(2, .at_ 2 0), (85, .imm)],
 zi 3 89 (.mv 89),
 zM 4 (kk 0)]
def pc71_r : List PRes := [PRes.cell 2 true 12 [], PRes.tmp 3 [], PRes.tmp 4 []]
def pc71 : PFunc := ⟨90, pc71_r, (sq (rg p71o1) (.scope (sq (rg p71o2) (sq (rg p71o3) (sq (rg p71o4) (sq (sq (rg p71o5) (.cond 34 (sq (rg p71o6) (rt)) (.skip))) (sq (sq (.region (some ([2, 5, 6, 7], [2, 6, 11], [])) false p71o12) (sq (rg p71o13) (.cond 42 (sq (rg p71o14) (rg p71o15)) (.skip)))) (sq (.label) (sq (sq (rg p71o22) (.block 0 (.loop (sq (.region (some ([2, 5, 6, 51], [2, 6, 11], [])) false p71o23) (sq (.cond 52 (.skip) (.exit 0)) (sq (.block 1 (sq (rg p71o27) (.block 2 (sq (rg p71o28) (.cond 54 (.exit 0) (sq (rg p71o30) (.cond 60 (rg p71o31) (.skip)))))))) (rg p71o40))))))) (sq (sq (.region (some ([2, 5, 6], [2, 6, 11], [])) false p71o47) (.cond 75 (sq (rh p71o48) (rt)) (.skip))) (sq (sq (rg p71o54) (.cond 83 (sq (rg p71o55) (rt)) (.skip))) (sq (rh p71o61) (rt))))))))))))), false⟩
def pc71_a : Ann := {
 kr := fun
  | 6 => some ([2, 5, 6, 7], [2, 6, 11], [])
  | 11 => some ([2, 5, 6, 51], [2, 6, 11], [])
  | 17 => some ([2, 5, 6], [2, 6, 11], [])
  | _ => none
 ka := fun _ => 0
 kh := hg [([2], .at_ 2 0), ([5, 77, 78, 86, 87], .at_ 11 0), ([6], .at_ 6 0), ([76, 80, 85, 89], .imm), ([79], .at_ 11 2), ([88], .at_ 11 1)]
 ow := ow0
 tc := tc1 }
theorem pc71_ok : compFn Try.prog pc71_a Try.f71 = some pc71 := by kernel_rfl
def p30o1 := [zo 2 (.alloc 28 (.agg #[ki, ki, ki, ki, ks, ki, ks, ki, ks, ki, ks]) []),
 zM 3 (kk 0),
 zM 4 (kk 0)]
def p30o2 := [zM 9 0,
 zo 10 (.call true [[]] 71 [9]),
 zM 8 10,
 zX 11 8 0,
 zX 12 8 1,
 zX 13 8 2,
 zo 5 (.alloc 35 (.agg #[ki, .int .u8 0, ki, ki, ki, ks, ki, ks, ki, ks, ki, ks]) []),
 zs (.store 12 5 11),
 zM 6 12,
 zM 7 13]
def p30o3 := [zM 15 7,
 zK 16 .neq 37 15 0,
 zM 14 16]
def p30o4 := [zo 17 (.build (.agg #[ki, ki, ki, ki, ks, ki, ks, ki, ks, ki, ks]) []),
 zM 18 7,
 zs (.store 11 2 17),
 zM 3 (kk 0),
 zM 4 18]
def p30o7 := [zG 20 1 5,
 zL 21 20,
 zo 22 (.prim (.bin .neq 5 false true) [21, .const (.int .u8 31)]),
 zM 19 22]
def p30o8 := [zo 23 (.build (.agg #[ki, ki, ki, ki, ks, ki, ks, ki, ks, ki, ks]) []),
 zs (.store 11 2 23),
 zM 3 (kk 0),
 zM 4 (kk 11)]
def p30o17 := [zG 24 0 5,
 zL 25 24,
 zG 26 2 5,
 zo 27 (.load true 2 26),
 zG 28 4 5,
 zo 29 (.load true 8 28),
 zo 30 (.build (.agg #[ki, ki, ki, ki, ks, ki, ks, ki, ks, ki, ks]) [(0, 1, .tmp 25), (1, 2, .tmp 27), (3, 8, .tmp 29)]),
 zM 31 6,
 zs (.store 11 2 30),
 zM 3 31,
 zM 4 (kk 0)]
def pc30_r : List PRes := [PRes.cell 2 true 11 [], PRes.tmp 3 [], PRes.tmp 4 []]
def pc30 : PFunc := ⟨32, pc30_r, (sq (rg p30o1) (sq (rg p30o2) (sq (.block 0 (sq (rg p30o3) (.cond 14 (sq (rg p30o4) (rt)) (sq (rg p30o7) (.cond 19 (sq (rg p30o8) (rt)) (.skip)))))) (sq (rg p30o17) (rt))))), false⟩
def pc30_a : Ann := {
 kr := fun _ => none
 ka := fun _ => 0
 kh := fun _ => none
 ow := ow0
 tc := tc1 }
theorem pc30_ok : compFn Try.prog pc30_a Try.f30 = some pc30 := by kernel_rfl
def p95o1 := [zo 2 (.alloc 67 (.agg #[ki, ki, ki, ki, ki, ki, ks, ki, ks, ki, ks, ki, ks, ki, .int .u8 0, ki, ki, ki, ks, ki, ks, ki, ks, ki, ks]) []),
 zM 3 (kk 0),
 zM 4 (kk 0)]
def p95o2 := [zM 12 0,
 zo 13 (.call true [[]] 73 [12]),
 zM 11 13,
 zX 14 11 0,
 zX 15 11 1,
 zX 16 11 2,
 zM 5 14,
 zM 6 15,
 zM 7 16]
def p95o3 := [zM 17 7,
 zK 18 .neq 37 17 0]
def p95o4 := [zo 19 (.build (.agg #[ki, ki, ki, ki, ki, ki, ks, ki, ks, ki, ks, ki, ks, ki, .int .u8 0, ki, ki, ki, ks, ki, ks, ki, ks, ki, ks]) []),
 zM 20 7,
 zs (.store 25 2 19),
 zM 3 (kk 0),
 zM 4 20]
def p95o10 := [zM 21 5,
 zo 22 (.prim .min [21, .const (.int .u64 4)]),
 zo 23 (.prim (.conv 89 3) [22]),
 zo 24 (.build (.agg #[ki, ki, ki, ki, ki, ki, ks, ki, ks, ki, ks, ki, ks, ki, .int .u8 0, ki, ki, ki, ks, ki, ks, ki, ks, ki, ks]) [(0, 1, .tmp 23)]),
 zo 8 (.alloc 67 (.agg #[ki, ki, ki, ki, ki, ki, ks, ki, ks, ki, ks, ki, ks, ki, .int .u8 0, ki, ki, ki, ks, ki, ks, ki, ks, ki, ks]) []),
 zs (.store 25 8 24)]
def p95o11 := [zM 9 (kk 0)]
def p95o12 := [zG 25 0 8,
 zL 26 25]
def p95o13 := [zK 28 .eql 3 26 1,
 zM 27 28]
def p95o14 := [zM 30 0,
 zM 31 6,
 zo 32 (.prim (.slice 9 true false) [30, 31]),
 zo 33 (.call true [[]] 30 [32]),
 zM 29 33,
 zX 34 29 0,
 zX 35 29 1,
 zX 36 29 2,
 zG 37 2 8,
 zs (.store 11 37 34),
 zM 9 35,
 zM 7 36]
def p95o15 := [zG 38 2 8,
 zG 39 0 38,
 zL 40 39,
 zG 41 1 8,
 zs (.store 1 41 40)]
def p95o17 := [zK 43 .eql 3 26 2,
 zM 42 43]
def p95o18 := [zM 45 0,
 zM 46 6,
 zo 47 (.prim (.slice 9 true false) [45, 46]),
 zo 48 (.call true [[]] 71 [47]),
 zM 44 48,
 zX 49 44 0,
 zX 50 44 1,
 zX 51 44 2,
 zG 52 13 8,
 zs (.store 12 52 49),
 zM 9 50,
 zM 7 51]
def p95o19 := [zG 53 13 8,
 zG 54 0 53,
 zL 55 54,
 zG 56 1 8,
 zs (.store 1 56 55)]
def p95o21 := [zK 58 .eql 3 26 3,
 zM 57 58]
def p95o22 := [zo 10 (.mv (.const (.int .u64 0)))]
def p95o23 := [zM 60 0,
 zM 61 6,
 zo 62 (.prim (.slice 9 true false) [60, 61]),
 zo 63 (.call true [[]] 73 [62]),
 zM 59 63,
 zX 64 59 0,
 zX 65 59 1,
 zX 66 59 2,
 zM 10 64,
 zM 9 65,
 zM 7 66]
def p95o24 := [zM 67 10,
 zo 68 (.prim .min [67, .const (.int .u64 1000001)]),
 zo 69 (.prim (.conv 89 3) [68]),
 zG 70 1 8,
 zs (.store 1 70 69)]
def p95o36 := [zM 71 7,
 zK 72 .eql 37 71 0,
 zM 73 72,
 zt 74 73 (.load true 25 8),
 zt 75 73 (.call true [[]] 39 [74]),
 zt 76 73 (.prim (.un .not) [75]),
 zo 77 (.pick 73 76 kf)]
def p95o37 := [zM 7 (kk 11)]
def p95o41 := [zo 78 (.load true 25 8),
 zM 79 6,
 zM 80 9,
 zB 81 .add 3 79 80,
 zM 82 7,
 zs (.store 25 2 78),
 zM 3 81,
 zM 4 82]
def pc95_r : List PRes := [PRes.cell 2 true 25 [], PRes.tmp 3 [], PRes.tmp 4 []]
def pc95 : PFunc := ⟨83, pc95_r, (sq (rg p95o1) (sq (rg p95o2) (sq (sq (rg p95o3) (.cond 18 (sq (rg p95o4) (rt)) (.skip))) (sq (rg p95o10) (sq (rg p95o11) (sq (sq (rg p95o12) (.block 0 (sq (rg p95o13) (.cond 27 (sq (rg p95o14) (rg p95o15)) (sq (rg p95o17) (.cond 42 (sq (rg p95o18) (rg p95o19)) (sq (rg p95o21) (.cond 57 (sq (rg p95o22) (sq (rg p95o23) (rg p95o24))) (.skip))))))))) (sq (sq (.region (some ([2, 6, 7, 8, 9], [2, 8], [])) false p95o36) (.cond 77 (rg p95o37) (.skip))) (sq (.region (some ([2, 6, 7, 8, 9], [2, 8], [])) false p95o41) (rt))))))))), false⟩
def pc95_a : Ann := {
 kr := fun
  | 17 => some ([2, 6, 7, 8, 9], [2, 8], [])
  | 19 => some ([2, 6, 7, 8, 9], [2, 8], [])
  | _ => none
 ka := fun _ => 0
 kh := fun _ => none
 ow := ow0
 tc := tc1 }
theorem pc95_ok : compFn Try.prog pc95_a Try.f95 = some pc95 := by kernel_rfl
def p54o1 := [zo 2 (.mv (.const (kl))),
 zM 3 (kk 0),
 zM 4 (kk 0)]
def p54o2 := [zM 13 0,
 zo 14 (.call true [[]] 73 [13]),
 zM 12 14,
 zX 15 12 0,
 zX 16 12 1,
 zX 17 12 2,
 zM 5 15,
 zM 6 16,
 zM 7 17]
def p54o3 := [zM 19 7,
 zK 20 .neq 37 19 0,
 zM 18 20]
def p54o4 := [zM 21 7,
 zo 2 (.mv (.const (kl))),
 zM 3 (kk 0),
 zM 4 21]
def p54o7 := [zM 23 5,
 zo 24 (.prim (.bin .gtr 89 false true) [23, .const (.int .u64 400)]),
 zM 22 24]
def p54o8 := [zo 2 (.mv (.const (kl))),
 zM 3 (kk 0),
 zM 4 (kk 13)]
def p54o17 := [zo 8 (.mv (.const (kl)))]
def p54o18 := [zM 25 5,
 zo 26 (.mv (.const (.int .u64 0)))]
def p54o19 := [zB 27 .lss 89 26 25]
def p54o23 := [zM 29 0,
 zM 30 6,
 zo 31 (.prim (.slice 9 true false) [29, 30]),
 zo 32 (.call true [[]] 95 [31]),
 zM 28 32,
 zX 33 28 0,
 zX 34 28 1,
 zX 35 28 2,
 zo 9 (.alloc 67 (.agg #[ki, ki, ki, ki, ki, ki, ks, ki, ks, ki, ks, ki, ks, ki, .int .u8 0, ki, ki, ki, ks, ki, ks, ki, ks, ki, ks]) []),
 zs (.store 25 9 33),
 zM 10 34,
 zM 11 35]
def p54o24 := [zM 36 11,
 zK 37 .neq 37 36 0]
def p54o25 := [zM 38 11,
 zo 2 (.mv (.const (kl))),
 zM 3 (kk 0),
 zM 4 38]
def p54o31 := [zM 39 8,
 zo 40 (.load true 25 9),
 zo 41 (.bslice 67 25 [40]),
 zo 42 (.app 100008 67 25 264 39 41),
 zM 8 42]
def p54o32 := [zM 43 6,
 zM 44 10,
 zB 45 .add 3 43 44,
 zM 6 45]
def p54o37 := [zo 46 (.prim (.bin .add 89 false true) [26, .const (.int .u64 1)]),
 zM 26 46]
def p54o44 := [zM 47 8,
 zM 48 6,
 zM 2 47,
 zM 3 48,
 zM 4 (kk 0)]
def pc54_r : List PRes := [PRes.tmp 2 [(0, 25)], PRes.tmp 3 [], PRes.tmp 4 []]
def pc54 : PFunc := ⟨49, pc54_r, (sq (rg p54o1) (sq (rg p54o2) (sq (.block 0 (sq (rg p54o3) (.cond 18 (sq (rg p54o4) (rt)) (sq (rg p54o7) (.cond 22 (sq (rg p54o8) (rt)) (.skip)))))) (sq (rg p54o17) (sq (sq (rg p54o18) (.block 1 (.loop (sq (.region (some ([0, 6, 8, 25, 26], [9, 100008], [(false, 8, 0, 100008, 67, 25)])) false p54o19) (sq (.cond 27 (.skip) (.exit 1)) (sq (.block 2 (sq (rg p54o23) (sq (sq (rg p54o24) (.cond 37 (sq (rg p54o25) (rt)) (.skip))) (sq (rg p54o31) (rg p54o32))))) (rg p54o37))))))) (sq (rg p54o44) (rt))))))), false⟩
def pc54_a : Ann := {
 kr := fun
  | 8 => some ([0, 6, 8, 25, 26], [9, 100008], [(false, 8, 0, 100008, 67, 25)])
  | _ => none
 ka := fun
  | 42 => 100008
  | _ => 0
 kh := fun _ => none
 ow := ow0
 tc := tc1 }
theorem pc54_ok : compFn Try.prog pc54_a Try.f54 = some pc54 := by kernel_rfl
def p42o1 := [zM 0 kf]
def p42o2 := [zo 14 (.build (.agg #[ki, ki]) [(0, 1, kk 1)]),
 zo 15 (.build (.agg #[ki, ki, ki, ki, ks, ki, ks, ki, ks, ki, ks]) [(0, 1, kk 3), (1, 2, .tmp 14)]),
 zo 1 (.alloc 28 (.agg #[ki, ki, ki, ki, ks, ki, ks, ki, ks, ki, ks]) []),
 zs (.store 11 1 15)]
def p42o3 := [zo 16 (.load true 11 1),
 zo 17 (.build (.agg #[ki, ki, ki, ki, ki, ki, ks, ki, ks, ki, ks, ki, ks, ki, .int .u8 0, ki, ki, ki, ks, ki, ks, ki, ks, ki, ks]) [(0, 1, kk 1), (1, 1, kk 3), (2, 11, .tmp 16)]),
 zo 18 (.build (.agg #[ki, .int .u8 0, ki, ki, ki, ks, ki, ks, ki, ks, ki, ks]) [(0, 1, kk 3), (1, 1, .const (.int .u8 1))]),
 zo 19 (.build (.agg #[ki, ki, ki, ki, ki, ki, ks, ki, ks, ki, ks, ki, ks, ki, .int .u8 0, ki, ki, ki, ks, ki, ks, ki, ks, ki, ks]) [(0, 1, kk 2), (1, 1, kk 3), (13, 12, .tmp 18)]),
 zo 20 (.bslice 67 25 [17, 19]),
 zM 2 20]
def p42o4 := [zM 22 2,
 zo 23 (.call true [[(0, 25)]] 46 [22]),
 zM 21 23,
 zX 24 21 0,
 zX 25 21 1,
 zM 3 24,
 zM 4 25]
def p42o5 := [zM 27 3,
 zo 28 (.call true [[]] 54 [27]),
 zM 26 28,
 zX 29 26 0,
 zX 30 26 1,
 zX 31 26 2,
 zM 5 29,
 zM 6 30,
 zM 7 31]
def p42o6 := [zM 33 2,
 zo 34 (.gcall false false [300000, 300001, 300002, 300003, 300004, 300005, 300006, 300007, 399990, 399991] [[(0, 11)], [(0, 25)]] 40 [.const (kl), 33]),
 zM 32 34,
 zX 35 32 0,
 zX 36 32 1,
 zM 8 35,
 zM 9 36]
def p42o7 := [zM 38 8,
 zo 39 (.build (.agg #[ki, ki, ki, ki, ki, ki, ks, ki, ks, ki, ks, ki, ks, ki, .int .u8 0, ki, ki, ki, ks, ki, ks, ki, ks, ki, ks]) [(0, 1, kk 3), (1, 1, kk 3)]),
 zo 40 (.gcall false false [300000, 300001, 300002, 300003, 300004, 300005, 300006, 300007, 399990, 399991] [[(0, 11)], []] 51 [38, 39]),
 zM 37 40,
 zX 41 37 0,
 zX 42 37 1,
 zM 10 41,
 zM 11 42]
def p42o8 := [zo 44 (.build (.agg #[ki, ki, ki, ki, ki, ki, ks, ki, ks, ki, ks, ki, ks, ki, .int .u8 0, ki, ki, ki, ks, ki, ks, ki, ks, ki, ks]) [(0, 1, kk 3), (1, 1, kk 3)]),
 zo 45 (.gcall false false [300000, 300001, 300002, 300003, 300004, 300005, 300006, 300007, 399990, 399991] [[(0, 11)], []] 51 [.const (kl), 44]),
 zM 43 45,
 zX 46 43 0,
 zX 47 43 1,
 zM 12 46,
 zM 13 47]
def p42o9 := [zM 48 4,
 zK 49 .eql 37 48 0,
 zM 50 49,
 zt 51 50 (.mv 7),
 zt 52 50 (.prim (.bin .eql 37 false true) [51, kk 0]),
 zo 53 (.pick 50 52 kf),
 zM 54 53,
 zt 55 54 (.mv 6),
 zt 56 54 (.mv 3),
 zt 57 54 (.prim (.len 9) [56]),
 zt 58 54 (.prim (.bin .eql 3 false false) [55, 57]),
 zo 59 (.pick 54 58 kf),
 zM 60 59,
 zt 61 60 (.mv 2),
 zt 62 60 (.mv 5),
 zt 63 60 (.call true [[(0, 25)], [(0, 25)]] 49 [61, 62]),
 zo 64 (.pick 60 63 kf),
 zM 65 64,
 zt 66 65 (.mv 9),
 zo 67 (.pick 65 66 kf),
 zM 68 67,
 zt 69 68 (.mv 8),
 zt 70 68 (.lenS 69),
 zt 71 68 (.prim (.bin .eql 3 false true) [70, kk 1]),
 zo 72 (.pick 68 71 kf),
 zM 73 72,
 zt 74 73 (.mv 8),
 zt 75 73 (.iaddrS 11 74 (kk 0)),
 zt 76 73 (.faddr 1 75),
 zt 77 73 (.load true 2 76),
 zt 78 73 (.build (.agg #[ki, ki]) []),
 zt 79 73 (.prim (.bin .eql 23 false false) [77, 78]),
 zo 80 (.pick 73 79 kf),
 zM 81 80,
 zt 82 81 (.mv 11),
 zo 83 (.pick 81 82 kf),
 zM 84 83,
 zt 85 84 (.mv 10),
 zt 86 84 (.lenS 85),
 zt 87 84 (.prim (.bin .eql 3 false true) [86, kk 0]),
 zo 88 (.pick 84 87 kf),
 zM 89 88,
 zt 90 89 (.mv 13),
 zt 91 89 (.prim (.un .not) [90]),
 zo 92 (.pick 89 91 kf),
 zM 93 92,
 zt 94 93 (.mv 2),
 zt 95 93 (.iaddrS 25 94 (kk 0)),
 zt 96 93 (.load true 25 95),
 zt 97 93 (.call true [[]] 39 [96]),
 zo 98 (.pick 93 97 kf),
 zM 99 98,
 zt 100 99 (.build (.agg #[ki, ki, ki, ki, ki, ki, ks, ki, ks, ki, ks, ki, ks, ki, .int .u8 0, ki, ki, ki, ks, ki, ks, ki, ks, ki, ks]) []),
 zt 101 99 (.call true [[]] 39 [100]),
 zt 102 99 (.prim (.un .not) [101]),
 zo 103 (.pick 99 102 kf),
 zM 0 103]
def pc42_r : List PRes := [PRes.tmp 0 []]
def pc42 : PFunc := ⟨104, pc42_r, (sq (rg p42o1) (sq (rg p42o2) (sq (rg p42o3) (sq (rg p42o4) (sq (rg p42o5) (sq (rg p42o6) (sq (rg p42o7) (sq (rg p42o8) (sq (rg p42o9) (rt)))))))))), false⟩
def pc42_a : Ann := {
 kr := fun _ => none
 ka := fun _ => 0
 kh := fun _ => none
 gf := fun d f => match d, f with
  | some 34, 40 => some (false, false, [300000, 300001, 300002, 300003, 300004, 300005, 300006, 300007, 399990, 399991])
  | some 40, 51 => some (false, false, [300000, 300001, 300002, 300003, 300004, 300005, 300006, 300007, 399990, 399991])
  | some 45, 51 => some (false, false, [300000, 300001, 300002, 300003, 300004, 300005, 300006, 300007, 399990, 399991])
  | _, _ => none
 ow := ow0
 tc := tc1 }
theorem pc42_ok : compFn Try.prog pc42_a Try.f42 = some pc42 := by kernel_rfl
def p14o1 := [zM 4 kf]
def p14o2 := [zo 18 (.call true [] 42 []),
 zo 19 (.prim (.un .not) [18])]
def p14o3 := [zM 4 kf]
def p14o9 := [zM 20 1,
 zo 21 (.lenS 20),
 zK 22 .gtr 3 21 20]
def p14o10 := [zM 4 kt]
def p14o16 := [zM 23 0,
 zo 24 (.prim (.conv 5 3) [23]),
 zM 5 24]
def p14o17 := [zM 25 5,
 zo 26 (.build (.agg #[ki, ki, ki, ki, ks, ki, ks, ki, ks, ki, ks]) [(0, 1, .tmp 25)]),
 zo 6 (.alloc 28 (.agg #[ki, ki, ki, ki, ks, ki, ks, ki, ks, ki, ks]) []),
 zs (.store 11 6 26)]
def p14o18 := [zM 27 5,
 zo 28 (.load true 11 6),
 zo 29 (.build (.agg #[ki, ki, ki, ki, ki, ki, ks, ki, ks, ki, ks, ki, ks, ki, .int .u8 0, ki, ki, ki, ks, ki, ks, ki, ks, ki, ks]) [(0, 1, kk 1), (1, 1, .tmp 27), (2, 11, .tmp 28)]),
 zo 30 (.bown 67 25 [29]),
 zM 7 30]
def p14o19 := [zM 8 (kk 0)]
def p14o20 := [zM 31 8,
 zM 32 1,
 zo 33 (.lenS 32),
 zB 34 .lss 3 31 33]
def p14o25 := [zM 37 7,
 zM 38 5,
 zM 39 5,
 zM 40 1,
 zM 41 8,
 zo 42 (.iaddrS 1 40 41),
 zL 43 42,
 zo 44 (.prim (.bin .rem 5 false true) [43, .const (.int .u8 64)]),
 zo 45 (.prim (.conv 5 3) [44]),
 zo 46 (.build (.agg #[ki, ki]) [(0, 1, .tmp 45)]),
 zo 47 (.build (.agg #[ki, .int .u8 0, ki, ki, ki, ks, ki, ks, ki, ks, ki, ks]) [(0, 1, .tmp 39), (1, 1, .const (.int .u8 1)), (2, 2, .tmp 46)]),
 zo 48 (.build (.agg #[ki, ki, ki, ki, ki, ki, ks, ki, ks, ki, ks, ki, ks, ki, .int .u8 0, ki, ki, ki, ks, ki, ks, ki, ks, ki, ks]) [(0, 1, kk 2), (1, 1, .tmp 38), (13, 12, .tmp 47)]),
 zo 49 (.bslice 67 25 [48]),
 zo 50 (.app 100030 67 25 264 37 49),
 zM 7 50]
def p14o27 := [zM 35 8,
 zK 36 .add 3 35 1,
 zM 8 36]
def p14c29 := sq (sq (.region (some ([1, 5, 7, 8], [6, 30], [])) false p14o20) (.cond 34 (.skip) (.exit 0))) (sq (.block 1 (rg p14o25)) (rg p14o27))
def p14o33 := [zM 52 7,
 zo 53 (.gcall false false [30, 300000, 300001, 300002, 300003, 300004, 300005, 300006, 300007, 399990, 399991] [[(0, 11)], [(0, 25)]] 40 [.const (kl), 52]),
 zM 51 53,
 zX 54 51 0,
 zX 55 51 1,
 zM 9 54,
 zM 10 55]
def p14o34 := [zM 11 (kk 0)]
def p14o35 := [zM 56 1,
 zo 57 (.lenS 56),
 zK 58 .gtr 3 57 0]
def p14o36 := [zM 59 1,
 zM 60 1,
 zo 61 (.lenS 60),
 zK 62 .sub 3 61 1,
 zo 63 (.iaddrS 1 59 62),
 zL 64 63,
 zo 65 (.prim (.bin .rem 5 false true) [64, .const (.int .u8 64)]),
 zo 66 (.prim (.conv 5 3) [65]),
 zM 11 66]
def p14o40 := [zM 67 7,
 zM 68 5,
 zo 69 (.build (.agg #[ki, ki, ki, ki, ki, ki, ks, ki, ks, ki, ks, ki, ks, ki, .int .u8 0, ki, ki, ki, ks, ki, ks, ki, ks, ki, ks]) [(0, 1, kk 3), (1, 1, .tmp 68)]),
 zo 70 (.bslice 67 25 [69]),
 zo 71 (.app 100030 67 25 264 67 70),
 zM 7 71]
def p14o41 := [zM 73 7,
 zo 74 (.gcall false false [30, 300000, 300001, 300002, 300003, 300004, 300005, 300006, 300007, 399990, 399991] [[(0, 11)], [(0, 25)]] 40 [.const (kl), 73]),
 zM 72 74,
 zX 75 72 0,
 zX 76 72 1,
 zM 12 75,
 zM 13 76]
def p14o42 := [zM 78 7,
 zM 79 7,
 zo 80 (.iaddrS 25 79 (kk 0)),
 zo 81 (.load true 25 80),
 zo 82 (.bslice 67 25 [81]),
 zo 84 (.lend 83 67 25 264 78 82 [[(0, 11)], [(0, 25)]] 40 [.const (kl), 83]),
 zM 77 84,
 zX 85 77 0,
 zX 86 77 1,
 zM 14 85,
 zM 15 86]
def p14o43 := [zM 88 7,
 zM 89 7,
 zM 90 7,
 zo 91 (.lenS 90),
 zK 92 .sub 3 91 1,
 zo 93 (.iaddrS 25 89 92),
 zo 94 (.load true 25 93),
 zo 95 (.bslice 67 25 [94]),
 zo 97 (.lend 96 67 25 264 88 95 [[(0, 11)], [(0, 25)]] 40 [.const (kl), 96]),
 zM 87 97,
 zX 98 87 0,
 zX 99 87 1,
 zM 16 98,
 zM 17 99]
def p14o44 := [zM 100 10,
 zM 101 100,
 zt 102 101 (.mv 9),
 zt 103 101 (.lenS 102),
 zt 104 101 (.prim (.bin .eql 3 false true) [103, kk 1]),
 zo 105 (.pick 101 104 kf),
 zM 106 105,
 zt 107 106 (.mv 9),
 zt 108 106 (.iaddrS 11 107 (kk 0)),
 zt 109 106 (.faddr 1 108),
 zt 110 106 (.faddr 0 109),
 zt 111 106 (.load false 1 110),
 zt 112 106 (.mv 11),
 zt 113 106 (.prim (.bin .eql 3 false false) [111, 112]),
 zo 114 (.pick 106 113 kf),
 zM 115 114,
 zt 116 115 (.mv 13),
 zo 117 (.pick 115 116 kf),
 zM 118 117,
 zt 119 118 (.mv 12),
 zt 120 118 (.lenS 119),
 zt 121 118 (.prim (.bin .eql 3 false true) [120, kk 0]),
 zo 122 (.pick 118 121 kf),
 zM 123 122,
 zt 124 123 (.mv 15),
 zo 125 (.pick 123 124 kf),
 zM 126 125,
 zt 127 126 (.mv 14),
 zt 128 126 (.lenS 127),
 zt 129 126 (.prim (.bin .eql 3 false true) [128, kk 1]),
 zo 130 (.pick 126 129 kf),
 zM 131 130,
 zt 132 131 (.mv 17),
 zt 133 131 (.prim (.un .not) [132]),
 zo 134 (.pick 131 133 kf),
 zM 4 134]
def p14c50 := sq (.region (some ([5, 7, 9, 10, 11], [30, 300000], [])) false p14o40) (sq (rg p14o41) (sq (rg p14o42) (sq (rg p14o43) (sq (rg p14o44) (rt)))))
def p14c53 := sq (rg p14o33) (sq (rg p14o34) (sq (sq (rg p14o35) (.cond 58 (rg p14o36) (.skip))) p14c50))
def p14c60 := sq (rg p14o1) (sq (sq (rg p14o2) (.cond 19 (sq (rg p14o3) (rt)) (.skip))) (sq (sq (rg p14o9) (.cond 22 (sq (rg p14o10) (rt)) (.skip))) (sq (rg p14o16) (sq (rg p14o17) (sq (rg p14o18) (sq (sq (rg p14o19) (.block 0 (.loop p14c29))) p14c53))))))
def pc14_r : List PRes := [PRes.tmp 4 []]
def pc14 : PFunc := ⟨135, pc14_r, p14c60, false⟩
def pc14_a : Ann := {
 kr := fun
  | 9 => some ([1, 5, 7, 8], [6, 30], [])
  | 16 => some ([5, 7, 9, 10, 11], [30, 300000], [])
  | _ => none
 ka := fun
  | 50 => 100030
  | 71 => 100030
  | _ => 0
 kh := fun _ => none
 gf := fun d f => match d, f with
  | some 53, 40 => some (false, false, [30, 300000, 300001, 300002, 300003, 300004, 300005, 300006, 300007, 399990, 399991])
  | some 74, 40 => some (false, false, [30, 300000, 300001, 300002, 300003, 300004, 300005, 300006, 300007, 399990, 399991])
  | _, _ => none
 ow := ow0
 tc := tc1
 bo := fun d => match d with
  | some 30 => true
  | _ => false
 ln := fun d => match d with
  | some 83 => true
  | some 96 => true
  | _ => false }
theorem pc14_ok : compFn Try.prog pc14_a Try.f14 = some pc14 := by kernel_rfl
end Go.Proofs.Ytobeamaaifgllaa
