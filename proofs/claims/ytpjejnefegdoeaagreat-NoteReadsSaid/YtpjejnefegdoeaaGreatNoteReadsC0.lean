/- No condition. -/
import Derived.Test.YtpjejnefegdoeaaGreatNoteReadsT
namespace Go.Proofs.YtpjejnefegdoeaaGreat
open Go Go.Rx
set_option maxRecDepth 100000
set_option linter.unusedVariables false
set_option linter.unusedSimpArgs false
set_option linter.unnecessarySimpa false
set_option linter.unnecessarySimpa false
def p61o1 := [zo 1 (.box 44 0 []),
 zM 2 kf]
def p61o2 := [zG 3 0 1,
 zL 4 3,
 zK 5 .eql 2 4 0,
 zM 6 5,
 zf 7 6 (.faddr 1 1),
 zf 8 6 (.load false 1 7),
 zf 9 6 (.prim (.bin .eql 9 false true) [8, .const (ks)]),
 zo 10 (.pick 6 kt 9),
 zM 11 10,
 zt 12 11 (.faddr 1 1),
 zt 13 11 (.load false 1 12),
 zt 14 11 (.prim (.len 9) [13]),
 zt 15 11 (.prim (.bin .leq 3 false true) [14, kk 12]),
 zo 16 (.pick 11 15 kf),
 zM 2 16]
def p61c5 := sq (rg p61o1) (sq (rg p61o2) (rt))
def pc61_r : List PRes := [PRes.tmp 2 []]
def pc61 : PFunc := ⟨17, pc61_r, p61c5, false⟩
def pc61_a : Ann := {
 kr := fun _ => none
 ka := fun _ => 0
 kh := fun _ => none
 ow := ow0
 tc := tc1 }
theorem pc61_ok : compFn Tryz.prog pc61_a Tryz.f61 = some pc61 := by kernel_rfl
def p62o1 := [zo 1 (.box 56 0 []),
 zo 2 (.alloc 56 (.agg #[ki, ki, ki, ki, ki, ki, ki, ks, ki, ks, ki, ks, ki, ks, ki, ks, ki, ki, ki, ki, ki, ki]) [])]
def p62o2 := [zG 4 0 1,
 zL 5 4,
 zG 6 16 1,
 zL 7 6,
 zG 8 17 1,
 zL 9 8,
 zo 10 (.build (.agg #[ki, ki, ki, ki, ki, ki, ki, ks, ki, ks, ki, ks, ki, ks, ki, ks, ki, ki, ki, ki, ki, ki]) [(0, 1, .tmp 5), (16, 1, .tmp 7), (17, 1, .tmp 9)]),
 zo 3 (.alloc 56 (.agg #[ki, ki, ki, ki, ki, ki, ki, ks, ki, ks, ki, ks, ki, ks, ki, ks, ki, ki, ki, ki, ki, ki]) []),
 zs (.store 22 3 10)]
def p62o3 := [zG 11 0 1,
 zL 12 11]
def p62o4 := [zK 14 .eql 3 12 1,
 zM 13 14]
def p62o5 := [za 15 1 1 0 (.faddr 4 1),
 za 16 15 1 4 (.load true 2 15),
 za 17 1 1 0 (.faddr 6 1),
 za 18 17 1 6 (.load true 8 17),
 za 19 3 3 0 (.faddr 4 3),
 zn (.store 2 19 16) [(19, .at_ 3 4), (16, .imm)],
 za 20 3 3 0 (.faddr 6 3),
 zn (.store 8 20 18) [(20, .at_ 3 6), (18, .imm)]]
def p62o6 := [zK 22 .eql 3 12 2,
 zM 21 22]
def p62o7 := [za 23 1 1 0 (.faddr 1 1),
 za 24 23 1 1 (.load false 1 23),
 za 25 1 1 0 (.faddr 4 1),
 za 26 25 1 4 (.load true 2 25),
 za 27 3 3 0 (.faddr 1 3),
 zn (.store 1 27 24) [(27, .at_ 3 1), (24, .imm)],
 za 28 3 3 0 (.faddr 4 3),
 zn (.store 2 28 26) [(28, .at_ 3 4), (26, .imm)]]
def p62o8 := [zK 30 .eql 3 12 3,
 zM 29 30]
def p62o9 := [za 31 1 1 0 (.faddr 1 1),
 za 32 31 1 1 (.load false 1 31),
 za 33 1 1 0 (.faddr 2 1),
 za 34 33 1 2 (.load false 1 33),
 za 35 1 1 0 (.faddr 14 1),
 za 36 35 1 14 (.load true 2 35),
 za 37 3 3 0 (.faddr 1 3),
 zn (.store 1 37 32) [(37, .at_ 3 1), (32, .imm)],
 za 38 3 3 0 (.faddr 2 3),
 zn (.store 1 38 34) [(38, .at_ 3 2), (34, .imm)],
 za 39 3 3 0 (.faddr 14 3),
 zn (.store 2 39 36) [(39, .at_ 3 14), (36, .imm)]]
def p62o10 := [zK 41 .eql 3 12 4,
 zM 40 41]
def p62o11 := [zG 42 1 1,
 zL 43 42,
 zG 44 1 3,
 zs (.store 1 44 43)]
def p62o12 := [zK 46 .eql 3 12 5,
 zM 45 46]
def p62o13 := [za 47 1 1 0 (.faddr 2 1),
 za 48 47 1 2 (.load false 1 47),
 za 49 1 1 0 (.faddr 3 1),
 za 50 49 1 3 (.load false 1 49),
 za 51 3 3 0 (.faddr 2 3),
 zn (.store 1 51 48) [(51, .at_ 3 2), (48, .imm)],
 za 52 3 3 0 (.faddr 3 3),
 zn (.store 1 52 50) [(52, .at_ 3 3), (50, .imm)]]
def p62o14 := [zK 54 .eql 3 12 6,
 zM 53 54]
def p62o16 := [zK 55 .eql 3 12 7,
 zM 53 55]
def p62o19 := [zG 56 18 1,
 zo 57 (.load true 4 56),
 zG 58 18 3,
 zs (.store 4 58 57)]
def p62o35 := [zo 59 (.load true 22 3),
 zs (.store 22 2 59)]
def p62c40 := sq (rg p62o1) (sq (rg p62o2) (sq (sq (rg p62o3) (.block 0 (sq (rg p62o4) (.cond 13 (rh p62o5) (sq (rg p62o6) (.cond 21 (rh p62o7) (sq (rg p62o8) (.cond 29 (rh p62o9) (sq (rg p62o10) (.cond 40 (rg p62o11) (sq (rg p62o12) (.cond 45 (rh p62o13) (sq (sq (rg p62o14) (.cond 53 (.skip) (rg p62o16))) (.cond 53 (rg p62o19) (.skip))))))))))))))) (sq (rg p62o35) (rt))))
def pc62_r : List PRes := [PRes.cell 2 true 22 []]
def pc62 : PFunc := ⟨60, pc62_r, p62c40, false⟩
def pc62_a : Ann := {
 kr := fun _ => none
 ka := fun _ => 0
 kh := hg [([1], .at_ 1 0), ([3], .at_ 3 0), ([15, 25], .at_ 1 4), ([16, 18, 24, 26, 32, 34, 36, 48, 50], .imm), ([17], .at_ 1 6), ([19, 28], .at_ 3 4), ([20], .at_ 3 6), ([23, 31], .at_ 1 1), ([27, 37], .at_ 3 1), ([33, 47], .at_ 1 2), ([35], .at_ 1 14), ([38, 51], .at_ 3 2), ([39], .at_ 3 14), ([49], .at_ 1 3), ([52], .at_ 3 3)]
 ow := ow0
 tc := tc1 }
theorem pc62_ok : compFn Tryz.prog pc62_a Tryz.f62 = some pc62 := by kernel_rfl
def p63o1 := [zM 2 kf]
def p63o3 := [zM 5 0,
 zo 6 (.lenS 5),
 zM 7 (kk 0)]
def p63o4 := [zB 8 .lss 3 7 6]
def p63o8 := [zo 9 (.iaddrS 1 5 7),
 zL 10 9,
 zM 4 10]
def p63o9 := [zM 11 4,
 zo 12 (.prim (.bin .geq 3 false true) [11, .const (.int .i64 (-1000))]),
 zM 13 12,
 zt 14 13 (.mv 4),
 zt 15 13 (.prim (.bin .leq 3 false true) [14, kk 1000]),
 zo 16 (.pick 13 15 kf)]
def p63o14 := [zM 2 kf]
def p63o20 := [zK 17 .add 3 7 1,
 zM 7 17]
def p63c23 := sq (.region (some ([5, 6, 7], [], [])) false p63o4) (sq (.cond 8 (.skip) (.exit 0)) (sq (.block 1 (sq (rg p63o8) (sq (sq (rg p63o9) (.cond 16 (.exit 1) (.skip))) (sq (rg p63o14) (rt))))) (rg p63o20)))
def p63o27 := [zM 2 kt]
def p63c29 := sq (rg p63o27) (rt)
def p63c33 := sq (rg p63o1) (.scope (sq (.label) (sq (sq (rg p63o3) (.block 0 (.loop p63c23))) p63c29)))
def pc63_r : List PRes := [PRes.tmp 2 []]
def pc63 : PFunc := ⟨18, pc63_r, p63c33, false⟩
def pc63_a : Ann := {
 kr := fun
  | 2 => some ([5, 6, 7], [], [])
  | _ => none
 ka := fun _ => 0
 kh := fun _ => none
 ow := ow0
 tc := tc1 }
theorem pc63_ok : compFn Tryz.prog pc63_a Tryz.f63 = some pc63 := by kernel_rfl
def p31o1 := [zo 1 (.box 56 0 []),
 zM 2 kf]
def p31o2 := [zG 8 6 1,
 zo 9 (.load true 8 8),
 zM 10 (kk 0)]
def p31o3 := [zK 11 .lss 3 10 4]
def p31o7 := [zo 12 (.idx true 2 4 9 10),
 zo 4 (.alloc 44 (.agg #[ki, ks]) []),
 zs (.store 2 4 12)]
def p31o8 := [zo 13 (.load true 2 4),
 zo 14 (.call true [[]] 61 [13]),
 zo 15 (.prim (.un .not) [14])]
def p31o9 := [zM 2 kf]
def p31o17 := [zK 16 .add 3 10 1,
 zM 10 16]
def p31o24 := [za 17 1 1 0 (.faddr 0 1),
 za 18 17 1 0 (.load false 1 17),
 zi 19 18 (.prim (.bin .geq 3 false true) [18, kk 1]),
 zi 20 19 (.mv 19),
 ⟨some 21, .faddr 0 1, some (20, true), [(1, .at_ 1 0)]⟩,
 ⟨some 22, .load false 1 21, some (20, true), [(21, .at_ 1 0)]⟩,
 ⟨some 23, .prim (.bin .leq 3 false true) [22, kk 8], some (20, true), [(22, .imm)]⟩,
 zj 24 20 23 (.pick 20 23 kf),
 zi 25 24 (.mv 24),
 ⟨some 26, .load true 22 1, some (25, true), [(1, .at_ 1 0)]⟩,
 ⟨some 27, .load true 22 1, some (25, true), [(1, .at_ 1 0)]⟩,
 ⟨some 28, .call false [[]] 62 [27], some (25, true), [(27, .imm)]⟩,
 ⟨some 29, .prim (.bin .eql 56 false false) [26, 28], some (25, true), [(26, .imm), (28, .imm)]⟩,
 zj 30 25 29 (.pick 25 29 kf),
 zi 5 30 (.mv 30)]
def p31o25 := [zG 31 16 1,
 zL 32 31,
 zK 33 .geq 3 32 0,
 zM 34 33,
 zt 35 34 (.faddr 16 1),
 zt 36 34 (.load false 1 35),
 zt 37 34 (.prim (.bin .lss 3 false true) [36, kk 4]),
 zo 38 (.pick 34 37 kf),
 zM 39 38,
 zt 40 39 (.faddr 17 1),
 zt 41 39 (.load false 1 40),
 zt 42 39 (.prim (.bin .geq 3 false true) [41, kk 0]),
 zo 43 (.pick 39 42 kf),
 zM 44 43,
 zt 45 44 (.faddr 17 1),
 zt 46 44 (.load false 1 45),
 zt 47 44 (.prim (.bin .leq 3 false true) [46, kk 1000000]),
 zo 48 (.pick 44 47 kf),
 zM 6 48]
def p31o26 := [zG 49 1 1,
 zL 50 49,
 zK 51 .geq 3 50 0,
 zM 52 51,
 zt 53 52 (.faddr 1 1),
 zt 54 52 (.load false 1 53),
 zt 55 52 (.prim (.bin .leq 3 false true) [54, kk 1000000]),
 zo 56 (.pick 52 55 kf),
 zM 57 56,
 zt 58 57 (.faddr 2 1),
 zt 59 57 (.load false 1 58),
 zt 60 57 (.prim (.bin .geq 3 false true) [59, .const (.int .i64 (-1))]),
 zo 61 (.pick 57 60 kf),
 zM 62 61,
 zt 63 62 (.faddr 2 1),
 zt 64 62 (.load false 1 63),
 zt 65 62 (.prim (.bin .leq 3 false true) [64, kk 100]),
 zo 66 (.pick 62 65 kf),
 zM 67 66,
 zt 68 67 (.faddr 3 1),
 zt 69 67 (.load false 1 68),
 zt 70 67 (.prim (.bin .geq 3 false true) [69, .const (.int .i64 (-1))]),
 zo 71 (.pick 67 70 kf),
 zM 72 71,
 zt 73 72 (.faddr 3 1),
 zt 74 72 (.load false 1 73),
 zt 75 72 (.prim (.bin .leq 3 false true) [74, kk 100]),
 zo 76 (.pick 72 75 kf),
 zM 77 76,
 zt 78 77 (.faddr 14 1),
 zt 79 77 (.load true 2 78),
 zt 80 77 (.call true [[]] 61 [79]),
 zo 81 (.pick 77 80 kf),
 zM 7 81]
def p31o27 := [zM 82 5,
 zM 83 82,
 zt 84 83 (.mv 6),
 zo 85 (.pick 83 84 kf),
 zM 86 85,
 zt 87 86 (.mv 7),
 zo 88 (.pick 86 87 kf),
 zM 89 88,
 zt 90 89 (.faddr 4 1),
 zt 91 89 (.faddr 0 90),
 zt 92 89 (.load false 1 91),
 zt 93 89 (.faddr 4 1),
 zt 94 89 (.faddr 1 93),
 zt 95 89 (.load false 1 94),
 zt 96 89 (.faddr 18 1),
 zt 97 89 (.faddr 0 96),
 zt 98 89 (.load false 1 97),
 zt 99 89 (.faddr 18 1),
 zt 100 89 (.faddr 1 99),
 zt 101 89 (.load false 1 100),
 zt 102 89 (.faddr 18 1),
 zt 103 89 (.faddr 2 102),
 zt 104 89 (.load false 1 103),
 zt 105 89 (.faddr 18 1),
 zt 106 89 (.faddr 3 105),
 zt 107 89 (.load false 1 106),
 zt 108 89 (.bslice 3 1 [92, 95, 98, 101, 104, 107]),
 zt 109 89 (.call true [[(0, 1)]] 63 [108]),
 zo 110 (.pick 89 109 kf),
 zM 2 110]
def p31c29 := sq (.region (some ([1, 5, 6, 7], [1], [])) false p31o27) (rt)
def p31c30 := sq (.region (some ([1, 5, 6], [1], [])) false p31o26) p31c29
def p31c31 := sq (.region (some ([1, 5], [1], [])) false p31o25) p31c30
def p31c34 := sq (rg p31o1) (sq (sq (rg p31o2) (.block 0 (.loop (sq (.region (some ([1, 9, 10], [1, 4], [])) false p31o3) (sq (.cond 11 (.skip) (.exit 0)) (sq (.block 1 (sq (rg p31o7) (sq (rg p31o8) (.cond 15 (sq (rg p31o9) (rt)) (.skip))))) (rg p31o17))))))) (sq (rh p31o24) p31c31))
def pc31_r : List PRes := [PRes.tmp 2 []]
def pc31 : PFunc := ⟨111, pc31_r, p31c34, false⟩
def pc31_a : Ann := {
 kr := fun
  | 2 => some ([1, 9, 10], [1, 4], [])
  | 8 => some ([1, 5], [1], [])
  | 9 => some ([1, 5, 6], [1], [])
  | 10 => some ([1, 5, 6, 7], [1], [])
  | _ => none
 ka := fun _ => 0
 kh := hg [([1, 17, 21], .at_ 1 0), ([18, 19, 20, 22, 23, 24, 25, 26, 27, 28, 29, 30], .imm)]
 ow := ow0
 tc := tc1 }
theorem pc31_ok : compFn Tryz.prog pc31_a Tryz.f31 = some pc31 := by kernel_rfl
def p32o1 := [zo 1 (.box 56 0 []),
 zM 2 kf]
def p32o2 := [zG 3 0 1,
 zL 4 3,
 zK 5 .geq 3 4 6,
 zM 6 5,
 zt 7 6 (.faddr 0 1),
 zt 8 6 (.load false 1 7),
 zt 9 6 (.prim (.bin .leq 3 false true) [8, kk 8]),
 zo 10 (.pick 6 9 kf),
 zM 2 10]
def p32c5 := sq (rg p32o1) (sq (rg p32o2) (rt))
def pc32_r : List PRes := [PRes.tmp 2 []]
def pc32 : PFunc := ⟨11, pc32_r, p32c5, false⟩
def pc32_a : Ann := {
 kr := fun _ => none
 ka := fun _ => 0
 kh := fun _ => none
 ow := ow0
 tc := tc1 }
theorem pc32_ok : compFn Tryz.prog pc32_a Tryz.f32 = some pc32 := by kernel_rfl
def p30o1 := [zo 1 (.box 56 0 []),
 zM 2 kf]
def p30o2 := [zo 3 (.load true 22 1),
 zo 4 (.call true [[]] 31 [3]),
 zo 5 (.prim (.un .not) [4]),
 zM 6 5,
 zf 7 6 (.load true 22 1),
 zf 8 6 (.call true [[]] 32 [7]),
 zf 9 6 (.prim (.un .not) [8]),
 zo 10 (.pick 6 kt 9),
 zM 2 10]
def p30c5 := sq (rg p30o1) (sq (rg p30o2) (rt))
def pc30_r : List PRes := [PRes.tmp 2 []]
def pc30 : PFunc := ⟨11, pc30_r, p30c5, false⟩
def pc30_a : Ann := {
 kr := fun _ => none
 ka := fun _ => 0
 kh := fun _ => none
 ow := ow0
 tc := tc1 }
theorem pc30_ok : compFn Tryz.prog pc30_a Tryz.f30 = some pc30 := by kernel_rfl
def p64o1 := [zM 2 kf]
def p64o2 := [zM 3 0,
 zK 4 .geq 3 3 0,
 zM 5 4,
 zt 6 5 (.mv 0),
 zt 7 5 (.prim (.bin .lss 3 false true) [6, kk 16]),
 zo 8 (.pick 5 7 kf),
 zM 2 8]
def p64c5 := sq (rg p64o1) (sq (rg p64o2) (rt))
def pc64_r : List PRes := [PRes.tmp 2 []]
def pc64 : PFunc := ⟨9, pc64_r, p64c5, false⟩
def pc64_a : Ann := {
 kr := fun _ => none
 ka := fun _ => 0
 kh := fun _ => none
 ow := ow0
 tc := tc1 }
theorem pc64_ok : compFn Tryz.prog pc64_a Tryz.f64 = some pc64 := by kernel_rfl
def p33o1 := [zM 6 kf]
def p33o2 := [zM 9 0,
 zo 10 (.lenS 9),
 zM 11 (kk 0)]
def p33o3 := [zB 12 .lss 3 11 10]
def p33o7 := [zM 13 11,
 zo 14 (.iaddrS 2 9 11),
 zo 15 (.load true 2 14),
 zo 8 (.alloc 40 (.agg #[ki, ki]) []),
 zM 7 13,
 zs (.store 2 8 15)]
def p33o8 := [za 16 8 8 0 (.faddr 0 8),
 za 17 16 8 0 (.load false 1 16),
 zi 18 17 (.call false [[]] 64 [17]),
 zi 19 18 (.prim (.un .not) [18]),
 zi 20 19 (.mv 19),
 ⟨some 21, .mv 7, some (20, false), [(7, .imm)]⟩,
 ⟨some 22, .prim (.bin .gtr 3 false true) [21, kk 0], some (20, false), [(21, .imm)]⟩,
 ⟨some 23, .mv 22, some (20, false), [(22, .imm)]⟩,
 ⟨some 24, .faddr 0 8, some (23, true), [(8, .at_ 8 0)]⟩,
 ⟨some 25, .load false 1 24, some (23, true), [(24, .at_ 8 0)]⟩,
 ⟨some 26, .mv 0, some (23, true), [(0, .imm)]⟩,
 ⟨some 27, .mv 7, some (23, true), [(7, .imm)]⟩,
 ⟨some 28, .prim (.bin .sub 3 false true) [27, kk 1], some (23, true), [(27, .imm)]⟩,
 ⟨some 29, .iaddrS 2 26 28, some (23, true), [(26, .imm), (28, .imm)]⟩,
 ⟨some 30, .faddr 0 29, some (23, true), [(29, .imm)]⟩,
 ⟨some 31, .load false 1 30, some (23, true), [(30, .imm)]⟩,
 ⟨some 32, .prim (.bin .leq 3 false false) [25, 31], some (23, true), [(25, .imm), (31, .imm)]⟩,
 ⟨some 33, .pick 23 32 kf, some (20, false), [(23, .imm), (32, .imm)]⟩,
 zj 34 20 33 (.pick 20 kt 33),
 zi 35 34 (.mv 34),
 ⟨some 36, .faddr 1 8, some (35, false), [(8, .at_ 8 0)]⟩,
 ⟨some 37, .load false 1 36, some (35, false), [(36, .at_ 8 1)]⟩,
 ⟨some 38, .prim (.bin .lss 3 false true) [37, kk 0], some (35, false), [(37, .imm)]⟩,
 zj 39 35 38 (.pick 35 kt 38),
 zi 40 39 (.mv 39),
 ⟨some 41, .faddr 1 8, some (40, false), [(8, .at_ 8 0)]⟩,
 ⟨some 42, .load false 1 41, some (40, false), [(41, .at_ 8 1)]⟩,
 ⟨some 43, .mv 2, some (40, false), [(2, .imm)]⟩,
 ⟨some 44, .prim (.bin .geq 3 false false) [42, 43], some (40, false), [(42, .imm), (43, .imm)]⟩,
 zj 45 40 44 (.pick 40 kt 44),
 zi 46 45 (.mv 45),
 ⟨some 47, .faddr 1 8, some (46, false), [(8, .at_ 8 0)]⟩,
 ⟨some 48, .load false 1 47, some (46, false), [(47, .at_ 8 1)]⟩,
 ⟨some 49, .mv 1, some (46, false), [(1, .imm)]⟩,
 ⟨some 50, .prim (.bin .eql 3 false false) [48, 49], some (46, false), [(48, .imm), (49, .imm)]⟩,
 zj 51 46 50 (.pick 46 kt 50)]
def p33o9 := [zM 6 kf]
def p33o17 := [zK 52 .add 3 11 1,
 zM 11 52]
def p33c20 := sq (.region (some ([0, 1, 2, 9, 10, 11], [8], [])) false p33o3) (sq (.cond 12 (.skip) (.exit 0)) (sq (.block 1 (sq (rg p33o7) (sq (rh p33o8) (.cond 51 (sq (rg p33o9) (rt)) (.skip))))) (rg p33o17)))
def p33o24 := [zM 6 kt]
def p33c26 := sq (rg p33o24) (rt)
def p33c28 := sq (rg p33o1) (sq (sq (rg p33o2) (.block 0 (.loop p33c20))) p33c26)
def pc33_r : List PRes := [PRes.tmp 6 []]
def pc33 : PFunc := ⟨53, pc33_r, p33c28, false⟩
def pc33_a : Ann := {
 kr := fun
  | 2 => some ([0, 1, 2, 9, 10, 11], [8], [])
  | _ => none
 ka := fun _ => 0
 kh := hg [([0, 1, 2, 7, 17, 18, 19, 20, 21, 22, 23, 25, 26, 27, 28, 29, 30, 31, 32, 33, 34, 35, 37, 38, 39, 40, 42, 43, 44, 45, 46, 48, 49, 50], .imm), ([8, 16, 24], .at_ 8 0), ([36, 41, 47], .at_ 8 1)]
 ow := ow0
 tc := tc1 }
theorem pc33_ok : compFn Tryz.prog pc33_a Tryz.f33 = some pc33 := by kernel_rfl
def p87o1 := [zo 1 (.box 42 0 []),
 zM 2 kf]
def p87o2 := [zG 3 0 1,
 zL 4 3,
 zK 5 .geq 3 4 0,
 zM 6 5,
 zt 7 6 (.faddr 0 1),
 zt 8 6 (.load false 1 7),
 zt 9 6 (.prim (.bin .lss 3 false true) [8, kk 64]),
 zo 10 (.pick 6 9 kf),
 zM 11 10,
 zt 12 11 (.faddr 1 1),
 zt 13 11 (.load false 1 12),
 zt 14 11 (.prim (.bin .geq 3 false true) [13, kk 0]),
 zo 15 (.pick 11 14 kf),
 zM 16 15,
 zt 17 16 (.faddr 1 1),
 zt 18 16 (.load false 1 17),
 zt 19 16 (.prim (.bin .lss 3 false true) [18, kk 64]),
 zo 20 (.pick 16 19 kf),
 zM 2 20]
def p87c5 := sq (rg p87o1) (sq (rg p87o2) (rt))
def pc87_r : List PRes := [PRes.tmp 2 []]
def pc87 : PFunc := ⟨21, pc87_r, p87c5, false⟩
def pc87_a : Ann := {
 kr := fun _ => none
 ka := fun _ => 0
 kh := fun _ => none
 ow := ow0
 tc := tc1 }
theorem pc87_ok : compFn Tryz.prog pc87_a Tryz.f87 = some pc87 := by kernel_rfl
def p99o1 := [zo 2 (.mv (.const (.int .u32 0)))]
def p99o2 := [zo 5 (.build (.agg #[.int .u64 0, .int .u32 0]) [(0, 1, .const (.int .u64 8)), (1, 1, .const (.int .u32 16711935))]),
 zo 6 (.build (.agg #[.int .u64 0, .int .u32 0]) [(0, 1, .const (.int .u64 4)), (1, 1, .const (.int .u32 252645135))]),
 zo 7 (.build (.agg #[.int .u64 0, .int .u32 0]) [(0, 1, .const (.int .u64 2)), (1, 1, .const (.int .u32 858993459))]),
 zo 8 (.build (.agg #[.int .u64 0, .int .u32 0]) [(0, 1, .const (.int .u64 1)), (1, 1, .const (.int .u32 1431655765))]),
 zo 9 (.build (.agg #[.int .u64 0, .int .u32 0, .int .u64 0, .int .u32 0, .int .u64 0, .int .u32 0, .int .u64 0, .int .u32 0]) [(0, 2, .tmp 5), (2, 2, .tmp 6), (4, 2, .tmp 7), (6, 2, .tmp 8)]),
 zM 10 (kk 0)]
def p99o3 := [zK 11 .lss 3 10 4]
def p99o7 := [zo 12 (.idx true 2 4 9 10),
 zo 4 (.alloc 157 (.agg #[.int .u64 0, .int .u32 0]) []),
 zs (.store 2 4 12)]
def p99o8 := [zM 13 0,
 zM 14 0,
 zG 15 0 4,
 zL 16 15,
 zB 17 .shl 72 14 16,
 zB 18 .or 72 13 17,
 zG 19 1 4,
 zL 20 19,
 zB 21 .and 72 18 20,
 zM 0 21]
def p99o11 := [zK 22 .add 3 10 1,
 zM 10 22]
def p99o18 := [zM 23 0,
 zM 2 23]
def p99c22 := sq (rg p99o1) (sq (sq (rg p99o2) (.block 0 (.loop (sq (.region (some ([0, 9, 10], [4], [])) false p99o3) (sq (.cond 11 (.skip) (.exit 0)) (sq (.block 1 (sq (rg p99o7) (rg p99o8))) (rg p99o11))))))) (sq (rg p99o18) (rt)))
def pc99_r : List PRes := [PRes.tmp 2 []]
def pc99 : PFunc := ⟨24, pc99_r, p99c22, false⟩
def pc99_a : Ann := {
 kr := fun
  | 2 => some ([0, 9, 10], [4], [])
  | _ => none
 ka := fun _ => 0
 kh := fun _ => none
 ow := ow0
 tc := tc1 }
theorem pc99_ok : compFn Tryz.prog pc99_a Tryz.f99 = some pc99 := by kernel_rfl
def p96o1 := [zo 4 (.mv (.const (.int .u32 0)))]
def p96o2 := [zM 5 0,
 zo 6 (.prim (.conv 27 72) [5]),
 zo 7 (.call true [[]] 99 [6]),
 zM 8 1,
 zo 9 (.prim (.conv 27 72) [8]),
 zo 10 (.call true [[]] 99 [9]),
 zo 11 (.prim (.bin .shl 72 false true) [10, .const (.int .u64 1)]),
 zB 12 .or 72 7 11,
 zM 4 12]
def p96c5 := sq (rg p96o1) (sq (rg p96o2) (rt))
def pc96_r : List PRes := [PRes.tmp 4 []]
def pc96 : PFunc := ⟨13, pc96_r, p96c5, false⟩
def pc96_a : Ann := {
 kr := fun _ => none
 ka := fun _ => 0
 kh := fun _ => none
 ow := ow0
 tc := tc1 }
theorem pc96_ok : compFn Tryz.prog pc96_a Tryz.f96 = some pc96 := by kernel_rfl
def p88o1 := [zM 4 (kk 0)]
def p88o2 := [zM 5 0,
 zo 6 (.prim (.conv 3 27) [5]),
 zM 7 1,
 zo 8 (.prim (.conv 3 27) [7]),
 zo 9 (.call true [[], []] 96 [6, 8]),
 zo 10 (.prim (.conv 72 3) [9]),
 zM 4 10]
def p88c5 := sq (rg p88o1) (sq (rg p88o2) (rt))
def pc88_r : List PRes := [PRes.tmp 4 []]
def pc88 : PFunc := ⟨11, pc88_r, p88c5, false⟩
def pc88_a : Ann := {
 kr := fun _ => none
 ka := fun _ => 0
 kh := fun _ => none
 ow := ow0
 tc := tc1 }
theorem pc88_ok : compFn Tryz.prog pc88_a Tryz.f88 = some pc88 := by kernel_rfl
def p65o1 := [zo 1 (.box 42 0 []),
 zM 2 (kk 0),
 zM 3 (kk 0)]
def p65o2 := [zo 4 (.load true 2 1),
 zo 5 (.call true [[]] 87 [4]),
 zo 6 (.prim (.un .not) [5])]
def p65o3 := [zM 2 (kk 0),
 zM 3 (kk 14)]
def p65o9 := [zG 7 0 1,
 zL 8 7,
 zK 9 .quo 3 8 16,
 zG 10 1 1,
 zL 11 10,
 zK 12 .quo 3 11 16,
 zo 13 (.call true [[], []] 88 [9, 12]),
 zM 2 13,
 zM 3 (kk 0)]
def p65c13 := sq (rg p65o1) (sq (sq (rg p65o2) (.cond 6 (sq (rg p65o3) (rt)) (.skip))) (sq (rg p65o9) (rt)))
def pc65_r : List PRes := [PRes.tmp 2 [], PRes.tmp 3 []]
def pc65 : PFunc := ⟨14, pc65_r, p65c13, false⟩
def pc65_a : Ann := {
 kr := fun _ => none
 ka := fun _ => 0
 kh := fun _ => none
 ow := ow0
 tc := tc1 }
theorem pc65_ok : compFn Tryz.prog pc65_a Tryz.f65 = some pc65 := by kernel_rfl
def p67o1 := [zo 2 (.box 40 0 []),
 zM 3 kf]
def p67o2 := [zG 4 0 2,
 zL 5 4,
 zL 6 1,
 zB 7 .eql 3 5 6,
 zM 3 7]
def p67c5 := sq (rg p67o1) (sq (rg p67o2) (rt))
def pc67_r : List PRes := [PRes.tmp 3 []]
def pc67 : PFunc := ⟨8, pc67_r, p67c5, false⟩
def pc67_a : Ann := {
 kr := fun _ => none
 ka := fun _ => 0
 kh := fun _ => none
 ow := ow0
 tc := tc1 }
theorem pc67_ok : compFn Tryz.prog pc67_a Tryz.f67 = some pc67 := by kernel_rfl
def p89o1 := [zM 4 (kk 0)]
def p89o2 := [zM 6 0,
 zo 7 (.lenS 6),
 zM 8 (kk 0)]
def p89o3 := [zB 9 .lss 3 8 7]
def p89o7 := [zM 10 8,
 zM 5 10]
def p89o8 := [zM 11 1,
 zM 12 0,
 zM 13 5,
 zo 14 (.iaddrS 2 12 13),
 zo 15 (.load true 2 14),
 zo 16 (.gcallv false false [300000, 300001, 300002, 300003, 300004, 300005, 300006, 300007, 1000000] [[]] 11 [15])]
def p89o9 := [zM 17 5,
 zM 4 17]
def p89o17 := [zK 18 .add 3 8 1,
 zM 8 18]
def p89c20 := sq (.region (some ([0, 1, 7, 8], [1000000], [])) false p89o3) (sq (.cond 9 (.skip) (.exit 0)) (sq (.block 1 (sq (rg p89o7) (sq (rg p89o8) (.cond 16 (sq (rg p89o9) (rt)) (.skip))))) (rg p89o17)))
def p89o24 := [zM 4 (kk (-1))]
def p89c26 := sq (rg p89o24) (rt)
def p89c28 := sq (rg p89o1) (sq (sq (rg p89o2) (.block 0 (.loop p89c20))) p89c26)
def pc89_r : List PRes := [PRes.tmp 4 []]
def pc89 : PFunc := ⟨19, pc89_r, p89c28, false⟩
def pc89_a : Ann := {
 kr := fun
  | 2 => some ([0, 1, 7, 8], [1000000], [])
  | _ => none
 ka := fun _ => 0
 kh := fun _ => none
 gv := fun d f => match d, f with
  | some 16, 11 => some (false, false, [300000, 300001, 300002, 300003, 300004, 300005, 300006, 300007, 1000000])
  | _, _ => none
 ow := ow0
 tc := tc1 }
theorem pc89_ok : compFn Tryz.prog pc89_a Tryz.f89 = some pc89 := by kernel_rfl
def p66o1 := [zM 4 kf]
def p66o2 := [zM 5 0,
 zM 6 1,
 zo 7 (.gcall false false [300000, 300001, 300002, 300003, 300004, 300005, 300006, 300007, 1000000] [[(0, 2)], []] 89 [5, 6]),
 zK 8 .geq 3 7 0,
 zM 4 8]
def p66c5 := sq (rg p66o1) (sq (rg p66o2) (rt))
def pc66_r : List PRes := [PRes.tmp 4 []]
def pc66 : PFunc := ⟨9, pc66_r, p66c5, false⟩
def pc66_a : Ann := {
 kr := fun _ => none
 ka := fun _ => 0
 kh := fun _ => none
 gf := fun d f => match d, f with
  | some 7, 89 => some (false, false, [300000, 300001, 300002, 300003, 300004, 300005, 300006, 300007, 1000000])
  | _, _ => none
 ow := ow0
 tc := tc1 }
theorem pc66_ok : compFn Tryz.prog pc66_a Tryz.f66 = some pc66 := by kernel_rfl
def p91o1 := [zo 1 (.box 44 0 []),
 zM 2 kf]
def p91o2 := [zo 3 (.load true 2 1),
 zo 4 (.call true [[]] 61 [3]),
 zo 5 (.prim (.un .not) [4]),
 zM 2 5]
def p91c5 := sq (rg p91o1) (sq (rg p91o2) (rt))
def pc91_r : List PRes := [PRes.tmp 2 []]
def pc91 : PFunc := ⟨6, pc91_r, p91c5, false⟩
def pc91_a : Ann := {
 kr := fun _ => none
 ka := fun _ => 0
 kh := fun _ => none
 ow := ow0
 tc := tc1 }
theorem pc91_ok : compFn Tryz.prog pc91_a Tryz.f91 = some pc91 := by kernel_rfl
def p97o1 := [zM 4 (kk 0)]
def p97o2 := [zM 6 0,
 zo 7 (.lenS 6),
 zM 8 (kk 0)]
def p97o3 := [zB 9 .lss 3 8 7]
def p97o7 := [zM 10 8,
 zM 5 10]
def p97o8 := [zM 11 1,
 zM 12 0,
 zM 13 5,
 zo 14 (.iaddrS 2 12 13),
 zo 15 (.load true 2 14),
 zo 16 (.callv true [[]] 11 [15])]
def p97o9 := [zM 17 5,
 zM 4 17]
def p97o17 := [zK 18 .add 3 8 1,
 zM 8 18]
def p97c20 := sq (.region (some ([0, 1, 7, 8], [], [])) false p97o3) (sq (.cond 9 (.skip) (.exit 0)) (sq (.block 1 (sq (rg p97o7) (sq (rg p97o8) (.cond 16 (sq (rg p97o9) (rt)) (.skip))))) (rg p97o17)))
def p97o24 := [zM 4 (kk (-1))]
def p97c26 := sq (rg p97o24) (rt)
def p97c28 := sq (rg p97o1) (sq (sq (rg p97o2) (.block 0 (.loop p97c20))) p97c26)
def pc97_r : List PRes := [PRes.tmp 4 []]
def pc97 : PFunc := ⟨19, pc97_r, p97c28, false⟩
def pc97_a : Ann := {
 kr := fun
  | 2 => some ([0, 1, 7, 8], [], [])
  | _ => none
 ka := fun _ => 0
 kh := fun _ => none
 ow := ow0
 tc := tc1 }
theorem pc97_ok : compFn Tryz.prog pc97_a Tryz.f97 = some pc97 := by kernel_rfl
def p90o1 := [zM 4 kf]
def p90o2 := [zM 5 0,
 zM 6 1,
 zo 7 (.gcall false false [300000, 300001, 300002, 300003, 300004, 300005, 300006, 300007] [[(0, 2)], []] 97 [5, 6]),
 zK 8 .geq 3 7 0,
 zM 4 8]
def p90c5 := sq (rg p90o1) (sq (rg p90o2) (rt))
def pc90_r : List PRes := [PRes.tmp 4 []]
def pc90 : PFunc := ⟨9, pc90_r, p90c5, false⟩
def pc90_a : Ann := {
 kr := fun _ => none
 ka := fun _ => 0
 kh := fun _ => none
 gf := fun d f => match d, f with
  | some 7, 97 => some (false, false, [300000, 300001, 300002, 300003, 300004, 300005, 300006, 300007])
  | _, _ => none
 ow := ow0
 tc := tc1 }
theorem pc90_ok : compFn Tryz.prog pc90_a Tryz.f90 = some pc90 := by kernel_rfl
def p68o1 := [zo 1 (.box 47 0 []),
 zM 2 kf]
def p68o2 := [zG 3 0 1,
 zL 4 3,
 zK 5 .geq 3 4 0,
 zM 6 5,
 zt 7 6 (.faddr 0 1),
 zt 8 6 (.load false 1 7),
 zt 9 6 (.prim (.bin .leq 3 false true) [8, kk 1000000]),
 zo 10 (.pick 6 9 kf),
 zM 11 10,
 zt 12 11 (.faddr 1 1),
 zt 13 11 (.load true 2 12),
 zt 14 11 (.call true [[]] 87 [13]),
 zo 15 (.pick 11 14 kf),
 zM 16 15,
 zt 17 16 (.faddr 3 1),
 zt 18 16 (.slcA 4 2 17 none none),
 zt 19 16 (.gcall false false [1, 300000, 300001, 300002, 300003, 300004, 300005, 300006, 300007] [[(0, 2)], []] 90 [18, .func 91]),
 zt 20 16 (.prim (.un .not) [19]),
 zo 21 (.pick 16 20 kf),
 zM 2 21]
def p68c5 := sq (rg p68o1) (sq (rg p68o2) (rt))
def pc68_r : List PRes := [PRes.tmp 2 []]
def pc68 : PFunc := ⟨22, pc68_r, p68c5, false⟩
def pc68_a : Ann := {
 kr := fun _ => none
 ka := fun _ => 0
 kh := fun _ => none
 gf := fun d f => match d, f with
  | some 19, 90 => some (false, false, [1, 300000, 300001, 300002, 300003, 300004, 300005, 300006, 300007])
  | _, _ => none
 ow := ow0
 tc := tc1 }
theorem pc68_ok : compFn Tryz.prog pc68_a Tryz.f68 = some pc68 := by kernel_rfl
def p34o1 := [zM 6 kf]
def p34o2 := [zM 12 0,
 zo 13 (.lenS 12),
 zM 14 (kk 0)]
def p34o3 := [zB 15 .lss 3 14 13]
def p34o7 := [zM 16 14,
 zo 17 (.iaddrS 11 12 14),
 zo 18 (.load true 11 17),
 zo 8 (.alloc 47 (.agg #[ki, ki, ki, ki, ks, ki, ks, ki, ks, ki, ks]) []),
 zM 7 16,
 zs (.store 11 8 18)]
def p34o8 := [zG 20 1 8,
 zo 21 (.load true 2 20),
 zo 22 (.call true [[]] 65 [21]),
 zM 19 22,
 zX 23 19 0,
 zX 24 19 1,
 zo 9 (.alloc 3 (.int .i64 0) []),
 zs (.store 1 9 23),
 zM 10 24]
def p34o9 := [zM 25 1,
 zo 26 (.mkfn 67 [9]),
 zo 27 (.gcall false false [9, 300000, 300001, 300002, 300003, 300004, 300005, 300006, 300007] [[(0, 2)], []] 66 [25, 26]),
 zM 11 27]
def p34o10 := [za 28 8 8 0 (.load true 11 8),
 zi 29 28 (.call false [[]] 68 [28]),
 zi 30 29 (.prim (.un .not) [29]),
 zi 31 30 (.mv 30),
 ⟨some 32, .mv 7, some (31, false), [(7, .imm)]⟩,
 ⟨some 33, .prim (.bin .gtr 3 false true) [32, kk 0], some (31, false), [(32, .imm)]⟩,
 ⟨some 34, .mv 33, some (31, false), [(33, .imm)]⟩,
 ⟨some 35, .faddr 0 8, some (34, true), [(8, .at_ 8 0)]⟩,
 ⟨some 36, .load false 1 35, some (34, true), [(35, .at_ 8 0)]⟩,
 ⟨some 37, .mv 0, some (34, true), [(0, .imm)]⟩,
 ⟨some 38, .mv 7, some (34, true), [(7, .imm)]⟩,
 ⟨some 39, .prim (.bin .sub 3 false true) [38, kk 1], some (34, true), [(38, .imm)]⟩,
 ⟨some 40, .iaddrS 11 37 39, some (34, true), [(37, .imm), (39, .imm)]⟩,
 ⟨some 41, .faddr 0 40, some (34, true), [(40, .imm)]⟩,
 ⟨some 42, .load false 1 41, some (34, true), [(41, .imm)]⟩,
 ⟨some 43, .prim (.bin .leq 3 false false) [36, 42], some (34, true), [(36, .imm), (42, .imm)]⟩,
 ⟨some 44, .pick 34 43 kf, some (31, false), [(34, .imm), (43, .imm)]⟩,
 zj 45 31 44 (.pick 31 kt 44),
 zi 46 45 (.mv 45),
 ⟨some 47, .mv 11, some (46, false), [(11, .imm)]⟩,
 ⟨some 48, .mv 2, some (46, false), [(2, .imm)]⟩,
 ⟨some 49, .prim (.bin .neq 4 false false) [47, 48], some (46, false), [(47, .imm), (48, .imm)]⟩,
 zj 50 46 49 (.pick 46 kt 49)]
def p34o11 := [zM 6 kf]
def p34o21 := [zK 51 .add 3 14 1,
 zM 14 51]
def p34c24 := sq (.region (some ([0, 1, 2, 12, 13, 14], [8, 9], [])) false p34o3) (sq (.cond 15 (.skip) (.exit 0)) (sq (.block 1 (sq (rg p34o7) (sq (rg p34o8) (sq (rg p34o9) (sq (rh p34o10) (.cond 50 (sq (rg p34o11) (rt)) (.skip))))))) (rg p34o21)))
def p34o28 := [zM 52 0,
 zo 53 (.lenS 52),
 zK 54 .leq 3 53 200,
 zM 6 54]
def p34c30 := sq (rg p34o28) (rt)
def p34c32 := sq (rg p34o1) (sq (sq (rg p34o2) (.block 0 (.loop p34c24))) p34c30)
def pc34_r : List PRes := [PRes.tmp 6 []]
def pc34 : PFunc := ⟨55, pc34_r, p34c32, false⟩
def pc34_a : Ann := {
 kr := fun
  | 2 => some ([0, 1, 2, 12, 13, 14], [8, 9], [])
  | _ => none
 ka := fun _ => 0
 kh := hg [([0, 2, 7, 11, 28, 29, 30, 31, 32, 33, 34, 36, 37, 38, 39, 40, 41, 42, 43, 44, 45, 46, 47, 48, 49], .imm), ([8, 35], .at_ 8 0)]
 gf := fun d f => match d, f with
  | some 27, 66 => some (false, false, [9, 300000, 300001, 300002, 300003, 300004, 300005, 300006, 300007])
  | _, _ => none
 ow := ow0
 tc := tc1 }
theorem pc34_ok : compFn Tryz.prog pc34_a Tryz.f34 = some pc34 := by kernel_rfl
def p69o1 := [zM 4 (kk 0)]
def p69o2 := [zM 6 0,
 zo 7 (.lenS 6),
 zM 8 (kk 0)]
def p69o3 := [zB 9 .lss 3 8 7]
def p69o7 := [zM 10 8,
 zM 5 10]
def p69o8 := [zM 11 1,
 zM 12 0,
 zM 13 5,
 zo 14 (.iaddrS 22 12 13),
 zo 15 (.load true 22 14),
 zo 16 (.callv true [[]] 11 [15])]
def p69o9 := [zM 17 5,
 zM 4 17]
def p69o17 := [zK 18 .add 3 8 1,
 zM 8 18]
def p69c20 := sq (.region (some ([0, 1, 7, 8], [], [])) false p69o3) (sq (.cond 9 (.skip) (.exit 0)) (sq (.block 1 (sq (rg p69o7) (sq (rg p69o8) (.cond 16 (sq (rg p69o9) (rt)) (.skip))))) (rg p69o17)))
def p69o24 := [zM 4 (kk (-1))]
def p69c26 := sq (rg p69o24) (rt)
def p69c28 := sq (rg p69o1) (sq (sq (rg p69o2) (.block 0 (.loop p69c20))) p69c26)
def pc69_r : List PRes := [PRes.tmp 4 []]
def pc69 : PFunc := ⟨19, pc69_r, p69c28, false⟩
def pc69_a : Ann := {
 kr := fun
  | 2 => some ([0, 1, 7, 8], [], [])
  | _ => none
 ka := fun _ => 0
 kh := fun _ => none
 ow := ow0
 tc := tc1 }
theorem pc69_ok : compFn Tryz.prog pc69_a Tryz.f69 = some pc69 := by kernel_rfl
def p35o1 := [zM 4 kf]
def p35o2 := [zM 5 0,
 zM 6 1,
 zo 7 (.gcall false false [300000, 300001, 300002, 300003, 300004, 300005, 300006, 300007] [[(0, 22)], []] 69 [5, 6]),
 zK 8 .geq 3 7 0,
 zM 4 8]
def p35c5 := sq (rg p35o1) (sq (rg p35o2) (rt))
def pc35_r : List PRes := [PRes.tmp 4 []]
def pc35 : PFunc := ⟨9, pc35_r, p35c5, false⟩
def pc35_a : Ann := {
 kr := fun _ => none
 ka := fun _ => 0
 kh := fun _ => none
 gf := fun d f => match d, f with
  | some 7, 69 => some (false, false, [300000, 300001, 300002, 300003, 300004, 300005, 300006, 300007])
  | _, _ => none
 ow := ow0
 tc := tc1 }
theorem pc35_ok : compFn Tryz.prog pc35_a Tryz.f35 = some pc35 := by kernel_rfl
def p12o1 := [zo 2 (.box 26 0 []),
 zM 4 kf]
def p12o2 := [zM 6 1,
 zo 7 (.prim .min [6, kk 4]),
 zM 1 7]
def p12o3 := [zG 8 0 2,
 zL 9 8,
 zK 10 .lss 3 9 0,
 zM 11 10,
 zf 12 11 (.faddr 0 2),
 zf 13 11 (.load false 1 12),
 zf 14 11 (.mv 1),
 zf 15 11 (.prim (.bin .geq 3 false false) [13, 14]),
 zo 16 (.pick 11 kt 15),
 zM 17 16,
 zf 18 17 (.faddr 1 2),
 zf 19 17 (.load false 1 18),
 zf 20 17 (.prim (.bin .lss 3 false true) [19, kk 0]),
 zo 21 (.pick 17 kt 20),
 zM 22 21,
 zf 23 22 (.faddr 1 2),
 zf 24 22 (.load false 1 23),
 zf 25 22 (.prim (.bin .gtr 3 false true) [24, kk 1073741824]),
 zo 26 (.pick 22 kt 25),
 zM 27 26,
 zf 28 27 (.faddr 5 2),
 zf 29 27 (.load false 1 28),
 zf 30 27 (.lenS 29),
 zf 31 27 (.prim (.bin .gtr 3 false true) [30, kk 20]),
 zo 32 (.pick 27 kt 31)]
def p12o4 := [zM 4 kf]
def p12o10 := [zo 5 (.mv (.func 30))]
def p12o11 := [zG 33 3 2,
 zL 34 33,
 zG 35 0 2,
 zL 36 35,
 zM 37 1,
 zo 38 (.call true [[(0, 2)], [], []] 33 [34, 36, 37]),
 zM 39 38,
 zt 40 39 (.faddr 2 2),
 zt 41 39 (.load false 1 40),
 zt 42 39 (.faddr 3 2),
 zt 43 39 (.load false 1 42),
 zt 44 39 (.call true [[(0, 11)], [(0, 2)], []] 34 [41, 43, kf]),
 zo 45 (.pick 39 44 kf),
 zM 46 45,
 zt 47 46 (.faddr 4 2),
 zt 48 46 (.load false 1 47),
 zt 49 46 (.faddr 3 2),
 zt 50 46 (.load false 1 49),
 zt 51 46 (.call true [[(0, 11)], [(0, 2)], []] 34 [48, 50, kt]),
 zo 52 (.pick 46 51 kf),
 zM 53 52,
 zt 54 53 (.faddr 5 2),
 zt 55 53 (.load false 1 54),
 zt 56 53 (.mv 5),
 zt 57 53 (.gcall false false [300000, 300001, 300002, 300003, 300004, 300005, 300006, 300007] [[(0, 22)], []] 35 [55, 56]),
 zt 58 53 (.prim (.un .not) [57]),
 zo 59 (.pick 53 58 kf),
 zM 4 59]
def p12c17 := sq (rg p12o1) (sq (rg p12o2) (sq (sq (rg p12o3) (.cond 32 (sq (rg p12o4) (rt)) (.skip))) (sq (rg p12o10) (sq (rg p12o11) (rt)))))
def pc12_r : List PRes := [PRes.tmp 4 []]
def pc12 : PFunc := ⟨60, pc12_r, p12c17, false⟩
def pc12_a : Ann := {
 kr := fun _ => none
 ka := fun _ => 0
 kh := fun _ => none
 gf := fun d f => match d, f with
  | some 57, 35 => some (false, false, [300000, 300001, 300002, 300003, 300004, 300005, 300006, 300007])
  | _, _ => none
 ow := ow0
 tc := tc1 }
theorem pc12_ok : compFn Tryz.prog pc12_a Tryz.f12 = some pc12 := by kernel_rfl
def p18o1 := [zo 2 (.mv (.const (ks)))]
def p18o2 := [zo 3 (.mv (.const (kl)))]
def p18o3 := [zM 4 0,
 zo 5 (.prim (.bin .geq 67 false true) [4, .const (.int .u64 128)])]
def p18o8 := [zM 6 3,
 zM 7 0,
 zo 8 (.prim (.conv 67 5) [7]),
 zo 9 (.prim (.bin .or 5 false true) [8, .const (.int .u8 128)]),
 zo 10 (.bslice 5 1 [9]),
 zo 11 (.app 100003 5 1 1 6 10),
 zM 3 11]
def p18o9 := [zM 12 0,
 zo 13 (.prim (.bin .shr 67 false true) [12, .const (.int .u64 7)]),
 zM 0 13]
def p18c12 := sq (sq (.region (some ([0, 3], [100003], [(false, 3, 0, 100003, 5, 1)])) false p18o3) (.cond 5 (.skip) (.exit 0))) (.block 1 (sq (rg p18o8) (rg p18o9)))
def p18o15 := [zM 14 3,
 zM 15 0,
 zo 16 (.prim (.conv 67 5) [15]),
 zo 17 (.bslice 5 1 [16]),
 zo 18 (.app 100003 5 1 1 14 17),
 zo 19 (.b2s 18),
 zM 2 19]
def p18c17 := sq (rg p18o15) (rt)
def p18c20 := sq (rg p18o1) (sq (rg p18o2) (sq (.block 0 (.loop p18c12)) p18c17))
def pc18_r : List PRes := [PRes.tmp 2 []]
def pc18 : PFunc := ⟨20, pc18_r, p18c20, false⟩
def pc18_a : Ann := {
 kr := fun
  | 2 => some ([0, 3], [100003], [(false, 3, 0, 100003, 5, 1)])
  | _ => none
 ka := fun
  | 11 => 100003
  | 18 => 100003
  | _ => 0
 kh := fun _ => none
 ow := ow0
 tc := tc1 }
theorem pc18_ok : compFn Tryz.prog pc18_a Tryz.f18 = some pc18 := by kernel_rfl
def p73o1 := [zo 2 (.mv (.const (.int .u64 0)))]
def p73o2 := [zM 3 0,
 zo 4 (.prim (.conv 2 67) [3]),
 zo 5 (.prim (.bin .shl 67 false true) [4, .const (.int .u64 1)]),
 zM 6 0,
 zo 7 (.prim (.bin .shr 2 false true) [6, .const (.int .u64 63)]),
 zo 8 (.prim (.conv 2 67) [7]),
 zB 9 .xor 67 5 8,
 zM 2 9]
def p73c5 := sq (rg p73o1) (sq (rg p73o2) (rt))
def pc73_r : List PRes := [PRes.tmp 2 []]
def pc73 : PFunc := ⟨10, pc73_r, p73c5, false⟩
def pc73_a : Ann := {
 kr := fun _ => none
 ka := fun _ => 0
 kh := fun _ => none
 ow := ow0
 tc := tc1 }
theorem pc73_ok : compFn Tryz.prog pc73_a Tryz.f73 = some pc73 := by kernel_rfl
def p42o1 := [zo 2 (.mv (.const (ks)))]
def p42o2 := [zM 3 0,
 zo 4 (.call true [[]] 73 [3]),
 zo 5 (.call true [[]] 18 [4]),
 zM 2 5]
def p42c5 := sq (rg p42o1) (sq (rg p42o2) (rt))
def pc42_r : List PRes := [PRes.tmp 2 []]
def pc42 : PFunc := ⟨6, pc42_r, p42c5, false⟩
def pc42_a : Ann := {
 kr := fun _ => none
 ka := fun _ => 0
 kh := fun _ => none
 ow := ow0
 tc := tc1 }
theorem pc42_ok : compFn Tryz.prog pc42_a Tryz.f42 = some pc42 := by kernel_rfl
def p45o1 := [zo 2 (.mv (.const (ks)))]
def p45o2 := [zM 3 0,
 zo 4 (.prim (.len 9) [3]),
 zo 5 (.prim (.conv 3 67) [4]),
 zo 6 (.call true [[]] 18 [5]),
 zM 7 0,
 zB 8 .add 9 6 7,
 zM 2 8]
def p45c5 := sq (rg p45o1) (sq (rg p45o2) (rt))
def pc45_r : List PRes := [PRes.tmp 2 []]
def pc45 : PFunc := ⟨9, pc45_r, p45c5, false⟩
def pc45_a : Ann := {
 kr := fun _ => none
 ka := fun _ => 0
 kh := fun _ => none
 ow := ow0
 tc := tc1 }
theorem pc45_ok : compFn Tryz.prog pc45_a Tryz.f45 = some pc45 := by kernel_rfl
def p93o1 := [zM 4 kf]
def p93o2 := [zM 5 0,
 zM 6 1,
 zK 7 .add 3 6 1,
 zB 8 .shr 5 5 7,
 zo 9 (.prim (.bin .and 5 false true) [8, .const (.int .u8 1)]),
 zo 10 (.prim (.bin .eql 5 false true) [9, .const (.int .u8 1)]),
 zM 4 10]
def p93c5 := sq (rg p93o1) (sq (rg p93o2) (rt))
def pc93_r : List PRes := [PRes.tmp 4 []]
def pc93 : PFunc := ⟨11, pc93_r, p93c5, false⟩
def pc93_a : Ann := {
 kr := fun _ => none
 ka := fun _ => 0
 kh := fun _ => none
 ow := ow0
 tc := tc1 }
theorem pc93_ok : compFn Tryz.prog pc93_a Tryz.f93 = some pc93 := by kernel_rfl
def p92o1 := [zo 1 (.box 121 0 []),
 zM 2 kf]
def p92o2 := [zG 5 0 1,
 zL 6 5,
 zK 7 .lss 3 6 0,
 zM 8 7,
 zf 9 8 (.faddr 0 1),
 zf 10 8 (.load false 1 9),
 zf 11 8 (.prim (.bin .gtr 3 false true) [10, kk 1000000]),
 zo 12 (.pick 8 kt 11),
 zM 13 12,
 zf 14 13 (.faddr 1 1),
 zf 15 13 (.load false 1 14),
 zf 16 13 (.prim (.bin .eql 5 false true) [15, .const (.int .u8 0)]),
 zo 17 (.pick 13 kt 16),
 zM 18 17,
 zf 19 18 (.faddr 1 1),
 zf 20 18 (.load false 1 19),
 zf 21 18 (.prim (.bin .gtr 5 false true) [20, .const (.int .u8 31)]),
 zo 22 (.pick 18 kt 21)]
def p92o3 := [zM 2 kf]
def p92o9 := [zG 23 1 1,
 zL 24 23,
 zo 25 (.prim (.bin .and 5 false true) [24, .const (.int .u8 1)]),
 zo 26 (.prim (.bin .eql 5 false true) [25, .const (.int .u8 0)]),
 zM 27 26,
 zt 28 27 (.faddr 2 1),
 zt 29 27 (.load true 2 28),
 zt 30 27 (.build (.agg #[ki, ki]) []),
 zt 31 27 (.prim (.bin .neq 42 false false) [29, 30]),
 zo 32 (.pick 27 31 kf),
 zM 33 32,
 zf 34 33 (.faddr 2 1),
 zf 35 33 (.load true 2 34),
 zf 36 33 (.call true [[]] 87 [35]),
 zf 37 33 (.prim (.un .not) [36]),
 zo 38 (.pick 33 kt 37)]
def p92o10 := [zM 2 kf]
def p92o16 := [zG 39 4 1,
 zo 40 (.load true 8 39),
 zM 41 (kk 0)]
def p92o17 := [zK 42 .lss 3 41 4]
def p92o21 := [zM 43 41,
 zo 44 (.idx true 2 4 40 41),
 zo 4 (.alloc 44 (.agg #[ki, ks]) []),
 zM 3 43,
 zs (.store 2 4 44)]
def p92o22 := [zo 45 (.load true 2 4),
 zo 46 (.call true [[]] 61 [45]),
 zo 47 (.prim (.un .not) [46]),
 zM 48 47,
 zf 49 48 (.faddr 1 1),
 zf 50 48 (.load false 1 49),
 zf 51 48 (.mv 3),
 zf 52 48 (.call true [[], []] 93 [50, 51]),
 zf 53 48 (.prim (.un .not) [52]),
 zf 54 48 (.mv 53),
 zt 55 54 (.load true 2 4),
 zt 56 54 (.build (.agg #[ki, ks]) []),
 zt 57 54 (.prim (.bin .neq 44 false false) [55, 56]),
 zf 58 48 (.pick 54 57 kf),
 zo 59 (.pick 48 kt 58)]
def p92o23 := [zM 2 kf]
def p92o31 := [zK 60 .add 3 41 1,
 zM 41 60]
def p92c34 := sq (.region (some ([1, 40, 41], [1, 4], [])) false p92o17) (sq (.cond 42 (.skip) (.exit 0)) (sq (.block 1 (sq (rg p92o21) (sq (rg p92o22) (.cond 59 (sq (rg p92o23) (rt)) (.skip))))) (rg p92o31)))
def p92o38 := [zM 2 kt]
def p92c40 := sq (rg p92o38) (rt)
def p92c41 := sq (sq (.region (some ([1], [1], [])) false p92o16) (.block 0 (.loop p92c34))) p92c40
def p92c44 := sq (rg p92o1) (sq (sq (rg p92o2) (.cond 22 (sq (rg p92o3) (rt)) (.skip))) (sq (sq (rg p92o9) (.cond 38 (sq (rg p92o10) (rt)) (.skip))) p92c41))
def pc92_r : List PRes := [PRes.tmp 2 []]
def pc92 : PFunc := ⟨61, pc92_r, p92c44, false⟩
def pc92_a : Ann := {
 kr := fun
  | 5 => some ([1], [1], [])
  | 6 => some ([1, 40, 41], [1, 4], [])
  | _ => none
 ka := fun _ => 0
 kh := fun _ => none
 ow := ow0
 tc := tc1 }
theorem pc92_ok : compFn Tryz.prog pc92_a Tryz.f92 = some pc92 := by kernel_rfl
def p71o1 := [zo 1 (.box 121 0 []),
 zo 2 (.mv (.const (ks))),
 zM 3 (kk 0)]
def p71o2 := [zo 7 (.load true 12 1),
 zo 8 (.call true [[]] 92 [7]),
 zo 9 (.prim (.un .not) [8])]
def p71o3 := [zo 2 (.mv (.const (ks))),
 zM 3 (kk 11)]
def p71o9 := [za 10 1 1 0 (.faddr 0 1),
 za 11 10 1 0 (.load false 1 10),
 zi 12 11 (.prim (.conv 3 67) [11]),
 zi 13 12 (.call false [[]] 18 [12]),
 za 14 1 1 0 (.faddr 1 1),
 za 15 14 1 1 (.load false 1 14),
 zi 16 15 (.prim (.conv 5 67) [15]),
 zi 17 16 (.call false [[]] 18 [16]),
 zj 18 13 17 (.prim (.bin .add 9 false false) [13, 17]),
 zi 4 18 (.mv 18)]
def p71o10 := [zG 19 1 1,
 zL 20 19,
 zo 21 (.prim (.bin .and 5 false true) [20, .const (.int .u8 1)]),
 zo 22 (.prim (.bin .neq 5 false true) [21, .const (.int .u8 0)])]
def p71o11 := [zi 23 4 (.mv 4),
 za 24 1 1 0 (.faddr 2 1),
 za 25 24 1 2 (.faddr 0 24),
 za 26 25 1 2 (.load false 1 25),
 zi 27 26 (.prim (.conv 3 67) [26]),
 zi 28 27 (.call false [[]] 18 [27]),
 za 29 1 1 0 (.faddr 2 1),
 za 30 29 1 2 (.faddr 1 29),
 za 31 30 1 3 (.load false 1 30),
 zi 32 31 (.prim (.conv 3 67) [31]),
 zi 33 32 (.call false [[]] 18 [32]),
 zj 34 28 33 (.prim (.bin .add 9 false false) [28, 33]),
 zj 35 23 34 (.prim (.bin .add 9 false false) [23, 34]),
 zi 4 35 (.mv 35)]
def p71o15 := [zG 36 4 1,
 zo 37 (.load true 8 36),
 zM 38 (kk 0)]
def p71o16 := [zK 39 .lss 3 38 4]
def p71o20 := [zM 40 38,
 zo 41 (.idx true 2 4 37 38),
 zo 6 (.alloc 44 (.agg #[ki, ks]) []),
 zM 5 40,
 zs (.store 2 6 41)]
def p71o21 := [zG 42 1 1,
 zL 43 42,
 zM 44 5,
 zo 45 (.call true [[], []] 93 [43, 44]),
 zo 46 (.prim (.un .not) [45])]
def p71o26 := [zM 47 4,
 zG 48 1 6,
 zL 49 48,
 zo 50 (.call true [[]] 45 [49]),
 zB 51 .add 9 47 50,
 zM 4 51]
def p71o27 := [zG 52 1 6,
 zL 53 52,
 zo 54 (.prim (.bin .eql 9 false true) [53, .const (ks)])]
def p71o28 := [zM 55 4,
 zG 56 0 6,
 zL 57 56,
 zo 58 (.call true [[]] 42 [57]),
 zB 59 .add 9 55 58,
 zM 4 59]
def p71o36 := [zK 60 .add 3 38 1,
 zM 38 60]
def p71c39 := sq (.region (some ([1, 4, 37, 38], [1, 6], [])) false p71o16) (sq (.cond 39 (.skip) (.exit 0)) (sq (.block 1 (sq (rg p71o20) (sq (sq (rg p71o21) (.cond 46 (.exit 1) (.skip))) (sq (rg p71o26) (sq (rg p71o27) (.cond 54 (rg p71o28) (.skip))))))) (rg p71o36)))
def p71o43 := [zM 61 4,
 zM 2 61,
 zM 3 (kk 0)]
def p71c45 := sq (rg p71o43) (rt)
def p71c46 := sq (sq (.region (some ([1, 4], [1], [])) false p71o15) (.block 0 (.loop p71c39))) p71c45
def p71c50 := sq (rg p71o1) (sq (sq (rg p71o2) (.cond 9 (sq (rg p71o3) (rt)) (.skip))) (sq (rh p71o9) (sq (sq (rg p71o10) (.cond 22 (rh p71o11) (.skip))) p71c46)))
def pc71_r : List PRes := [PRes.tmp 2 [], PRes.tmp 3 []]
def pc71 : PFunc := ⟨62, pc71_r, p71c50, false⟩
def pc71_a : Ann := {
 kr := fun
  | 6 => some ([1, 4], [1], [])
  | 7 => some ([1, 4, 37, 38], [1, 6], [])
  | _ => none
 ka := fun _ => 0
 kh := hg [([1, 10], .at_ 1 0), ([4, 11, 12, 13, 15, 16, 17, 18, 23, 26, 27, 28, 31, 32, 33, 34, 35], .imm), ([14], .at_ 1 1), ([24, 25, 29], .at_ 1 2), ([30], .at_ 1 3)]
 ow := ow0
 tc := tc1 }
theorem pc71_ok : compFn Tryz.prog pc71_a Tryz.f71 = some pc71 := by kernel_rfl
def p40o1 := [zo 1 (.box 47 0 []),
 zo 2 (.mv (.const (ks))),
 zM 3 (kk 0)]
def p40o2 := [zo 4 (.load true 11 1),
 zo 5 (.call true [[]] 68 [4]),
 zo 6 (.prim (.un .not) [5])]
def p40o3 := [zo 2 (.mv (.const (ks))),
 zM 3 (kk 11)]
def p40o9 := [zG 7 0 1,
 zL 8 7,
 zG 9 1 1,
 zo 10 (.load true 2 9),
 zG 11 3 1,
 zo 12 (.load true 8 11),
 zo 13 (.build (.agg #[ki, .int .u8 0, ki, ki, ki, ks, ki, ks, ki, ks, ki, ks]) [(0, 1, .tmp 8), (1, 1, .const (.int .u8 31)), (2, 2, .tmp 10), (4, 8, .tmp 12)]),
 zo 14 (.call true [[]] 71 [13]),
 zX 15 14 0,
 zX 16 14 1,
 zM 2 15,
 zM 3 16]
def p40c13 := sq (rg p40o1) (sq (sq (rg p40o2) (.cond 6 (sq (rg p40o3) (rt)) (.skip))) (sq (rg p40o9) (rt)))
def pc40_r : List PRes := [PRes.tmp 2 [], PRes.tmp 3 []]
def pc40 : PFunc := ⟨17, pc40_r, p40c13, false⟩
def pc40_a : Ann := {
 kr := fun _ => none
 ka := fun _ => 0
 kh := fun _ => none
 ow := ow0
 tc := tc1 }
theorem pc40_ok : compFn Tryz.prog pc40_a Tryz.f40 = some pc40 := by kernel_rfl
def p16o1 := [zo 2 (.mv (.const (ks))),
 zM 3 (kk 0)]
def p16o2 := [zM 9 0,
 zo 10 (.lenS 9),
 zK 11 .gtr 3 10 200]
def p16o3 := [zo 2 (.mv (.const (ks))),
 zM 3 (kk 13)]
def p16o9 := [zo 4 (.allocT 61 (.agg #[.pointer none, kl]) [(1, 5, 1)])]
def p16o10 := [zM 12 0,
 zo 13 (.lenS 12),
 zo 14 (.prim (.conv 3 67) [13]),
 zo 15 (.call true [[]] 18 [14]),
 zo 16 (.gcall false false [4, 300000, 300001, 300002, 300003, 300004, 300005, 300006, 300007, 400032] [[(1, 1)], []] 17 [4, 15])]
def p16o11 := [zM 17 0,
 zo 18 (.lenS 17),
 zM 19 (kk 0)]
def p16o12 := [zB 20 .lss 3 19 18]
def p16o16 := [zM 21 19,
 zo 22 (.iaddrS 11 17 19),
 zo 23 (.load true 11 22),
 zo 6 (.alloc 47 (.agg #[ki, ki, ki, ki, ks, ki, ks, ki, ks, ki, ks]) []),
 zM 5 21,
 zs (.store 11 6 23)]
def p16o17 := [zo 25 (.load true 11 6),
 zo 26 (.call true [[]] 40 [25]),
 zM 24 26,
 zX 27 24 0,
 zX 28 24 1,
 zM 7 27,
 zM 8 28]
def p16o18 := [zi 29 8 (.mv 8),
 zi 30 29 (.prim (.bin .neq 30 false true) [29, kk 0]),
 zi 31 30 (.mv 30),
 ⟨some 32, .mv 5, some (31, false), [(5, .imm)]⟩,
 ⟨some 33, .prim (.bin .gtr 3 false true) [32, kk 0], some (31, false), [(32, .imm)]⟩,
 ⟨some 34, .mv 33, some (31, false), [(33, .imm)]⟩,
 ⟨some 35, .faddr 0 6, some (34, true), [(6, .at_ 6 0)]⟩,
 ⟨some 36, .load false 1 35, some (34, true), [(35, .at_ 6 0)]⟩,
 ⟨some 37, .mv 0, some (34, true), [(0, .imm)]⟩,
 ⟨some 38, .mv 5, some (34, true), [(5, .imm)]⟩,
 ⟨some 39, .prim (.bin .sub 3 false true) [38, kk 1], some (34, true), [(38, .imm)]⟩,
 ⟨some 40, .iaddrS 11 37 39, some (34, true), [(37, .imm), (39, .imm)]⟩,
 ⟨some 41, .faddr 0 40, some (34, true), [(40, .imm)]⟩,
 ⟨some 42, .load false 1 41, some (34, true), [(41, .imm)]⟩,
 ⟨some 43, .prim (.bin .leq 3 false false) [36, 42], some (34, true), [(36, .imm), (42, .imm)]⟩,
 ⟨some 44, .pick 34 43 kf, some (31, false), [(34, .imm), (43, .imm)]⟩,
 zj 45 31 44 (.pick 31 kt 44)]
def p16o19 := [zo 2 (.mv (.const (ks))),
 zM 3 (kk 11)]
def p16o25 := [zM 46 7,
 zo 47 (.gcall false false [4, 300000, 300001, 300002, 300003, 300004, 300005, 300006, 300007, 400032] [[(1, 1)], []] 17 [4, 46])]
def p16o30 := [zK 48 .add 3 19 1,
 zM 19 48]
def p16c33 := sq (.region (some ([0, 4, 17, 18, 19], [4, 6, 400032], [])) false p16o12) (sq (.cond 20 (.skip) (.exit 0)) (sq (.block 1 (sq (rg p16o16) (sq (rg p16o17) (sq (sq (rh p16o18) (.cond 45 (sq (rg p16o19) (rt)) (.skip))) (rg p16o25))))) (rg p16o30)))
def p16o37 := [zo 49 (.gcall false false [4, 300000, 300001, 300002, 300003, 300004, 300005, 300006, 300007, 400032] [[(1, 1)]] 22 [4]),
 zM 2 49,
 zM 3 (kk 0)]
def p16c39 := sq (rg p16o37) (rt)
def p16c44 := sq (rg p16o1) (sq (sq (rg p16o2) (.cond 11 (sq (rg p16o3) (rt)) (.skip))) (sq (rg p16o9) (sq (rg p16o10) (sq (sq (rg p16o11) (.block 0 (.loop p16c33))) p16c39))))
def pc16_r : List PRes := [PRes.tmp 2 [], PRes.tmp 3 []]
def pc16 : PFunc := ⟨50, pc16_r, p16c44, false⟩
def pc16_a : Ann := {
 kr := fun
  | 6 => some ([0, 4, 17, 18, 19], [4, 6, 400032], [])
  | _ => none
 ka := fun _ => 0
 kh := hg [([0, 5, 8, 29, 30, 31, 32, 33, 34, 36, 37, 38, 39, 40, 41, 42, 43, 44], .imm), ([6, 35], .at_ 6 0)]
 gf := fun d f => match d, f with
  | some 16, 17 => some (false, false, [4, 300000, 300001, 300002, 300003, 300004, 300005, 300006, 300007, 400032])
  | some 47, 17 => some (false, false, [4, 300000, 300001, 300002, 300003, 300004, 300005, 300006, 300007, 400032])
  | some 49, 22 => some (false, false, [4, 300000, 300001, 300002, 300003, 300004, 300005, 300006, 300007, 400032])
  | _, _ => none
 ow := ow0
 tc := tc1 }
theorem pc16_ok : compFn Tryz.prog pc16_a Tryz.f16 = some pc16 := by kernel_rfl
def p43o1 := [zo 2 (.mv (.const (kl)))]
def p43o2 := [zM 3 0,
 zo 4 (.nilc 3),
 zG 5 0 4,
 zL 6 5]
def p43o3 := [zK 8 .eql 3 6 1,
 zM 7 8]
def p43o4 := [za 9 0 1000000 0 (.mv 0),
 za 10 9 1000000 0 (.nilc 9),
 za 11 10 1000000 0 (.faddr 4 10),
 za 12 11 1000000 4 (.faddr 0 11),
 za 13 0 1000000 0 (.mv 0),
 za 14 13 1000000 0 (.nilc 13),
 za 15 14 1000000 0 (.faddr 4 14),
 za 16 15 1000000 4 (.faddr 1 15),
 ⟨some 17, .bptrs 1 [12, 16], none, [(12, .at_ 1000000 4), (16, .at_ 1000000 5)]⟩,
 ⟨some 2, .mv 17, none, [(17, .obj 17)]⟩]
def p43o7 := [zK 19 .eql 3 6 2,
 zM 18 19]
def p43o8 := [za 20 0 1000000 0 (.mv 0),
 za 21 20 1000000 0 (.nilc 20),
 za 22 21 1000000 0 (.faddr 1 21),
 za 23 0 1000000 0 (.mv 0),
 za 24 23 1000000 0 (.nilc 23),
 za 25 24 1000000 0 (.faddr 4 24),
 za 26 25 1000000 4 (.faddr 0 25),
 za 27 0 1000000 0 (.mv 0),
 za 28 27 1000000 0 (.nilc 27),
 za 29 28 1000000 0 (.faddr 4 28),
 za 30 29 1000000 4 (.faddr 1 29),
 ⟨some 31, .bptrs 1 [22, 26, 30], none, [(22, .at_ 1000000 1), (26, .at_ 1000000 4), (30, .at_ 1000000 5)]⟩,
 ⟨some 2, .mv 31, none, [(31, .obj 31)]⟩]
def p43o11 := [zK 33 .eql 3 6 3,
 zM 32 33]
def p43o12 := [za 34 0 1000000 0 (.mv 0),
 za 35 34 1000000 0 (.nilc 34),
 za 36 35 1000000 0 (.faddr 1 35),
 za 37 0 1000000 0 (.mv 0),
 za 38 37 1000000 0 (.nilc 37),
 za 39 38 1000000 0 (.faddr 2 38),
 ⟨some 40, .bptrs 1 [36, 39], none, [(36, .at_ 1000000 1), (39, .at_ 1000000 2)]⟩,
 ⟨some 2, .mv 40, none, [(40, .obj 40)]⟩]
def p43o15 := [zK 42 .eql 3 6 4,
 zM 41 42]
def p43o16 := [zM 43 0,
 zo 44 (.nilc 43),
 zG 45 1 44,
 zo 46 (.bptrs 1 [45]),
 zM 2 46]
def p43o19 := [zK 48 .eql 3 6 5,
 zM 47 48]
def p43o20 := [za 49 0 1000000 0 (.mv 0),
 za 50 49 1000000 0 (.nilc 49),
 za 51 50 1000000 0 (.faddr 2 50),
 za 52 0 1000000 0 (.mv 0),
 za 53 52 1000000 0 (.nilc 52),
 za 54 53 1000000 0 (.faddr 3 53),
 ⟨some 55, .bptrs 1 [51, 54], none, [(51, .at_ 1000000 2), (54, .at_ 1000000 3)]⟩,
 ⟨some 2, .mv 55, none, [(55, .obj 55)]⟩]
def p43o23 := [zK 57 .eql 3 6 6,
 zM 56 57]
def p43o25 := [zK 58 .eql 3 6 7,
 zM 56 58]
def p43o28 := [za 59 0 1000000 0 (.mv 0),
 za 60 59 1000000 0 (.nilc 59),
 za 61 60 1000000 0 (.faddr 18 60),
 za 62 61 1000000 18 (.faddr 0 61),
 za 63 0 1000000 0 (.mv 0),
 za 64 63 1000000 0 (.nilc 63),
 za 65 64 1000000 0 (.faddr 18 64),
 za 66 65 1000000 18 (.faddr 1 65),
 za 67 0 1000000 0 (.mv 0),
 za 68 67 1000000 0 (.nilc 67),
 za 69 68 1000000 0 (.faddr 18 68),
 za 70 69 1000000 18 (.faddr 2 69),
 za 71 0 1000000 0 (.mv 0),
 za 72 71 1000000 0 (.nilc 71),
 za 73 72 1000000 0 (.faddr 18 72),
 za 74 73 1000000 18 (.faddr 3 73),
 ⟨some 75, .bptrs 1 [62, 66, 70, 74], none, [(62, .at_ 1000000 18), (66, .at_ 1000000 19), (70, .at_ 1000000 20), (74, .at_ 1000000 21)]⟩,
 ⟨some 2, .mv 75, none, [(75, .obj 75)]⟩]
def p43c30 := sq (.region (some ([0], [1000000], [])) true p43o28) (rt)
def p43o46 := [zo 2 (.mv (.const (kl)))]
def p43c48 := sq (rg p43o46) (rt)
def p43c50 := sq (rg p43o1) (sq (sq (rg p43o2) (.block 0 (sq (rg p43o3) (.cond 7 (sq (rh p43o4) (rt)) (sq (rg p43o7) (.cond 18 (sq (rh p43o8) (rt)) (sq (rg p43o11) (.cond 32 (sq (rh p43o12) (rt)) (sq (rg p43o15) (.cond 41 (sq (rg p43o16) (rt)) (sq (rg p43o19) (.cond 47 (sq (rh p43o20) (rt)) (sq (sq (rg p43o23) (.cond 56 (.skip) (rg p43o25))) (.cond 56 p43c30 (.skip))))))))))))))) p43c48)
def pc43_r : List PRes := [PRes.tmp 2 [(0, 1)]]
def pc43 : PFunc := ⟨76, pc43_r, p43c50, false⟩
def pc43_a : Ann := {
 kr := fun
  | 14 => some ([0], [1000000], [])
  | _ => none
 ka := fun _ => 0
 kh := hg [([0, 9, 10, 13, 14, 20, 21, 23, 24, 27, 28, 34, 35, 37, 38, 49, 50, 52, 53, 59, 60, 63, 64, 67, 68, 71, 72], .at_ 1000000 0), ([11, 12, 15, 25, 26, 29], .at_ 1000000 4), ([16, 30], .at_ 1000000 5), ([17], .obj 17), ([22, 36], .at_ 1000000 1), ([31], .obj 31), ([39, 51], .at_ 1000000 2), ([40], .obj 40), ([54], .at_ 1000000 3), ([55], .obj 55), ([61, 62, 65, 69, 73], .at_ 1000000 18), ([66], .at_ 1000000 19), ([70], .at_ 1000000 20), ([74], .at_ 1000000 21), ([75], .obj 75)]
 ow := ow0
 tc := tc1 }
theorem pc43_ok : compFn Tryz.prog pc43_a Tryz.f43 = some pc43 := by kernel_rfl
def p44o1 := [zo 2 (.mv (.const (kl)))]
def p44o2 := [zM 3 0,
 zo 4 (.nilc 3),
 zG 5 0 4,
 zL 6 5]
def p44o3 := [zK 8 .eql 3 6 1,
 zM 7 8]
def p44o4 := [za 9 0 1000000 0 (.mv 0),
 za 10 9 1000000 0 (.nilc 9),
 za 11 10 1000000 0 (.faddr 6 10),
 za 12 11 1000000 6 (.iaddrA 4 2 11 (kk 0)),
 za 13 0 1000000 0 (.mv 0),
 za 14 13 1000000 0 (.nilc 13),
 za 15 14 1000000 0 (.faddr 6 14),
 za 16 15 1000000 6 (.iaddrA 4 2 15 (kk 1)),
 za 17 0 1000000 0 (.mv 0),
 za 18 17 1000000 0 (.nilc 17),
 za 19 18 1000000 0 (.faddr 6 18),
 za 20 19 1000000 6 (.iaddrA 4 2 19 (kk 2)),
 za 21 0 1000000 0 (.mv 0),
 za 22 21 1000000 0 (.nilc 21),
 za 23 22 1000000 0 (.faddr 6 22),
 za 24 23 1000000 6 (.iaddrA 4 2 23 (kk 3)),
 ⟨some 25, .bptrs 1 [12, 16, 20, 24], none, [(12, .at_ 1000000 6), (16, .at_ 1000000 8), (20, .at_ 1000000 10), (24, .at_ 1000000 12)]⟩,
 ⟨some 2, .mv 25, none, [(25, .obj 25)]⟩]
def p44o7 := [zK 27 .eql 3 6 3,
 zM 26 27]
def p44o8 := [zM 28 0,
 zo 29 (.nilc 28),
 zG 30 14 29,
 zo 31 (.bptrs 1 [30]),
 zM 2 31]
def p44o18 := [zo 2 (.mv (.const (kl)))]
def p44c22 := sq (rg p44o1) (sq (sq (rg p44o2) (.block 0 (sq (rg p44o3) (.cond 7 (sq (rh p44o4) (rt)) (sq (rg p44o7) (.cond 26 (sq (rg p44o8) (rt)) (.skip))))))) (sq (rg p44o18) (rt)))
def pc44_r : List PRes := [PRes.tmp 2 [(0, 1)]]
def pc44 : PFunc := ⟨32, pc44_r, p44c22, false⟩
def pc44_a : Ann := {
 kr := fun _ => none
 ka := fun _ => 0
 kh := hg [([0, 9, 10, 13, 14, 17, 18, 21, 22], .at_ 1000000 0), ([11, 12, 15, 19, 23], .at_ 1000000 6), ([16], .at_ 1000000 8), ([20], .at_ 1000000 10), ([24], .at_ 1000000 12), ([25], .obj 25)]
 ow := ow0
 tc := tc1 }
theorem pc44_ok : compFn Tryz.prog pc44_a Tryz.f44 = some pc44 := by kernel_rfl
def p19o1 := [zo 1 (.box 56 0 []),
 zo 2 (.mv (.const (ks))),
 zM 3 (kk 0)]
def p19o2 := [zo 9 (.load true 22 1),
 zo 10 (.call true [[]] 31 [9]),
 zo 11 (.prim (.un .not) [10])]
def p19o3 := [zo 2 (.mv (.const (ks))),
 zM 3 (kk 11)]
def p19o9 := [za 12 1 1 0 (.faddr 0 1),
 za 13 12 1 0 (.load false 1 12),
 zi 14 13 (.call false [[]] 42 [13]),
 za 15 1 1 0 (.faddr 16 1),
 za 16 15 1 16 (.load false 1 15),
 zi 17 16 (.call false [[]] 42 [16]),
 zj 18 14 17 (.prim (.bin .add 9 false false) [14, 17]),
 za 19 1 1 0 (.faddr 17 1),
 za 20 19 1 17 (.load false 1 19),
 zi 21 20 (.call false [[]] 42 [20]),
 zj 22 18 21 (.prim (.bin .add 9 false false) [18, 21]),
 zi 4 22 (.mv 22)]
def p19o10 := [zo 23 (.gcall false false [1, 300000, 300001, 300002, 300003, 300004, 300005, 300006, 300007] [[]] 43 [1]),
 zo 24 (.lenS 23),
 zM 25 (kk 0)]
def p19o11 := [zB 26 .lss 3 25 24]
def p19o15 := [zo 27 (.iaddrS 1 23 25),
 zL 28 27,
 zM 6 28]
def p19o16 := [zM 29 4,
 zM 30 6,
 zo 31 (.nilc 30),
 zL 32 31,
 zo 33 (.call true [[]] 42 [32]),
 zB 34 .add 9 29 33,
 zM 4 34]
def p19o19 := [zK 35 .add 3 25 1,
 zM 25 35]
def p19o26 := [zo 36 (.gcall false false [1, 300000, 300001, 300002, 300003, 300004, 300005, 300006, 300007] [[]] 44 [1]),
 zo 37 (.lenS 36),
 zM 38 (kk 0)]
def p19o27 := [zB 39 .lss 3 38 37]
def p19o31 := [zo 40 (.iaddrS 1 36 38),
 zL 41 40,
 zM 8 41]
def p19o32 := [zi 42 4 (.mv 4),
 ⟨some 43, .mv 8, none, [(8, .obj 1)]⟩,
 ⟨some 44, .nilc 43, none, [(43, .obj 1)]⟩,
 ⟨some 45, .faddr 1 44, none, [(44, .obj 1)]⟩,
 ⟨some 46, .load false 1 45, none, [(45, .obj 1)]⟩,
 zi 47 46 (.call false [[]] 45 [46]),
 ⟨some 48, .mv 8, none, [(8, .obj 1)]⟩,
 ⟨some 49, .nilc 48, none, [(48, .obj 1)]⟩,
 ⟨some 50, .faddr 0 49, none, [(49, .obj 1)]⟩,
 ⟨some 51, .load false 1 50, none, [(50, .obj 1)]⟩,
 zi 52 51 (.call false [[]] 42 [51]),
 zj 53 47 52 (.prim (.bin .add 9 false false) [47, 52]),
 zj 54 42 53 (.prim (.bin .add 9 false false) [42, 53]),
 zi 4 54 (.mv 54)]
def p19o35 := [zK 55 .add 3 38 1,
 zM 38 55]
def p19o42 := [zM 56 4,
 zM 2 56,
 zM 3 (kk 0)]
def p19c45 := sq (sq (.region (some ([1, 4], [1, 300000], [])) false p19o26) (.block 2 (.loop (sq (.region (some ([4, 36, 37, 38], [1, 300000], [])) false p19o27) (sq (.cond 39 (.skip) (.exit 2)) (sq (.block 3 (sq (rg p19o31) (rh p19o32))) (rg p19o35))))))) (sq (rg p19o42) (rt))
def p19c49 := sq (rg p19o1) (sq (sq (rg p19o2) (.cond 11 (sq (rg p19o3) (rt)) (.skip))) (sq (rh p19o9) (sq (sq (rg p19o10) (.block 0 (.loop (sq (.region (some ([1, 4, 23, 24, 25], [1, 300000], [])) false p19o11) (sq (.cond 26 (.skip) (.exit 0)) (sq (.block 1 (sq (rg p19o15) (rg p19o16))) (rg p19o19))))))) p19c45)))
def pc19_r : List PRes := [PRes.tmp 2 [], PRes.tmp 3 []]
def pc19 : PFunc := ⟨57, pc19_r, p19c49, false⟩
def pc19_a : Ann := {
 kr := fun
  | 5 => some ([1, 4, 23, 24, 25], [1, 300000], [])
  | 9 => some ([1, 4], [1, 300000], [])
  | 10 => some ([4, 36, 37, 38], [1, 300000], [])
  | _ => none
 ka := fun _ => 0
 kh := hg [([1, 12], .at_ 1 0), ([4, 13, 14, 16, 17, 18, 20, 21, 22, 42, 46, 47, 51, 52, 53, 54], .imm), ([8, 43, 44, 45, 48, 49, 50], .obj 1), ([15], .at_ 1 16), ([19], .at_ 1 17)]
 gf := fun d f => match d, f with
  | some 23, 43 => some (false, false, [1, 300000, 300001, 300002, 300003, 300004, 300005, 300006, 300007])
  | some 36, 44 => some (false, false, [1, 300000, 300001, 300002, 300003, 300004, 300005, 300006, 300007])
  | _, _ => none
 ow := ow0
 tc := tc1 }
theorem pc19_ok : compFn Tryz.prog pc19_a Tryz.f19 = some pc19 := by kernel_rfl
def p46o1 := [zo 2 (.mv (.const (ks)))]
def p46o2 := [zM 3 0,
 zo 4 (.prim (.conv 72 5) [3]),
 zM 5 0,
 zo 6 (.prim (.bin .shr 72 false true) [5, .const (.int .u64 8)]),
 zo 7 (.prim (.conv 72 5) [6]),
 zM 8 0,
 zo 9 (.prim (.bin .shr 72 false true) [8, .const (.int .u64 16)]),
 zo 10 (.prim (.conv 72 5) [9]),
 zM 11 0,
 zo 12 (.prim (.bin .shr 72 false true) [11, .const (.int .u64 24)]),
 zo 13 (.prim (.conv 72 5) [12]),
 zo 14 (.bslice 5 1 [4, 7, 10, 13]),
 zo 15 (.b2s 14),
 zM 2 15]
def p46c5 := sq (rg p46o1) (sq (rg p46o2) (rt))
def pc46_r : List PRes := [PRes.tmp 2 []]
def pc46 : PFunc := ⟨16, pc46_r, p46c5, false⟩
def pc46_a : Ann := {
 kr := fun _ => none
 ka := fun _ => 0
 kh := fun _ => none
 ow := ow0
 tc := tc1 }
theorem pc46_ok : compFn Tryz.prog pc46_a Tryz.f46 = some pc46 := by kernel_rfl
def p47o1 := [zo 2 (.mv (.const (.int .u32 0)))]
def p47o2 := [zo 3 (.mv (.const (.int .u32 4294967295)))]
def p47o3 := [zM 7 0,
 zo 8 (.s2b 5 7),
 zo 9 (.lenS 8),
 zM 10 (kk 0)]
def p47o4 := [zB 11 .lss 3 10 9]
def p47o8 := [zo 12 (.iaddrS 1 8 10),
 zL 13 12,
 zM 5 13]
def p47o9 := [zM 14 3,
 zM 15 5,
 zo 16 (.prim (.conv 5 72) [15]),
 zB 17 .xor 72 14 16,
 zM 3 17]
def p47o10 := [zM 18 (kk 0)]
def p47o11 := [zK 19 .lss 3 18 8]
def p47o15 := [zM 20 3,
 zo 21 (.prim (.bin .and 72 false true) [20, .const (.int .u32 1)]),
 zM 6 21]
def p47o16 := [zM 22 3,
 zo 23 (.prim (.bin .shr 72 false true) [22, .const (.int .u64 1)]),
 zM 3 23]
def p47o17 := [zM 24 6,
 zo 25 (.prim (.bin .eql 72 false true) [24, .const (.int .u32 1)])]
def p47o18 := [zM 26 3,
 zo 27 (.prim (.bin .xor 72 false true) [26, .const (.int .u32 3988292384)]),
 zM 3 27]
def p47o25 := [zK 28 .add 3 18 1,
 zM 18 28]
def p47c28 := sq (.region (some ([3, 8, 9, 10, 18], [], [])) false p47o11) (sq (.cond 19 (.skip) (.exit 2)) (sq (.block 3 (sq (rg p47o15) (sq (rg p47o16) (sq (rg p47o17) (.cond 25 (rg p47o18) (.skip)))))) (rg p47o25)))
def p47o35 := [zK 29 .add 3 10 1,
 zM 10 29]
def p47c35 := rg p47o35
def p47c38 := sq (.region (some ([3, 8, 9, 10], [], [])) false p47o4) (sq (.cond 11 (.skip) (.exit 0)) (sq (.block 1 (sq (rg p47o8) (sq (rg p47o9) (sq (rg p47o10) (.block 2 (.loop p47c28)))))) p47c35))
def p47o42 := [zM 30 3,
 zo 31 (.prim (.bin .xor 72 false true) [30, .const (.int .u32 4294967295)]),
 zM 2 31]
def p47c44 := sq (rg p47o42) (rt)
def p47c47 := sq (rg p47o1) (sq (rg p47o2) (sq (sq (rg p47o3) (.block 0 (.loop p47c38))) p47c44))
def pc47_r : List PRes := [PRes.tmp 2 []]
def pc47 : PFunc := ⟨32, pc47_r, p47c47, false⟩
def pc47_a : Ann := {
 kr := fun
  | 3 => some ([3, 8, 9, 10], [], [])
  | 7 => some ([3, 8, 9, 10, 18], [], [])
  | _ => none
 ka := fun _ => 0
 kh := fun _ => none
 ow := ow0
 tc := tc1 }
theorem pc47_ok : compFn Tryz.prog pc47_a Tryz.f47 = some pc47 := by kernel_rfl
def p21o1 := [zo 2 (.mv (.const (ks)))]
def p21o2 := [zM 3 0,
 zo 4 (.call true [[]] 45 [3]),
 zM 5 0,
 zo 6 (.call true [[]] 47 [5]),
 zo 7 (.call true [[]] 46 [6]),
 zB 8 .add 9 4 7,
 zM 2 8]
def p21c5 := sq (rg p21o1) (sq (rg p21o2) (rt))
def pc21_r : List PRes := [PRes.tmp 2 []]
def pc21 : PFunc := ⟨9, pc21_r, p21c5, false⟩
def pc21_a : Ann := {
 kr := fun _ => none
 ka := fun _ => 0
 kh := fun _ => none
 ow := ow0
 tc := tc1 }
theorem pc21_ok : compFn Tryz.prog pc21_a Tryz.f21 = some pc21 := by kernel_rfl
def p6o1 := [zo 1 (.box 26 0 []),
 zo 2 (.mv (.const (ks))),
 zM 3 (kk 0)]
def p6o2 := [zo 15 (.load true 6 1),
 zo 16 (.call true [[(2, 11), (3, 2), (4, 11), (5, 22)], []] 12 [15, kk 4]),
 zo 17 (.prim (.un .not) [16])]
def p6o3 := [zo 2 (.mv (.const (ks))),
 zM 3 (kk 11)]
def p6o9 := [zG 19 2 1,
 zL 20 19,
 zo 21 (.call true [[(0, 11)]] 16 [20]),
 zM 18 21,
 zX 22 18 0,
 zX 23 18 1,
 zM 4 22,
 zM 5 23]
def p6o10 := [zG 25 4 1,
 zL 26 25,
 zo 27 (.call true [[(0, 11)]] 16 [26]),
 zM 24 27,
 zX 28 24 0,
 zX 29 24 1,
 zM 6 28,
 zM 7 29]
def p6o11 := [zo 8 (.allocT 61 (.agg #[.pointer none, kl]) [(1, 5, 1)])]
def p6o12 := [za 30 1 1 0 (.faddr 0 1),
 za 31 30 1 0 (.load false 1 30),
 zi 32 31 (.prim (.conv 3 67) [31]),
 zi 33 32 (.call false [[]] 18 [32]),
 za 34 1 1 0 (.faddr 1 1),
 za 35 34 1 1 (.load false 1 34),
 zi 36 35 (.prim (.conv 3 67) [35]),
 zi 37 36 (.call false [[]] 18 [36]),
 zj 38 33 37 (.prim (.bin .add 9 false false) [33, 37]),
 zi 39 4 (.mv 4),
 zj 40 38 39 (.prim (.bin .add 9 false false) [38, 39]),
 zi 41 6 (.mv 6),
 zj 42 40 41 (.prim (.bin .add 9 false false) [40, 41]),
 za 43 1 1 0 (.faddr 3 1),
 za 44 43 1 3 (.load false 1 43),
 zi 45 44 (.lenS 44),
 zi 46 45 (.prim (.conv 3 67) [45]),
 zi 47 46 (.call false [[]] 18 [46]),
 zj 48 42 47 (.prim (.bin .add 9 false false) [42, 47]),
 ⟨some 49, .gcall false false [8, 300000, 300001, 300002, 300003, 300004, 300005, 300006, 300007, 400064] [[(1, 1)], []] 17 [8, 48], none, [(8, .at_ 8 0), (48, .imm)]⟩]
def p6o13 := [zG 50 3 1,
 zL 51 50,
 zo 52 (.lenS 51),
 zM 53 (kk 0)]
def p6o14 := [zB 54 .lss 3 53 52]
def p6o18 := [zo 55 (.iaddrS 2 51 53),
 zo 56 (.load true 2 55),
 zo 10 (.alloc 40 (.agg #[ki, ki]) []),
 zs (.store 2 10 56)]
def p6o19 := [za 57 10 10 0 (.faddr 0 10),
 za 58 57 10 0 (.load false 1 57),
 zi 59 58 (.prim (.conv 3 67) [58]),
 zi 60 59 (.call false [[]] 18 [59]),
 za 61 10 10 0 (.faddr 1 10),
 za 62 61 10 1 (.load false 1 61),
 zi 63 62 (.prim (.conv 3 67) [62]),
 zi 64 63 (.call false [[]] 18 [63]),
 zj 65 60 64 (.prim (.bin .add 9 false false) [60, 64]),
 ⟨some 66, .gcall false false [8, 300000, 300001, 300002, 300003, 300004, 300005, 300006, 300007, 400064] [[(1, 1)], []] 17 [8, 65], none, [(8, .at_ 8 0), (65, .imm)]⟩]
def p6o22 := [zK 67 .add 3 53 1,
 zM 53 67]
def p6c25 := sq (.region (some ([1, 8, 51, 52, 53], [1, 8, 10, 400064], [])) false p6o14) (sq (.cond 54 (.skip) (.exit 0)) (sq (.block 1 (sq (rg p6o18) (rh p6o19))) (rg p6o22)))
def p6o29 := [zG 68 5 1,
 zL 69 68,
 zo 70 (.lenS 69),
 zo 71 (.prim (.conv 3 67) [70]),
 zo 72 (.call true [[]] 18 [71]),
 zo 73 (.gcall false false [8, 300000, 300001, 300002, 300003, 300004, 300005, 300006, 300007, 400064] [[(1, 1)], []] 17 [8, 72])]
def p6o30 := [zG 74 5 1,
 zL 75 74,
 zo 76 (.lenS 75),
 zM 77 (kk 0)]
def p6o31 := [zB 78 .lss 3 77 76]
def p6o35 := [zo 79 (.iaddrS 22 75 77),
 zo 80 (.load true 22 79),
 zo 12 (.alloc 56 (.agg #[ki, ki, ki, ki, ki, ki, ki, ks, ki, ks, ki, ks, ki, ks, ki, ks, ki, ki, ki, ki, ki, ki]) []),
 zs (.store 22 12 80)]
def p6o36 := [zo 82 (.load true 22 12),
 zo 83 (.call true [[]] 19 [82]),
 zM 81 83,
 zX 84 81 0,
 zX 85 81 1,
 zM 13 84,
 zM 14 85]
def p6o37 := [zM 86 13,
 zo 87 (.gcall false false [8, 300000, 300001, 300002, 300003, 300004, 300005, 300006, 300007, 400064] [[(1, 1)], []] 17 [8, 86])]
def p6o41 := [zK 88 .add 3 77 1,
 zM 77 88]
def p6c44 := sq (.region (some ([8, 75, 76, 77], [1, 8, 12, 400064], [])) false p6o31) (sq (.cond 78 (.skip) (.exit 2)) (sq (.block 3 (sq (rg p6o35) (sq (rg p6o36) (rg p6o37)))) (rg p6o41)))
def p6o48 := [zo 89 (.gcall false false [8, 300000, 300001, 300002, 300003, 300004, 300005, 300006, 300007, 400064] [[(1, 1)]] 20 [8]),
 zK 90 .gtr 3 89 40000]
def p6o49 := [zo 2 (.mv (.const (ks))),
 zM 3 (kk 13)]
def p6o55 := [zo 91 (.gcall false false [8, 300000, 300001, 300002, 300003, 300004, 300005, 300006, 300007, 400064] [[(1, 1)]] 22 [8]),
 zo 92 (.call true [[]] 21 [91]),
 zM 2 92,
 zM 3 (kk 0)]
def p6c58 := sq (sq (rg p6o48) (.cond 90 (sq (rg p6o49) (rt)) (.skip))) (sq (rg p6o55) (rt))
def p6c60 := sq (rg p6o29) (sq (sq (rg p6o30) (.block 2 (.loop p6c44))) p6c58)
def p6c67 := sq (rg p6o1) (sq (sq (rg p6o2) (.cond 17 (sq (rg p6o3) (rt)) (.skip))) (sq (rg p6o9) (sq (rg p6o10) (sq (rg p6o11) (sq (rh p6o12) (sq (sq (rg p6o13) (.block 0 (.loop p6c25))) p6c60))))))
def pc6_r : List PRes := [PRes.tmp 2 [], PRes.tmp 3 []]
def pc6 : PFunc := ⟨93, pc6_r, p6c67, false⟩
def pc6_a : Ann := {
 kr := fun
  | 8 => some ([1, 8, 51, 52, 53], [1, 8, 10, 400064], [])
  | 14 => some ([8, 75, 76, 77], [1, 8, 12, 400064], [])
  | _ => none
 ka := fun _ => 0
 kh := hg [([1, 30], .at_ 1 0), ([4, 6, 31, 32, 33, 35, 36, 37, 38, 39, 40, 41, 42, 44, 45, 46, 47, 48, 58, 59, 60, 62, 63, 64, 65], .imm), ([8], .at_ 8 0), ([10, 57], .at_ 10 0), ([34], .at_ 1 1), ([43], .at_ 1 3), ([61], .at_ 10 1)]
 gf := fun d f => match d, f with
  | some 49, 17 => some (false, false, [8, 300000, 300001, 300002, 300003, 300004, 300005, 300006, 300007, 400064])
  | some 66, 17 => some (false, false, [8, 300000, 300001, 300002, 300003, 300004, 300005, 300006, 300007, 400064])
  | some 73, 17 => some (false, false, [8, 300000, 300001, 300002, 300003, 300004, 300005, 300006, 300007, 400064])
  | some 87, 17 => some (false, false, [8, 300000, 300001, 300002, 300003, 300004, 300005, 300006, 300007, 400064])
  | some 89, 20 => some (false, false, [8, 300000, 300001, 300002, 300003, 300004, 300005, 300006, 300007, 400064])
  | some 91, 22 => some (false, false, [8, 300000, 300001, 300002, 300003, 300004, 300005, 300006, 300007, 400064])
  | _, _ => none
 ow := ow0
 tc := tc1 }
theorem pc6_ok : compFn Tryz.prog pc6_a Tryz.f6 = some pc6 := by kernel_rfl
def p82o1 := [zo 2 (.mv (.const (.int .u64 0))),
 zM 3 (kk 0),
 zM 4 (kk 0)]
def p82o2 := [zo 5 (.mv (.const (.int .u64 0))),
 zM 6 (kk 0)]
def p82o4 := [zM 9 0,
 zo 10 (.s2b 5 9),
 zo 11 (.lenS 10),
 zM 12 (kk 0)]
def p82o5 := [zB 13 .lss 3 12 11]
def p82o9 := [zM 14 12,
 zo 15 (.iaddrS 1 10 12),
 zL 16 15,
 zM 7 14,
 zM 8 16]
def p82o10 := [zM 18 7,
 zK 19 .eql 3 18 9,
 zM 20 19,
 zt 21 20 (.mv 8),
 zt 22 20 (.prim (.bin .gtr 5 false true) [21, .const (.int .u8 1)]),
 zo 23 (.pick 20 22 kf),
 zM 17 23]
def p82o12 := [zM 24 7,
 zK 25 .gtr 3 24 0,
 zM 26 25,
 zt 27 26 (.mv 8),
 zt 28 26 (.prim (.bin .eql 5 false true) [27, .const (.int .u8 0)]),
 zo 29 (.pick 26 28 kf),
 zM 17 29]
def p82c12 : PCode := .region (some ([5, 6, 7, 8, 10, 11, 12], [], [])) false p82o12
def p82o15 := [zo 2 (.mv (.const (.int .u64 0))),
 zM 3 (kk 0),
 zM 4 (kk 11)]
def p82o18 := [zM 31 8,
 zo 32 (.prim (.bin .lss 5 false true) [31, .const (.int .u8 128)]),
 zM 30 32]
def p82o19 := [zM 33 5,
 zM 34 8,
 zo 35 (.prim (.conv 5 67) [34]),
 zM 36 7,
 zo 37 (.prim (.bin .mul 3 true false) [kk 7, 36]),
 zB 38 .shl 67 35 37,
 zB 39 .or 67 33 38,
 zM 5 39]
def p82o20 := [zM 40 7,
 zK 41 .add 3 40 1,
 zM 6 41]
def p82c26 := sq (.region (some ([5, 6, 7, 8, 10, 11, 12], [], [])) false p82o18) (.cond 30 (sq (rg p82o19) (sq (rg p82o20) (.exit 0))) (.skip))
def p82c27 : PCode := .cond 17 (sq (rg p82o15) (rt)) p82c26
def p82o30 := [zM 42 5,
 zM 43 8,
 zo 44 (.prim (.bin .andNot 5 false true) [43, .const (.int .u8 128)]),
 zo 45 (.prim (.conv 5 67) [44]),
 zM 46 7,
 zo 47 (.prim (.bin .mul 3 true false) [kk 7, 46]),
 zB 48 .shl 67 45 47,
 zB 49 .or 67 42 48,
 zM 5 49]
def p82c30 := rg p82o30
def p82o34 := [zK 50 .add 3 12 1,
 zM 12 50]
def p82c34 := rg p82o34
def p82c37 := sq (.region (some ([5, 6, 10, 11, 12], [], [])) false p82o5) (sq (.cond 13 (.skip) (.exit 0)) (sq (.block 1 (sq (rg p82o9) (sq (.block 2 (sq (sq (rg p82o10) (.cond 17 (.skip) p82c12)) p82c27)) p82c30))) p82c34))
def p82o41 := [zM 51 6,
 zK 52 .eql 3 51 0]
def p82o42 := [zo 2 (.mv (.const (.int .u64 0))),
 zM 3 (kk 0),
 zM 4 (kk 10)]
def p82o48 := [zM 53 5,
 zM 54 6,
 zM 2 53,
 zM 3 54,
 zM 4 (kk 0)]
def p82c51 := sq (sq (.region (some ([5, 6], [], [])) false p82o41) (.cond 52 (sq (rg p82o42) (rt)) (.skip))) (sq (rg p82o48) (rt))
def p82c56 := sq (rg p82o1) (.scope (sq (rg p82o2) (sq (.label) (sq (sq (rg p82o4) (.block 0 (.loop p82c37))) p82c51))))
def pc82_r : List PRes := [PRes.tmp 2 [], PRes.tmp 3 [], PRes.tmp 4 []]
def pc82 : PFunc := ⟨55, pc82_r, p82c56, false⟩
def pc82_a : Ann := {
 kr := fun
  | 3 => some ([5, 6, 10, 11, 12], [], [])
  | 6 => some ([5, 6, 7, 8, 10, 11, 12], [], [])
  | 8 => some ([5, 6, 7, 8, 10, 11, 12], [], [])
  | 13 => some ([5, 6], [], [])
  | _ => none
 ka := fun _ => 0
 kh := fun _ => none
 ow := ow0
 tc := tc1 }
theorem pc82_ok : compFn Tryz.prog pc82_a Tryz.f82 = some pc82 := by kernel_rfl
def p56o1 := [zo 4 (.mv (.const (ks))),
 zM 5 (kk 0),
 zM 6 (kk 0)]
def p56o2 := [zM 12 0,
 zo 13 (.call true [[]] 82 [12]),
 zM 11 13,
 zX 14 11 0,
 zX 15 11 1,
 zX 16 11 2,
 zM 7 14,
 zM 8 15,
 zM 9 16]
def p56o3 := [zM 18 9,
 zK 19 .neq 30 18 0,
 zM 17 19]
def p56o4 := [zM 20 9,
 zo 4 (.mv (.const (ks))),
 zM 5 (kk 0),
 zM 6 20]
def p56o7 := [zM 22 7,
 zM 23 1,
 zo 24 (.prim .max [23, kk 0]),
 zo 25 (.prim (.conv 3 67) [24]),
 zB 26 .gtr 67 22 25,
 zM 21 26]
def p56o8 := [zo 4 (.mv (.const (ks))),
 zM 5 (kk 0),
 zM 6 (kk 13)]
def p56o11 := [zM 28 7,
 zM 29 0,
 zo 30 (.prim (.len 9) [29]),
 zM 31 8,
 zB 32 .sub 3 30 31,
 zo 33 (.prim (.conv 3 67) [32]),
 zB 34 .gtr 67 28 33,
 zM 27 34]
def p56o12 := [zo 4 (.mv (.const (ks))),
 zM 5 (kk 0),
 zM 6 (kk 10)]
def p56o23 := [zM 35 8,
 zM 36 7,
 zo 37 (.prim (.conv 67 3) [36]),
 zB 38 .add 3 35 37,
 zM 10 38]
def p56o24 := [zM 39 0,
 zM 40 8,
 zM 41 10,
 zo 42 (.prim (.slice 9 true true) [39, 40, 41]),
 zM 43 10,
 zM 4 42,
 zM 5 43,
 zM 6 (kk 0)]
def p56c30 := sq (rg p56o1) (sq (rg p56o2) (sq (.block 0 (sq (rg p56o3) (.cond 17 (sq (rg p56o4) (rt)) (sq (rg p56o7) (.cond 21 (sq (rg p56o8) (rt)) (sq (rg p56o11) (.cond 27 (sq (rg p56o12) (rt)) (.skip)))))))) (sq (rg p56o23) (sq (rg p56o24) (rt)))))
def pc56_r : List PRes := [PRes.tmp 4 [], PRes.tmp 5 [], PRes.tmp 6 []]
def pc56 : PFunc := ⟨44, pc56_r, p56c30, false⟩
def pc56_a : Ann := {
 kr := fun _ => none
 ka := fun _ => 0
 kh := fun _ => none
 ow := ow0
 tc := tc1 }
theorem pc56_ok : compFn Tryz.prog pc56_a Tryz.f56 = some pc56 := by kernel_rfl
def p27o1 := [zo 2 (.mv (.const (ks))),
 zM 3 (kk 0),
 zM 4 (kk 0)]
def p27o2 := [zM 9 0,
 zo 10 (.call true [[], []] 56 [9, kk 40000]),
 zM 8 10,
 zX 11 8 0,
 zX 12 8 1,
 zX 13 8 2,
 zM 5 11,
 zM 6 12,
 zM 7 13]
def p27o3 := [zM 15 7,
 zK 16 .neq 30 15 0,
 zM 14 16]
def p27o4 := [zM 17 7,
 zo 2 (.mv (.const (ks))),
 zM 3 (kk 0),
 zM 4 17]
def p27o7 := [zM 19 0,
 zo 20 (.prim (.len 9) [19]),
 zM 21 6,
 zB 22 .sub 3 20 21,
 zK 23 .lss 3 22 4,
 zM 18 23]
def p27o8 := [zo 2 (.mv (.const (ks))),
 zM 3 (kk 0),
 zM 4 (kk 10)]
def p27o11 := [zi 25 0 (.mv 0),
 zi 26 6 (.mv 6),
 zi 27 6 (.mv 6),
 zi 28 27 (.prim (.bin .add 3 false true) [27, kk 4]),
 ⟨some 29, .prim (.slice 9 true true) [25, 26, 28], none, [(25, .imm), (26, .imm), (28, .imm)]⟩,
 zi 30 5 (.mv 5),
 zi 31 30 (.call false [[]] 47 [30]),
 zi 32 31 (.call false [[]] 46 [31]),
 zj 33 29 32 (.prim (.bin .neq 9 false false) [29, 32]),
 zi 24 33 (.mv 33)]
def p27o12 := [zo 2 (.mv (.const (ks))),
 zM 3 (kk 0),
 zM 4 (kk 12)]
def p27o23 := [zM 34 5,
 zM 35 6,
 zK 36 .add 3 35 4,
 zM 2 34,
 zM 3 36,
 zM 4 (kk 0)]
def p27c28 := sq (rg p27o1) (sq (rg p27o2) (sq (.block 0 (sq (rg p27o3) (.cond 14 (sq (rg p27o4) (rt)) (sq (rg p27o7) (.cond 18 (sq (rg p27o8) (rt)) (sq (rh p27o11) (.cond 24 (sq (rg p27o12) (rt)) (.skip)))))))) (sq (rg p27o23) (rt))))
def pc27_r : List PRes := [PRes.tmp 2 [], PRes.tmp 3 [], PRes.tmp 4 []]
def pc27 : PFunc := ⟨37, pc27_r, p27c28, false⟩
def pc27_a : Ann := {
 kr := fun _ => none
 ka := fun _ => 0
 kh := hg [([0, 5, 6, 25, 26, 27, 28, 29, 30, 31, 32, 33], .imm)]
 ow := ow0
 tc := tc1 }
theorem pc27_ok : compFn Tryz.prog pc27_a Tryz.f27 = some pc27 := by kernel_rfl
def p60o1 := [zM 6 0,
 zo 7 (.nilc 6),
 zG 8 1 7,
 zL 9 8,
 zM 10 1,
 zB 11 .add 3 9 10,
 zo 12 (.nilc 6),
 zG 13 1 12,
 zs (.store 1 13 11)]
def p60o2 := [zM 14 0,
 zM 15 0,
 zo 16 (.nilc 15),
 zG 17 2 16,
 zL 18 17,
 zM 19 18,
 zf 20 19 (.mv 2),
 zf 21 19 (.prim (.bin .neq 30 false true) [20, kk 0]),
 zo 22 (.pick 19 kt 21),
 zo 23 (.nilc 14),
 zG 24 2 23,
 zs (.store 1 24 22)]
def p60c3 := sq (rg p60o1) (rg p60o2)
def pc60_r : List PRes := []
def pc60 : PFunc := ⟨25, pc60_r, p60c3, false⟩
def pc60_a : Ann := {
 kr := fun _ => none
 ka := fun _ => 0
 kh := fun _ => none
 ow := ow0
 tc := tc1 }
theorem pc60_ok : compFn Tryz.prog pc60_a Tryz.f60 = some pc60 := by kernel_rfl
def p57o1 := [zM 4 (kk 0)]
def p57o2 := [zM 8 0,
 zo 9 (.nilc 8),
 zG 10 2 9,
 zL 11 10]
def p57o3 := [zM 4 (kk 0)]
def p57o9 := [za 13 0 1000000 0 (.mv 0),
 za 14 13 1000000 0 (.nilc 13),
 za 15 14 1000000 0 (.faddr 0 14),
 za 16 15 1000000 0 (.load false 1 15),
 za 17 0 1000000 0 (.mv 0),
 za 18 17 1000000 0 (.nilc 17),
 za 19 18 1000000 0 (.faddr 1 18),
 za 20 19 1000000 1 (.load false 1 19),
 zj 21 16 20 (.prim (.slice 9 true false) [16, 20]),
 zi 22 21 (.call false [[]] 82 [21]),
 zM 12 22,
 zX 23 12 0,
 zX 24 12 1,
 zX 25 12 2,
 zi 5 23 (.mv 23),
 zi 6 24 (.mv 24),
 zi 7 25 (.mv 25)]
def p57o10 := [zM 26 0,
 zM 27 6,
 zM 28 7,
 zo 29 (.call true [[], [], []] 60 [26, 27, 28])]
def p57o11 := [zM 30 5,
 zM 31 1,
 zB 32 .gtr 67 30 31]
def p57o12 := [zM 33 0,
 zo 34 (.nilc 33),
 zG 35 2 34,
 zs (.store 1 35 kt)]
def p57o13 := [zM 4 (kk 0)]
def p57o20 := [zM 36 5,
 zo 37 (.prim (.conv 67 3) [36]),
 zM 4 37]
def p57c27 := sq (rg p57o1) (sq (sq (rg p57o2) (.cond 11 (sq (rg p57o3) (rt)) (.skip))) (sq (rh p57o9) (sq (rg p57o10) (sq (sq (rg p57o11) (.cond 32 (sq (rg p57o12) (sq (rg p57o13) (rt))) (.skip))) (sq (rg p57o20) (rt))))))
def pc57_r : List PRes := [PRes.tmp 4 []]
def pc57 : PFunc := ⟨38, pc57_r, p57c27, false⟩
def pc57_a : Ann := {
 kr := fun _ => none
 ka := fun _ => 0
 kh := hg [([0, 13, 14, 15, 17, 18], .at_ 1000000 0), ([16, 20, 21, 23, 24, 25], .imm), ([19], .at_ 1000000 1)]
 ow := ow0
 tc := tc1 }
theorem pc57_ok : compFn Tryz.prog pc57_a Tryz.f57 = some pc57 := by kernel_rfl
def p102o1 := [zM 6 0,
 zo 7 (.nilc 6),
 zG 8 1 7,
 zL 9 8,
 zM 10 1,
 zB 11 .add 3 9 10,
 zo 12 (.nilc 6),
 zG 13 1 12,
 zs (.store 1 13 11)]
def p102o2 := [zM 14 0,
 zM 15 2,
 zo 16 (.nilc 14),
 zG 17 2 16,
 zs (.store 1 17 15)]
def p102c3 := sq (rg p102o1) (rg p102o2)
def pc102_r : List PRes := []
def pc102 : PFunc := ⟨18, pc102_r, p102c3, false⟩
def pc102_a : Ann := {
 kr := fun _ => none
 ka := fun _ => 0
 kh := fun _ => none
 ow := ow0
 tc := tc1 }
theorem pc102_ok : compFn Tryz.prog pc102_a Tryz.f102 = some pc102 := by kernel_rfl
def p100o1 := [zM 2 (kk 0)]
def p100o2 := [zM 6 0,
 zo 7 (.nilc 6),
 zG 8 2 7,
 zL 9 8,
 zK 10 .neq 30 9 0]
def p100o3 := [zM 2 (kk 0)]
def p100o9 := [za 12 0 1000000 0 (.mv 0),
 za 13 12 1000000 0 (.nilc 12),
 za 14 13 1000000 0 (.faddr 0 13),
 za 15 14 1000000 0 (.load false 1 14),
 za 16 0 1000000 0 (.mv 0),
 za 17 16 1000000 0 (.nilc 16),
 za 18 17 1000000 0 (.faddr 1 17),
 za 19 18 1000000 1 (.load false 1 18),
 zj 20 15 19 (.prim (.slice 9 true false) [15, 19]),
 zi 21 20 (.call false [[]] 82 [20]),
 zM 11 21,
 zX 22 11 0,
 zX 23 11 1,
 zX 24 11 2,
 zi 3 22 (.mv 22),
 zi 4 23 (.mv 23),
 zi 5 24 (.mv 24)]
def p100o10 := [zM 25 0,
 zM 26 4,
 zM 27 5,
 zo 28 (.call true [[], [], []] 102 [25, 26, 27])]
def p100o11 := [zM 29 3,
 zo 30 (.prim .min [29, .const (.int .u64 1000001)]),
 zo 31 (.prim (.conv 67 3) [30]),
 zM 2 31]
def p100c17 := sq (rg p100o1) (sq (sq (rg p100o2) (.cond 10 (sq (rg p100o3) (rt)) (.skip))) (sq (rh p100o9) (sq (rg p100o10) (sq (rg p100o11) (rt)))))
def pc100_r : List PRes := [PRes.tmp 2 []]
def pc100 : PFunc := ⟨32, pc100_r, p100c17, false⟩
def pc100_a : Ann := {
 kr := fun _ => none
 ka := fun _ => 0
 kh := hg [([0, 12, 13, 14, 16, 17], .at_ 1000000 0), ([15, 19, 20, 22, 23, 24], .imm), ([18], .at_ 1000000 1)]
 ow := ow0
 tc := tc1 }
theorem pc100_ok : compFn Tryz.prog pc100_a Tryz.f100 = some pc100 := by kernel_rfl
def p95o1 := [zM 2 (kk 0)]
def p95o2 := [zM 3 0,
 zo 4 (.prim (.bin .shr 67 false true) [3, .const (.int .u64 1)]),
 zo 5 (.prim (.conv 67 2) [4]),
 zM 6 0,
 zo 7 (.prim (.bin .and 67 false true) [6, .const (.int .u64 1)]),
 zo 8 (.prim (.conv 67 2) [7]),
 zo 9 (.prim (.un .neg) [8]),
 zB 10 .xor 2 5 9,
 zM 2 10]
def p95c5 := sq (rg p95o1) (sq (rg p95o2) (rt))
def pc95_r : List PRes := [PRes.tmp 2 []]
def pc95 : PFunc := ⟨11, pc95_r, p95c5, false⟩
def pc95_a : Ann := {
 kr := fun _ => none
 ka := fun _ => 0
 kh := fun _ => none
 ow := ow0
 tc := tc1 }
theorem pc95_ok : compFn Tryz.prog pc95_a Tryz.f95 = some pc95 := by kernel_rfl
def p85o1 := [zM 2 (kk 0),
 zM 3 (kk 0),
 zM 4 (kk 0)]
def p85o2 := [zM 9 0,
 zo 10 (.call true [[]] 82 [9]),
 zM 8 10,
 zX 11 8 0,
 zX 12 8 1,
 zX 13 8 2,
 zM 5 11,
 zM 6 12,
 zM 7 13]
def p85o3 := [zM 14 5,
 zo 15 (.call true [[]] 95 [14]),
 zM 16 6,
 zM 17 7,
 zM 2 15,
 zM 3 16,
 zM 4 17]
def p85c7 := sq (rg p85o1) (sq (rg p85o2) (sq (rg p85o3) (rt)))
def pc85_r : List PRes := [PRes.tmp 2 [], PRes.tmp 3 [], PRes.tmp 4 []]
def pc85 : PFunc := ⟨18, pc85_r, p85c7, false⟩
def pc85_a : Ann := {
 kr := fun _ => none
 ka := fun _ => 0
 kh := fun _ => none
 ow := ow0
 tc := tc1 }
theorem pc85_ok : compFn Tryz.prog pc85_a Tryz.f85 = some pc85 := by kernel_rfl
def p101o1 := [zo 2 (.alloc 44 (.agg #[ki, ks]) [])]
def p101o2 := [zo 3 (.alloc 44 (.agg #[ki, ks]) [])]
def p101o3 := [zM 10 0,
 zo 11 (.nilc 10),
 zG 12 2 11,
 zL 13 12,
 zK 14 .neq 30 13 0]
def p101o4 := [zo 15 (.load true 2 3),
 zs (.store 2 2 15)]
def p101o10 := [za 17 0 1000000 0 (.mv 0),
 za 18 17 1000000 0 (.nilc 17),
 za 19 18 1000000 0 (.faddr 0 18),
 za 20 19 1000000 0 (.load false 1 19),
 za 21 0 1000000 0 (.mv 0),
 za 22 21 1000000 0 (.nilc 21),
 za 23 22 1000000 0 (.faddr 1 22),
 za 24 23 1000000 1 (.load false 1 23),
 zj 25 20 24 (.prim (.slice 9 true false) [20, 24]),
 zi 26 25 (.call false [[], []] 56 [25, kk 12]),
 zM 16 26,
 zX 27 16 0,
 zX 28 16 1,
 zX 29 16 2,
 zi 4 27 (.mv 27),
 zi 5 28 (.mv 28),
 zi 6 29 (.mv 29)]
def p101o11 := [zM 30 0,
 zM 31 5,
 zM 32 6,
 zo 33 (.call true [[], [], []] 102 [30, 31, 32])]
def p101o12 := [zM 34 4,
 zG 35 1 3,
 zs (.store 1 35 34)]
def p101o13 := [zM 36 4,
 zo 37 (.prim (.bin .eql 9 false true) [36, .const (ks)]),
 zM 38 37,
 zt 39 38 (.mv 6),
 zt 40 38 (.prim (.bin .eql 30 false true) [39, kk 0]),
 zo 41 (.pick 38 40 kf)]
def p101o14 := [za 43 0 1000000 0 (.mv 0),
 za 44 43 1000000 0 (.nilc 43),
 za 45 44 1000000 0 (.faddr 0 44),
 za 46 45 1000000 0 (.load false 1 45),
 za 47 0 1000000 0 (.mv 0),
 za 48 47 1000000 0 (.nilc 47),
 za 49 48 1000000 0 (.faddr 1 48),
 za 50 49 1000000 1 (.load false 1 49),
 zj 51 46 50 (.prim (.slice 9 true false) [46, 50]),
 zi 52 51 (.call false [[]] 85 [51]),
 zM 42 52,
 zX 53 42 0,
 zX 54 42 1,
 zX 55 42 2,
 zi 7 53 (.mv 53),
 zi 8 54 (.mv 54),
 zi 9 55 (.mv 55)]
def p101o15 := [zM 56 0,
 zM 57 8,
 zM 58 9,
 zo 59 (.call true [[], [], []] 102 [56, 57, 58])]
def p101o16 := [zM 60 7,
 zG 61 0 3,
 zs (.store 1 61 60)]
def p101o23 := [zo 62 (.load true 2 3),
 zs (.store 2 2 62)]
def p101c31 := sq (rg p101o1) (sq (rg p101o2) (sq (sq (rg p101o3) (.cond 14 (sq (rg p101o4) (rt)) (.skip))) (sq (rh p101o10) (sq (rg p101o11) (sq (sq (rg p101o12) (sq (rg p101o13) (.cond 41 (sq (rh p101o14) (sq (rg p101o15) (rg p101o16))) (.skip)))) (sq (rg p101o23) (rt)))))))
def pc101_r : List PRes := [PRes.cell 2 true 2 []]
def pc101 : PFunc := ⟨63, pc101_r, p101c31, false⟩
def pc101_a : Ann := {
 kr := fun _ => none
 ka := fun _ => 0
 kh := hg [([0, 17, 18, 19, 21, 22, 43, 44, 45, 47, 48], .at_ 1000000 0), ([20, 24, 25, 27, 28, 29, 46, 50, 51, 53, 54, 55], .imm), ([23, 49], .at_ 1000000 1)]
 ow := ow0
 tc := tc1 }
theorem pc101_ok : compFn Tryz.prog pc101_a Tryz.f101 = some pc101 := by kernel_rfl
def p98o1 := [zo 2 (.alloc 121 (.agg #[ki, .int .u8 0, ki, ki, ki, ks, ki, ks, ki, ks, ki, ks]) []),
 zM 3 (kk 0),
 zM 4 (kk 0)]
def p98o2 := [zM 9 0,
 zo 10 (.build (.agg #[ks, ki, ki]) [(0, 1, .tmp 9)]),
 zo 11 (.box 154 10 []),
 zM 5 11]
def p98o3 := [zM 12 5,
 zo 13 (.call true [[]] 100 [12]),
 zo 14 (.build (.agg #[ki, .int .u8 0, ki, ki, ki, ks, ki, ks, ki, ks, ki, ks]) [(0, 1, .tmp 13)]),
 zo 6 (.alloc 121 (.agg #[ki, .int .u8 0, ki, ki, ki, ks, ki, ks, ki, ks, ki, ks]) []),
 zs (.store 12 6 14)]
def p98o4 := [zM 15 5,
 zo 16 (.call true [[]] 100 [15]),
 zM 7 16]
def p98o5 := [zM 17 5,
 zo 18 (.nilc 17),
 zG 19 2 18,
 zL 20 19,
 zK 21 .eql 30 20 0,
 zM 22 21,
 zt 23 22 (.faddr 0 6),
 zt 24 22 (.load false 1 23),
 zt 25 22 (.prim (.bin .gtr 3 false true) [24, kk 1000000]),
 zt 26 22 (.mv 25),
 zf 27 26 (.mv 7),
 zf 28 26 (.prim (.bin .eql 3 false true) [27, kk 0]),
 zt 29 22 (.pick 26 kt 28),
 zt 30 22 (.mv 29),
 zf 31 30 (.mv 7),
 zf 32 30 (.prim (.bin .gtr 3 false true) [31, kk 31]),
 zt 33 22 (.pick 30 kt 32),
 zo 34 (.pick 22 33 kf)]
def p98o6 := [zo 35 (.build (.agg #[ki, .int .u8 0, ki, ki, ki, ks, ki, ks, ki, ks, ki, ks]) []),
 zs (.store 12 2 35),
 zM 3 (kk 0),
 zM 4 (kk 11)]
def p98o12 := [zM 36 7,
 zo 37 (.prim (.conv 3 5) [36]),
 zG 38 1 6,
 zs (.store 1 38 37)]
def p98o13 := [zG 39 1 6,
 zL 40 39,
 zo 41 (.prim (.bin .and 5 false true) [40, .const (.int .u8 1)]),
 zo 42 (.prim (.bin .neq 5 false true) [41, .const (.int .u8 0)])]
def p98o14 := [zM 43 5,
 zo 44 (.call true [[]] 100 [43]),
 zG 45 2 6,
 zG 46 0 45,
 zs (.store 1 46 44)]
def p98o15 := [zM 47 5,
 zo 48 (.call true [[]] 100 [47]),
 zG 49 2 6,
 zG 50 1 49,
 zs (.store 1 50 48)]
def p98o22 := [zM 51 (kk 0)]
def p98o23 := [zK 52 .lss 3 51 4]
def p98o27 := [zM 53 51,
 zM 8 53]
def p98o28 := [zM 55 5,
 zo 56 (.nilc 55),
 zG 57 2 56,
 zL 58 57,
 zK 59 .neq 30 58 0,
 zM 54 59]
def p98o30 := [zG 61 1 6,
 zL 62 61,
 zM 63 8,
 zo 64 (.call true [[], []] 93 [62, 63]),
 zM 60 64]
def p98o31 := [zM 65 8,
 zM 66 5,
 zo 67 (.call true [[]] 101 [66]),
 zG 68 4 6,
 zo 69 (.iaddrA 4 2 68 65),
 zs (.store 2 69 67)]
def p98o40 := [zK 70 .add 3 51 1,
 zM 51 70]
def p98c43 := sq (.region (some ([2, 5, 6, 51], [2, 6, 11], [])) false p98o23) (sq (.cond 52 (.skip) (.exit 0)) (sq (.block 1 (sq (rg p98o27) (.block 2 (sq (rg p98o28) (.cond 54 (.exit 0) (sq (rg p98o30) (.cond 60 (rg p98o31) (.skip)))))))) (rg p98o40)))
def p98o47 := [zM 71 5,
 zo 72 (.nilc 71),
 zG 73 2 72,
 zL 74 73,
 zK 75 .neq 30 74 0]
def p98o48 := [zo 76 (.build (.agg #[ki, .int .u8 0, ki, ki, ki, ks, ki, ks, ki, ks, ki, ks]) []),
 za 77 5 11 0 (.mv 5),
 za 78 77 11 0 (.nilc 77),
 za 79 78 11 0 (.faddr 2 78),
 za 80 79 11 2 (.load false 1 79),
 zn (.store 12 2 76) [(2, .at_ 2 0), (76, .imm)],
 zM 3 (kk 0),
 zi 4 80 (.mv 80)]
def p98o54 := [zo 81 (.load true 12 6),
 zo 82 (.call true [[]] 92 [81]),
 zo 83 (.prim (.un .not) [82])]
def p98o55 := [zo 84 (.build (.agg #[ki, .int .u8 0, ki, ki, ki, ks, ki, ks, ki, ks, ki, ks]) []),
 zs (.store 12 2 84),
 zM 3 (kk 0),
 zM 4 (kk 11)]
def p98o61 := [za 85 6 6 0 (.load true 12 6),
 za 86 5 11 0 (.mv 5),
 za 87 86 11 0 (.nilc 86),
 za 88 87 11 0 (.faddr 1 87),
 za 89 88 11 1 (.load false 1 88),
 zn (.store 12 2 85) [(2, .at_ 2 0), (85, .imm)],
 zi 3 89 (.mv 89),
 zM 4 (kk 0)]
def p98c65 := sq (sq (.region (some ([2, 5, 6], [2, 6, 11], [])) false p98o47) (.cond 75 (sq (rh p98o48) (rt)) (.skip))) (sq (sq (rg p98o54) (.cond 83 (sq (rg p98o55) (rt)) (.skip))) (sq (rh p98o61) (rt)))
def p98c68 := sq (sq (.region (some ([2, 5, 6, 7], [2, 6, 11], [])) false p98o12) (sq (rg p98o13) (.cond 42 (sq (rg p98o14) (rg p98o15)) (.skip)))) (sq (.label) (sq (sq (rg p98o22) (.block 0 (.loop p98c43))) p98c65))
def p98c74 := sq (rg p98o1) (.scope (sq (rg p98o2) (sq (rg p98o3) (sq (rg p98o4) (sq (sq (rg p98o5) (.cond 34 (sq (rg p98o6) (rt)) (.skip))) p98c68)))))
def pc98_r : List PRes := [PRes.cell 2 true 12 [], PRes.tmp 3 [], PRes.tmp 4 []]
def pc98 : PFunc := ⟨90, pc98_r, p98c74, false⟩
def pc98_a : Ann := {
 kr := fun
  | 6 => some ([2, 5, 6, 7], [2, 6, 11], [])
  | 11 => some ([2, 5, 6, 51], [2, 6, 11], [])
  | 17 => some ([2, 5, 6], [2, 6, 11], [])
  | _ => none
 ka := fun _ => 0
 kh := hg [([2], .at_ 2 0), ([5, 77, 78, 86, 87], .at_ 11 0), ([6], .at_ 6 0), ([76, 80, 85, 89], .imm), ([79], .at_ 11 2), ([88], .at_ 11 1)]
 ow := ow0
 tc := tc1 }
theorem pc98_ok : compFn Tryz.prog pc98_a Tryz.f98 = some pc98 := by kernel_rfl
def p94o1 := [zo 2 (.alloc 47 (.agg #[ki, ki, ki, ki, ks, ki, ks, ki, ks, ki, ks]) []),
 zM 3 (kk 0),
 zM 4 (kk 0)]
def p94o2 := [zM 9 0,
 zo 10 (.call true [[]] 98 [9]),
 zM 8 10,
 zX 11 8 0,
 zX 12 8 1,
 zX 13 8 2,
 zo 5 (.alloc 121 (.agg #[ki, .int .u8 0, ki, ki, ki, ks, ki, ks, ki, ks, ki, ks]) []),
 zs (.store 12 5 11),
 zM 6 12,
 zM 7 13]
def p94o3 := [zM 15 7,
 zK 16 .neq 30 15 0,
 zM 14 16]
def p94o4 := [zo 17 (.build (.agg #[ki, ki, ki, ki, ks, ki, ks, ki, ks, ki, ks]) []),
 zM 18 7,
 zs (.store 11 2 17),
 zM 3 (kk 0),
 zM 4 18]
def p94o7 := [zG 20 1 5,
 zL 21 20,
 zo 22 (.prim (.bin .neq 5 false true) [21, .const (.int .u8 31)]),
 zM 19 22]
def p94o8 := [zo 23 (.build (.agg #[ki, ki, ki, ki, ks, ki, ks, ki, ks, ki, ks]) []),
 zs (.store 11 2 23),
 zM 3 (kk 0),
 zM 4 (kk 11)]
def p94o17 := [zG 24 0 5,
 zL 25 24,
 zG 26 2 5,
 zo 27 (.load true 2 26),
 zG 28 4 5,
 zo 29 (.load true 8 28),
 zo 30 (.build (.agg #[ki, ki, ki, ki, ks, ki, ks, ki, ks, ki, ks]) [(0, 1, .tmp 25), (1, 2, .tmp 27), (3, 8, .tmp 29)]),
 zM 31 6,
 zs (.store 11 2 30),
 zM 3 31,
 zM 4 (kk 0)]
def p94c22 := sq (rg p94o1) (sq (rg p94o2) (sq (.block 0 (sq (rg p94o3) (.cond 14 (sq (rg p94o4) (rt)) (sq (rg p94o7) (.cond 19 (sq (rg p94o8) (rt)) (.skip)))))) (sq (rg p94o17) (rt))))
def pc94_r : List PRes := [PRes.cell 2 true 11 [], PRes.tmp 3 [], PRes.tmp 4 []]
def pc94 : PFunc := ⟨32, pc94_r, p94c22, false⟩
def pc94_a : Ann := {
 kr := fun _ => none
 ka := fun _ => 0
 kh := fun _ => none
 ow := ow0
 tc := tc1 }
theorem pc94_ok : compFn Tryz.prog pc94_a Tryz.f94 = some pc94 := by kernel_rfl
def p83o1 := [zo 2 (.mv (.const (kl))),
 zM 3 (kk 0),
 zM 4 (kk 0)]
def p83o2 := [zM 13 0,
 zo 14 (.call true [[]] 82 [13]),
 zM 12 14,
 zX 15 12 0,
 zX 16 12 1,
 zX 17 12 2,
 zM 5 15,
 zM 6 16,
 zM 7 17]
def p83o3 := [zM 19 7,
 zK 20 .neq 30 19 0,
 zM 18 20]
def p83o4 := [zM 21 7,
 zo 2 (.mv (.const (kl))),
 zM 3 (kk 0),
 zM 4 21]
def p83o7 := [zM 23 5,
 zo 24 (.prim (.bin .gtr 67 false true) [23, .const (.int .u64 200)]),
 zM 22 24]
def p83o8 := [zo 2 (.mv (.const (kl))),
 zM 3 (kk 0),
 zM 4 (kk 13)]
def p83o17 := [zo 8 (.mv (.const (kl)))]
def p83o18 := [zM 25 5,
 zo 26 (.mv (.const (.int .u64 0)))]
def p83o19 := [zB 27 .lss 67 26 25]
def p83o23 := [zM 29 0,
 zM 30 6,
 zo 31 (.prim (.slice 9 true false) [29, 30]),
 zo 32 (.call true [[]] 94 [31]),
 zM 28 32,
 zX 33 28 0,
 zX 34 28 1,
 zX 35 28 2,
 zo 9 (.alloc 47 (.agg #[ki, ki, ki, ki, ks, ki, ks, ki, ks, ki, ks]) []),
 zs (.store 11 9 33),
 zM 10 34,
 zM 11 35]
def p83o24 := [zM 36 11,
 zK 37 .neq 30 36 0]
def p83o25 := [zM 38 11,
 zo 2 (.mv (.const (kl))),
 zM 3 (kk 0),
 zM 4 38]
def p83o31 : List POper := [⟨some 39, .mv 8, none, [(8, .obj 100008)]⟩,
 ⟨some 40, .lenS 39, none, [(39, .obj 100008)]⟩,
 zi 41 40 (.prim (.bin .gtr 3 false true) [40, kk 0]),
 zi 42 41 (.mv 41),
 ⟨some 43, .faddr 0 9, some (42, true), [(9, .at_ 9 0)]⟩,
 ⟨some 44, .load false 1 43, some (42, true), [(43, .at_ 9 0)]⟩,
 ⟨some 45, .mv 8, some (42, true), [(8, .obj 100008)]⟩,
 ⟨some 46, .mv 8, some (42, true), [(8, .obj 100008)]⟩,
 ⟨some 47, .lenS 46, some (42, true), [(46, .obj 100008)]⟩,
 ⟨some 48, .prim (.bin .sub 3 false true) [47, kk 1], some (42, true), [(47, .imm)]⟩,
 ⟨some 49, .iaddrS 11 45 48, some (42, true), [(45, .obj 100008), (48, .imm)]⟩,
 ⟨some 50, .faddr 0 49, some (42, true), [(49, .obj 100008)]⟩,
 ⟨some 51, .load false 1 50, some (42, true), [(50, .obj 100008)]⟩,
 ⟨some 52, .prim (.bin .leq 3 false false) [44, 51], some (42, true), [(44, .imm), (51, .imm)]⟩,
 zj 53 42 52 (.pick 42 52 kf)]
def p83o32 := [zo 2 (.mv (.const (kl))),
 zM 3 (kk 0),
 zM 4 (kk 11)]
def p83o38 := [zM 54 8,
 zo 55 (.load true 11 9),
 zo 56 (.bslice 47 11 [55]),
 zo 57 (.app 100008 47 11 120 54 56),
 zM 8 57]
def p83o39 := [zM 58 6,
 zM 59 10,
 zB 60 .add 3 58 59,
 zM 6 60]
def p83c40 := sq (.region (some ([0, 6, 8, 9, 10, 25, 26], [9, 100008], [])) false p83o38) (rg p83o39)
def p83o45 := [zo 61 (.prim (.bin .add 67 false true) [26, .const (.int .u64 1)]),
 zM 26 61]
def p83c45 := rg p83o45
def p83c48 := sq (.region (some ([0, 6, 8, 25, 26], [9, 100008], [(false, 8, 0, 100008, 47, 11)])) false p83o19) (sq (.cond 27 (.skip) (.exit 1)) (sq (.block 2 (sq (rg p83o23) (sq (sq (rg p83o24) (.cond 37 (sq (rg p83o25) (rt)) (.skip))) (sq (sq (rh p83o31) (.cond 53 (sq (rg p83o32) (rt)) (.skip))) p83c40)))) p83c45))
def p83o52 := [zM 62 8,
 zM 63 6,
 zM 2 62,
 zM 3 63,
 zM 4 (kk 0)]
def p83c54 := sq (rg p83o52) (rt)
def p83c59 := sq (rg p83o1) (sq (rg p83o2) (sq (.block 0 (sq (rg p83o3) (.cond 18 (sq (rg p83o4) (rt)) (sq (rg p83o7) (.cond 22 (sq (rg p83o8) (rt)) (.skip)))))) (sq (rg p83o17) (sq (sq (rg p83o18) (.block 1 (.loop p83c48))) p83c54))))
def pc83_r : List PRes := [PRes.tmp 2 [(0, 11)], PRes.tmp 3 [], PRes.tmp 4 []]
def pc83 : PFunc := ⟨64, pc83_r, p83c59, false⟩
def pc83_a : Ann := {
 kr := fun
  | 8 => some ([0, 6, 8, 25, 26], [9, 100008], [(false, 8, 0, 100008, 47, 11)])
  | 14 => some ([0, 6, 8, 9, 10, 25, 26], [9, 100008], [])
  | _ => none
 ka := fun
  | 57 => 100008
  | _ => 0
 kh := hg [([8, 39, 45, 46, 49, 50], .obj 100008), ([9, 43], .at_ 9 0), ([40, 41, 42, 44, 47, 48, 51, 52], .imm)]
 ow := ow0
 tc := tc1 }
theorem pc83_ok : compFn Tryz.prog pc83_a Tryz.f83 = some pc83 := by kernel_rfl
def p58o1 := [zo 2 (.mv (.const (kl)))]
def p58o2 := [zM 6 0,
 zo 7 (.nilc 6),
 zG 8 2 7,
 zL 9 8]
def p58o3 := [zo 2 (.mv (.const (kl)))]
def p58o9 := [za 11 0 1000000 0 (.mv 0),
 za 12 11 1000000 0 (.nilc 11),
 za 13 12 1000000 0 (.faddr 0 12),
 za 14 13 1000000 0 (.load false 1 13),
 za 15 0 1000000 0 (.mv 0),
 za 16 15 1000000 0 (.nilc 15),
 za 17 16 1000000 0 (.faddr 1 16),
 za 18 17 1000000 1 (.load false 1 17),
 zj 19 14 18 (.prim (.slice 9 true false) [14, 18]),
 zi 20 19 (.call false [[]] 83 [19]),
 zM 10 20,
 zX 21 10 0,
 zX 22 10 1,
 zX 23 10 2,
 zi 3 21 (.mv 21),
 zi 4 22 (.mv 22),
 zi 5 23 (.mv 23)]
def p58o10 := [zM 24 0,
 zM 25 4,
 zM 26 5,
 zo 27 (.call true [[], [], []] 60 [24, 25, 26])]
def p58o11 := [zM 28 3,
 zM 2 28]
def p58c17 := sq (rg p58o1) (sq (sq (rg p58o2) (.cond 9 (sq (rg p58o3) (rt)) (.skip))) (sq (rh p58o9) (sq (rg p58o10) (sq (rg p58o11) (rt)))))
def pc58_r : List PRes := [PRes.tmp 2 [(0, 11)]]
def pc58 : PFunc := ⟨29, pc58_r, p58c17, false⟩
def pc58_a : Ann := {
 kr := fun _ => none
 ka := fun _ => 0
 kh := hg [([0, 11, 12, 13, 15, 16], .at_ 1000000 0), ([14, 18, 19, 21, 22, 23], .imm), ([17], .at_ 1000000 1)]
 ow := ow0
 tc := tc1 }
theorem pc58_ok : compFn Tryz.prog pc58_a Tryz.f58 = some pc58 := by kernel_rfl
def p84o1 := [zM 2 (kk 0),
 zM 3 (kk 0)]
def p84o2 := [zL 8 0,
 zL 9 1,
 zo 10 (.prim (.slice 9 true false) [8, 9]),
 zo 11 (.call true [[]] 85 [10]),
 zM 7 11,
 zX 12 7 0,
 zX 13 7 1,
 zX 14 7 2,
 zM 4 12,
 zM 5 13,
 zM 6 14]
def p84o3 := [zL 15 1,
 zM 16 5,
 zB 17 .add 3 15 16,
 zs (.store 1 1 17)]
def p84o4 := [zM 18 4,
 zM 19 6,
 zM 2 18,
 zM 3 19]
def p84c9 := sq (rg p84o1) (sq (rg p84o2) (sq (rg p84o3) (sq (rg p84o4) (rt))))
def pc84_r : List PRes := [PRes.tmp 2 [], PRes.tmp 3 []]
def pc84 : PFunc := ⟨20, pc84_r, p84c9, false⟩
def pc84_a : Ann := {
 kr := fun _ => none
 ka := fun _ => 0
 kh := fun _ => none
 ow := ow0
 tc := tc1 }
theorem pc84_ok : compFn Tryz.prog pc84_a Tryz.f84 = some pc84 := by kernel_rfl
def p86o1 := [zM 3 (kk 0)]
def p86o2 := [zM 8 0,
 zo 9 (.lenS 8),
 zM 10 (kk 0)]
def p86o3 := [zB 11 .lss 3 10 9]
def p86o7 := [zo 12 (.iaddrS 1 8 10),
 zL 13 12,
 zM 5 13]
def p86o8 := [zL 15 1,
 zo 16 (.gcallv false false [300000, 300001, 300002, 300003, 300004, 300005, 300006, 300007, 1000003, 1000004] [] 15 []),
 zM 14 16,
 zX 17 14 0,
 zX 18 14 1,
 zM 6 17,
 zM 7 18]
def p86o9 := [zM 19 7,
 zK 20 .neq 30 19 0]
def p86o10 := [zM 21 7,
 zM 3 21]
def p86o16 := [zM 22 5,
 zM 23 6,
 zo 24 (.prim .max [23, .const (.int .i64 (-1000001))]),
 zo 25 (.prim .min [24, kk 1000001]),
 zo 26 (.nilc 22),
 zs (.store 1 26 25)]
def p86o21 := [zK 27 .add 3 10 1,
 zM 10 27]
def p86c24 := sq (.region (some ([1, 8, 9, 10], [1000000, 1000001, 1000002, 1000003, 1000004], [])) false p86o3) (sq (.cond 11 (.skip) (.exit 0)) (sq (.block 1 (sq (rg p86o7) (sq (rg p86o8) (sq (sq (rg p86o9) (.cond 20 (sq (rg p86o10) (rt)) (.skip))) (rg p86o16))))) (rg p86o21)))
def p86o28 := [zM 3 (kk 0)]
def p86c30 := sq (rg p86o28) (rt)
def p86c32 := sq (rg p86o1) (sq (sq (rg p86o2) (.block 0 (.loop p86c24))) p86c30)
def pc86_r : List PRes := [PRes.tmp 3 []]
def pc86 : PFunc := ⟨28, pc86_r, p86c32, false⟩
def pc86_a : Ann := {
 kr := fun
  | 2 => some ([1, 8, 9, 10], [1000000, 1000001, 1000002, 1000003, 1000004], [])
  | _ => none
 ka := fun _ => 0
 kh := fun _ => none
 gv := fun d f => match d, f with
  | some 16, 15 => some (false, false, [300000, 300001, 300002, 300003, 300004, 300005, 300006, 300007, 1000003, 1000004])
  | _, _ => none
 ow := ow0
 tc := tc1 }
theorem pc86_ok : compFn Tryz.prog pc86_a Tryz.f86 = some pc86 := by kernel_rfl
def p59o1 := [zo 1 (.box 9 0 []),
 zo 2 (.alloc 56 (.agg #[ki, ki, ki, ki, ki, ki, ki, ks, ki, ks, ki, ks, ki, ks, ki, ks, ki, ki, ki, ki, ki, ki]) []),
 zM 3 (kk 0),
 zM 4 (kk 0)]
def p59o2 := [zo 5 (.alloc 56 (.agg #[ki, ki, ki, ki, ki, ki, ki, ks, ki, ks, ki, ks, ki, ks, ki, ks, ki, ki, ki, ki, ki, ki]) [])]
def p59o3 := [zo 6 (.alloc 3 (.int .i64 0) []),
 zs (.store 1 6 (kk 0))]
def p59o4 := [zo 18 (.mkfn 84 [1, 6]),
 zo 7 (.alloc 135 .nilFunc []),
 zs (.store 1 7 18)]
def p59o5 := [zo 19 (.mkfn 86 [7]),
 zM 8 19]
def p59o6 := [zM 20 8,
 zG 21 0 5,
 zG 22 16 5,
 zG 23 17 5,
 zo 24 (.bptrs 1 [21, 22, 23]),
 zo 25 (.gcallv false false [1, 5, 6, 7, 24, 300000, 300001, 300002, 300003, 300004, 300005, 300006, 300007] [[(0, 1)]] 20 [24]),
 zM 9 25]
def p59o7 := [zM 26 9,
 zK 27 .neq 30 26 0]
def p59o8 := [zo 28 (.build (.agg #[ki, ki, ki, ki, ki, ki, ki, ks, ki, ks, ki, ks, ki, ks, ki, ks, ki, ki, ki, ki, ki, ki]) []),
 zM 29 9,
 zs (.store 22 2 28),
 zM 3 (kk 0),
 zM 4 29]
def p59o15 := [zM 30 8,
 zo 31 (.gcall false false [5, 300000, 300001, 300002, 300003, 300004, 300005, 300006, 300007] [[]] 43 [5]),
 zo 32 (.gcallv false false [1, 5, 6, 7, 300000, 300001, 300002, 300003, 300004, 300005, 300006, 300007] [[(0, 1)]] 30 [31]),
 zM 10 32]
def p59o16 := [zM 33 10,
 zK 34 .neq 30 33 0]
def p59o17 := [zo 35 (.build (.agg #[ki, ki, ki, ki, ki, ki, ki, ks, ki, ks, ki, ks, ki, ks, ki, ks, ki, ki, ki, ki, ki, ki]) []),
 zM 36 10,
 zs (.store 22 2 35),
 zM 3 (kk 0),
 zM 4 36]
def p59c22 := sq (.region (some ([1, 2, 5, 6, 7, 10], [1, 2, 5, 6, 7, 24, 300000], [])) false p59o16) (.cond 34 (sq (rg p59o17) (rt)) (.skip))
def p59o24 := [zo 37 (.gcall false false [5, 300000, 300001, 300002, 300003, 300004, 300005, 300006, 300007] [[]] 44 [5]),
 zo 38 (.lenS 37),
 zM 39 (kk 0)]
def p59o25 := [zB 40 .lss 3 39 38]
def p59o29 := [zo 41 (.iaddrS 1 37 39),
 zL 42 41,
 zM 12 42]
def p59o30 := [zL 44 1,
 zL 45 6,
 zo 46 (.prim (.slice 9 true false) [44, 45]),
 zo 47 (.call true [[], []] 56 [46, kk 12]),
 zM 43 47,
 zX 48 43 0,
 zX 49 43 1,
 zX 50 43 2,
 zM 13 48,
 zM 14 49,
 zM 15 50]
def p59o31 := [zL 51 6,
 zM 52 14,
 zB 53 .add 3 51 52,
 zs (.store 1 6 53)]
def p59o32 := [zM 54 15,
 zK 55 .eql 30 54 0]
def p59o33 := [zM 56 12,
 zM 57 13,
 zo 58 (.nilc 56),
 zG 59 1 58,
 zs (.store 1 59 57)]
def p59o34 := [zM 61 12,
 zL 62 7,
 zo 63 (.gcallv false false [1, 6, 300000, 300001, 300002, 300003, 300004, 300005, 300006, 300007] [] 62 []),
 zM 60 63,
 zX 64 60 0,
 zX 65 60 1,
 zo 66 (.nilc 61),
 zG 67 0 66,
 zs (.store 1 67 64),
 zM 15 65]
def p59o39 := [zM 68 15,
 zK 69 .neq 30 68 0]
def p59o40 := [zo 70 (.build (.agg #[ki, ki, ki, ki, ki, ki, ki, ks, ki, ks, ki, ks, ki, ks, ki, ks, ki, ki, ki, ki, ki, ki]) []),
 zM 71 15,
 zs (.store 22 2 70),
 zM 3 (kk 0),
 zM 4 71]
def p59c45 := sq (.region (some ([1, 2, 5, 6, 7, 15, 37, 38, 39], [1, 2, 5, 6, 7, 300000], [])) false p59o39) (.cond 69 (sq (rg p59o40) (rt)) (.skip))
def p59o51 := [zK 72 .add 3 39 1,
 zM 39 72]
def p59c51 := rg p59o51
def p59c54 := sq (.region (some ([1, 2, 5, 6, 7, 37, 38, 39], [1, 2, 5, 6, 7, 300000], [])) false p59o25) (sq (.cond 40 (.skip) (.exit 0)) (sq (.block 1 (sq (rg p59o29) (sq (rg p59o30) (sq (rg p59o31) (sq (sq (rg p59o32) (.cond 55 (sq (rg p59o33) (rg p59o34)) (.skip))) p59c45))))) p59c51))
def p59o58 := [zo 74 (.load true 22 5),
 zo 75 (.call true [[]] 19 [74]),
 zM 73 75,
 zX 76 73 0,
 zX 77 73 1,
 zM 16 76,
 zM 17 77]
def p59o59 := [zM 78 17,
 zK 79 .neq 30 78 0,
 zM 80 79,
 zf 81 80 (.mv 16),
 zf 82 80 (.load false 1 1),
 zf 83 80 (.load false 1 6),
 zf 84 80 (.prim (.slice 9 false true) [82, 83]),
 zf 85 80 (.prim (.bin .neq 9 false false) [81, 84]),
 zo 86 (.pick 80 kt 85)]
def p59o60 := [zo 87 (.build (.agg #[ki, ki, ki, ki, ki, ki, ki, ks, ki, ks, ki, ks, ki, ks, ki, ks, ki, ki, ki, ki, ki, ki]) []),
 zs (.store 22 2 87),
 zM 3 (kk 0),
 zM 4 (kk 11)]
def p59o67 := [za 88 5 5 0 (.load true 22 5),
 za 89 6 6 0 (.load false 1 6),
 zn (.store 22 2 88) [(2, .at_ 2 0), (88, .imm)],
 zi 3 89 (.mv 89),
 zM 4 (kk 0)]
def p59c70 := sq (sq (.region (some ([1, 2, 5, 6], [1, 2, 5, 6, 7, 300000], [])) false p59o58) (sq (rg p59o59) (.cond 86 (sq (rg p59o60) (rt)) (.skip)))) (sq (rh p59o67) (rt))
def p59c71 := sq (sq (rg p59o24) (.block 0 (.loop p59c54))) p59c70
def p59c78 := sq (rg p59o1) (sq (rg p59o2) (sq (rg p59o3) (sq (rg p59o4) (sq (rg p59o5) (sq (sq (rg p59o6) (sq (rg p59o7) (.cond 27 (sq (rg p59o8) (rt)) (.skip)))) (sq (sq (rg p59o15) p59c22) p59c71))))))
def pc59_r : List PRes := [PRes.cell 2 true 22 [], PRes.tmp 3 [], PRes.tmp 4 []]
def pc59 : PFunc := ⟨90, pc59_r, p59c78, false⟩
def pc59_a : Ann := {
 kr := fun
  | 9 => some ([1, 2, 5, 6, 7, 10], [1, 2, 5, 6, 7, 24, 300000], [])
  | 12 => some ([1, 2, 5, 6, 7, 37, 38, 39], [1, 2, 5, 6, 7, 300000], [])
  | 19 => some ([1, 2, 5, 6, 7, 15, 37, 38, 39], [1, 2, 5, 6, 7, 300000], [])
  | 22 => some ([1, 2, 5, 6], [1, 2, 5, 6, 7, 300000], [])
  | _ => none
 ka := fun _ => 0
 kh := hg [([2], .at_ 2 0), ([5], .at_ 5 0), ([6], .at_ 6 0), ([88, 89], .imm)]
 gf := fun d f => match d, f with
  | some 31, 43 => some (false, false, [5, 300000, 300001, 300002, 300003, 300004, 300005, 300006, 300007])
  | some 37, 44 => some (false, false, [5, 300000, 300001, 300002, 300003, 300004, 300005, 300006, 300007])
  | _, _ => none
 gv := fun d f => match d, f with
  | some 25, 20 => some (false, false, [1, 5, 6, 7, 24, 300000, 300001, 300002, 300003, 300004, 300005, 300006, 300007])
  | some 32, 30 => some (false, false, [1, 5, 6, 7, 300000, 300001, 300002, 300003, 300004, 300005, 300006, 300007])
  | some 63, 62 => some (false, false, [1, 6, 300000, 300001, 300002, 300003, 300004, 300005, 300006, 300007])
  | _, _ => none
 ow := ow0
 tc := tc1 }
theorem pc59_ok : compFn Tryz.prog pc59_a Tryz.f59 = some pc59 := by kernel_rfl
def p28o1 := [zo 2 (.alloc 26 (.agg #[ki, ki, kl, kl, kl, kl]) [])]
def p28o2 := [zM 7 0,
 zo 8 (.call true [[], []] 57 [7, .const (.int .u64 4)]),
 zM 9 0,
 zo 10 (.call true [[], []] 57 [9, .const (.int .u64 1073741824)]),
 zo 11 (.build (.agg #[ki, ki, kl, kl, kl, kl]) [(0, 1, .tmp 8), (1, 1, .tmp 10)]),
 zo 3 (.alloc 26 (.agg #[ki, ki, kl, kl, kl, kl]) []),
 zs (.store 6 3 11)]
def p28o3 := [zM 12 0,
 zo 13 (.call true [[]] 58 [12]),
 zM 14 0,
 zo 15 (.call true [[]] 58 [14]),
 zG 16 2 3,
 zs (.store 1 16 13),
 zG 17 4 3,
 zs (.store 1 17 15)]
def p28o5 := [zM 18 0,
 zo 19 (.call true [[], []] 57 [18, .const (.int .u64 16)]),
 zM 20 (kk 0)]
def p28o6 := [zB 21 .lss 3 20 19]
def p28o10 := [zM 22 0,
 zo 23 (.nilc 22),
 zG 24 2 23,
 zL 25 24]
def p28o15 := [za 26 3 3 0 (.faddr 3 3),
 za 27 26 3 3 (.load false 1 26),
 za 28 0 1000000 0 (.mv 0),
 za 29 28 1000000 0 (.call true [[], []] 57 [28, .const (.int .u64 16)]),
 za 30 0 1000000 0 (.mv 0),
 za 31 30 1000000 0 (.call true [[], []] 57 [30, .const (.int .u64 4)]),
 zj 32 29 31 (.build (.agg #[ki, ki]) [(0, 1, .tmp 29), (1, 1, .tmp 31)]),
 zi 33 32 (.bslice 40 2 [32]),
 ⟨some 34, .app 100027 40 2 16 27 33, none, [(27, .obj 100027), (33, .imm)]⟩,
 za 35 3 3 0 (.faddr 3 3),
 zn (.store 1 35 34) [(35, .at_ 3 3), (34, .obj 100027)]]
def p28o18 := [zK 36 .add 3 20 1,
 zM 20 36]
def p28c21 := sq (.region (some ([0, 2, 3, 19, 20], [2, 3, 100027, 1000000], [(true, 3, 3, 100027, 40, 2)])) false p28o6) (sq (.cond 21 (.skip) (.exit 0)) (sq (.block 1 (sq (sq (rg p28o10) (.cond 25 (.exit 0) (.skip))) (rh p28o15))) (rg p28o18)))
def p28o26 := [zM 37 0,
 zo 38 (.call true [[], []] 57 [37, .const (.int .u64 20)]),
 zM 39 (kk 0)]
def p28o27 := [zB 40 .lss 3 39 38]
def p28o31 := [zM 41 0,
 zo 42 (.nilc 41),
 zG 43 2 42,
 zL 44 43]
def p28o36 := [za 46 0 1000000 0 (.mv 0),
 za 47 46 1000000 0 (.nilc 46),
 za 48 47 1000000 0 (.faddr 0 47),
 za 49 48 1000000 0 (.load false 1 48),
 za 50 0 1000000 0 (.mv 0),
 za 51 50 1000000 0 (.nilc 50),
 za 52 51 1000000 0 (.faddr 1 51),
 za 53 52 1000000 1 (.load false 1 52),
 zj 54 49 53 (.prim (.slice 9 true false) [49, 53]),
 zi 55 54 (.call false [[]] 59 [54]),
 zM 45 55,
 zX 56 45 0,
 zX 57 45 1,
 zX 58 45 2,
 zo 4 (.alloc 56 (.agg #[ki, ki, ki, ki, ki, ki, ki, ks, ki, ks, ki, ks, ki, ks, ki, ks, ki, ki, ki, ki, ki, ki]) []),
 zn (.store 22 4 56) [(4, .at_ 4 0), (56, .imm)],
 zi 5 57 (.mv 57),
 zi 6 58 (.mv 58)]
def p28o37 := [zM 59 0,
 zM 60 5,
 zM 61 6,
 zo 62 (.call true [[], [], []] 60 [59, 60, 61])]
def p28o38 := [zG 63 5 3,
 zL 64 63,
 zo 65 (.load true 22 4),
 zo 66 (.bslice 56 22 [65]),
 zo 67 (.app 100064 56 22 216 64 66),
 zG 68 5 3,
 zs (.store 1 68 67)]
def p28o43 := [zK 69 .add 3 39 1,
 zM 39 69]
def p28c46 := sq (.region (some ([0, 2, 3, 38, 39], [2, 3, 4, 100027, 100064, 1000000], [(true, 3, 5, 100064, 56, 22)])) false p28o27) (sq (.cond 40 (.skip) (.exit 2)) (sq (.block 3 (sq (sq (rg p28o31) (.cond 44 (.exit 2) (.skip))) (sq (rh p28o36) (sq (rg p28o37) (rg p28o38))))) (rg p28o43)))
def p28o50 := [zo 70 (.load true 6 3),
 zs (.store 6 2 70)]
def p28c52 := sq (rg p28o50) (rt)
def p28c54 := sq (.label) (sq (sq (rg p28o26) (.block 2 (.loop p28c46))) p28c52)
def p28c60 := sq (rg p28o1) (.scope (sq (rg p28o2) (sq (rg p28o3) (sq (.label) (sq (sq (rg p28o5) (.block 0 (.loop p28c21))) p28c54)))))
def pc28_r : List PRes := [PRes.cell 2 true 6 [(2, 11), (3, 2), (4, 11), (5, 22)]]
def pc28 : PFunc := ⟨71, pc28_r, p28c60, false⟩
def pc28_a : Ann := {
 kr := fun
  | 4 => some ([0, 2, 3, 19, 20], [2, 3, 100027, 1000000], [(true, 3, 3, 100027, 40, 2)])
  | 9 => some ([0, 2, 3, 38, 39], [2, 3, 4, 100027, 100064, 1000000], [(true, 3, 5, 100064, 56, 22)])
  | _ => none
 ka := fun
  | 34 => 100027
  | 67 => 100064
  | _ => 0
 kh := hg [([0, 28, 30, 46, 47, 48, 50, 51], .at_ 1000000 0), ([3], .at_ 3 0), ([4], .at_ 4 0), ([26, 35], .at_ 3 3), ([27, 34], .obj 100027), ([29, 31, 32, 33, 49, 53, 54, 56, 57, 58], .imm), ([52], .at_ 1000000 1)]
 ow := ow0
 tc := tc1 }
theorem pc28_ok : compFn Tryz.prog pc28_a Tryz.f28 = some pc28 := by kernel_rfl
def p10o1 := [zo 2 (.alloc 26 (.agg #[ki, ki, kl, kl, kl, kl]) []),
 zM 3 (kk 0),
 zM 4 (kk 0)]
def p10o2 := [zM 13 0,
 zo 14 (.call true [[]] 27 [13]),
 zM 12 14,
 zX 15 12 0,
 zX 16 12 1,
 zX 17 12 2,
 zM 5 15,
 zM 6 16,
 zM 7 17]
def p10o3 := [zM 18 7,
 zK 19 .neq 30 18 0]
def p10o4 := [zo 20 (.build (.agg #[ki, ki, kl, kl, kl, kl]) []),
 zM 21 7,
 zs (.store 6 2 20),
 zM 3 (kk 0),
 zM 4 21]
def p10o10 := [zM 22 5,
 zo 23 (.build (.agg #[ks, ki, .bool false]) [(0, 1, .tmp 22)]),
 zo 24 (.box 79 23 []),
 zM 8 24]
def p10o11 := [zM 25 8,
 zo 26 (.call true [[]] 28 [25]),
 zo 9 (.alloc 26 (.agg #[ki, ki, kl, kl, kl, kl]) []),
 zs (.store 6 9 26)]
def p10o12 := [zo 28 (.load true 6 9),
 zo 29 (.call true [[(2, 11), (3, 2), (4, 11), (5, 22)]] 6 [28]),
 zM 27 29,
 zX 30 27 0,
 zX 31 27 1,
 zM 10 30,
 zM 11 31]
def p10o13 := [zM 32 8,
 zo 33 (.nilc 32),
 zG 34 2 33,
 zL 35 34,
 zM 36 35,
 zf 37 36 (.mv 11),
 zf 38 36 (.prim (.bin .neq 30 false true) [37, kk 0]),
 zo 39 (.pick 36 kt 38),
 zM 40 39,
 zf 41 40 (.mv 10),
 zf 42 40 (.mv 0),
 zf 43 40 (.mv 6),
 zf 44 40 (.prim (.slice 9 false true) [42, 43]),
 zf 45 40 (.prim (.bin .neq 9 false false) [41, 44]),
 zo 46 (.pick 40 kt 45)]
def p10o14 := [zo 47 (.build (.agg #[ki, ki, kl, kl, kl, kl]) []),
 zs (.store 6 2 47),
 zM 3 (kk 0),
 zM 4 (kk 11)]
def p10o21 := [zo 48 (.load true 6 9),
 zM 49 6,
 zs (.store 6 2 48),
 zM 3 49,
 zM 4 (kk 0)]
def p10c29 := sq (rg p10o1) (sq (rg p10o2) (sq (sq (rg p10o3) (.cond 19 (sq (rg p10o4) (rt)) (.skip))) (sq (rg p10o10) (sq (rg p10o11) (sq (sq (rg p10o12) (sq (rg p10o13) (.cond 46 (sq (rg p10o14) (rt)) (.skip)))) (sq (rg p10o21) (rt)))))))
def pc10_r : List PRes := [PRes.cell 2 true 6 [(2, 11), (3, 2), (4, 11), (5, 22)], PRes.tmp 3 [], PRes.tmp 4 []]
def pc10 : PFunc := ⟨50, pc10_r, p10c29, false⟩
def pc10_a : Ann := {
 kr := fun _ => none
 ka := fun _ => 0
 kh := fun _ => none
 ow := ow0
 tc := tc1 }
theorem pc10_ok : compFn Tryz.prog pc10_a Tryz.f10 = some pc10 := by kernel_rfl
def p29o1 := [zM 4 kf]
def p29o2 := [zM 6 0,
 zo 7 (.lenS 6),
 zM 8 1,
 zo 9 (.lenS 8),
 zB 10 .neq 3 7 9]
def p29o3 := [zM 4 kf]
def p29o9 := [zM 5 (kk 0)]
def p29o10 := [zM 11 5,
 zM 12 0,
 zo 13 (.lenS 12),
 zB 14 .lss 3 11 13]
def p29o15 := [zi 17 0 (.mv 0),
 zi 18 5 (.mv 5),
 zj 19 17 18 (.iaddrS 11 17 18),
 zi 20 19 (.load true 11 19),
 zi 21 1 (.mv 1),
 zi 22 5 (.mv 5),
 zj 23 21 22 (.iaddrS 11 21 22),
 zi 24 23 (.load true 11 23),
 zj 25 20 24 (.prim (.bin .neq 47 false false) [20, 24])]
def p29o16 := [zM 4 kf]
def p29o23 := [zM 15 5,
 zK 16 .add 3 15 1,
 zM 5 16]
def p29c25 := sq (sq (.region (some ([0, 1, 5], [], [])) false p29o10) (.cond 14 (.skip) (.exit 0))) (sq (.block 1 (sq (rh p29o15) (.cond 25 (sq (rg p29o16) (rt)) (.skip)))) (rg p29o23))
def p29o29 := [zM 4 kt]
def p29c31 := sq (rg p29o29) (rt)
def p29c34 := sq (rg p29o1) (sq (sq (rg p29o2) (.cond 10 (sq (rg p29o3) (rt)) (.skip))) (sq (sq (rg p29o9) (.block 0 (.loop p29c25))) p29c31))
def pc29_r : List PRes := [PRes.tmp 4 []]
def pc29 : PFunc := ⟨26, pc29_r, p29c34, false⟩
def pc29_a : Ann := {
 kr := fun
  | 4 => some ([0, 1, 5], [], [])
  | _ => none
 ka := fun _ => 0
 kh := hg [([0, 1, 5, 17, 18, 19, 20, 21, 22, 23, 24], .imm)]
 ow := ow0
 tc := tc1 }
theorem pc29_ok : compFn Tryz.prog pc29_a Tryz.f29 = some pc29 := by kernel_rfl
def p11o1 := [zo 2 (.box 26 0 []),
 zo 3 (.box 26 1 []),
 zM 4 kf]
def p11o2 := [zG 7 0 2,
 zL 8 7,
 zG 9 0 3,
 zL 10 9,
 zB 11 .neq 3 8 10,
 zM 12 11,
 zf 13 12 (.faddr 1 2),
 zf 14 12 (.load false 1 13),
 zf 15 12 (.faddr 1 3),
 zf 16 12 (.load false 1 15),
 zf 17 12 (.prim (.bin .neq 3 false false) [14, 16]),
 zo 18 (.pick 12 kt 17),
 zM 19 18,
 zf 20 19 (.faddr 2 2),
 zf 21 19 (.load false 1 20),
 zf 22 19 (.faddr 2 3),
 zf 23 19 (.load false 1 22),
 zf 24 19 (.call true [[(0, 11)], [(0, 11)]] 29 [21, 23]),
 zf 25 19 (.prim (.un .not) [24]),
 zo 26 (.pick 19 kt 25),
 zM 27 26,
 zf 28 27 (.faddr 4 2),
 zf 29 27 (.load false 1 28),
 zf 30 27 (.faddr 4 3),
 zf 31 27 (.load false 1 30),
 zf 32 27 (.call true [[(0, 11)], [(0, 11)]] 29 [29, 31]),
 zf 33 27 (.prim (.un .not) [32]),
 zo 34 (.pick 27 kt 33),
 zM 35 34,
 zf 36 35 (.faddr 3 2),
 zf 37 35 (.load false 1 36),
 zf 38 35 (.lenS 37),
 zf 39 35 (.faddr 3 3),
 zf 40 35 (.load false 1 39),
 zf 41 35 (.lenS 40),
 zf 42 35 (.prim (.bin .neq 3 false false) [38, 41]),
 zo 43 (.pick 35 kt 42),
 zM 44 43,
 zf 45 44 (.faddr 5 2),
 zf 46 44 (.load false 1 45),
 zf 47 44 (.lenS 46),
 zf 48 44 (.faddr 5 3),
 zf 49 44 (.load false 1 48),
 zf 50 44 (.lenS 49),
 zf 51 44 (.prim (.bin .neq 3 false false) [47, 50]),
 zo 52 (.pick 44 kt 51)]
def p11o3 := [zM 4 kf]
def p11o9 := [zM 5 (kk 0)]
def p11o10 := [zM 53 5,
 zG 54 3 2,
 zL 55 54,
 zo 56 (.lenS 55),
 zB 57 .lss 3 53 56]
def p11o15 := [za 60 2 2 0 (.faddr 3 2),
 za 61 60 2 3 (.load false 1 60),
 zi 62 5 (.mv 5),
 zj 63 61 62 (.iaddrS 2 61 62),
 zi 64 63 (.load true 2 63),
 za 65 3 3 0 (.faddr 3 3),
 za 66 65 3 3 (.load false 1 65),
 zi 67 5 (.mv 5),
 zj 68 66 67 (.iaddrS 2 66 67),
 zi 69 68 (.load true 2 68),
 zj 70 64 69 (.prim (.bin .neq 40 false false) [64, 69])]
def p11o16 := [zM 4 kf]
def p11o23 := [zM 58 5,
 zK 59 .add 3 58 1,
 zM 5 59]
def p11c25 := sq (sq (.region (some ([2, 3, 5], [2, 3], [])) false p11o10) (.cond 57 (.skip) (.exit 0))) (sq (.block 1 (sq (rh p11o15) (.cond 70 (sq (rg p11o16) (rt)) (.skip)))) (rg p11o23))
def p11o29 := [zM 6 (kk 0)]
def p11o30 := [zM 71 6,
 zG 72 5 2,
 zL 73 72,
 zo 74 (.lenS 73),
 zB 75 .lss 3 71 74]
def p11o35 := [za 78 2 2 0 (.faddr 5 2),
 za 79 78 2 5 (.load false 1 78),
 zi 80 6 (.mv 6),
 zj 81 79 80 (.iaddrS 22 79 80),
 zi 82 81 (.load true 22 81),
 za 83 3 3 0 (.faddr 5 3),
 za 84 83 3 5 (.load false 1 83),
 zi 85 6 (.mv 6),
 zj 86 84 85 (.iaddrS 22 84 85),
 zi 87 86 (.load true 22 86),
 zj 88 82 87 (.prim (.bin .neq 56 false false) [82, 87])]
def p11o36 := [zM 4 kf]
def p11o43 := [zM 76 6,
 zK 77 .add 3 76 1,
 zM 6 77]
def p11c45 := sq (sq (.region (some ([2, 3, 6], [2, 3], [])) false p11o30) (.cond 75 (.skip) (.exit 2))) (sq (.block 3 (sq (rh p11o35) (.cond 88 (sq (rg p11o36) (rt)) (.skip)))) (rg p11o43))
def p11o49 := [zM 4 kt]
def p11c51 := sq (rg p11o49) (rt)
def p11c52 := sq (sq (rg p11o29) (.block 2 (.loop p11c45))) p11c51
def p11c55 := sq (rg p11o1) (sq (sq (rg p11o2) (.cond 52 (sq (rg p11o3) (rt)) (.skip))) (sq (sq (rg p11o9) (.block 0 (.loop p11c25))) p11c52))
def pc11_r : List PRes := [PRes.tmp 4 []]
def pc11 : PFunc := ⟨89, pc11_r, p11c55, false⟩
def pc11_a : Ann := {
 kr := fun
  | 4 => some ([2, 3, 5], [2, 3], [])
  | 9 => some ([2, 3, 6], [2, 3], [])
  | _ => none
 ka := fun _ => 0
 kh := hg [([2], .at_ 2 0), ([3], .at_ 3 0), ([5, 6, 61, 62, 63, 64, 66, 67, 68, 69, 79, 80, 81, 82, 84, 85, 86, 87], .imm), ([60], .at_ 2 3), ([65], .at_ 3 3), ([78], .at_ 2 5), ([83], .at_ 3 5)]
 ow := ow0
 tc := tc1 }
theorem pc11_ok : compFn Tryz.prog pc11_a Tryz.f11 = some pc11 := by kernel_rfl
def p36o1 := [zM 4 kf]
def p36o2 := [zM 6 0,
 zo 7 (.lenS 6),
 zM 8 1,
 zo 9 (.lenS 8),
 zB 10 .neq 3 7 9]
def p36o3 := [zM 4 kf]
def p36o9 := [zM 11 0,
 zo 12 (.lenS 11),
 zM 13 (kk 0)]
def p36o10 := [zB 14 .lss 3 13 12]
def p36o14 := [zM 15 13,
 zM 5 15]
def p36o15 := [zi 16 0 (.mv 0),
 zi 17 5 (.mv 5),
 zj 18 16 17 (.iaddrS 11 16 17),
 zi 19 18 (.load true 11 18),
 zi 20 1 (.mv 1),
 zi 21 5 (.mv 5),
 zj 22 20 21 (.iaddrS 11 20 21),
 zi 23 22 (.load true 11 22),
 zj 24 19 23 (.prim (.bin .neq 47 false false) [19, 23])]
def p36o16 := [zM 4 kf]
def p36o24 := [zK 25 .add 3 13 1,
 zM 13 25]
def p36c27 := sq (.region (some ([0, 1, 12, 13], [], [])) false p36o10) (sq (.cond 14 (.skip) (.exit 0)) (sq (.block 1 (sq (rg p36o14) (sq (rh p36o15) (.cond 24 (sq (rg p36o16) (rt)) (.skip))))) (rg p36o24)))
def p36o31 := [zM 4 kt]
def p36c33 := sq (rg p36o31) (rt)
def p36c36 := sq (rg p36o1) (sq (sq (rg p36o2) (.cond 10 (sq (rg p36o3) (rt)) (.skip))) (sq (sq (rg p36o9) (.block 0 (.loop p36c27))) p36c33))
def pc36_r : List PRes := [PRes.tmp 4 []]
def pc36 : PFunc := ⟨26, pc36_r, p36c36, false⟩
def pc36_a : Ann := {
 kr := fun
  | 4 => some ([0, 1, 12, 13], [], [])
  | _ => none
 ka := fun _ => 0
 kh := hg [([0, 1, 5, 16, 17, 18, 19, 20, 21, 22, 23], .imm)]
 ow := ow0
 tc := tc1 }
theorem pc36_ok : compFn Tryz.prog pc36_a Tryz.f36 = some pc36 := by kernel_rfl
def p37o1 := [zM 4 kf]
def p37o2 := [zM 6 0,
 zo 7 (.lenS 6),
 zM 8 1,
 zo 9 (.lenS 8),
 zB 10 .neq 3 7 9]
def p37o3 := [zM 4 kf]
def p37o9 := [zM 11 0,
 zo 12 (.lenS 11),
 zM 13 (kk 0)]
def p37o10 := [zB 14 .lss 3 13 12]
def p37o14 := [zM 15 13,
 zM 5 15]
def p37o15 := [zi 16 0 (.mv 0),
 zi 17 5 (.mv 5),
 zj 18 16 17 (.iaddrS 2 16 17),
 zi 19 18 (.load true 2 18),
 zi 20 1 (.mv 1),
 zi 21 5 (.mv 5),
 zj 22 20 21 (.iaddrS 2 20 21),
 zi 23 22 (.load true 2 22),
 zj 24 19 23 (.prim (.bin .neq 40 false false) [19, 23])]
def p37o16 := [zM 4 kf]
def p37o24 := [zK 25 .add 3 13 1,
 zM 13 25]
def p37o31 := [zM 4 kt]
def pc37_r : List PRes := [PRes.tmp 4 []]
def pc37 : PFunc := ⟨26, pc37_r, (sq (rg p37o1) (sq (sq (rg p37o2) (.cond 10 (sq (rg p37o3) (rt)) (.skip))) (sq (sq (rg p37o9) (.block 0 (.loop (sq (.region (some ([0, 1, 12, 13], [], [])) false p37o10) (sq (.cond 14 (.skip) (.exit 0)) (sq (.block 1 (sq (rg p37o14) (sq (rh p37o15) (.cond 24 (sq (rg p37o16) (rt)) (.skip))))) (rg p37o24))))))) (sq (rg p37o31) (rt))))), false⟩
def pc37_a : Ann := {
 kr := fun
  | 4 => some ([0, 1, 12, 13], [], [])
  | _ => none
 ka := fun _ => 0
 kh := hg [([0, 1, 5, 16, 17, 18, 19, 20, 21, 22, 23], .imm)]
 ow := ow0
 tc := tc1 }
theorem pc37_ok : compFn Tryz.prog pc37_a Tryz.f37 = some pc37 := by kernel_rfl
def p38o1 := [zM 4 kf]
def p38o2 := [zM 6 0,
 zo 7 (.lenS 6),
 zM 8 1,
 zo 9 (.lenS 8),
 zB 10 .neq 3 7 9]
def p38o3 := [zM 4 kf]
def p38o9 := [zM 11 0,
 zo 12 (.lenS 11),
 zM 13 (kk 0)]
def p38o10 := [zB 14 .lss 3 13 12]
def p38o14 := [zM 15 13,
 zM 5 15]
def p38o15 := [zi 16 0 (.mv 0),
 zi 17 5 (.mv 5),
 zj 18 16 17 (.iaddrS 22 16 17),
 zi 19 18 (.load true 22 18),
 zi 20 1 (.mv 1),
 zi 21 5 (.mv 5),
 zj 22 20 21 (.iaddrS 22 20 21),
 zi 23 22 (.load true 22 22),
 zj 24 19 23 (.prim (.bin .neq 56 false false) [19, 23])]
def p38o16 := [zM 4 kf]
def p38o24 := [zK 25 .add 3 13 1,
 zM 13 25]
def p38o31 := [zM 4 kt]
def pc38_r : List PRes := [PRes.tmp 4 []]
def pc38 : PFunc := ⟨26, pc38_r, (sq (rg p38o1) (sq (sq (rg p38o2) (.cond 10 (sq (rg p38o3) (rt)) (.skip))) (sq (sq (rg p38o9) (.block 0 (.loop (sq (.region (some ([0, 1, 12, 13], [], [])) false p38o10) (sq (.cond 14 (.skip) (.exit 0)) (sq (.block 1 (sq (rg p38o14) (sq (rh p38o15) (.cond 24 (sq (rg p38o16) (rt)) (.skip))))) (rg p38o24))))))) (sq (rg p38o31) (rt))))), false⟩
def pc38_a : Ann := {
 kr := fun
  | 4 => some ([0, 1, 12, 13], [], [])
  | _ => none
 ka := fun _ => 0
 kh := hg [([0, 1, 5, 16, 17, 18, 19, 20, 21, 22, 23], .imm)]
 ow := ow0
 tc := tc1 }
theorem pc38_ok : compFn Tryz.prog pc38_a Tryz.f38 = some pc38 := by kernel_rfl
def p13o1 := [zo 2 (.box 26 0 []),
 zo 3 (.box 26 1 []),
 zM 4 kf]
def p13o2 := [zG 5 0 2,
 zL 6 5,
 zG 7 0 3,
 zL 8 7,
 zB 9 .eql 3 6 8,
 zM 10 9,
 zt 11 10 (.faddr 1 2),
 zt 12 10 (.load false 1 11),
 zt 13 10 (.faddr 1 3),
 zt 14 10 (.load false 1 13),
 zt 15 10 (.prim (.bin .eql 3 false false) [12, 14]),
 zo 16 (.pick 10 15 kf),
 zM 17 16,
 zt 18 17 (.faddr 2 2),
 zt 19 17 (.load false 1 18),
 zt 20 17 (.faddr 2 3),
 zt 21 17 (.load false 1 20),
 zt 22 17 (.call true [[(0, 11)], [(0, 11)]] 36 [19, 21]),
 zo 23 (.pick 17 22 kf),
 zM 24 23,
 zt 25 24 (.faddr 3 2),
 zt 26 24 (.load false 1 25),
 zt 27 24 (.faddr 3 3),
 zt 28 24 (.load false 1 27),
 zt 29 24 (.call true [[(0, 2)], [(0, 2)]] 37 [26, 28]),
 zo 30 (.pick 24 29 kf),
 zM 31 30,
 zt 32 31 (.faddr 4 2),
 zt 33 31 (.load false 1 32),
 zt 34 31 (.faddr 4 3),
 zt 35 31 (.load false 1 34),
 zt 36 31 (.call true [[(0, 11)], [(0, 11)]] 36 [33, 35]),
 zo 37 (.pick 31 36 kf),
 zM 38 37,
 zt 39 38 (.faddr 5 2),
 zt 40 38 (.load false 1 39),
 zt 41 38 (.faddr 5 3),
 zt 42 38 (.load false 1 41),
 zt 43 38 (.call true [[(0, 22)], [(0, 22)]] 38 [40, 42]),
 zo 44 (.pick 38 43 kf),
 zM 4 44]
def pc13_r : List PRes := [PRes.tmp 4 []]
def pc13 : PFunc := ⟨45, pc13_r, (sq (rg p13o1) (sq (rg p13o2) (rt))), false⟩
def pc13_a : Ann := {
 kr := fun _ => none
 ka := fun _ => 0
 kh := fun _ => none
 ow := ow0
 tc := tc1 }
theorem pc13_ok : compFn Tryz.prog pc13_a Tryz.f13 = some pc13 := by kernel_rfl
def p4o1 := [zM 0 kf]
def p4o2 := [zo 12 (.build (.agg #[ki, ki]) [(0, 1, kk 1), (1, 1, kk 0)]),
 zo 13 (.bslice 40 2 [12]),
 zo 14 (.build (.agg #[ki, ki]) [(0, 1, kk 16)]),
 zo 15 (.build (.agg #[ki, ki, ki, ki, ks, ki, ks, ki, ks, ki, ks]) [(0, 1, kk 5), (1, 2, .tmp 14)]),
 zo 16 (.bslice 47 11 [15]),
 zo 17 (.build (.agg #[ki, ki, kl, kl, kl, kl]) [(0, 1, kk 1), (1, 1, kk 3), (3, 1, .tmp 13), (4, 1, .tmp 16)]),
 zo 1 (.alloc 26 (.agg #[ki, ki, kl, kl, kl, kl]) []),
 zs (.store 6 1 17)]
def p4o3 := [zo 19 (.load true 6 1),
 zo 20 (.call true [[(2, 11), (3, 2), (4, 11), (5, 22)]] 6 [19]),
 zM 18 20,
 zX 21 18 0,
 zX 22 18 1,
 zM 2 21,
 zM 3 22]
def p4o4 := [zM 24 2,
 zo 25 (.prim (.bin .add 9 false true) [24, .const (.string { data := #[113] })]),
 zo 26 (.call true [[]] 10 [25]),
 zM 23 26,
 zX 27 23 0,
 zX 28 23 1,
 zX 29 23 2,
 zo 4 (.alloc 26 (.agg #[ki, ki, kl, kl, kl, kl]) []),
 zs (.store 6 4 27),
 zM 5 28,
 zM 6 29]
def p4o5 := [zo 31 (.build (.agg #[ki, ki, kl, kl, kl, kl]) [(1, 1, .const (.int .i64 (-1)))]),
 zo 32 (.call true [[(2, 11), (3, 2), (4, 11), (5, 22)]] 6 [31]),
 zM 30 32,
 zX 33 30 0,
 zX 34 30 1,
 zM 7 33,
 zM 8 34]
def p4o6 := [zo 36 (.call true [[]] 10 [.const (ks)]),
 zM 35 36,
 zX 37 35 0,
 zX 38 35 1,
 zX 39 35 2,
 zo 9 (.alloc 26 (.agg #[ki, ki, kl, kl, kl, kl]) []),
 zs (.store 6 9 37),
 zM 10 38,
 zM 11 39]
def p4o7 := [zM 40 3,
 zK 41 .eql 30 40 0,
 zM 42 41,
 zt 43 42 (.mv 6),
 zt 44 42 (.prim (.bin .eql 30 false true) [43, kk 0]),
 zo 45 (.pick 42 44 kf),
 zM 46 45,
 zt 47 46 (.mv 5),
 zt 48 46 (.mv 2),
 zt 49 46 (.prim (.len 9) [48]),
 zt 50 46 (.prim (.bin .eql 3 false false) [47, 49]),
 zo 51 (.pick 46 50 kf),
 zM 52 51,
 zt 53 52 (.load true 6 1),
 zt 54 52 (.load true 6 4),
 zt 55 52 (.call true [[(2, 11), (3, 2), (4, 11), (5, 22)], [(2, 11), (3, 2), (4, 11), (5, 22)]] 11 [53, 54]),
 zo 56 (.pick 52 55 kf),
 zM 57 56,
 zt 58 57 (.mv 8),
 zt 59 57 (.prim (.bin .eql 30 false true) [58, kk 11]),
 zo 60 (.pick 57 59 kf),
 zM 61 60,
 zt 62 61 (.mv 11),
 zt 63 61 (.prim (.bin .eql 30 false true) [62, kk 10]),
 zo 64 (.pick 61 63 kf),
 zM 65 64,
 zt 66 65 (.load true 6 1),
 zt 67 65 (.call true [[(2, 11), (3, 2), (4, 11), (5, 22)], []] 12 [66, kk 2]),
 zo 68 (.pick 65 67 kf),
 zM 69 68,
 zt 70 69 (.load true 6 1),
 zt 71 69 (.call true [[(2, 11), (3, 2), (4, 11), (5, 22)], []] 12 [70, kk 1]),
 zt 72 69 (.prim (.un .not) [71]),
 zo 73 (.pick 69 72 kf),
 zM 74 73,
 zt 75 74 (.load true 6 1),
 zt 76 74 (.load true 6 4),
 zt 77 74 (.call true [[(2, 11), (3, 2), (4, 11), (5, 22)], [(2, 11), (3, 2), (4, 11), (5, 22)]] 13 [75, 76]),
 zo 78 (.pick 74 77 kf),
 zM 0 78]
def pc4_r : List PRes := [PRes.tmp 0 []]
def pc4 : PFunc := ⟨79, pc4_r, (sq (rg p4o1) (sq (rg p4o2) (sq (rg p4o3) (sq (rg p4o4) (sq (rg p4o5) (sq (rg p4o6) (sq (rg p4o7) (rt)))))))), false⟩
def pc4_a : Ann := {
 kr := fun _ => none
 ka := fun _ => 0
 kh := fun _ => none
 ow := ow0
 tc := tc1 }
theorem pc4_ok : compFn Tryz.prog pc4_a Tryz.f4 = some pc4 := by kernel_rfl
def p14o1 := [zo 1 (.box 56 0 []),
 zM 2 kf]
def p14o2 := [zM 3 (kk 0)]
def p14o3 := [zM 4 3,
 zK 5 .lss 3 4 4]
def p14o8 := [zM 8 3,
 zG 9 6 1,
 zo 10 (.iaddrA 4 2 9 8),
 zG 11 1 10,
 zL 12 11,
 zo 13 (.prim (.len 9) [12]),
 zK 14 .gtr 3 13 40]
def p14o9 := [zM 2 kf]
def p14o16 := [zM 6 3,
 zK 7 .add 3 6 1,
 zM 3 7]
def p14o22 := [zG 15 14 1,
 zG 16 1 15,
 zL 17 16,
 zo 18 (.prim (.len 9) [17]),
 zK 19 .leq 3 18 40,
 zM 2 19]
def p14c26 := sq (rg p14o1) (sq (sq (rg p14o2) (.block 0 (.loop (sq (sq (.region (some ([1, 3], [1], [])) false p14o3) (.cond 5 (.skip) (.exit 0))) (sq (.block 1 (sq (rg p14o8) (.cond 14 (sq (rg p14o9) (rt)) (.skip)))) (rg p14o16)))))) (sq (rg p14o22) (rt)))
def pc14_r : List PRes := [PRes.tmp 2 []]
def pc14 : PFunc := ⟨20, pc14_r, p14c26, false⟩
def pc14_a : Ann := {
 kr := fun
  | 2 => some ([1, 3], [1], [])
  | _ => none
 ka := fun _ => 0
 kh := fun _ => none
 ow := ow0
 tc := tc1 }
theorem pc14_ok : compFn Tryz.prog pc14_a Tryz.f14 = some pc14 := by kernel_rfl
def p70o1 := [zo 1 (.box 44 0 []),
 zM 2 kf]
def p70o2 := [zG 3 1 1,
 zL 4 3,
 zo 5 (.prim (.len 9) [4]),
 zK 6 .leq 3 5 40,
 zM 2 6]
def p70c5 := sq (rg p70o1) (sq (rg p70o2) (rt))
def pc70_r : List PRes := [PRes.tmp 2 []]
def pc70 : PFunc := ⟨7, pc70_r, p70c5, false⟩
def pc70_a : Ann := {
 kr := fun _ => none
 ka := fun _ => 0
 kh := fun _ => none
 ow := ow0
 tc := tc1 }
theorem pc70_ok : compFn Tryz.prog pc70_a Tryz.f70 = some pc70 := by kernel_rfl
def p39o1 := [zo 1 (.box 47 0 []),
 zM 2 kf]
def p39o2 := [zM 3 (kk 0)]
def p39o3 := [zM 4 3,
 zK 5 .lss 3 4 4]
def p39o8 := [zM 8 3,
 zG 9 3 1,
 zo 10 (.iaddrA 4 2 9 8),
 zo 11 (.load true 2 10),
 zo 12 (.call true [[]] 70 [11]),
 zo 13 (.prim (.un .not) [12])]
def p39o9 := [zM 2 kf]
def p39o16 := [zM 6 3,
 zK 7 .add 3 6 1,
 zM 3 7]
def p39o22 := [zM 2 kt]
def p39c26 := sq (rg p39o1) (sq (sq (rg p39o2) (.block 0 (.loop (sq (sq (.region (some ([1, 3], [1], [])) false p39o3) (.cond 5 (.skip) (.exit 0))) (sq (.block 1 (sq (rg p39o8) (.cond 13 (sq (rg p39o9) (rt)) (.skip)))) (rg p39o16)))))) (sq (rg p39o22) (rt)))
def pc39_r : List PRes := [PRes.tmp 2 []]
def pc39 : PFunc := ⟨14, pc39_r, p39c26, false⟩
def pc39_a : Ann := {
 kr := fun
  | 2 => some ([1, 3], [1], [])
  | _ => none
 ka := fun _ => 0
 kh := fun _ => none
 ow := ow0
 tc := tc1 }
theorem pc39_ok : compFn Tryz.prog pc39_a Tryz.f39 = some pc39 := by kernel_rfl
def p15o1 := [zM 2 kf]
def p15o2 := [zM 3 (kk 0)]
def p15o3 := [zM 4 3,
 zM 5 0,
 zo 6 (.lenS 5),
 zB 7 .lss 3 4 6]
def p15o8 := [zM 10 0,
 zM 11 3,
 zo 12 (.iaddrS 11 10 11),
 zo 13 (.load true 11 12),
 zo 14 (.call true [[]] 39 [13]),
 zo 15 (.prim (.un .not) [14])]
def p15o9 := [zM 2 kf]
def p15o16 := [zM 8 3,
 zK 9 .add 3 8 1,
 zM 3 9]
def p15c18 := sq (sq (.region (some ([0, 3], [], [])) false p15o3) (.cond 7 (.skip) (.exit 0))) (sq (.block 1 (sq (rg p15o8) (.cond 15 (sq (rg p15o9) (rt)) (.skip)))) (rg p15o16))
def p15o22 := [zM 16 0,
 zo 17 (.lenS 16),
 zK 18 .leq 3 17 30,
 zM 2 18]
def p15c24 := sq (rg p15o22) (rt)
def p15c26 := sq (rg p15o1) (sq (sq (rg p15o2) (.block 0 (.loop p15c18))) p15c24)
def pc15_r : List PRes := [PRes.tmp 2 []]
def pc15 : PFunc := ⟨19, pc15_r, p15c26, false⟩
def pc15_a : Ann := {
 kr := fun
  | 2 => some ([0, 3], [], [])
  | _ => none
 ka := fun _ => 0
 kh := fun _ => none
 ow := ow0
 tc := tc1 }
theorem pc15_ok : compFn Tryz.prog pc15_a Tryz.f15 = some pc15 := by kernel_rfl
def p5o1 := [zo 1 (.box 26 0 []),
 zM 2 kf]
def p5o2 := [zM 3 (kk 0)]
def p5o3 := [zM 4 3,
 zG 5 5 1,
 zL 6 5,
 zo 7 (.lenS 6),
 zB 8 .lss 3 4 7]
def p5o8 := [zG 11 5 1,
 zL 12 11,
 zM 13 3,
 zo 14 (.iaddrS 22 12 13),
 zo 15 (.load true 22 14),
 zo 16 (.call true [[]] 14 [15]),
 zo 17 (.prim (.un .not) [16])]
def p5o9 := [zM 2 kf]
def p5o16 := [zM 9 3,
 zK 10 .add 3 9 1,
 zM 3 10]
def p5c18 := sq (sq (.region (some ([1, 3], [1], [])) false p5o3) (.cond 8 (.skip) (.exit 0))) (sq (.block 1 (sq (rg p5o8) (.cond 17 (sq (rg p5o9) (rt)) (.skip)))) (rg p5o16))
def p5o22 := [zG 18 2 1,
 zL 19 18,
 zo 20 (.call true [[(0, 11)]] 15 [19]),
 zM 21 20,
 zt 22 21 (.faddr 4 1),
 zt 23 21 (.load false 1 22),
 zt 24 21 (.call true [[(0, 11)]] 15 [23]),
 zo 25 (.pick 21 24 kf),
 zM 26 25,
 zt 27 26 (.faddr 3 1),
 zt 28 26 (.load false 1 27),
 zt 29 26 (.lenS 28),
 zt 30 26 (.prim (.bin .leq 3 false true) [29, kk 20]),
 zo 31 (.pick 26 30 kf),
 zM 32 31,
 zt 33 32 (.faddr 5 1),
 zt 34 32 (.load false 1 33),
 zt 35 32 (.lenS 34),
 zt 36 32 (.prim (.bin .leq 3 false true) [35, kk 24]),
 zo 37 (.pick 32 36 kf),
 zM 2 37]
def p5c24 := sq (rg p5o22) (rt)
def p5c26 := sq (rg p5o1) (sq (sq (rg p5o2) (.block 0 (.loop p5c18))) p5c24)
def pc5_r : List PRes := [PRes.tmp 2 []]
def pc5 : PFunc := ⟨38, pc5_r, p5c26, false⟩
def pc5_a : Ann := {
 kr := fun
  | 2 => some ([1, 3], [1], [])
  | _ => none
 ka := fun _ => 0
 kh := fun _ => none
 ow := ow0
 tc := tc1 }
theorem pc5_ok : compFn Tryz.prog pc5_a Tryz.f5 = some pc5 := by kernel_rfl
def p25o1 := [zo 2 (.mv (.const (.int .u32 0)))]
def p25o2 := [zo 3 (.mv (.const (.int .u32 4294967295)))]
def p25o3 := [zM 4 (kk 0)]
def p25o4 := [zM 7 4,
 zM 8 0,
 zo 9 (.prim (.len 9) [8]),
 zB 10 .lss 3 7 9]
def p25o9 := [zM 13 3,
 zM 14 0,
 zM 15 4,
 zo 16 (.prim (.index 9) [14, 15]),
 zo 17 (.prim (.conv 5 72) [16]),
 zB 18 .xor 72 13 17,
 zM 3 18]
def p25o10 := [zM 5 (kk 0)]
def p25o11 := [zM 19 5,
 zK 20 .lss 3 19 8]
def p25o16 := [zM 23 3,
 zo 24 (.prim (.bin .and 72 false true) [23, .const (.int .u32 1)]),
 zM 6 24]
def p25o17 := [zM 25 3,
 zo 26 (.prim (.bin .shr 72 false true) [25, .const (.int .u64 1)]),
 zM 3 26]
def p25o18 := [zM 27 6,
 zo 28 (.prim (.bin .eql 72 false true) [27, .const (.int .u32 1)])]
def p25o19 := [zM 29 3,
 zo 30 (.prim (.bin .xor 72 false true) [29, .const (.int .u32 3988292384)]),
 zM 3 30]
def p25o26 := [zM 21 5,
 zK 22 .add 3 21 1,
 zM 5 22]
def p25c28 := sq (sq (.region (some ([0, 3, 4, 5], [], [])) false p25o11) (.cond 20 (.skip) (.exit 2))) (sq (.block 3 (sq (rg p25o16) (sq (rg p25o17) (sq (rg p25o18) (.cond 28 (rg p25o19) (.skip)))))) (rg p25o26))
def p25o34 := [zM 11 4,
 zK 12 .add 3 11 1,
 zM 4 12]
def p25c34 := rg p25o34
def p25c36 := sq (sq (.region (some ([0, 3, 4], [], [])) false p25o4) (.cond 10 (.skip) (.exit 0))) (sq (.block 1 (sq (rg p25o9) (sq (rg p25o10) (.block 2 (.loop p25c28))))) p25c34)
def p25o40 := [zM 31 3,
 zo 32 (.prim (.bin .xor 72 false true) [31, .const (.int .u32 4294967295)]),
 zM 2 32]
def p25c42 := sq (rg p25o40) (rt)
def p25c45 := sq (rg p25o1) (sq (rg p25o2) (sq (sq (rg p25o3) (.block 0 (.loop p25c36))) p25c42))
def pc25_r : List PRes := [PRes.tmp 2 []]
def pc25 : PFunc := ⟨33, pc25_r, p25c45, false⟩
def pc25_a : Ann := {
 kr := fun
  | 3 => some ([0, 3, 4], [], [])
  | 7 => some ([0, 3, 4, 5], [], [])
  | _ => none
 ka := fun _ => 0
 kh := fun _ => none
 ow := ow0
 tc := tc1 }
theorem pc25_ok : compFn Tryz.prog pc25_a Tryz.f25 = some pc25 := by kernel_rfl
def p55o1 := [zo 2 (.mv (.const (ks)))]
def p55o2 := [zo 3 (.mv (.const (ks)))]
def p55o3 := [zM 4 0,
 zo 5 (.prim (.bin .lss 67 false true) [4, .const (.int .u64 128)])]
def p55o4 := [zM 6 3,
 zM 7 0,
 zo 8 (.prim (.conv 67 5) [7]),
 zo 9 (.bslice 5 1 [8]),
 zo 10 (.b2s 9),
 zB 11 .add 9 6 10,
 zM 2 11]
def p55o10 := [zM 12 3,
 zM 13 0,
 zo 14 (.prim (.bin .and 67 false true) [13, .const (.int .u64 127)]),
 zo 15 (.prim (.conv 67 5) [14]),
 zo 16 (.prim (.bin .or 5 false true) [15, .const (.int .u8 128)]),
 zo 17 (.bslice 5 1 [16]),
 zo 18 (.b2s 17),
 zB 19 .add 9 12 18,
 zM 3 19]
def p55o11 := [zM 20 0,
 zo 21 (.prim (.bin .shr 67 false true) [20, .const (.int .u64 7)]),
 zM 0 21]
def p55c14 : PCode := .block 1 (sq (sq (.region (some ([0, 3], [], [])) false p55o3) (.cond 5 (sq (rg p55o4) (rt)) (.skip))) (sq (rg p55o10) (rg p55o11)))
def p55c18 := sq (rg p55o1) (sq (rg p55o2) (.block 0 (.loop p55c14)))
def pc55_r : List PRes := [PRes.tmp 2 []]
def pc55 : PFunc := ⟨22, pc55_r, p55c18, false⟩
def pc55_a : Ann := {
 kr := fun
  | 2 => some ([0, 3], [], [])
  | _ => none
 ka := fun _ => 0
 kh := fun _ => none
 ow := ow0
 tc := tc1 }
theorem pc55_ok : compFn Tryz.prog pc55_a Tryz.f55 = some pc55 := by kernel_rfl
def p26o1 := [zo 2 (.mv (.const (ks)))]
def p26o2 := [zM 3 0,
 zo 4 (.prim (.len 9) [3]),
 zo 5 (.prim (.conv 3 67) [4]),
 zo 6 (.call true [[]] 55 [5]),
 zM 7 0,
 zB 8 .add 9 6 7,
 zM 2 8]
def p26c5 := sq (rg p26o1) (sq (rg p26o2) (rt))
def pc26_r : List PRes := [PRes.tmp 2 []]
def pc26 : PFunc := ⟨9, pc26_r, p26c5, false⟩
def pc26_a : Ann := {
 kr := fun _ => none
 ka := fun _ => 0
 kh := fun _ => none
 ow := ow0
 tc := tc1 }
theorem pc26_ok : compFn Tryz.prog pc26_a Tryz.f26 = some pc26 := by kernel_rfl
def p9o1 := [zo 2 (.mv (.const (ks)))]
def p9o2 := [zM 4 0,
 zo 5 (.call true [[]] 25 [4]),
 zM 3 5]
def p9o3 := [zi 6 0 (.mv 0),
 zi 7 6 (.call false [[]] 26 [6]),
 zi 8 3 (.mv 3),
 zi 9 8 (.prim (.conv 72 5) [8]),
 zi 10 3 (.mv 3),
 zi 11 10 (.prim (.bin .shr 72 false true) [10, .const (.int .u64 8)]),
 zi 12 11 (.prim (.conv 72 5) [11]),
 zi 13 3 (.mv 3),
 zi 14 13 (.prim (.bin .shr 72 false true) [13, .const (.int .u64 16)]),
 zi 15 14 (.prim (.conv 72 5) [14]),
 zi 16 3 (.mv 3),
 zi 17 16 (.prim (.bin .shr 72 false true) [16, .const (.int .u64 24)]),
 zi 18 17 (.prim (.conv 72 5) [17]),
 ⟨some 19, .bslice 5 1 [9, 12, 15, 18], none, [(9, .imm), (12, .imm), (15, .imm), (18, .imm)]⟩,
 zi 20 19 (.b2s 19),
 zj 21 7 20 (.prim (.bin .add 9 false false) [7, 20]),
 zi 2 21 (.mv 21)]
def p9c7 := sq (rg p9o1) (sq (rg p9o2) (sq (rh p9o3) (rt)))
def pc9_r : List PRes := [PRes.tmp 2 []]
def pc9 : PFunc := ⟨22, pc9_r, p9c7, false⟩
def pc9_a : Ann := {
 kr := fun _ => none
 ka := fun _ => 0
 kh := hg [([0, 3, 6, 7, 8, 9, 10, 11, 12, 13, 14, 15, 16, 17, 18, 19, 20, 21], .imm)]
 ow := ow0
 tc := tc1 }
theorem pc9_ok : compFn Tryz.prog pc9_a Tryz.f9 = some pc9 := by kernel_rfl
def p48o1 := [zo 2 (.mv (.const (.int .u64 0))),
 zM 3 (kk 0),
 zM 4 (kk 0)]
def p48o2 := [zo 5 (.mv (.const (.int .u64 0)))]
def p48o3 := [zM 6 (kk 0)]
def p48o4 := [zM 8 6,
 zM 9 0,
 zo 10 (.prim (.len 9) [9]),
 zB 11 .lss 3 8 10]
def p48o9 := [zM 14 0,
 zM 15 6,
 zo 16 (.prim (.index 9) [14, 15]),
 zM 7 16]
def p48o10 := [zM 17 6,
 zK 18 .eql 3 17 9,
 zM 19 18,
 zt 20 19 (.mv 7),
 zt 21 19 (.prim (.bin .gtr 5 false true) [20, .const (.int .u8 1)]),
 zo 22 (.pick 19 21 kf)]
def p48o11 := [zo 2 (.mv (.const (.int .u64 0))),
 zM 3 (kk 0),
 zM 4 (kk 11)]
def p48o17 := [zM 23 5,
 zM 24 7,
 zo 25 (.prim (.bin .and 5 false true) [24, .const (.int .u8 127)]),
 zo 26 (.prim (.conv 5 67) [25]),
 zM 27 6,
 zo 28 (.prim (.bin .mul 3 true false) [kk 7, 27]),
 zo 29 (.prim (.conv 3 74) [28]),
 zB 30 .shl 67 26 29,
 zB 31 .or 67 23 30,
 zM 5 31]
def p48o18 := [zM 32 7,
 zo 33 (.prim (.bin .lss 5 false true) [32, .const (.int .u8 128)])]
def p48o19 := [zM 34 7,
 zo 35 (.prim (.bin .eql 5 false true) [34, .const (.int .u8 0)]),
 zM 36 35,
 zt 37 36 (.mv 6),
 zt 38 36 (.prim (.bin .gtr 3 false true) [37, kk 0]),
 zo 39 (.pick 36 38 kf)]
def p48o20 := [zo 2 (.mv (.const (.int .u64 0))),
 zM 3 (kk 0),
 zM 4 (kk 11)]
def p48o26 := [zM 40 5,
 zM 41 6,
 zK 42 .add 3 41 1,
 zM 2 40,
 zM 3 42,
 zM 4 (kk 0)]
def p48c28 := sq (.region (some ([5, 6], [], [])) false p48o26) (rt)
def p48c33 := sq (.region (some ([0, 5, 6, 7], [], [])) false p48o17) (sq (rg p48o18) (.cond 33 (sq (sq (rg p48o19) (.cond 39 (sq (rg p48o20) (rt)) (.skip))) p48c28) (.skip)))
def p48o37 := [zM 12 6,
 zK 13 .add 3 12 1,
 zM 6 13]
def p48c37 := rg p48o37
def p48c39 := sq (sq (.region (some ([0, 5, 6], [], [])) false p48o4) (.cond 11 (.skip) (.exit 0))) (sq (.block 1 (sq (rg p48o9) (sq (sq (rg p48o10) (.cond 22 (sq (rg p48o11) (rt)) (.skip))) p48c33))) p48c37)
def p48o43 := [zo 2 (.mv (.const (.int .u64 0))),
 zM 3 (kk 0),
 zM 4 (kk 10)]
def p48c45 := sq (rg p48o43) (rt)
def p48c48 := sq (rg p48o1) (sq (rg p48o2) (sq (sq (rg p48o3) (.block 0 (.loop p48c39))) p48c45))
def pc48_r : List PRes := [PRes.tmp 2 [], PRes.tmp 3 [], PRes.tmp 4 []]
def pc48 : PFunc := ⟨43, pc48_r, p48c48, false⟩
def pc48_a : Ann := {
 kr := fun
  | 3 => some ([0, 5, 6], [], [])
  | 8 => some ([0, 5, 6, 7], [], [])
  | 12 => some ([5, 6], [], [])
  | _ => none
 ka := fun _ => 0
 kh := fun _ => none
 ow := ow0
 tc := tc1 }
theorem pc48_ok : compFn Tryz.prog pc48_a Tryz.f48 = some pc48 := by kernel_rfl
def p23o1 := [zo 4 (.mv (.const (ks))),
 zM 5 (kk 0),
 zM 6 (kk 0)]
def p23o2 := [zM 11 0,
 zo 12 (.call true [[]] 48 [11]),
 zM 10 12,
 zX 13 10 0,
 zX 14 10 1,
 zX 15 10 2,
 zM 7 13,
 zM 8 14,
 zM 9 15]
def p23o3 := [zM 17 9,
 zK 18 .neq 3 17 0,
 zM 16 18]
def p23o4 := [zM 19 9,
 zo 4 (.mv (.const (ks))),
 zM 5 (kk 0),
 zM 6 19]
def p23o7 := [zM 21 7,
 zM 22 1,
 zo 23 (.prim .max [kk 0, 22]),
 zo 24 (.prim (.conv 3 67) [23]),
 zB 25 .gtr 67 21 24,
 zM 20 25]
def p23o8 := [zo 4 (.mv (.const (ks))),
 zM 5 (kk 0),
 zM 6 (kk 13)]
def p23o11 := [zM 27 7,
 zM 28 0,
 zo 29 (.prim (.len 9) [28]),
 zM 30 8,
 zB 31 .sub 3 29 30,
 zo 32 (.prim (.conv 3 67) [31]),
 zB 33 .gtr 67 27 32,
 zM 26 33]
def p23o12 := [zo 4 (.mv (.const (ks))),
 zM 5 (kk 0),
 zM 6 (kk 10)]
def p23o23 := [zM 34 0,
 zM 35 8,
 zM 36 8,
 zM 37 7,
 zo 38 (.prim (.conv 67 3) [37]),
 zB 39 .add 3 36 38,
 zo 40 (.prim (.slice 9 true true) [34, 35, 39]),
 zM 41 8,
 zM 42 7,
 zo 43 (.prim (.conv 67 3) [42]),
 zB 44 .add 3 41 43,
 zM 4 40,
 zM 5 44,
 zM 6 (kk 0)]
def p23c28 := sq (rg p23o1) (sq (rg p23o2) (sq (.block 0 (sq (rg p23o3) (.cond 16 (sq (rg p23o4) (rt)) (sq (rg p23o7) (.cond 20 (sq (rg p23o8) (rt)) (sq (rg p23o11) (.cond 26 (sq (rg p23o12) (rt)) (.skip)))))))) (sq (rg p23o23) (rt))))
def pc23_r : List PRes := [PRes.tmp 4 [], PRes.tmp 5 [], PRes.tmp 6 []]
def pc23 : PFunc := ⟨45, pc23_r, p23c28, false⟩
def pc23_a : Ann := {
 kr := fun _ => none
 ka := fun _ => 0
 kh := fun _ => none
 ow := ow0
 tc := tc1 }
theorem pc23_ok : compFn Tryz.prog pc23_a Tryz.f23 = some pc23 := by kernel_rfl
def p7o1 := [zo 2 (.mv (.const (ks))),
 zM 3 (kk 0),
 zM 4 (kk 0)]
def p7o2 := [zM 9 0,
 zo 10 (.call true [[], []] 23 [9, kk 40000]),
 zM 8 10,
 zX 11 8 0,
 zX 12 8 1,
 zX 13 8 2,
 zM 5 11,
 zM 6 12,
 zM 7 13]
def p7o3 := [zM 14 7,
 zK 15 .neq 3 14 0]
def p7o4 := [zM 16 7,
 zo 2 (.mv (.const (ks))),
 zM 3 (kk 0),
 zM 4 16]
def p7o10 := [zM 17 0,
 zo 18 (.prim (.len 9) [17]),
 zM 19 6,
 zK 20 .add 3 19 4,
 zB 21 .lss 3 18 20]
def p7o11 := [zo 2 (.mv (.const (ks))),
 zM 3 (kk 0),
 zM 4 (kk 10)]
def p7o17 := [zi 22 5 (.mv 5),
 zi 23 22 (.call false [[]] 9 [22]),
 zi 24 0 (.mv 0),
 zi 25 6 (.mv 6),
 zi 26 25 (.prim (.bin .add 3 false true) [25, kk 4]),
 zj 27 24 26 (.prim (.slice 9 false true) [24, 26]),
 zj 28 23 27 (.prim (.bin .neq 9 false false) [23, 27])]
def p7o18 := [zo 2 (.mv (.const (ks))),
 zM 3 (kk 0),
 zM 4 (kk 12)]
def p7o24 := [zM 29 5,
 zM 30 6,
 zK 31 .add 3 30 4,
 zM 2 29,
 zM 3 31,
 zM 4 (kk 0)]
def p7c31 := sq (rg p7o1) (sq (rg p7o2) (sq (sq (rg p7o3) (.cond 15 (sq (rg p7o4) (rt)) (.skip))) (sq (sq (rg p7o10) (.cond 21 (sq (rg p7o11) (rt)) (.skip))) (sq (sq (rh p7o17) (.cond 28 (sq (rg p7o18) (rt)) (.skip))) (sq (rg p7o24) (rt))))))
def pc7_r : List PRes := [PRes.tmp 2 [], PRes.tmp 3 [], PRes.tmp 4 []]
def pc7 : PFunc := ⟨32, pc7_r, p7c31, false⟩
def pc7_a : Ann := {
 kr := fun _ => none
 ka := fun _ => 0
 kh := hg [([0, 5, 6, 22, 23, 24, 25, 26, 27], .imm)]
 ow := ow0
 tc := tc1 }
theorem pc7_ok : compFn Tryz.prog pc7_a Tryz.f7 = some pc7 := by kernel_rfl
def p79o1 := [zo 1 (.box 44 0 []),
 zM 2 kf]
def p79o2 := [zG 3 0 1,
 zL 4 3,
 zK 5 .eql 2 4 0,
 zM 6 5,
 zf 7 6 (.faddr 1 1),
 zf 8 6 (.load false 1 7),
 zf 9 6 (.prim (.bin .eql 9 false true) [8, .const (ks)]),
 zo 10 (.pick 6 kt 9),
 zM 11 10,
 zt 12 11 (.faddr 1 1),
 zt 13 11 (.load false 1 12),
 zt 14 11 (.prim (.len 9) [13]),
 zt 15 11 (.prim (.bin .leq 3 false true) [14, kk 12]),
 zo 16 (.pick 11 15 kf),
 zM 2 16]
def p79c5 := sq (rg p79o1) (sq (rg p79o2) (rt))
def pc79_r : List PRes := [PRes.tmp 2 []]
def pc79 : PFunc := ⟨17, pc79_r, p79c5, false⟩
def pc79_a : Ann := {
 kr := fun _ => none
 ka := fun _ => 0
 kh := fun _ => none
 ow := ow0
 tc := tc1 }
theorem pc79_ok : compFn Tryz.prog pc79_a Tryz.f79 = some pc79 := by kernel_rfl
def p80o1 := [zo 1 (.box 42 0 []),
 zM 2 kf]
def p80o2 := [zG 3 0 1,
 zL 4 3,
 zK 5 .geq 3 4 0,
 zM 6 5,
 zt 7 6 (.faddr 0 1),
 zt 8 6 (.load false 1 7),
 zt 9 6 (.prim (.bin .lss 3 false true) [8, kk 64]),
 zo 10 (.pick 6 9 kf),
 zM 11 10,
 zt 12 11 (.faddr 1 1),
 zt 13 11 (.load false 1 12),
 zt 14 11 (.prim (.bin .geq 3 false true) [13, kk 0]),
 zo 15 (.pick 11 14 kf),
 zM 16 15,
 zt 17 16 (.faddr 1 1),
 zt 18 16 (.load false 1 17),
 zt 19 16 (.prim (.bin .lss 3 false true) [18, kk 64]),
 zo 20 (.pick 16 19 kf),
 zM 2 20]
def p80c5 := sq (rg p80o1) (sq (rg p80o2) (rt))
def pc80_r : List PRes := [PRes.tmp 2 []]
def pc80 : PFunc := ⟨21, pc80_r, p80c5, false⟩
def pc80_a : Ann := {
 kr := fun _ => none
 ka := fun _ => 0
 kh := fun _ => none
 ow := ow0
 tc := tc1 }
theorem pc80_ok : compFn Tryz.prog pc80_a Tryz.f80 = some pc80 := by kernel_rfl
def p74o1 := [zo 1 (.box 47 0 []),
 zM 2 kf]
def p74o2 := [zG 5 0 1,
 zL 6 5,
 zK 7 .geq 3 6 0,
 zM 8 7,
 zt 9 8 (.faddr 0 1),
 zt 10 8 (.load false 1 9),
 zt 11 8 (.prim (.bin .leq 3 false true) [10, kk 1000000]),
 zo 12 (.pick 8 11 kf),
 zM 13 12,
 zt 14 13 (.faddr 1 1),
 zt 15 13 (.load true 2 14),
 zt 16 13 (.call true [[]] 80 [15]),
 zo 17 (.pick 13 16 kf),
 zM 3 17]
def p74o3 := [zM 4 (kk 0)]
def p74o4 := [zM 18 4,
 zK 19 .lss 3 18 4]
def p74o9 := [zM 22 3,
 zM 23 22,
 zt 24 23 (.mv 4),
 zt 25 23 (.faddr 3 1),
 zt 26 23 (.iaddrA 4 2 25 24),
 zt 27 23 (.load true 2 26),
 zt 28 23 (.call true [[]] 79 [27]),
 zo 29 (.pick 23 28 kf),
 zM 3 29]
def p74o11 := [zM 20 4,
 zK 21 .add 3 20 1,
 zM 4 21]
def p74c13 := sq (sq (.region (some ([1, 3, 4], [1], [])) false p74o4) (.cond 19 (.skip) (.exit 0))) (sq (.block 1 (rg p74o9)) (rg p74o11))
def p74o17 := [zM 30 3,
 zM 2 30]
def p74c19 := sq (rg p74o17) (rt)
def p74c20 := sq (sq (.region (some ([1, 3], [1], [])) false p74o3) (.block 0 (.loop p74c13))) p74c19
def p74c22 := sq (rg p74o1) (sq (rg p74o2) p74c20)
def pc74_r : List PRes := [PRes.tmp 2 []]
def pc74 : PFunc := ⟨31, pc74_r, p74c22, false⟩
def pc74_a : Ann := {
 kr := fun
  | 2 => some ([1, 3], [1], [])
  | 3 => some ([1, 3, 4], [1], [])
  | _ => none
 ka := fun _ => 0
 kh := fun _ => none
 ow := ow0
 tc := tc1 }
theorem pc74_ok : compFn Tryz.prog pc74_a Tryz.f74 = some pc74 := by kernel_rfl
def p49o1 := [zM 2 kf]
def p49o2 := [zM 3 (kk 0)]
def p49o3 := [zM 4 3,
 zM 5 0,
 zo 6 (.lenS 5),
 zB 7 .lss 3 4 6]
def p49o8 := [zi 10 0 (.mv 0),
 zi 11 3 (.mv 3),
 zj 12 10 11 (.iaddrS 11 10 11),
 zi 13 12 (.load true 11 12),
 zi 14 13 (.call false [[]] 74 [13]),
 zi 15 14 (.prim (.un .not) [14]),
 zi 16 15 (.mv 15),
 ⟨some 17, .mv 3, some (16, false), [(3, .imm)]⟩,
 ⟨some 18, .prim (.bin .gtr 3 false true) [17, kk 0], some (16, false), [(17, .imm)]⟩,
 ⟨some 19, .mv 18, some (16, false), [(18, .imm)]⟩,
 ⟨some 20, .mv 0, some (19, true), [(0, .imm)]⟩,
 ⟨some 21, .mv 3, some (19, true), [(3, .imm)]⟩,
 ⟨some 22, .iaddrS 11 20 21, some (19, true), [(20, .imm), (21, .imm)]⟩,
 ⟨some 23, .faddr 0 22, some (19, true), [(22, .imm)]⟩,
 ⟨some 24, .load false 1 23, some (19, true), [(23, .imm)]⟩,
 ⟨some 25, .mv 0, some (19, true), [(0, .imm)]⟩,
 ⟨some 26, .mv 3, some (19, true), [(3, .imm)]⟩,
 ⟨some 27, .prim (.bin .sub 3 false true) [26, kk 1], some (19, true), [(26, .imm)]⟩,
 ⟨some 28, .iaddrS 11 25 27, some (19, true), [(25, .imm), (27, .imm)]⟩,
 ⟨some 29, .faddr 0 28, some (19, true), [(28, .imm)]⟩,
 ⟨some 30, .load false 1 29, some (19, true), [(29, .imm)]⟩,
 ⟨some 31, .prim (.bin .leq 3 false false) [24, 30], some (19, true), [(24, .imm), (30, .imm)]⟩,
 ⟨some 32, .pick 19 31 kf, some (16, false), [(19, .imm), (31, .imm)]⟩,
 zj 33 16 32 (.pick 16 kt 32)]
def p49o9 := [zM 2 kf]
def p49o16 := [zM 8 3,
 zK 9 .add 3 8 1,
 zM 3 9]
def p49c18 := sq (sq (.region (some ([0, 3], [], [])) false p49o3) (.cond 7 (.skip) (.exit 0))) (sq (.block 1 (sq (rh p49o8) (.cond 33 (sq (rg p49o9) (rt)) (.skip)))) (rg p49o16))
def p49o22 := [zM 34 0,
 zo 35 (.lenS 34),
 zK 36 .leq 3 35 200,
 zM 2 36]
def p49c24 := sq (rg p49o22) (rt)
def p49c26 := sq (rg p49o1) (sq (sq (rg p49o2) (.block 0 (.loop p49c18))) p49c24)
def pc49_r : List PRes := [PRes.tmp 2 []]
def pc49 : PFunc := ⟨37, pc49_r, p49c26, false⟩
def pc49_a : Ann := {
 kr := fun
  | 2 => some ([0, 3], [], [])
  | _ => none
 ka := fun _ => 0
 kh := hg [([0, 3, 10, 11, 12, 13, 14, 15, 16, 17, 18, 19, 20, 21, 22, 23, 24, 25, 26, 27, 28, 29, 30, 31, 32], .imm)]
 ow := ow0
 tc := tc1 }
theorem pc49_ok : compFn Tryz.prog pc49_a Tryz.f49 = some pc49 := by kernel_rfl
def p50o1 := [zM 2 kf]
def p50o2 := [zM 3 0,
 zK 4 .geq 3 3 0,
 zM 5 4,
 zt 6 5 (.mv 0),
 zt 7 5 (.prim (.bin .lss 3 false true) [6, kk 16]),
 zo 8 (.pick 5 7 kf),
 zM 2 8]
def p50c5 := sq (rg p50o1) (sq (rg p50o2) (rt))
def pc50_r : List PRes := [PRes.tmp 2 []]
def pc50 : PFunc := ⟨9, pc50_r, p50c5, false⟩
def pc50_a : Ann := {
 kr := fun _ => none
 ka := fun _ => 0
 kh := fun _ => none
 ow := ow0
 tc := tc1 }
theorem pc50_ok : compFn Tryz.prog pc50_a Tryz.f50 = some pc50 := by kernel_rfl
def p75o1 := [zM 6 kf]
def p75o2 := [zM 7 0,
 zM 8 1,
 zB 9 .geq 3 7 8,
 zM 10 9,
 zt 11 10 (.mv 0),
 zt 12 10 (.mv 2),
 zt 13 10 (.prim (.bin .leq 3 false false) [11, 12]),
 zo 14 (.pick 10 13 kf),
 zM 6 14]
def p75c5 := sq (rg p75o1) (sq (rg p75o2) (rt))
def pc75_r : List PRes := [PRes.tmp 6 []]
def pc75 : PFunc := ⟨15, pc75_r, p75c5, false⟩
def pc75_a : Ann := {
 kr := fun _ => none
 ka := fun _ => 0
 kh := fun _ => none
 ow := ow0
 tc := tc1 }
theorem pc75_ok : compFn Tryz.prog pc75_a Tryz.f75 = some pc75 := by kernel_rfl
def p76o1 := [zo 1 (.box 56 0 []),
 zo 2 (.alloc 56 (.agg #[ki, ki, ki, ki, ki, ki, ki, ks, ki, ks, ki, ks, ki, ks, ki, ks, ki, ki, ki, ki, ki, ki]) [])]
def p76o2 := [zG 4 0 1,
 zL 5 4,
 zG 6 16 1,
 zL 7 6,
 zG 8 17 1,
 zL 9 8,
 zo 10 (.build (.agg #[ki, ki, ki, ki, ki, ki, ki, ks, ki, ks, ki, ks, ki, ks, ki, ks, ki, ki, ki, ki, ki, ki]) [(0, 1, .tmp 5), (16, 1, .tmp 7), (17, 1, .tmp 9)]),
 zo 3 (.alloc 56 (.agg #[ki, ki, ki, ki, ki, ki, ki, ks, ki, ks, ki, ks, ki, ks, ki, ks, ki, ki, ki, ki, ki, ki]) []),
 zs (.store 22 3 10)]
def p76o3 := [zG 11 0 1,
 zL 12 11]
def p76o4 := [zK 14 .eql 3 12 1,
 zM 13 14]
def p76o5 := [za 15 1 1 0 (.faddr 4 1),
 za 16 15 1 4 (.load true 2 15),
 za 17 1 1 0 (.faddr 6 1),
 za 18 17 1 6 (.load true 8 17),
 za 19 3 3 0 (.faddr 4 3),
 zn (.store 2 19 16) [(19, .at_ 3 4), (16, .imm)],
 za 20 3 3 0 (.faddr 6 3),
 zn (.store 8 20 18) [(20, .at_ 3 6), (18, .imm)]]
def p76o6 := [zK 22 .eql 3 12 2,
 zM 21 22]
def p76o7 := [za 23 1 1 0 (.faddr 1 1),
 za 24 23 1 1 (.load false 1 23),
 za 25 1 1 0 (.faddr 4 1),
 za 26 25 1 4 (.load true 2 25),
 za 27 3 3 0 (.faddr 1 3),
 zn (.store 1 27 24) [(27, .at_ 3 1), (24, .imm)],
 za 28 3 3 0 (.faddr 4 3),
 zn (.store 2 28 26) [(28, .at_ 3 4), (26, .imm)]]
def p76o8 := [zK 30 .eql 3 12 3,
 zM 29 30]
def p76o9 := [za 31 1 1 0 (.faddr 1 1),
 za 32 31 1 1 (.load false 1 31),
 za 33 1 1 0 (.faddr 2 1),
 za 34 33 1 2 (.load false 1 33),
 za 35 1 1 0 (.faddr 14 1),
 za 36 35 1 14 (.load true 2 35),
 za 37 3 3 0 (.faddr 1 3),
 zn (.store 1 37 32) [(37, .at_ 3 1), (32, .imm)],
 za 38 3 3 0 (.faddr 2 3),
 zn (.store 1 38 34) [(38, .at_ 3 2), (34, .imm)],
 za 39 3 3 0 (.faddr 14 3),
 zn (.store 2 39 36) [(39, .at_ 3 14), (36, .imm)]]
def p76o10 := [zK 41 .eql 3 12 4,
 zM 40 41]
def p76o11 := [zG 42 1 1,
 zL 43 42,
 zG 44 1 3,
 zs (.store 1 44 43)]
def p76o12 := [zK 46 .eql 3 12 5,
 zM 45 46]
def p76o13 := [za 47 1 1 0 (.faddr 2 1),
 za 48 47 1 2 (.load false 1 47),
 za 49 1 1 0 (.faddr 3 1),
 za 50 49 1 3 (.load false 1 49),
 za 51 3 3 0 (.faddr 2 3),
 zn (.store 1 51 48) [(51, .at_ 3 2), (48, .imm)],
 za 52 3 3 0 (.faddr 3 3),
 zn (.store 1 52 50) [(52, .at_ 3 3), (50, .imm)]]
def p76o14 := [zK 54 .eql 3 12 6,
 zM 53 54]
def p76o16 := [zK 55 .eql 3 12 7,
 zM 53 55]
def p76o19 := [zG 56 18 1,
 zo 57 (.load true 4 56),
 zG 58 18 3,
 zs (.store 4 58 57)]
def p76o35 := [zo 59 (.load true 22 3),
 zs (.store 22 2 59)]
def p76c40 := sq (rg p76o1) (sq (rg p76o2) (sq (sq (rg p76o3) (.block 0 (sq (rg p76o4) (.cond 13 (rh p76o5) (sq (rg p76o6) (.cond 21 (rh p76o7) (sq (rg p76o8) (.cond 29 (rh p76o9) (sq (rg p76o10) (.cond 40 (rg p76o11) (sq (rg p76o12) (.cond 45 (rh p76o13) (sq (sq (rg p76o14) (.cond 53 (.skip) (rg p76o16))) (.cond 53 (rg p76o19) (.skip))))))))))))))) (sq (rg p76o35) (rt))))
def pc76_r : List PRes := [PRes.cell 2 true 22 []]
def pc76 : PFunc := ⟨60, pc76_r, p76c40, false⟩
def pc76_a : Ann := {
 kr := fun _ => none
 ka := fun _ => 0
 kh := hg [([1], .at_ 1 0), ([3], .at_ 3 0), ([15, 25], .at_ 1 4), ([16, 18, 24, 26, 32, 34, 36, 48, 50], .imm), ([17], .at_ 1 6), ([19, 28], .at_ 3 4), ([20], .at_ 3 6), ([23, 31], .at_ 1 1), ([27, 37], .at_ 3 1), ([33, 47], .at_ 1 2), ([35], .at_ 1 14), ([38, 51], .at_ 3 2), ([39], .at_ 3 14), ([49], .at_ 1 3), ([52], .at_ 3 3)]
 ow := ow0
 tc := tc1 }
theorem pc76_ok : compFn Tryz.prog pc76_a Tryz.f76 = some pc76 := by kernel_rfl
def p77o1 := [zo 1 (.box 42 0 []),
 zM 2 kf]
def p77o2 := [zG 3 0 1,
 zL 4 3,
 zo 5 (.call true [[], [], []] 75 [4, .const (.int .i64 (-1000)), kk 1000]),
 zM 6 5,
 zt 7 6 (.faddr 1 1),
 zt 8 6 (.load false 1 7),
 zt 9 6 (.call true [[], [], []] 75 [8, .const (.int .i64 (-1000)), kk 1000]),
 zo 10 (.pick 6 9 kf),
 zM 2 10]
def p77c5 := sq (rg p77o1) (sq (rg p77o2) (rt))
def pc77_r : List PRes := [PRes.tmp 2 []]
def pc77 : PFunc := ⟨11, pc77_r, p77c5, false⟩
def pc77_a : Ann := {
 kr := fun _ => none
 ka := fun _ => 0
 kh := fun _ => none
 ow := ow0
 tc := tc1 }
theorem pc77_ok : compFn Tryz.prog pc77_a Tryz.f77 = some pc77 := by kernel_rfl
def p78o1 := [zo 1 (.box 54 0 []),
 zM 2 kf]
def p78o2 := [zG 3 0 1,
 zL 4 3,
 zG 5 1 1,
 zL 6 5,
 zo 7 (.build (.agg #[ki, ki]) [(0, 1, .tmp 4), (1, 1, .tmp 6)]),
 zo 8 (.call true [[]] 77 [7]),
 zM 9 8,
 zt 10 9 (.faddr 2 1),
 zt 11 9 (.load false 1 10),
 zt 12 9 (.faddr 3 1),
 zt 13 9 (.load false 1 12),
 zt 14 9 (.build (.agg #[ki, ki]) [(0, 1, .tmp 11), (1, 1, .tmp 13)]),
 zt 15 9 (.call true [[]] 77 [14]),
 zo 16 (.pick 9 15 kf),
 zM 2 16]
def p78c5 := sq (rg p78o1) (sq (rg p78o2) (rt))
def pc78_r : List PRes := [PRes.tmp 2 []]
def pc78 : PFunc := ⟨17, pc78_r, p78c5, false⟩
def pc78_a : Ann := {
 kr := fun _ => none
 ka := fun _ => 0
 kh := fun _ => none
 ow := ow0
 tc := tc1 }
theorem pc78_ok : compFn Tryz.prog pc78_a Tryz.f78 = some pc78 := by kernel_rfl
def p51o1 := [zo 1 (.box 56 0 []),
 zM 2 kf]
def p51o2 := [za 5 1 1 0 (.faddr 0 1),
 za 6 5 1 0 (.load false 1 5),
 zi 7 6 (.call false [[], [], []] 75 [6, kk 1, kk 8]),
 zi 8 7 (.mv 7),
 ⟨some 9, .faddr 16 1, some (8, true), [(1, .at_ 1 0)]⟩,
 ⟨some 10, .load false 1 9, some (8, true), [(9, .at_ 1 16)]⟩,
 ⟨some 11, .call false [[], [], []] 75 [10, kk 0, kk 3], some (8, true), [(10, .imm)]⟩,
 zj 12 8 11 (.pick 8 11 kf),
 zi 13 12 (.mv 12),
 ⟨some 14, .faddr 17 1, some (13, true), [(1, .at_ 1 0)]⟩,
 ⟨some 15, .load false 1 14, some (13, true), [(14, .at_ 1 17)]⟩,
 ⟨some 16, .call false [[], [], []] 75 [15, kk 0, kk 1000000], some (13, true), [(15, .imm)]⟩,
 zj 17 13 16 (.pick 13 16 kf),
 zi 18 17 (.mv 17),
 ⟨some 19, .load true 22 1, some (18, true), [(1, .at_ 1 0)]⟩,
 ⟨some 20, .load true 22 1, some (18, true), [(1, .at_ 1 0)]⟩,
 ⟨some 21, .call false [[]] 76 [20], some (18, true), [(20, .imm)]⟩,
 ⟨some 22, .prim (.bin .eql 56 false false) [19, 21], some (18, true), [(19, .imm), (21, .imm)]⟩,
 zj 23 18 22 (.pick 18 22 kf),
 zi 24 23 (.mv 23),
 ⟨some 25, .faddr 4 1, some (24, true), [(1, .at_ 1 0)]⟩,
 ⟨some 26, .load true 2 25, some (24, true), [(25, .at_ 1 4)]⟩,
 ⟨some 27, .call false [[]] 77 [26], some (24, true), [(26, .imm)]⟩,
 zj 28 24 27 (.pick 24 27 kf),
 zi 29 28 (.mv 28),
 ⟨some 30, .faddr 18 1, some (29, true), [(1, .at_ 1 0)]⟩,
 ⟨some 31, .load true 4 30, some (29, true), [(30, .at_ 1 18)]⟩,
 ⟨some 32, .call false [[]] 78 [31], some (29, true), [(31, .imm)]⟩,
 zj 33 29 32 (.pick 29 32 kf),
 zi 34 33 (.mv 33),
 ⟨some 35, .faddr 1 1, some (34, true), [(1, .at_ 1 0)]⟩,
 ⟨some 36, .load false 1 35, some (34, true), [(35, .at_ 1 1)]⟩,
 ⟨some 37, .call false [[], [], []] 75 [36, kk 0, kk 1000000], some (34, true), [(36, .imm)]⟩,
 zj 38 34 37 (.pick 34 37 kf),
 zi 39 38 (.mv 38),
 ⟨some 40, .faddr 2 1, some (39, true), [(1, .at_ 1 0)]⟩,
 ⟨some 41, .load false 1 40, some (39, true), [(40, .at_ 1 2)]⟩,
 ⟨some 42, .call false [[], [], []] 75 [41, .const (.int .i64 (-1)), kk 100], some (39, true), [(41, .imm)]⟩,
 zj 43 39 42 (.pick 39 42 kf),
 zi 44 43 (.mv 43),
 ⟨some 45, .faddr 3 1, some (44, true), [(1, .at_ 1 0)]⟩,
 ⟨some 46, .load false 1 45, some (44, true), [(45, .at_ 1 3)]⟩,
 ⟨some 47, .call false [[], [], []] 75 [46, .const (.int .i64 (-1)), kk 100], some (44, true), [(46, .imm)]⟩,
 zj 48 44 47 (.pick 44 47 kf),
 zi 49 48 (.mv 48),
 ⟨some 50, .faddr 14 1, some (49, true), [(1, .at_ 1 0)]⟩,
 ⟨some 51, .load true 2 50, some (49, true), [(50, .at_ 1 14)]⟩,
 ⟨some 52, .call false [[]] 79 [51], some (49, true), [(51, .imm)]⟩,
 zj 53 49 52 (.pick 49 52 kf),
 zi 3 53 (.mv 53)]
def p51o3 := [zM 4 (kk 0)]
def p51o4 := [zM 54 4,
 zK 55 .lss 3 54 4]
def p51o9 := [zM 58 3,
 zM 59 58,
 zt 60 59 (.mv 4),
 zt 61 59 (.faddr 6 1),
 zt 62 59 (.iaddrA 4 2 61 60),
 zt 63 59 (.load true 2 62),
 zt 64 59 (.call true [[]] 79 [63]),
 zo 65 (.pick 59 64 kf),
 zM 3 65]
def p51o11 := [zM 56 4,
 zK 57 .add 3 56 1,
 zM 4 57]
def p51c13 := sq (sq (.region (some ([1, 3, 4], [1], [])) false p51o4) (.cond 55 (.skip) (.exit 0))) (sq (.block 1 (rg p51o9)) (rg p51o11))
def p51o17 := [zM 66 3,
 zM 2 66]
def p51c19 := sq (rg p51o17) (rt)
def p51c20 := sq (sq (.region (some ([1, 3], [1], [])) false p51o3) (.block 0 (.loop p51c13))) p51c19
def p51c22 := sq (rg p51o1) (sq (rh p51o2) p51c20)
def pc51_r : List PRes := [PRes.tmp 2 []]
def pc51 : PFunc := ⟨67, pc51_r, p51c22, false⟩
def pc51_a : Ann := {
 kr := fun
  | 2 => some ([1, 3], [1], [])
  | 3 => some ([1, 3, 4], [1], [])
  | _ => none
 ka := fun _ => 0
 kh := hg [([1, 5], .at_ 1 0), ([6, 7, 8, 10, 11, 12, 13, 15, 16, 17, 18, 19, 20, 21, 22, 23, 24, 26, 27, 28, 29, 31, 32, 33, 34, 36, 37, 38, 39, 41, 42, 43, 44, 46, 47, 48, 49, 51, 52, 53], .imm), ([9], .at_ 1 16), ([14], .at_ 1 17), ([25], .at_ 1 4), ([30], .at_ 1 18), ([35], .at_ 1 1), ([40], .at_ 1 2), ([45], .at_ 1 3), ([50], .at_ 1 14)]
 ow := ow0
 tc := tc1 }
theorem pc51_ok : compFn Tryz.prog pc51_a Tryz.f51 = some pc51 := by kernel_rfl
def p52o1 := [zo 1 (.box 56 0 []),
 zM 2 kf]
def p52o2 := [zG 3 0 1,
 zL 4 3,
 zo 5 (.call true [[], [], []] 75 [4, kk 6, kk 8]),
 zM 2 5]
def p52c5 := sq (rg p52o1) (sq (rg p52o2) (rt))
def pc52_r : List PRes := [PRes.tmp 2 []]
def pc52 : PFunc := ⟨6, pc52_r, p52c5, false⟩
def pc52_a : Ann := {
 kr := fun _ => none
 ka := fun _ => 0
 kh := fun _ => none
 ow := ow0
 tc := tc1 }
theorem pc52_ok : compFn Tryz.prog pc52_a Tryz.f52 = some pc52 := by kernel_rfl
def p81o1 := [zo 4 (.mv (.const (.int .u32 0)))]
def p81o2 := [zo 5 (.mv (.const (.int .u32 0)))]
def p81o3 := [zM 6 (kk 0)]
def p81o4 := [zM 7 6,
 zK 8 .lss 3 7 16]
def p81o9 := [zM 11 5,
 zM 12 0,
 zM 13 6,
 zo 14 (.prim (.conv 3 74) [13]),
 zB 15 .shr 27 12 14,
 zo 16 (.prim (.bin .and 27 false true) [15, .const (.int .u16 1)]),
 zo 17 (.prim (.conv 27 72) [16]),
 zM 18 6,
 zo 19 (.prim (.bin .mul 3 true false) [kk 2, 18]),
 zo 20 (.prim (.conv 3 74) [19]),
 zB 21 .shl 72 17 20,
 zB 22 .or 72 11 21,
 zM 23 1,
 zM 24 6,
 zo 25 (.prim (.conv 3 74) [24]),
 zB 26 .shr 27 23 25,
 zo 27 (.prim (.bin .and 27 false true) [26, .const (.int .u16 1)]),
 zo 28 (.prim (.conv 27 72) [27]),
 zM 29 6,
 zo 30 (.prim (.bin .mul 3 true false) [kk 2, 29]),
 zK 31 .add 3 30 1,
 zo 32 (.prim (.conv 3 74) [31]),
 zB 33 .shl 72 28 32,
 zB 34 .or 72 22 33,
 zM 5 34]
def p81o11 := [zM 9 6,
 zK 10 .add 3 9 1,
 zM 6 10]
def p81c13 := sq (sq (.region (some ([0, 1, 5, 6], [], [])) false p81o4) (.cond 8 (.skip) (.exit 0))) (sq (.block 1 (rg p81o9)) (rg p81o11))
def p81o17 := [zM 35 5,
 zM 4 35]
def p81c19 := sq (rg p81o17) (rt)
def p81c22 := sq (rg p81o1) (sq (rg p81o2) (sq (sq (rg p81o3) (.block 0 (.loop p81c13))) p81c19))
def pc81_r : List PRes := [PRes.tmp 4 []]
def pc81 : PFunc := ⟨36, pc81_r, p81c22, false⟩
def pc81_a : Ann := {
 kr := fun
  | 3 => some ([0, 1, 5, 6], [], [])
  | _ => none
 ka := fun _ => 0
 kh := fun _ => none
 ow := ow0
 tc := tc1 }
theorem pc81_ok : compFn Tryz.prog pc81_a Tryz.f81 = some pc81 := by kernel_rfl
def p53o1 := [zo 1 (.box 42 0 []),
 zM 2 (kk 0),
 zM 3 (kk 0)]
def p53o2 := [zo 4 (.load true 2 1),
 zo 5 (.call true [[]] 80 [4]),
 zo 6 (.prim (.un .not) [5])]
def p53o3 := [zM 2 (kk 0),
 zM 3 (kk 14)]
def p53o9 := [zG 7 0 1,
 zL 8 7,
 zK 9 .quo 3 8 16,
 zo 10 (.prim (.conv 3 27) [9]),
 zG 11 1 1,
 zL 12 11,
 zK 13 .quo 3 12 16,
 zo 14 (.prim (.conv 3 27) [13]),
 zo 15 (.call true [[], []] 81 [10, 14]),
 zo 16 (.prim (.conv 72 3) [15]),
 zM 2 16,
 zM 3 (kk 0)]
def p53c13 := sq (rg p53o1) (sq (sq (rg p53o2) (.cond 6 (sq (rg p53o3) (rt)) (.skip))) (sq (rg p53o9) (rt)))
def pc53_r : List PRes := [PRes.tmp 2 [], PRes.tmp 3 []]
def pc53 : PFunc := ⟨17, pc53_r, p53c13, false⟩
def pc53_a : Ann := {
 kr := fun _ => none
 ka := fun _ => 0
 kh := fun _ => none
 ow := ow0
 tc := tc1 }
theorem pc53_ok : compFn Tryz.prog pc53_a Tryz.f53 = some pc53 := by kernel_rfl
def p54o1 := [zM 4 kf]
def p54o2 := [zM 5 (kk 0)]
def p54o3 := [zM 6 5,
 zM 7 0,
 zo 8 (.lenS 7),
 zB 9 .lss 3 6 8]
def p54o8 := [zM 12 0,
 zM 13 5,
 zo 14 (.iaddrS 2 12 13),
 zG 15 0 14,
 zL 16 15,
 zM 17 1,
 zB 18 .eql 3 16 17]
def p54o9 := [zM 4 kt]
def p54o16 := [zM 10 5,
 zK 11 .add 3 10 1,
 zM 5 11]
def p54c18 := sq (sq (.region (some ([0, 1, 5], [], [])) false p54o3) (.cond 9 (.skip) (.exit 0))) (sq (.block 1 (sq (rg p54o8) (.cond 18 (sq (rg p54o9) (rt)) (.skip)))) (rg p54o16))
def p54o22 := [zM 4 kf]
def p54c24 := sq (rg p54o22) (rt)
def p54c26 := sq (rg p54o1) (sq (sq (rg p54o2) (.block 0 (.loop p54c18))) p54c24)
def pc54_r : List PRes := [PRes.tmp 4 []]
def pc54 : PFunc := ⟨19, pc54_r, p54c26, false⟩
def pc54_a : Ann := {
 kr := fun
  | 2 => some ([0, 1, 5], [], [])
  | _ => none
 ka := fun _ => 0
 kh := fun _ => none
 ow := ow0
 tc := tc1 }
theorem pc54_ok : compFn Tryz.prog pc54_a Tryz.f54 = some pc54 := by kernel_rfl
def p24o1 := [zo 2 (.box 26 0 []),
 zM 4 kf]
def p24o2 := [zM 15 1,
 zo 16 (.prim .min [15, kk 4]),
 zM 5 16]
def p24o3 := [zG 17 0 2,
 zL 18 17,
 zK 19 .lss 3 18 0,
 zM 20 19,
 zf 21 20 (.faddr 0 2),
 zf 22 20 (.load false 1 21),
 zf 23 20 (.mv 5),
 zf 24 20 (.prim (.bin .geq 3 false false) [22, 23]),
 zo 25 (.pick 20 kt 24),
 zM 26 25,
 zf 27 26 (.faddr 1 2),
 zf 28 26 (.load false 1 27),
 zf 29 26 (.prim (.bin .lss 3 false true) [28, kk 0]),
 zo 30 (.pick 26 kt 29),
 zM 31 30,
 zf 32 31 (.faddr 1 2),
 zf 33 31 (.load false 1 32),
 zf 34 31 (.prim (.bin .gtr 3 false true) [33, kk 1073741824]),
 zo 35 (.pick 31 kt 34),
 zM 36 35,
 zf 37 36 (.faddr 2 2),
 zf 38 36 (.load false 1 37),
 zf 39 36 (.call true [[(0, 11)]] 49 [38]),
 zf 40 36 (.prim (.un .not) [39]),
 zo 41 (.pick 36 kt 40),
 zM 42 41,
 zf 43 42 (.faddr 4 2),
 zf 44 42 (.load false 1 43),
 zf 45 42 (.call true [[(0, 11)]] 49 [44]),
 zf 46 42 (.prim (.un .not) [45]),
 zo 47 (.pick 42 kt 46),
 zM 48 47,
 zf 49 48 (.faddr 3 2),
 zf 50 48 (.load false 1 49),
 zf 51 48 (.lenS 50),
 zf 52 48 (.prim (.bin .gtr 3 false true) [51, kk 16]),
 zo 53 (.pick 48 kt 52),
 zM 54 53,
 zf 55 54 (.faddr 5 2),
 zf 56 54 (.load false 1 55),
 zf 57 54 (.lenS 56),
 zf 58 54 (.prim (.bin .gtr 3 false true) [57, kk 20]),
 zo 59 (.pick 54 kt 58)]
def p24o4 := [zM 4 kf]
def p24o10 := [zM 6 (kk 0)]
def p24o11 := [zM 60 6,
 zG 61 3 2,
 zL 62 61,
 zo 63 (.lenS 62),
 zB 64 .lss 3 60 63]
def p24o16 := [zG 67 3 2,
 zL 68 67,
 zM 69 6,
 zo 70 (.iaddrS 2 68 69),
 zo 71 (.load true 2 70),
 zo 7 (.alloc 40 (.agg #[ki, ki]) []),
 zs (.store 2 7 71)]
def p24o17 := [za 72 7 7 0 (.faddr 0 7),
 za 73 72 7 0 (.load false 1 72),
 zi 74 73 (.call false [[]] 50 [73]),
 zi 75 74 (.prim (.un .not) [74]),
 zi 76 75 (.mv 75),
 ⟨some 77, .faddr 1 7, some (76, false), [(7, .at_ 7 0)]⟩,
 ⟨some 78, .load false 1 77, some (76, false), [(77, .at_ 7 1)]⟩,
 ⟨some 79, .prim (.bin .lss 3 false true) [78, kk 0], some (76, false), [(78, .imm)]⟩,
 zj 80 76 79 (.pick 76 kt 79),
 zi 81 80 (.mv 80),
 ⟨some 82, .faddr 1 7, some (81, false), [(7, .at_ 7 0)]⟩,
 ⟨some 83, .load false 1 82, some (81, false), [(82, .at_ 7 1)]⟩,
 ⟨some 84, .mv 5, some (81, false), [(5, .imm)]⟩,
 ⟨some 85, .prim (.bin .geq 3 false false) [83, 84], some (81, false), [(83, .imm), (84, .imm)]⟩,
 zj 86 81 85 (.pick 81 kt 85),
 zi 87 86 (.mv 86),
 ⟨some 88, .faddr 1 7, some (87, false), [(7, .at_ 7 0)]⟩,
 ⟨some 89, .load false 1 88, some (87, false), [(88, .at_ 7 1)]⟩,
 ⟨some 90, .faddr 0 2, some (87, false), [(2, .at_ 2 0)]⟩,
 ⟨some 91, .load false 1 90, some (87, false), [(90, .at_ 2 0)]⟩,
 ⟨some 92, .prim (.bin .eql 3 false false) [89, 91], some (87, false), [(89, .imm), (91, .imm)]⟩,
 zj 93 87 92 (.pick 87 kt 92),
 zi 94 93 (.mv 93),
 ⟨some 95, .mv 6, some (94, false), [(6, .imm)]⟩,
 ⟨some 96, .prim (.bin .gtr 3 false true) [95, kk 0], some (94, false), [(95, .imm)]⟩,
 ⟨some 97, .mv 96, some (94, false), [(96, .imm)]⟩,
 ⟨some 98, .faddr 0 7, some (97, true), [(7, .at_ 7 0)]⟩,
 ⟨some 99, .load false 1 98, some (97, true), [(98, .at_ 7 0)]⟩,
 ⟨some 100, .faddr 3 2, some (97, true), [(2, .at_ 2 0)]⟩,
 ⟨some 101, .load false 1 100, some (97, true), [(100, .at_ 2 3)]⟩,
 ⟨some 102, .mv 6, some (97, true), [(6, .imm)]⟩,
 ⟨some 103, .prim (.bin .sub 3 false true) [102, kk 1], some (97, true), [(102, .imm)]⟩,
 ⟨some 104, .iaddrS 2 101 103, some (97, true), [(101, .imm), (103, .imm)]⟩,
 ⟨some 105, .faddr 0 104, some (97, true), [(104, .imm)]⟩,
 ⟨some 106, .load false 1 105, some (97, true), [(105, .imm)]⟩,
 ⟨some 107, .prim (.bin .leq 3 false false) [99, 106], some (97, true), [(99, .imm), (106, .imm)]⟩,
 ⟨some 108, .pick 97 107 kf, some (94, false), [(97, .imm), (107, .imm)]⟩,
 zj 109 94 108 (.pick 94 kt 108)]
def p24o18 := [zM 4 kf]
def p24o26 := [zM 65 6,
 zK 66 .add 3 65 1,
 zM 6 66]
def p24c28 := sq (sq (.region (some ([2, 5, 6], [2, 7], [])) false p24o11) (.cond 64 (.skip) (.exit 0))) (sq (.block 1 (sq (rg p24o16) (sq (rh p24o17) (.cond 109 (sq (rg p24o18) (rt)) (.skip))))) (rg p24o26))
def p24o32 := [zM 8 (kk 0)]
def p24o33 := [zM 110 8,
 zG 111 5 2,
 zL 112 111,
 zo 113 (.lenS 112),
 zB 114 .lss 3 110 113]
def p24o38 := [zG 117 5 2,
 zL 118 117,
 zM 119 8,
 zo 120 (.iaddrS 22 118 119),
 zo 121 (.load true 22 120),
 zo 122 (.call true [[]] 51 [121]),
 zo 123 (.prim (.un .not) [122]),
 zM 124 123,
 zf 125 124 (.faddr 5 2),
 zf 126 124 (.load false 1 125),
 zf 127 124 (.mv 8),
 zf 128 124 (.iaddrS 22 126 127),
 zf 129 124 (.load true 22 128),
 zf 130 124 (.call true [[]] 52 [129]),
 zf 131 124 (.prim (.un .not) [130]),
 zo 132 (.pick 124 kt 131)]
def p24o39 := [zM 4 kf]
def p24o46 := [zM 115 8,
 zK 116 .add 3 115 1,
 zM 8 116]
def p24c48 := sq (sq (.region (some ([2, 8], [2], [])) false p24o33) (.cond 114 (.skip) (.exit 2))) (sq (.block 3 (sq (rg p24o38) (.cond 132 (sq (rg p24o39) (rt)) (.skip)))) (rg p24o46))
def p24o52 := [zM 9 (kk 0)]
def p24o53 := [zM 133 9,
 zG 134 4 2,
 zL 135 134,
 zo 136 (.lenS 135),
 zB 137 .lss 3 133 136]
def p24o58 := [zG 141 4 2,
 zL 142 141,
 zM 143 9,
 zo 144 (.iaddrS 11 142 143),
 zG 145 1 144,
 zo 146 (.load true 2 145),
 zo 147 (.call true [[]] 53 [146]),
 zM 140 147,
 zX 148 140 0,
 zX 149 140 1,
 zM 10 148,
 zM 11 149]
def p24o59 := [zG 150 3 2,
 zL 151 150,
 zM 152 10,
 zo 153 (.call true [[(0, 2)], []] 54 [151, 152]),
 zo 154 (.prim (.un .not) [153])]
def p24o60 := [zM 4 kf]
def p24o68 := [zM 138 9,
 zK 139 .add 3 138 1,
 zM 9 139]
def p24c70 := sq (sq (.region (some ([2, 9], [2], [])) false p24o53) (.cond 137 (.skip) (.exit 4))) (sq (.block 5 (sq (rg p24o58) (sq (rg p24o59) (.cond 154 (sq (rg p24o60) (rt)) (.skip))))) (rg p24o68))
def p24o74 := [zM 12 (kk 0)]
def p24o75 := [zM 155 12,
 zG 156 2 2,
 zL 157 156,
 zo 158 (.lenS 157),
 zB 159 .lss 3 155 158]
def p24o80 := [zG 163 2 2,
 zL 164 163,
 zM 165 12,
 zo 166 (.iaddrS 11 164 165),
 zG 167 1 166,
 zo 168 (.load true 2 167),
 zo 169 (.call true [[]] 53 [168]),
 zM 162 169,
 zX 170 162 0,
 zX 171 162 1,
 zM 13 170,
 zM 14 171]
def p24o81 := [zG 172 3 2,
 zL 173 172,
 zM 174 13,
 zo 175 (.call true [[(0, 2)], []] 54 [173, 174])]
def p24o82 := [zM 4 kf]
def p24o90 := [zM 160 12,
 zK 161 .add 3 160 1,
 zM 12 161]
def p24c92 := sq (sq (.region (some ([2, 12], [2], [])) false p24o75) (.cond 159 (.skip) (.exit 6))) (sq (.block 7 (sq (rg p24o80) (sq (rg p24o81) (.cond 175 (sq (rg p24o82) (rt)) (.skip))))) (rg p24o90))
def p24o96 := [zM 4 kt]
def p24c98 := sq (rg p24o96) (rt)
def p24c99 := sq (sq (rg p24o74) (.block 6 (.loop p24c92))) p24c98
def p24c100 := sq (sq (rg p24o52) (.block 4 (.loop p24c70))) p24c99
def p24c101 := sq (sq (rg p24o32) (.block 2 (.loop p24c48))) p24c100
def p24c105 := sq (rg p24o1) (sq (rg p24o2) (sq (sq (rg p24o3) (.cond 59 (sq (rg p24o4) (rt)) (.skip))) (sq (sq (rg p24o10) (.block 0 (.loop p24c28))) p24c101)))
def pc24_r : List PRes := [PRes.tmp 4 []]
def pc24 : PFunc := ⟨176, pc24_r, p24c105, false⟩
def pc24_a : Ann := {
 kr := fun
  | 5 => some ([2, 5, 6], [2, 7], [])
  | 11 => some ([2, 8], [2], [])
  | 16 => some ([2, 9], [2], [])
  | 22 => some ([2, 12], [2], [])
  | _ => none
 ka := fun _ => 0
 kh := hg [([2, 90], .at_ 2 0), ([5, 6, 73, 74, 75, 76, 78, 79, 80, 81, 83, 84, 85, 86, 87, 89, 91, 92, 93, 94, 95, 96, 97, 99, 101, 102, 103, 104, 105, 106, 107, 108], .imm), ([7, 72, 98], .at_ 7 0), ([77, 82, 88], .at_ 7 1), ([100], .at_ 2 3)]
 ow := ow0
 tc := tc1 }
theorem pc24_ok : compFn Tryz.prog pc24_a Tryz.f24 = some pc24 := by kernel_rfl
def p8o1 := [zM 2 kf]
def p8o2 := [zM 13 0,
 zo 14 (.call true [[]] 10 [13]),
 zM 12 14,
 zX 15 12 0,
 zX 16 12 1,
 zX 17 12 2,
 zo 3 (.alloc 26 (.agg #[ki, ki, kl, kl, kl, kl]) []),
 zs (.store 6 3 15),
 zM 4 16,
 zM 5 17]
def p8o3 := [zM 19 0,
 zo 20 (.call true [[]] 7 [19]),
 zM 18 20,
 zX 21 18 0,
 zX 22 18 1,
 zX 23 18 2,
 zM 6 21,
 zM 7 22,
 zM 8 23]
def p8o4 := [zM 24 5,
 zK 25 .neq 30 24 0]
def p8o5 := [zM 26 8,
 zM 9 26]
def p8o6 := [zM 27 8,
 zK 28 .eql 3 27 0]
def p8o7 := [zM 9 (kk 11)]
def p8o11 := [zM 29 5,
 zM 30 9,
 zB 31 .eql 3 29 30,
 zM 32 31,
 zt 33 32 (.mv 4),
 zt 34 32 (.prim (.bin .eql 3 false true) [33, kk 0]),
 zo 35 (.pick 32 34 kf),
 zM 36 35,
 zt 37 36 (.load true 6 3),
 zt 38 36 (.build (.agg #[ki, ki, kl, kl, kl, kl]) []),
 zt 39 36 (.call true [[(2, 11), (3, 2), (4, 11), (5, 22)], [(2, 11), (3, 2), (4, 11), (5, 22)]] 11 [37, 38]),
 zo 40 (.pick 36 39 kf),
 zM 2 40]
def p8c13 := sq (.region (some ([3, 4, 5, 9], [3], [])) false p8o11) (rt)
def p8o19 := [zo 42 (.load true 6 3),
 zo 43 (.call true [[(2, 11), (3, 2), (4, 11), (5, 22)]] 6 [42]),
 zM 41 43,
 zX 44 41 0,
 zX 45 41 1,
 zM 10 44,
 zM 11 45]
def p8o20 := [zM 46 8,
 zK 47 .eql 3 46 0,
 zM 48 47,
 zt 49 48 (.mv 4),
 zt 50 48 (.mv 7),
 zt 51 48 (.prim (.bin .eql 3 false false) [49, 50]),
 zo 52 (.pick 48 51 kf),
 zM 53 52,
 zt 54 53 (.mv 11),
 zt 55 53 (.prim (.bin .eql 30 false true) [54, kk 0]),
 zo 56 (.pick 53 55 kf),
 zM 57 56,
 zt 58 57 (.mv 10),
 zt 59 57 (.mv 0),
 zt 60 57 (.mv 4),
 zt 61 57 (.prim (.slice 9 false true) [59, 60]),
 zt 62 57 (.prim (.bin .eql 9 false false) [58, 61]),
 zo 63 (.pick 57 62 kf),
 zM 64 63,
 zt 65 64 (.load true 6 3),
 zt 66 64 (.call true [[(2, 11), (3, 2), (4, 11), (5, 22)], []] 24 [65, kk 4]),
 zo 67 (.pick 64 66 kf),
 zM 2 67]
def p8c23 := sq (rg p8o19) (sq (rg p8o20) (rt))
def p8c27 := sq (rg p8o1) (sq (rg p8o2) (sq (rg p8o3) (sq (sq (rg p8o4) (.cond 25 (sq (rg p8o5) (sq (sq (rg p8o6) (.cond 28 (rg p8o7) (.skip))) p8c13)) (.skip))) p8c23)))
def pc8_r : List PRes := [PRes.tmp 2 []]
def pc8 : PFunc := ⟨68, pc8_r, p8c27, false⟩
def pc8_a : Ann := {
 kr := fun
  | 7 => some ([3, 4, 5, 9], [3], [])
  | _ => none
 ka := fun _ => 0
 kh := fun _ => none
 ow := ow0
 tc := tc1 }
theorem pc8_ok : compFn Tryz.prog pc8_a Tryz.f8 = some pc8 := by kernel_rfl
def p3o1 := [zo 4 (.box 26 0 []),
 zM 8 kf]
def p3o2 := [zo 15 (.call true [] 4 []),
 zo 16 (.prim (.un .not) [15])]
def p3o3 := [zM 8 kf]
def p3o9 := [zo 17 (.load true 6 4),
 zo 18 (.call true [[(2, 11), (3, 2), (4, 11), (5, 22)]] 5 [17]),
 zo 19 (.prim (.un .not) [18]),
 zM 20 19,
 zf 21 20 (.mv 3),
 zf 22 20 (.prim (.len 9) [21]),
 zf 23 20 (.prim (.bin .gtr 3 false true) [22, kk 400]),
 zo 24 (.pick 20 kt 23)]
def p3o10 := [zM 8 kt]
def p3o16 := [zo 26 (.load true 6 4),
 zo 27 (.call true [[(2, 11), (3, 2), (4, 11), (5, 22)]] 6 [26]),
 zM 25 27,
 zX 28 25 0,
 zX 29 25 1,
 zM 9 28,
 zM 10 29]
def p3o17 := [zM 30 10,
 zK 31 .eql 30 30 0]
def p3o18 := [zM 33 9,
 zo 34 (.call true [[]] 7 [33]),
 zM 32 34,
 zX 35 32 0,
 zX 36 32 1,
 zX 37 32 2,
 zM 11 35,
 zM 12 36,
 zM 13 37]
def p3o19 := [zM 38 13,
 zK 39 .neq 3 38 0]
def p3o20 := [zM 8 kf]
def p3o26 := [zM 40 11,
 zo 41 (.s2bo 5 40),
 zM 14 41]
def p3o27 := [zM 42 14,
 zo 43 (.lenS 42),
 zK 44 .gtr 3 43 0]
def p3o28 : List POper := [⟨some 45, .mv 14, none, [(14, .obj 41)]⟩,
 zi 46 2 (.mv 2),
 zi 47 46 (.prim (.conv 27 3) [46]),
 ⟨some 48, .mv 14, none, [(14, .obj 41)]⟩,
 ⟨some 49, .lenS 48, none, [(48, .obj 41)]⟩,
 zj 50 47 49 (.prim (.bin .rem 3 false false) [47, 49]),
 ⟨some 51, .mv 14, none, [(14, .obj 41)]⟩,
 zi 52 2 (.mv 2),
 zi 53 52 (.prim (.conv 27 3) [52]),
 ⟨some 54, .mv 14, none, [(14, .obj 41)]⟩,
 ⟨some 55, .lenS 54, none, [(54, .obj 41)]⟩,
 zj 56 53 55 (.prim (.bin .rem 3 false false) [53, 55]),
 ⟨some 57, .iaddrS 1 51 56, none, [(51, .obj 41), (56, .imm)]⟩,
 ⟨some 58, .load false 1 57, none, [(57, .obj 41)]⟩,
 zi 59 1 (.mv 1),
 zj 60 58 59 (.prim (.bin .xor 5 false false) [58, 59]),
 ⟨some 61, .iaddrS 1 45 50, none, [(45, .obj 41), (50, .imm)]⟩,
 zn (.store 1 61 60) [(61, .obj 41), (60, .imm)]]
def p3o32 := [zM 62 14,
 zo 63 (.b2s 62),
 zo 64 (.call true [[]] 9 [63]),
 zo 65 (.call true [[]] 8 [64]),
 zo 66 (.prim (.un .not) [65])]
def p3o33 := [zM 8 kf]
def p3c38 := sq (.region (some ([3, 14], [4, 41], [])) false p3o32) (.cond 66 (sq (rg p3o33) (rt)) (.skip))
def p3o46 := [zM 67 3,
 zo 68 (.call true [[]] 8 [67]),
 zM 69 68,
 zt 70 69 (.mv 3),
 zt 71 69 (.call true [[]] 9 [70]),
 zt 72 69 (.call true [[]] 8 [71]),
 zo 73 (.pick 69 72 kf),
 zM 8 73]
def p3c48 := sq (.region (some ([3], [4, 41], [])) false p3o46) (rt)
def p3c53 := sq (rg p3o1) (sq (sq (rg p3o2) (.cond 16 (sq (rg p3o3) (rt)) (.skip))) (sq (sq (rg p3o9) (.cond 24 (sq (rg p3o10) (rt)) (.skip))) (sq (rg p3o16) (sq (sq (rg p3o17) (.cond 31 (sq (rg p3o18) (sq (sq (rg p3o19) (.cond 39 (sq (rg p3o20) (rt)) (.skip))) (sq (rg p3o26) (sq (sq (rg p3o27) (.cond 44 (rh p3o28) (.skip))) p3c38)))) (.skip))) p3c48))))
def pc3_r : List PRes := [PRes.tmp 8 []]
def pc3 : PFunc := ⟨74, pc3_r, p3c53, false⟩
def pc3_a : Ann := {
 kr := fun
  | 13 => some ([3, 14], [4, 41], [])
  | 15 => some ([3], [4, 41], [])
  | _ => none
 ka := fun _ => 0
 kh := hg [([1, 2, 46, 47, 49, 50, 52, 53, 55, 56, 58, 59, 60], .imm), ([14, 45, 48, 51, 54, 57, 61], .obj 41)]
 ow := ow0
 tc := tc1
 bo := fun d => match d with
  | some 41 => true
  | _ => false }
theorem pc3_ok : compFn Tryz.prog pc3_a Tryz.f3 = some pc3 := by kernel_rfl
end Go.Proofs.YtpjejnefegdoeaaGreat
