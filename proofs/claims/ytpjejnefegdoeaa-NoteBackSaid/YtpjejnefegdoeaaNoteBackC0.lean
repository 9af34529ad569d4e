/- No condition. -/
import Derived.Test.YtpjejnefegdoeaaNoteBackT
namespace Go.Proofs.Ytpjejnefegdoeaa
open Go Go.Rx
set_option maxRecDepth 100000
set_option linter.unusedVariables false
set_option linter.unusedSimpArgs false
set_option linter.unnecessarySimpa false
set_option linter.unnecessarySimpa false
def p60o1 := [zo 1 (.box 48 0 []),
 zM 2 kf]
def p60o2 := [zG 3 0 1,
 zL 4 3,
 zK 5 .eql 2 4 0,
 zM 6 5,
 zf 7 6 (.faddr 1 1),
 zf 8 6 (.load false 1 7),
 zf 9 6 (.prim (.bin .eql 9 false true) [8, .const (ks)]),
 zo 10 (.pick 6 kt 9),
 zM 11 10,
 zt 12 11 (.faddr 1 1),
 zt 13 11 (.load false 1 12),
 zt 14 11 (.prim (.len 9) [13]),
 zt 15 11 (.prim (.bin .leq 3 false true) [14, kk 12]),
 zo 16 (.pick 11 15 kf),
 zM 2 16]
def p60c5 := sq (rg p60o1) (sq (rg p60o2) (rt))
def pc60_r : List PRes := [PRes.tmp 2 []]
def pc60 : PFunc := ⟨17, pc60_r, p60c5, false⟩
def pc60_a : Ann := {
 kr := fun _ => none
 ka := fun _ => 0
 kh := fun _ => none
 ow := ow0
 tc := tc1 }
theorem pc60_ok : compFn Try.prog pc60_a Try.f60 = some pc60 := by kernel_rfl
def p61o1 := [zo 1 (.box 53 0 []),
 zo 2 (.alloc 53 (.agg #[ki, ki, ki, ki, ki, ki, ki, ks, ki, ks, ki, ks, ki, ks, ki, ks, ki, ki, ki, ki, ki, ki]) [])]
def p61o2 := [zG 4 0 1,
 zL 5 4,
 zG 6 16 1,
 zL 7 6,
 zG 8 17 1,
 zL 9 8,
 zo 10 (.build (.agg #[ki, ki, ki, ki, ki, ki, ki, ks, ki, ks, ki, ks, ki, ks, ki, ks, ki, ki, ki, ki, ki, ki]) [(0, 1, .tmp 5), (16, 1, .tmp 7), (17, 1, .tmp 9)]),
 zo 3 (.alloc 53 (.agg #[ki, ki, ki, ki, ki, ki, ki, ks, ki, ks, ki, ks, ki, ks, ki, ks, ki, ki, ki, ki, ki, ki]) []),
 zs (.store 22 3 10)]
def p61o3 := [zG 11 0 1,
 zL 12 11]
def p61o4 := [zK 14 .eql 3 12 1,
 zM 13 14]
def p61o5 := [za 15 1 1 0 (.faddr 4 1),
 za 16 15 1 4 (.load true 2 15),
 za 17 1 1 0 (.faddr 6 1),
 za 18 17 1 6 (.load true 8 17),
 za 19 3 3 0 (.faddr 4 3),
 zn (.store 2 19 16) [(19, .at_ 3 4), (16, .imm)],
 za 20 3 3 0 (.faddr 6 3),
 zn (.store 8 20 18) [(20, .at_ 3 6), (18, .imm)]]
def p61o6 := [zK 22 .eql 3 12 2,
 zM 21 22]
def p61o7 := [za 23 1 1 0 (.faddr 1 1),
 za 24 23 1 1 (.load false 1 23),
 za 25 1 1 0 (.faddr 4 1),
 za 26 25 1 4 (.load true 2 25),
 za 27 3 3 0 (.faddr 1 3),
 zn (.store 1 27 24) [(27, .at_ 3 1), (24, .imm)],
 za 28 3 3 0 (.faddr 4 3),
 zn (.store 2 28 26) [(28, .at_ 3 4), (26, .imm)]]
def p61o8 := [zK 30 .eql 3 12 3,
 zM 29 30]
def p61o9 := [za 31 1 1 0 (.faddr 1 1),
 za 32 31 1 1 (.load false 1 31),
 za 33 1 1 0 (.faddr 2 1),
 za 34 33 1 2 (.load false 1 33),
 za 35 1 1 0 (.faddr 14 1),
 za 36 35 1 14 (.load true 2 35),
 za 37 3 3 0 (.faddr 1 3),
 zn (.store 1 37 32) [(37, .at_ 3 1), (32, .imm)],
 za 38 3 3 0 (.faddr 2 3),
 zn (.store 1 38 34) [(38, .at_ 3 2), (34, .imm)],
 za 39 3 3 0 (.faddr 14 3),
 zn (.store 2 39 36) [(39, .at_ 3 14), (36, .imm)]]
def p61o10 := [zK 41 .eql 3 12 4,
 zM 40 41]
def p61o11 := [zG 42 1 1,
 zL 43 42,
 zG 44 1 3,
 zs (.store 1 44 43)]
def p61o12 := [zK 46 .eql 3 12 5,
 zM 45 46]
def p61o13 := [za 47 1 1 0 (.faddr 2 1),
 za 48 47 1 2 (.load false 1 47),
 za 49 1 1 0 (.faddr 3 1),
 za 50 49 1 3 (.load false 1 49),
 za 51 3 3 0 (.faddr 2 3),
 zn (.store 1 51 48) [(51, .at_ 3 2), (48, .imm)],
 za 52 3 3 0 (.faddr 3 3),
 zn (.store 1 52 50) [(52, .at_ 3 3), (50, .imm)]]
def p61o14 := [zK 54 .eql 3 12 6,
 zM 53 54]
def p61o16 := [zK 55 .eql 3 12 7,
 zM 53 55]
def p61o19 := [zG 56 18 1,
 zo 57 (.load true 4 56),
 zG 58 18 3,
 zs (.store 4 58 57)]
def p61o35 := [zo 59 (.load true 22 3),
 zs (.store 22 2 59)]
def p61c40 := sq (rg p61o1) (sq (rg p61o2) (sq (sq (rg p61o3) (.block 0 (sq (rg p61o4) (.cond 13 (rh p61o5) (sq (rg p61o6) (.cond 21 (rh p61o7) (sq (rg p61o8) (.cond 29 (rh p61o9) (sq (rg p61o10) (.cond 40 (rg p61o11) (sq (rg p61o12) (.cond 45 (rh p61o13) (sq (sq (rg p61o14) (.cond 53 (.skip) (rg p61o16))) (.cond 53 (rg p61o19) (.skip))))))))))))))) (sq (rg p61o35) (rt))))
def pc61_r : List PRes := [PRes.cell 2 true 22 []]
def pc61 : PFunc := ⟨60, pc61_r, p61c40, false⟩
def pc61_a : Ann := {
 kr := fun _ => none
 ka := fun _ => 0
 kh := hg [([1], .at_ 1 0), ([3], .at_ 3 0), ([15, 25], .at_ 1 4), ([16, 18, 24, 26, 32, 34, 36, 48, 50], .imm), ([17], .at_ 1 6), ([19, 28], .at_ 3 4), ([20], .at_ 3 6), ([23, 31], .at_ 1 1), ([27, 37], .at_ 3 1), ([33, 47], .at_ 1 2), ([35], .at_ 1 14), ([38, 51], .at_ 3 2), ([39], .at_ 3 14), ([49], .at_ 1 3), ([52], .at_ 3 3)]
 ow := ow0
 tc := tc1 }
theorem pc61_ok : compFn Try.prog pc61_a Try.f61 = some pc61 := by kernel_rfl
def p62o1 := [zM 2 kf]
def p62o3 := [zM 5 0,
 zo 6 (.lenS 5),
 zM 7 (kk 0)]
def p62o4 := [zB 8 .lss 3 7 6]
def p62o8 := [zo 9 (.iaddrS 1 5 7),
 zL 10 9,
 zM 4 10]
def p62o9 := [zM 11 4,
 zo 12 (.prim (.bin .geq 3 false true) [11, .const (.int .i64 (-1000))]),
 zM 13 12,
 zt 14 13 (.mv 4),
 zt 15 13 (.prim (.bin .leq 3 false true) [14, kk 1000]),
 zo 16 (.pick 13 15 kf)]
def p62o14 := [zM 2 kf]
def p62o20 := [zK 17 .add 3 7 1,
 zM 7 17]
def p62c23 := sq (.region (some ([5, 6, 7], [], [])) false p62o4) (sq (.cond 8 (.skip) (.exit 0)) (sq (.block 1 (sq (rg p62o8) (sq (sq (rg p62o9) (.cond 16 (.exit 1) (.skip))) (sq (rg p62o14) (rt))))) (rg p62o20)))
def p62o27 := [zM 2 kt]
def p62c29 := sq (rg p62o27) (rt)
def p62c33 := sq (rg p62o1) (.scope (sq (.label) (sq (sq (rg p62o3) (.block 0 (.loop p62c23))) p62c29)))
def pc62_r : List PRes := [PRes.tmp 2 []]
def pc62 : PFunc := ⟨18, pc62_r, p62c33, false⟩
def pc62_a : Ann := {
 kr := fun
  | 2 => some ([5, 6, 7], [], [])
  | _ => none
 ka := fun _ => 0
 kh := fun _ => none
 ow := ow0
 tc := tc1 }
theorem pc62_ok : compFn Try.prog pc62_a Try.f62 = some pc62 := by kernel_rfl
def p32o1 := [zo 1 (.box 53 0 []),
 zM 2 kf]
def p32o2 := [zG 8 6 1,
 zo 9 (.load true 8 8),
 zM 10 (kk 0)]
def p32o3 := [zK 11 .lss 3 10 4]
def p32o7 := [zo 12 (.idx true 2 4 9 10),
 zo 4 (.alloc 48 (.agg #[ki, ks]) []),
 zs (.store 2 4 12)]
def p32o8 := [zo 13 (.load true 2 4),
 zo 14 (.call true [[]] 60 [13]),
 zo 15 (.prim (.un .not) [14])]
def p32o9 := [zM 2 kf]
def p32o17 := [zK 16 .add 3 10 1,
 zM 10 16]
def p32o24 := [za 17 1 1 0 (.faddr 0 1),
 za 18 17 1 0 (.load false 1 17),
 zi 19 18 (.prim (.bin .geq 3 false true) [18, kk 1]),
 zi 20 19 (.mv 19),
 ⟨some 21, .faddr 0 1, some (20, true), [(1, .at_ 1 0)]⟩,
 ⟨some 22, .load false 1 21, some (20, true), [(21, .at_ 1 0)]⟩,
 ⟨some 23, .prim (.bin .leq 3 false true) [22, kk 8], some (20, true), [(22, .imm)]⟩,
 zj 24 20 23 (.pick 20 23 kf),
 zi 25 24 (.mv 24),
 ⟨some 26, .load true 22 1, some (25, true), [(1, .at_ 1 0)]⟩,
 ⟨some 27, .load true 22 1, some (25, true), [(1, .at_ 1 0)]⟩,
 ⟨some 28, .call false [[]] 61 [27], some (25, true), [(27, .imm)]⟩,
 ⟨some 29, .prim (.bin .eql 53 false false) [26, 28], some (25, true), [(26, .imm), (28, .imm)]⟩,
 zj 30 25 29 (.pick 25 29 kf),
 zi 5 30 (.mv 30)]
def p32o25 := [zG 31 16 1,
 zL 32 31,
 zK 33 .geq 3 32 0,
 zM 34 33,
 zt 35 34 (.faddr 16 1),
 zt 36 34 (.load false 1 35),
 zt 37 34 (.prim (.bin .lss 3 false true) [36, kk 4]),
 zo 38 (.pick 34 37 kf),
 zM 39 38,
 zt 40 39 (.faddr 17 1),
 zt 41 39 (.load false 1 40),
 zt 42 39 (.prim (.bin .geq 3 false true) [41, kk 0]),
 zo 43 (.pick 39 42 kf),
 zM 44 43,
 zt 45 44 (.faddr 17 1),
 zt 46 44 (.load false 1 45),
 zt 47 44 (.prim (.bin .leq 3 false true) [46, kk 1000000]),
 zo 48 (.pick 44 47 kf),
 zM 6 48]
def p32o26 := [zG 49 1 1,
 zL 50 49,
 zK 51 .geq 3 50 0,
 zM 52 51,
 zt 53 52 (.faddr 1 1),
 zt 54 52 (.load false 1 53),
 zt 55 52 (.prim (.bin .leq 3 false true) [54, kk 1000000]),
 zo 56 (.pick 52 55 kf),
 zM 57 56,
 zt 58 57 (.faddr 2 1),
 zt 59 57 (.load false 1 58),
 zt 60 57 (.prim (.bin .geq 3 false true) [59, .const (.int .i64 (-1))]),
 zo 61 (.pick 57 60 kf),
 zM 62 61,
 zt 63 62 (.faddr 2 1),
 zt 64 62 (.load false 1 63),
 zt 65 62 (.prim (.bin .leq 3 false true) [64, kk 100]),
 zo 66 (.pick 62 65 kf),
 zM 67 66,
 zt 68 67 (.faddr 3 1),
 zt 69 67 (.load false 1 68),
 zt 70 67 (.prim (.bin .geq 3 false true) [69, .const (.int .i64 (-1))]),
 zo 71 (.pick 67 70 kf),
 zM 72 71,
 zt 73 72 (.faddr 3 1),
 zt 74 72 (.load false 1 73),
 zt 75 72 (.prim (.bin .leq 3 false true) [74, kk 100]),
 zo 76 (.pick 72 75 kf),
 zM 77 76,
 zt 78 77 (.faddr 14 1),
 zt 79 77 (.load true 2 78),
 zt 80 77 (.call true [[]] 60 [79]),
 zo 81 (.pick 77 80 kf),
 zM 7 81]
def p32o27 := [zM 82 5,
 zM 83 82,
 zt 84 83 (.mv 6),
 zo 85 (.pick 83 84 kf),
 zM 86 85,
 zt 87 86 (.mv 7),
 zo 88 (.pick 86 87 kf),
 zM 89 88,
 zt 90 89 (.faddr 4 1),
 zt 91 89 (.faddr 0 90),
 zt 92 89 (.load false 1 91),
 zt 93 89 (.faddr 4 1),
 zt 94 89 (.faddr 1 93),
 zt 95 89 (.load false 1 94),
 zt 96 89 (.faddr 18 1),
 zt 97 89 (.faddr 0 96),
 zt 98 89 (.load false 1 97),
 zt 99 89 (.faddr 18 1),
 zt 100 89 (.faddr 1 99),
 zt 101 89 (.load false 1 100),
 zt 102 89 (.faddr 18 1),
 zt 103 89 (.faddr 2 102),
 zt 104 89 (.load false 1 103),
 zt 105 89 (.faddr 18 1),
 zt 106 89 (.faddr 3 105),
 zt 107 89 (.load false 1 106),
 zt 108 89 (.bslice 3 1 [92, 95, 98, 101, 104, 107]),
 zt 109 89 (.call true [[(0, 1)]] 62 [108]),
 zo 110 (.pick 89 109 kf),
 zM 2 110]
def p32c29 := sq (.region (some ([1, 5, 6, 7], [1], [])) false p32o27) (rt)
def p32c30 := sq (.region (some ([1, 5, 6], [1], [])) false p32o26) p32c29
def p32c31 := sq (.region (some ([1, 5], [1], [])) false p32o25) p32c30
def p32c34 := sq (rg p32o1) (sq (sq (rg p32o2) (.block 0 (.loop (sq (.region (some ([1, 9, 10], [1, 4], [])) false p32o3) (sq (.cond 11 (.skip) (.exit 0)) (sq (.block 1 (sq (rg p32o7) (sq (rg p32o8) (.cond 15 (sq (rg p32o9) (rt)) (.skip))))) (rg p32o17))))))) (sq (rh p32o24) p32c31))
def pc32_r : List PRes := [PRes.tmp 2 []]
def pc32 : PFunc := ⟨111, pc32_r, p32c34, false⟩
def pc32_a : Ann := {
 kr := fun
  | 2 => some ([1, 9, 10], [1, 4], [])
  | 8 => some ([1, 5], [1], [])
  | 9 => some ([1, 5, 6], [1], [])
  | 10 => some ([1, 5, 6, 7], [1], [])
  | _ => none
 ka := fun _ => 0
 kh := hg [([1, 17, 21], .at_ 1 0), ([18, 19, 20, 22, 23, 24, 25, 26, 27, 28, 29, 30], .imm)]
 ow := ow0
 tc := tc1 }
theorem pc32_ok : compFn Try.prog pc32_a Try.f32 = some pc32 := by kernel_rfl
def p33o1 := [zo 1 (.box 53 0 []),
 zM 2 kf]
def p33o2 := [zG 3 0 1,
 zL 4 3,
 zK 5 .geq 3 4 6,
 zM 6 5,
 zt 7 6 (.faddr 0 1),
 zt 8 6 (.load false 1 7),
 zt 9 6 (.prim (.bin .leq 3 false true) [8, kk 8]),
 zo 10 (.pick 6 9 kf),
 zM 2 10]
def p33c5 := sq (rg p33o1) (sq (rg p33o2) (rt))
def pc33_r : List PRes := [PRes.tmp 2 []]
def pc33 : PFunc := ⟨11, pc33_r, p33c5, false⟩
def pc33_a : Ann := {
 kr := fun _ => none
 ka := fun _ => 0
 kh := fun _ => none
 ow := ow0
 tc := tc1 }
theorem pc33_ok : compFn Try.prog pc33_a Try.f33 = some pc33 := by kernel_rfl
def p31o1 := [zo 1 (.box 53 0 []),
 zM 2 kf]
def p31o2 := [zo 3 (.load true 22 1),
 zo 4 (.call true [[]] 32 [3]),
 zo 5 (.prim (.un .not) [4]),
 zM 6 5,
 zf 7 6 (.load true 22 1),
 zf 8 6 (.call true [[]] 33 [7]),
 zf 9 6 (.prim (.un .not) [8]),
 zo 10 (.pick 6 kt 9),
 zM 2 10]
def p31c5 := sq (rg p31o1) (sq (rg p31o2) (rt))
def pc31_r : List PRes := [PRes.tmp 2 []]
def pc31 : PFunc := ⟨11, pc31_r, p31c5, false⟩
def pc31_a : Ann := {
 kr := fun _ => none
 ka := fun _ => 0
 kh := fun _ => none
 ow := ow0
 tc := tc1 }
theorem pc31_ok : compFn Try.prog pc31_a Try.f31 = some pc31 := by kernel_rfl
def p63o1 := [zM 2 kf]
def p63o2 := [zM 3 0,
 zK 4 .geq 3 3 0,
 zM 5 4,
 zt 6 5 (.mv 0),
 zt 7 5 (.prim (.bin .lss 3 false true) [6, kk 16]),
 zo 8 (.pick 5 7 kf),
 zM 2 8]
def p63c5 := sq (rg p63o1) (sq (rg p63o2) (rt))
def pc63_r : List PRes := [PRes.tmp 2 []]
def pc63 : PFunc := ⟨9, pc63_r, p63c5, false⟩
def pc63_a : Ann := {
 kr := fun _ => none
 ka := fun _ => 0
 kh := fun _ => none
 ow := ow0
 tc := tc1 }
theorem pc63_ok : compFn Try.prog pc63_a Try.f63 = some pc63 := by kernel_rfl
def p34o1 := [zM 6 kf]
def p34o2 := [zM 9 0,
 zo 10 (.lenS 9),
 zM 11 (kk 0)]
def p34o3 := [zB 12 .lss 3 11 10]
def p34o7 := [zM 13 11,
 zo 14 (.iaddrS 2 9 11),
 zo 15 (.load true 2 14),
 zo 8 (.alloc 44 (.agg #[ki, ki]) []),
 zM 7 13,
 zs (.store 2 8 15)]
def p34o8 := [za 16 8 8 0 (.faddr 0 8),
 za 17 16 8 0 (.load false 1 16),
 zi 18 17 (.call false [[]] 63 [17]),
 zi 19 18 (.prim (.un .not) [18]),
 zi 20 19 (.mv 19),
 ⟨some 21, .mv 7, some (20, false), [(7, .imm)]⟩,
 ⟨some 22, .prim (.bin .gtr 3 false true) [21, kk 0], some (20, false), [(21, .imm)]⟩,
 ⟨some 23, .mv 22, some (20, false), [(22, .imm)]⟩,
 ⟨some 24, .faddr 0 8, some (23, true), [(8, .at_ 8 0)]⟩,
 ⟨some 25, .load false 1 24, some (23, true), [(24, .at_ 8 0)]⟩,
 ⟨some 26, .mv 0, some (23, true), [(0, .imm)]⟩,
 ⟨some 27, .mv 7, some (23, true), [(7, .imm)]⟩,
 ⟨some 28, .prim (.bin .sub 3 false true) [27, kk 1], some (23, true), [(27, .imm)]⟩,
 ⟨some 29, .iaddrS 2 26 28, some (23, true), [(26, .imm), (28, .imm)]⟩,
 ⟨some 30, .faddr 0 29, some (23, true), [(29, .imm)]⟩,
 ⟨some 31, .load false 1 30, some (23, true), [(30, .imm)]⟩,
 ⟨some 32, .prim (.bin .leq 3 false false) [25, 31], some (23, true), [(25, .imm), (31, .imm)]⟩,
 ⟨some 33, .pick 23 32 kf, some (20, false), [(23, .imm), (32, .imm)]⟩,
 zj 34 20 33 (.pick 20 kt 33),
 zi 35 34 (.mv 34),
 ⟨some 36, .faddr 1 8, some (35, false), [(8, .at_ 8 0)]⟩,
 ⟨some 37, .load false 1 36, some (35, false), [(36, .at_ 8 1)]⟩,
 ⟨some 38, .prim (.bin .lss 3 false true) [37, kk 0], some (35, false), [(37, .imm)]⟩,
 zj 39 35 38 (.pick 35 kt 38),
 zi 40 39 (.mv 39),
 ⟨some 41, .faddr 1 8, some (40, false), [(8, .at_ 8 0)]⟩,
 ⟨some 42, .load false 1 41, some (40, false), [(41, .at_ 8 1)]⟩,
 ⟨some 43, .mv 2, some (40, false), [(2, .imm)]⟩,
 ⟨some 44, .prim (.bin .geq 3 false false) [42, 43], some (40, false), [(42, .imm), (43, .imm)]⟩,
 zj 45 40 44 (.pick 40 kt 44),
 zi 46 45 (.mv 45),
 ⟨some 47, .faddr 1 8, some (46, false), [(8, .at_ 8 0)]⟩,
 ⟨some 48, .load false 1 47, some (46, false), [(47, .at_ 8 1)]⟩,
 ⟨some 49, .mv 1, some (46, false), [(1, .imm)]⟩,
 ⟨some 50, .prim (.bin .eql 3 false false) [48, 49], some (46, false), [(48, .imm), (49, .imm)]⟩,
 zj 51 46 50 (.pick 46 kt 50)]
def p34o9 := [zM 6 kf]
def p34o17 := [zK 52 .add 3 11 1,
 zM 11 52]
def p34c20 := sq (.region (some ([0, 1, 2, 9, 10, 11], [8], [])) false p34o3) (sq (.cond 12 (.skip) (.exit 0)) (sq (.block 1 (sq (rg p34o7) (sq (rh p34o8) (.cond 51 (sq (rg p34o9) (rt)) (.skip))))) (rg p34o17)))
def p34o24 := [zM 6 kt]
def p34c26 := sq (rg p34o24) (rt)
def p34c28 := sq (rg p34o1) (sq (sq (rg p34o2) (.block 0 (.loop p34c20))) p34c26)
def pc34_r : List PRes := [PRes.tmp 6 []]
def pc34 : PFunc := ⟨53, pc34_r, p34c28, false⟩
def pc34_a : Ann := {
 kr := fun
  | 2 => some ([0, 1, 2, 9, 10, 11], [8], [])
  | _ => none
 ka := fun _ => 0
 kh := hg [([0, 1, 2, 7, 17, 18, 19, 20, 21, 22, 23, 25, 26, 27, 28, 29, 30, 31, 32, 33, 34, 35, 37, 38, 39, 40, 42, 43, 44, 45, 46, 48, 49, 50], .imm), ([8, 16, 24], .at_ 8 0), ([36, 41, 47], .at_ 8 1)]
 ow := ow0
 tc := tc1 }
theorem pc34_ok : compFn Try.prog pc34_a Try.f34 = some pc34 := by kernel_rfl
def p78o1 := [zo 1 (.box 46 0 []),
 zM 2 kf]
def p78o2 := [zG 3 0 1,
 zL 4 3,
 zK 5 .geq 3 4 0,
 zM 6 5,
 zt 7 6 (.faddr 0 1),
 zt 8 6 (.load false 1 7),
 zt 9 6 (.prim (.bin .lss 3 false true) [8, kk 64]),
 zo 10 (.pick 6 9 kf),
 zM 11 10,
 zt 12 11 (.faddr 1 1),
 zt 13 11 (.load false 1 12),
 zt 14 11 (.prim (.bin .geq 3 false true) [13, kk 0]),
 zo 15 (.pick 11 14 kf),
 zM 16 15,
 zt 17 16 (.faddr 1 1),
 zt 18 16 (.load false 1 17),
 zt 19 16 (.prim (.bin .lss 3 false true) [18, kk 64]),
 zo 20 (.pick 16 19 kf),
 zM 2 20]
def p78c5 := sq (rg p78o1) (sq (rg p78o2) (rt))
def pc78_r : List PRes := [PRes.tmp 2 []]
def pc78 : PFunc := ⟨21, pc78_r, p78c5, false⟩
def pc78_a : Ann := {
 kr := fun _ => none
 ka := fun _ => 0
 kh := fun _ => none
 ow := ow0
 tc := tc1 }
theorem pc78_ok : compFn Try.prog pc78_a Try.f78 = some pc78 := by kernel_rfl
def p94o1 := [zo 2 (.mv (.const (.int .u32 0)))]
def p94o2 := [zo 5 (.build (.agg #[.int .u64 0, .int .u32 0]) [(0, 1, .const (.int .u64 8)), (1, 1, .const (.int .u32 16711935))]),
 zo 6 (.build (.agg #[.int .u64 0, .int .u32 0]) [(0, 1, .const (.int .u64 4)), (1, 1, .const (.int .u32 252645135))]),
 zo 7 (.build (.agg #[.int .u64 0, .int .u32 0]) [(0, 1, .const (.int .u64 2)), (1, 1, .const (.int .u32 858993459))]),
 zo 8 (.build (.agg #[.int .u64 0, .int .u32 0]) [(0, 1, .const (.int .u64 1)), (1, 1, .const (.int .u32 1431655765))]),
 zo 9 (.build (.agg #[.int .u64 0, .int .u32 0, .int .u64 0, .int .u32 0, .int .u64 0, .int .u32 0, .int .u64 0, .int .u32 0]) [(0, 2, .tmp 5), (2, 2, .tmp 6), (4, 2, .tmp 7), (6, 2, .tmp 8)]),
 zM 10 (kk 0)]
def p94o3 := [zK 11 .lss 3 10 4]
def p94o7 := [zo 12 (.idx true 2 4 9 10),
 zo 4 (.alloc 152 (.agg #[.int .u64 0, .int .u32 0]) []),
 zs (.store 2 4 12)]
def p94o8 := [zM 13 0,
 zM 14 0,
 zG 15 0 4,
 zL 16 15,
 zB 17 .shl 101 14 16,
 zB 18 .or 101 13 17,
 zG 19 1 4,
 zL 20 19,
 zB 21 .and 101 18 20,
 zM 0 21]
def p94o11 := [zK 22 .add 3 10 1,
 zM 10 22]
def p94o18 := [zM 23 0,
 zM 2 23]
def p94c22 := sq (rg p94o1) (sq (sq (rg p94o2) (.block 0 (.loop (sq (.region (some ([0, 9, 10], [4], [])) false p94o3) (sq (.cond 11 (.skip) (.exit 0)) (sq (.block 1 (sq (rg p94o7) (rg p94o8))) (rg p94o11))))))) (sq (rg p94o18) (rt)))
def pc94_r : List PRes := [PRes.tmp 2 []]
def pc94 : PFunc := ⟨24, pc94_r, p94c22, false⟩
def pc94_a : Ann := {
 kr := fun
  | 2 => some ([0, 9, 10], [4], [])
  | _ => none
 ka := fun _ => 0
 kh := fun _ => none
 ow := ow0
 tc := tc1 }
theorem pc94_ok : compFn Try.prog pc94_a Try.f94 = some pc94 := by kernel_rfl
def p90o1 := [zo 4 (.mv (.const (.int .u32 0)))]
def p90o2 := [zM 5 0,
 zo 6 (.prim (.conv 35 101) [5]),
 zo 7 (.call true [[]] 94 [6]),
 zM 8 1,
 zo 9 (.prim (.conv 35 101) [8]),
 zo 10 (.call true [[]] 94 [9]),
 zo 11 (.prim (.bin .shl 101 false true) [10, .const (.int .u64 1)]),
 zB 12 .or 101 7 11,
 zM 4 12]
def p90c5 := sq (rg p90o1) (sq (rg p90o2) (rt))
def pc90_r : List PRes := [PRes.tmp 4 []]
def pc90 : PFunc := ⟨13, pc90_r, p90c5, false⟩
def pc90_a : Ann := {
 kr := fun _ => none
 ka := fun _ => 0
 kh := fun _ => none
 ow := ow0
 tc := tc1 }
theorem pc90_ok : compFn Try.prog pc90_a Try.f90 = some pc90 := by kernel_rfl
def p79o1 := [zM 4 (kk 0)]
def p79o2 := [zM 5 0,
 zo 6 (.prim (.conv 3 35) [5]),
 zM 7 1,
 zo 8 (.prim (.conv 3 35) [7]),
 zo 9 (.call true [[], []] 90 [6, 8]),
 zo 10 (.prim (.conv 101 3) [9]),
 zM 4 10]
def p79c5 := sq (rg p79o1) (sq (rg p79o2) (rt))
def pc79_r : List PRes := [PRes.tmp 4 []]
def pc79 : PFunc := ⟨11, pc79_r, p79c5, false⟩
def pc79_a : Ann := {
 kr := fun _ => none
 ka := fun _ => 0
 kh := fun _ => none
 ow := ow0
 tc := tc1 }
theorem pc79_ok : compFn Try.prog pc79_a Try.f79 = some pc79 := by kernel_rfl
def p64o1 := [zo 1 (.box 46 0 []),
 zM 2 (kk 0),
 zM 3 (kk 0)]
def p64o2 := [zo 4 (.load true 2 1),
 zo 5 (.call true [[]] 78 [4]),
 zo 6 (.prim (.un .not) [5])]
def p64o3 := [zM 2 (kk 0),
 zM 3 (kk 14)]
def p64o9 := [zG 7 0 1,
 zL 8 7,
 zK 9 .quo 3 8 16,
 zG 10 1 1,
 zL 11 10,
 zK 12 .quo 3 11 16,
 zo 13 (.call true [[], []] 79 [9, 12]),
 zM 2 13,
 zM 3 (kk 0)]
def p64c13 := sq (rg p64o1) (sq (sq (rg p64o2) (.cond 6 (sq (rg p64o3) (rt)) (.skip))) (sq (rg p64o9) (rt)))
def pc64_r : List PRes := [PRes.tmp 2 [], PRes.tmp 3 []]
def pc64 : PFunc := ⟨14, pc64_r, p64c13, false⟩
def pc64_a : Ann := {
 kr := fun _ => none
 ka := fun _ => 0
 kh := fun _ => none
 ow := ow0
 tc := tc1 }
theorem pc64_ok : compFn Try.prog pc64_a Try.f64 = some pc64 := by kernel_rfl
def p66o1 := [zo 2 (.box 44 0 []),
 zM 3 kf]
def p66o2 := [zG 4 0 2,
 zL 5 4,
 zL 6 1,
 zB 7 .eql 3 5 6,
 zM 3 7]
def p66c5 := sq (rg p66o1) (sq (rg p66o2) (rt))
def pc66_r : List PRes := [PRes.tmp 3 []]
def pc66 : PFunc := ⟨8, pc66_r, p66c5, false⟩
def pc66_a : Ann := {
 kr := fun _ => none
 ka := fun _ => 0
 kh := fun _ => none
 ow := ow0
 tc := tc1 }
theorem pc66_ok : compFn Try.prog pc66_a Try.f66 = some pc66 := by kernel_rfl
def p80o1 := [zM 4 (kk 0)]
def p80o2 := [zM 6 0,
 zo 7 (.lenS 6),
 zM 8 (kk 0)]
def p80o3 := [zB 9 .lss 3 8 7]
def p80o7 := [zM 10 8,
 zM 5 10]
def p80o8 := [zM 11 1,
 zM 12 0,
 zM 13 5,
 zo 14 (.iaddrS 2 12 13),
 zo 15 (.load true 2 14),
 zo 16 (.gcallv false false [300000, 300001, 300002, 300003, 300004, 300005, 300006, 300007, 1000000] [[]] 11 [15])]
def p80o9 := [zM 17 5,
 zM 4 17]
def p80o17 := [zK 18 .add 3 8 1,
 zM 8 18]
def p80c20 := sq (.region (some ([0, 1, 7, 8], [1000000], [])) false p80o3) (sq (.cond 9 (.skip) (.exit 0)) (sq (.block 1 (sq (rg p80o7) (sq (rg p80o8) (.cond 16 (sq (rg p80o9) (rt)) (.skip))))) (rg p80o17)))
def p80o24 := [zM 4 (kk (-1))]
def p80c26 := sq (rg p80o24) (rt)
def p80c28 := sq (rg p80o1) (sq (sq (rg p80o2) (.block 0 (.loop p80c20))) p80c26)
def pc80_r : List PRes := [PRes.tmp 4 []]
def pc80 : PFunc := ⟨19, pc80_r, p80c28, false⟩
def pc80_a : Ann := {
 kr := fun
  | 2 => some ([0, 1, 7, 8], [1000000], [])
  | _ => none
 ka := fun _ => 0
 kh := fun _ => none
 gv := fun d f => match d, f with
  | some 16, 11 => some (false, false, [300000, 300001, 300002, 300003, 300004, 300005, 300006, 300007, 1000000])
  | _, _ => none
 ow := ow0
 tc := tc1 }
theorem pc80_ok : compFn Try.prog pc80_a Try.f80 = some pc80 := by kernel_rfl
def p65o1 := [zM 4 kf]
def p65o2 := [zM 5 0,
 zM 6 1,
 zo 7 (.gcall false false [300000, 300001, 300002, 300003, 300004, 300005, 300006, 300007, 1000000] [[(0, 2)], []] 80 [5, 6]),
 zK 8 .geq 3 7 0,
 zM 4 8]
def p65c5 := sq (rg p65o1) (sq (rg p65o2) (rt))
def pc65_r : List PRes := [PRes.tmp 4 []]
def pc65 : PFunc := ⟨9, pc65_r, p65c5, false⟩
def pc65_a : Ann := {
 kr := fun _ => none
 ka := fun _ => 0
 kh := fun _ => none
 gf := fun d f => match d, f with
  | some 7, 80 => some (false, false, [300000, 300001, 300002, 300003, 300004, 300005, 300006, 300007, 1000000])
  | _, _ => none
 ow := ow0
 tc := tc1 }
theorem pc65_ok : compFn Try.prog pc65_a Try.f65 = some pc65 := by kernel_rfl
def p82o1 := [zo 1 (.box 48 0 []),
 zM 2 kf]
def p82o2 := [zo 3 (.load true 2 1),
 zo 4 (.call true [[]] 60 [3]),
 zo 5 (.prim (.un .not) [4]),
 zM 2 5]
def p82c5 := sq (rg p82o1) (sq (rg p82o2) (rt))
def pc82_r : List PRes := [PRes.tmp 2 []]
def pc82 : PFunc := ⟨6, pc82_r, p82c5, false⟩
def pc82_a : Ann := {
 kr := fun _ => none
 ka := fun _ => 0
 kh := fun _ => none
 ow := ow0
 tc := tc1 }
theorem pc82_ok : compFn Try.prog pc82_a Try.f82 = some pc82 := by kernel_rfl
def p91o1 := [zM 4 (kk 0)]
def p91o2 := [zM 6 0,
 zo 7 (.lenS 6),
 zM 8 (kk 0)]
def p91o3 := [zB 9 .lss 3 8 7]
def p91o7 := [zM 10 8,
 zM 5 10]
def p91o8 := [zM 11 1,
 zM 12 0,
 zM 13 5,
 zo 14 (.iaddrS 2 12 13),
 zo 15 (.load true 2 14),
 zo 16 (.callv true [[]] 11 [15])]
def p91o9 := [zM 17 5,
 zM 4 17]
def p91o17 := [zK 18 .add 3 8 1,
 zM 8 18]
def p91c20 := sq (.region (some ([0, 1, 7, 8], [], [])) false p91o3) (sq (.cond 9 (.skip) (.exit 0)) (sq (.block 1 (sq (rg p91o7) (sq (rg p91o8) (.cond 16 (sq (rg p91o9) (rt)) (.skip))))) (rg p91o17)))
def p91o24 := [zM 4 (kk (-1))]
def p91c26 := sq (rg p91o24) (rt)
def p91c28 := sq (rg p91o1) (sq (sq (rg p91o2) (.block 0 (.loop p91c20))) p91c26)
def pc91_r : List PRes := [PRes.tmp 4 []]
def pc91 : PFunc := ⟨19, pc91_r, p91c28, false⟩
def pc91_a : Ann := {
 kr := fun
  | 2 => some ([0, 1, 7, 8], [], [])
  | _ => none
 ka := fun _ => 0
 kh := fun _ => none
 ow := ow0
 tc := tc1 }
theorem pc91_ok : compFn Try.prog pc91_a Try.f91 = some pc91 := by kernel_rfl
def p81o1 := [zM 4 kf]
def p81o2 := [zM 5 0,
 zM 6 1,
 zo 7 (.gcall false false [300000, 300001, 300002, 300003, 300004, 300005, 300006, 300007] [[(0, 2)], []] 91 [5, 6]),
 zK 8 .geq 3 7 0,
 zM 4 8]
def p81c5 := sq (rg p81o1) (sq (rg p81o2) (rt))
def pc81_r : List PRes := [PRes.tmp 4 []]
def pc81 : PFunc := ⟨9, pc81_r, p81c5, false⟩
def pc81_a : Ann := {
 kr := fun _ => none
 ka := fun _ => 0
 kh := fun _ => none
 gf := fun d f => match d, f with
  | some 7, 91 => some (false, false, [300000, 300001, 300002, 300003, 300004, 300005, 300006, 300007])
  | _, _ => none
 ow := ow0
 tc := tc1 }
theorem pc81_ok : compFn Try.prog pc81_a Try.f81 = some pc81 := by kernel_rfl
def p67o1 := [zo 1 (.box 55 0 []),
 zM 2 kf]
def p67o2 := [zG 3 0 1,
 zL 4 3,
 zK 5 .geq 3 4 0,
 zM 6 5,
 zt 7 6 (.faddr 0 1),
 zt 8 6 (.load false 1 7),
 zt 9 6 (.prim (.bin .leq 3 false true) [8, kk 1000000]),
 zo 10 (.pick 6 9 kf),
 zM 11 10,
 zt 12 11 (.faddr 1 1),
 zt 13 11 (.load true 2 12),
 zt 14 11 (.call true [[]] 78 [13]),
 zo 15 (.pick 11 14 kf),
 zM 16 15,
 zt 17 16 (.faddr 3 1),
 zt 18 16 (.slcA 4 2 17 none none),
 zt 19 16 (.gcall false false [1, 300000, 300001, 300002, 300003, 300004, 300005, 300006, 300007] [[(0, 2)], []] 81 [18, .func 82]),
 zt 20 16 (.prim (.un .not) [19]),
 zo 21 (.pick 16 20 kf),
 zM 2 21]
def p67c5 := sq (rg p67o1) (sq (rg p67o2) (rt))
def pc67_r : List PRes := [PRes.tmp 2 []]
def pc67 : PFunc := ⟨22, pc67_r, p67c5, false⟩
def pc67_a : Ann := {
 kr := fun _ => none
 ka := fun _ => 0
 kh := fun _ => none
 gf := fun d f => match d, f with
  | some 19, 81 => some (false, false, [1, 300000, 300001, 300002, 300003, 300004, 300005, 300006, 300007])
  | _, _ => none
 ow := ow0
 tc := tc1 }
theorem pc67_ok : compFn Try.prog pc67_a Try.f67 = some pc67 := by kernel_rfl
def p35o1 := [zM 6 kf]
def p35o2 := [zM 12 0,
 zo 13 (.lenS 12),
 zM 14 (kk 0)]
def p35o3 := [zB 15 .lss 3 14 13]
def p35o7 := [zM 16 14,
 zo 17 (.iaddrS 11 12 14),
 zo 18 (.load true 11 17),
 zo 8 (.alloc 55 (.agg #[ki, ki, ki, ki, ks, ki, ks, ki, ks, ki, ks]) []),
 zM 7 16,
 zs (.store 11 8 18)]
def p35o8 := [zG 20 1 8,
 zo 21 (.load true 2 20),
 zo 22 (.call true [[]] 64 [21]),
 zM 19 22,
 zX 23 19 0,
 zX 24 19 1,
 zo 9 (.alloc 3 (.int .i64 0) []),
 zs (.store 1 9 23),
 zM 10 24]
def p35o9 := [zM 25 1,
 zo 26 (.mkfn 66 [9]),
 zo 27 (.gcall false false [9, 300000, 300001, 300002, 300003, 300004, 300005, 300006, 300007] [[(0, 2)], []] 65 [25, 26]),
 zM 11 27]
def p35o10 := [za 28 8 8 0 (.load true 11 8),
 zi 29 28 (.call false [[]] 67 [28]),
 zi 30 29 (.prim (.un .not) [29]),
 zi 31 30 (.mv 30),
 ⟨some 32, .mv 7, some (31, false), [(7, .imm)]⟩,
 ⟨some 33, .prim (.bin .gtr 3 false true) [32, kk 0], some (31, false), [(32, .imm)]⟩,
 ⟨some 34, .mv 33, some (31, false), [(33, .imm)]⟩,
 ⟨some 35, .faddr 0 8, some (34, true), [(8, .at_ 8 0)]⟩,
 ⟨some 36, .load false 1 35, some (34, true), [(35, .at_ 8 0)]⟩,
 ⟨some 37, .mv 0, some (34, true), [(0, .imm)]⟩,
 ⟨some 38, .mv 7, some (34, true), [(7, .imm)]⟩,
 ⟨some 39, .prim (.bin .sub 3 false true) [38, kk 1], some (34, true), [(38, .imm)]⟩,
 ⟨some 40, .iaddrS 11 37 39, some (34, true), [(37, .imm), (39, .imm)]⟩,
 ⟨some 41, .faddr 0 40, some (34, true), [(40, .imm)]⟩,
 ⟨some 42, .load false 1 41, some (34, true), [(41, .imm)]⟩,
 ⟨some 43, .prim (.bin .leq 3 false false) [36, 42], some (34, true), [(36, .imm), (42, .imm)]⟩,
 ⟨some 44, .pick 34 43 kf, some (31, false), [(34, .imm), (43, .imm)]⟩,
 zj 45 31 44 (.pick 31 kt 44),
 zi 46 45 (.mv 45),
 ⟨some 47, .mv 11, some (46, false), [(11, .imm)]⟩,
 ⟨some 48, .mv 2, some (46, false), [(2, .imm)]⟩,
 ⟨some 49, .prim (.bin .neq 4 false false) [47, 48], some (46, false), [(47, .imm), (48, .imm)]⟩,
 zj 50 46 49 (.pick 46 kt 49)]
def p35o11 := [zM 6 kf]
def p35o21 := [zK 51 .add 3 14 1,
 zM 14 51]
def p35c24 := sq (.region (some ([0, 1, 2, 12, 13, 14], [8, 9], [])) false p35o3) (sq (.cond 15 (.skip) (.exit 0)) (sq (.block 1 (sq (rg p35o7) (sq (rg p35o8) (sq (rg p35o9) (sq (rh p35o10) (.cond 50 (sq (rg p35o11) (rt)) (.skip))))))) (rg p35o21)))
def p35o28 := [zM 52 0,
 zo 53 (.lenS 52),
 zK 54 .leq 3 53 200,
 zM 6 54]
def p35c30 := sq (rg p35o28) (rt)
def p35c32 := sq (rg p35o1) (sq (sq (rg p35o2) (.block 0 (.loop p35c24))) p35c30)
def pc35_r : List PRes := [PRes.tmp 6 []]
def pc35 : PFunc := ⟨55, pc35_r, p35c32, false⟩
def pc35_a : Ann := {
 kr := fun
  | 2 => some ([0, 1, 2, 12, 13, 14], [8, 9], [])
  | _ => none
 ka := fun _ => 0
 kh := hg [([0, 2, 7, 11, 28, 29, 30, 31, 32, 33, 34, 36, 37, 38, 39, 40, 41, 42, 43, 44, 45, 46, 47, 48, 49], .imm), ([8, 35], .at_ 8 0)]
 gf := fun d f => match d, f with
  | some 27, 65 => some (false, false, [9, 300000, 300001, 300002, 300003, 300004, 300005, 300006, 300007])
  | _, _ => none
 ow := ow0
 tc := tc1 }
theorem pc35_ok : compFn Try.prog pc35_a Try.f35 = some pc35 := by kernel_rfl
def p68o1 := [zM 4 (kk 0)]
def p68o2 := [zM 6 0,
 zo 7 (.lenS 6),
 zM 8 (kk 0)]
def p68o3 := [zB 9 .lss 3 8 7]
def p68o7 := [zM 10 8,
 zM 5 10]
def p68o8 := [zM 11 1,
 zM 12 0,
 zM 13 5,
 zo 14 (.iaddrS 22 12 13),
 zo 15 (.load true 22 14),
 zo 16 (.callv true [[]] 11 [15])]
def p68o9 := [zM 17 5,
 zM 4 17]
def p68o17 := [zK 18 .add 3 8 1,
 zM 8 18]
def p68c20 := sq (.region (some ([0, 1, 7, 8], [], [])) false p68o3) (sq (.cond 9 (.skip) (.exit 0)) (sq (.block 1 (sq (rg p68o7) (sq (rg p68o8) (.cond 16 (sq (rg p68o9) (rt)) (.skip))))) (rg p68o17)))
def p68o24 := [zM 4 (kk (-1))]
def p68c26 := sq (rg p68o24) (rt)
def p68c28 := sq (rg p68o1) (sq (sq (rg p68o2) (.block 0 (.loop p68c20))) p68c26)
def pc68_r : List PRes := [PRes.tmp 4 []]
def pc68 : PFunc := ⟨19, pc68_r, p68c28, false⟩
def pc68_a : Ann := {
 kr := fun
  | 2 => some ([0, 1, 7, 8], [], [])
  | _ => none
 ka := fun _ => 0
 kh := fun _ => none
 ow := ow0
 tc := tc1 }
theorem pc68_ok : compFn Try.prog pc68_a Try.f68 = some pc68 := by kernel_rfl
def p36o1 := [zM 4 kf]
def p36o2 := [zM 5 0,
 zM 6 1,
 zo 7 (.gcall false false [300000, 300001, 300002, 300003, 300004, 300005, 300006, 300007] [[(0, 22)], []] 68 [5, 6]),
 zK 8 .geq 3 7 0,
 zM 4 8]
def p36c5 := sq (rg p36o1) (sq (rg p36o2) (rt))
def pc36_r : List PRes := [PRes.tmp 4 []]
def pc36 : PFunc := ⟨9, pc36_r, p36c5, false⟩
def pc36_a : Ann := {
 kr := fun _ => none
 ka := fun _ => 0
 kh := fun _ => none
 gf := fun d f => match d, f with
  | some 7, 68 => some (false, false, [300000, 300001, 300002, 300003, 300004, 300005, 300006, 300007])
  | _, _ => none
 ow := ow0
 tc := tc1 }
theorem pc36_ok : compFn Try.prog pc36_a Try.f36 = some pc36 := by kernel_rfl
def p11o1 := [zo 2 (.box 26 0 []),
 zM 4 kf]
def p11o2 := [zM 6 1,
 zo 7 (.prim .min [6, kk 4]),
 zM 1 7]
def p11o3 := [zG 8 0 2,
 zL 9 8,
 zK 10 .lss 3 9 0,
 zM 11 10,
 zf 12 11 (.faddr 0 2),
 zf 13 11 (.load false 1 12),
 zf 14 11 (.mv 1),
 zf 15 11 (.prim (.bin .geq 3 false false) [13, 14]),
 zo 16 (.pick 11 kt 15),
 zM 17 16,
 zf 18 17 (.faddr 1 2),
 zf 19 17 (.load false 1 18),
 zf 20 17 (.prim (.bin .lss 3 false true) [19, kk 0]),
 zo 21 (.pick 17 kt 20),
 zM 22 21,
 zf 23 22 (.faddr 1 2),
 zf 24 22 (.load false 1 23),
 zf 25 22 (.prim (.bin .gtr 3 false true) [24, kk 1073741824]),
 zo 26 (.pick 22 kt 25),
 zM 27 26,
 zf 28 27 (.faddr 5 2),
 zf 29 27 (.load false 1 28),
 zf 30 27 (.lenS 29),
 zf 31 27 (.prim (.bin .gtr 3 false true) [30, kk 20]),
 zo 32 (.pick 27 kt 31)]
def p11o4 := [zM 4 kf]
def p11o10 := [zo 5 (.mv (.func 31))]
def p11o11 := [zG 33 3 2,
 zL 34 33,
 zG 35 0 2,
 zL 36 35,
 zM 37 1,
 zo 38 (.call true [[(0, 2)], [], []] 34 [34, 36, 37]),
 zM 39 38,
 zt 40 39 (.faddr 2 2),
 zt 41 39 (.load false 1 40),
 zt 42 39 (.faddr 3 2),
 zt 43 39 (.load false 1 42),
 zt 44 39 (.call true [[(0, 11)], [(0, 2)], []] 35 [41, 43, kf]),
 zo 45 (.pick 39 44 kf),
 zM 46 45,
 zt 47 46 (.faddr 4 2),
 zt 48 46 (.load false 1 47),
 zt 49 46 (.faddr 3 2),
 zt 50 46 (.load false 1 49),
 zt 51 46 (.call true [[(0, 11)], [(0, 2)], []] 35 [48, 50, kt]),
 zo 52 (.pick 46 51 kf),
 zM 53 52,
 zt 54 53 (.faddr 5 2),
 zt 55 53 (.load false 1 54),
 zt 56 53 (.mv 5),
 zt 57 53 (.gcall false false [300000, 300001, 300002, 300003, 300004, 300005, 300006, 300007] [[(0, 22)], []] 36 [55, 56]),
 zt 58 53 (.prim (.un .not) [57]),
 zo 59 (.pick 53 58 kf),
 zM 4 59]
def p11c17 := sq (rg p11o1) (sq (rg p11o2) (sq (sq (rg p11o3) (.cond 32 (sq (rg p11o4) (rt)) (.skip))) (sq (rg p11o10) (sq (rg p11o11) (rt)))))
def pc11_r : List PRes := [PRes.tmp 4 []]
def pc11 : PFunc := ⟨60, pc11_r, p11c17, false⟩
def pc11_a : Ann := {
 kr := fun _ => none
 ka := fun _ => 0
 kh := fun _ => none
 gf := fun d f => match d, f with
  | some 57, 36 => some (false, false, [300000, 300001, 300002, 300003, 300004, 300005, 300006, 300007])
  | _, _ => none
 ow := ow0
 tc := tc1 }
theorem pc11_ok : compFn Try.prog pc11_a Try.f11 = some pc11 := by kernel_rfl
def p20o1 := [zo 2 (.mv (.const (ks)))]
def p20o2 := [zo 3 (.mv (.const (kl)))]
def p20o3 := [zM 4 0,
 zo 5 (.prim (.bin .geq 38 false true) [4, .const (.int .u64 128)])]
def p20o8 := [zM 6 3,
 zM 7 0,
 zo 8 (.prim (.conv 38 5) [7]),
 zo 9 (.prim (.bin .or 5 false true) [8, .const (.int .u8 128)]),
 zo 10 (.bslice 5 1 [9]),
 zo 11 (.app 100003 5 1 1 6 10),
 zM 3 11]
def p20o9 := [zM 12 0,
 zo 13 (.prim (.bin .shr 38 false true) [12, .const (.int .u64 7)]),
 zM 0 13]
def p20c12 := sq (sq (.region (some ([0, 3], [100003], [(false, 3, 0, 100003, 5, 1)])) false p20o3) (.cond 5 (.skip) (.exit 0))) (.block 1 (sq (rg p20o8) (rg p20o9)))
def p20o15 := [zM 14 3,
 zM 15 0,
 zo 16 (.prim (.conv 38 5) [15]),
 zo 17 (.bslice 5 1 [16]),
 zo 18 (.app 100003 5 1 1 14 17),
 zo 19 (.b2s 18),
 zM 2 19]
def p20c17 := sq (rg p20o15) (rt)
def p20c20 := sq (rg p20o1) (sq (rg p20o2) (sq (.block 0 (.loop p20c12)) p20c17))
def pc20_r : List PRes := [PRes.tmp 2 []]
def pc20 : PFunc := ⟨20, pc20_r, p20c20, false⟩
def pc20_a : Ann := {
 kr := fun
  | 2 => some ([0, 3], [100003], [(false, 3, 0, 100003, 5, 1)])
  | _ => none
 ka := fun
  | 11 => 100003
  | 18 => 100003
  | _ => 0
 kh := fun _ => none
 ow := ow0
 tc := tc1 }
theorem pc20_ok : compFn Try.prog pc20_a Try.f20 = some pc20 := by kernel_rfl
def p77o1 := [zo 2 (.mv (.const (.int .u64 0)))]
def p77o2 := [zM 3 0,
 zo 4 (.prim (.conv 2 38) [3]),
 zo 5 (.prim (.bin .shl 38 false true) [4, .const (.int .u64 1)]),
 zM 6 0,
 zo 7 (.prim (.bin .shr 2 false true) [6, .const (.int .u64 63)]),
 zo 8 (.prim (.conv 2 38) [7]),
 zB 9 .xor 38 5 8,
 zM 2 9]
def p77c5 := sq (rg p77o1) (sq (rg p77o2) (rt))
def pc77_r : List PRes := [PRes.tmp 2 []]
def pc77 : PFunc := ⟨10, pc77_r, p77c5, false⟩
def pc77_a : Ann := {
 kr := fun _ => none
 ka := fun _ => 0
 kh := fun _ => none
 ow := ow0
 tc := tc1 }
theorem pc77_ok : compFn Try.prog pc77_a Try.f77 = some pc77 := by kernel_rfl
def p46o1 := [zo 2 (.mv (.const (ks)))]
def p46o2 := [zM 3 0,
 zo 4 (.call true [[]] 77 [3]),
 zo 5 (.call true [[]] 20 [4]),
 zM 2 5]
def p46c5 := sq (rg p46o1) (sq (rg p46o2) (rt))
def pc46_r : List PRes := [PRes.tmp 2 []]
def pc46 : PFunc := ⟨6, pc46_r, p46c5, false⟩
def pc46_a : Ann := {
 kr := fun _ => none
 ka := fun _ => 0
 kh := fun _ => none
 ow := ow0
 tc := tc1 }
theorem pc46_ok : compFn Try.prog pc46_a Try.f46 = some pc46 := by kernel_rfl
def p49o1 := [zo 2 (.mv (.const (ks)))]
def p49o2 := [zM 3 0,
 zo 4 (.prim (.len 9) [3]),
 zo 5 (.prim (.conv 3 38) [4]),
 zo 6 (.call true [[]] 20 [5]),
 zM 7 0,
 zB 8 .add 9 6 7,
 zM 2 8]
def p49c5 := sq (rg p49o1) (sq (rg p49o2) (rt))
def pc49_r : List PRes := [PRes.tmp 2 []]
def pc49 : PFunc := ⟨9, pc49_r, p49c5, false⟩
def pc49_a : Ann := {
 kr := fun _ => none
 ka := fun _ => 0
 kh := fun _ => none
 ow := ow0
 tc := tc1 }
theorem pc49_ok : compFn Try.prog pc49_a Try.f49 = some pc49 := by kernel_rfl
def p89o1 := [zM 4 kf]
def p89o2 := [zM 5 0,
 zM 6 1,
 zK 7 .add 3 6 1,
 zB 8 .shr 5 5 7,
 zo 9 (.prim (.bin .and 5 false true) [8, .const (.int .u8 1)]),
 zo 10 (.prim (.bin .eql 5 false true) [9, .const (.int .u8 1)]),
 zM 4 10]
def p89c5 := sq (rg p89o1) (sq (rg p89o2) (rt))
def pc89_r : List PRes := [PRes.tmp 4 []]
def pc89 : PFunc := ⟨11, pc89_r, p89c5, false⟩
def pc89_a : Ann := {
 kr := fun _ => none
 ka := fun _ => 0
 kh := fun _ => none
 ow := ow0
 tc := tc1 }
theorem pc89_ok : compFn Try.prog pc89_a Try.f89 = some pc89 := by kernel_rfl
def p88o1 := [zo 1 (.box 124 0 []),
 zM 2 kf]
def p88o2 := [zG 5 0 1,
 zL 6 5,
 zK 7 .lss 3 6 0,
 zM 8 7,
 zf 9 8 (.faddr 0 1),
 zf 10 8 (.load false 1 9),
 zf 11 8 (.prim (.bin .gtr 3 false true) [10, kk 1000000]),
 zo 12 (.pick 8 kt 11),
 zM 13 12,
 zf 14 13 (.faddr 1 1),
 zf 15 13 (.load false 1 14),
 zf 16 13 (.prim (.bin .eql 5 false true) [15, .const (.int .u8 0)]),
 zo 17 (.pick 13 kt 16),
 zM 18 17,
 zf 19 18 (.faddr 1 1),
 zf 20 18 (.load false 1 19),
 zf 21 18 (.prim (.bin .gtr 5 false true) [20, .const (.int .u8 31)]),
 zo 22 (.pick 18 kt 21)]
def p88o3 := [zM 2 kf]
def p88o9 := [zG 23 1 1,
 zL 24 23,
 zo 25 (.prim (.bin .and 5 false true) [24, .const (.int .u8 1)]),
 zo 26 (.prim (.bin .eql 5 false true) [25, .const (.int .u8 0)]),
 zM 27 26,
 zt 28 27 (.faddr 2 1),
 zt 29 27 (.load true 2 28),
 zt 30 27 (.build (.agg #[ki, ki]) []),
 zt 31 27 (.prim (.bin .neq 46 false false) [29, 30]),
 zo 32 (.pick 27 31 kf),
 zM 33 32,
 zf 34 33 (.faddr 2 1),
 zf 35 33 (.load true 2 34),
 zf 36 33 (.call true [[]] 78 [35]),
 zf 37 33 (.prim (.un .not) [36]),
 zo 38 (.pick 33 kt 37)]
def p88o10 := [zM 2 kf]
def p88o16 := [zG 39 4 1,
 zo 40 (.load true 8 39),
 zM 41 (kk 0)]
def p88o17 := [zK 42 .lss 3 41 4]
def p88o21 := [zM 43 41,
 zo 44 (.idx true 2 4 40 41),
 zo 4 (.alloc 48 (.agg #[ki, ks]) []),
 zM 3 43,
 zs (.store 2 4 44)]
def p88o22 := [zo 45 (.load true 2 4),
 zo 46 (.call true [[]] 60 [45]),
 zo 47 (.prim (.un .not) [46]),
 zM 48 47,
 zf 49 48 (.faddr 1 1),
 zf 50 48 (.load false 1 49),
 zf 51 48 (.mv 3),
 zf 52 48 (.call true [[], []] 89 [50, 51]),
 zf 53 48 (.prim (.un .not) [52]),
 zf 54 48 (.mv 53),
 zt 55 54 (.load true 2 4),
 zt 56 54 (.build (.agg #[ki, ks]) []),
 zt 57 54 (.prim (.bin .neq 48 false false) [55, 56]),
 zf 58 48 (.pick 54 57 kf),
 zo 59 (.pick 48 kt 58)]
def p88o23 := [zM 2 kf]
def p88o31 := [zK 60 .add 3 41 1,
 zM 41 60]
def p88c34 := sq (.region (some ([1, 40, 41], [1, 4], [])) false p88o17) (sq (.cond 42 (.skip) (.exit 0)) (sq (.block 1 (sq (rg p88o21) (sq (rg p88o22) (.cond 59 (sq (rg p88o23) (rt)) (.skip))))) (rg p88o31)))
def p88o38 := [zM 2 kt]
def p88c40 := sq (rg p88o38) (rt)
def p88c41 := sq (sq (.region (some ([1], [1], [])) false p88o16) (.block 0 (.loop p88c34))) p88c40
def p88c44 := sq (rg p88o1) (sq (sq (rg p88o2) (.cond 22 (sq (rg p88o3) (rt)) (.skip))) (sq (sq (rg p88o9) (.cond 38 (sq (rg p88o10) (rt)) (.skip))) p88c41))
def pc88_r : List PRes := [PRes.tmp 2 []]
def pc88 : PFunc := ⟨61, pc88_r, p88c44, false⟩
def pc88_a : Ann := {
 kr := fun
  | 5 => some ([1], [1], [])
  | 6 => some ([1, 40, 41], [1, 4], [])
  | _ => none
 ka := fun _ => 0
 kh := fun _ => none
 ow := ow0
 tc := tc1 }
theorem pc88_ok : compFn Try.prog pc88_a Try.f88 = some pc88 := by kernel_rfl
def p75o1 := [zo 1 (.box 124 0 []),
 zo 2 (.mv (.const (ks))),
 zM 3 (kk 0)]
def p75o2 := [zo 7 (.load true 12 1),
 zo 8 (.call true [[]] 88 [7]),
 zo 9 (.prim (.un .not) [8])]
def p75o3 := [zo 2 (.mv (.const (ks))),
 zM 3 (kk 11)]
def p75o9 := [za 10 1 1 0 (.faddr 0 1),
 za 11 10 1 0 (.load false 1 10),
 zi 12 11 (.prim (.conv 3 38) [11]),
 zi 13 12 (.call false [[]] 20 [12]),
 za 14 1 1 0 (.faddr 1 1),
 za 15 14 1 1 (.load false 1 14),
 zi 16 15 (.prim (.conv 5 38) [15]),
 zi 17 16 (.call false [[]] 20 [16]),
 zj 18 13 17 (.prim (.bin .add 9 false false) [13, 17]),
 zi 4 18 (.mv 18)]
def p75o10 := [zG 19 1 1,
 zL 20 19,
 zo 21 (.prim (.bin .and 5 false true) [20, .const (.int .u8 1)]),
 zo 22 (.prim (.bin .neq 5 false true) [21, .const (.int .u8 0)])]
def p75o11 := [zi 23 4 (.mv 4),
 za 24 1 1 0 (.faddr 2 1),
 za 25 24 1 2 (.faddr 0 24),
 za 26 25 1 2 (.load false 1 25),
 zi 27 26 (.prim (.conv 3 38) [26]),
 zi 28 27 (.call false [[]] 20 [27]),
 za 29 1 1 0 (.faddr 2 1),
 za 30 29 1 2 (.faddr 1 29),
 za 31 30 1 3 (.load false 1 30),
 zi 32 31 (.prim (.conv 3 38) [31]),
 zi 33 32 (.call false [[]] 20 [32]),
 zj 34 28 33 (.prim (.bin .add 9 false false) [28, 33]),
 zj 35 23 34 (.prim (.bin .add 9 false false) [23, 34]),
 zi 4 35 (.mv 35)]
def p75o15 := [zG 36 4 1,
 zo 37 (.load true 8 36),
 zM 38 (kk 0)]
def p75o16 := [zK 39 .lss 3 38 4]
def p75o20 := [zM 40 38,
 zo 41 (.idx true 2 4 37 38),
 zo 6 (.alloc 48 (.agg #[ki, ks]) []),
 zM 5 40,
 zs (.store 2 6 41)]
def p75o21 := [zG 42 1 1,
 zL 43 42,
 zM 44 5,
 zo 45 (.call true [[], []] 89 [43, 44]),
 zo 46 (.prim (.un .not) [45])]
def p75o26 := [zM 47 4,
 zG 48 1 6,
 zL 49 48,
 zo 50 (.call true [[]] 49 [49]),
 zB 51 .add 9 47 50,
 zM 4 51]
def p75o27 := [zG 52 1 6,
 zL 53 52,
 zo 54 (.prim (.bin .eql 9 false true) [53, .const (ks)])]
def p75o28 := [zM 55 4,
 zG 56 0 6,
 zL 57 56,
 zo 58 (.call true [[]] 46 [57]),
 zB 59 .add 9 55 58,
 zM 4 59]
def p75o36 := [zK 60 .add 3 38 1,
 zM 38 60]
def p75c39 := sq (.region (some ([1, 4, 37, 38], [1, 6], [])) false p75o16) (sq (.cond 39 (.skip) (.exit 0)) (sq (.block 1 (sq (rg p75o20) (sq (sq (rg p75o21) (.cond 46 (.exit 1) (.skip))) (sq (rg p75o26) (sq (rg p75o27) (.cond 54 (rg p75o28) (.skip))))))) (rg p75o36)))
def p75o43 := [zM 61 4,
 zM 2 61,
 zM 3 (kk 0)]
def p75c45 := sq (rg p75o43) (rt)
def p75c46 := sq (sq (.region (some ([1, 4], [1], [])) false p75o15) (.block 0 (.loop p75c39))) p75c45
def p75c50 := sq (rg p75o1) (sq (sq (rg p75o2) (.cond 9 (sq (rg p75o3) (rt)) (.skip))) (sq (rh p75o9) (sq (sq (rg p75o10) (.cond 22 (rh p75o11) (.skip))) p75c46)))
def pc75_r : List PRes := [PRes.tmp 2 [], PRes.tmp 3 []]
def pc75 : PFunc := ⟨62, pc75_r, p75c50, false⟩
def pc75_a : Ann := {
 kr := fun
  | 6 => some ([1, 4], [1], [])
  | 7 => some ([1, 4, 37, 38], [1, 6], [])
  | _ => none
 ka := fun _ => 0
 kh := hg [([1, 10], .at_ 1 0), ([4, 11, 12, 13, 15, 16, 17, 18, 23, 26, 27, 28, 31, 32, 33, 34, 35], .imm), ([14], .at_ 1 1), ([24, 25, 29], .at_ 1 2), ([30], .at_ 1 3)]
 ow := ow0
 tc := tc1 }
theorem pc75_ok : compFn Try.prog pc75_a Try.f75 = some pc75 := by kernel_rfl
def p44o1 := [zo 1 (.box 55 0 []),
 zo 2 (.mv (.const (ks))),
 zM 3 (kk 0)]
def p44o2 := [zo 4 (.load true 11 1),
 zo 5 (.call true [[]] 67 [4]),
 zo 6 (.prim (.un .not) [5])]
def p44o3 := [zo 2 (.mv (.const (ks))),
 zM 3 (kk 11)]
def p44o9 := [zG 7 0 1,
 zL 8 7,
 zG 9 1 1,
 zo 10 (.load true 2 9),
 zG 11 3 1,
 zo 12 (.load true 8 11),
 zo 13 (.build (.agg #[ki, .int .u8 0, ki, ki, ki, ks, ki, ks, ki, ks, ki, ks]) [(0, 1, .tmp 8), (1, 1, .const (.int .u8 31)), (2, 2, .tmp 10), (4, 8, .tmp 12)]),
 zo 14 (.call true [[]] 75 [13]),
 zX 15 14 0,
 zX 16 14 1,
 zM 2 15,
 zM 3 16]
def p44c13 := sq (rg p44o1) (sq (sq (rg p44o2) (.cond 6 (sq (rg p44o3) (rt)) (.skip))) (sq (rg p44o9) (rt)))
def pc44_r : List PRes := [PRes.tmp 2 [], PRes.tmp 3 []]
def pc44 : PFunc := ⟨17, pc44_r, p44c13, false⟩
def pc44_a : Ann := {
 kr := fun _ => none
 ka := fun _ => 0
 kh := fun _ => none
 ow := ow0
 tc := tc1 }
theorem pc44_ok : compFn Try.prog pc44_a Try.f44 = some pc44 := by kernel_rfl
def p18o1 := [zo 2 (.mv (.const (ks))),
 zM 3 (kk 0)]
def p18o2 := [zM 9 0,
 zo 10 (.lenS 9),
 zK 11 .gtr 3 10 200]
def p18o3 := [zo 2 (.mv (.const (ks))),
 zM 3 (kk 13)]
def p18o9 := [zo 4 (.allocT 64 (.agg #[.pointer none, kl]) [(1, 5, 1)])]
def p18o10 := [zM 12 0,
 zo 13 (.lenS 12),
 zo 14 (.prim (.conv 3 38) [13]),
 zo 15 (.call true [[]] 20 [14]),
 zo 16 (.gcall false false [4, 300000, 300001, 300002, 300003, 300004, 300005, 300006, 300007, 400032] [[(1, 1)], []] 19 [4, 15])]
def p18o11 := [zM 17 0,
 zo 18 (.lenS 17),
 zM 19 (kk 0)]
def p18o12 := [zB 20 .lss 3 19 18]
def p18o16 := [zM 21 19,
 zo 22 (.iaddrS 11 17 19),
 zo 23 (.load true 11 22),
 zo 6 (.alloc 55 (.agg #[ki, ki, ki, ki, ks, ki, ks, ki, ks, ki, ks]) []),
 zM 5 21,
 zs (.store 11 6 23)]
def p18o17 := [zo 25 (.load true 11 6),
 zo 26 (.call true [[]] 44 [25]),
 zM 24 26,
 zX 27 24 0,
 zX 28 24 1,
 zM 7 27,
 zM 8 28]
def p18o18 := [zi 29 8 (.mv 8),
 zi 30 29 (.prim (.bin .neq 29 false true) [29, kk 0]),
 zi 31 30 (.mv 30),
 ⟨some 32, .mv 5, some (31, false), [(5, .imm)]⟩,
 ⟨some 33, .prim (.bin .gtr 3 false true) [32, kk 0], some (31, false), [(32, .imm)]⟩,
 ⟨some 34, .mv 33, some (31, false), [(33, .imm)]⟩,
 ⟨some 35, .faddr 0 6, some (34, true), [(6, .at_ 6 0)]⟩,
 ⟨some 36, .load false 1 35, some (34, true), [(35, .at_ 6 0)]⟩,
 ⟨some 37, .mv 0, some (34, true), [(0, .imm)]⟩,
 ⟨some 38, .mv 5, some (34, true), [(5, .imm)]⟩,
 ⟨some 39, .prim (.bin .sub 3 false true) [38, kk 1], some (34, true), [(38, .imm)]⟩,
 ⟨some 40, .iaddrS 11 37 39, some (34, true), [(37, .imm), (39, .imm)]⟩,
 ⟨some 41, .faddr 0 40, some (34, true), [(40, .imm)]⟩,
 ⟨some 42, .load false 1 41, some (34, true), [(41, .imm)]⟩,
 ⟨some 43, .prim (.bin .leq 3 false false) [36, 42], some (34, true), [(36, .imm), (42, .imm)]⟩,
 ⟨some 44, .pick 34 43 kf, some (31, false), [(34, .imm), (43, .imm)]⟩,
 zj 45 31 44 (.pick 31 kt 44)]
def p18o19 := [zo 2 (.mv (.const (ks))),
 zM 3 (kk 11)]
def p18o25 := [zM 46 7,
 zo 47 (.gcall false false [4, 300000, 300001, 300002, 300003, 300004, 300005, 300006, 300007, 400032] [[(1, 1)], []] 19 [4, 46])]
def p18o30 := [zK 48 .add 3 19 1,
 zM 19 48]
def p18c33 := sq (.region (some ([0, 4, 17, 18, 19], [4, 6, 400032], [])) false p18o12) (sq (.cond 20 (.skip) (.exit 0)) (sq (.block 1 (sq (rg p18o16) (sq (rg p18o17) (sq (sq (rh p18o18) (.cond 45 (sq (rg p18o19) (rt)) (.skip))) (rg p18o25))))) (rg p18o30)))
def p18o37 := [zo 49 (.gcall false false [4, 300000, 300001, 300002, 300003, 300004, 300005, 300006, 300007, 400032] [[(1, 1)]] 24 [4]),
 zM 2 49,
 zM 3 (kk 0)]
def p18c39 := sq (rg p18o37) (rt)
def p18c44 := sq (rg p18o1) (sq (sq (rg p18o2) (.cond 11 (sq (rg p18o3) (rt)) (.skip))) (sq (rg p18o9) (sq (rg p18o10) (sq (sq (rg p18o11) (.block 0 (.loop p18c33))) p18c39))))
def pc18_r : List PRes := [PRes.tmp 2 [], PRes.tmp 3 []]
def pc18 : PFunc := ⟨50, pc18_r, p18c44, false⟩
def pc18_a : Ann := {
 kr := fun
  | 6 => some ([0, 4, 17, 18, 19], [4, 6, 400032], [])
  | _ => none
 ka := fun _ => 0
 kh := hg [([0, 5, 8, 29, 30, 31, 32, 33, 34, 36, 37, 38, 39, 40, 41, 42, 43, 44], .imm), ([6, 35], .at_ 6 0)]
 gf := fun d f => match d, f with
  | some 16, 19 => some (false, false, [4, 300000, 300001, 300002, 300003, 300004, 300005, 300006, 300007, 400032])
  | some 47, 19 => some (false, false, [4, 300000, 300001, 300002, 300003, 300004, 300005, 300006, 300007, 400032])
  | some 49, 24 => some (false, false, [4, 300000, 300001, 300002, 300003, 300004, 300005, 300006, 300007, 400032])
  | _, _ => none
 ow := ow0
 tc := tc1 }
theorem pc18_ok : compFn Try.prog pc18_a Try.f18 = some pc18 := by kernel_rfl
def p47o1 := [zo 2 (.mv (.const (kl)))]
def p47o2 := [zM 3 0,
 zo 4 (.nilc 3),
 zG 5 0 4,
 zL 6 5]
def p47o3 := [zK 8 .eql 3 6 1,
 zM 7 8]
def p47o4 := [za 9 0 1000000 0 (.mv 0),
 za 10 9 1000000 0 (.nilc 9),
 za 11 10 1000000 0 (.faddr 4 10),
 za 12 11 1000000 4 (.faddr 0 11),
 za 13 0 1000000 0 (.mv 0),
 za 14 13 1000000 0 (.nilc 13),
 za 15 14 1000000 0 (.faddr 4 14),
 za 16 15 1000000 4 (.faddr 1 15),
 ⟨some 17, .bptrs 1 [12, 16], none, [(12, .at_ 1000000 4), (16, .at_ 1000000 5)]⟩,
 ⟨some 2, .mv 17, none, [(17, .obj 17)]⟩]
def p47o7 := [zK 19 .eql 3 6 2,
 zM 18 19]
def p47o8 := [za 20 0 1000000 0 (.mv 0),
 za 21 20 1000000 0 (.nilc 20),
 za 22 21 1000000 0 (.faddr 1 21),
 za 23 0 1000000 0 (.mv 0),
 za 24 23 1000000 0 (.nilc 23),
 za 25 24 1000000 0 (.faddr 4 24),
 za 26 25 1000000 4 (.faddr 0 25),
 za 27 0 1000000 0 (.mv 0),
 za 28 27 1000000 0 (.nilc 27),
 za 29 28 1000000 0 (.faddr 4 28),
 za 30 29 1000000 4 (.faddr 1 29),
 ⟨some 31, .bptrs 1 [22, 26, 30], none, [(22, .at_ 1000000 1), (26, .at_ 1000000 4), (30, .at_ 1000000 5)]⟩,
 ⟨some 2, .mv 31, none, [(31, .obj 31)]⟩]
def p47o11 := [zK 33 .eql 3 6 3,
 zM 32 33]
def p47o12 := [za 34 0 1000000 0 (.mv 0),
 za 35 34 1000000 0 (.nilc 34),
 za 36 35 1000000 0 (.faddr 1 35),
 za 37 0 1000000 0 (.mv 0),
 za 38 37 1000000 0 (.nilc 37),
 za 39 38 1000000 0 (.faddr 2 38),
 ⟨some 40, .bptrs 1 [36, 39], none, [(36, .at_ 1000000 1), (39, .at_ 1000000 2)]⟩,
 ⟨some 2, .mv 40, none, [(40, .obj 40)]⟩]
def p47o15 := [zK 42 .eql 3 6 4,
 zM 41 42]
def p47o16 := [zM 43 0,
 zo 44 (.nilc 43),
 zG 45 1 44,
 zo 46 (.bptrs 1 [45]),
 zM 2 46]
def p47o19 := [zK 48 .eql 3 6 5,
 zM 47 48]
def p47o20 := [za 49 0 1000000 0 (.mv 0),
 za 50 49 1000000 0 (.nilc 49),
 za 51 50 1000000 0 (.faddr 2 50),
 za 52 0 1000000 0 (.mv 0),
 za 53 52 1000000 0 (.nilc 52),
 za 54 53 1000000 0 (.faddr 3 53),
 ⟨some 55, .bptrs 1 [51, 54], none, [(51, .at_ 1000000 2), (54, .at_ 1000000 3)]⟩,
 ⟨some 2, .mv 55, none, [(55, .obj 55)]⟩]
def p47o23 := [zK 57 .eql 3 6 6,
 zM 56 57]
def p47o25 := [zK 58 .eql 3 6 7,
 zM 56 58]
def p47o28 := [za 59 0 1000000 0 (.mv 0),
 za 60 59 1000000 0 (.nilc 59),
 za 61 60 1000000 0 (.faddr 18 60),
 za 62 61 1000000 18 (.faddr 0 61),
 za 63 0 1000000 0 (.mv 0),
 za 64 63 1000000 0 (.nilc 63),
 za 65 64 1000000 0 (.faddr 18 64),
 za 66 65 1000000 18 (.faddr 1 65),
 za 67 0 1000000 0 (.mv 0),
 za 68 67 1000000 0 (.nilc 67),
 za 69 68 1000000 0 (.faddr 18 68),
 za 70 69 1000000 18 (.faddr 2 69),
 za 71 0 1000000 0 (.mv 0),
 za 72 71 1000000 0 (.nilc 71),
 za 73 72 1000000 0 (.faddr 18 72),
 za 74 73 1000000 18 (.faddr 3 73),
 ⟨some 75, .bptrs 1 [62, 66, 70, 74], none, [(62, .at_ 1000000 18), (66, .at_ 1000000 19), (70, .at_ 1000000 20), (74, .at_ 1000000 21)]⟩,
 ⟨some 2, .mv 75, none, [(75, .obj 75)]⟩]
def p47c30 := sq (.region (some ([0], [1000000], [])) true p47o28) (rt)
def p47o46 := [zo 2 (.mv (.const (kl)))]
def p47c48 := sq (rg p47o46) (rt)
def p47c50 := sq (rg p47o1) (sq (sq (rg p47o2) (.block 0 (sq (rg p47o3) (.cond 7 (sq (rh p47o4) (rt)) (sq (rg p47o7) (.cond 18 (sq (rh p47o8) (rt)) (sq (rg p47o11) (.cond 32 (sq (rh p47o12) (rt)) (sq (rg p47o15) (.cond 41 (sq (rg p47o16) (rt)) (sq (rg p47o19) (.cond 47 (sq (rh p47o20) (rt)) (sq (sq (rg p47o23) (.cond 56 (.skip) (rg p47o25))) (.cond 56 p47c30 (.skip))))))))))))))) p47c48)
def pc47_r : List PRes := [PRes.tmp 2 [(0, 1)]]
def pc47 : PFunc := ⟨76, pc47_r, p47c50, false⟩
def pc47_a : Ann := {
 kr := fun
  | 14 => some ([0], [1000000], [])
  | _ => none
 ka := fun _ => 0
 kh := hg [([0, 9, 10, 13, 14, 20, 21, 23, 24, 27, 28, 34, 35, 37, 38, 49, 50, 52, 53, 59, 60, 63, 64, 67, 68, 71, 72], .at_ 1000000 0), ([11, 12, 15, 25, 26, 29], .at_ 1000000 4), ([16, 30], .at_ 1000000 5), ([17], .obj 17), ([22, 36], .at_ 1000000 1), ([31], .obj 31), ([39, 51], .at_ 1000000 2), ([40], .obj 40), ([54], .at_ 1000000 3), ([55], .obj 55), ([61, 62, 65, 69, 73], .at_ 1000000 18), ([66], .at_ 1000000 19), ([70], .at_ 1000000 20), ([74], .at_ 1000000 21), ([75], .obj 75)]
 ow := ow0
 tc := tc1 }
theorem pc47_ok : compFn Try.prog pc47_a Try.f47 = some pc47 := by kernel_rfl
def p48o1 := [zo 2 (.mv (.const (kl)))]
def p48o2 := [zM 3 0,
 zo 4 (.nilc 3),
 zG 5 0 4,
 zL 6 5]
def p48o3 := [zK 8 .eql 3 6 1,
 zM 7 8]
def p48o4 := [za 9 0 1000000 0 (.mv 0),
 za 10 9 1000000 0 (.nilc 9),
 za 11 10 1000000 0 (.faddr 6 10),
 za 12 11 1000000 6 (.iaddrA 4 2 11 (kk 0)),
 za 13 0 1000000 0 (.mv 0),
 za 14 13 1000000 0 (.nilc 13),
 za 15 14 1000000 0 (.faddr 6 14),
 za 16 15 1000000 6 (.iaddrA 4 2 15 (kk 1)),
 za 17 0 1000000 0 (.mv 0),
 za 18 17 1000000 0 (.nilc 17),
 za 19 18 1000000 0 (.faddr 6 18),
 za 20 19 1000000 6 (.iaddrA 4 2 19 (kk 2)),
 za 21 0 1000000 0 (.mv 0),
 za 22 21 1000000 0 (.nilc 21),
 za 23 22 1000000 0 (.faddr 6 22),
 za 24 23 1000000 6 (.iaddrA 4 2 23 (kk 3)),
 ⟨some 25, .bptrs 1 [12, 16, 20, 24], none, [(12, .at_ 1000000 6), (16, .at_ 1000000 8), (20, .at_ 1000000 10), (24, .at_ 1000000 12)]⟩,
 ⟨some 2, .mv 25, none, [(25, .obj 25)]⟩]
def p48o7 := [zK 27 .eql 3 6 3,
 zM 26 27]
def p48o8 := [zM 28 0,
 zo 29 (.nilc 28),
 zG 30 14 29,
 zo 31 (.bptrs 1 [30]),
 zM 2 31]
def p48o18 := [zo 2 (.mv (.const (kl)))]
def p48c22 := sq (rg p48o1) (sq (sq (rg p48o2) (.block 0 (sq (rg p48o3) (.cond 7 (sq (rh p48o4) (rt)) (sq (rg p48o7) (.cond 26 (sq (rg p48o8) (rt)) (.skip))))))) (sq (rg p48o18) (rt)))
def pc48_r : List PRes := [PRes.tmp 2 [(0, 1)]]
def pc48 : PFunc := ⟨32, pc48_r, p48c22, false⟩
def pc48_a : Ann := {
 kr := fun _ => none
 ka := fun _ => 0
 kh := hg [([0, 9, 10, 13, 14, 17, 18, 21, 22], .at_ 1000000 0), ([11, 12, 15, 19, 23], .at_ 1000000 6), ([16], .at_ 1000000 8), ([20], .at_ 1000000 10), ([24], .at_ 1000000 12), ([25], .obj 25)]
 ow := ow0
 tc := tc1 }
theorem pc48_ok : compFn Try.prog pc48_a Try.f48 = some pc48 := by kernel_rfl
def p21o1 := [zo 1 (.box 53 0 []),
 zo 2 (.mv (.const (ks))),
 zM 3 (kk 0)]
def p21o2 := [zo 9 (.load true 22 1),
 zo 10 (.call true [[]] 32 [9]),
 zo 11 (.prim (.un .not) [10])]
def p21o3 := [zo 2 (.mv (.const (ks))),
 zM 3 (kk 11)]
def p21o9 := [za 12 1 1 0 (.faddr 0 1),
 za 13 12 1 0 (.load false 1 12),
 zi 14 13 (.call false [[]] 46 [13]),
 za 15 1 1 0 (.faddr 16 1),
 za 16 15 1 16 (.load false 1 15),
 zi 17 16 (.call false [[]] 46 [16]),
 zj 18 14 17 (.prim (.bin .add 9 false false) [14, 17]),
 za 19 1 1 0 (.faddr 17 1),
 za 20 19 1 17 (.load false 1 19),
 zi 21 20 (.call false [[]] 46 [20]),
 zj 22 18 21 (.prim (.bin .add 9 false false) [18, 21]),
 zi 4 22 (.mv 22)]
def p21o10 := [zo 23 (.gcall false false [1, 300000, 300001, 300002, 300003, 300004, 300005, 300006, 300007] [[]] 47 [1]),
 zo 24 (.lenS 23),
 zM 25 (kk 0)]
def p21o11 := [zB 26 .lss 3 25 24]
def p21o15 := [zo 27 (.iaddrS 1 23 25),
 zL 28 27,
 zM 6 28]
def p21o16 := [zM 29 4,
 zM 30 6,
 zo 31 (.nilc 30),
 zL 32 31,
 zo 33 (.call true [[]] 46 [32]),
 zB 34 .add 9 29 33,
 zM 4 34]
def p21o19 := [zK 35 .add 3 25 1,
 zM 25 35]
def p21o26 := [zo 36 (.gcall false false [1, 300000, 300001, 300002, 300003, 300004, 300005, 300006, 300007] [[]] 48 [1]),
 zo 37 (.lenS 36),
 zM 38 (kk 0)]
def p21o27 := [zB 39 .lss 3 38 37]
def p21o31 := [zo 40 (.iaddrS 1 36 38),
 zL 41 40,
 zM 8 41]
def p21o32 := [zi 42 4 (.mv 4),
 ⟨some 43, .mv 8, none, [(8, .obj 1)]⟩,
 ⟨some 44, .nilc 43, none, [(43, .obj 1)]⟩,
 ⟨some 45, .faddr 1 44, none, [(44, .obj 1)]⟩,
 ⟨some 46, .load false 1 45, none, [(45, .obj 1)]⟩,
 zi 47 46 (.call false [[]] 49 [46]),
 ⟨some 48, .mv 8, none, [(8, .obj 1)]⟩,
 ⟨some 49, .nilc 48, none, [(48, .obj 1)]⟩,
 ⟨some 50, .faddr 0 49, none, [(49, .obj 1)]⟩,
 ⟨some 51, .load false 1 50, none, [(50, .obj 1)]⟩,
 zi 52 51 (.call false [[]] 46 [51]),
 zj 53 47 52 (.prim (.bin .add 9 false false) [47, 52]),
 zj 54 42 53 (.prim (.bin .add 9 false false) [42, 53]),
 zi 4 54 (.mv 54)]
def p21o35 := [zK 55 .add 3 38 1,
 zM 38 55]
def p21o42 := [zM 56 4,
 zM 2 56,
 zM 3 (kk 0)]
def p21c45 := sq (sq (.region (some ([1, 4], [1, 300000], [])) false p21o26) (.block 2 (.loop (sq (.region (some ([4, 36, 37, 38], [1, 300000], [])) false p21o27) (sq (.cond 39 (.skip) (.exit 2)) (sq (.block 3 (sq (rg p21o31) (rh p21o32))) (rg p21o35))))))) (sq (rg p21o42) (rt))
def p21c49 := sq (rg p21o1) (sq (sq (rg p21o2) (.cond 11 (sq (rg p21o3) (rt)) (.skip))) (sq (rh p21o9) (sq (sq (rg p21o10) (.block 0 (.loop (sq (.region (some ([1, 4, 23, 24, 25], [1, 300000], [])) false p21o11) (sq (.cond 26 (.skip) (.exit 0)) (sq (.block 1 (sq (rg p21o15) (rg p21o16))) (rg p21o19))))))) p21c45)))
def pc21_r : List PRes := [PRes.tmp 2 [], PRes.tmp 3 []]
def pc21 : PFunc := ⟨57, pc21_r, p21c49, false⟩
def pc21_a : Ann := {
 kr := fun
  | 5 => some ([1, 4, 23, 24, 25], [1, 300000], [])
  | 9 => some ([1, 4], [1, 300000], [])
  | 10 => some ([4, 36, 37, 38], [1, 300000], [])
  | _ => none
 ka := fun _ => 0
 kh := hg [([1, 12], .at_ 1 0), ([4, 13, 14, 16, 17, 18, 20, 21, 22, 42, 46, 47, 51, 52, 53, 54], .imm), ([8, 43, 44, 45, 48, 49, 50], .obj 1), ([15], .at_ 1 16), ([19], .at_ 1 17)]
 gf := fun d f => match d, f with
  | some 23, 47 => some (false, false, [1, 300000, 300001, 300002, 300003, 300004, 300005, 300006, 300007])
  | some 36, 48 => some (false, false, [1, 300000, 300001, 300002, 300003, 300004, 300005, 300006, 300007])
  | _, _ => none
 ow := ow0
 tc := tc1 }
theorem pc21_ok : compFn Try.prog pc21_a Try.f21 = some pc21 := by kernel_rfl
def p50o1 := [zo 2 (.mv (.const (ks)))]
def p50o2 := [zM 3 0,
 zo 4 (.prim (.conv 101 5) [3]),
 zM 5 0,
 zo 6 (.prim (.bin .shr 101 false true) [5, .const (.int .u64 8)]),
 zo 7 (.prim (.conv 101 5) [6]),
 zM 8 0,
 zo 9 (.prim (.bin .shr 101 false true) [8, .const (.int .u64 16)]),
 zo 10 (.prim (.conv 101 5) [9]),
 zM 11 0,
 zo 12 (.prim (.bin .shr 101 false true) [11, .const (.int .u64 24)]),
 zo 13 (.prim (.conv 101 5) [12]),
 zo 14 (.bslice 5 1 [4, 7, 10, 13]),
 zo 15 (.b2s 14),
 zM 2 15]
def p50c5 := sq (rg p50o1) (sq (rg p50o2) (rt))
def pc50_r : List PRes := [PRes.tmp 2 []]
def pc50 : PFunc := ⟨16, pc50_r, p50c5, false⟩
def pc50_a : Ann := {
 kr := fun _ => none
 ka := fun _ => 0
 kh := fun _ => none
 ow := ow0
 tc := tc1 }
theorem pc50_ok : compFn Try.prog pc50_a Try.f50 = some pc50 := by kernel_rfl
def p51o1 := [zo 2 (.mv (.const (.int .u32 0)))]
def p51o2 := [zo 3 (.mv (.const (.int .u32 4294967295)))]
def p51o3 := [zM 7 0,
 zo 8 (.s2b 5 7),
 zo 9 (.lenS 8),
 zM 10 (kk 0)]
def p51o4 := [zB 11 .lss 3 10 9]
def p51o8 := [zo 12 (.iaddrS 1 8 10),
 zL 13 12,
 zM 5 13]
def p51o9 := [zM 14 3,
 zM 15 5,
 zo 16 (.prim (.conv 5 101) [15]),
 zB 17 .xor 101 14 16,
 zM 3 17]
def p51o10 := [zM 18 (kk 0)]
def p51o11 := [zK 19 .lss 3 18 8]
def p51o15 := [zM 20 3,
 zo 21 (.prim (.bin .and 101 false true) [20, .const (.int .u32 1)]),
 zM 6 21]
def p51o16 := [zM 22 3,
 zo 23 (.prim (.bin .shr 101 false true) [22, .const (.int .u64 1)]),
 zM 3 23]
def p51o17 := [zM 24 6,
 zo 25 (.prim (.bin .eql 101 false true) [24, .const (.int .u32 1)])]
def p51o18 := [zM 26 3,
 zo 27 (.prim (.bin .xor 101 false true) [26, .const (.int .u32 3988292384)]),
 zM 3 27]
def p51o25 := [zK 28 .add 3 18 1,
 zM 18 28]
def p51c28 := sq (.region (some ([3, 8, 9, 10, 18], [], [])) false p51o11) (sq (.cond 19 (.skip) (.exit 2)) (sq (.block 3 (sq (rg p51o15) (sq (rg p51o16) (sq (rg p51o17) (.cond 25 (rg p51o18) (.skip)))))) (rg p51o25)))
def p51o35 := [zK 29 .add 3 10 1,
 zM 10 29]
def p51c35 := rg p51o35
def p51c38 := sq (.region (some ([3, 8, 9, 10], [], [])) false p51o4) (sq (.cond 11 (.skip) (.exit 0)) (sq (.block 1 (sq (rg p51o8) (sq (rg p51o9) (sq (rg p51o10) (.block 2 (.loop p51c28)))))) p51c35))
def p51o42 := [zM 30 3,
 zo 31 (.prim (.bin .xor 101 false true) [30, .const (.int .u32 4294967295)]),
 zM 2 31]
def p51c44 := sq (rg p51o42) (rt)
def p51c47 := sq (rg p51o1) (sq (rg p51o2) (sq (sq (rg p51o3) (.block 0 (.loop p51c38))) p51c44))
def pc51_r : List PRes := [PRes.tmp 2 []]
def pc51 : PFunc := ⟨32, pc51_r, p51c47, false⟩
def pc51_a : Ann := {
 kr := fun
  | 3 => some ([3, 8, 9, 10], [], [])
  | 7 => some ([3, 8, 9, 10, 18], [], [])
  | _ => none
 ka := fun _ => 0
 kh := fun _ => none
 ow := ow0
 tc := tc1 }
theorem pc51_ok : compFn Try.prog pc51_a Try.f51 = some pc51 := by kernel_rfl
def p23o1 := [zo 2 (.mv (.const (ks)))]
def p23o2 := [zM 3 0,
 zo 4 (.call true [[]] 49 [3]),
 zM 5 0,
 zo 6 (.call true [[]] 51 [5]),
 zo 7 (.call true [[]] 50 [6]),
 zB 8 .add 9 4 7,
 zM 2 8]
def p23c5 := sq (rg p23o1) (sq (rg p23o2) (rt))
def pc23_r : List PRes := [PRes.tmp 2 []]
def pc23 : PFunc := ⟨9, pc23_r, p23c5, false⟩
def pc23_a : Ann := {
 kr := fun _ => none
 ka := fun _ => 0
 kh := fun _ => none
 ow := ow0
 tc := tc1 }
theorem pc23_ok : compFn Try.prog pc23_a Try.f23 = some pc23 := by kernel_rfl
def p9o1 := [zo 1 (.box 26 0 []),
 zo 2 (.mv (.const (ks))),
 zM 3 (kk 0)]
def p9o2 := [zo 15 (.load true 6 1),
 zo 16 (.call true [[(2, 11), (3, 2), (4, 11), (5, 22)], []] 11 [15, kk 4]),
 zo 17 (.prim (.un .not) [16])]
def p9o3 := [zo 2 (.mv (.const (ks))),
 zM 3 (kk 11)]
def p9o9 := [zG 19 2 1,
 zL 20 19,
 zo 21 (.call true [[(0, 11)]] 18 [20]),
 zM 18 21,
 zX 22 18 0,
 zX 23 18 1,
 zM 4 22,
 zM 5 23]
def p9o10 := [zG 25 4 1,
 zL 26 25,
 zo 27 (.call true [[(0, 11)]] 18 [26]),
 zM 24 27,
 zX 28 24 0,
 zX 29 24 1,
 zM 6 28,
 zM 7 29]
def p9o11 := [zo 8 (.allocT 64 (.agg #[.pointer none, kl]) [(1, 5, 1)])]
def p9o12 := [za 30 1 1 0 (.faddr 0 1),
 za 31 30 1 0 (.load false 1 30),
 zi 32 31 (.prim (.conv 3 38) [31]),
 zi 33 32 (.call false [[]] 20 [32]),
 za 34 1 1 0 (.faddr 1 1),
 za 35 34 1 1 (.load false 1 34),
 zi 36 35 (.prim (.conv 3 38) [35]),
 zi 37 36 (.call false [[]] 20 [36]),
 zj 38 33 37 (.prim (.bin .add 9 false false) [33, 37]),
 zi 39 4 (.mv 4),
 zj 40 38 39 (.prim (.bin .add 9 false false) [38, 39]),
 zi 41 6 (.mv 6),
 zj 42 40 41 (.prim (.bin .add 9 false false) [40, 41]),
 za 43 1 1 0 (.faddr 3 1),
 za 44 43 1 3 (.load false 1 43),
 zi 45 44 (.lenS 44),
 zi 46 45 (.prim (.conv 3 38) [45]),
 zi 47 46 (.call false [[]] 20 [46]),
 zj 48 42 47 (.prim (.bin .add 9 false false) [42, 47]),
 ⟨some 49, .gcall false false [8, 300000, 300001, 300002, 300003, 300004, 300005, 300006, 300007, 400064] [[(1, 1)], []] 19 [8, 48], none, [(8, .at_ 8 0), (48, .imm)]⟩]
def p9o13 := [zG 50 3 1,
 zL 51 50,
 zo 52 (.lenS 51),
 zM 53 (kk 0)]
def p9o14 := [zB 54 .lss 3 53 52]
def p9o18 := [zo 55 (.iaddrS 2 51 53),
 zo 56 (.load true 2 55),
 zo 10 (.alloc 44 (.agg #[ki, ki]) []),
 zs (.store 2 10 56)]
def p9o19 := [za 57 10 10 0 (.faddr 0 10),
 za 58 57 10 0 (.load false 1 57),
 zi 59 58 (.prim (.conv 3 38) [58]),
 zi 60 59 (.call false [[]] 20 [59]),
 za 61 10 10 0 (.faddr 1 10),
 za 62 61 10 1 (.load false 1 61),
 zi 63 62 (.prim (.conv 3 38) [62]),
 zi 64 63 (.call false [[]] 20 [63]),
 zj 65 60 64 (.prim (.bin .add 9 false false) [60, 64]),
 ⟨some 66, .gcall false false [8, 300000, 300001, 300002, 300003, 300004, 300005, 300006, 300007, 400064] [[(1, 1)], []] 19 [8, 65], none, [(8, .at_ 8 0), (65, .imm)]⟩]
def p9o22 := [zK 67 .add 3 53 1,
 zM 53 67]
def p9c25 := sq (.region (some ([1, 8, 51, 52, 53], [1, 8, 10, 400064], [])) false p9o14) (sq (.cond 54 (.skip) (.exit 0)) (sq (.block 1 (sq (rg p9o18) (rh p9o19))) (rg p9o22)))
def p9o29 := [zG 68 5 1,
 zL 69 68,
 zo 70 (.lenS 69),
 zo 71 (.prim (.conv 3 38) [70]),
 zo 72 (.call true [[]] 20 [71]),
 zo 73 (.gcall false false [8, 300000, 300001, 300002, 300003, 300004, 300005, 300006, 300007, 400064] [[(1, 1)], []] 19 [8, 72])]
def p9o30 := [zG 74 5 1,
 zL 75 74,
 zo 76 (.lenS 75),
 zM 77 (kk 0)]
def p9o31 := [zB 78 .lss 3 77 76]
def p9o35 := [zo 79 (.iaddrS 22 75 77),
 zo 80 (.load true 22 79),
 zo 12 (.alloc 53 (.agg #[ki, ki, ki, ki, ki, ki, ki, ks, ki, ks, ki, ks, ki, ks, ki, ks, ki, ki, ki, ki, ki, ki]) []),
 zs (.store 22 12 80)]
def p9o36 := [zo 82 (.load true 22 12),
 zo 83 (.call true [[]] 21 [82]),
 zM 81 83,
 zX 84 81 0,
 zX 85 81 1,
 zM 13 84,
 zM 14 85]
def p9o37 := [zM 86 13,
 zo 87 (.gcall false false [8, 300000, 300001, 300002, 300003, 300004, 300005, 300006, 300007, 400064] [[(1, 1)], []] 19 [8, 86])]
def p9o41 := [zK 88 .add 3 77 1,
 zM 77 88]
def p9c44 := sq (.region (some ([8, 75, 76, 77], [1, 8, 12, 400064], [])) false p9o31) (sq (.cond 78 (.skip) (.exit 2)) (sq (.block 3 (sq (rg p9o35) (sq (rg p9o36) (rg p9o37)))) (rg p9o41)))
def p9o48 := [zo 89 (.gcall false false [8, 300000, 300001, 300002, 300003, 300004, 300005, 300006, 300007, 400064] [[(1, 1)]] 22 [8]),
 zK 90 .gtr 3 89 40000]
def p9o49 := [zo 2 (.mv (.const (ks))),
 zM 3 (kk 13)]
def p9o55 := [zo 91 (.gcall false false [8, 300000, 300001, 300002, 300003, 300004, 300005, 300006, 300007, 400064] [[(1, 1)]] 24 [8]),
 zo 92 (.call true [[]] 23 [91]),
 zM 2 92,
 zM 3 (kk 0)]
def p9c58 := sq (sq (rg p9o48) (.cond 90 (sq (rg p9o49) (rt)) (.skip))) (sq (rg p9o55) (rt))
def p9c60 := sq (rg p9o29) (sq (sq (rg p9o30) (.block 2 (.loop p9c44))) p9c58)
def p9c67 := sq (rg p9o1) (sq (sq (rg p9o2) (.cond 17 (sq (rg p9o3) (rt)) (.skip))) (sq (rg p9o9) (sq (rg p9o10) (sq (rg p9o11) (sq (rh p9o12) (sq (sq (rg p9o13) (.block 0 (.loop p9c25))) p9c60))))))
def pc9_r : List PRes := [PRes.tmp 2 [], PRes.tmp 3 []]
def pc9 : PFunc := ⟨93, pc9_r, p9c67, false⟩
def pc9_a : Ann := {
 kr := fun
  | 8 => some ([1, 8, 51, 52, 53], [1, 8, 10, 400064], [])
  | 14 => some ([8, 75, 76, 77], [1, 8, 12, 400064], [])
  | _ => none
 ka := fun _ => 0
 kh := hg [([1, 30], .at_ 1 0), ([4, 6, 31, 32, 33, 35, 36, 37, 38, 39, 40, 41, 42, 44, 45, 46, 47, 48, 58, 59, 60, 62, 63, 64, 65], .imm), ([8], .at_ 8 0), ([10, 57], .at_ 10 0), ([34], .at_ 1 1), ([43], .at_ 1 3), ([61], .at_ 10 1)]
 gf := fun d f => match d, f with
  | some 49, 19 => some (false, false, [8, 300000, 300001, 300002, 300003, 300004, 300005, 300006, 300007, 400064])
  | some 66, 19 => some (false, false, [8, 300000, 300001, 300002, 300003, 300004, 300005, 300006, 300007, 400064])
  | some 73, 19 => some (false, false, [8, 300000, 300001, 300002, 300003, 300004, 300005, 300006, 300007, 400064])
  | some 87, 19 => some (false, false, [8, 300000, 300001, 300002, 300003, 300004, 300005, 300006, 300007, 400064])
  | some 89, 22 => some (false, false, [8, 300000, 300001, 300002, 300003, 300004, 300005, 300006, 300007, 400064])
  | some 91, 24 => some (false, false, [8, 300000, 300001, 300002, 300003, 300004, 300005, 300006, 300007, 400064])
  | _, _ => none
 ow := ow0
 tc := tc1 }
theorem pc9_ok : compFn Try.prog pc9_a Try.f9 = some pc9 := by kernel_rfl
def p37o1 := [zM 4 kf]
def p37o2 := [zM 6 0,
 zo 7 (.lenS 6),
 zM 8 1,
 zo 9 (.lenS 8),
 zB 10 .neq 3 7 9]
def p37o3 := [zM 4 kf]
def p37o9 := [zM 11 0,
 zo 12 (.lenS 11),
 zM 13 (kk 0)]
def p37o10 := [zB 14 .lss 3 13 12]
def p37o14 := [zM 15 13,
 zM 5 15]
def p37o15 := [zi 16 0 (.mv 0),
 zi 17 5 (.mv 5),
 zj 18 16 17 (.iaddrS 11 16 17),
 zi 19 18 (.load true 11 18),
 zi 20 1 (.mv 1),
 zi 21 5 (.mv 5),
 zj 22 20 21 (.iaddrS 11 20 21),
 zi 23 22 (.load true 11 22),
 zj 24 19 23 (.prim (.bin .neq 55 false false) [19, 23])]
def p37o16 := [zM 4 kf]
def p37o24 := [zK 25 .add 3 13 1,
 zM 13 25]
def p37c27 := sq (.region (some ([0, 1, 12, 13], [], [])) false p37o10) (sq (.cond 14 (.skip) (.exit 0)) (sq (.block 1 (sq (rg p37o14) (sq (rh p37o15) (.cond 24 (sq (rg p37o16) (rt)) (.skip))))) (rg p37o24)))
def p37o31 := [zM 4 kt]
def p37c33 := sq (rg p37o31) (rt)
def p37c36 := sq (rg p37o1) (sq (sq (rg p37o2) (.cond 10 (sq (rg p37o3) (rt)) (.skip))) (sq (sq (rg p37o9) (.block 0 (.loop p37c27))) p37c33))
def pc37_r : List PRes := [PRes.tmp 4 []]
def pc37 : PFunc := ⟨26, pc37_r, p37c36, false⟩
def pc37_a : Ann := {
 kr := fun
  | 4 => some ([0, 1, 12, 13], [], [])
  | _ => none
 ka := fun _ => 0
 kh := hg [([0, 1, 5, 16, 17, 18, 19, 20, 21, 22, 23], .imm)]
 ow := ow0
 tc := tc1 }
theorem pc37_ok : compFn Try.prog pc37_a Try.f37 = some pc37 := by kernel_rfl
def p38o1 := [zM 4 kf]
def p38o2 := [zM 6 0,
 zo 7 (.lenS 6),
 zM 8 1,
 zo 9 (.lenS 8),
 zB 10 .neq 3 7 9]
def p38o3 := [zM 4 kf]
def p38o9 := [zM 11 0,
 zo 12 (.lenS 11),
 zM 13 (kk 0)]
def p38o10 := [zB 14 .lss 3 13 12]
def p38o14 := [zM 15 13,
 zM 5 15]
def p38o15 := [zi 16 0 (.mv 0),
 zi 17 5 (.mv 5),
 zj 18 16 17 (.iaddrS 2 16 17),
 zi 19 18 (.load true 2 18),
 zi 20 1 (.mv 1),
 zi 21 5 (.mv 5),
 zj 22 20 21 (.iaddrS 2 20 21),
 zi 23 22 (.load true 2 22),
 zj 24 19 23 (.prim (.bin .neq 44 false false) [19, 23])]
def p38o16 := [zM 4 kf]
def p38o24 := [zK 25 .add 3 13 1,
 zM 13 25]
def p38o31 := [zM 4 kt]
def pc38_r : List PRes := [PRes.tmp 4 []]
def pc38 : PFunc := ⟨26, pc38_r, (sq (rg p38o1) (sq (sq (rg p38o2) (.cond 10 (sq (rg p38o3) (rt)) (.skip))) (sq (sq (rg p38o9) (.block 0 (.loop (sq (.region (some ([0, 1, 12, 13], [], [])) false p38o10) (sq (.cond 14 (.skip) (.exit 0)) (sq (.block 1 (sq (rg p38o14) (sq (rh p38o15) (.cond 24 (sq (rg p38o16) (rt)) (.skip))))) (rg p38o24))))))) (sq (rg p38o31) (rt))))), false⟩
def pc38_a : Ann := {
 kr := fun
  | 4 => some ([0, 1, 12, 13], [], [])
  | _ => none
 ka := fun _ => 0
 kh := hg [([0, 1, 5, 16, 17, 18, 19, 20, 21, 22, 23], .imm)]
 ow := ow0
 tc := tc1 }
theorem pc38_ok : compFn Try.prog pc38_a Try.f38 = some pc38 := by kernel_rfl
def p39o1 := [zM 4 kf]
def p39o2 := [zM 6 0,
 zo 7 (.lenS 6),
 zM 8 1,
 zo 9 (.lenS 8),
 zB 10 .neq 3 7 9]
def p39o3 := [zM 4 kf]
def p39o9 := [zM 11 0,
 zo 12 (.lenS 11),
 zM 13 (kk 0)]
def p39o10 := [zB 14 .lss 3 13 12]
def p39o14 := [zM 15 13,
 zM 5 15]
def p39o15 := [zi 16 0 (.mv 0),
 zi 17 5 (.mv 5),
 zj 18 16 17 (.iaddrS 22 16 17),
 zi 19 18 (.load true 22 18),
 zi 20 1 (.mv 1),
 zi 21 5 (.mv 5),
 zj 22 20 21 (.iaddrS 22 20 21),
 zi 23 22 (.load true 22 22),
 zj 24 19 23 (.prim (.bin .neq 53 false false) [19, 23])]
def p39o16 := [zM 4 kf]
def p39o24 := [zK 25 .add 3 13 1,
 zM 13 25]
def p39o31 := [zM 4 kt]
def pc39_r : List PRes := [PRes.tmp 4 []]
def pc39 : PFunc := ⟨26, pc39_r, (sq (rg p39o1) (sq (sq (rg p39o2) (.cond 10 (sq (rg p39o3) (rt)) (.skip))) (sq (sq (rg p39o9) (.block 0 (.loop (sq (.region (some ([0, 1, 12, 13], [], [])) false p39o10) (sq (.cond 14 (.skip) (.exit 0)) (sq (.block 1 (sq (rg p39o14) (sq (rh p39o15) (.cond 24 (sq (rg p39o16) (rt)) (.skip))))) (rg p39o24))))))) (sq (rg p39o31) (rt))))), false⟩
def pc39_a : Ann := {
 kr := fun
  | 4 => some ([0, 1, 12, 13], [], [])
  | _ => none
 ka := fun _ => 0
 kh := hg [([0, 1, 5, 16, 17, 18, 19, 20, 21, 22, 23], .imm)]
 ow := ow0
 tc := tc1 }
theorem pc39_ok : compFn Try.prog pc39_a Try.f39 = some pc39 := by kernel_rfl
def p12o1 := [zo 2 (.box 26 0 []),
 zo 3 (.box 26 1 []),
 zM 4 kf]
def p12o2 := [zG 5 0 2,
 zL 6 5,
 zG 7 0 3,
 zL 8 7,
 zB 9 .eql 3 6 8,
 zM 10 9,
 zt 11 10 (.faddr 1 2),
 zt 12 10 (.load false 1 11),
 zt 13 10 (.faddr 1 3),
 zt 14 10 (.load false 1 13),
 zt 15 10 (.prim (.bin .eql 3 false false) [12, 14]),
 zo 16 (.pick 10 15 kf),
 zM 17 16,
 zt 18 17 (.faddr 2 2),
 zt 19 17 (.load false 1 18),
 zt 20 17 (.faddr 2 3),
 zt 21 17 (.load false 1 20),
 zt 22 17 (.call true [[(0, 11)], [(0, 11)]] 37 [19, 21]),
 zo 23 (.pick 17 22 kf),
 zM 24 23,
 zt 25 24 (.faddr 3 2),
 zt 26 24 (.load false 1 25),
 zt 27 24 (.faddr 3 3),
 zt 28 24 (.load false 1 27),
 zt 29 24 (.call true [[(0, 2)], [(0, 2)]] 38 [26, 28]),
 zo 30 (.pick 24 29 kf),
 zM 31 30,
 zt 32 31 (.faddr 4 2),
 zt 33 31 (.load false 1 32),
 zt 34 31 (.faddr 4 3),
 zt 35 31 (.load false 1 34),
 zt 36 31 (.call true [[(0, 11)], [(0, 11)]] 37 [33, 35]),
 zo 37 (.pick 31 36 kf),
 zM 38 37,
 zt 39 38 (.faddr 5 2),
 zt 40 38 (.load false 1 39),
 zt 41 38 (.faddr 5 3),
 zt 42 38 (.load false 1 41),
 zt 43 38 (.call true [[(0, 22)], [(0, 22)]] 39 [40, 42]),
 zo 44 (.pick 38 43 kf),
 zM 4 44]
def pc12_r : List PRes := [PRes.tmp 4 []]
def pc12 : PFunc := ⟨45, pc12_r, (sq (rg p12o1) (sq (rg p12o2) (rt))), false⟩
def pc12_a : Ann := {
 kr := fun _ => none
 ka := fun _ => 0
 kh := fun _ => none
 ow := ow0
 tc := tc1 }
theorem pc12_ok : compFn Try.prog pc12_a Try.f12 = some pc12 := by kernel_rfl
def p40o1 := [zM 4 kf]
def p40o2 := [zM 6 0,
 zo 7 (.lenS 6),
 zM 8 1,
 zo 9 (.lenS 8),
 zB 10 .neq 3 7 9]
def p40o3 := [zM 4 kf]
def p40o9 := [zM 5 (kk 0)]
def p40o10 := [zM 11 5,
 zM 12 0,
 zo 13 (.lenS 12),
 zB 14 .lss 3 11 13]
def p40o15 := [zi 17 0 (.mv 0),
 zi 18 5 (.mv 5),
 zj 19 17 18 (.iaddrS 11 17 18),
 zi 20 19 (.load true 11 19),
 zi 21 1 (.mv 1),
 zi 22 5 (.mv 5),
 zj 23 21 22 (.iaddrS 11 21 22),
 zi 24 23 (.load true 11 23),
 zj 25 20 24 (.prim (.bin .neq 55 false false) [20, 24])]
def p40o16 := [zM 4 kf]
def p40o23 := [zM 15 5,
 zK 16 .add 3 15 1,
 zM 5 16]
def p40c25 := sq (sq (.region (some ([0, 1, 5], [], [])) false p40o10) (.cond 14 (.skip) (.exit 0))) (sq (.block 1 (sq (rh p40o15) (.cond 25 (sq (rg p40o16) (rt)) (.skip)))) (rg p40o23))
def p40o29 := [zM 4 kt]
def p40c31 := sq (rg p40o29) (rt)
def p40c34 := sq (rg p40o1) (sq (sq (rg p40o2) (.cond 10 (sq (rg p40o3) (rt)) (.skip))) (sq (sq (rg p40o9) (.block 0 (.loop p40c25))) p40c31))
def pc40_r : List PRes := [PRes.tmp 4 []]
def pc40 : PFunc := ⟨26, pc40_r, p40c34, false⟩
def pc40_a : Ann := {
 kr := fun
  | 4 => some ([0, 1, 5], [], [])
  | _ => none
 ka := fun _ => 0
 kh := hg [([0, 1, 5, 17, 18, 19, 20, 21, 22, 23, 24], .imm)]
 ow := ow0
 tc := tc1 }
theorem pc40_ok : compFn Try.prog pc40_a Try.f40 = some pc40 := by kernel_rfl
def p13o1 := [zo 2 (.box 26 0 []),
 zo 3 (.box 26 1 []),
 zM 4 kf]
def p13o2 := [zG 7 0 2,
 zL 8 7,
 zG 9 0 3,
 zL 10 9,
 zB 11 .neq 3 8 10,
 zM 12 11,
 zf 13 12 (.faddr 1 2),
 zf 14 12 (.load false 1 13),
 zf 15 12 (.faddr 1 3),
 zf 16 12 (.load false 1 15),
 zf 17 12 (.prim (.bin .neq 3 false false) [14, 16]),
 zo 18 (.pick 12 kt 17),
 zM 19 18,
 zf 20 19 (.faddr 2 2),
 zf 21 19 (.load false 1 20),
 zf 22 19 (.faddr 2 3),
 zf 23 19 (.load false 1 22),
 zf 24 19 (.call true [[(0, 11)], [(0, 11)]] 40 [21, 23]),
 zf 25 19 (.prim (.un .not) [24]),
 zo 26 (.pick 19 kt 25),
 zM 27 26,
 zf 28 27 (.faddr 4 2),
 zf 29 27 (.load false 1 28),
 zf 30 27 (.faddr 4 3),
 zf 31 27 (.load false 1 30),
 zf 32 27 (.call true [[(0, 11)], [(0, 11)]] 40 [29, 31]),
 zf 33 27 (.prim (.un .not) [32]),
 zo 34 (.pick 27 kt 33),
 zM 35 34,
 zf 36 35 (.faddr 3 2),
 zf 37 35 (.load false 1 36),
 zf 38 35 (.lenS 37),
 zf 39 35 (.faddr 3 3),
 zf 40 35 (.load false 1 39),
 zf 41 35 (.lenS 40),
 zf 42 35 (.prim (.bin .neq 3 false false) [38, 41]),
 zo 43 (.pick 35 kt 42),
 zM 44 43,
 zf 45 44 (.faddr 5 2),
 zf 46 44 (.load false 1 45),
 zf 47 44 (.lenS 46),
 zf 48 44 (.faddr 5 3),
 zf 49 44 (.load false 1 48),
 zf 50 44 (.lenS 49),
 zf 51 44 (.prim (.bin .neq 3 false false) [47, 50]),
 zo 52 (.pick 44 kt 51)]
def p13o3 := [zM 4 kf]
def p13o9 := [zM 5 (kk 0)]
def p13o10 := [zM 53 5,
 zG 54 3 2,
 zL 55 54,
 zo 56 (.lenS 55),
 zB 57 .lss 3 53 56]
def p13o15 := [za 60 2 2 0 (.faddr 3 2),
 za 61 60 2 3 (.load false 1 60),
 zi 62 5 (.mv 5),
 zj 63 61 62 (.iaddrS 2 61 62),
 zi 64 63 (.load true 2 63),
 za 65 3 3 0 (.faddr 3 3),
 za 66 65 3 3 (.load false 1 65),
 zi 67 5 (.mv 5),
 zj 68 66 67 (.iaddrS 2 66 67),
 zi 69 68 (.load true 2 68),
 zj 70 64 69 (.prim (.bin .neq 44 false false) [64, 69])]
def p13o16 := [zM 4 kf]
def p13o23 := [zM 58 5,
 zK 59 .add 3 58 1,
 zM 5 59]
def p13c25 := sq (sq (.region (some ([2, 3, 5], [2, 3], [])) false p13o10) (.cond 57 (.skip) (.exit 0))) (sq (.block 1 (sq (rh p13o15) (.cond 70 (sq (rg p13o16) (rt)) (.skip)))) (rg p13o23))
def p13o29 := [zM 6 (kk 0)]
def p13o30 := [zM 71 6,
 zG 72 5 2,
 zL 73 72,
 zo 74 (.lenS 73),
 zB 75 .lss 3 71 74]
def p13o35 := [za 78 2 2 0 (.faddr 5 2),
 za 79 78 2 5 (.load false 1 78),
 zi 80 6 (.mv 6),
 zj 81 79 80 (.iaddrS 22 79 80),
 zi 82 81 (.load true 22 81),
 za 83 3 3 0 (.faddr 5 3),
 za 84 83 3 5 (.load false 1 83),
 zi 85 6 (.mv 6),
 zj 86 84 85 (.iaddrS 22 84 85),
 zi 87 86 (.load true 22 86),
 zj 88 82 87 (.prim (.bin .neq 53 false false) [82, 87])]
def p13o36 := [zM 4 kf]
def p13o43 := [zM 76 6,
 zK 77 .add 3 76 1,
 zM 6 77]
def p13c45 := sq (sq (.region (some ([2, 3, 6], [2, 3], [])) false p13o30) (.cond 75 (.skip) (.exit 2))) (sq (.block 3 (sq (rh p13o35) (.cond 88 (sq (rg p13o36) (rt)) (.skip)))) (rg p13o43))
def p13o49 := [zM 4 kt]
def p13c51 := sq (rg p13o49) (rt)
def p13c52 := sq (sq (rg p13o29) (.block 2 (.loop p13c45))) p13c51
def p13c55 := sq (rg p13o1) (sq (sq (rg p13o2) (.cond 52 (sq (rg p13o3) (rt)) (.skip))) (sq (sq (rg p13o9) (.block 0 (.loop p13c25))) p13c52))
def pc13_r : List PRes := [PRes.tmp 4 []]
def pc13 : PFunc := ⟨89, pc13_r, p13c55, false⟩
def pc13_a : Ann := {
 kr := fun
  | 4 => some ([2, 3, 5], [2, 3], [])
  | 9 => some ([2, 3, 6], [2, 3], [])
  | _ => none
 ka := fun _ => 0
 kh := hg [([2], .at_ 2 0), ([3], .at_ 3 0), ([5, 6, 61, 62, 63, 64, 66, 67, 68, 69, 79, 80, 81, 82, 84, 85, 86, 87], .imm), ([60], .at_ 2 3), ([65], .at_ 3 3), ([78], .at_ 2 5), ([83], .at_ 3 5)]
 ow := ow0
 tc := tc1 }
theorem pc13_ok : compFn Try.prog pc13_a Try.f13 = some pc13 := by kernel_rfl
def p83o1 := [zo 2 (.mv (.const (.int .u64 0))),
 zM 3 (kk 0),
 zM 4 (kk 0)]
def p83o2 := [zo 5 (.mv (.const (.int .u64 0))),
 zM 6 (kk 0)]
def p83o4 := [zM 9 0,
 zo 10 (.s2b 5 9),
 zo 11 (.lenS 10),
 zM 12 (kk 0)]
def p83o5 := [zB 13 .lss 3 12 11]
def p83o9 := [zM 14 12,
 zo 15 (.iaddrS 1 10 12),
 zL 16 15,
 zM 7 14,
 zM 8 16]
def p83o10 := [zM 18 7,
 zK 19 .eql 3 18 9,
 zM 20 19,
 zt 21 20 (.mv 8),
 zt 22 20 (.prim (.bin .gtr 5 false true) [21, .const (.int .u8 1)]),
 zo 23 (.pick 20 22 kf),
 zM 17 23]
def p83o12 := [zM 24 7,
 zK 25 .gtr 3 24 0,
 zM 26 25,
 zt 27 26 (.mv 8),
 zt 28 26 (.prim (.bin .eql 5 false true) [27, .const (.int .u8 0)]),
 zo 29 (.pick 26 28 kf),
 zM 17 29]
def p83c12 : PCode := .region (some ([5, 6, 7, 8, 10, 11, 12], [], [])) false p83o12
def p83o15 := [zo 2 (.mv (.const (.int .u64 0))),
 zM 3 (kk 0),
 zM 4 (kk 11)]
def p83o18 := [zM 31 8,
 zo 32 (.prim (.bin .lss 5 false true) [31, .const (.int .u8 128)]),
 zM 30 32]
def p83o19 := [zM 33 5,
 zM 34 8,
 zo 35 (.prim (.conv 5 38) [34]),
 zM 36 7,
 zo 37 (.prim (.bin .mul 3 true false) [kk 7, 36]),
 zB 38 .shl 38 35 37,
 zB 39 .or 38 33 38,
 zM 5 39]
def p83o20 := [zM 40 7,
 zK 41 .add 3 40 1,
 zM 6 41]
def p83c26 := sq (.region (some ([5, 6, 7, 8, 10, 11, 12], [], [])) false p83o18) (.cond 30 (sq (rg p83o19) (sq (rg p83o20) (.exit 0))) (.skip))
def p83c27 : PCode := .cond 17 (sq (rg p83o15) (rt)) p83c26
def p83o30 := [zM 42 5,
 zM 43 8,
 zo 44 (.prim (.bin .andNot 5 false true) [43, .const (.int .u8 128)]),
 zo 45 (.prim (.conv 5 38) [44]),
 zM 46 7,
 zo 47 (.prim (.bin .mul 3 true false) [kk 7, 46]),
 zB 48 .shl 38 45 47,
 zB 49 .or 38 42 48,
 zM 5 49]
def p83c30 := rg p83o30
def p83o34 := [zK 50 .add 3 12 1,
 zM 12 50]
def p83c34 := rg p83o34
def p83c37 := sq (.region (some ([5, 6, 10, 11, 12], [], [])) false p83o5) (sq (.cond 13 (.skip) (.exit 0)) (sq (.block 1 (sq (rg p83o9) (sq (.block 2 (sq (sq (rg p83o10) (.cond 17 (.skip) p83c12)) p83c27)) p83c30))) p83c34))
def p83o41 := [zM 51 6,
 zK 52 .eql 3 51 0]
def p83o42 := [zo 2 (.mv (.const (.int .u64 0))),
 zM 3 (kk 0),
 zM 4 (kk 10)]
def p83o48 := [zM 53 5,
 zM 54 6,
 zM 2 53,
 zM 3 54,
 zM 4 (kk 0)]
def p83c51 := sq (sq (.region (some ([5, 6], [], [])) false p83o41) (.cond 52 (sq (rg p83o42) (rt)) (.skip))) (sq (rg p83o48) (rt))
def p83c56 := sq (rg p83o1) (.scope (sq (rg p83o2) (sq (.label) (sq (sq (rg p83o4) (.block 0 (.loop p83c37))) p83c51))))
def pc83_r : List PRes := [PRes.tmp 2 [], PRes.tmp 3 [], PRes.tmp 4 []]
def pc83 : PFunc := ⟨55, pc83_r, p83c56, false⟩
def pc83_a : Ann := {
 kr := fun
  | 3 => some ([5, 6, 10, 11, 12], [], [])
  | 6 => some ([5, 6, 7, 8, 10, 11, 12], [], [])
  | 8 => some ([5, 6, 7, 8, 10, 11, 12], [], [])
  | 13 => some ([5, 6], [], [])
  | _ => none
 ka := fun _ => 0
 kh := fun _ => none
 ow := ow0
 tc := tc1 }
theorem pc83_ok : compFn Try.prog pc83_a Try.f83 = some pc83 := by kernel_rfl
def p69o1 := [zo 4 (.mv (.const (ks))),
 zM 5 (kk 0),
 zM 6 (kk 0)]
def p69o2 := [zM 12 0,
 zo 13 (.call true [[]] 83 [12]),
 zM 11 13,
 zX 14 11 0,
 zX 15 11 1,
 zX 16 11 2,
 zM 7 14,
 zM 8 15,
 zM 9 16]
def p69o3 := [zM 18 9,
 zK 19 .neq 29 18 0,
 zM 17 19]
def p69o4 := [zM 20 9,
 zo 4 (.mv (.const (ks))),
 zM 5 (kk 0),
 zM 6 20]
def p69o7 := [zM 22 7,
 zM 23 1,
 zo 24 (.prim .max [23, kk 0]),
 zo 25 (.prim (.conv 3 38) [24]),
 zB 26 .gtr 38 22 25,
 zM 21 26]
def p69o8 := [zo 4 (.mv (.const (ks))),
 zM 5 (kk 0),
 zM 6 (kk 13)]
def p69o11 := [zM 28 7,
 zM 29 0,
 zo 30 (.prim (.len 9) [29]),
 zM 31 8,
 zB 32 .sub 3 30 31,
 zo 33 (.prim (.conv 3 38) [32]),
 zB 34 .gtr 38 28 33,
 zM 27 34]
def p69o12 := [zo 4 (.mv (.const (ks))),
 zM 5 (kk 0),
 zM 6 (kk 10)]
def p69o23 := [zM 35 8,
 zM 36 7,
 zo 37 (.prim (.conv 38 3) [36]),
 zB 38 .add 3 35 37,
 zM 10 38]
def p69o24 := [zM 39 0,
 zM 40 8,
 zM 41 10,
 zo 42 (.prim (.slice 9 true true) [39, 40, 41]),
 zM 43 10,
 zM 4 42,
 zM 5 43,
 zM 6 (kk 0)]
def p69c30 := sq (rg p69o1) (sq (rg p69o2) (sq (.block 0 (sq (rg p69o3) (.cond 17 (sq (rg p69o4) (rt)) (sq (rg p69o7) (.cond 21 (sq (rg p69o8) (rt)) (sq (rg p69o11) (.cond 27 (sq (rg p69o12) (rt)) (.skip)))))))) (sq (rg p69o23) (sq (rg p69o24) (rt)))))
def pc69_r : List PRes := [PRes.tmp 4 [], PRes.tmp 5 [], PRes.tmp 6 []]
def pc69 : PFunc := ⟨44, pc69_r, p69c30, false⟩
def pc69_a : Ann := {
 kr := fun _ => none
 ka := fun _ => 0
 kh := fun _ => none
 ow := ow0
 tc := tc1 }
theorem pc69_ok : compFn Try.prog pc69_a Try.f69 = some pc69 := by kernel_rfl
def p41o1 := [zo 2 (.mv (.const (ks))),
 zM 3 (kk 0),
 zM 4 (kk 0)]
def p41o2 := [zM 9 0,
 zo 10 (.call true [[], []] 69 [9, kk 40000]),
 zM 8 10,
 zX 11 8 0,
 zX 12 8 1,
 zX 13 8 2,
 zM 5 11,
 zM 6 12,
 zM 7 13]
def p41o3 := [zM 15 7,
 zK 16 .neq 29 15 0,
 zM 14 16]
def p41o4 := [zM 17 7,
 zo 2 (.mv (.const (ks))),
 zM 3 (kk 0),
 zM 4 17]
def p41o7 := [zM 19 0,
 zo 20 (.prim (.len 9) [19]),
 zM 21 6,
 zB 22 .sub 3 20 21,
 zK 23 .lss 3 22 4,
 zM 18 23]
def p41o8 := [zo 2 (.mv (.const (ks))),
 zM 3 (kk 0),
 zM 4 (kk 10)]
def p41o11 := [zi 25 0 (.mv 0),
 zi 26 6 (.mv 6),
 zi 27 6 (.mv 6),
 zi 28 27 (.prim (.bin .add 3 false true) [27, kk 4]),
 ⟨some 29, .prim (.slice 9 true true) [25, 26, 28], none, [(25, .imm), (26, .imm), (28, .imm)]⟩,
 zi 30 5 (.mv 5),
 zi 31 30 (.call false [[]] 51 [30]),
 zi 32 31 (.call false [[]] 50 [31]),
 zj 33 29 32 (.prim (.bin .neq 9 false false) [29, 32]),
 zi 24 33 (.mv 33)]
def p41o12 := [zo 2 (.mv (.const (ks))),
 zM 3 (kk 0),
 zM 4 (kk 12)]
def p41o23 := [zM 34 5,
 zM 35 6,
 zK 36 .add 3 35 4,
 zM 2 34,
 zM 3 36,
 zM 4 (kk 0)]
def p41c28 := sq (rg p41o1) (sq (rg p41o2) (sq (.block 0 (sq (rg p41o3) (.cond 14 (sq (rg p41o4) (rt)) (sq (rg p41o7) (.cond 18 (sq (rg p41o8) (rt)) (sq (rh p41o11) (.cond 24 (sq (rg p41o12) (rt)) (.skip)))))))) (sq (rg p41o23) (rt))))
def pc41_r : List PRes := [PRes.tmp 2 [], PRes.tmp 3 [], PRes.tmp 4 []]
def pc41 : PFunc := ⟨37, pc41_r, p41c28, false⟩
def pc41_a : Ann := {
 kr := fun _ => none
 ka := fun _ => 0
 kh := hg [([0, 5, 6, 25, 26, 27, 28, 29, 30, 31, 32, 33], .imm)]
 ow := ow0
 tc := tc1 }
theorem pc41_ok : compFn Try.prog pc41_a Try.f41 = some pc41 := by kernel_rfl
def p73o1 := [zM 6 0,
 zo 7 (.nilc 6),
 zG 8 1 7,
 zL 9 8,
 zM 10 1,
 zB 11 .add 3 9 10,
 zo 12 (.nilc 6),
 zG 13 1 12,
 zs (.store 1 13 11)]
def p73o2 := [zM 14 0,
 zM 15 0,
 zo 16 (.nilc 15),
 zG 17 2 16,
 zL 18 17,
 zM 19 18,
 zf 20 19 (.mv 2),
 zf 21 19 (.prim (.bin .neq 29 false true) [20, kk 0]),
 zo 22 (.pick 19 kt 21),
 zo 23 (.nilc 14),
 zG 24 2 23,
 zs (.store 1 24 22)]
def p73c3 := sq (rg p73o1) (rg p73o2)
def pc73_r : List PRes := []
def pc73 : PFunc := ⟨25, pc73_r, p73c3, false⟩
def pc73_a : Ann := {
 kr := fun _ => none
 ka := fun _ => 0
 kh := fun _ => none
 ow := ow0
 tc := tc1 }
theorem pc73_ok : compFn Try.prog pc73_a Try.f73 = some pc73 := by kernel_rfl
def p70o1 := [zM 4 (kk 0)]
def p70o2 := [zM 8 0,
 zo 9 (.nilc 8),
 zG 10 2 9,
 zL 11 10]
def p70o3 := [zM 4 (kk 0)]
def p70o9 := [za 13 0 1000000 0 (.mv 0),
 za 14 13 1000000 0 (.nilc 13),
 za 15 14 1000000 0 (.faddr 0 14),
 za 16 15 1000000 0 (.load false 1 15),
 za 17 0 1000000 0 (.mv 0),
 za 18 17 1000000 0 (.nilc 17),
 za 19 18 1000000 0 (.faddr 1 18),
 za 20 19 1000000 1 (.load false 1 19),
 zj 21 16 20 (.prim (.slice 9 true false) [16, 20]),
 zi 22 21 (.call false [[]] 83 [21]),
 zM 12 22,
 zX 23 12 0,
 zX 24 12 1,
 zX 25 12 2,
 zi 5 23 (.mv 23),
 zi 6 24 (.mv 24),
 zi 7 25 (.mv 25)]
def p70o10 := [zM 26 0,
 zM 27 6,
 zM 28 7,
 zo 29 (.call true [[], [], []] 73 [26, 27, 28])]
def p70o11 := [zM 30 5,
 zM 31 1,
 zB 32 .gtr 38 30 31]
def p70o12 := [zM 33 0,
 zo 34 (.nilc 33),
 zG 35 2 34,
 zs (.store 1 35 kt)]
def p70o13 := [zM 4 (kk 0)]
def p70o20 := [zM 36 5,
 zo 37 (.prim (.conv 38 3) [36]),
 zM 4 37]
def p70c27 := sq (rg p70o1) (sq (sq (rg p70o2) (.cond 11 (sq (rg p70o3) (rt)) (.skip))) (sq (rh p70o9) (sq (rg p70o10) (sq (sq (rg p70o11) (.cond 32 (sq (rg p70o12) (sq (rg p70o13) (rt))) (.skip))) (sq (rg p70o20) (rt))))))
def pc70_r : List PRes := [PRes.tmp 4 []]
def pc70 : PFunc := ⟨38, pc70_r, p70c27, false⟩
def pc70_a : Ann := {
 kr := fun _ => none
 ka := fun _ => 0
 kh := hg [([0, 13, 14, 15, 17, 18], .at_ 1000000 0), ([16, 20, 21, 23, 24, 25], .imm), ([19], .at_ 1000000 1)]
 ow := ow0
 tc := tc1 }
theorem pc70_ok : compFn Try.prog pc70_a Try.f70 = some pc70 := by kernel_rfl
def p98o1 := [zM 6 0,
 zo 7 (.nilc 6),
 zG 8 1 7,
 zL 9 8,
 zM 10 1,
 zB 11 .add 3 9 10,
 zo 12 (.nilc 6),
 zG 13 1 12,
 zs (.store 1 13 11)]
def p98o2 := [zM 14 0,
 zM 15 2,
 zo 16 (.nilc 14),
 zG 17 2 16,
 zs (.store 1 17 15)]
def p98c3 := sq (rg p98o1) (rg p98o2)
def pc98_r : List PRes := []
def pc98 : PFunc := ⟨18, pc98_r, p98c3, false⟩
def pc98_a : Ann := {
 kr := fun _ => none
 ka := fun _ => 0
 kh := fun _ => none
 ow := ow0
 tc := tc1 }
theorem pc98_ok : compFn Try.prog pc98_a Try.f98 = some pc98 := by kernel_rfl
def p96o1 := [zM 2 (kk 0)]
def p96o2 := [zM 6 0,
 zo 7 (.nilc 6),
 zG 8 2 7,
 zL 9 8,
 zK 10 .neq 29 9 0]
def p96o3 := [zM 2 (kk 0)]
def p96o9 := [za 12 0 1000000 0 (.mv 0),
 za 13 12 1000000 0 (.nilc 12),
 za 14 13 1000000 0 (.faddr 0 13),
 za 15 14 1000000 0 (.load false 1 14),
 za 16 0 1000000 0 (.mv 0),
 za 17 16 1000000 0 (.nilc 16),
 za 18 17 1000000 0 (.faddr 1 17),
 za 19 18 1000000 1 (.load false 1 18),
 zj 20 15 19 (.prim (.slice 9 true false) [15, 19]),
 zi 21 20 (.call false [[]] 83 [20]),
 zM 11 21,
 zX 22 11 0,
 zX 23 11 1,
 zX 24 11 2,
 zi 3 22 (.mv 22),
 zi 4 23 (.mv 23),
 zi 5 24 (.mv 24)]
def p96o10 := [zM 25 0,
 zM 26 4,
 zM 27 5,
 zo 28 (.call true [[], [], []] 98 [25, 26, 27])]
def p96o11 := [zM 29 3,
 zo 30 (.prim .min [29, .const (.int .u64 1000001)]),
 zo 31 (.prim (.conv 38 3) [30]),
 zM 2 31]
def p96c17 := sq (rg p96o1) (sq (sq (rg p96o2) (.cond 10 (sq (rg p96o3) (rt)) (.skip))) (sq (rh p96o9) (sq (rg p96o10) (sq (rg p96o11) (rt)))))
def pc96_r : List PRes := [PRes.tmp 2 []]
def pc96 : PFunc := ⟨32, pc96_r, p96c17, false⟩
def pc96_a : Ann := {
 kr := fun _ => none
 ka := fun _ => 0
 kh := hg [([0, 12, 13, 14, 16, 17], .at_ 1000000 0), ([15, 19, 20, 22, 23, 24], .imm), ([18], .at_ 1000000 1)]
 ow := ow0
 tc := tc1 }
theorem pc96_ok : compFn Try.prog pc96_a Try.f96 = some pc96 := by kernel_rfl
def p93o1 := [zM 2 (kk 0)]
def p93o2 := [zM 3 0,
 zo 4 (.prim (.bin .shr 38 false true) [3, .const (.int .u64 1)]),
 zo 5 (.prim (.conv 38 2) [4]),
 zM 6 0,
 zo 7 (.prim (.bin .and 38 false true) [6, .const (.int .u64 1)]),
 zo 8 (.prim (.conv 38 2) [7]),
 zo 9 (.prim (.un .neg) [8]),
 zB 10 .xor 2 5 9,
 zM 2 10]
def p93c5 := sq (rg p93o1) (sq (rg p93o2) (rt))
def pc93_r : List PRes := [PRes.tmp 2 []]
def pc93 : PFunc := ⟨11, pc93_r, p93c5, false⟩
def pc93_a : Ann := {
 kr := fun _ => none
 ka := fun _ => 0
 kh := fun _ => none
 ow := ow0
 tc := tc1 }
theorem pc93_ok : compFn Try.prog pc93_a Try.f93 = some pc93 := by kernel_rfl
def p86o1 := [zM 2 (kk 0),
 zM 3 (kk 0),
 zM 4 (kk 0)]
def p86o2 := [zM 9 0,
 zo 10 (.call true [[]] 83 [9]),
 zM 8 10,
 zX 11 8 0,
 zX 12 8 1,
 zX 13 8 2,
 zM 5 11,
 zM 6 12,
 zM 7 13]
def p86o3 := [zM 14 5,
 zo 15 (.call true [[]] 93 [14]),
 zM 16 6,
 zM 17 7,
 zM 2 15,
 zM 3 16,
 zM 4 17]
def p86c7 := sq (rg p86o1) (sq (rg p86o2) (sq (rg p86o3) (rt)))
def pc86_r : List PRes := [PRes.tmp 2 [], PRes.tmp 3 [], PRes.tmp 4 []]
def pc86 : PFunc := ⟨18, pc86_r, p86c7, false⟩
def pc86_a : Ann := {
 kr := fun _ => none
 ka := fun _ => 0
 kh := fun _ => none
 ow := ow0
 tc := tc1 }
theorem pc86_ok : compFn Try.prog pc86_a Try.f86 = some pc86 := by kernel_rfl
def p97o1 := [zo 2 (.alloc 48 (.agg #[ki, ks]) [])]
def p97o2 := [zo 3 (.alloc 48 (.agg #[ki, ks]) [])]
def p97o3 := [zM 10 0,
 zo 11 (.nilc 10),
 zG 12 2 11,
 zL 13 12,
 zK 14 .neq 29 13 0]
def p97o4 := [zo 15 (.load true 2 3),
 zs (.store 2 2 15)]
def p97o10 := [za 17 0 1000000 0 (.mv 0),
 za 18 17 1000000 0 (.nilc 17),
 za 19 18 1000000 0 (.faddr 0 18),
 za 20 19 1000000 0 (.load false 1 19),
 za 21 0 1000000 0 (.mv 0),
 za 22 21 1000000 0 (.nilc 21),
 za 23 22 1000000 0 (.faddr 1 22),
 za 24 23 1000000 1 (.load false 1 23),
 zj 25 20 24 (.prim (.slice 9 true false) [20, 24]),
 zi 26 25 (.call false [[], []] 69 [25, kk 12]),
 zM 16 26,
 zX 27 16 0,
 zX 28 16 1,
 zX 29 16 2,
 zi 4 27 (.mv 27),
 zi 5 28 (.mv 28),
 zi 6 29 (.mv 29)]
def p97o11 := [zM 30 0,
 zM 31 5,
 zM 32 6,
 zo 33 (.call true [[], [], []] 98 [30, 31, 32])]
def p97o12 := [zM 34 4,
 zG 35 1 3,
 zs (.store 1 35 34)]
def p97o13 := [zM 36 4,
 zo 37 (.prim (.bin .eql 9 false true) [36, .const (ks)]),
 zM 38 37,
 zt 39 38 (.mv 6),
 zt 40 38 (.prim (.bin .eql 29 false true) [39, kk 0]),
 zo 41 (.pick 38 40 kf)]
def p97o14 := [za 43 0 1000000 0 (.mv 0),
 za 44 43 1000000 0 (.nilc 43),
 za 45 44 1000000 0 (.faddr 0 44),
 za 46 45 1000000 0 (.load false 1 45),
 za 47 0 1000000 0 (.mv 0),
 za 48 47 1000000 0 (.nilc 47),
 za 49 48 1000000 0 (.faddr 1 48),
 za 50 49 1000000 1 (.load false 1 49),
 zj 51 46 50 (.prim (.slice 9 true false) [46, 50]),
 zi 52 51 (.call false [[]] 86 [51]),
 zM 42 52,
 zX 53 42 0,
 zX 54 42 1,
 zX 55 42 2,
 zi 7 53 (.mv 53),
 zi 8 54 (.mv 54),
 zi 9 55 (.mv 55)]
def p97o15 := [zM 56 0,
 zM 57 8,
 zM 58 9,
 zo 59 (.call true [[], [], []] 98 [56, 57, 58])]
def p97o16 := [zM 60 7,
 zG 61 0 3,
 zs (.store 1 61 60)]
def p97o23 := [zo 62 (.load true 2 3),
 zs (.store 2 2 62)]
def p97c31 := sq (rg p97o1) (sq (rg p97o2) (sq (sq (rg p97o3) (.cond 14 (sq (rg p97o4) (rt)) (.skip))) (sq (rh p97o10) (sq (rg p97o11) (sq (sq (rg p97o12) (sq (rg p97o13) (.cond 41 (sq (rh p97o14) (sq (rg p97o15) (rg p97o16))) (.skip)))) (sq (rg p97o23) (rt)))))))
def pc97_r : List PRes := [PRes.cell 2 true 2 []]
def pc97 : PFunc := ⟨63, pc97_r, p97c31, false⟩
def pc97_a : Ann := {
 kr := fun _ => none
 ka := fun _ => 0
 kh := hg [([0, 17, 18, 19, 21, 22, 43, 44, 45, 47, 48], .at_ 1000000 0), ([20, 24, 25, 27, 28, 29, 46, 50, 51, 53, 54, 55], .imm), ([23, 49], .at_ 1000000 1)]
 ow := ow0
 tc := tc1 }
theorem pc97_ok : compFn Try.prog pc97_a Try.f97 = some pc97 := by kernel_rfl
def p95o1 := [zo 2 (.alloc 124 (.agg #[ki, .int .u8 0, ki, ki, ki, ks, ki, ks, ki, ks, ki, ks]) []),
 zM 3 (kk 0),
 zM 4 (kk 0)]
def p95o2 := [zM 9 0,
 zo 10 (.build (.agg #[ks, ki, ki]) [(0, 1, .tmp 9)]),
 zo 11 (.box 156 10 []),
 zM 5 11]
def p95o3 := [zM 12 5,
 zo 13 (.call true [[]] 96 [12]),
 zo 14 (.build (.agg #[ki, .int .u8 0, ki, ki, ki, ks, ki, ks, ki, ks, ki, ks]) [(0, 1, .tmp 13)]),
 zo 6 (.alloc 124 (.agg #[ki, .int .u8 0, ki, ki, ki, ks, ki, ks, ki, ks, ki, ks]) []),
 zs (.store 12 6 14)]
def p95o4 := [zM 15 5,
 zo 16 (.call true [[]] 96 [15]),
 zM 7 16]
def p95o5 := [zM 17 5,
 zo 18 (.nilc 17),
 zG 19 2 18,
 zL 20 19,
 zK 21 .eql 29 20 0,
 zM 22 21,
 zt 23 22 (.faddr 0 6),
 zt 24 22 (.load false 1 23),
 zt 25 22 (.prim (.bin .gtr 3 false true) [24, kk 1000000]),
 zt 26 22 (.mv 25),
 zf 27 26 (.mv 7),
 zf 28 26 (.prim (.bin .eql 3 false true) [27, kk 0]),
 zt 29 22 (.pick 26 kt 28),
 zt 30 22 (.mv 29),
 zf 31 30 (.mv 7),
 zf 32 30 (.prim (.bin .gtr 3 false true) [31, kk 31]),
 zt 33 22 (.pick 30 kt 32),
 zo 34 (.pick 22 33 kf)]
def p95o6 := [zo 35 (.build (.agg #[ki, .int .u8 0, ki, ki, ki, ks, ki, ks, ki, ks, ki, ks]) []),
 zs (.store 12 2 35),
 zM 3 (kk 0),
 zM 4 (kk 11)]
def p95o12 := [zM 36 7,
 zo 37 (.prim (.conv 3 5) [36]),
 zG 38 1 6,
 zs (.store 1 38 37)]
def p95o13 := [zG 39 1 6,
 zL 40 39,
 zo 41 (.prim (.bin .and 5 false true) [40, .const (.int .u8 1)]),
 zo 42 (.prim (.bin .neq 5 false true) [41, .const (.int .u8 0)])]
def p95o14 := [zM 43 5,
 zo 44 (.call true [[]] 96 [43]),
 zG 45 2 6,
 zG 46 0 45,
 zs (.store 1 46 44)]
def p95o15 := [zM 47 5,
 zo 48 (.call true [[]] 96 [47]),
 zG 49 2 6,
 zG 50 1 49,
 zs (.store 1 50 48)]
def p95o22 := [zM 51 (kk 0)]
def p95o23 := [zK 52 .lss 3 51 4]
def p95o27 := [zM 53 51,
 zM 8 53]
def p95o28 := [zM 55 5,
 zo 56 (.nilc 55),
 zG 57 2 56,
 zL 58 57,
 zK 59 .neq 29 58 0,
 zM 54 59]
def p95o30 := [zG 61 1 6,
 zL 62 61,
 zM 63 8,
 zo 64 (.call true [[], []] 89 [62, 63]),
 zM 60 64]
def p95o31 := [zM 65 8,
 zM 66 5,
 zo 67 (.call true [[]] 97 [66]),
 zG 68 4 6,
 zo 69 (.iaddrA 4 2 68 65),
 zs (.store 2 69 67)]
def p95o40 := [zK 70 .add 3 51 1,
 zM 51 70]
def p95c43 := sq (.region (some ([2, 5, 6, 51], [2, 6, 11], [])) false p95o23) (sq (.cond 52 (.skip) (.exit 0)) (sq (.block 1 (sq (rg p95o27) (.block 2 (sq (rg p95o28) (.cond 54 (.exit 0) (sq (rg p95o30) (.cond 60 (rg p95o31) (.skip)))))))) (rg p95o40)))
def p95o47 := [zM 71 5,
 zo 72 (.nilc 71),
 zG 73 2 72,
 zL 74 73,
 zK 75 .neq 29 74 0]
def p95o48 := [zo 76 (.build (.agg #[ki, .int .u8 0, ki, ki, ki, ks, ki, ks, ki, ks, ki, ks]) []),
 za 77 5 11 0 (.mv 5),
 za 78 77 11 0 (.nilc 77),
 za 79 78 11 0 (.faddr 2 78),
 za 80 79 11 2 (.load false 1 79),
 zn (.store 12 2 76) [(2, .at_ 2 0), (76, .imm)],
 zM 3 (kk 0),
 zi 4 80 (.mv 80)]
def p95o54 := [zo 81 (.load true 12 6),
 zo 82 (.call true [[]] 88 [81]),
 zo 83 (.prim (.un .not) [82])]
def p95o55 := [zo 84 (.build (.agg #[ki, .int .u8 0, ki, ki, ki, ks, ki, ks, ki, ks, ki, ks]) []),
 zs (.store 12 2 84),
 zM 3 (kk 0),
 zM 4 (kk 11)]
def p95o61 := [za 85 6 6 0 (.load true 12 6),
 za 86 5 11 0 (.mv 5),
 za 87 86 11 0 (.nilc 86),
 za 88 87 11 0 (.faddr 1 87),
 za 89 88 11 1 (.load false 1 88),
 zn (.store 12 2 85) [(2, .at_ 2 0), (85, .imm)],
 zi 3 89 (.mv 89),
 zM 4 (kk 0)]
def p95c65 := sq (sq (.region (some ([2, 5, 6], [2, 6, 11], [])) false p95o47) (.cond 75 (sq (rh p95o48) (rt)) (.skip))) (sq (sq (rg p95o54) (.cond 83 (sq (rg p95o55) (rt)) (.skip))) (sq (rh p95o61) (rt)))
def p95c68 := sq (sq (.region (some ([2, 5, 6, 7], [2, 6, 11], [])) false p95o12) (sq (rg p95o13) (.cond 42 (sq (rg p95o14) (rg p95o15)) (.skip)))) (sq (.label) (sq (sq (rg p95o22) (.block 0 (.loop p95c43))) p95c65))
def p95c74 := sq (rg p95o1) (.scope (sq (rg p95o2) (sq (rg p95o3) (sq (rg p95o4) (sq (sq (rg p95o5) (.cond 34 (sq (rg p95o6) (rt)) (.skip))) p95c68)))))
def pc95_r : List PRes := [PRes.cell 2 true 12 [], PRes.tmp 3 [], PRes.tmp 4 []]
def pc95 : PFunc := ⟨90, pc95_r, p95c74, false⟩
def pc95_a : Ann := {
 kr := fun
  | 6 => some ([2, 5, 6, 7], [2, 6, 11], [])
  | 11 => some ([2, 5, 6, 51], [2, 6, 11], [])
  | 17 => some ([2, 5, 6], [2, 6, 11], [])
  | _ => none
 ka := fun _ => 0
 kh := hg [([2], .at_ 2 0), ([5, 77, 78, 86, 87], .at_ 11 0), ([6], .at_ 6 0), ([76, 80, 85, 89], .imm), ([79], .at_ 11 2), ([88], .at_ 11 1)]
 ow := ow0
 tc := tc1 }
theorem pc95_ok : compFn Try.prog pc95_a Try.f95 = some pc95 := by kernel_rfl
def p92o1 := [zo 2 (.alloc 55 (.agg #[ki, ki, ki, ki, ks, ki, ks, ki, ks, ki, ks]) []),
 zM 3 (kk 0),
 zM 4 (kk 0)]
def p92o2 := [zM 9 0,
 zo 10 (.call true [[]] 95 [9]),
 zM 8 10,
 zX 11 8 0,
 zX 12 8 1,
 zX 13 8 2,
 zo 5 (.alloc 124 (.agg #[ki, .int .u8 0, ki, ki, ki, ks, ki, ks, ki, ks, ki, ks]) []),
 zs (.store 12 5 11),
 zM 6 12,
 zM 7 13]
def p92o3 := [zM 15 7,
 zK 16 .neq 29 15 0,
 zM 14 16]
def p92o4 := [zo 17 (.build (.agg #[ki, ki, ki, ki, ks, ki, ks, ki, ks, ki, ks]) []),
 zM 18 7,
 zs (.store 11 2 17),
 zM 3 (kk 0),
 zM 4 18]
def p92o7 := [zG 20 1 5,
 zL 21 20,
 zo 22 (.prim (.bin .neq 5 false true) [21, .const (.int .u8 31)]),
 zM 19 22]
def p92o8 := [zo 23 (.build (.agg #[ki, ki, ki, ki, ks, ki, ks, ki, ks, ki, ks]) []),
 zs (.store 11 2 23),
 zM 3 (kk 0),
 zM 4 (kk 11)]
def p92o17 := [zG 24 0 5,
 zL 25 24,
 zG 26 2 5,
 zo 27 (.load true 2 26),
 zG 28 4 5,
 zo 29 (.load true 8 28),
 zo 30 (.build (.agg #[ki, ki, ki, ki, ks, ki, ks, ki, ks, ki, ks]) [(0, 1, .tmp 25), (1, 2, .tmp 27), (3, 8, .tmp 29)]),
 zM 31 6,
 zs (.store 11 2 30),
 zM 3 31,
 zM 4 (kk 0)]
def p92c22 := sq (rg p92o1) (sq (rg p92o2) (sq (.block 0 (sq (rg p92o3) (.cond 14 (sq (rg p92o4) (rt)) (sq (rg p92o7) (.cond 19 (sq (rg p92o8) (rt)) (.skip)))))) (sq (rg p92o17) (rt))))
def pc92_r : List PRes := [PRes.cell 2 true 11 [], PRes.tmp 3 [], PRes.tmp 4 []]
def pc92 : PFunc := ⟨32, pc92_r, p92c22, false⟩
def pc92_a : Ann := {
 kr := fun _ => none
 ka := fun _ => 0
 kh := fun _ => none
 ow := ow0
 tc := tc1 }
theorem pc92_ok : compFn Try.prog pc92_a Try.f92 = some pc92 := by kernel_rfl
def p84o1 := [zo 2 (.mv (.const (kl))),
 zM 3 (kk 0),
 zM 4 (kk 0)]
def p84o2 := [zM 13 0,
 zo 14 (.call true [[]] 83 [13]),
 zM 12 14,
 zX 15 12 0,
 zX 16 12 1,
 zX 17 12 2,
 zM 5 15,
 zM 6 16,
 zM 7 17]
def p84o3 := [zM 19 7,
 zK 20 .neq 29 19 0,
 zM 18 20]
def p84o4 := [zM 21 7,
 zo 2 (.mv (.const (kl))),
 zM 3 (kk 0),
 zM 4 21]
def p84o7 := [zM 23 5,
 zo 24 (.prim (.bin .gtr 38 false true) [23, .const (.int .u64 200)]),
 zM 22 24]
def p84o8 := [zo 2 (.mv (.const (kl))),
 zM 3 (kk 0),
 zM 4 (kk 13)]
def p84o17 := [zo 8 (.mv (.const (kl)))]
def p84o18 := [zM 25 5,
 zo 26 (.mv (.const (.int .u64 0)))]
def p84o19 := [zB 27 .lss 38 26 25]
def p84o23 := [zM 29 0,
 zM 30 6,
 zo 31 (.prim (.slice 9 true false) [29, 30]),
 zo 32 (.call true [[]] 92 [31]),
 zM 28 32,
 zX 33 28 0,
 zX 34 28 1,
 zX 35 28 2,
 zo 9 (.alloc 55 (.agg #[ki, ki, ki, ki, ks, ki, ks, ki, ks, ki, ks]) []),
 zs (.store 11 9 33),
 zM 10 34,
 zM 11 35]
def p84o24 := [zM 36 11,
 zK 37 .neq 29 36 0]
def p84o25 := [zM 38 11,
 zo 2 (.mv (.const (kl))),
 zM 3 (kk 0),
 zM 4 38]
def p84o31 : List POper := [⟨some 39, .mv 8, none, [(8, .obj 100008)]⟩,
 ⟨some 40, .lenS 39, none, [(39, .obj 100008)]⟩,
 zi 41 40 (.prim (.bin .gtr 3 false true) [40, kk 0]),
 zi 42 41 (.mv 41),
 ⟨some 43, .faddr 0 9, some (42, true), [(9, .at_ 9 0)]⟩,
 ⟨some 44, .load false 1 43, some (42, true), [(43, .at_ 9 0)]⟩,
 ⟨some 45, .mv 8, some (42, true), [(8, .obj 100008)]⟩,
 ⟨some 46, .mv 8, some (42, true), [(8, .obj 100008)]⟩,
 ⟨some 47, .lenS 46, some (42, true), [(46, .obj 100008)]⟩,
 ⟨some 48, .prim (.bin .sub 3 false true) [47, kk 1], some (42, true), [(47, .imm)]⟩,
 ⟨some 49, .iaddrS 11 45 48, some (42, true), [(45, .obj 100008), (48, .imm)]⟩,
 ⟨some 50, .faddr 0 49, some (42, true), [(49, .obj 100008)]⟩,
 ⟨some 51, .load false 1 50, some (42, true), [(50, .obj 100008)]⟩,
 ⟨some 52, .prim (.bin .leq 3 false false) [44, 51], some (42, true), [(44, .imm), (51, .imm)]⟩,
 zj 53 42 52 (.pick 42 52 kf)]
def p84o32 := [zo 2 (.mv (.const (kl))),
 zM 3 (kk 0),
 zM 4 (kk 11)]
def p84o38 := [zM 54 8,
 zo 55 (.load true 11 9),
 zo 56 (.bslice 55 11 [55]),
 zo 57 (.app 100008 55 11 120 54 56),
 zM 8 57]
def p84o39 := [zM 58 6,
 zM 59 10,
 zB 60 .add 3 58 59,
 zM 6 60]
def p84c40 := sq (.region (some ([0, 6, 8, 9, 10, 25, 26], [9, 100008], [])) false p84o38) (rg p84o39)
def p84o45 := [zo 61 (.prim (.bin .add 38 false true) [26, .const (.int .u64 1)]),
 zM 26 61]
def p84c45 := rg p84o45
def p84c48 := sq (.region (some ([0, 6, 8, 25, 26], [9, 100008], [(false, 8, 0, 100008, 55, 11)])) false p84o19) (sq (.cond 27 (.skip) (.exit 1)) (sq (.block 2 (sq (rg p84o23) (sq (sq (rg p84o24) (.cond 37 (sq (rg p84o25) (rt)) (.skip))) (sq (sq (rh p84o31) (.cond 53 (sq (rg p84o32) (rt)) (.skip))) p84c40)))) p84c45))
def p84o52 := [zM 62 8,
 zM 63 6,
 zM 2 62,
 zM 3 63,
 zM 4 (kk 0)]
def p84c54 := sq (rg p84o52) (rt)
def p84c59 := sq (rg p84o1) (sq (rg p84o2) (sq (.block 0 (sq (rg p84o3) (.cond 18 (sq (rg p84o4) (rt)) (sq (rg p84o7) (.cond 22 (sq (rg p84o8) (rt)) (.skip)))))) (sq (rg p84o17) (sq (sq (rg p84o18) (.block 1 (.loop p84c48))) p84c54))))
def pc84_r : List PRes := [PRes.tmp 2 [(0, 11)], PRes.tmp 3 [], PRes.tmp 4 []]
def pc84 : PFunc := ⟨64, pc84_r, p84c59, false⟩
def pc84_a : Ann := {
 kr := fun
  | 8 => some ([0, 6, 8, 25, 26], [9, 100008], [(false, 8, 0, 100008, 55, 11)])
  | 14 => some ([0, 6, 8, 9, 10, 25, 26], [9, 100008], [])
  | _ => none
 ka := fun
  | 57 => 100008
  | _ => 0
 kh := hg [([8, 39, 45, 46, 49, 50], .obj 100008), ([9, 43], .at_ 9 0), ([40, 41, 42, 44, 47, 48, 51, 52], .imm)]
 ow := ow0
 tc := tc1 }
theorem pc84_ok : compFn Try.prog pc84_a Try.f84 = some pc84 := by kernel_rfl
def p71o1 := [zo 2 (.mv (.const (kl)))]
def p71o2 := [zM 6 0,
 zo 7 (.nilc 6),
 zG 8 2 7,
 zL 9 8]
def p71o3 := [zo 2 (.mv (.const (kl)))]
def p71o9 := [za 11 0 1000000 0 (.mv 0),
 za 12 11 1000000 0 (.nilc 11),
 za 13 12 1000000 0 (.faddr 0 12),
 za 14 13 1000000 0 (.load false 1 13),
 za 15 0 1000000 0 (.mv 0),
 za 16 15 1000000 0 (.nilc 15),
 za 17 16 1000000 0 (.faddr 1 16),
 za 18 17 1000000 1 (.load false 1 17),
 zj 19 14 18 (.prim (.slice 9 true false) [14, 18]),
 zi 20 19 (.call false [[]] 84 [19]),
 zM 10 20,
 zX 21 10 0,
 zX 22 10 1,
 zX 23 10 2,
 zi 3 21 (.mv 21),
 zi 4 22 (.mv 22),
 zi 5 23 (.mv 23)]
def p71o10 := [zM 24 0,
 zM 25 4,
 zM 26 5,
 zo 27 (.call true [[], [], []] 73 [24, 25, 26])]
def p71o11 := [zM 28 3,
 zM 2 28]
def p71c17 := sq (rg p71o1) (sq (sq (rg p71o2) (.cond 9 (sq (rg p71o3) (rt)) (.skip))) (sq (rh p71o9) (sq (rg p71o10) (sq (rg p71o11) (rt)))))
def pc71_r : List PRes := [PRes.tmp 2 [(0, 11)]]
def pc71 : PFunc := ⟨29, pc71_r, p71c17, false⟩
def pc71_a : Ann := {
 kr := fun _ => none
 ka := fun _ => 0
 kh := hg [([0, 11, 12, 13, 15, 16], .at_ 1000000 0), ([14, 18, 19, 21, 22, 23], .imm), ([17], .at_ 1000000 1)]
 ow := ow0
 tc := tc1 }
theorem pc71_ok : compFn Try.prog pc71_a Try.f71 = some pc71 := by kernel_rfl
def p85o1 := [zM 2 (kk 0),
 zM 3 (kk 0)]
def p85o2 := [zL 8 0,
 zL 9 1,
 zo 10 (.prim (.slice 9 true false) [8, 9]),
 zo 11 (.call true [[]] 86 [10]),
 zM 7 11,
 zX 12 7 0,
 zX 13 7 1,
 zX 14 7 2,
 zM 4 12,
 zM 5 13,
 zM 6 14]
def p85o3 := [zL 15 1,
 zM 16 5,
 zB 17 .add 3 15 16,
 zs (.store 1 1 17)]
def p85o4 := [zM 18 4,
 zM 19 6,
 zM 2 18,
 zM 3 19]
def p85c9 := sq (rg p85o1) (sq (rg p85o2) (sq (rg p85o3) (sq (rg p85o4) (rt))))
def pc85_r : List PRes := [PRes.tmp 2 [], PRes.tmp 3 []]
def pc85 : PFunc := ⟨20, pc85_r, p85c9, false⟩
def pc85_a : Ann := {
 kr := fun _ => none
 ka := fun _ => 0
 kh := fun _ => none
 ow := ow0
 tc := tc1 }
theorem pc85_ok : compFn Try.prog pc85_a Try.f85 = some pc85 := by kernel_rfl
def p87o1 := [zM 3 (kk 0)]
def p87o2 := [zM 8 0,
 zo 9 (.lenS 8),
 zM 10 (kk 0)]
def p87o3 := [zB 11 .lss 3 10 9]
def p87o7 := [zo 12 (.iaddrS 1 8 10),
 zL 13 12,
 zM 5 13]
def p87o8 := [zL 15 1,
 zo 16 (.gcallv false false [300000, 300001, 300002, 300003, 300004, 300005, 300006, 300007, 1000003, 1000004] [] 15 []),
 zM 14 16,
 zX 17 14 0,
 zX 18 14 1,
 zM 6 17,
 zM 7 18]
def p87o9 := [zM 19 7,
 zK 20 .neq 29 19 0]
def p87o10 := [zM 21 7,
 zM 3 21]
def p87o16 := [zM 22 5,
 zM 23 6,
 zo 24 (.prim .max [23, .const (.int .i64 (-1000001))]),
 zo 25 (.prim .min [24, kk 1000001]),
 zo 26 (.nilc 22),
 zs (.store 1 26 25)]
def p87o21 := [zK 27 .add 3 10 1,
 zM 10 27]
def p87c24 := sq (.region (some ([1, 8, 9, 10], [1000000, 1000001, 1000002, 1000003, 1000004], [])) false p87o3) (sq (.cond 11 (.skip) (.exit 0)) (sq (.block 1 (sq (rg p87o7) (sq (rg p87o8) (sq (sq (rg p87o9) (.cond 20 (sq (rg p87o10) (rt)) (.skip))) (rg p87o16))))) (rg p87o21)))
def p87o28 := [zM 3 (kk 0)]
def p87c30 := sq (rg p87o28) (rt)
def p87c32 := sq (rg p87o1) (sq (sq (rg p87o2) (.block 0 (.loop p87c24))) p87c30)
def pc87_r : List PRes := [PRes.tmp 3 []]
def pc87 : PFunc := ⟨28, pc87_r, p87c32, false⟩
def pc87_a : Ann := {
 kr := fun
  | 2 => some ([1, 8, 9, 10], [1000000, 1000001, 1000002, 1000003, 1000004], [])
  | _ => none
 ka := fun _ => 0
 kh := fun _ => none
 gv := fun d f => match d, f with
  | some 16, 15 => some (false, false, [300000, 300001, 300002, 300003, 300004, 300005, 300006, 300007, 1000003, 1000004])
  | _, _ => none
 ow := ow0
 tc := tc1 }
theorem pc87_ok : compFn Try.prog pc87_a Try.f87 = some pc87 := by kernel_rfl
def p72o1 := [zo 1 (.box 9 0 []),
 zo 2 (.alloc 53 (.agg #[ki, ki, ki, ki, ki, ki, ki, ks, ki, ks, ki, ks, ki, ks, ki, ks, ki, ki, ki, ki, ki, ki]) []),
 zM 3 (kk 0),
 zM 4 (kk 0)]
def p72o2 := [zo 5 (.alloc 53 (.agg #[ki, ki, ki, ki, ki, ki, ki, ks, ki, ks, ki, ks, ki, ks, ki, ks, ki, ki, ki, ki, ki, ki]) [])]
def p72o3 := [zo 6 (.alloc 3 (.int .i64 0) []),
 zs (.store 1 6 (kk 0))]
def p72o4 := [zo 18 (.mkfn 85 [1, 6]),
 zo 7 (.alloc 139 .nilFunc []),
 zs (.store 1 7 18)]
def p72o5 := [zo 19 (.mkfn 87 [7]),
 zM 8 19]
def p72o6 := [zM 20 8,
 zG 21 0 5,
 zG 22 16 5,
 zG 23 17 5,
 zo 24 (.bptrs 1 [21, 22, 23]),
 zo 25 (.gcallv false false [1, 5, 6, 7, 24, 300000, 300001, 300002, 300003, 300004, 300005, 300006, 300007] [[(0, 1)]] 20 [24]),
 zM 9 25]
def p72o7 := [zM 26 9,
 zK 27 .neq 29 26 0]
def p72o8 := [zo 28 (.build (.agg #[ki, ki, ki, ki, ki, ki, ki, ks, ki, ks, ki, ks, ki, ks, ki, ks, ki, ki, ki, ki, ki, ki]) []),
 zM 29 9,
 zs (.store 22 2 28),
 zM 3 (kk 0),
 zM 4 29]
def p72o15 := [zM 30 8,
 zo 31 (.gcall false false [5, 300000, 300001, 300002, 300003, 300004, 300005, 300006, 300007] [[]] 47 [5]),
 zo 32 (.gcallv false false [1, 5, 6, 7, 300000, 300001, 300002, 300003, 300004, 300005, 300006, 300007] [[(0, 1)]] 30 [31]),
 zM 10 32]
def p72o16 := [zM 33 10,
 zK 34 .neq 29 33 0]
def p72o17 := [zo 35 (.build (.agg #[ki, ki, ki, ki, ki, ki, ki, ks, ki, ks, ki, ks, ki, ks, ki, ks, ki, ki, ki, ki, ki, ki]) []),
 zM 36 10,
 zs (.store 22 2 35),
 zM 3 (kk 0),
 zM 4 36]
def p72c22 := sq (.region (some ([1, 2, 5, 6, 7, 10], [1, 2, 5, 6, 7, 24, 300000], [])) false p72o16) (.cond 34 (sq (rg p72o17) (rt)) (.skip))
def p72o24 := [zo 37 (.gcall false false [5, 300000, 300001, 300002, 300003, 300004, 300005, 300006, 300007] [[]] 48 [5]),
 zo 38 (.lenS 37),
 zM 39 (kk 0)]
def p72o25 := [zB 40 .lss 3 39 38]
def p72o29 := [zo 41 (.iaddrS 1 37 39),
 zL 42 41,
 zM 12 42]
def p72o30 := [zL 44 1,
 zL 45 6,
 zo 46 (.prim (.slice 9 true false) [44, 45]),
 zo 47 (.call true [[], []] 69 [46, kk 12]),
 zM 43 47,
 zX 48 43 0,
 zX 49 43 1,
 zX 50 43 2,
 zM 13 48,
 zM 14 49,
 zM 15 50]
def p72o31 := [zL 51 6,
 zM 52 14,
 zB 53 .add 3 51 52,
 zs (.store 1 6 53)]
def p72o32 := [zM 54 15,
 zK 55 .eql 29 54 0]
def p72o33 := [zM 56 12,
 zM 57 13,
 zo 58 (.nilc 56),
 zG 59 1 58,
 zs (.store 1 59 57)]
def p72o34 := [zM 61 12,
 zL 62 7,
 zo 63 (.gcallv false false [1, 6, 300000, 300001, 300002, 300003, 300004, 300005, 300006, 300007] [] 62 []),
 zM 60 63,
 zX 64 60 0,
 zX 65 60 1,
 zo 66 (.nilc 61),
 zG 67 0 66,
 zs (.store 1 67 64),
 zM 15 65]
def p72o39 := [zM 68 15,
 zK 69 .neq 29 68 0]
def p72o40 := [zo 70 (.build (.agg #[ki, ki, ki, ki, ki, ki, ki, ks, ki, ks, ki, ks, ki, ks, ki, ks, ki, ki, ki, ki, ki, ki]) []),
 zM 71 15,
 zs (.store 22 2 70),
 zM 3 (kk 0),
 zM 4 71]
def p72c45 := sq (.region (some ([1, 2, 5, 6, 7, 15, 37, 38, 39], [1, 2, 5, 6, 7, 300000], [])) false p72o39) (.cond 69 (sq (rg p72o40) (rt)) (.skip))
def p72o51 := [zK 72 .add 3 39 1,
 zM 39 72]
def p72c51 := rg p72o51
def p72c54 := sq (.region (some ([1, 2, 5, 6, 7, 37, 38, 39], [1, 2, 5, 6, 7, 300000], [])) false p72o25) (sq (.cond 40 (.skip) (.exit 0)) (sq (.block 1 (sq (rg p72o29) (sq (rg p72o30) (sq (rg p72o31) (sq (sq (rg p72o32) (.cond 55 (sq (rg p72o33) (rg p72o34)) (.skip))) p72c45))))) p72c51))
def p72o58 := [zo 74 (.load true 22 5),
 zo 75 (.call true [[]] 21 [74]),
 zM 73 75,
 zX 76 73 0,
 zX 77 73 1,
 zM 16 76,
 zM 17 77]
def p72o59 := [zM 78 17,
 zK 79 .neq 29 78 0,
 zM 80 79,
 zf 81 80 (.mv 16),
 zf 82 80 (.load false 1 1),
 zf 83 80 (.load false 1 6),
 zf 84 80 (.prim (.slice 9 false true) [82, 83]),
 zf 85 80 (.prim (.bin .neq 9 false false) [81, 84]),
 zo 86 (.pick 80 kt 85)]
def p72o60 := [zo 87 (.build (.agg #[ki, ki, ki, ki, ki, ki, ki, ks, ki, ks, ki, ks, ki, ks, ki, ks, ki, ki, ki, ki, ki, ki]) []),
 zs (.store 22 2 87),
 zM 3 (kk 0),
 zM 4 (kk 11)]
def p72o67 := [za 88 5 5 0 (.load true 22 5),
 za 89 6 6 0 (.load false 1 6),
 zn (.store 22 2 88) [(2, .at_ 2 0), (88, .imm)],
 zi 3 89 (.mv 89),
 zM 4 (kk 0)]
def p72c70 := sq (sq (.region (some ([1, 2, 5, 6], [1, 2, 5, 6, 7, 300000], [])) false p72o58) (sq (rg p72o59) (.cond 86 (sq (rg p72o60) (rt)) (.skip)))) (sq (rh p72o67) (rt))
def p72c71 := sq (sq (rg p72o24) (.block 0 (.loop p72c54))) p72c70
def p72c78 := sq (rg p72o1) (sq (rg p72o2) (sq (rg p72o3) (sq (rg p72o4) (sq (rg p72o5) (sq (sq (rg p72o6) (sq (rg p72o7) (.cond 27 (sq (rg p72o8) (rt)) (.skip)))) (sq (sq (rg p72o15) p72c22) p72c71))))))
def pc72_r : List PRes := [PRes.cell 2 true 22 [], PRes.tmp 3 [], PRes.tmp 4 []]
def pc72 : PFunc := ⟨90, pc72_r, p72c78, false⟩
def pc72_a : Ann := {
 kr := fun
  | 9 => some ([1, 2, 5, 6, 7, 10], [1, 2, 5, 6, 7, 24, 300000], [])
  | 12 => some ([1, 2, 5, 6, 7, 37, 38, 39], [1, 2, 5, 6, 7, 300000], [])
  | 19 => some ([1, 2, 5, 6, 7, 15, 37, 38, 39], [1, 2, 5, 6, 7, 300000], [])
  | 22 => some ([1, 2, 5, 6], [1, 2, 5, 6, 7, 300000], [])
  | _ => none
 ka := fun _ => 0
 kh := hg [([2], .at_ 2 0), ([5], .at_ 5 0), ([6], .at_ 6 0), ([88, 89], .imm)]
 gf := fun d f => match d, f with
  | some 31, 47 => some (false, false, [5, 300000, 300001, 300002, 300003, 300004, 300005, 300006, 300007])
  | some 37, 48 => some (false, false, [5, 300000, 300001, 300002, 300003, 300004, 300005, 300006, 300007])
  | _, _ => none
 gv := fun d f => match d, f with
  | some 25, 20 => some (false, false, [1, 5, 6, 7, 24, 300000, 300001, 300002, 300003, 300004, 300005, 300006, 300007])
  | some 32, 30 => some (false, false, [1, 5, 6, 7, 300000, 300001, 300002, 300003, 300004, 300005, 300006, 300007])
  | some 63, 62 => some (false, false, [1, 6, 300000, 300001, 300002, 300003, 300004, 300005, 300006, 300007])
  | _, _ => none
 ow := ow0
 tc := tc1 }
theorem pc72_ok : compFn Try.prog pc72_a Try.f72 = some pc72 := by kernel_rfl
def p42o1 := [zo 2 (.alloc 26 (.agg #[ki, ki, kl, kl, kl, kl]) [])]
def p42o2 := [zM 7 0,
 zo 8 (.call true [[], []] 70 [7, .const (.int .u64 4)]),
 zM 9 0,
 zo 10 (.call true [[], []] 70 [9, .const (.int .u64 1073741824)]),
 zo 11 (.build (.agg #[ki, ki, kl, kl, kl, kl]) [(0, 1, .tmp 8), (1, 1, .tmp 10)]),
 zo 3 (.alloc 26 (.agg #[ki, ki, kl, kl, kl, kl]) []),
 zs (.store 6 3 11)]
def p42o3 := [zM 12 0,
 zo 13 (.call true [[]] 71 [12]),
 zM 14 0,
 zo 15 (.call true [[]] 71 [14]),
 zG 16 2 3,
 zs (.store 1 16 13),
 zG 17 4 3,
 zs (.store 1 17 15)]
def p42o5 := [zM 18 0,
 zo 19 (.call true [[], []] 70 [18, .const (.int .u64 16)]),
 zM 20 (kk 0)]
def p42o6 := [zB 21 .lss 3 20 19]
def p42o10 := [zM 22 0,
 zo 23 (.nilc 22),
 zG 24 2 23,
 zL 25 24]
def p42o15 := [za 26 3 3 0 (.faddr 3 3),
 za 27 26 3 3 (.load false 1 26),
 za 28 0 1000000 0 (.mv 0),
 za 29 28 1000000 0 (.call true [[], []] 70 [28, .const (.int .u64 16)]),
 za 30 0 1000000 0 (.mv 0),
 za 31 30 1000000 0 (.call true [[], []] 70 [30, .const (.int .u64 4)]),
 zj 32 29 31 (.build (.agg #[ki, ki]) [(0, 1, .tmp 29), (1, 1, .tmp 31)]),
 zi 33 32 (.bslice 44 2 [32]),
 ⟨some 34, .app 100027 44 2 16 27 33, none, [(27, .obj 100027), (33, .imm)]⟩,
 za 35 3 3 0 (.faddr 3 3),
 zn (.store 1 35 34) [(35, .at_ 3 3), (34, .obj 100027)]]
def p42o18 := [zK 36 .add 3 20 1,
 zM 20 36]
def p42c21 := sq (.region (some ([0, 2, 3, 19, 20], [2, 3, 100027, 1000000], [(true, 3, 3, 100027, 44, 2)])) false p42o6) (sq (.cond 21 (.skip) (.exit 0)) (sq (.block 1 (sq (sq (rg p42o10) (.cond 25 (.exit 0) (.skip))) (rh p42o15))) (rg p42o18)))
def p42o26 := [zM 37 0,
 zo 38 (.call true [[], []] 70 [37, .const (.int .u64 20)]),
 zM 39 (kk 0)]
def p42o27 := [zB 40 .lss 3 39 38]
def p42o31 := [zM 41 0,
 zo 42 (.nilc 41),
 zG 43 2 42,
 zL 44 43]
def p42o36 := [za 46 0 1000000 0 (.mv 0),
 za 47 46 1000000 0 (.nilc 46),
 za 48 47 1000000 0 (.faddr 0 47),
 za 49 48 1000000 0 (.load false 1 48),
 za 50 0 1000000 0 (.mv 0),
 za 51 50 1000000 0 (.nilc 50),
 za 52 51 1000000 0 (.faddr 1 51),
 za 53 52 1000000 1 (.load false 1 52),
 zj 54 49 53 (.prim (.slice 9 true false) [49, 53]),
 zi 55 54 (.call false [[]] 72 [54]),
 zM 45 55,
 zX 56 45 0,
 zX 57 45 1,
 zX 58 45 2,
 zo 4 (.alloc 53 (.agg #[ki, ki, ki, ki, ki, ki, ki, ks, ki, ks, ki, ks, ki, ks, ki, ks, ki, ki, ki, ki, ki, ki]) []),
 zn (.store 22 4 56) [(4, .at_ 4 0), (56, .imm)],
 zi 5 57 (.mv 57),
 zi 6 58 (.mv 58)]
def p42o37 := [zM 59 0,
 zM 60 5,
 zM 61 6,
 zo 62 (.call true [[], [], []] 73 [59, 60, 61])]
def p42o38 := [zG 63 5 3,
 zL 64 63,
 zo 65 (.load true 22 4),
 zo 66 (.bslice 53 22 [65]),
 zo 67 (.app 100064 53 22 216 64 66),
 zG 68 5 3,
 zs (.store 1 68 67)]
def p42o43 := [zK 69 .add 3 39 1,
 zM 39 69]
def p42c46 := sq (.region (some ([0, 2, 3, 38, 39], [2, 3, 4, 100027, 100064, 1000000], [(true, 3, 5, 100064, 53, 22)])) false p42o27) (sq (.cond 40 (.skip) (.exit 2)) (sq (.block 3 (sq (sq (rg p42o31) (.cond 44 (.exit 2) (.skip))) (sq (rh p42o36) (sq (rg p42o37) (rg p42o38))))) (rg p42o43)))
def p42o50 := [zo 70 (.load true 6 3),
 zs (.store 6 2 70)]
def p42c52 := sq (rg p42o50) (rt)
def p42c54 := sq (.label) (sq (sq (rg p42o26) (.block 2 (.loop p42c46))) p42c52)
def p42c60 := sq (rg p42o1) (.scope (sq (rg p42o2) (sq (rg p42o3) (sq (.label) (sq (sq (rg p42o5) (.block 0 (.loop p42c21))) p42c54)))))
def pc42_r : List PRes := [PRes.cell 2 true 6 [(2, 11), (3, 2), (4, 11), (5, 22)]]
def pc42 : PFunc := ⟨71, pc42_r, p42c60, false⟩
def pc42_a : Ann := {
 kr := fun
  | 4 => some ([0, 2, 3, 19, 20], [2, 3, 100027, 1000000], [(true, 3, 3, 100027, 44, 2)])
  | 9 => some ([0, 2, 3, 38, 39], [2, 3, 4, 100027, 100064, 1000000], [(true, 3, 5, 100064, 53, 22)])
  | _ => none
 ka := fun
  | 34 => 100027
  | 67 => 100064
  | _ => 0
 kh := hg [([0, 28, 30, 46, 47, 48, 50, 51], .at_ 1000000 0), ([3], .at_ 3 0), ([4], .at_ 4 0), ([26, 35], .at_ 3 3), ([27, 34], .obj 100027), ([29, 31, 32, 33, 49, 53, 54, 56, 57, 58], .imm), ([52], .at_ 1000000 1)]
 ow := ow0
 tc := tc1 }
theorem pc42_ok : compFn Try.prog pc42_a Try.f42 = some pc42 := by kernel_rfl
def p14o1 := [zo 2 (.alloc 26 (.agg #[ki, ki, kl, kl, kl, kl]) []),
 zM 3 (kk 0),
 zM 4 (kk 0)]
def p14o2 := [zM 13 0,
 zo 14 (.call true [[]] 41 [13]),
 zM 12 14,
 zX 15 12 0,
 zX 16 12 1,
 zX 17 12 2,
 zM 5 15,
 zM 6 16,
 zM 7 17]
def p14o3 := [zM 18 7,
 zK 19 .neq 29 18 0]
def p14o4 := [zo 20 (.build (.agg #[ki, ki, kl, kl, kl, kl]) []),
 zM 21 7,
 zs (.store 6 2 20),
 zM 3 (kk 0),
 zM 4 21]
def p14o10 := [zM 22 5,
 zo 23 (.build (.agg #[ks, ki, .bool false]) [(0, 1, .tmp 22)]),
 zo 24 (.box 88 23 []),
 zM 8 24]
def p14o11 := [zM 25 8,
 zo 26 (.call true [[]] 42 [25]),
 zo 9 (.alloc 26 (.agg #[ki, ki, kl, kl, kl, kl]) []),
 zs (.store 6 9 26)]
def p14o12 := [zo 28 (.load true 6 9),
 zo 29 (.call true [[(2, 11), (3, 2), (4, 11), (5, 22)]] 9 [28]),
 zM 27 29,
 zX 30 27 0,
 zX 31 27 1,
 zM 10 30,
 zM 11 31]
def p14o13 := [zM 32 8,
 zo 33 (.nilc 32),
 zG 34 2 33,
 zL 35 34,
 zM 36 35,
 zf 37 36 (.mv 11),
 zf 38 36 (.prim (.bin .neq 29 false true) [37, kk 0]),
 zo 39 (.pick 36 kt 38),
 zM 40 39,
 zf 41 40 (.mv 10),
 zf 42 40 (.mv 0),
 zf 43 40 (.mv 6),
 zf 44 40 (.prim (.slice 9 false true) [42, 43]),
 zf 45 40 (.prim (.bin .neq 9 false false) [41, 44]),
 zo 46 (.pick 40 kt 45)]
def p14o14 := [zo 47 (.build (.agg #[ki, ki, kl, kl, kl, kl]) []),
 zs (.store 6 2 47),
 zM 3 (kk 0),
 zM 4 (kk 11)]
def p14o21 := [zo 48 (.load true 6 9),
 zM 49 6,
 zs (.store 6 2 48),
 zM 3 49,
 zM 4 (kk 0)]
def p14c29 := sq (rg p14o1) (sq (rg p14o2) (sq (sq (rg p14o3) (.cond 19 (sq (rg p14o4) (rt)) (.skip))) (sq (rg p14o10) (sq (rg p14o11) (sq (sq (rg p14o12) (sq (rg p14o13) (.cond 46 (sq (rg p14o14) (rt)) (.skip)))) (sq (rg p14o21) (rt)))))))
def pc14_r : List PRes := [PRes.cell 2 true 6 [(2, 11), (3, 2), (4, 11), (5, 22)], PRes.tmp 3 [], PRes.tmp 4 []]
def pc14 : PFunc := ⟨50, pc14_r, p14c29, false⟩
def pc14_a : Ann := {
 kr := fun _ => none
 ka := fun _ => 0
 kh := fun _ => none
 ow := ow0
 tc := tc1 }
theorem pc14_ok : compFn Try.prog pc14_a Try.f14 = some pc14 := by kernel_rfl
def p7o1 := [zM 0 kf]
def p7o2 := [zo 12 (.build (.agg #[ki, ki]) [(0, 1, kk 1), (1, 1, kk 0)]),
 zo 13 (.bslice 44 2 [12]),
 zo 14 (.build (.agg #[ki, ki]) [(0, 1, kk 16)]),
 zo 15 (.build (.agg #[ki, ki, ki, ki, ks, ki, ks, ki, ks, ki, ks]) [(0, 1, kk 5), (1, 2, .tmp 14)]),
 zo 16 (.bslice 55 11 [15]),
 zo 17 (.build (.agg #[ki, ki, kl, kl, kl, kl]) [(0, 1, kk 1), (1, 1, kk 3), (3, 1, .tmp 13), (4, 1, .tmp 16)]),
 zo 1 (.alloc 26 (.agg #[ki, ki, kl, kl, kl, kl]) []),
 zs (.store 6 1 17)]
def p7o3 := [zo 19 (.load true 6 1),
 zo 20 (.call true [[(2, 11), (3, 2), (4, 11), (5, 22)]] 9 [19]),
 zM 18 20,
 zX 21 18 0,
 zX 22 18 1,
 zM 2 21,
 zM 3 22]
def p7o4 := [zM 24 2,
 zo 25 (.prim (.bin .add 9 false true) [24, .const (.string { data := #[113] })]),
 zo 26 (.call true [[]] 14 [25]),
 zM 23 26,
 zX 27 23 0,
 zX 28 23 1,
 zX 29 23 2,
 zo 4 (.alloc 26 (.agg #[ki, ki, kl, kl, kl, kl]) []),
 zs (.store 6 4 27),
 zM 5 28,
 zM 6 29]
def p7o5 := [zo 31 (.build (.agg #[ki, ki, kl, kl, kl, kl]) [(1, 1, .const (.int .i64 (-1)))]),
 zo 32 (.call true [[(2, 11), (3, 2), (4, 11), (5, 22)]] 9 [31]),
 zM 30 32,
 zX 33 30 0,
 zX 34 30 1,
 zM 7 33,
 zM 8 34]
def p7o6 := [zo 36 (.call true [[]] 14 [.const (ks)]),
 zM 35 36,
 zX 37 35 0,
 zX 38 35 1,
 zX 39 35 2,
 zo 9 (.alloc 26 (.agg #[ki, ki, kl, kl, kl, kl]) []),
 zs (.store 6 9 37),
 zM 10 38,
 zM 11 39]
def p7o7 := [zM 40 3,
 zK 41 .eql 29 40 0,
 zM 42 41,
 zt 43 42 (.mv 6),
 zt 44 42 (.prim (.bin .eql 29 false true) [43, kk 0]),
 zo 45 (.pick 42 44 kf),
 zM 46 45,
 zt 47 46 (.mv 5),
 zt 48 46 (.mv 2),
 zt 49 46 (.prim (.len 9) [48]),
 zt 50 46 (.prim (.bin .eql 3 false false) [47, 49]),
 zo 51 (.pick 46 50 kf),
 zM 52 51,
 zt 53 52 (.load true 6 1),
 zt 54 52 (.load true 6 4),
 zt 55 52 (.call true [[(2, 11), (3, 2), (4, 11), (5, 22)], [(2, 11), (3, 2), (4, 11), (5, 22)]] 13 [53, 54]),
 zo 56 (.pick 52 55 kf),
 zM 57 56,
 zt 58 57 (.mv 8),
 zt 59 57 (.prim (.bin .eql 29 false true) [58, kk 11]),
 zo 60 (.pick 57 59 kf),
 zM 61 60,
 zt 62 61 (.mv 11),
 zt 63 61 (.prim (.bin .eql 29 false true) [62, kk 10]),
 zo 64 (.pick 61 63 kf),
 zM 65 64,
 zt 66 65 (.load true 6 1),
 zt 67 65 (.call true [[(2, 11), (3, 2), (4, 11), (5, 22)], []] 11 [66, kk 2]),
 zo 68 (.pick 65 67 kf),
 zM 69 68,
 zt 70 69 (.load true 6 1),
 zt 71 69 (.call true [[(2, 11), (3, 2), (4, 11), (5, 22)], []] 11 [70, kk 1]),
 zt 72 69 (.prim (.un .not) [71]),
 zo 73 (.pick 69 72 kf),
 zM 74 73,
 zt 75 74 (.load true 6 1),
 zt 76 74 (.load true 6 4),
 zt 77 74 (.call true [[(2, 11), (3, 2), (4, 11), (5, 22)], [(2, 11), (3, 2), (4, 11), (5, 22)]] 12 [75, 76]),
 zo 78 (.pick 74 77 kf),
 zM 0 78]
def pc7_r : List PRes := [PRes.tmp 0 []]
def pc7 : PFunc := ⟨79, pc7_r, (sq (rg p7o1) (sq (rg p7o2) (sq (rg p7o3) (sq (rg p7o4) (sq (rg p7o5) (sq (rg p7o6) (sq (rg p7o7) (rt)))))))), false⟩
def pc7_a : Ann := {
 kr := fun _ => none
 ka := fun _ => 0
 kh := fun _ => none
 ow := ow0
 tc := tc1 }
theorem pc7_ok : compFn Try.prog pc7_a Try.f7 = some pc7 := by kernel_rfl
def p16o1 := [zo 1 (.box 53 0 []),
 zM 2 kf]
def p16o2 := [zM 3 (kk 0)]
def p16o3 := [zM 4 3,
 zK 5 .lss 3 4 4]
def p16o8 := [zM 8 3,
 zG 9 6 1,
 zo 10 (.iaddrA 4 2 9 8),
 zG 11 1 10,
 zL 12 11,
 zo 13 (.prim (.len 9) [12]),
 zK 14 .gtr 3 13 40]
def p16o9 := [zM 2 kf]
def p16o16 := [zM 6 3,
 zK 7 .add 3 6 1,
 zM 3 7]
def p16o22 := [zG 15 14 1,
 zG 16 1 15,
 zL 17 16,
 zo 18 (.prim (.len 9) [17]),
 zK 19 .leq 3 18 40,
 zM 2 19]
def p16c26 := sq (rg p16o1) (sq (sq (rg p16o2) (.block 0 (.loop (sq (sq (.region (some ([1, 3], [1], [])) false p16o3) (.cond 5 (.skip) (.exit 0))) (sq (.block 1 (sq (rg p16o8) (.cond 14 (sq (rg p16o9) (rt)) (.skip)))) (rg p16o16)))))) (sq (rg p16o22) (rt)))
def pc16_r : List PRes := [PRes.tmp 2 []]
def pc16 : PFunc := ⟨20, pc16_r, p16c26, false⟩
def pc16_a : Ann := {
 kr := fun
  | 2 => some ([1, 3], [1], [])
  | _ => none
 ka := fun _ => 0
 kh := fun _ => none
 ow := ow0
 tc := tc1 }
theorem pc16_ok : compFn Try.prog pc16_a Try.f16 = some pc16 := by kernel_rfl
def p74o1 := [zo 1 (.box 48 0 []),
 zM 2 kf]
def p74o2 := [zG 3 1 1,
 zL 4 3,
 zo 5 (.prim (.len 9) [4]),
 zK 6 .leq 3 5 40,
 zM 2 6]
def p74c5 := sq (rg p74o1) (sq (rg p74o2) (rt))
def pc74_r : List PRes := [PRes.tmp 2 []]
def pc74 : PFunc := ⟨7, pc74_r, p74c5, false⟩
def pc74_a : Ann := {
 kr := fun _ => none
 ka := fun _ => 0
 kh := fun _ => none
 ow := ow0
 tc := tc1 }
theorem pc74_ok : compFn Try.prog pc74_a Try.f74 = some pc74 := by kernel_rfl
def p43o1 := [zo 1 (.box 55 0 []),
 zM 2 kf]
def p43o2 := [zM 3 (kk 0)]
def p43o3 := [zM 4 3,
 zK 5 .lss 3 4 4]
def p43o8 := [zM 8 3,
 zG 9 3 1,
 zo 10 (.iaddrA 4 2 9 8),
 zo 11 (.load true 2 10),
 zo 12 (.call true [[]] 74 [11]),
 zo 13 (.prim (.un .not) [12])]
def p43o9 := [zM 2 kf]
def p43o16 := [zM 6 3,
 zK 7 .add 3 6 1,
 zM 3 7]
def p43o22 := [zM 2 kt]
def p43c26 := sq (rg p43o1) (sq (sq (rg p43o2) (.block 0 (.loop (sq (sq (.region (some ([1, 3], [1], [])) false p43o3) (.cond 5 (.skip) (.exit 0))) (sq (.block 1 (sq (rg p43o8) (.cond 13 (sq (rg p43o9) (rt)) (.skip)))) (rg p43o16)))))) (sq (rg p43o22) (rt)))
def pc43_r : List PRes := [PRes.tmp 2 []]
def pc43 : PFunc := ⟨14, pc43_r, p43c26, false⟩
def pc43_a : Ann := {
 kr := fun
  | 2 => some ([1, 3], [1], [])
  | _ => none
 ka := fun _ => 0
 kh := fun _ => none
 ow := ow0
 tc := tc1 }
theorem pc43_ok : compFn Try.prog pc43_a Try.f43 = some pc43 := by kernel_rfl
def p17o1 := [zM 2 kf]
def p17o2 := [zM 3 (kk 0)]
def p17o3 := [zM 4 3,
 zM 5 0,
 zo 6 (.lenS 5),
 zB 7 .lss 3 4 6]
def p17o8 := [zM 10 0,
 zM 11 3,
 zo 12 (.iaddrS 11 10 11),
 zo 13 (.load true 11 12),
 zo 14 (.call true [[]] 43 [13]),
 zo 15 (.prim (.un .not) [14])]
def p17o9 := [zM 2 kf]
def p17o16 := [zM 8 3,
 zK 9 .add 3 8 1,
 zM 3 9]
def p17c18 := sq (sq (.region (some ([0, 3], [], [])) false p17o3) (.cond 7 (.skip) (.exit 0))) (sq (.block 1 (sq (rg p17o8) (.cond 15 (sq (rg p17o9) (rt)) (.skip)))) (rg p17o16))
def p17o22 := [zM 16 0,
 zo 17 (.lenS 16),
 zK 18 .leq 3 17 30,
 zM 2 18]
def p17c24 := sq (rg p17o22) (rt)
def p17c26 := sq (rg p17o1) (sq (sq (rg p17o2) (.block 0 (.loop p17c18))) p17c24)
def pc17_r : List PRes := [PRes.tmp 2 []]
def pc17 : PFunc := ⟨19, pc17_r, p17c26, false⟩
def pc17_a : Ann := {
 kr := fun
  | 2 => some ([0, 3], [], [])
  | _ => none
 ka := fun _ => 0
 kh := fun _ => none
 ow := ow0
 tc := tc1 }
theorem pc17_ok : compFn Try.prog pc17_a Try.f17 = some pc17 := by kernel_rfl
def p8o1 := [zo 1 (.box 26 0 []),
 zM 2 kf]
def p8o2 := [zM 3 (kk 0)]
def p8o3 := [zM 4 3,
 zG 5 5 1,
 zL 6 5,
 zo 7 (.lenS 6),
 zB 8 .lss 3 4 7]
def p8o8 := [zG 11 5 1,
 zL 12 11,
 zM 13 3,
 zo 14 (.iaddrS 22 12 13),
 zo 15 (.load true 22 14),
 zo 16 (.call true [[]] 16 [15]),
 zo 17 (.prim (.un .not) [16])]
def p8o9 := [zM 2 kf]
def p8o16 := [zM 9 3,
 zK 10 .add 3 9 1,
 zM 3 10]
def p8c18 := sq (sq (.region (some ([1, 3], [1], [])) false p8o3) (.cond 8 (.skip) (.exit 0))) (sq (.block 1 (sq (rg p8o8) (.cond 17 (sq (rg p8o9) (rt)) (.skip)))) (rg p8o16))
def p8o22 := [zG 18 2 1,
 zL 19 18,
 zo 20 (.call true [[(0, 11)]] 17 [19]),
 zM 21 20,
 zt 22 21 (.faddr 4 1),
 zt 23 21 (.load false 1 22),
 zt 24 21 (.call true [[(0, 11)]] 17 [23]),
 zo 25 (.pick 21 24 kf),
 zM 26 25,
 zt 27 26 (.faddr 3 1),
 zt 28 26 (.load false 1 27),
 zt 29 26 (.lenS 28),
 zt 30 26 (.prim (.bin .leq 3 false true) [29, kk 20]),
 zo 31 (.pick 26 30 kf),
 zM 32 31,
 zt 33 32 (.faddr 5 1),
 zt 34 32 (.load false 1 33),
 zt 35 32 (.lenS 34),
 zt 36 32 (.prim (.bin .leq 3 false true) [35, kk 24]),
 zo 37 (.pick 32 36 kf),
 zM 2 37]
def p8c24 := sq (rg p8o22) (rt)
def p8c26 := sq (rg p8o1) (sq (sq (rg p8o2) (.block 0 (.loop p8c18))) p8c24)
def pc8_r : List PRes := [PRes.tmp 2 []]
def pc8 : PFunc := ⟨38, pc8_r, p8c26, false⟩
def pc8_a : Ann := {
 kr := fun
  | 2 => some ([1, 3], [1], [])
  | _ => none
 ka := fun _ => 0
 kh := fun _ => none
 ow := ow0
 tc := tc1 }
theorem pc8_ok : compFn Try.prog pc8_a Try.f8 = some pc8 := by kernel_rfl
def p15o1 := [zo 2 (.mv (.const (.int .u64 0))),
 zM 3 (kk 0),
 zM 4 (kk 0)]
def p15o2 := [zo 5 (.mv (.const (.int .u64 0)))]
def p15o3 := [zM 6 (kk 0)]
def p15o4 := [zM 8 6,
 zM 9 0,
 zo 10 (.prim (.len 9) [9]),
 zB 11 .lss 3 8 10]
def p15o9 := [zM 14 0,
 zM 15 6,
 zo 16 (.prim (.index 9) [14, 15]),
 zM 7 16]
def p15o10 := [zM 17 6,
 zK 18 .eql 3 17 9,
 zM 19 18,
 zt 20 19 (.mv 7),
 zt 21 19 (.prim (.bin .gtr 5 false true) [20, .const (.int .u8 1)]),
 zo 22 (.pick 19 21 kf)]
def p15o11 := [zo 2 (.mv (.const (.int .u64 0))),
 zM 3 (kk 0),
 zM 4 (kk 11)]
def p15o17 := [zM 23 5,
 zM 24 7,
 zo 25 (.prim (.bin .and 5 false true) [24, .const (.int .u8 127)]),
 zo 26 (.prim (.conv 5 38) [25]),
 zM 27 6,
 zo 28 (.prim (.bin .mul 3 true false) [kk 7, 27]),
 zo 29 (.prim (.conv 3 57) [28]),
 zB 30 .shl 38 26 29,
 zB 31 .or 38 23 30,
 zM 5 31]
def p15o18 := [zM 32 7,
 zo 33 (.prim (.bin .lss 5 false true) [32, .const (.int .u8 128)])]
def p15o19 := [zM 34 7,
 zo 35 (.prim (.bin .eql 5 false true) [34, .const (.int .u8 0)]),
 zM 36 35,
 zt 37 36 (.mv 6),
 zt 38 36 (.prim (.bin .gtr 3 false true) [37, kk 0]),
 zo 39 (.pick 36 38 kf)]
def p15o20 := [zo 2 (.mv (.const (.int .u64 0))),
 zM 3 (kk 0),
 zM 4 (kk 11)]
def p15o26 := [zM 40 5,
 zM 41 6,
 zK 42 .add 3 41 1,
 zM 2 40,
 zM 3 42,
 zM 4 (kk 0)]
def p15c28 := sq (.region (some ([5, 6], [], [])) false p15o26) (rt)
def p15c33 := sq (.region (some ([0, 5, 6, 7], [], [])) false p15o17) (sq (rg p15o18) (.cond 33 (sq (sq (rg p15o19) (.cond 39 (sq (rg p15o20) (rt)) (.skip))) p15c28) (.skip)))
def p15o37 := [zM 12 6,
 zK 13 .add 3 12 1,
 zM 6 13]
def p15c37 := rg p15o37
def p15c39 := sq (sq (.region (some ([0, 5, 6], [], [])) false p15o4) (.cond 11 (.skip) (.exit 0))) (sq (.block 1 (sq (rg p15o9) (sq (sq (rg p15o10) (.cond 22 (sq (rg p15o11) (rt)) (.skip))) p15c33))) p15c37)
def p15o43 := [zo 2 (.mv (.const (.int .u64 0))),
 zM 3 (kk 0),
 zM 4 (kk 10)]
def p15c45 := sq (rg p15o43) (rt)
def p15c48 := sq (rg p15o1) (sq (rg p15o2) (sq (sq (rg p15o3) (.block 0 (.loop p15c39))) p15c45))
def pc15_r : List PRes := [PRes.tmp 2 [], PRes.tmp 3 [], PRes.tmp 4 []]
def pc15 : PFunc := ⟨43, pc15_r, p15c48, false⟩
def pc15_a : Ann := {
 kr := fun
  | 3 => some ([0, 5, 6], [], [])
  | 8 => some ([0, 5, 6, 7], [], [])
  | 12 => some ([5, 6], [], [])
  | _ => none
 ka := fun _ => 0
 kh := fun _ => none
 ow := ow0
 tc := tc1 }
theorem pc15_ok : compFn Try.prog pc15_a Try.f15 = some pc15 := by kernel_rfl
def p4o1 := [zo 6 (.box 26 0 []),
 zo 7 (.box 26 1 []),
 zM 12 kf]
def p4o2 := [zo 31 (.call true [] 7 []),
 zo 32 (.prim (.un .not) [31])]
def p4o3 := [zM 12 kf]
def p4o9 := [zo 33 (.load true 6 6),
 zo 34 (.call true [[(2, 11), (3, 2), (4, 11), (5, 22)]] 8 [33]),
 zo 35 (.prim (.un .not) [34]),
 zM 36 35,
 zf 37 36 (.load true 6 7),
 zf 38 36 (.call true [[(2, 11), (3, 2), (4, 11), (5, 22)]] 8 [37]),
 zf 39 36 (.prim (.un .not) [38]),
 zo 40 (.pick 36 kt 39),
 zM 41 40,
 zf 42 41 (.mv 2),
 zf 43 41 (.prim (.len 9) [42]),
 zf 44 41 (.prim (.bin .gtr 3 false true) [43, kk 50]),
 zo 45 (.pick 41 kt 44),
 zM 46 45,
 zf 47 46 (.load true 6 6),
 zf 48 46 (.call true [[(2, 11), (3, 2), (4, 11), (5, 22)], []] 11 [47, kk 4]),
 zf 49 46 (.prim (.un .not) [48]),
 zo 50 (.pick 46 kt 49)]
def p4o10 := [zM 12 kt]
def p4o16 := [zo 52 (.load true 6 6),
 zo 53 (.call true [[(2, 11), (3, 2), (4, 11), (5, 22)]] 9 [52]),
 zM 51 53,
 zX 54 51 0,
 zX 55 51 1,
 zM 13 54,
 zM 14 55]
def p4o17 := [zM 57 13,
 zM 58 2,
 zB 59 .add 9 57 58,
 zo 60 (.call true [[]] 14 [59]),
 zM 56 60,
 zX 61 56 0,
 zX 62 56 1,
 zX 63 56 2,
 zo 15 (.alloc 26 (.agg #[ki, ki, kl, kl, kl, kl]) []),
 zs (.store 6 15 61),
 zM 16 62,
 zM 17 63]
def p4o18 := [zo 65 (.load true 6 7),
 zo 66 (.call true [[(2, 11), (3, 2), (4, 11), (5, 22)]] 9 [65]),
 zM 64 66,
 zX 67 64 0,
 zX 68 64 1,
 zM 18 67,
 zM 19 68]
def p4o19 := [zM 69 14,
 zK 70 .neq 29 69 0,
 zM 71 70,
 zf 72 71 (.mv 17),
 zf 73 71 (.prim (.bin .neq 29 false true) [72, kk 0]),
 zo 74 (.pick 71 kt 73),
 zM 75 74,
 zf 76 75 (.mv 16),
 zf 77 75 (.mv 13),
 zf 78 75 (.prim (.len 9) [77]),
 zf 79 75 (.prim (.bin .neq 3 false false) [76, 78]),
 zo 80 (.pick 75 kt 79),
 zM 81 80,
 zf 82 81 (.load true 6 6),
 zf 83 81 (.load true 6 15),
 zf 84 81 (.call true [[(2, 11), (3, 2), (4, 11), (5, 22)], [(2, 11), (3, 2), (4, 11), (5, 22)]] 13 [82, 83]),
 zf 85 81 (.prim (.un .not) [84]),
 zo 86 (.pick 81 kt 85),
 zM 87 86,
 zf 88 87 (.mv 13),
 zf 89 87 (.prim (.len 9) [88]),
 zf 90 87 (.prim (.bin .lss 3 false true) [89, kk 5]),
 zo 91 (.pick 87 kt 90),
 zM 92 91,
 zf 93 92 (.mv 19),
 zf 94 92 (.prim (.bin .eql 29 false true) [93, kk 0]),
 zf 95 92 (.mv 94),
 zt 96 95 (.mv 13),
 zt 97 95 (.mv 18),
 zt 98 95 (.prim (.bin .eql 9 false false) [96, 97]),
 zt 99 95 (.load true 6 6),
 zt 100 95 (.load true 6 7),
 zt 101 95 (.call true [[(2, 11), (3, 2), (4, 11), (5, 22)], [(2, 11), (3, 2), (4, 11), (5, 22)]] 13 [99, 100]),
 zt 102 95 (.prim (.bin .neq 4 false false) [98, 101]),
 zf 103 92 (.pick 95 102 kf),
 zo 104 (.pick 92 kt 103)]
def p4o20 := [zM 12 kf]
def p4o26 := [zM 106 13,
 zM 107 5,
 zo 108 (.prim (.conv 5 3) [107]),
 zM 109 13,
 zo 110 (.prim (.len 9) [109]),
 zB 111 .rem 3 108 110,
 zo 112 (.prim (.slice 9 false true) [106, 111]),
 zo 113 (.call true [[]] 14 [112]),
 zM 105 113,
 zX 114 105 0,
 zX 115 105 1,
 zX 116 105 2,
 zo 20 (.alloc 26 (.agg #[ki, ki, kl, kl, kl, kl]) []),
 zs (.store 6 20 114),
 zM 21 115,
 zM 22 116]
def p4o27 := [zM 118 13,
 zo 119 (.call true [[]] 15 [118]),
 zM 117 119,
 zX 120 117 0,
 zX 121 117 1,
 zX 122 117 2,
 zM 23 120,
 zM 24 121,
 zM 25 122]
def p4o28 := [zM 123 13,
 zo 124 (.s2bo 5 123),
 zM 26 124]
def p4o29 := [zM 125 24,
 zM 126 3,
 zo 127 (.prim (.conv 35 3) [126]),
 zM 128 13,
 zo 129 (.prim (.len 9) [128]),
 zM 130 24,
 zB 131 .sub 3 129 130,
 zB 132 .rem 3 127 131,
 zB 133 .add 3 125 132,
 zM 27 133]
def p4o30 := [zM 134 26,
 zM 135 27,
 zM 136 26,
 zM 137 27,
 zo 138 (.iaddrS 1 136 137),
 zL 139 138,
 zM 140 4,
 zo 141 (.prim (.bin .rem 5 false true) [140, .const (.int .u8 8)]),
 zo 142 (.prim (.bin .shl 5 true false) [.const (.int .u8 1), 141]),
 zB 143 .xor 5 139 142,
 zo 144 (.iaddrS 1 134 135),
 zs (.store 1 144 143)]
def p4o31 := [zM 146 26,
 zo 147 (.b2s 146),
 zM 148 2,
 zB 149 .add 9 147 148,
 zo 150 (.call true [[]] 14 [149]),
 zM 145 150,
 zX 151 145 0,
 zX 152 145 1,
 zX 153 145 2,
 zo 28 (.alloc 26 (.agg #[ki, ki, kl, kl, kl, kl]) []),
 zs (.store 6 28 151),
 zM 29 152,
 zM 30 153]
def p4o32 := [zM 154 22,
 zK 155 .eql 29 154 10,
 zM 156 155,
 zt 157 156 (.mv 25),
 zt 158 156 (.prim (.bin .eql 3 false true) [157, kk 0]),
 zo 159 (.pick 156 158 kf),
 zM 160 159,
 zt 161 160 (.mv 30),
 zt 162 160 (.prim (.bin .eql 29 false true) [161, kk 12]),
 zo 163 (.pick 160 162 kf),
 zM 164 163,
 zt 165 164 (.mv 29),
 zt 166 164 (.prim (.bin .eql 3 false true) [165, kk 0]),
 zo 167 (.pick 164 166 kf),
 zM 12 167]
def p4c40 := sq (.region (some ([2, 3, 4, 5, 13], [6, 7, 15], [])) false p4o26) (sq (rg p4o27) (sq (rg p4o28) (sq (rg p4o29) (sq (rg p4o30) (sq (rg p4o31) (sq (rg p4o32) (rt)))))))
def p4c47 := sq (rg p4o1) (sq (sq (rg p4o2) (.cond 32 (sq (rg p4o3) (rt)) (.skip))) (sq (sq (rg p4o9) (.cond 50 (sq (rg p4o10) (rt)) (.skip))) (sq (rg p4o16) (sq (rg p4o17) (sq (rg p4o18) (sq (sq (rg p4o19) (.cond 104 (sq (rg p4o20) (rt)) (.skip))) p4c40))))))
def pc4_r : List PRes := [PRes.tmp 12 []]
def pc4 : PFunc := ⟨168, pc4_r, p4c47, false⟩
def pc4_a : Ann := {
 kr := fun
  | 10 => some ([2, 3, 4, 5, 13], [6, 7, 15], [])
  | _ => none
 ka := fun _ => 0
 kh := fun _ => none
 ow := ow0
 tc := tc1
 bo := fun d => match d with
  | some 124 => true
  | _ => false }
theorem pc4_ok : compFn Try.prog pc4_a Try.f4 = some pc4 := by kernel_rfl
end Go.Proofs.Ytpjejnefegdoeaa
