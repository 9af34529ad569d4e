/- No condition. -/
import Derived.Test.YthdabpmcojmhhaaClientResetsT
namespace Go.Proofs.Ythdabpmcojmhhaa
open Go Go.Rx
set_option maxRecDepth 100000
set_option linter.unusedVariables false
set_option linter.unusedSimpArgs false
set_option linter.unnecessarySimpa false
set_option linter.unnecessarySimpa false
def p17o1 := [zM 2 (kk 0)]
def p17o2 := [zM 3 0,
 zo 4 (.nilc 3),
 zG 5 3 4,
 zL 6 5,
 zM 2 6]
def p17c5 := sq (rg p17o1) (sq (rg p17o2) (rt))
def pc17_r : List PRes := [PRes.tmp 2 []]
def pc17 : PFunc := ⟨7, pc17_r, p17c5, false⟩
def pc17_a : Ann := {
 kr := fun _ => none
 ka := fun _ => 0
 kh := fun _ => none
 ow := ow0 }
theorem pc17_ok : compFn Try.prog pc17_a Try.f17 = some pc17 := by kernel_rfl
def p20o1 := [zo 2 (.mv (.const (kl)))]
def p20o2 := [zM 3 0,
 zo 4 (.nilc 3),
 zG 5 5 4,
 zL 6 5,
 zo 7 (.gcall false true [399990, 399991] [[(0, 11)]] 50 [6]),
 zM 2 7]
def p20c5 := sq (rg p20o1) (sq (rg p20o2) (rt))
def pc20_r : List PRes := [PRes.tmp 2 [(0, 11)]]
def pc20 : PFunc := ⟨8, pc20_r, p20c5, false⟩
def pc20_a : Ann := {
 kr := fun _ => none
 ka := fun _ => 0
 kh := fun _ => none
 gf := fun d f => match d, f with
  | some 7, 50 => some (false, true, [399990, 399991])
  | _, _ => none
 ow := ow0 }
theorem pc20_ok : compFn Try.prog pc20_a Try.f20 = some pc20 := by kernel_rfl
def p13o1 := [zo 6 (.mv (.const (.pointer none)))]
def p13o2 := [zM 7 0,
 zM 8 1,
 zM 9 2,
 zo 10 (.prim .max [9, kk 1]),
 zo 11 (.prim .min [10, kk 4]),
 zo 12 .mmake,
 zo 13 (.buildV [(5, 11)] (.agg #[ki, ki, ki, ki, ki, kl, kl, .map none]) [(0, 1, .tmp 7), (1, 1, .tmp 8), (2, 1, .tmp 11), (3, 1, .const (.int .i64 (-1))), (4, 1, .const (.int .i64 (-1))), (7, 1, .tmp 12)]),
 zo 14 (.box 99 13 [(5, 1000000054, 11), (6, 58, 25)]),
 zM 6 14]
def p13c5 := sq (rg p13o1) (sq (rg p13o2) (rt))
def pc13_r : List PRes := [PRes.tmp 6 []]
def pc13 : PFunc := ⟨15, pc13_r, p13c5, true⟩
def pc13_a : Ann := {
 kr := fun _ => none
 ka := fun _ => 0
 kh := fun _ => none
 ow := ow0
 ex := true }
theorem pc13_ok : compFn Try.prog pc13_a Try.f13 = some pc13 := by kernel_rfl
def p38o1 := [zM 2 0,
 zo 3 (.nilc 2),
 zG 4 2 3,
 zL 5 4,
 zK 6 .add 3 5 1,
 zo 7 (.nilc 2),
 zG 8 2 7,
 zs (.store 1 8 6)]
def p38o2 := [za 9 0 1000000 0 (.mv 0),
 za 10 0 1000000 0 (.mv 0),
 za 11 10 1000000 0 (.nilc 10),
 za 12 11 1000000 0 (.faddr 0 11),
 za 13 12 1000000 0 (.load false 1 12),
 za 14 0 1000000 0 (.mv 0),
 za 15 14 1000000 0 (.nilc 14),
 za 16 15 1000000 0 (.faddr 2 15),
 za 17 16 1000000 2 (.load false 1 16),
 za 18 0 1000000 0 (.mv 0),
 za 19 18 1000000 0 (.nilc 18),
 za 20 19 1000000 0 (.faddr 1 19),
 za 21 20 1000000 1 (.load false 1 20),
 ⟨some 22, .gcall false false [300000, 300001, 300002, 300003, 300004, 300005, 300006, 300007, 300008, 300009, 300010, 300011, 300012, 300013, 300014, 300015, 300016, 300017, 300018, 300019, 300020, 300021, 300022, 300023] [[], [], []] 13 [13, 17, 21], none, [(13, .imm), (17, .imm), (21, .imm)]⟩,
 za 23 9 1000000 0 (.nilc 9),
 za 24 23 1000000 0 (.faddr 3 23),
 zn (.store 1 24 22) [(24, .at_ 1000000 3), (22, .at_ 300000 0)]]
def p38o3 := [zM 25 0,
 zM 26 0,
 zM 27 0,
 zM 28 0,
 zM 29 0,
 zo 30 (.buildV [(30, 11), (31, 2), (32, 11), (33, 22), (39, 25)] (.agg #[ki, ki, ki, ki, ki, ki, ki, ki, ki, ki, ki, ks, ki, ks, ki, ks, ki, ks, ki, ks, ki, ki, ki, ki, ki, ki, ki, ki, ki, ki, kl, kl, kl, kl, ki, ki, ki, ki, ki, kl, ki, ki]) []),
 zo 31 (.nilc 25),
 zG 32 4 31,
 zs (.storeV [(30, 11), (31, 2), (32, 11), (33, 22), (39, 25)] 42 32 30),
 zo 33 (.nilc 26),
 zG 34 46 33,
 zs (.store 1 34 kf),
 zo 35 (.nilc 27),
 zG 36 47 35,
 zs (.store 1 36 (kk 0)),
 zo 37 (.nilc 28),
 zG 38 48 37,
 zs (.store 1 38 (kk 0)),
 zo 39 (.nilc 29),
 zG 40 49 39,
 zs (.store 1 40 (kk 0))]
def p38c5 := sq (rg p38o1) (sq (rh p38o2) (rg p38o3))
def pc38_r : List PRes := []
def pc38 : PFunc := ⟨41, pc38_r, p38c5, true⟩
def pc38_a : Ann := {
 kr := fun _ => none
 ka := fun _ => 0
 kh := hg [([0, 9, 10, 11, 12, 14, 15, 18, 19, 23], .at_ 1000000 0), ([13, 17, 21], .imm), ([16], .at_ 1000000 2), ([20], .at_ 1000000 1), ([22], .at_ 300000 0), ([24], .at_ 1000000 3)]
 gf := fun d f => match d, f with
  | some 22, 13 => some (false, false, [300000, 300001, 300002, 300003, 300004, 300005, 300006, 300007, 300008, 300009, 300010, 300011, 300012, 300013, 300014, 300015, 300016, 300017, 300018, 300019, 300020, 300021, 300022, 300023])
  | _, _ => none
 ow := ow0
 ex := true }
theorem pc38_ok : compFn Try.prog pc38_a Try.f38 = some pc38 := by kernel_rfl
def p27o1 := [zo 4 (.mv (.const (.pointer none)))]
def p27o2 := [zM 6 0,
 zo 7 (.prim .max [6, kk 0]),
 zo 8 (.prim .min [7, kk 3]),
 zM 9 1,
 zo 10 (.prim .max [9, kk 1]),
 zo 11 (.prim .min [10, kk 4]),
 zo 12 (.buildV [(34, 11), (35, 2), (36, 11), (37, 22), (43, 25)] (.agg #[ki, ki, ki, .pointer none, ki, ki, ki, ki, ki, ki, ki, ki, ki, ki, ki, ks, ki, ks, ki, ks, ki, ks, ki, ks, ki, ki, ki, ki, ki, ki, ki, ki, ki, ki, kl, kl, kl, kl, ki, ki, ki, ki, ki, kl, ki, ki, .bool false, ki, ki, ki]) [(0, 1, .tmp 8), (1, 1, .tmp 11)]),
 zo 13 (.box 109 12 [(34, 1000000054, 11), (35, 1000000156, 2), (36, 1000000054, 11), (37, 1000000063, 22), (43, 1000000058, 25)]),
 zM 5 13]
def p27o3 := [zM 14 5,
 zo 15 (.gcall false false [13, 300000, 300001, 300002, 300003, 300004, 300005, 300006, 300007, 300008, 300009, 300010, 300011, 300012, 300013, 300014, 300015, 300016, 300017, 300018, 300019, 300020, 300021, 300022, 300023] [[]] 38 [14])]
def p27o4 := [zM 16 5,
 zM 4 16]
def p27c9 := sq (rg p27o1) (sq (rg p27o2) (sq (rg p27o3) (sq (rg p27o4) (rt))))
def pc27_r : List PRes := [PRes.tmp 4 []]
def pc27 : PFunc := ⟨17, pc27_r, p27c9, true⟩
def pc27_a : Ann := {
 kr := fun _ => none
 ka := fun _ => 0
 kh := fun _ => none
 gf := fun d f => match d, f with
  | some 15, 38 => some (false, false, [13, 300000, 300001, 300002, 300003, 300004, 300005, 300006, 300007, 300008, 300009, 300010, 300011, 300012, 300013, 300014, 300015, 300016, 300017, 300018, 300019, 300020, 300021, 300022, 300023])
  | _, _ => none
 ow := ow0
 ex := true }
theorem pc27_ok : compFn Try.prog pc27_a Try.f27 = some pc27 := by kernel_rfl
def p62o1 := [zo 1 (.box 51 0 []),
 zM 2 kf]
def p62o2 := [zG 3 0 1,
 zL 4 3,
 zK 5 .eql 2 4 0,
 zM 6 5,
 zf 7 6 (.faddr 1 1),
 zf 8 6 (.load false 1 7),
 zf 9 6 (.prim (.bin .eql 9 false true) [8, .const (ks)]),
 zo 10 (.pick 6 kt 9),
 zM 11 10,
 zt 12 11 (.faddr 1 1),
 zt 13 11 (.load false 1 12),
 zt 14 11 (.prim (.len 9) [13]),
 zt 15 11 (.prim (.bin .leq 3 false true) [14, kk 12]),
 zo 16 (.pick 11 15 kf),
 zM 2 16]
def p62c5 := sq (rg p62o1) (sq (rg p62o2) (rt))
def pc62_r : List PRes := [PRes.tmp 2 []]
def pc62 : PFunc := ⟨17, pc62_r, p62c5, false⟩
def pc62_a : Ann := {
 kr := fun _ => none
 ka := fun _ => 0
 kh := fun _ => none
 ow := ow0 }
theorem pc62_ok : compFn Try.prog pc62_a Try.f62 = some pc62 := by kernel_rfl
def p63o1 := [zo 1 (.box 63 0 []),
 zo 2 (.alloc 63 (.agg #[ki, ki, ki, ki, ki, ki, ki, ks, ki, ks, ki, ks, ki, ks, ki, ks, ki, ki, ki, ki, ki, ki]) [])]
def p63o2 := [zG 4 0 1,
 zL 5 4,
 zG 6 16 1,
 zL 7 6,
 zG 8 17 1,
 zL 9 8,
 zo 10 (.build (.agg #[ki, ki, ki, ki, ki, ki, ki, ks, ki, ks, ki, ks, ki, ks, ki, ks, ki, ki, ki, ki, ki, ki]) [(0, 1, .tmp 5), (16, 1, .tmp 7), (17, 1, .tmp 9)]),
 zo 3 (.alloc 63 (.agg #[ki, ki, ki, ki, ki, ki, ki, ks, ki, ks, ki, ks, ki, ks, ki, ks, ki, ki, ki, ki, ki, ki]) []),
 zs (.store 22 3 10)]
def p63o3 := [zG 11 0 1,
 zL 12 11]
def p63o4 := [zK 14 .eql 3 12 1,
 zM 13 14]
def p63o5 := [za 15 1 1 0 (.faddr 4 1),
 za 16 15 1 4 (.load true 2 15),
 za 17 1 1 0 (.faddr 6 1),
 za 18 17 1 6 (.load true 8 17),
 za 19 3 3 0 (.faddr 4 3),
 zn (.store 2 19 16) [(19, .at_ 3 4), (16, .imm)],
 za 20 3 3 0 (.faddr 6 3),
 zn (.store 8 20 18) [(20, .at_ 3 6), (18, .imm)]]
def p63o6 := [zK 22 .eql 3 12 2,
 zM 21 22]
def p63o7 := [za 23 1 1 0 (.faddr 1 1),
 za 24 23 1 1 (.load false 1 23),
 za 25 1 1 0 (.faddr 4 1),
 za 26 25 1 4 (.load true 2 25),
 za 27 3 3 0 (.faddr 1 3),
 zn (.store 1 27 24) [(27, .at_ 3 1), (24, .imm)],
 za 28 3 3 0 (.faddr 4 3),
 zn (.store 2 28 26) [(28, .at_ 3 4), (26, .imm)]]
def p63o8 := [zK 30 .eql 3 12 3,
 zM 29 30]
def p63o9 := [za 31 1 1 0 (.faddr 1 1),
 za 32 31 1 1 (.load false 1 31),
 za 33 1 1 0 (.faddr 2 1),
 za 34 33 1 2 (.load false 1 33),
 za 35 1 1 0 (.faddr 14 1),
 za 36 35 1 14 (.load true 2 35),
 za 37 3 3 0 (.faddr 1 3),
 zn (.store 1 37 32) [(37, .at_ 3 1), (32, .imm)],
 za 38 3 3 0 (.faddr 2 3),
 zn (.store 1 38 34) [(38, .at_ 3 2), (34, .imm)],
 za 39 3 3 0 (.faddr 14 3),
 zn (.store 2 39 36) [(39, .at_ 3 14), (36, .imm)]]
def p63o10 := [zK 41 .eql 3 12 4,
 zM 40 41]
def p63o11 := [zG 42 1 1,
 zL 43 42,
 zG 44 1 3,
 zs (.store 1 44 43)]
def p63o12 := [zK 46 .eql 3 12 5,
 zM 45 46]
def p63o13 := [za 47 1 1 0 (.faddr 2 1),
 za 48 47 1 2 (.load false 1 47),
 za 49 1 1 0 (.faddr 3 1),
 za 50 49 1 3 (.load false 1 49),
 za 51 3 3 0 (.faddr 2 3),
 zn (.store 1 51 48) [(51, .at_ 3 2), (48, .imm)],
 za 52 3 3 0 (.faddr 3 3),
 zn (.store 1 52 50) [(52, .at_ 3 3), (50, .imm)]]
def p63o14 := [zK 54 .eql 3 12 6,
 zM 53 54]
def p63o16 := [zK 55 .eql 3 12 7,
 zM 53 55]
def p63o19 := [zG 56 18 1,
 zo 57 (.load true 4 56),
 zG 58 18 3,
 zs (.store 4 58 57)]
def p63o35 := [zo 59 (.load true 22 3),
 zs (.store 22 2 59)]
def p63c40 := sq (rg p63o1) (sq (rg p63o2) (sq (sq (rg p63o3) (.block 0 (sq (rg p63o4) (.cond 13 (rh p63o5) (sq (rg p63o6) (.cond 21 (rh p63o7) (sq (rg p63o8) (.cond 29 (rh p63o9) (sq (rg p63o10) (.cond 40 (rg p63o11) (sq (rg p63o12) (.cond 45 (rh p63o13) (sq (sq (rg p63o14) (.cond 53 (.skip) (rg p63o16))) (.cond 53 (rg p63o19) (.skip))))))))))))))) (sq (rg p63o35) (rt))))
def pc63_r : List PRes := [PRes.cell 2 true 22 []]
def pc63 : PFunc := ⟨60, pc63_r, p63c40, false⟩
def pc63_a : Ann := {
 kr := fun _ => none
 ka := fun _ => 0
 kh := hg [([1], .at_ 1 0), ([3], .at_ 3 0), ([15, 25], .at_ 1 4), ([16, 18, 24, 26, 32, 34, 36, 48, 50], .imm), ([17], .at_ 1 6), ([19, 28], .at_ 3 4), ([20], .at_ 3 6), ([23, 31], .at_ 1 1), ([27, 37], .at_ 3 1), ([33, 47], .at_ 1 2), ([35], .at_ 1 14), ([38, 51], .at_ 3 2), ([39], .at_ 3 14), ([49], .at_ 1 3), ([52], .at_ 3 3)]
 ow := ow0 }
theorem pc63_ok : compFn Try.prog pc63_a Try.f63 = some pc63 := by kernel_rfl
def p64o1 := [zM 2 kf]
def p64o3 := [zM 5 0,
 zo 6 (.lenS 5),
 zM 7 (kk 0)]
def p64o4 := [zB 8 .lss 3 7 6]
def p64o8 := [zo 9 (.iaddrS 1 5 7),
 zL 10 9,
 zM 4 10]
def p64o9 := [zM 11 4,
 zo 12 (.prim (.bin .geq 3 false true) [11, .const (.int .i64 (-1000))]),
 zM 13 12,
 zt 14 13 (.mv 4),
 zt 15 13 (.prim (.bin .leq 3 false true) [14, kk 1000]),
 zo 16 (.pick 13 15 kf)]
def p64o14 := [zM 2 kf]
def p64o20 := [zK 17 .add 3 7 1,
 zM 7 17]
def p64c23 := sq (.region (some ([5, 6, 7], [], [])) false p64o4) (sq (.cond 8 (.skip) (.exit 0)) (sq (.block 1 (sq (rg p64o8) (sq (sq (rg p64o9) (.cond 16 (.exit 1) (.skip))) (sq (rg p64o14) (rt))))) (rg p64o20)))
def p64o27 := [zM 2 kt]
def p64c29 := sq (rg p64o27) (rt)
def p64c33 := sq (rg p64o1) (.scope (sq (.label) (sq (sq (rg p64o3) (.block 0 (.loop p64c23))) p64c29)))
def pc64_r : List PRes := [PRes.tmp 2 []]
def pc64 : PFunc := ⟨18, pc64_r, p64c33, false⟩
def pc64_a : Ann := {
 kr := fun
  | 2 => some ([5, 6, 7], [], [])
  | _ => none
 ka := fun _ => 0
 kh := fun _ => none
 ow := ow0 }
theorem pc64_ok : compFn Try.prog pc64_a Try.f64 = some pc64 := by kernel_rfl
def p51o1 := [zo 1 (.box 63 0 []),
 zM 2 kf]
def p51o2 := [zG 8 6 1,
 zo 9 (.load true 8 8),
 zM 10 (kk 0)]
def p51o3 := [zK 11 .lss 3 10 4]
def p51o7 := [zo 12 (.idx true 2 4 9 10),
 zo 4 (.alloc 51 (.agg #[ki, ks]) []),
 zs (.store 2 4 12)]
def p51o8 := [zo 13 (.load true 2 4),
 zo 14 (.call true [[]] 62 [13]),
 zo 15 (.prim (.un .not) [14])]
def p51o9 := [zM 2 kf]
def p51o17 := [zK 16 .add 3 10 1,
 zM 10 16]
def p51o24 := [za 17 1 1 0 (.faddr 0 1),
 za 18 17 1 0 (.load false 1 17),
 zi 19 18 (.prim (.bin .geq 3 false true) [18, kk 1]),
 zi 20 19 (.mv 19),
 ⟨some 21, .faddr 0 1, some (20, true), [(1, .at_ 1 0)]⟩,
 ⟨some 22, .load false 1 21, some (20, true), [(21, .at_ 1 0)]⟩,
 ⟨some 23, .prim (.bin .leq 3 false true) [22, kk 8], some (20, true), [(22, .imm)]⟩,
 zj 24 20 23 (.pick 20 23 kf),
 zi 25 24 (.mv 24),
 ⟨some 26, .load true 22 1, some (25, true), [(1, .at_ 1 0)]⟩,
 ⟨some 27, .load true 22 1, some (25, true), [(1, .at_ 1 0)]⟩,
 ⟨some 28, .call false [[]] 63 [27], some (25, true), [(27, .imm)]⟩,
 ⟨some 29, .prim (.bin .eql 63 false false) [26, 28], some (25, true), [(26, .imm), (28, .imm)]⟩,
 zj 30 25 29 (.pick 25 29 kf),
 zi 5 30 (.mv 30)]
def p51o25 := [zG 31 16 1,
 zL 32 31,
 zK 33 .geq 3 32 0,
 zM 34 33,
 zt 35 34 (.faddr 16 1),
 zt 36 34 (.load false 1 35),
 zt 37 34 (.prim (.bin .lss 3 false true) [36, kk 4]),
 zo 38 (.pick 34 37 kf),
 zM 39 38,
 zt 40 39 (.faddr 17 1),
 zt 41 39 (.load false 1 40),
 zt 42 39 (.prim (.bin .geq 3 false true) [41, kk 0]),
 zo 43 (.pick 39 42 kf),
 zM 44 43,
 zt 45 44 (.faddr 17 1),
 zt 46 44 (.load false 1 45),
 zt 47 44 (.prim (.bin .leq 3 false true) [46, kk 1000000]),
 zo 48 (.pick 44 47 kf),
 zM 6 48]
def p51o26 := [zG 49 1 1,
 zL 50 49,
 zK 51 .geq 3 50 0,
 zM 52 51,
 zt 53 52 (.faddr 1 1),
 zt 54 52 (.load false 1 53),
 zt 55 52 (.prim (.bin .leq 3 false true) [54, kk 1000000]),
 zo 56 (.pick 52 55 kf),
 zM 57 56,
 zt 58 57 (.faddr 2 1),
 zt 59 57 (.load false 1 58),
 zt 60 57 (.prim (.bin .geq 3 false true) [59, .const (.int .i64 (-1))]),
 zo 61 (.pick 57 60 kf),
 zM 62 61,
 zt 63 62 (.faddr 2 1),
 zt 64 62 (.load false 1 63),
 zt 65 62 (.prim (.bin .leq 3 false true) [64, kk 100]),
 zo 66 (.pick 62 65 kf),
 zM 67 66,
 zt 68 67 (.faddr 3 1),
 zt 69 67 (.load false 1 68),
 zt 70 67 (.prim (.bin .geq 3 false true) [69, .const (.int .i64 (-1))]),
 zo 71 (.pick 67 70 kf),
 zM 72 71,
 zt 73 72 (.faddr 3 1),
 zt 74 72 (.load false 1 73),
 zt 75 72 (.prim (.bin .leq 3 false true) [74, kk 100]),
 zo 76 (.pick 72 75 kf),
 zM 77 76,
 zt 78 77 (.faddr 14 1),
 zt 79 77 (.load true 2 78),
 zt 80 77 (.call true [[]] 62 [79]),
 zo 81 (.pick 77 80 kf),
 zM 7 81]
def p51o27 := [zM 82 5,
 zM 83 82,
 zt 84 83 (.mv 6),
 zo 85 (.pick 83 84 kf),
 zM 86 85,
 zt 87 86 (.mv 7),
 zo 88 (.pick 86 87 kf),
 zM 89 88,
 zt 90 89 (.faddr 4 1),
 zt 91 89 (.faddr 0 90),
 zt 92 89 (.load false 1 91),
 zt 93 89 (.faddr 4 1),
 zt 94 89 (.faddr 1 93),
 zt 95 89 (.load false 1 94),
 zt 96 89 (.faddr 18 1),
 zt 97 89 (.faddr 0 96),
 zt 98 89 (.load false 1 97),
 zt 99 89 (.faddr 18 1),
 zt 100 89 (.faddr 1 99),
 zt 101 89 (.load false 1 100),
 zt 102 89 (.faddr 18 1),
 zt 103 89 (.faddr 2 102),
 zt 104 89 (.load false 1 103),
 zt 105 89 (.faddr 18 1),
 zt 106 89 (.faddr 3 105),
 zt 107 89 (.load false 1 106),
 zt 108 89 (.bslice 3 1 [92, 95, 98, 101, 104, 107]),
 zt 109 89 (.call true [[(0, 1)]] 64 [108]),
 zo 110 (.pick 89 109 kf),
 zM 2 110]
def p51c29 := sq (.region (some ([1, 5, 6, 7], [1], [])) false p51o27) (rt)
def p51c30 := sq (.region (some ([1, 5, 6], [1], [])) false p51o26) p51c29
def p51c31 := sq (.region (some ([1, 5], [1], [])) false p51o25) p51c30
def p51c34 := sq (rg p51o1) (sq (sq (rg p51o2) (.block 0 (.loop (sq (.region (some ([1, 9, 10], [1, 4], [])) false p51o3) (sq (.cond 11 (.skip) (.exit 0)) (sq (.block 1 (sq (rg p51o7) (sq (rg p51o8) (.cond 15 (sq (rg p51o9) (rt)) (.skip))))) (rg p51o17))))))) (sq (rh p51o24) p51c31))
def pc51_r : List PRes := [PRes.tmp 2 []]
def pc51 : PFunc := ⟨111, pc51_r, p51c34, false⟩
def pc51_a : Ann := {
 kr := fun
  | 2 => some ([1, 9, 10], [1, 4], [])
  | 8 => some ([1, 5], [1], [])
  | 9 => some ([1, 5, 6], [1], [])
  | 10 => some ([1, 5, 6, 7], [1], [])
  | _ => none
 ka := fun _ => 0
 kh := hg [([1, 17, 21], .at_ 1 0), ([18, 19, 20, 22, 23, 24, 25, 26, 27, 28, 29, 30], .imm)]
 ow := ow0 }
theorem pc51_ok : compFn Try.prog pc51_a Try.f51 = some pc51 := by kernel_rfl
def p28o1 := [zo 5 (.box 63 2 []),
 zo 6 (.alloc 73 (.agg #[ki, ki, ki, ki, ki, ki, ki, ki, ki, ki, ki, ks, ki, ks, ki, ks, ki, ks, ki, ks, ki, ki, ki, ki, ki, ki, ki, ki, ki, ki, kl, kl, kl, kl, ki, ki, ki, ki, ki, kl, ki, ki]) [(30, 1000000054, 11), (31, 1000000156, 2), (32, 1000000054, 11), (33, 1000000063, 22), (39, 1000000058, 25)]),
 zM 7 (kk 0)]
def p28o2 := [za 8 0 1000000 0 (.mv 0),
 za 9 8 1000000 0 (.nilc 8),
 za 10 9 1000000 0 (.faddr 0 9),
 za 11 10 1000000 0 (.load false 1 10),
 za 12 0 1000000 0 (.mv 0),
 za 13 12 1000000 0 (.nilc 12),
 za 14 13 1000000 0 (.faddr 2 13),
 za 15 14 1000000 2 (.load false 1 14),
 za 16 5 5 0 (.faddr 16 5),
 zn (.store 1 16 11) [(16, .at_ 5 16), (11, .imm)],
 za 17 5 5 0 (.faddr 17 5),
 zn (.store 1 17 15) [(17, .at_ 5 17), (15, .imm)]]
def p28o3 := [zM 19 0,
 zo 20 (.nilc 19),
 zG 21 46 20,
 zL 22 21,
 zM 18 22]
def p28o4 := [zo 23 (.buildV [(30, 11), (31, 2), (32, 11), (33, 22), (39, 25)] (.agg #[ki, ki, ki, ki, ki, ki, ki, ki, ki, ki, ki, ks, ki, ks, ki, ks, ki, ks, ki, ks, ki, ki, ki, ki, ki, ki, ki, ki, ki, ki, kl, kl, kl, kl, ki, ki, ki, ki, ki, kl, ki, ki]) []),
 zs (.storeV [(30, 11), (31, 2), (32, 11), (33, 22), (39, 25)] 42 6 23),
 zM 7 (kk 28)]
def p28o7 := [zM 25 1,
 zK 26 .lss 3 25 0,
 zM 27 26,
 zf 28 27 (.mv 1),
 zf 29 27 (.mv 0),
 zf 30 27 (.nilc 29),
 zf 31 27 (.faddr 1 30),
 zf 32 27 (.load false 1 31),
 zf 33 27 (.prim (.bin .geq 3 false false) [28, 32]),
 zo 34 (.pick 27 kt 33),
 zM 24 34]
def p28o8 := [zo 35 (.buildV [(30, 11), (31, 2), (32, 11), (33, 22), (39, 25)] (.agg #[ki, ki, ki, ki, ki, ki, ki, ki, ki, ki, ki, ks, ki, ks, ki, ks, ki, ks, ki, ks, ki, ki, ki, ki, ki, ki, ki, ki, ki, ki, kl, kl, kl, kl, ki, ki, ki, ki, ki, kl, ki, ki]) []),
 zs (.storeV [(30, 11), (31, 2), (32, 11), (33, 22), (39, 25)] 42 6 35),
 zM 7 (kk 19)]
def p28o11 := [zo 37 (.load true 22 5),
 zo 38 (.call true [[]] 51 [37]),
 zo 39 (.prim (.un .not) [38]),
 zM 36 39]
def p28o12 := [zo 40 (.buildV [(30, 11), (31, 2), (32, 11), (33, 22), (39, 25)] (.agg #[ki, ki, ki, ki, ki, ki, ki, ki, ki, ki, ki, ks, ki, ks, ki, ks, ki, ks, ki, ks, ki, ki, ki, ki, ki, ki, ki, ki, ki, ki, kl, kl, kl, kl, ki, ki, ki, ki, ki, kl, ki, ki]) []),
 zs (.storeV [(30, 11), (31, 2), (32, 11), (33, 22), (39, 25)] 42 6 40),
 zM 7 (kk 11)]
def p28o23 := [zM 41 0,
 zo 42 (.nilc 41),
 zG 43 47 42,
 zL 44 43,
 zK 45 .add 3 44 1,
 zo 46 (.nilc 41),
 zG 47 47 46,
 zs (.store 1 47 45)]
def p28o24 := [zM 48 0,
 zo 49 (.nilc 48),
 zG 50 46 49,
 zs (.store 1 50 kt)]
def p28o25 := [za 51 0 1000000 0 (.mv 0),
 za 52 0 1000000 0 (.mv 0),
 za 53 52 1000000 0 (.nilc 52),
 za 54 53 1000000 0 (.faddr 0 53),
 za 55 54 1000000 0 (.load false 1 54),
 zi 56 55 (.prim (.bin .add 3 true false) [kk 100, 55]),
 zi 57 1 (.mv 1),
 za 58 0 1000000 0 (.mv 0),
 za 59 58 1000000 0 (.nilc 58),
 za 60 59 1000000 0 (.faddr 47 59),
 za 61 60 1000000 47 (.load false 1 60),
 za 62 5 5 0 (.load true 22 5),
 za 63 0 1000000 0 (.mv 0),
 za 64 63 1000000 0 (.nilc 63),
 za 65 64 1000000 0 (.faddr 2 64),
 za 66 65 1000000 2 (.load false 1 65),
 ⟨some 67, .buildV [(30, 11), (31, 2), (32, 11), (33, 22), (39, 25)] (.agg #[ki, ki, ki, ki, ki, ki, ki, ki, ki, ki, ki, ks, ki, ks, ki, ks, ki, ks, ki, ks, ki, ki, ki, ki, ki, ki, ki, ki, ki, ki, kl, kl, kl, kl, ki, ki, ki, ki, ki, kl, ki, ki]) [(0, 1, .tmp 56), (1, 1, .tmp 57), (2, 1, kk 1), (3, 1, .tmp 61), (4, 22, .tmp 62), (40, 1, .tmp 66)], none, [(56, .imm), (57, .imm), (61, .imm), (62, .imm), (66, .imm)]⟩,
 za 68 51 1000000 0 (.nilc 51),
 za 69 68 1000000 0 (.faddr 4 68),
 zn (.storeV [(30, 11), (31, 2), (32, 11), (33, 22), (39, 25)] 42 69 67) [(69, .at_ 1000000 4), (67, .imm)]]
def p28o26 := [zM 70 0,
 zo 71 (.nilc 70),
 zG 72 4 71,
 zo 73 (.load true 42 72),
 zs (.storeV [(30, 11), (31, 2), (32, 11), (33, 22), (39, 25)] 42 6 73),
 zM 7 (kk 0)]
def p28c34 := sq (rg p28o1) (sq (rh p28o2) (sq (.block 0 (sq (rg p28o3) (.cond 18 (sq (rg p28o4) (rt)) (sq (rg p28o7) (.cond 24 (sq (rg p28o8) (rt)) (sq (rg p28o11) (.cond 36 (sq (rg p28o12) (rt)) (.skip)))))))) (sq (rg p28o23) (sq (rg p28o24) (sq (rh p28o25) (sq (rg p28o26) (rt)))))))
def pc28_r : List PRes := [PRes.cell 6 true 42 [(30, 11), (31, 2), (32, 11), (33, 22), (39, 25)], PRes.tmp 7 []]
def pc28 : PFunc := ⟨74, pc28_r, p28c34, false⟩
def pc28_a : Ann := {
 kr := fun _ => none
 ka := fun _ => 0
 kh := hg [([0, 8, 9, 10, 12, 13, 51, 52, 53, 54, 58, 59, 63, 64, 68], .at_ 1000000 0), ([1, 11, 15, 55, 56, 57, 61, 62, 66, 67], .imm), ([5], .at_ 5 0), ([14, 65], .at_ 1000000 2), ([16], .at_ 5 16), ([17], .at_ 5 17), ([60], .at_ 1000000 47), ([69], .at_ 1000000 4)]
 ow := ow0 }
theorem pc28_ok : compFn Try.prog pc28_a Try.f28 = some pc28 := by kernel_rfl
def p29o1 := [zM 2 kf]
def p29o2 := [zM 3 0,
 zo 4 (.nilc 3),
 zG 5 46 4,
 zL 6 5,
 zM 2 6]
def p29c5 := sq (rg p29o1) (sq (rg p29o2) (rt))
def pc29_r : List PRes := [PRes.tmp 2 []]
def pc29 : PFunc := ⟨7, pc29_r, p29c5, false⟩
def pc29_a : Ann := {
 kr := fun _ => none
 ka := fun _ => 0
 kh := fun _ => none
 ow := ow0 }
theorem pc29_ok : compFn Try.prog pc29_a Try.f29 = some pc29 := by kernel_rfl
def p30o1 := [zo 2 (.mv (.const (kl)))]
def p30o2 := [zo 3 (.mv (.const (kl)))]
def p30o3 := [zM 5 0,
 zo 6 (.nilc 5),
 zG 7 46 6,
 zL 8 7]
def p30o4 := [zM 9 3,
 zM 10 0,
 zo 11 (.nilc 10),
 zG 12 4 11,
 zo 13 (.load true 42 12),
 zo 14 (.bslice 73 42 [13]),
 zo 15 (.app 100003 73 42 456 9 14),
 zM 3 15]
def p30o9 := [zM 16 0,
 zo 17 (.nilc 16),
 zG 18 1 17,
 zL 19 18,
 zM 20 (kk 0)]
def p30o10 := [zB 21 .lss 3 20 19]
def p30o14 := [zM 22 20,
 zM 4 22]
def p30o15 := [zM 23 0,
 zo 24 (.nilc 23),
 zG 25 3 24,
 zL 26 25,
 zo 27 (.gcall false false [1000001, 1000002, 1000003] [[]] 17 [26]),
 zK 28 .lss 3 27 0]
def p30o20 : List POper := [⟨some 29, .mv 3, none, [(3, .obj 100003)]⟩,
 za 30 0 1000000 0 (.mv 0),
 za 31 30 1000000 0 (.nilc 30),
 za 32 31 1000000 0 (.faddr 0 31),
 za 33 32 1000000 0 (.load false 1 32),
 zi 34 33 (.prim (.bin .add 3 true false) [kk 100, 33]),
 zi 35 4 (.mv 4),
 za 36 0 1000000 0 (.mv 0),
 za 37 36 1000000 0 (.nilc 36),
 za 38 37 1000000 0 (.faddr 2 37),
 za 39 38 1000000 2 (.load false 1 38),
 za 40 0 1000000 0 (.mv 0),
 za 41 40 1000000 0 (.nilc 40),
 za 42 41 1000000 0 (.faddr 3 41),
 za 43 42 1000000 3 (.load false 1 42),
 za 44 43 1000001 0 (.gcall false false [1000001, 1000002, 1000003] [[]] 17 [43]),
 ⟨some 45, .buildV [(30, 11), (31, 2), (32, 11), (33, 22), (39, 25)] (.agg #[ki, ki, ki, ki, ki, ki, ki, ki, ki, ki, ki, ks, ki, ks, ki, ks, ki, ks, ki, ks, ki, ki, ki, ki, ki, ki, ki, ki, ki, ki, kl, kl, kl, kl, ki, ki, ki, ki, ki, kl, ki, ki]) [(0, 1, .tmp 34), (1, 1, .tmp 35), (2, 1, kk 5), (40, 1, .tmp 39), (41, 1, .tmp 44)], none, [(34, .imm), (35, .imm), (39, .imm), (44, .imm)]⟩,
 zi 46 45 (.bslice 73 42 [45]),
 ⟨some 47, .app 100003 73 42 456 29 46, none, [(29, .obj 100003), (46, .imm)]⟩,
 ⟨some 3, .mv 47, none, [(47, .obj 100003)]⟩]
def p30o24 := [zK 48 .add 3 20 1,
 zM 20 48]
def p30c27 := sq (.region (some ([0, 3, 19, 20], [100003, 1000000, 1000001, 1000002, 1000003], [(false, 3, 0, 100003, 73, 42)])) false p30o10) (sq (.cond 21 (.skip) (.exit 0)) (sq (.block 1 (sq (rg p30o14) (sq (sq (rg p30o15) (.cond 28 (.exit 0) (.skip))) (rh p30o20)))) (rg p30o24)))
def p30o31 := [zM 49 3,
 zM 2 49]
def p30c33 := sq (rg p30o31) (rt)
def p30c39 := sq (rg p30o1) (.scope (sq (rg p30o2) (sq (sq (rg p30o3) (.cond 8 (rg p30o4) (.skip))) (sq (.label) (sq (sq (rg p30o9) (.block 0 (.loop p30c27))) p30c33)))))
def pc30_r : List PRes := [PRes.tmp 2 [(0, 42)]]
def pc30 : PFunc := ⟨50, pc30_r, p30c39, false⟩
def pc30_a : Ann := {
 kr := fun
  | 5 => some ([0, 3, 19, 20], [100003, 1000000, 1000001, 1000002, 1000003], [(false, 3, 0, 100003, 73, 42)])
  | _ => none
 ka := fun
  | 15 => 100003
  | 47 => 100003
  | _ => 0
 kh := hg [([0, 30, 31, 32, 36, 37, 40, 41], .at_ 1000000 0), ([3, 29, 47], .obj 100003), ([4, 33, 34, 35, 39, 44, 45, 46], .imm), ([38], .at_ 1000000 2), ([42], .at_ 1000000 3), ([43], .at_ 1000001 0)]
 gf := fun d f => match d, f with
  | some 27, 17 => some (false, false, [1000001, 1000002, 1000003])
  | some 44, 17 => some (false, false, [1000001, 1000002, 1000003])
  | _, _ => none
 ow := ow0 }
theorem pc30_ok : compFn Try.prog pc30_a Try.f30 = some pc30 := by kernel_rfl
def p77o1 := [zo 1 (.box 49 0 []),
 zM 2 kf]
def p77o2 := [zG 3 0 1,
 zL 4 3,
 zK 5 .geq 3 4 0,
 zM 6 5,
 zt 7 6 (.faddr 0 1),
 zt 8 6 (.load false 1 7),
 zt 9 6 (.prim (.bin .lss 3 false true) [8, kk 64]),
 zo 10 (.pick 6 9 kf),
 zM 11 10,
 zt 12 11 (.faddr 1 1),
 zt 13 11 (.load false 1 12),
 zt 14 11 (.prim (.bin .geq 3 false true) [13, kk 0]),
 zo 15 (.pick 11 14 kf),
 zM 16 15,
 zt 17 16 (.faddr 1 1),
 zt 18 16 (.load false 1 17),
 zt 19 16 (.prim (.bin .lss 3 false true) [18, kk 64]),
 zo 20 (.pick 16 19 kf),
 zM 2 20]
def p77c5 := sq (rg p77o1) (sq (rg p77o2) (rt))
def pc77_r : List PRes := [PRes.tmp 2 []]
def pc77 : PFunc := ⟨21, pc77_r, p77c5, false⟩
def pc77_a : Ann := {
 kr := fun _ => none
 ka := fun _ => 0
 kh := fun _ => none
 ow := ow0 }
theorem pc77_ok : compFn Try.prog pc77_a Try.f77 = some pc77 := by kernel_rfl
def p79o1 := [zo 1 (.box 51 0 []),
 zM 2 kf]
def p79o2 := [zo 3 (.load true 2 1),
 zo 4 (.call true [[]] 62 [3]),
 zo 5 (.prim (.un .not) [4]),
 zM 2 5]
def p79c5 := sq (rg p79o1) (sq (rg p79o2) (rt))
def pc79_r : List PRes := [PRes.tmp 2 []]
def pc79 : PFunc := ⟨6, pc79_r, p79c5, false⟩
def pc79_a : Ann := {
 kr := fun _ => none
 ka := fun _ => 0
 kh := fun _ => none
 ow := ow0 }
theorem pc79_ok : compFn Try.prog pc79_a Try.f79 = some pc79 := by kernel_rfl
def p91o1 := [zM 4 (kk 0)]
def p91o2 := [zM 6 0,
 zo 7 (.lenS 6),
 zM 8 (kk 0)]
def p91o3 := [zB 9 .lss 3 8 7]
def p91o7 := [zM 10 8,
 zM 5 10]
def p91o8 := [zM 11 1,
 zM 12 0,
 zM 13 5,
 zo 14 (.iaddrS 2 12 13),
 zo 15 (.load true 2 14),
 zo 16 (.callv true [[]] 11 [15])]
def p91o9 := [zM 17 5,
 zM 4 17]
def p91o17 := [zK 18 .add 3 8 1,
 zM 8 18]
def p91c20 := sq (.region (some ([0, 1, 7, 8], [], [])) false p91o3) (sq (.cond 9 (.skip) (.exit 0)) (sq (.block 1 (sq (rg p91o7) (sq (rg p91o8) (.cond 16 (sq (rg p91o9) (rt)) (.skip))))) (rg p91o17)))
def p91o24 := [zM 4 (kk (-1))]
def p91c26 := sq (rg p91o24) (rt)
def p91c28 := sq (rg p91o1) (sq (sq (rg p91o2) (.block 0 (.loop p91c20))) p91c26)
def pc91_r : List PRes := [PRes.tmp 4 []]
def pc91 : PFunc := ⟨19, pc91_r, p91c28, false⟩
def pc91_a : Ann := {
 kr := fun
  | 2 => some ([0, 1, 7, 8], [], [])
  | _ => none
 ka := fun _ => 0
 kh := fun _ => none
 ow := ow0 }
theorem pc91_ok : compFn Try.prog pc91_a Try.f91 = some pc91 := by kernel_rfl
def p78o1 := [zM 4 kf]
def p78o2 := [zM 5 0,
 zM 6 1,
 zo 7 (.gcall false false [] [[(0, 2)], []] 91 [5, 6]),
 zK 8 .geq 3 7 0,
 zM 4 8]
def p78c5 := sq (rg p78o1) (sq (rg p78o2) (rt))
def pc78_r : List PRes := [PRes.tmp 4 []]
def pc78 : PFunc := ⟨9, pc78_r, p78c5, false⟩
def pc78_a : Ann := {
 kr := fun _ => none
 ka := fun _ => 0
 kh := fun _ => none
 gf := fun d f => match d, f with
  | some 7, 91 => some (false, false, [])
  | _, _ => none
 ow := ow0 }
theorem pc78_ok : compFn Try.prog pc78_a Try.f78 = some pc78 := by kernel_rfl
def p72o1 := [zo 1 (.box 54 0 []),
 zM 2 kf]
def p72o2 := [zG 3 0 1,
 zL 4 3,
 zK 5 .geq 3 4 0,
 zM 6 5,
 zt 7 6 (.faddr 0 1),
 zt 8 6 (.load false 1 7),
 zt 9 6 (.prim (.bin .leq 3 false true) [8, kk 1000000]),
 zo 10 (.pick 6 9 kf),
 zM 11 10,
 zt 12 11 (.faddr 1 1),
 zt 13 11 (.load true 2 12),
 zt 14 11 (.call true [[]] 77 [13]),
 zo 15 (.pick 11 14 kf),
 zM 16 15,
 zt 17 16 (.faddr 3 1),
 zt 18 16 (.slcA 4 2 17 none none),
 zt 19 16 (.gcall false false [1] [[(0, 2)], []] 78 [18, .func 79]),
 zt 20 16 (.prim (.un .not) [19]),
 zo 21 (.pick 16 20 kf),
 zM 2 21]
def p72c5 := sq (rg p72o1) (sq (rg p72o2) (rt))
def pc72_r : List PRes := [PRes.tmp 2 []]
def pc72 : PFunc := ⟨22, pc72_r, p72c5, false⟩
def pc72_a : Ann := {
 kr := fun _ => none
 ka := fun _ => 0
 kh := fun _ => none
 gf := fun d f => match d, f with
  | some 19, 78 => some (false, false, [1])
  | _, _ => none
 ow := ow0 }
theorem pc72_ok : compFn Try.prog pc72_a Try.f72 = some pc72 := by kernel_rfl
def p80o1 := [zM 4 kf]
def p80o2 := [zM 5 0,
 zM 6 1,
 zK 7 .add 3 6 1,
 zB 8 .shr 5 5 7,
 zo 9 (.prim (.bin .and 5 false true) [8, .const (.int .u8 1)]),
 zo 10 (.prim (.bin .eql 5 false true) [9, .const (.int .u8 1)]),
 zM 4 10]
def p80c5 := sq (rg p80o1) (sq (rg p80o2) (rt))
def pc80_r : List PRes := [PRes.tmp 4 []]
def pc80 : PFunc := ⟨11, pc80_r, p80c5, false⟩
def pc80_a : Ann := {
 kr := fun _ => none
 ka := fun _ => 0
 kh := fun _ => none
 ow := ow0 }
theorem pc80_ok : compFn Try.prog pc80_a Try.f80 = some pc80 := by kernel_rfl
def p73o1 := [zo 1 (.box 56 0 []),
 zM 2 kf]
def p73o2 := [zG 5 0 1,
 zL 6 5,
 zK 7 .lss 3 6 0,
 zM 8 7,
 zf 9 8 (.faddr 0 1),
 zf 10 8 (.load false 1 9),
 zf 11 8 (.prim (.bin .gtr 3 false true) [10, kk 1000000]),
 zo 12 (.pick 8 kt 11),
 zM 13 12,
 zf 14 13 (.faddr 1 1),
 zf 15 13 (.load false 1 14),
 zf 16 13 (.prim (.bin .eql 5 false true) [15, .const (.int .u8 0)]),
 zo 17 (.pick 13 kt 16),
 zM 18 17,
 zf 19 18 (.faddr 1 1),
 zf 20 18 (.load false 1 19),
 zf 21 18 (.prim (.bin .gtr 5 false true) [20, .const (.int .u8 31)]),
 zo 22 (.pick 18 kt 21)]
def p73o3 := [zM 2 kf]
def p73o9 := [zG 23 1 1,
 zL 24 23,
 zo 25 (.prim (.bin .and 5 false true) [24, .const (.int .u8 1)]),
 zo 26 (.prim (.bin .eql 5 false true) [25, .const (.int .u8 0)]),
 zM 27 26,
 zt 28 27 (.faddr 2 1),
 zt 29 27 (.load true 2 28),
 zt 30 27 (.build (.agg #[ki, ki]) []),
 zt 31 27 (.prim (.bin .neq 49 false false) [29, 30]),
 zo 32 (.pick 27 31 kf),
 zM 33 32,
 zf 34 33 (.faddr 2 1),
 zf 35 33 (.load true 2 34),
 zf 36 33 (.call true [[]] 77 [35]),
 zf 37 33 (.prim (.un .not) [36]),
 zo 38 (.pick 33 kt 37)]
def p73o10 := [zM 2 kf]
def p73o16 := [zG 39 4 1,
 zo 40 (.load true 8 39),
 zM 41 (kk 0)]
def p73o17 := [zK 42 .lss 3 41 4]
def p73o21 := [zM 43 41,
 zo 44 (.idx true 2 4 40 41),
 zo 4 (.alloc 51 (.agg #[ki, ks]) []),
 zM 3 43,
 zs (.store 2 4 44)]
def p73o22 := [zo 45 (.load true 2 4),
 zo 46 (.call true [[]] 62 [45]),
 zo 47 (.prim (.un .not) [46]),
 zM 48 47,
 zf 49 48 (.faddr 1 1),
 zf 50 48 (.load false 1 49),
 zf 51 48 (.mv 3),
 zf 52 48 (.call true [[], []] 80 [50, 51]),
 zf 53 48 (.prim (.un .not) [52]),
 zf 54 48 (.mv 53),
 zt 55 54 (.load true 2 4),
 zt 56 54 (.build (.agg #[ki, ks]) []),
 zt 57 54 (.prim (.bin .neq 51 false false) [55, 56]),
 zf 58 48 (.pick 54 57 kf),
 zo 59 (.pick 48 kt 58)]
def p73o23 := [zM 2 kf]
def p73o31 := [zK 60 .add 3 41 1,
 zM 41 60]
def p73c34 := sq (.region (some ([1, 40, 41], [1, 4], [])) false p73o17) (sq (.cond 42 (.skip) (.exit 0)) (sq (.block 1 (sq (rg p73o21) (sq (rg p73o22) (.cond 59 (sq (rg p73o23) (rt)) (.skip))))) (rg p73o31)))
def p73o38 := [zM 2 kt]
def p73c40 := sq (rg p73o38) (rt)
def p73c41 := sq (sq (.region (some ([1], [1], [])) false p73o16) (.block 0 (.loop p73c34))) p73c40
def p73c44 := sq (rg p73o1) (sq (sq (rg p73o2) (.cond 22 (sq (rg p73o3) (rt)) (.skip))) (sq (sq (rg p73o9) (.cond 38 (sq (rg p73o10) (rt)) (.skip))) p73c41))
def pc73_r : List PRes := [PRes.tmp 2 []]
def pc73 : PFunc := ⟨61, pc73_r, p73c44, false⟩
def pc73_a : Ann := {
 kr := fun
  | 5 => some ([1], [1], [])
  | 6 => some ([1, 40, 41], [1, 4], [])
  | _ => none
 ka := fun _ => 0
 kh := fun _ => none
 ow := ow0 }
theorem pc73_ok : compFn Try.prog pc73_a Try.f73 = some pc73 := by kernel_rfl
def p57o1 := [zo 1 (.box 58 0 []),
 zM 2 kf]
def p57o2 := [za 5 1 1 0 (.faddr 2 1),
 za 6 5 1 2 (.load true 11 5),
 zo 7 (.build (.agg #[ki, ki, ki, ki, ks, ki, ks, ki, ks, ki, ks]) []),
 zj 8 6 7 (.prim (.bin .eql 54 false false) [6, 7]),
 za 9 1 1 0 (.faddr 13 1),
 za 10 9 1 13 (.load true 12 9),
 zo 11 (.build (.agg #[ki, .int .u8 0, ki, ki, ki, ks, ki, ks, ki, ks, ki, ks]) []),
 zj 12 10 11 (.prim (.bin .eql 56 false false) [10, 11]),
 zi 3 8 (.mv 8),
 zi 4 12 (.mv 12)]
def p57o3 := [zG 13 0 1,
 zL 14 13]
def p57o4 := [zK 16 .eql 3 14 1,
 zM 15 16]
def p57o5 := [zG 17 2 1,
 zo 18 (.load true 11 17),
 zo 19 (.call true [[]] 72 [18]),
 zM 20 19,
 zt 21 20 (.faddr 1 1),
 zt 22 20 (.load false 1 21),
 zt 23 20 (.faddr 2 1),
 zt 24 20 (.faddr 0 23),
 zt 25 20 (.load false 1 24),
 zt 26 20 (.prim (.bin .eql 3 false false) [22, 25]),
 zo 27 (.pick 20 26 kf),
 zM 28 27,
 zt 29 28 (.mv 4),
 zo 30 (.pick 28 29 kf),
 zM 2 30]
def p57o8 := [zK 32 .eql 3 14 2,
 zM 31 32]
def p57o9 := [zG 33 13 1,
 zo 34 (.load true 12 33),
 zo 35 (.call true [[]] 73 [34]),
 zM 36 35,
 zt 37 36 (.faddr 1 1),
 zt 38 36 (.load false 1 37),
 zt 39 36 (.faddr 13 1),
 zt 40 36 (.faddr 0 39),
 zt 41 36 (.load false 1 40),
 zt 42 36 (.prim (.bin .eql 3 false false) [38, 41]),
 zo 43 (.pick 36 42 kf),
 zM 44 43,
 zt 45 44 (.mv 3),
 zo 46 (.pick 44 45 kf),
 zM 2 46]
def p57o12 := [zK 48 .eql 3 14 3,
 zM 47 48]
def p57o13 := [zG 49 1 1,
 zL 50 49,
 zK 51 .geq 3 50 0,
 zM 52 51,
 zt 53 52 (.faddr 1 1),
 zt 54 52 (.load false 1 53),
 zt 55 52 (.prim (.bin .leq 3 false true) [54, kk 1000000]),
 zo 56 (.pick 52 55 kf),
 zM 57 56,
 zt 58 57 (.mv 3),
 zo 59 (.pick 57 58 kf),
 zM 60 59,
 zt 61 60 (.mv 4),
 zo 62 (.pick 60 61 kf),
 zM 2 62]
def p57o25 := [zM 2 kf]
def p57c30 := sq (rg p57o1) (sq (rh p57o2) (sq (sq (rg p57o3) (.block 0 (sq (rg p57o4) (.cond 15 (sq (rg p57o5) (rt)) (sq (rg p57o8) (.cond 31 (sq (rg p57o9) (rt)) (sq (rg p57o12) (.cond 47 (sq (rg p57o13) (rt)) (.skip))))))))) (sq (rg p57o25) (rt))))
def pc57_r : List PRes := [PRes.tmp 2 []]
def pc57 : PFunc := ⟨63, pc57_r, p57c30, false⟩
def pc57_a : Ann := {
 kr := fun _ => none
 ka := fun _ => 0
 kh := hg [([1], .at_ 1 0), ([5], .at_ 1 2), ([6, 7, 8, 10, 11, 12], .imm), ([9], .at_ 1 13)]
 ow := ow0 }
theorem pc57_ok : compFn Try.prog pc57_a Try.f57 = some pc57 := by kernel_rfl
def p56o1 := [zo 1 (.box 58 0 []),
 zM 2 kf]
def p56o2 := [zo 3 (.load true 25 1),
 zo 4 (.call true [[]] 57 [3]),
 zo 5 (.prim (.un .not) [4]),
 zM 2 5]
def p56c5 := sq (rg p56o1) (sq (rg p56o2) (rt))
def pc56_r : List PRes := [PRes.tmp 2 []]
def pc56 : PFunc := ⟨6, pc56_r, p56c5, false⟩
def pc56_a : Ann := {
 kr := fun _ => none
 ka := fun _ => 0
 kh := fun _ => none
 ow := ow0 }
theorem pc56_ok : compFn Try.prog pc56_a Try.f56 = some pc56 := by kernel_rfl
def p71o1 := [zM 4 (kk 0)]
def p71o2 := [zM 6 0,
 zo 7 (.lenS 6),
 zM 8 (kk 0)]
def p71o3 := [zB 9 .lss 3 8 7]
def p71o7 := [zM 10 8,
 zM 5 10]
def p71o8 := [zM 11 1,
 zM 12 0,
 zM 13 5,
 zo 14 (.iaddrS 25 12 13),
 zo 15 (.load true 25 14),
 zo 16 (.callv true [[]] 11 [15])]
def p71o9 := [zM 17 5,
 zM 4 17]
def p71o17 := [zK 18 .add 3 8 1,
 zM 8 18]
def p71c20 := sq (.region (some ([0, 1, 7, 8], [], [])) false p71o3) (sq (.cond 9 (.skip) (.exit 0)) (sq (.block 1 (sq (rg p71o7) (sq (rg p71o8) (.cond 16 (sq (rg p71o9) (rt)) (.skip))))) (rg p71o17)))
def p71o24 := [zM 4 (kk (-1))]
def p71c26 := sq (rg p71o24) (rt)
def p71c28 := sq (rg p71o1) (sq (sq (rg p71o2) (.block 0 (.loop p71c20))) p71c26)
def pc71_r : List PRes := [PRes.tmp 4 []]
def pc71 : PFunc := ⟨19, pc71_r, p71c28, false⟩
def pc71_a : Ann := {
 kr := fun
  | 2 => some ([0, 1, 7, 8], [], [])
  | _ => none
 ka := fun _ => 0
 kh := fun _ => none
 ow := ow0 }
theorem pc71_ok : compFn Try.prog pc71_a Try.f71 = some pc71 := by kernel_rfl
def p55o1 := [zM 4 kf]
def p55o2 := [zM 5 0,
 zM 6 1,
 zo 7 (.gcall false false [] [[(0, 25)], []] 71 [5, 6]),
 zK 8 .geq 3 7 0,
 zM 4 8]
def p55c5 := sq (rg p55o1) (sq (rg p55o2) (rt))
def pc55_r : List PRes := [PRes.tmp 4 []]
def pc55 : PFunc := ⟨9, pc55_r, p55c5, false⟩
def pc55_a : Ann := {
 kr := fun _ => none
 ka := fun _ => 0
 kh := fun _ => none
 gf := fun d f => match d, f with
  | some 7, 71 => some (false, false, [])
  | _, _ => none
 ow := ow0 }
theorem pc55_ok : compFn Try.prog pc55_a Try.f55 = some pc55 := by kernel_rfl
def p44o1 := [zo 3 (.box 32 1 [(5, 1000000058, 25)]),
 zM 4 kf]
def p44o2 := [za 8 3 3 0 (.faddr 1 3),
 za 9 8 3 1 (.load false 1 8),
 za 10 0 1000000 0 (.mv 0),
 za 11 10 1000000 0 (.nilc 10),
 za 12 11 1000000 0 (.faddr 0 11),
 za 13 12 1000000 0 (.load false 1 12),
 zj 14 9 13 (.prim (.bin .neq 3 false false) [9, 13]),
 zi 15 14 (.mv 14),
 ⟨some 16, .faddr 2 3, some (15, false), [(3, .at_ 3 0)]⟩,
 ⟨some 17, .load false 1 16, some (15, false), [(16, .at_ 3 2)]⟩,
 ⟨some 18, .mv 0, some (15, false), [(0, .at_ 1000000 0)]⟩,
 ⟨some 19, .nilc 18, some (15, false), [(18, .at_ 1000000 0)]⟩,
 ⟨some 20, .faddr 1 19, some (15, false), [(19, .at_ 1000000 0)]⟩,
 ⟨some 21, .load false 1 20, some (15, false), [(20, .at_ 1000000 1)]⟩,
 ⟨some 22, .prim (.bin .neq 3 false false) [17, 21], some (15, false), [(17, .imm), (21, .imm)]⟩,
 zj 23 15 22 (.pick 15 kt 22),
 zi 24 23 (.mv 23),
 ⟨some 25, .faddr 0 3, some (24, false), [(3, .at_ 3 0)]⟩,
 ⟨some 26, .load false 1 25, some (24, false), [(25, .at_ 3 0)]⟩,
 ⟨some 27, .prim (.bin .lss 3 false true) [26, kk 0], some (24, false), [(26, .imm)]⟩,
 zj 28 24 27 (.pick 24 kt 27),
 zi 29 28 (.mv 28),
 ⟨some 30, .faddr 0 3, some (29, false), [(3, .at_ 3 0)]⟩,
 ⟨some 31, .load false 1 30, some (29, false), [(30, .at_ 3 0)]⟩,
 ⟨some 32, .mv 0, some (29, false), [(0, .at_ 1000000 0)]⟩,
 ⟨some 33, .nilc 32, some (29, false), [(32, .at_ 1000000 0)]⟩,
 ⟨some 34, .faddr 2 33, some (29, false), [(33, .at_ 1000000 0)]⟩,
 ⟨some 35, .load false 1 34, some (29, false), [(34, .at_ 1000000 2)]⟩,
 ⟨some 36, .prim (.bin .geq 3 false false) [31, 35], some (29, false), [(31, .imm), (35, .imm)]⟩,
 zj 37 29 36 (.pick 29 kt 36),
 zi 7 37 (.mv 37)]
def p44o3 := [zM 4 kf]
def p44o6 := [za 39 3 3 0 (.faddr 3 3),
 za 40 39 3 3 (.load false 1 39),
 zi 41 40 (.prim (.bin .lss 3 false true) [40, kk 0]),
 zi 42 41 (.mv 41),
 ⟨some 43, .faddr 3 3, some (42, false), [(3, .at_ 3 0)]⟩,
 ⟨some 44, .load false 1 43, some (42, false), [(43, .at_ 3 3)]⟩,
 ⟨some 45, .faddr 4 3, some (42, false), [(3, .at_ 3 0)]⟩,
 ⟨some 46, .load false 1 45, some (42, false), [(45, .at_ 3 4)]⟩,
 ⟨some 47, .prim (.bin .gtr 3 false false) [44, 46], some (42, false), [(44, .imm), (46, .imm)]⟩,
 zj 48 42 47 (.pick 42 kt 47),
 zi 49 48 (.mv 48),
 ⟨some 50, .mv 0, some (49, false), [(0, .at_ 1000000 0)]⟩,
 ⟨some 51, .nilc 50, some (49, false), [(50, .at_ 1000000 0)]⟩,
 ⟨some 52, .faddr 4 51, some (49, false), [(51, .at_ 1000000 0)]⟩,
 ⟨some 53, .load false 1 52, some (49, false), [(52, .at_ 1000000 4)]⟩,
 ⟨some 54, .prim (.bin .neq 3 false true) [53, .const (.int .i64 (-1))], some (49, false), [(53, .imm)]⟩,
 ⟨some 55, .mv 54, some (49, false), [(54, .imm)]⟩,
 ⟨some 56, .faddr 3 3, some (55, true), [(3, .at_ 3 0)]⟩,
 ⟨some 57, .load false 1 56, some (55, true), [(56, .at_ 3 3)]⟩,
 ⟨some 58, .mv 0, some (55, true), [(0, .at_ 1000000 0)]⟩,
 ⟨some 59, .nilc 58, some (55, true), [(58, .at_ 1000000 0)]⟩,
 ⟨some 60, .faddr 4 59, some (55, true), [(59, .at_ 1000000 0)]⟩,
 ⟨some 61, .load false 1 60, some (55, true), [(60, .at_ 1000000 4)]⟩,
 ⟨some 62, .prim (.bin .neq 3 false false) [57, 61], some (55, true), [(57, .imm), (61, .imm)]⟩,
 ⟨some 63, .pick 55 62 kf, some (49, false), [(55, .imm), (62, .imm)]⟩,
 zj 64 49 63 (.pick 49 kt 63),
 zi 38 64 (.mv 64)]
def p44o7 := [zM 4 kf]
def p44o10 := [za 66 3 3 0 (.faddr 4 3),
 za 67 66 3 4 (.load false 1 66),
 za 68 0 1000000 0 (.mv 0),
 za 69 68 1000000 0 (.nilc 68),
 za 70 69 1000000 0 (.faddr 3 69),
 za 71 70 1000000 3 (.load false 1 70),
 zj 72 67 71 (.prim (.bin .leq 3 false false) [67, 71]),
 zi 73 72 (.mv 72),
 ⟨some 74, .faddr 4 3, some (73, false), [(3, .at_ 3 0)]⟩,
 ⟨some 75, .load false 1 74, some (73, false), [(74, .at_ 3 4)]⟩,
 ⟨some 76, .faddr 3 3, some (73, false), [(3, .at_ 3 0)]⟩,
 ⟨some 77, .load false 1 76, some (73, false), [(76, .at_ 3 3)]⟩,
 ⟨some 78, .mv 0, some (73, false), [(0, .at_ 1000000 0)]⟩,
 ⟨some 79, .nilc 78, some (73, false), [(78, .at_ 1000000 0)]⟩,
 ⟨some 80, .faddr 3 79, some (73, false), [(79, .at_ 1000000 0)]⟩,
 ⟨some 81, .load false 1 80, some (73, false), [(80, .at_ 1000000 3)]⟩,
 ⟨some 82, .prim .max [77, 81], some (73, false), [(77, .imm), (81, .imm)]⟩,
 ⟨some 83, .prim (.bin .sub 3 false false) [75, 82], some (73, false), [(75, .imm), (82, .imm)]⟩,
 ⟨some 84, .prim (.bin .gtr 3 false true) [83, kk 36], some (73, false), [(83, .imm)]⟩,
 zj 85 73 84 (.pick 73 kt 84),
 zi 65 85 (.mv 85)]
def p44o11 := [zM 4 kf]
def p44c16 := sq (.region (some ([0, 3], [3, 1000000, 1000001, 1000002], [])) true p44o10) (.cond 65 (sq (rg p44o11) (rt)) (.skip))
def p44o22 := [za 87 0 1000000 0 (.mv 0),
 za 88 87 1000000 0 (.nilc 87),
 za 89 88 1000000 0 (.faddr 7 88),
 za 90 89 1000000 7 (.load false 1 89),
 za 91 3 3 0 (.faddr 0 3),
 za 92 91 3 0 (.load false 1 91),
 za 93 3 3 0 (.faddr 4 3),
 za 94 93 3 4 (.load false 1 93),
 zj 95 92 94 (.build (.agg #[ki, ki]) [(0, 1, .tmp 92), (1, 1, .tmp 94)]),
 ⟨some 96, .mlook true 97 [(0, 25)] 90 95, none, [(90, .obj 1000002), (95, .imm)]⟩,
 zM 86 96,
 zX 97 86 0,
 zX 98 86 1,
 zi 5 97 (.mv 97),
 zi 6 98 (.mv 98)]
def p44o23 := [zM 99 6]
def p44o24 := [zM 4 kf]
def p44o31 := [zG 100 5 3,
 zL 101 100,
 zo 102 (.gcall false false [] [[(0, 25)], []] 55 [101, .func 56]),
 zo 103 (.prim (.un .not) [102]),
 zM 4 103]
def p44c34 := sq (sq (rh p44o22) (sq (rg p44o23) (.cond 99 (sq (rg p44o24) (rt)) (.skip)))) (sq (rg p44o31) (rt))
def p44c36 := sq (rg p44o1) (sq (.block 0 (sq (rh p44o2) (.cond 7 (sq (rg p44o3) (rt)) (sq (rh p44o6) (.cond 38 (sq (rg p44o7) (rt)) p44c16))))) p44c34)
def pc44_r : List PRes := [PRes.tmp 4 []]
def pc44 : PFunc := ⟨104, pc44_r, p44c36, false⟩
def pc44_a : Ann := {
 kr := fun
  | 5 => some ([0, 3], [3, 1000000, 1000001, 1000002], [])
  | _ => none
 ka := fun _ => 0
 kh := hg [([0, 10, 11, 12, 18, 19, 32, 33, 50, 51, 58, 59, 68, 69, 78, 79, 87, 88], .at_ 1000000 0), ([3, 25, 30, 91], .at_ 3 0), ([8], .at_ 3 1), ([9, 13, 14, 15, 17, 21, 22, 23, 24, 26, 27, 28, 29, 31, 35, 36, 37, 40, 41, 42, 44, 46, 47, 48, 49, 53, 54, 55, 57, 61, 62, 63, 64, 67, 71, 72, 73, 75, 77, 81, 82, 83, 84, 85, 92, 94, 95, 97, 98], .imm), ([16], .at_ 3 2), ([20], .at_ 1000000 1), ([34], .at_ 1000000 2), ([39, 43, 56, 76], .at_ 3 3), ([45, 66, 74, 93], .at_ 3 4), ([52, 60], .at_ 1000000 4), ([70, 80], .at_ 1000000 3), ([89], .at_ 1000000 7), ([90], .obj 1000002)]
 gf := fun d f => match d, f with
  | some 102, 55 => some (false, false, [])
  | _, _ => none
 ow := ow0 }
theorem pc44_ok : compFn Try.prog pc44_a Try.f44 = some pc44 := by kernel_rfl
def p92o1 := [zM 2 kf]
def p92o2 := [zM 3 0,
 zM 4 0,
 zB 5 .neq 3 3 4,
 zM 2 5]
def p92c5 := sq (rg p92o1) (sq (rg p92o2) (rt))
def pc92_r : List PRes := [PRes.tmp 2 []]
def pc92 : PFunc := ⟨6, pc92_r, p92c5, false⟩
def pc92_a : Ann := {
 kr := fun _ => none
 ka := fun _ => 0
 kh := fun _ => none
 ow := ow0 }
theorem pc92_ok : compFn Try.prog pc92_a Try.f92 = some pc92 := by kernel_rfl
def p83o1 := [zM 4 (kk 0)]
def p83o2 := [zM 7 0,
 zo 8 (.call true [[]] 92 [7]),
 zM 5 8]
def p83o3 := [zM 9 1,
 zo 10 (.call true [[]] 92 [9]),
 zM 6 10]
def p83o4 := [zM 11 5]
def p83o5 := [zM 12 6]
def p83o6 := [zM 4 (kk 0)]
def p83o12 := [zM 4 (kk (-1))]
def p83o19 := [zM 13 6]
def p83o20 := [zM 4 (kk 1)]
def p83o26 := [zM 14 0,
 zM 15 1,
 zB 16 .lss 3 14 15]
def p83o27 := [zM 4 (kk (-1))]
def p83o33 := [zM 17 0,
 zM 18 1,
 zB 19 .gtr 3 17 18]
def p83o34 := [zM 4 (kk 1)]
def p83o40 := [zM 4 (kk 0)]
def p83c49 := sq (rg p83o1) (sq (rg p83o2) (sq (rg p83o3) (sq (sq (rg p83o4) (.cond 11 (sq (sq (rg p83o5) (.cond 12 (sq (rg p83o6) (rt)) (.skip))) (sq (rg p83o12) (rt))) (.skip))) (sq (sq (rg p83o19) (.cond 13 (sq (rg p83o20) (rt)) (.skip))) (sq (sq (rg p83o26) (.cond 16 (sq (rg p83o27) (rt)) (.skip))) (sq (sq (rg p83o33) (.cond 19 (sq (rg p83o34) (rt)) (.skip))) (sq (rg p83o40) (rt))))))))
def pc83_r : List PRes := [PRes.tmp 4 []]
def pc83 : PFunc := ⟨20, pc83_r, p83c49, false⟩
def pc83_a : Ann := {
 kr := fun _ => none
 ka := fun _ => 0
 kh := fun _ => none
 ow := ow0 }
theorem pc83_ok : compFn Try.prog pc83_a Try.f83 = some pc83 := by kernel_rfl
def p82o1 := [zo 2 (.box 54 0 []),
 zM 4 (kk 0)]
def p82o2 := [zG 5 0 2,
 zL 6 5,
 zM 7 1,
 zo 8 (.call true [[], []] 83 [6, 7]),
 zM 4 8]
def p82c5 := sq (rg p82o1) (sq (rg p82o2) (rt))
def pc82_r : List PRes := [PRes.tmp 4 []]
def pc82 : PFunc := ⟨9, pc82_r, p82c5, false⟩
def pc82_a : Ann := {
 kr := fun _ => none
 ka := fun _ => 0
 kh := fun _ => none
 ow := ow0 }
theorem pc82_ok : compFn Try.prog pc82_a Try.f82 = some pc82 := by kernel_rfl
def p81o1 := [zM 6 (kk 0),
 zM 7 kf]
def p81o2 := [zM 12 0,
 zo 13 (.lenS 12),
 zM 8 13]
def p81o3 := [zM 14 8,
 zM 9 (kk 0),
 zM 10 14]
def p81o4 := [zM 15 9,
 zM 16 10,
 zB 17 .lss 3 15 16]
def p81o9 := [zM 18 9,
 zM 19 10,
 zB 20 .add 3 18 19,
 zo 21 (.prim (.conv 3 122) [20]),
 zo 22 (.prim (.bin .shr 122 false true) [21, .const (.int .u64 1)]),
 zo 23 (.prim (.conv 122 3) [22]),
 zM 11 23]
def p81o10 := [zM 24 2,
 zM 25 0,
 zM 26 11,
 zo 27 (.iaddrS 11 25 26),
 zo 28 (.load true 11 27),
 zM 29 1,
 zo 30 (.callv true [[], []] 24 [28, 29]),
 zK 31 .lss 3 30 0]
def p81o11 := [zM 32 11,
 zK 33 .add 3 32 1,
 zM 9 33]
def p81o12 := [zM 34 11,
 zM 10 34]
def p81c17 := sq (sq (.region (some ([0, 1, 2, 8, 9, 10], [], [])) false p81o4) (.cond 17 (.skip) (.exit 0))) (.block 1 (sq (rg p81o9) (sq (rg p81o10) (.cond 31 (rg p81o11) (rg p81o12)))))
def p81o20 := [zM 35 9,
 zM 36 9,
 zM 37 8,
 zB 38 .lss 3 36 37,
 zM 39 38,
 zt 40 39 (.mv 2),
 zt 41 39 (.mv 0),
 zt 42 39 (.mv 9),
 zt 43 39 (.iaddrS 11 41 42),
 zt 44 39 (.load true 11 43),
 zt 45 39 (.mv 1),
 zt 46 39 (.callv true [[], []] 40 [44, 45]),
 zt 47 39 (.prim (.bin .eql 3 false true) [46, kk 0]),
 zo 48 (.pick 39 47 kf),
 zM 6 35,
 zM 7 48]
def p81c22 := sq (rg p81o20) (rt)
def p81c26 := sq (rg p81o1) (sq (rg p81o2) (sq (rg p81o3) (sq (.block 0 (.loop p81c17)) p81c22)))
def pc81_r : List PRes := [PRes.tmp 6 [], PRes.tmp 7 []]
def pc81 : PFunc := ⟨49, pc81_r, p81c26, false⟩
def pc81_a : Ann := {
 kr := fun
  | 3 => some ([0, 1, 2, 8, 9, 10], [], [])
  | _ => none
 ka := fun _ => 0
 kh := fun _ => none
 ow := ow0 }
theorem pc81_ok : compFn Try.prog pc81_a Try.f81 = some pc81 := by kernel_rfl
def p85o1 := [zo 2 (.box 54 0 []),
 zo 3 (.box 56 1 []),
 zo 4 (.alloc 54 (.agg #[ki, ki, ki, ki, ks, ki, ks, ki, ks, ki, ks]) [])]
def p85o2 := [zG 7 1 3,
 zL 8 7,
 zo 9 (.prim (.bin .and 5 false true) [8, .const (.int .u8 1)]),
 zo 10 (.prim (.bin .neq 5 false true) [9, .const (.int .u8 0)])]
def p85o3 := [zG 11 2 3,
 zo 12 (.load true 2 11),
 zG 13 1 2,
 zs (.store 2 13 12)]
def p85o7 := [zG 14 4 3,
 zo 15 (.load true 8 14),
 zM 16 (kk 0)]
def p85o8 := [zK 17 .lss 3 16 4]
def p85o12 := [zM 18 16,
 zo 19 (.idx true 2 4 15 16),
 zo 6 (.alloc 51 (.agg #[ki, ks]) []),
 zM 5 18,
 zs (.store 2 6 19)]
def p85o13 := [zG 20 1 3,
 zL 21 20,
 zM 22 5,
 zo 23 (.call true [[], []] 80 [21, 22])]
def p85o14 := [zM 24 5,
 zo 25 (.load true 2 6),
 zG 26 3 2,
 zo 27 (.iaddrA 4 2 26 24),
 zs (.store 2 27 25)]
def p85o20 := [zK 28 .add 3 16 1,
 zM 16 28]
def p85c23 := sq (.region (some ([2, 3, 4, 15, 16], [2, 3, 4, 6], [])) false p85o8) (sq (.cond 17 (.skip) (.exit 0)) (sq (.block 1 (sq (rg p85o12) (sq (rg p85o13) (.cond 23 (rg p85o14) (.skip))))) (rg p85o20)))
def p85o27 := [zo 29 (.load true 11 2),
 zs (.store 11 4 29)]
def p85c29 := sq (rg p85o27) (rt)
def p85c30 := sq (sq (.region (some ([2, 3, 4], [2, 3, 4], [])) false p85o7) (.block 0 (.loop p85c23))) p85c29
def p85c32 := sq (rg p85o1) (sq (sq (rg p85o2) (.cond 10 (rg p85o3) (.skip))) p85c30)
def pc85_r : List PRes := [PRes.cell 4 true 11 []]
def pc85 : PFunc := ⟨30, pc85_r, p85c32, false⟩
def pc85_a : Ann := {
 kr := fun
  | 3 => some ([2, 3, 4], [2, 3, 4], [])
  | 4 => some ([2, 3, 4, 15, 16], [2, 3, 4, 6], [])
  | _ => none
 ka := fun _ => 0
 kh := fun _ => none
 ow := ow0 }
theorem pc85_ok : compFn Try.prog pc85_a Try.f85 = some pc85 := by kernel_rfl
def p74o1 := [zo 3 (.box 58 1 []),
 zo 4 (.mv (.const (kl))),
 zM 5 kf]
def p74o2 := [zM 10 0,
 zG 11 1 3,
 zL 12 11,
 zo 13 (.gcall false false [] [[(0, 11)], [], []] 81 [10, 12, .func 82]),
 zM 9 13,
 zX 14 9 0,
 zX 15 9 1,
 zM 6 14,
 zM 7 15]
def p74o3 := [zo 16 (.load true 25 3),
 zo 17 (.call true [[]] 57 [16]),
 zo 18 (.prim (.un .not) [17]),
 zM 19 18,
 zf 20 19 (.mv 7),
 zf 21 19 (.faddr 0 3),
 zf 22 19 (.load false 1 21),
 zf 23 19 (.prim (.bin .eql 3 false true) [22, kk 1]),
 zf 24 19 (.prim (.bin .eql 4 false false) [20, 23]),
 zo 25 (.pick 19 kt 24)]
def p74o4 := [zM 26 0,
 zo 27 (.gcall false false [300000, 300001, 300002, 300003, 300004, 300005, 300006, 300007] [[(0, 11)]] 50 [26]),
 zM 4 27,
 zM 5 kf]
def p74o10 := [zM 28 0,
 zo 29 (.gcall false false [300000, 300001, 300002, 300003, 300004, 300005, 300006, 300007] [[(0, 11)]] 50 [28]),
 zM 8 29]
def p74o11 := [zG 30 0 3,
 zL 31 30]
def p74o12 := [zK 38 .eql 3 31 1,
 zM 37 38]
def p74o13 := [zM 39 8,
 zM 40 6,
 zG 41 2 3,
 zo 42 (.load true 11 41),
 zo 43 (.bptrs 11 [42]),
 zo 44 (.gcall true false [43, 300000, 300001, 300002, 300003, 300004, 300005, 300006, 300007] [[(0, 11)], [], [(0, 11)]] 84 [39, 40, 43]),
 zM 8 44]
def p74o14 := [zK 46 .eql 3 31 2,
 zM 45 46]
def p74o15 : List POper := [⟨some 47, .mv 8, none, [(8, .obj 300000)]⟩,
 zi 48 6 (.mv 6),
 ⟨some 49, .mv 8, none, [(8, .obj 300000)]⟩,
 zi 50 6 (.mv 6),
 ⟨some 51, .iaddrS 11 49 50, none, [(49, .obj 300000), (50, .imm)]⟩,
 ⟨some 52, .load true 11 51, none, [(51, .obj 300000)]⟩,
 za 53 3 3 0 (.faddr 13 3),
 za 54 53 3 13 (.load true 12 53),
 zj 55 52 54 (.call false [[], []] 85 [52, 54]),
 ⟨some 56, .iaddrS 11 47 48, none, [(47, .obj 300000), (48, .imm)]⟩,
 zn (.store 11 56 55) [(56, .obj 300000), (55, .imm)]]
def p74o16 := [zM 32 8,
 zM 33 6,
 zM 34 6,
 zK 35 .add 3 34 1,
 zo 36 (.gcall true false [300000, 300001, 300002, 300003, 300004, 300005, 300006, 300007] [[(0, 11)], [], []] 86 [32, 33, 35]),
 zM 8 36]
def p74o23 := [zM 57 8,
 zM 4 57,
 zM 5 kt]
def p74c30 := sq (rg p74o1) (sq (rg p74o2) (sq (sq (rg p74o3) (.cond 25 (sq (rg p74o4) (rt)) (.skip))) (sq (rg p74o10) (sq (sq (rg p74o11) (.block 0 (sq (rg p74o12) (.cond 37 (rg p74o13) (sq (rg p74o14) (.cond 45 (rh p74o15) (rg p74o16))))))) (sq (rg p74o23) (rt))))))
def pc74_r : List PRes := [PRes.tmp 4 [(0, 11)], PRes.tmp 5 []]
def pc74 : PFunc := ⟨58, pc74_r, p74c30, false⟩
def pc74_a : Ann := {
 kr := fun _ => none
 ka := fun _ => 0
 kh := hg [([3], .at_ 3 0), ([6, 48, 50, 52, 54, 55], .imm), ([8, 47, 49, 51, 56], .obj 300000), ([53], .at_ 3 13)]
 gf := fun d f => match d, f with
  | some 13, 81 => some (false, false, [])
  | some 27, 50 => some (false, false, [300000, 300001, 300002, 300003, 300004, 300005, 300006, 300007])
  | some 29, 50 => some (false, false, [300000, 300001, 300002, 300003, 300004, 300005, 300006, 300007])
  | some 36, 86 => some (true, false, [300000, 300001, 300002, 300003, 300004, 300005, 300006, 300007])
  | some 44, 84 => some (true, false, [43, 300000, 300001, 300002, 300003, 300004, 300005, 300006, 300007])
  | _, _ => none
 ow := ow0
 bv := fun d => match d with
  | some 43 => true
  | _ => false }
theorem pc74_ok : compFn Try.prog pc74_a Try.f74 = some pc74 := by kernel_rfl
def p58o1 := [zo 4 (.mv (.const (kl))),
 zM 5 kf]
def p58o2 := [zM 10 0,
 zo 11 (.gcall false true [399990, 399991] [[(0, 11)]] 50 [10]),
 zM 6 11,
 zM 7 kt]
def p58o4 := [zM 12 1,
 zo 13 (.lenS 12),
 zM 14 (kk 0)]
def p58o5 := [zB 15 .lss 3 14 13]
def p58o9 := [zo 16 (.iaddrS 25 12 14),
 zo 17 (.load true 25 16),
 zo 9 (.alloc 58 (.agg #[ki, ki, ki, ki, ki, ki, ks, ki, ks, ki, ks, ki, ks, ki, .int .u8 0, ki, ki, ki, ks, ki, ks, ki, ks, ki, ks]) []),
 zs (.store 25 9 17)]
def p58o10 := [zM 19 6,
 zo 20 (.load true 25 9),
 zo 21 (.call true [[(0, 11)], []] 74 [19, 20]),
 zM 18 21,
 zX 22 18 0,
 zX 23 18 1,
 zM 6 22,
 zM 7 23]
def p58o11 := [zM 24 7,
 zo 25 (.prim (.un .not) [24])]
def p58o19 := [zK 26 .add 3 14 1,
 zM 14 26]
def p58c22 := sq (.region (some ([0, 6, 7, 12, 13, 14], [9], [])) false p58o5) (sq (.cond 15 (.skip) (.exit 0)) (sq (.block 1 (sq (rg p58o9) (sq (rg p58o10) (sq (rg p58o11) (.cond 25 (.exit 0) (.skip)))))) (rg p58o19)))
def p58o26 := [zM 27 7,
 zo 28 (.prim (.un .not) [27])]
def p58o27 := [zM 29 0,
 zo 30 (.gcall false true [399990, 399991] [[(0, 11)]] 50 [29]),
 zM 4 30,
 zM 5 kf]
def p58o33 := [zM 31 6,
 zM 4 31,
 zM 5 kt]
def p58c36 := sq (sq (.region (some ([0, 6, 7], [9], [])) false p58o26) (.cond 28 (sq (rg p58o27) (rt)) (.skip))) (sq (rg p58o33) (rt))
def p58c41 := sq (rg p58o1) (.scope (sq (rg p58o2) (sq (.label) (sq (sq (rg p58o4) (.block 0 (.loop p58c22))) p58c36))))
def pc58_r : List PRes := [PRes.tmp 4 [(0, 11)], PRes.tmp 5 []]
def pc58 : PFunc := ⟨32, pc58_r, p58c41, false⟩
def pc58_a : Ann := {
 kr := fun
  | 3 => some ([0, 6, 7, 12, 13, 14], [9], [])
  | 8 => some ([0, 6, 7], [9], [])
  | _ => none
 ka := fun _ => 0
 kh := fun _ => none
 gf := fun d f => match d, f with
  | some 11, 50 => some (false, true, [399990, 399991])
  | some 30, 50 => some (false, true, [399990, 399991])
  | _, _ => none
 ow := ow0 }
theorem pc58_ok : compFn Try.prog pc58_a Try.f58 = some pc58 := by kernel_rfl
def p46o1 := [zM 7 0,
 zo 8 (.nilc 7),
 zG 9 5 8,
 zL 10 9,
 zM 11 1,
 zo 12 (.call true [[(0, 11)], [(0, 25)]] 58 [10, 11]),
 zM 6 12,
 zX 13 6 0,
 zX 14 6 1,
 zM 4 13,
 zM 5 14]
def p46o2 := [zM 15 5,
 zo 16 (.prim (.un .not) [15])]
def p46o7 := [zM 17 0,
 zM 18 4,
 zo 19 (.nilc 17),
 zG 20 5 19,
 zs (.store 1 20 18)]
def p46o8 := [zM 21 0,
 zM 22 0,
 zo 23 (.nilc 22),
 zG 24 6 23,
 zL 25 24,
 zM 26 1,
 zo 27 (.app 100025 58 25 264 25 26),
 zo 28 (.nilc 21),
 zG 29 6 28,
 zs (.store 1 29 27)]
def p46c11 := sq (rg p46o1) (sq (sq (rg p46o2) (.cond 16 (rt) (.skip))) (sq (rg p46o7) (rg p46o8)))
def pc46_r : List PRes := []
def pc46 : PFunc := ⟨30, pc46_r, p46c11, false⟩
def pc46_a : Ann := {
 kr := fun _ => none
 ka := fun
  | 27 => 100025
  | _ => 0
 kh := fun _ => none
 ow := ow0 }
theorem pc46_ok : compFn Try.prog pc46_a Try.f46 = some pc46 := by kernel_rfl
def p15o1 := [zo 3 (.box 32 1 [(5, 1000000058, 25)]),
 zM 4 kf]
def p15o2 := [zM 10 0,
 zo 11 (.load true 6 3),
 zo 12 (.gcall false false [1000000, 1000001, 1000002] [[], [(5, 25)]] 44 [10, 11]),
 zo 13 (.prim (.un .not) [12])]
def p15o3 := [zM 4 kf]
def p15o9 := [zM 14 0,
 zG 15 3 3,
 zL 16 15,
 zo 17 (.nilc 14),
 zG 18 4 17,
 zs (.store 1 18 16)]
def p15o10 := [za 19 0 1000000 0 (.mv 0),
 za 20 19 1000000 0 (.nilc 19),
 za 21 20 1000000 0 (.faddr 7 20),
 za 22 21 1000000 7 (.load false 1 21),
 za 23 3 3 0 (.faddr 0 3),
 za 24 23 3 0 (.load false 1 23),
 za 25 3 3 0 (.faddr 4 3),
 za 26 25 3 4 (.load false 1 25),
 zj 27 24 26 (.build (.agg #[ki, ki]) [(0, 1, .tmp 24), (1, 1, .tmp 26)]),
 za 28 3 3 0 (.faddr 5 3),
 za 29 28 3 5 (.load false 1 28),
 zi 30 29 (.gcall false true [399990, 399991] [[(0, 25)]] 45 [29]),
 zn (.mset 97 22 27 30) [(22, .obj 1000002), (27, .imm), (30, .imm)]]
def p15o12 := [za 31 0 1000000 0 (.mv 0),
 za 32 31 1000000 0 (.nilc 31),
 za 33 32 1000000 0 (.faddr 3 32),
 za 34 33 1000000 3 (.load false 1 33),
 zi 35 34 (.prim (.bin .add 3 false true) [34, kk 1]),
 za 36 0 1000000 0 (.mv 0),
 za 37 36 1000000 0 (.nilc 36),
 za 38 37 1000000 0 (.faddr 4 37),
 za 39 38 1000000 4 (.load false 1 38),
 zj 40 35 39 (.prim .max [35, 39]),
 zi 5 40 (.mv 40)]
def p15o13 := [zM 41 0,
 zo 42 (.nilc 41),
 zG 43 2 42,
 zL 44 43,
 zM 45 (kk 0)]
def p15o14 := [zB 46 .lss 3 45 44]
def p15o18 := [zM 47 45,
 zM 6 47]
def p15o19 := [zM 49 0,
 zo 50 (.nilc 49),
 zG 51 7 50,
 zL 52 51,
 zM 53 6,
 zM 54 5,
 zo 55 (.build (.agg #[ki, ki]) [(0, 1, .tmp 53), (1, 1, .tmp 54)]),
 zo 56 (.mlook true 97 [(0, 25)] 52 55),
 zM 48 56,
 zX 57 48 0,
 zX 58 48 1,
 zM 7 57,
 zM 8 58]
def p15o20 := [zM 59 8,
 zo 60 (.prim (.un .not) [59])]
def p15o28 := [zK 61 .add 3 45 1,
 zM 45 61]
def p15c31 := sq (.region (some ([0, 5, 44, 45], [1000000, 1000001, 1000002], [])) false p15o14) (sq (.cond 46 (.skip) (.exit 2)) (sq (.block 3 (sq (rg p15o18) (sq (rg p15o19) (sq (rg p15o20) (.cond 60 (.exit 0) (.skip)))))) (rg p15o28)))
def p15o35 := [zM 62 0,
 zo 63 (.nilc 62),
 zG 64 2 63,
 zL 65 64,
 zM 66 (kk 0)]
def p15o36 := [zB 67 .lss 3 66 65]
def p15o40 := [zM 68 66,
 zM 9 68]
def p15o41 := [zM 69 0,
 zM 70 0,
 zo 71 (.nilc 70),
 zG 72 7 71,
 zL 73 72,
 zM 74 9,
 zM 75 5,
 zo 76 (.build (.agg #[ki, ki]) [(0, 1, .tmp 74), (1, 1, .tmp 75)]),
 zo 77 (.mlook false 97 [(0, 25)] 73 76),
 zo 78 (.gcall false false [1000000, 1000001, 1000002] [[], [(0, 25)]] 46 [69, 77])]
def p15o42 := [zM 79 0,
 zo 80 (.nilc 79),
 zG 81 7 80,
 zL 82 81,
 zM 83 9,
 zM 84 5,
 zo 85 (.build (.agg #[ki, ki]) [(0, 1, .tmp 83), (1, 1, .tmp 84)]),
 zs (.mdel 97 82 85)]
def p15o46 := [zK 86 .add 3 66 1,
 zM 66 86]
def p15c49 := sq (.region (some ([0, 5, 65, 66], [1000000, 1000001, 1000002], [])) false p15o36) (sq (.cond 67 (.skip) (.exit 4)) (sq (.block 5 (sq (rg p15o40) (sq (rg p15o41) (rg p15o42)))) (rg p15o46)))
def p15o53 := [zM 87 0,
 zM 88 5,
 zo 89 (.nilc 87),
 zG 90 3 89,
 zs (.store 1 90 88)]
def p15c53 := rg p15o53
def p15c54 := sq (sq (rg p15o35) (.block 4 (.loop p15c49))) p15c53
def p15c57 : PCode := .block 1 (sq (.region (some ([0], [3, 1000000, 1000001, 1000002], [])) true p15o12) (sq (sq (rg p15o13) (.block 2 (.loop p15c31))) p15c54))
def p15o60 := [zM 4 kt]
def p15c62 := sq (rg p15o60) (rt)
def p15c69 := sq (rg p15o1) (.scope (sq (sq (rg p15o2) (.cond 13 (sq (rg p15o3) (rt)) (.skip))) (sq (rg p15o9) (sq (rh p15o10) (sq (.label) (sq (.block 0 (.loop p15c57)) p15c62))))))
def pc15_r : List PRes := [PRes.tmp 4 []]
def pc15 : PFunc := ⟨91, pc15_r, p15c69, false⟩
def pc15_a : Ann := {
 kr := fun
  | 5 => some ([0], [3, 1000000, 1000001, 1000002], [])
  | 7 => some ([0, 5, 44, 45], [1000000, 1000001, 1000002], [])
  | 13 => some ([0, 5, 65, 66], [1000000, 1000001, 1000002], [])
  | _ => none
 ka := fun _ => 0
 kh := hg [([0, 19, 20, 31, 32, 36, 37], .at_ 1000000 0), ([3, 23], .at_ 3 0), ([21], .at_ 1000000 7), ([22], .obj 1000002), ([24, 26, 27, 29, 30, 34, 35, 39, 40], .imm), ([25], .at_ 3 4), ([28], .at_ 3 5), ([33], .at_ 1000000 3), ([38], .at_ 1000000 4)]
 gf := fun d f => match d, f with
  | some 12, 44 => some (false, false, [1000000, 1000001, 1000002])
  | some 30, 45 => some (false, true, [399990, 399991])
  | some 78, 46 => some (false, false, [1000000, 1000001, 1000002])
  | _, _ => none
 ow := ow0 }
theorem pc15_ok : compFn Try.prog pc15_a Try.f15 = some pc15 := by kernel_rfl
def p35o1 := [zo 3 (.box 73 1 [(30, 1000000054, 11), (31, 1000000156, 2), (32, 1000000054, 11), (33, 1000000063, 22), (39, 1000000058, 25)]),
 zM 4 (kk 0)]
def p35o2 := [za 5 3 3 0 (.faddr 1 3),
 za 6 5 3 1 (.load false 1 5),
 za 7 0 1000000 0 (.mv 0),
 za 8 7 1000000 0 (.nilc 7),
 za 9 8 1000000 0 (.faddr 0 8),
 za 10 9 1000000 0 (.load false 1 9),
 zi 11 10 (.prim (.bin .add 3 true false) [kk 100, 10]),
 zj 12 6 11 (.prim (.bin .neq 3 false false) [6, 11])]
def p35o3 := [zM 4 (kk 20)]
def p35o9 := [zG 13 2 3,
 zL 14 13]
def p35o10 := [zK 16 .eql 3 14 2,
 zM 15 16]
def p35o11 := [za 17 0 1000000 0 (.mv 0),
 za 18 17 1000000 0 (.nilc 17),
 za 19 18 1000000 0 (.faddr 46 18),
 za 20 19 1000000 46 (.load false 1 19),
 zi 21 20 (.mv 20),
 ⟨some 22, .faddr 40 3, some (21, true), [(3, .at_ 3 0)]⟩,
 ⟨some 23, .load false 1 22, some (21, true), [(22, .at_ 3 40)]⟩,
 ⟨some 24, .mv 0, some (21, true), [(0, .at_ 1000000 0)]⟩,
 ⟨some 25, .nilc 24, some (21, true), [(24, .at_ 1000000 0)]⟩,
 ⟨some 26, .faddr 2 25, some (21, true), [(25, .at_ 1000000 0)]⟩,
 ⟨some 27, .load false 1 26, some (21, true), [(26, .at_ 1000000 2)]⟩,
 ⟨some 28, .prim (.bin .eql 3 false false) [23, 27], some (21, true), [(23, .imm), (27, .imm)]⟩,
 zj 29 21 28 (.pick 21 28 kf),
 zi 30 29 (.mv 29),
 ⟨some 31, .faddr 3 3, some (30, true), [(3, .at_ 3 0)]⟩,
 ⟨some 32, .load false 1 31, some (30, true), [(31, .at_ 3 3)]⟩,
 ⟨some 33, .mv 0, some (30, true), [(0, .at_ 1000000 0)]⟩,
 ⟨some 34, .nilc 33, some (30, true), [(33, .at_ 1000000 0)]⟩,
 ⟨some 35, .faddr 4 34, some (30, true), [(34, .at_ 1000000 0)]⟩,
 ⟨some 36, .faddr 3 35, some (30, true), [(35, .at_ 1000000 4)]⟩,
 ⟨some 37, .load false 1 36, some (30, true), [(36, .at_ 1000000 7)]⟩,
 ⟨some 38, .prim (.bin .eql 3 false false) [32, 37], some (30, true), [(32, .imm), (37, .imm)]⟩,
 zj 39 30 38 (.pick 30 38 kf),
 zi 40 39 (.mv 39),
 ⟨some 41, .faddr 0 3, some (40, true), [(3, .at_ 3 0)]⟩,
 ⟨some 42, .load false 1 41, some (40, true), [(41, .at_ 3 0)]⟩,
 ⟨some 43, .mv 0, some (40, true), [(0, .at_ 1000000 0)]⟩,
 ⟨some 44, .nilc 43, some (40, true), [(43, .at_ 1000000 0)]⟩,
 ⟨some 45, .faddr 4 44, some (40, true), [(44, .at_ 1000000 0)]⟩,
 ⟨some 46, .faddr 1 45, some (40, true), [(45, .at_ 1000000 4)]⟩,
 ⟨some 47, .load false 1 46, some (40, true), [(46, .at_ 1000000 5)]⟩,
 ⟨some 48, .prim (.bin .eql 3 false false) [42, 47], some (40, true), [(42, .imm), (47, .imm)]⟩,
 zj 49 40 48 (.pick 40 48 kf)]
def p35o12 := [za 50 0 1000000 0 (.mv 0),
 za 51 0 1000000 0 (.mv 0),
 za 52 0 1000000 0 (.mv 0),
 za 53 3 3 0 (.faddr 27 3),
 za 54 53 3 27 (.load false 1 53),
 za 55 3 3 0 (.faddr 26 3),
 za 56 55 3 26 (.load false 1 55),
 za 57 50 1000000 0 (.nilc 50),
 za 58 57 1000000 0 (.faddr 46 57),
 zn (.store 1 58 kf) [(58, .at_ 1000000 46)],
 za 59 51 1000000 0 (.nilc 51),
 za 60 59 1000000 0 (.faddr 48 59),
 zn (.store 1 60 54) [(60, .at_ 1000000 48), (54, .imm)],
 za 61 52 1000000 0 (.nilc 52),
 za 62 61 1000000 0 (.faddr 49 61),
 zn (.store 1 62 56) [(62, .at_ 1000000 49), (56, .imm)]]
def p35o16 := [zK 64 .eql 3 14 4,
 zM 63 64]
def p35o17 := [za 65 0 1000000 0 (.mv 0),
 za 66 65 1000000 0 (.nilc 65),
 za 67 66 1000000 0 (.faddr 3 66),
 za 68 67 1000000 3 (.load false 1 67),
 za 69 3 3 0 (.faddr 34 3),
 za 70 69 3 34 (.load true 6 69),
 ⟨some 71, .gcall false false [1000001, 1000002, 1000003] [[], [(5, 25)]] 15 [68, 70], none, [(68, .at_ 1000001 0), (70, .imm)]⟩]
def p35o18 := [zM 4 (kk 11)]
def p35o27 := [zM 4 (kk 0)]
def p35c32 := sq (rg p35o1) (sq (sq (rh p35o2) (.cond 12 (sq (rg p35o3) (rt)) (.skip))) (sq (sq (rg p35o9) (.block 0 (sq (rg p35o10) (.cond 15 (sq (rh p35o11) (.cond 49 (rh p35o12) (.skip))) (sq (rg p35o16) (.cond 63 (rh p35o17) (sq (rg p35o18) (rt)))))))) (sq (rg p35o27) (rt))))
def pc35_r : List PRes := [PRes.tmp 4 []]
def pc35 : PFunc := ⟨72, pc35_r, p35c32, false⟩
def pc35_a : Ann := {
 kr := fun _ => none
 ka := fun _ => 0
 kh := hg [([0, 7, 8, 9, 17, 18, 24, 25, 33, 34, 43, 44, 50, 51, 52, 57, 59, 61, 65, 66], .at_ 1000000 0), ([3, 41], .at_ 3 0), ([5], .at_ 3 1), ([6, 10, 11, 20, 21, 23, 27, 28, 29, 30, 32, 37, 38, 39, 40, 42, 47, 48, 54, 56, 70], .imm), ([19, 58], .at_ 1000000 46), ([22], .at_ 3 40), ([26], .at_ 1000000 2), ([31], .at_ 3 3), ([35, 45], .at_ 1000000 4), ([36], .at_ 1000000 7), ([46], .at_ 1000000 5), ([53], .at_ 3 27), ([55], .at_ 3 26), ([60], .at_ 1000000 48), ([62], .at_ 1000000 49), ([67], .at_ 1000000 3), ([68], .at_ 1000001 0), ([69], .at_ 3 34)]
 gf := fun d f => match d, f with
  | some 71, 15 => some (false, false, [1000001, 1000002, 1000003])
  | _, _ => none
 ow := ow0 }
theorem pc35_ok : compFn Try.prog pc35_a Try.f35 = some pc35 := by kernel_rfl
def p40o1 := [zM 2 (kk 0),
 zM 3 (kk 0)]
def p40o2 := [za 4 0 1000000 0 (.mv 0),
 za 5 4 1000000 0 (.nilc 4),
 za 6 5 1000000 0 (.faddr 48 5),
 za 7 6 1000000 48 (.load false 1 6),
 za 8 0 1000000 0 (.mv 0),
 za 9 8 1000000 0 (.nilc 8),
 za 10 9 1000000 0 (.faddr 49 9),
 za 11 10 1000000 49 (.load false 1 10),
 zi 2 7 (.mv 7),
 zi 3 11 (.mv 11)]
def p40c5 := sq (rg p40o1) (sq (rh p40o2) (rt))
def pc40_r : List PRes := [PRes.tmp 2 [], PRes.tmp 3 []]
def pc40 : PFunc := ⟨12, pc40_r, p40c5, false⟩
def pc40_a : Ann := {
 kr := fun _ => none
 ka := fun _ => 0
 kh := hg [([0, 4, 5, 8, 9], .at_ 1000000 0), ([6], .at_ 1000000 48), ([7, 11], .imm), ([10], .at_ 1000000 49)]
 ow := ow0 }
theorem pc40_ok : compFn Try.prog pc40_a Try.f40 = some pc40 := by kernel_rfl
def p41o1 := [zM 2 (kk 0)]
def p41o2 := [zM 3 0,
 zo 4 (.nilc 3),
 zG 5 2 4,
 zL 6 5,
 zM 2 6]
def p41c5 := sq (rg p41o1) (sq (rg p41o2) (rt))
def pc41_r : List PRes := [PRes.tmp 2 []]
def pc41 : PFunc := ⟨7, pc41_r, p41c5, false⟩
def pc41_a : Ann := {
 kr := fun _ => none
 ka := fun _ => 0
 kh := fun _ => none
 ow := ow0 }
theorem pc41_ok : compFn Try.prog pc41_a Try.f41 = some pc41 := by kernel_rfl
def p42o1 := [zo 2 (.mv (.const (.pointer none)))]
def p42o2 := [zM 3 0,
 zo 4 (.nilc 3),
 zG 5 3 4,
 zL 6 5,
 zM 2 6]
def p42c5 := sq (rg p42o1) (sq (rg p42o2) (rt))
def pc42_r : List PRes := [PRes.tmp 2 []]
def pc42 : PFunc := ⟨7, pc42_r, p42c5, true⟩
def pc42_a : Ann := {
 kr := fun _ => none
 ka := fun _ => 0
 kh := fun _ => none
 ow := ow0
 ex := true }
theorem pc42_ok : compFn Try.prog pc42_a Try.f42 = some pc42 := by kernel_rfl
def p25o1 := [zM 0 kf]
def p25o2 := [zo 12 (.gcall false false [300000, 300001, 300002, 300003, 300004, 300005, 300006, 300007, 300008, 300009, 300010, 300011, 300012, 300013, 300014, 300015, 300016, 300017, 300018, 300019, 300020, 300021, 300022, 300023] [[], []] 27 [kk 1, kk 2]),
 zM 1 12]
def p25o3 := [zM 13 1,
 zo 14 (.pnil false 13),
 zM 15 14,
 zf 16 15 (.mv 1),
 zf 17 15 (.gcall false false [300000, 300001, 300002, 300003] [[]] 42 [16]),
 zf 18 15 (.pnil false 17),
 zo 19 (.pick 15 kt 18),
 zM 20 19,
 zf 21 20 (.mv 1),
 zf 22 20 (.gcall false false [300000, 300001, 300002, 300003] [[]] 41 [21]),
 zf 23 20 (.prim (.bin .neq 3 false true) [22, kk 1]),
 zo 24 (.pick 20 kt 23)]
def p25o4 := [zM 0 kf]
def p25o10 := [zM 26 1,
 zo 27 (.build (.agg #[ki, ki, ki, ki, ki, ki, ki, ks, ki, ks, ki, ks, ki, ks, ki, ks, ki, ki, ki, ki, ki, ki]) [(0, 1, kk 1)]),
 zo 28 (.gcall false false [300000, 300001, 300002, 300003] [[], [], []] 28 [26, kk 0, 27]),
 zM 25 28,
 zX 29 25 0,
 zX 30 25 1,
 zo 2 (.alloc 73 (.agg #[ki, ki, ki, ki, ki, ki, ki, ki, ki, ki, ki, ks, ki, ks, ki, ks, ki, ks, ki, ks, ki, ki, ki, ki, ki, ki, ki, ki, ki, ki, kl, kl, kl, kl, ki, ki, ki, ki, ki, kl, ki, ki]) [(30, 1000000054, 11), (31, 1000000156, 2), (32, 1000000054, 11), (33, 1000000063, 22), (39, 1000000058, 25)]),
 zs (.storeV [(30, 11), (31, 2), (32, 11), (33, 22), (39, 25)] 42 2 29),
 zM 3 30]
def p25o11 := [zM 32 1,
 zo 33 (.build (.agg #[ki, ki, ki, ki, ki, ki, ki, ks, ki, ks, ki, ks, ki, ks, ki, ks, ki, ki, ki, ki, ki, ki]) [(0, 1, kk 1)]),
 zo 34 (.gcall false false [300000, 300001, 300002, 300003] [[], [], []] 28 [32, kk 0, 33]),
 zM 31 34,
 zX 35 31 0,
 zX 36 31 1,
 zo 4 (.alloc 73 (.agg #[ki, ki, ki, ki, ki, ki, ki, ki, ki, ki, ki, ks, ki, ks, ki, ks, ki, ks, ki, ks, ki, ki, ki, ki, ki, ki, ki, ki, ki, ki, kl, kl, kl, kl, ki, ki, ki, ki, ki, kl, ki, ki]) [(30, 1000000054, 11), (31, 1000000156, 2), (32, 1000000054, 11), (33, 1000000063, 22), (39, 1000000058, 25)]),
 zs (.storeV [(30, 11), (31, 2), (32, 11), (33, 22), (39, 25)] 42 4 35),
 zM 5 36]
def p25o12 := [zM 37 1,
 zo 38 (.buildV [(30, 11), (31, 2), (32, 11), (33, 22), (39, 25)] (.agg #[ki, ki, ki, ki, ki, ki, ki, ki, ki, ki, ki, ks, ki, ks, ki, ks, ki, ks, ki, ks, ki, ki, ki, ki, ki, ki, ki, ki, ki, ki, kl, kl, kl, kl, ki, ki, ki, ki, ki, kl, ki, ki]) [(0, 1, kk 0), (1, 1, kk 101), (2, 1, kk 2), (40, 1, kk 1), (3, 1, kk 1), (26, 1, kk 17), (27, 1, kk 0)]),
 zo 39 (.gcall false false [300000, 300001, 300002, 300003] [[], [(30, 11), (31, 2), (32, 11), (33, 22), (39, 25)]] 35 [37, 38]),
 zM 6 39]
def p25o13 := [zM 41 1,
 zo 42 (.gcall false false [300000, 300001, 300002, 300003] [[]] 40 [41]),
 zM 40 42,
 zX 43 40 0,
 zX 44 40 1,
 zM 7 43,
 zM 8 44]
def p25o14 := [zM 45 1,
 zo 46 (.buildV [(30, 11), (31, 2), (32, 11), (33, 22), (39, 25)] (.agg #[ki, ki, ki, ki, ki, ki, ki, ki, ki, ki, ki, ks, ki, ks, ki, ks, ki, ks, ki, ks, ki, ki, ki, ki, ki, ki, ki, ki, ki, ki, kl, kl, kl, kl, ki, ki, ki, ki, ki, kl, ki, ki]) [(1, 1, kk 100)]),
 zo 47 (.gcall false false [300000, 300001, 300002, 300003] [[], [(30, 11), (31, 2), (32, 11), (33, 22), (39, 25)]] 35 [45, 46]),
 zM 9 47]
def p25o15 := [zM 49 1,
 zo 50 (.build (.agg #[ki, ki, ki, ki, ki, ki, ki, ks, ki, ks, ki, ks, ki, ks, ki, ks, ki, ki, ki, ki, ki, ki]) [(0, 1, kk 1)]),
 zo 51 (.gcall false false [300000, 300001, 300002, 300003] [[], [], []] 28 [49, kk 2, 50]),
 zM 48 51,
 zX 52 48 0,
 zX 53 48 1,
 zo 10 (.alloc 73 (.agg #[ki, ki, ki, ki, ki, ki, ki, ki, ki, ki, ki, ks, ki, ks, ki, ks, ki, ks, ki, ks, ki, ki, ki, ki, ki, ki, ki, ki, ki, ki, kl, kl, kl, kl, ki, ki, ki, ki, ki, kl, ki, ki]) [(30, 1000000054, 11), (31, 1000000156, 2), (32, 1000000054, 11), (33, 1000000063, 22), (39, 1000000058, 25)]),
 zs (.storeV [(30, 11), (31, 2), (32, 11), (33, 22), (39, 25)] 42 10 52),
 zM 11 53]
def p25o16 := [zM 54 3,
 zK 55 .eql 67 54 0,
 zM 56 55,
 zt 57 56 (.faddr 0 2),
 zt 58 56 (.load false 1 57),
 zt 59 56 (.prim (.bin .eql 3 false true) [58, kk 101]),
 zo 60 (.pick 56 59 kf),
 zM 61 60,
 zt 62 61 (.faddr 1 2),
 zt 63 61 (.load false 1 62),
 zt 64 61 (.prim (.bin .eql 3 false true) [63, kk 0]),
 zo 65 (.pick 61 64 kf),
 zM 66 65,
 zt 67 66 (.faddr 3 2),
 zt 68 66 (.load false 1 67),
 zt 69 66 (.prim (.bin .eql 3 false true) [68, kk 1]),
 zo 70 (.pick 66 69 kf),
 zM 71 70,
 zt 72 71 (.faddr 4 2),
 zt 73 71 (.faddr 16 72),
 zt 74 71 (.load false 1 73),
 zt 75 71 (.prim (.bin .eql 3 false true) [74, kk 1]),
 zo 76 (.pick 71 75 kf),
 zM 77 76,
 zt 78 77 (.faddr 4 2),
 zt 79 77 (.faddr 17 78),
 zt 80 77 (.load false 1 79),
 zt 81 77 (.prim (.bin .eql 3 false true) [80, kk 1]),
 zo 82 (.pick 77 81 kf),
 zM 83 82,
 zt 84 83 (.mv 5),
 zt 85 83 (.prim (.bin .eql 67 false true) [84, kk 28]),
 zo 86 (.pick 83 85 kf),
 zM 87 86,
 zt 88 87 (.mv 6),
 zt 89 87 (.prim (.bin .eql 67 false true) [88, kk 0]),
 zo 90 (.pick 87 89 kf),
 zM 91 90,
 zt 92 91 (.mv 1),
 zt 93 91 (.gcall false false [300000, 300001, 300002, 300003] [[]] 29 [92]),
 zt 94 91 (.prim (.un .not) [93]),
 zo 95 (.pick 91 94 kf),
 zM 96 95,
 zt 97 96 (.mv 7),
 zt 98 96 (.prim (.bin .eql 3 false true) [97, kk 0]),
 zo 99 (.pick 96 98 kf),
 zM 100 99,
 zt 101 100 (.mv 8),
 zt 102 100 (.prim (.bin .eql 67 false true) [101, kk 17]),
 zo 103 (.pick 100 102 kf),
 zM 104 103,
 zt 105 104 (.mv 9),
 zt 106 104 (.prim (.bin .eql 67 false true) [105, kk 20]),
 zo 107 (.pick 104 106 kf),
 zM 108 107,
 zt 109 108 (.mv 11),
 zt 110 108 (.prim (.bin .eql 67 false true) [109, kk 19]),
 zo 111 (.pick 108 110 kf),
 zM 112 111,
 zt 113 112 (.mv 1),
 zt 114 112 (.gcall false false [300000, 300001, 300002, 300003] [[]] 30 [113]),
 zt 115 112 (.lenS 114),
 zt 116 112 (.prim (.bin .eql 3 false true) [115, kk 0]),
 zo 117 (.pick 112 116 kf),
 zM 0 117]
def pc25_r : List PRes := [PRes.tmp 0 []]
def pc25 : PFunc := ⟨118, pc25_r, (sq (rg p25o1) (sq (rg p25o2) (sq (sq (rg p25o3) (.cond 24 (sq (rg p25o4) (rt)) (.skip))) (sq (rg p25o10) (sq (rg p25o11) (sq (rg p25o12) (sq (rg p25o13) (sq (rg p25o14) (sq (rg p25o15) (sq (rg p25o16) (rt))))))))))), false⟩
def pc25_a : Ann := {
 kr := fun _ => none
 ka := fun _ => 0
 kh := fun _ => none
 gf := fun d f => match d, f with
  | some 12, 27 => some (false, false, [300000, 300001, 300002, 300003, 300004, 300005, 300006, 300007, 300008, 300009, 300010, 300011, 300012, 300013, 300014, 300015, 300016, 300017, 300018, 300019, 300020, 300021, 300022, 300023])
  | some 17, 42 => some (false, false, [300000, 300001, 300002, 300003])
  | some 22, 41 => some (false, false, [300000, 300001, 300002, 300003])
  | some 28, 28 => some (false, false, [300000, 300001, 300002, 300003])
  | some 34, 28 => some (false, false, [300000, 300001, 300002, 300003])
  | some 39, 35 => some (false, false, [300000, 300001, 300002, 300003])
  | some 42, 40 => some (false, false, [300000, 300001, 300002, 300003])
  | some 47, 35 => some (false, false, [300000, 300001, 300002, 300003])
  | some 51, 28 => some (false, false, [300000, 300001, 300002, 300003])
  | some 93, 29 => some (false, false, [300000, 300001, 300002, 300003])
  | some 114, 30 => some (false, false, [300000, 300001, 300002, 300003])
  | _, _ => none
 ow := ow0 }
theorem pc25_ok : compFn Try.prog pc25_a Try.f25 = some pc25 := by kernel_rfl
def p10o1 := [zM 4 kf]
def p10o2 := [zo 15 (.call true [] 25 []),
 zo 16 (.prim (.un .not) [15])]
def p10o3 := [zM 4 kf]
def p10o9 := [zo 17 (.gcall false false [300000, 300001, 300002, 300003, 300004, 300005, 300006, 300007, 300008, 300009, 300010, 300011, 300012, 300013, 300014, 300015, 300016, 300017, 300018, 300019, 300020, 300021, 300022, 300023] [[], []] 27 [kk 2, kk 1]),
 zM 5 17]
def p10o10 := [zM 6 (kk 1)]
def p10o11 := [zM 18 6,
 zM 19 0,
 zo 20 (.prim (.bin .rem 5 false true) [19, .const (.int .u8 5)]),
 zo 21 (.prim (.conv 5 3) [20]),
 zK 22 .add 3 21 1,
 zB 23 .leq 3 18 22]
def p10o16 := [zM 26 6,
 zM 27 1,
 zo 28 (.prim (.conv 5 3) [27]),
 zM 29 1,
 zo 30 (.prim (.conv 5 3) [29]),
 zo 31 (.build (.agg #[ki, ki, ki, ki, ki, ki, ks, ki, ks, ki, ks, ki, ks, ki, .int .u8 0, ki, ki, ki, ks, ki, ks, ki, ks, ki, ks]) [(0, 1, kk 1)]),
 zo 32 (.bslice 58 25 [31]),
 zo 33 (.buildV [(5, 25)] (.agg #[ki, ki, ki, ki, ki, kl]) [(1, 1, kk 2), (2, 1, .tmp 26), (3, 1, .tmp 28), (4, 1, .tmp 30), (5, 1, .tmp 32)]),
 zo 7 (.alloc 32 (.agg #[ki, ki, ki, ki, ki, kl]) [(5, 1000000058, 25)]),
 zs (.storeV [(5, 25)] 6 7 33)]
def p10o17 := [zM 35 5,
 zo 36 (.build (.agg #[ki, ki, ki, ki, ki, ki, ki, ks, ki, ks, ki, ks, ki, ks, ki, ks, ki, ki, ki, ki, ki, ki]) [(0, 1, kk 4)]),
 zo 37 (.gcall false false [300000, 300001, 300002, 300003] [[], [], []] 28 [35, kk 0, 36]),
 zM 34 37,
 zX 38 34 0,
 zX 39 34 1,
 zo 8 (.alloc 73 (.agg #[ki, ki, ki, ki, ki, ki, ki, ki, ki, ki, ki, ks, ki, ks, ki, ks, ki, ks, ki, ks, ki, ki, ki, ki, ki, ki, ki, ki, ki, ki, kl, kl, kl, kl, ki, ki, ki, ki, ki, kl, ki, ki]) [(30, 1000000054, 11), (31, 1000000156, 2), (32, 1000000054, 11), (33, 1000000063, 22), (39, 1000000058, 25)]),
 zs (.storeV [(30, 11), (31, 2), (32, 11), (33, 22), (39, 25)] 42 8 38),
 zM 9 39]
def p10o18 := [zM 40 9,
 zK 41 .neq 67 40 0,
 zM 42 41,
 zf 43 42 (.faddr 40 8),
 zf 44 42 (.load false 1 43),
 zf 45 42 (.mv 6),
 zf 46 42 (.prim (.bin .neq 3 false false) [44, 45]),
 zo 47 (.pick 42 kt 46),
 zM 48 47,
 zf 49 48 (.faddr 3 8),
 zf 50 48 (.load false 1 49),
 zf 51 48 (.prim (.bin .neq 3 false true) [50, kk 1]),
 zo 52 (.pick 48 kt 51),
 zM 53 52,
 zf 54 53 (.mv 5),
 zf 55 53 (.load true 6 7),
 zf 56 53 (.buildV [(30, 11), (31, 2), (32, 11), (33, 22), (39, 25)] (.agg #[ki, ki, ki, ki, ki, ki, ki, ki, ki, ki, ki, ks, ki, ks, ki, ks, ki, ks, ki, ks, ki, ki, ki, ki, ki, ki, ki, ki, ki, ki, kl, kl, kl, kl, ki, ki, ki, ki, ki, kl, ki, ki]) [(1, 1, kk 102), (2, 1, kk 4), (34, 6, .tmp 55)]),
 zf 57 53 (.gcall false false [300000, 300001, 300002, 300003] [[], [(30, 11), (31, 2), (32, 11), (33, 22), (39, 25)]] 35 [54, 56]),
 zf 58 53 (.prim (.bin .neq 67 false true) [57, kk 0]),
 zo 59 (.pick 53 kt 58),
 zM 60 59,
 zf 61 60 (.mv 5),
 zf 62 60 (.gcall false false [300000, 300001, 300002, 300003] [[]] 42 [61]),
 zf 63 60 (.gcall false false [300001, 300002, 300003] [[]] 20 [62]),
 zf 64 60 (.lenS 63),
 zf 65 60 (.prim (.bin .neq 3 false true) [64, kk 1]),
 zo 66 (.pick 60 kt 65),
 zM 67 66,
 zf 68 67 (.mv 5),
 zf 69 67 (.gcall false false [300000, 300001, 300002, 300003] [[]] 42 [68]),
 zf 70 67 (.gcall false false [300001, 300002, 300003] [[]] 17 [69]),
 zf 71 67 (.mv 1),
 zf 72 67 (.prim (.conv 5 3) [71]),
 zf 73 67 (.prim (.bin .neq 3 false false) [70, 72]),
 zo 74 (.pick 67 kt 73)]
def p10o19 := [zM 4 kf]
def p10o25 := [zM 75 5,
 zo 76 (.gcall false false [300000, 300001, 300002, 300003] [[]] 30 [75]),
 zM 10 76]
def p10o26 := [zM 77 10,
 zo 78 (.lenS 77),
 zK 79 .neq 3 78 2,
 zM 80 79,
 zf 81 80 (.mv 10),
 zf 82 80 (.iaddrS 42 81 (kk 1)),
 zf 83 80 (.faddr 2 82),
 zf 84 80 (.load false 1 83),
 zf 85 80 (.prim (.bin .neq 3 false true) [84, kk 5]),
 zo 86 (.pick 80 kt 85),
 zM 87 86,
 zf 88 87 (.mv 10),
 zf 89 87 (.iaddrS 42 88 (kk 1)),
 zf 90 87 (.faddr 41 89),
 zf 91 87 (.load false 1 90),
 zf 92 87 (.mv 1),
 zf 93 87 (.prim (.conv 5 3) [92]),
 zf 94 87 (.prim (.bin .neq 3 false false) [91, 93]),
 zo 95 (.pick 87 kt 94),
 zM 96 95,
 zf 97 96 (.mv 10),
 zf 98 96 (.iaddrS 42 97 (kk 1)),
 zf 99 96 (.faddr 40 98),
 zf 100 96 (.load false 1 99),
 zf 101 96 (.mv 6),
 zf 102 96 (.prim (.bin .neq 3 false false) [100, 101]),
 zo 103 (.pick 96 kt 102)]
def p10o27 := [zM 4 kf]
def p10o34 := [zM 104 5,
 zo 105 (.gcall false false [300000, 300001, 300002, 300003, 300004, 300005, 300006, 300007, 300008, 300009, 300010, 300011, 300012, 300013, 300014, 300015, 300016, 300017, 300018, 300019, 300020, 300021, 300022, 300023] [[]] 38 [104])]
def p10o35 := [zM 106 5,
 zo 107 (.load true 6 7),
 zo 108 (.buildV [(30, 11), (31, 2), (32, 11), (33, 22), (39, 25)] (.agg #[ki, ki, ki, ki, ki, ki, ki, ki, ki, ki, ki, ks, ki, ks, ki, ks, ki, ks, ki, ks, ki, ki, ki, ki, ki, ki, ki, ki, ki, ki, kl, kl, kl, kl, ki, ki, ki, ki, ki, kl, ki, ki]) [(1, 1, kk 102), (2, 1, kk 4), (34, 6, .tmp 107)]),
 zo 109 (.gcall false false [300000, 300004, 300005, 300006] [[], [(30, 11), (31, 2), (32, 11), (33, 22), (39, 25)]] 35 [106, 108]),
 zM 11 109]
def p10o36 := [zM 110 5,
 zM 111 6,
 zo 112 (.buildV [(30, 11), (31, 2), (32, 11), (33, 22), (39, 25)] (.agg #[ki, ki, ki, ki, ki, ki, ki, ki, ki, ki, ki, ks, ki, ks, ki, ks, ki, ks, ki, ks, ki, ki, ki, ki, ki, ki, ki, ki, ki, ki, kl, kl, kl, kl, ki, ki, ki, ki, ki, kl, ki, ki]) [(1, 1, kk 102), (2, 1, kk 2), (40, 1, .tmp 111), (3, 1, kk 1), (27, 1, kk 7)]),
 zo 113 (.gcall false false [300000, 300004, 300005, 300006] [[], [(30, 11), (31, 2), (32, 11), (33, 22), (39, 25)]] 35 [110, 112]),
 zM 12 113]
def p10o37 := [zM 115 5,
 zo 116 (.gcall false false [300000, 300004, 300005, 300006] [[]] 40 [115]),
 zM 114 116,
 zX 117 114 0,
 zX 118 114 1,
 zM 13 117,
 zM 14 118]
def p10o38 := [zM 119 11,
 zK 120 .neq 67 119 0,
 zM 121 120,
 zf 122 121 (.mv 12),
 zf 123 121 (.prim (.bin .neq 67 false true) [122, kk 0]),
 zo 124 (.pick 121 kt 123),
 zM 125 124,
 zf 126 125 (.mv 5),
 zf 127 125 (.gcall false false [300000, 300004, 300005, 300006] [[]] 29 [126]),
 zo 128 (.pick 125 kt 127),
 zM 129 128,
 zf 130 129 (.mv 13),
 zf 131 129 (.prim (.bin .neq 3 false true) [130, kk 0]),
 zo 132 (.pick 129 kt 131),
 zM 133 132,
 zf 134 133 (.mv 14),
 zf 135 133 (.prim (.bin .neq 67 false true) [134, kk 0]),
 zo 136 (.pick 133 kt 135),
 zM 137 136,
 zf 138 137 (.mv 5),
 zf 139 137 (.gcall false false [300000, 300004, 300005, 300006] [[]] 41 [138]),
 zf 140 137 (.mv 6),
 zf 141 137 (.prim (.bin .add 3 false true) [140, kk 1]),
 zf 142 137 (.prim (.bin .neq 3 false false) [139, 141]),
 zo 143 (.pick 137 kt 142),
 zM 144 143,
 zf 145 144 (.mv 5),
 zf 146 144 (.gcall false false [300000, 300004, 300005, 300006] [[]] 42 [145]),
 zf 147 144 (.gcall false false [300004, 300005, 300006] [[]] 20 [146]),
 zf 148 144 (.lenS 147),
 zf 149 144 (.prim (.bin .neq 3 false true) [148, kk 0]),
 zo 150 (.pick 144 kt 149),
 zM 151 150,
 zf 152 151 (.mv 5),
 zf 153 151 (.gcall false false [300000, 300004, 300005, 300006] [[]] 42 [152]),
 zf 154 151 (.gcall false false [300004, 300005, 300006] [[]] 17 [153]),
 zf 155 151 (.prim (.bin .neq 3 false true) [154, .const (.int .i64 (-1))]),
 zo 156 (.pick 151 kt 155),
 zM 157 156,
 zf 158 157 (.mv 5),
 zf 159 157 (.gcall false false [300000, 300004, 300005, 300006] [[]] 30 [158]),
 zf 160 157 (.lenS 159),
 zf 161 157 (.prim (.bin .neq 3 false true) [160, kk 0]),
 zo 162 (.pick 157 kt 161)]
def p10o39 := [zM 4 kf]
def p10o54 := [zM 24 6,
 zK 25 .add 3 24 1,
 zM 6 25]
def p10c56 := sq (sq (.region (some ([0, 1, 5, 6], [7, 8, 300000, 300001, 300002, 300003, 300004, 300005, 300006], [(false, 300004, 0, 300001, 1000000000, 1), (false, 300005, 0, 300002, 1000000000, 1), (false, 300006, 0, 300003, 1000000000, 1)])) false p10o11) (.cond 23 (.skip) (.exit 0))) (sq (.block 1 (sq (rg p10o16) (sq (rg p10o17) (sq (sq (rg p10o18) (.cond 74 (sq (rg p10o19) (rt)) (.skip))) (sq (sq (rg p10o25) (sq (rg p10o26) (.cond 103 (sq (rg p10o27) (rt)) (.skip)))) (sq (rg p10o34) (sq (rg p10o35) (sq (rg p10o36) (sq (rg p10o37) (sq (rg p10o38) (.cond 162 (sq (rg p10o39) (rt)) (.skip)))))))))))) (rg p10o54))
def p10o60 := [zM 4 kt]
def p10c62 := sq (rg p10o60) (rt)
def p10c66 := sq (rg p10o1) (sq (sq (rg p10o2) (.cond 16 (sq (rg p10o3) (rt)) (.skip))) (sq (rg p10o9) (sq (sq (rg p10o10) (.block 0 (.loop p10c56))) p10c62)))
def pc10_r : List PRes := [PRes.tmp 4 []]
def pc10 : PFunc := ⟨163, pc10_r, p10c66, false⟩
def pc10_a : Ann := {
 kr := fun
  | 5 => some ([0, 1, 5, 6], [7, 8, 300000, 300001, 300002, 300003, 300004, 300005, 300006], [(false, 300004, 0, 300001, 1000000000, 1), (false, 300005, 0, 300002, 1000000000, 1), (false, 300006, 0, 300003, 1000000000, 1)])
  | _ => none
 ka := fun _ => 0
 kh := fun _ => none
 gf := fun d f => match d, f with
  | some 17, 27 => some (false, false, [300000, 300001, 300002, 300003, 300004, 300005, 300006, 300007, 300008, 300009, 300010, 300011, 300012, 300013, 300014, 300015, 300016, 300017, 300018, 300019, 300020, 300021, 300022, 300023])
  | some 37, 28 => some (false, false, [300000, 300001, 300002, 300003])
  | some 57, 35 => some (false, false, [300000, 300001, 300002, 300003])
  | some 62, 42 => some (false, false, [300000, 300001, 300002, 300003])
  | some 63, 20 => some (false, false, [300001, 300002, 300003])
  | some 69, 42 => some (false, false, [300000, 300001, 300002, 300003])
  | some 70, 17 => some (false, false, [300001, 300002, 300003])
  | some 76, 30 => some (false, false, [300000, 300001, 300002, 300003])
  | some 105, 38 => some (false, false, [300000, 300001, 300002, 300003, 300004, 300005, 300006, 300007, 300008, 300009, 300010, 300011, 300012, 300013, 300014, 300015, 300016, 300017, 300018, 300019, 300020, 300021, 300022, 300023])
  | some 109, 35 => some (false, false, [300000, 300004, 300005, 300006])
  | some 113, 35 => some (false, false, [300000, 300004, 300005, 300006])
  | some 116, 40 => some (false, false, [300000, 300004, 300005, 300006])
  | some 127, 29 => some (false, false, [300000, 300004, 300005, 300006])
  | some 139, 41 => some (false, false, [300000, 300004, 300005, 300006])
  | some 146, 42 => some (false, false, [300000, 300004, 300005, 300006])
  | some 147, 20 => some (false, false, [300004, 300005, 300006])
  | some 153, 42 => some (false, false, [300000, 300004, 300005, 300006])
  | some 154, 17 => some (false, false, [300004, 300005, 300006])
  | some 159, 30 => some (false, false, [300000, 300004, 300005, 300006])
  | _, _ => none
 ow := ow0 }
theorem pc10_ok : compFn Try.prog pc10_a Try.f10 = some pc10 := by kernel_rfl
end Go.Proofs.Ythdabpmcojmhhaa
