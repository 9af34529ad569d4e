/- No condition. -/
import Derived.Test.YthdabpmcojmhhaaClientPlaysT
namespace Go.Proofs.Ythdabpmcojmhhaa
open Go Go.Rx
set_option maxRecDepth 100000
set_option linter.unusedVariables false
set_option linter.unusedSimpArgs false
set_option linter.unnecessarySimpa false
set_option linter.unnecessarySimpa false
abbrev k0' : List (Nat × Nat) := [(30, 11), (31, 2), (32, 11), (33, 22), (39, 25)]
abbrev k1' : Array Go.Value := #[ki, ki, ki, ki, ki, ki, ki, ki, ki, ki, ki, ks, ki, ks, ki, ks, ki, ks, ki, ks, ki, ki, ki, ki, ki, ki, ki, ki, ki, ki, kl, kl, kl, kl, ki, ki, ki, ki, ki, kl, ki, ki]
abbrev k2' : List Nat := [300000, 300001, 300002, 300003, 300004, 300005, 300006, 300007, 300008, 300009, 300010, 300011, 300012, 300013, 300014, 300015, 300016, 300017, 300018, 300019, 300020, 300021, 300022, 300023]
abbrev k3' : List (Nat × Nat × Nat) := [(30, 1000000054, 11), (31, 1000000156, 2), (32, 1000000054, 11), (33, 1000000063, 22), (39, 1000000058, 25)]
abbrev k4' : Array Go.Value := #[ki, ki, ki, ki, ki, ki, ki, ks, ki, ks, ki, ks, ki, ks, ki, ks, ki, ki, ki, ki, ki, ki]
abbrev k5' : List Nat := [300000, 300001, 300002, 300003, 300004, 300005, 300006, 300007]
abbrev k6' : Array Go.Value := #[ki, ki, ki, ki, ks, ki, ks, ki, ks, ki, ks]
abbrev k7' : List Nat := [13, 300000, 300001, 300002, 300003, 300004, 300005, 300006, 300007, 300008, 300009, 300010, 300011, 300012, 300013, 300014, 300015, 300016, 300017, 300018, 300019, 300020, 300021, 300022, 300023]
abbrev k8' : List Nat := [43, 300000, 300001, 300002, 300003, 300004, 300005, 300006, 300007]
abbrev k9' : List Nat := [10, 12, 300000, 300001, 300002, 300003, 300004, 300005, 300006, 300007, 300008, 300009, 300010, 300011, 300012, 300013]
abbrev k10' : List (Bool × Nat × Nat × Nat × Nat × Nat) := [(false, 300008, 0, 300001, 1000000000, 1), (false, 300009, 0, 300002, 1000000000, 1), (false, 300010, 0, 300003, 1000000000, 1), (false, 300011, 0, 300005, 1000000000, 1), (false, 300012, 0, 300006, 1000000000, 1), (false, 300013, 0, 300007, 1000000000, 1)]
def p17o1 := [zM 2 (kk 0)]
def p17o2 := [zM 3 0,
 zo 4 (.nilc 3),
 zG 5 3 4,
 zL 6 5,
 zM 2 6]
def p17c5 := sq (rg p17o1) (sq (rg p17o2) (rt))
def pc17_r : List PRes := [PRes.tmp 2 []]
def pc17 : PFunc := ⟨7, pc17_r, p17c5, false⟩
def pc17_a : Ann := {
 kr := fun _ => none
 ka := fun _ => 0
 kh := fun _ => none
 ow := ow0 }
theorem pc17_ok : zai Try.prog pc17_a Try.f17 = some pc17 := by kernel_rfl
def p19o1 := [zM 4 kf]
def p19o2 := [zM 6 0,
 zo 7 (.lenS 6),
 zM 8 1,
 zo 9 (.lenS 8),
 zB 10 .neq 3 7 9]
def p19o3 := [zM 4 kf]
def p19o9 := [zM 5 (kk 0)]
def p19o10 := [zM 11 5,
 zM 12 0,
 zo 13 (.lenS 12),
 zB 14 .lss 3 11 13]
def p19o15 := [zi 17 0 (.mv 0),
 zi 18 5 (.mv 5),
 zj 19 17 18 (.iaddrS 11 17 18),
 zi 20 19 (.load true 11 19),
 zi 21 1 (.mv 1),
 zi 22 5 (.mv 5),
 zj 23 21 22 (.iaddrS 11 21 22),
 zi 24 23 (.load true 11 23),
 zj 25 20 24 (.prim (.bin .neq 54 false false) [20, 24])]
def p19o16 := [zM 4 kf]
def p19o23 := [zM 15 5,
 zK 16 .add 3 15 1,
 zM 5 16]
def p19c25 := sq (sq (.region (some ([0, 1, 5], [], [])) false p19o10) (.cond 14 (.skip) (.exit 0))) (sq (.block 1 (sq (rh p19o15) (.cond 25 (sq (rg p19o16) (rt)) (.skip)))) (rg p19o23))
def p19o29 := [zM 4 kt]
def p19c31 := sq (rg p19o29) (rt)
def p19c34 := sq (rg p19o1) (sq (sq (rg p19o2) (.cond 10 (sq (rg p19o3) (rt)) (.skip))) (sq (sq (rg p19o9) (.block 0 (.loop p19c25))) p19c31))
def pc19_r : List PRes := [PRes.tmp 4 []]
def pc19 : PFunc := ⟨26, pc19_r, p19c34, false⟩
def pc19_a : Ann := {
 kr := fun
  | 4 => some ([0, 1, 5], [], [])
  | _ => none
 ka := fun _ => 0
 kh := hg [([0, 1, 5, 17, 18, 19, 20, 21, 22, 23, 24], .imm)]
 ow := ow0 }
theorem pc19_ok : zai Try.prog pc19_a Try.f19 = some pc19 := by kernel_rfl
def p20o1 := [zo 2 (.mv (.const (kl)))]
def p20o2 := [zM 3 0,
 zo 4 (.nilc 3),
 zG 5 5 4,
 zL 6 5,
 zo 7 (.gcall false true [399990, 399991] [[(0, 11)]] 50 [6]),
 zM 2 7]
def p20c5 := sq (rg p20o1) (sq (rg p20o2) (rt))
def pc20_r : List PRes := [PRes.tmp 2 [(0, 11)]]
def pc20 : PFunc := ⟨8, pc20_r, p20c5, false⟩
def pc20_a : Ann := {
 kr := fun _ => none
 ka := fun _ => 0
 kh := fun _ => none
 gf := fun d f => match d, f with
  | some 7, 50 => some (false, true, [399990, 399991])
  | _, _ => none
 ow := ow0 }
theorem pc20_ok : zai Try.prog pc20_a Try.f20 = some pc20 := by kernel_rfl
def p13o1 := [zo 6 (.mv (.const (.pointer none)))]
def p13o2 := [zM 7 0,
 zM 8 1,
 zM 9 2,
 zo 10 (.prim .max [9, kk 1]),
 zo 11 (.prim .min [10, kk 4]),
 zo 12 .mmake,
 zo 13 (.buildV [(5, 11)] (.agg #[ki, ki, ki, ki, ki, kl, kl, .map none]) [(0, 1, .tmp 7), (1, 1, .tmp 8), (2, 1, .tmp 11), (3, 1, .const (.int .i64 (-1))), (4, 1, .const (.int .i64 (-1))), (7, 1, .tmp 12)]),
 zo 14 (.box 99 13 [(5, 1000000054, 11), (6, 58, 25)]),
 zM 6 14]
def p13c5 := sq (rg p13o1) (sq (rg p13o2) (rt))
def pc13_r : List PRes := [PRes.tmp 6 []]
def pc13 : PFunc := ⟨15, pc13_r, p13c5, true⟩
def pc13_a : Ann := {
 kr := fun _ => none
 ka := fun _ => 0
 kh := fun _ => none
 ow := ow0
 ex := true }
theorem pc13_ok : zai Try.prog pc13_a Try.f13 = some pc13 := by kernel_rfl
def p38o1 := [zM 2 0,
 zo 3 (.nilc 2),
 zG 4 2 3,
 zL 5 4,
 zK 6 .add 3 5 1,
 zo 7 (.nilc 2),
 zG 8 2 7,
 zs (.store 1 8 6)]
def p38o2 := [za 9 0 1000000 0 (.mv 0),
 za 10 0 1000000 0 (.mv 0),
 za 11 10 1000000 0 (.nilc 10),
 za 12 11 1000000 0 (.faddr 0 11),
 za 13 12 1000000 0 (.load false 1 12),
 za 14 0 1000000 0 (.mv 0),
 za 15 14 1000000 0 (.nilc 14),
 za 16 15 1000000 0 (.faddr 2 15),
 za 17 16 1000000 2 (.load false 1 16),
 za 18 0 1000000 0 (.mv 0),
 za 19 18 1000000 0 (.nilc 18),
 za 20 19 1000000 0 (.faddr 1 19),
 za 21 20 1000000 1 (.load false 1 20),
 ⟨some 22, .gcall false false k2' [[], [], []] 13 [13, 17, 21], none, [(13, .imm), (17, .imm), (21, .imm)]⟩,
 za 23 9 1000000 0 (.nilc 9),
 za 24 23 1000000 0 (.faddr 3 23),
 zn (.store 1 24 22) [(24, .at_ 1000000 3), (22, .at_ 300000 0)]]
def p38o3 := [zM 25 0,
 zM 26 0,
 zM 27 0,
 zM 28 0,
 zM 29 0,
 zo 30 (.buildV k0' (.agg k1') []),
 zo 31 (.nilc 25),
 zG 32 4 31,
 zs (.storeV k0' 42 32 30),
 zo 33 (.nilc 26),
 zG 34 46 33,
 zs (.store 1 34 kf),
 zo 35 (.nilc 27),
 zG 36 47 35,
 zs (.store 1 36 (kk 0)),
 zo 37 (.nilc 28),
 zG 38 48 37,
 zs (.store 1 38 (kk 0)),
 zo 39 (.nilc 29),
 zG 40 49 39,
 zs (.store 1 40 (kk 0))]
def p38c5 := sq (rg p38o1) (sq (rh p38o2) (rg p38o3))
def pc38_r : List PRes := []
def pc38 : PFunc := ⟨41, pc38_r, p38c5, true⟩
def pc38_a : Ann := {
 kr := fun _ => none
 ka := fun _ => 0
 kh := hg [([0, 9, 10, 11, 12, 14, 15, 18, 19, 23], .at_ 1000000 0), ([13, 17, 21], .imm), ([16], .at_ 1000000 2), ([20], .at_ 1000000 1), ([22], .at_ 300000 0), ([24], .at_ 1000000 3)]
 gf := fun d f => match d, f with
  | some 22, 13 => some (false, false, k2')
  | _, _ => none
 ow := ow0
 ex := true }
theorem pc38_ok : zai Try.prog pc38_a Try.f38 = some pc38 := by kernel_rfl
def p27o1 := [zo 4 (.mv (.const (.pointer none)))]
def p27o2 := [zM 6 0,
 zo 7 (.prim .max [6, kk 0]),
 zo 8 (.prim .min [7, kk 3]),
 zM 9 1,
 zo 10 (.prim .max [9, kk 1]),
 zo 11 (.prim .min [10, kk 4]),
 zo 12 (.buildV [(34, 11), (35, 2), (36, 11), (37, 22), (43, 25)] (.agg #[ki, ki, ki, .pointer none, ki, ki, ki, ki, ki, ki, ki, ki, ki, ki, ki, ks, ki, ks, ki, ks, ki, ks, ki, ks, ki, ki, ki, ki, ki, ki, ki, ki, ki, ki, kl, kl, kl, kl, ki, ki, ki, ki, ki, kl, ki, ki, .bool false, ki, ki, ki]) [(0, 1, .tmp 8), (1, 1, .tmp 11)]),
 zo 13 (.box 109 12 [(34, 1000000054, 11), (35, 1000000156, 2), (36, 1000000054, 11), (37, 1000000063, 22), (43, 1000000058, 25)]),
 zM 5 13]
def p27o3 := [zM 14 5,
 zo 15 (.gcall false false k7' [[]] 38 [14])]
def p27o4 := [zM 16 5,
 zM 4 16]
def p27c9 := sq (rg p27o1) (sq (rg p27o2) (sq (rg p27o3) (sq (rg p27o4) (rt))))
def pc27_r : List PRes := [PRes.tmp 4 []]
def pc27 : PFunc := ⟨17, pc27_r, p27c9, true⟩
def pc27_a : Ann := {
 kr := fun _ => none
 ka := fun _ => 0
 kh := fun _ => none
 gf := fun d f => match d, f with
  | some 15, 38 => some (false, false, k7')
  | _, _ => none
 ow := ow0
 ex := true }
theorem pc27_ok : zai Try.prog pc27_a Try.f27 = some pc27 := by kernel_rfl
def p62o1 := [zo 1 (.box 51 0 []),
 zM 2 kf]
def p62o2 := [zG 3 0 1,
 zL 4 3,
 zK 5 .eql 2 4 0,
 zM 6 5,
 zf 7 6 (.faddr 1 1),
 zf 8 6 (.load false 1 7),
 zf 9 6 (.prim (.bin .eql 9 false true) [8, .const (ks)]),
 zo 10 (.pick 6 kt 9),
 zM 11 10,
 zt 12 11 (.faddr 1 1),
 zt 13 11 (.load false 1 12),
 zt 14 11 (.prim (.len 9) [13]),
 zt 15 11 (.prim (.bin .leq 3 false true) [14, kk 12]),
 zo 16 (.pick 11 15 kf),
 zM 2 16]
def p62c5 := sq (rg p62o1) (sq (rg p62o2) (rt))
def pc62_r : List PRes := [PRes.tmp 2 []]
def pc62 : PFunc := ⟨17, pc62_r, p62c5, false⟩
def pc62_a : Ann := {
 kr := fun _ => none
 ka := fun _ => 0
 kh := fun _ => none
 ow := ow0 }
theorem pc62_ok : zai Try.prog pc62_a Try.f62 = some pc62 := by kernel_rfl
def p63o1 := [zo 1 (.box 63 0 []),
 zo 2 (.alloc 63 (.agg k4') [])]
def p63o2 := [zG 4 0 1,
 zL 5 4,
 zG 6 16 1,
 zL 7 6,
 zG 8 17 1,
 zL 9 8,
 zo 10 (.build (.agg k4') [(0, 1, .tmp 5), (16, 1, .tmp 7), (17, 1, .tmp 9)]),
 zo 3 (.alloc 63 (.agg k4') []),
 zs (.store 22 3 10)]
def p63o3 := [zG 11 0 1,
 zL 12 11]
def p63o4 := [zK 14 .eql 3 12 1,
 zM 13 14]
def p63o5 := [za 15 1 1 0 (.faddr 4 1),
 za 16 15 1 4 (.load true 2 15),
 za 17 1 1 0 (.faddr 6 1),
 za 18 17 1 6 (.load true 8 17),
 za 19 3 3 0 (.faddr 4 3),
 zn (.store 2 19 16) [(19, .at_ 3 4), (16, .imm)],
 za 20 3 3 0 (.faddr 6 3),
 zn (.store 8 20 18) [(20, .at_ 3 6), (18, .imm)]]
def p63o6 := [zK 22 .eql 3 12 2,
 zM 21 22]
def p63o7 := [za 23 1 1 0 (.faddr 1 1),
 za 24 23 1 1 (.load false 1 23),
 za 25 1 1 0 (.faddr 4 1),
 za 26 25 1 4 (.load true 2 25),
 za 27 3 3 0 (.faddr 1 3),
 zn (.store 1 27 24) [(27, .at_ 3 1), (24, .imm)],
 za 28 3 3 0 (.faddr 4 3),
 zn (.store 2 28 26) [(28, .at_ 3 4), (26, .imm)]]
def p63o8 := [zK 30 .eql 3 12 3,
 zM 29 30]
def p63o9 := [za 31 1 1 0 (.faddr 1 1),
 za 32 31 1 1 (.load false 1 31),
 za 33 1 1 0 (.faddr 2 1),
 za 34 33 1 2 (.load false 1 33),
 za 35 1 1 0 (.faddr 14 1),
 za 36 35 1 14 (.load true 2 35),
 za 37 3 3 0 (.faddr 1 3),
 zn (.store 1 37 32) [(37, .at_ 3 1), (32, .imm)],
 za 38 3 3 0 (.faddr 2 3),
 zn (.store 1 38 34) [(38, .at_ 3 2), (34, .imm)],
 za 39 3 3 0 (.faddr 14 3),
 zn (.store 2 39 36) [(39, .at_ 3 14), (36, .imm)]]
def p63o10 := [zK 41 .eql 3 12 4,
 zM 40 41]
def p63o11 := [zG 42 1 1,
 zL 43 42,
 zG 44 1 3,
 zs (.store 1 44 43)]
def p63o12 := [zK 46 .eql 3 12 5,
 zM 45 46]
def p63o13 := [za 47 1 1 0 (.faddr 2 1),
 za 48 47 1 2 (.load false 1 47),
 za 49 1 1 0 (.faddr 3 1),
 za 50 49 1 3 (.load false 1 49),
 za 51 3 3 0 (.faddr 2 3),
 zn (.store 1 51 48) [(51, .at_ 3 2), (48, .imm)],
 za 52 3 3 0 (.faddr 3 3),
 zn (.store 1 52 50) [(52, .at_ 3 3), (50, .imm)]]
def p63o14 := [zK 54 .eql 3 12 6,
 zM 53 54]
def p63o16 := [zK 55 .eql 3 12 7,
 zM 53 55]
def p63o19 := [zG 56 18 1,
 zo 57 (.load true 4 56),
 zG 58 18 3,
 zs (.store 4 58 57)]
def p63o35 := [zo 59 (.load true 22 3),
 zs (.store 22 2 59)]
def p63c40 := sq (rg p63o1) (sq (rg p63o2) (sq (sq (rg p63o3) (.block 0 (sq (rg p63o4) (.cond 13 (rh p63o5) (sq (rg p63o6) (.cond 21 (rh p63o7) (sq (rg p63o8) (.cond 29 (rh p63o9) (sq (rg p63o10) (.cond 40 (rg p63o11) (sq (rg p63o12) (.cond 45 (rh p63o13) (sq (sq (rg p63o14) (.cond 53 (.skip) (rg p63o16))) (.cond 53 (rg p63o19) (.skip))))))))))))))) (sq (rg p63o35) (rt))))
def pc63_r : List PRes := [PRes.cell 2 true 22 []]
def pc63 : PFunc := ⟨60, pc63_r, p63c40, false⟩
def pc63_a : Ann := {
 kr := fun _ => none
 ka := fun _ => 0
 kh := hg [([1], .at_ 1 0), ([3], .at_ 3 0), ([15, 25], .at_ 1 4), ([16, 18, 24, 26, 32, 34, 36, 48, 50], .imm), ([17], .at_ 1 6), ([19, 28], .at_ 3 4), ([20], .at_ 3 6), ([23, 31], .at_ 1 1), ([27, 37], .at_ 3 1), ([33, 47], .at_ 1 2), ([35], .at_ 1 14), ([38, 51], .at_ 3 2), ([39], .at_ 3 14), ([49], .at_ 1 3), ([52], .at_ 3 3)]
 ow := ow0 }
theorem pc63_ok : zai Try.prog pc63_a Try.f63 = some pc63 := by kernel_rfl
def p64o1 := [zM 2 kf]
def p64o3 := [zM 5 0,
 zo 6 (.lenS 5),
 zM 7 (kk 0)]
def p64o4 := [zB 8 .lss 3 7 6]
def p64o8 := [zo 9 (.iaddrS 1 5 7),
 zL 10 9,
 zM 4 10]
def p64o9 := [zM 11 4,
 zo 12 (.prim (.bin .geq 3 false true) [11, .const (.int .i64 (-1000))]),
 zM 13 12,
 zt 14 13 (.mv 4),
 zt 15 13 (.prim (.bin .leq 3 false true) [14, kk 1000]),
 zo 16 (.pick 13 15 kf)]
def p64o14 := [zM 2 kf]
def p64o20 := [zK 17 .add 3 7 1,
 zM 7 17]
def p64c23 := sq (.region (some ([5, 6, 7], [], [])) false p64o4) (sq (.cond 8 (.skip) (.exit 0)) (sq (.block 1 (sq (rg p64o8) (sq (sq (rg p64o9) (.cond 16 (.exit 1) (.skip))) (sq (rg p64o14) (rt))))) (rg p64o20)))
def p64o27 := [zM 2 kt]
def p64c29 := sq (rg p64o27) (rt)
def p64c33 := sq (rg p64o1) (.scope (sq (.label) (sq (sq (rg p64o3) (.block 0 (.loop p64c23))) p64c29)))
def pc64_r : List PRes := [PRes.tmp 2 []]
def pc64 : PFunc := ⟨18, pc64_r, p64c33, false⟩
def pc64_a : Ann := {
 kr := fun
  | 2 => some ([5, 6, 7], [], [])
  | _ => none
 ka := fun _ => 0
 kh := fun _ => none
 ow := ow0 }
theorem pc64_ok : zai Try.prog pc64_a Try.f64 = some pc64 := by kernel_rfl
def p51o1 := [zo 1 (.box 63 0 []),
 zM 2 kf]
def p51o2 := [zG 8 6 1,
 zo 9 (.load true 8 8),
 zM 10 (kk 0)]
def p51o3 := [zK 11 .lss 3 10 4]
def p51o7 := [zo 12 (.idx true 2 4 9 10),
 zo 4 (.alloc 51 (.agg #[ki, ks]) []),
 zs (.store 2 4 12)]
def p51o8 := [zo 13 (.load true 2 4),
 zo 14 (.call true [[]] 62 [13]),
 zo 15 (.prim (.un .not) [14])]
def p51o9 := [zM 2 kf]
def p51o17 := [zK 16 .add 3 10 1,
 zM 10 16]
def p51o24 := [za 17 1 1 0 (.faddr 0 1),
 za 18 17 1 0 (.load false 1 17),
 zi 19 18 (.prim (.bin .geq 3 false true) [18, kk 1]),
 zi 20 19 (.mv 19),
 ⟨some 21, .faddr 0 1, some (20, true), [(1, .at_ 1 0)]⟩,
 ⟨some 22, .load false 1 21, some (20, true), [(21, .at_ 1 0)]⟩,
 ⟨some 23, .prim (.bin .leq 3 false true) [22, kk 8], some (20, true), [(22, .imm)]⟩,
 zj 24 20 23 (.pick 20 23 kf),
 zi 25 24 (.mv 24),
 ⟨some 26, .load true 22 1, some (25, true), [(1, .at_ 1 0)]⟩,
 ⟨some 27, .load true 22 1, some (25, true), [(1, .at_ 1 0)]⟩,
 ⟨some 28, .call false [[]] 63 [27], some (25, true), [(27, .imm)]⟩,
 ⟨some 29, .prim (.bin .eql 63 false false) [26, 28], some (25, true), [(26, .imm), (28, .imm)]⟩,
 zj 30 25 29 (.pick 25 29 kf),
 zi 5 30 (.mv 30)]
def p51o25 := [zG 31 16 1,
 zL 32 31,
 zK 33 .geq 3 32 0,
 zM 34 33,
 zt 35 34 (.faddr 16 1),
 zt 36 34 (.load false 1 35),
 zt 37 34 (.prim (.bin .lss 3 false true) [36, kk 4]),
 zo 38 (.pick 34 37 kf),
 zM 39 38,
 zt 40 39 (.faddr 17 1),
 zt 41 39 (.load false 1 40),
 zt 42 39 (.prim (.bin .geq 3 false true) [41, kk 0]),
 zo 43 (.pick 39 42 kf),
 zM 44 43,
 zt 45 44 (.faddr 17 1),
 zt 46 44 (.load false 1 45),
 zt 47 44 (.prim (.bin .leq 3 false true) [46, kk 1000000]),
 zo 48 (.pick 44 47 kf),
 zM 6 48]
def p51o26 := [zG 49 1 1,
 zL 50 49,
 zK 51 .geq 3 50 0,
 zM 52 51,
 zt 53 52 (.faddr 1 1),
 zt 54 52 (.load false 1 53),
 zt 55 52 (.prim (.bin .leq 3 false true) [54, kk 1000000]),
 zo 56 (.pick 52 55 kf),
 zM 57 56,
 zt 58 57 (.faddr 2 1),
 zt 59 57 (.load false 1 58),
 zt 60 57 (.prim (.bin .geq 3 false true) [59, .const (.int .i64 (-1))]),
 zo 61 (.pick 57 60 kf),
 zM 62 61,
 zt 63 62 (.faddr 2 1),
 zt 64 62 (.load false 1 63),
 zt 65 62 (.prim (.bin .leq 3 false true) [64, kk 100]),
 zo 66 (.pick 62 65 kf),
 zM 67 66,
 zt 68 67 (.faddr 3 1),
 zt 69 67 (.load false 1 68),
 zt 70 67 (.prim (.bin .geq 3 false true) [69, .const (.int .i64 (-1))]),
 zo 71 (.pick 67 70 kf),
 zM 72 71,
 zt 73 72 (.faddr 3 1),
 zt 74 72 (.load false 1 73),
 zt 75 72 (.prim (.bin .leq 3 false true) [74, kk 100]),
 zo 76 (.pick 72 75 kf),
 zM 77 76,
 zt 78 77 (.faddr 14 1),
 zt 79 77 (.load true 2 78),
 zt 80 77 (.call true [[]] 62 [79]),
 zo 81 (.pick 77 80 kf),
 zM 7 81]
def p51o27 := [zM 82 5,
 zM 83 82,
 zt 84 83 (.mv 6),
 zo 85 (.pick 83 84 kf),
 zM 86 85,
 zt 87 86 (.mv 7),
 zo 88 (.pick 86 87 kf),
 zM 89 88,
 zt 90 89 (.faddr 4 1),
 zt 91 89 (.faddr 0 90),
 zt 92 89 (.load false 1 91),
 zt 93 89 (.faddr 4 1),
 zt 94 89 (.faddr 1 93),
 zt 95 89 (.load false 1 94),
 zt 96 89 (.faddr 18 1),
 zt 97 89 (.faddr 0 96),
 zt 98 89 (.load false 1 97),
 zt 99 89 (.faddr 18 1),
 zt 100 89 (.faddr 1 99),
 zt 101 89 (.load false 1 100),
 zt 102 89 (.faddr 18 1),
 zt 103 89 (.faddr 2 102),
 zt 104 89 (.load false 1 103),
 zt 105 89 (.faddr 18 1),
 zt 106 89 (.faddr 3 105),
 zt 107 89 (.load false 1 106),
 zt 108 89 (.bslice 3 1 [92, 95, 98, 101, 104, 107]),
 zt 109 89 (.call true [[(0, 1)]] 64 [108]),
 zo 110 (.pick 89 109 kf),
 zM 2 110]
def p51c29 := sq (.region (some ([1, 5, 6, 7], [1], [])) false p51o27) (rt)
def p51c30 := sq (.region (some ([1, 5, 6], [1], [])) false p51o26) p51c29
def p51c31 := sq (.region (some ([1, 5], [1], [])) false p51o25) p51c30
def p51c34 := sq (rg p51o1) (sq (sq (rg p51o2) (.block 0 (.loop (sq (.region (some ([1, 9, 10], [1, 4], [])) false p51o3) (sq (.cond 11 (.skip) (.exit 0)) (sq (.block 1 (sq (rg p51o7) (sq (rg p51o8) (.cond 15 (sq (rg p51o9) (rt)) (.skip))))) (rg p51o17))))))) (sq (rh p51o24) p51c31))
def pc51_r : List PRes := [PRes.tmp 2 []]
def pc51 : PFunc := ⟨111, pc51_r, p51c34, false⟩
def pc51_a : Ann := {
 kr := fun
  | 2 => some ([1, 9, 10], [1, 4], [])
  | 8 => some ([1, 5], [1], [])
  | 9 => some ([1, 5, 6], [1], [])
  | 10 => some ([1, 5, 6, 7], [1], [])
  | _ => none
 ka := fun _ => 0
 kh := hg [([1, 17, 21], .at_ 1 0), ([18, 19, 20, 22, 23, 24, 25, 26, 27, 28, 29, 30], .imm)]
 ow := ow0 }
theorem pc51_ok : zai Try.prog pc51_a Try.f51 = some pc51 := by kernel_rfl
def p28o1 := [zo 5 (.box 63 2 []),
 zo 6 (.alloc 73 (.agg k1') k3'),
 zM 7 (kk 0)]
def p28o2 := [za 8 0 1000000 0 (.mv 0),
 za 9 8 1000000 0 (.nilc 8),
 za 10 9 1000000 0 (.faddr 0 9),
 za 11 10 1000000 0 (.load false 1 10),
 za 12 0 1000000 0 (.mv 0),
 za 13 12 1000000 0 (.nilc 12),
 za 14 13 1000000 0 (.faddr 2 13),
 za 15 14 1000000 2 (.load false 1 14),
 za 16 5 5 0 (.faddr 16 5),
 zn (.store 1 16 11) [(16, .at_ 5 16), (11, .imm)],
 za 17 5 5 0 (.faddr 17 5),
 zn (.store 1 17 15) [(17, .at_ 5 17), (15, .imm)]]
def p28o3 := [zM 19 0,
 zo 20 (.nilc 19),
 zG 21 46 20,
 zL 22 21,
 zM 18 22]
def p28o4 := [zo 23 (.buildV k0' (.agg k1') []),
 zs (.storeV k0' 42 6 23),
 zM 7 (kk 28)]
def p28o7 := [zM 25 1,
 zK 26 .lss 3 25 0,
 zM 27 26,
 zf 28 27 (.mv 1),
 zf 29 27 (.mv 0),
 zf 30 27 (.nilc 29),
 zf 31 27 (.faddr 1 30),
 zf 32 27 (.load false 1 31),
 zf 33 27 (.prim (.bin .geq 3 false false) [28, 32]),
 zo 34 (.pick 27 kt 33),
 zM 24 34]
def p28o8 := [zo 35 (.buildV k0' (.agg k1') []),
 zs (.storeV k0' 42 6 35),
 zM 7 (kk 19)]
def p28o11 := [zo 37 (.load true 22 5),
 zo 38 (.call true [[]] 51 [37]),
 zo 39 (.prim (.un .not) [38]),
 zM 36 39]
def p28o12 := [zo 40 (.buildV k0' (.agg k1') []),
 zs (.storeV k0' 42 6 40),
 zM 7 (kk 11)]
def p28o23 := [zM 41 0,
 zo 42 (.nilc 41),
 zG 43 47 42,
 zL 44 43,
 zK 45 .add 3 44 1,
 zo 46 (.nilc 41),
 zG 47 47 46,
 zs (.store 1 47 45)]
def p28o24 := [zM 48 0,
 zo 49 (.nilc 48),
 zG 50 46 49,
 zs (.store 1 50 kt)]
def p28o25 := [za 51 0 1000000 0 (.mv 0),
 za 52 0 1000000 0 (.mv 0),
 za 53 52 1000000 0 (.nilc 52),
 za 54 53 1000000 0 (.faddr 0 53),
 za 55 54 1000000 0 (.load false 1 54),
 zi 56 55 (.prim (.bin .add 3 true false) [kk 100, 55]),
 zi 57 1 (.mv 1),
 za 58 0 1000000 0 (.mv 0),
 za 59 58 1000000 0 (.nilc 58),
 za 60 59 1000000 0 (.faddr 47 59),
 za 61 60 1000000 47 (.load false 1 60),
 za 62 5 5 0 (.load true 22 5),
 za 63 0 1000000 0 (.mv 0),
 za 64 63 1000000 0 (.nilc 63),
 za 65 64 1000000 0 (.faddr 2 64),
 za 66 65 1000000 2 (.load false 1 65),
 ⟨some 67, .buildV k0' (.agg k1') [(0, 1, .tmp 56), (1, 1, .tmp 57), (2, 1, kk 1), (3, 1, .tmp 61), (4, 22, .tmp 62), (40, 1, .tmp 66)], none, [(56, .imm), (57, .imm), (61, .imm), (62, .imm), (66, .imm)]⟩,
 za 68 51 1000000 0 (.nilc 51),
 za 69 68 1000000 0 (.faddr 4 68),
 zn (.storeV k0' 42 69 67) [(69, .at_ 1000000 4), (67, .imm)]]
def p28o26 := [zM 70 0,
 zo 71 (.nilc 70),
 zG 72 4 71,
 zo 73 (.load true 42 72),
 zs (.storeV k0' 42 6 73),
 zM 7 (kk 0)]
def p28c34 := sq (rg p28o1) (sq (rh p28o2) (sq (.block 0 (sq (rg p28o3) (.cond 18 (sq (rg p28o4) (rt)) (sq (rg p28o7) (.cond 24 (sq (rg p28o8) (rt)) (sq (rg p28o11) (.cond 36 (sq (rg p28o12) (rt)) (.skip)))))))) (sq (rg p28o23) (sq (rg p28o24) (sq (rh p28o25) (sq (rg p28o26) (rt)))))))
def pc28_r : List PRes := [PRes.cell 6 true 42 k0', PRes.tmp 7 []]
def pc28 : PFunc := ⟨74, pc28_r, p28c34, false⟩
def pc28_a : Ann := {
 kr := fun _ => none
 ka := fun _ => 0
 kh := hg [([0, 8, 9, 10, 12, 13, 51, 52, 53, 54, 58, 59, 63, 64, 68], .at_ 1000000 0), ([1, 11, 15, 55, 56, 57, 61, 62, 66, 67], .imm), ([5], .at_ 5 0), ([14, 65], .at_ 1000000 2), ([16], .at_ 5 16), ([17], .at_ 5 17), ([60], .at_ 1000000 47), ([69], .at_ 1000000 4)]
 ow := ow0 }
theorem pc28_ok : zai Try.prog pc28_a Try.f28 = some pc28 := by kernel_rfl
def p29o1 := [zM 2 kf]
def p29o2 := [zM 3 0,
 zo 4 (.nilc 3),
 zG 5 46 4,
 zL 6 5,
 zM 2 6]
def p29c5 := sq (rg p29o1) (sq (rg p29o2) (rt))
def pc29_r : List PRes := [PRes.tmp 2 []]
def pc29 : PFunc := ⟨7, pc29_r, p29c5, false⟩
def pc29_a : Ann := {
 kr := fun _ => none
 ka := fun _ => 0
 kh := fun _ => none
 ow := ow0 }
theorem pc29_ok : zai Try.prog pc29_a Try.f29 = some pc29 := by kernel_rfl
def p30o1 := [zo 2 (.mv (.const (kl)))]
def p30o2 := [zo 3 (.mv (.const (kl)))]
def p30o3 := [zM 5 0,
 zo 6 (.nilc 5),
 zG 7 46 6,
 zL 8 7]
def p30o4 := [zM 9 3,
 zM 10 0,
 zo 11 (.nilc 10),
 zG 12 4 11,
 zo 13 (.load true 42 12),
 zo 14 (.bslice 73 42 [13]),
 zo 15 (.app 100003 73 42 456 9 14),
 zM 3 15]
def p30o9 := [zM 16 0,
 zo 17 (.nilc 16),
 zG 18 1 17,
 zL 19 18,
 zM 20 (kk 0)]
def p30o10 := [zB 21 .lss 3 20 19]
def p30o14 := [zM 22 20,
 zM 4 22]
def p30o15 := [zM 23 0,
 zo 24 (.nilc 23),
 zG 25 3 24,
 zL 26 25,
 zo 27 (.gcall false false [1000001, 1000002, 1000003] [[]] 17 [26]),
 zK 28 .lss 3 27 0]
def p30o20 : List POper := [⟨some 29, .mv 3, none, [(3, .obj 100003)]⟩,
 za 30 0 1000000 0 (.mv 0),
 za 31 30 1000000 0 (.nilc 30),
 za 32 31 1000000 0 (.faddr 0 31),
 za 33 32 1000000 0 (.load false 1 32),
 zi 34 33 (.prim (.bin .add 3 true false) [kk 100, 33]),
 zi 35 4 (.mv 4),
 za 36 0 1000000 0 (.mv 0),
 za 37 36 1000000 0 (.nilc 36),
 za 38 37 1000000 0 (.faddr 2 37),
 za 39 38 1000000 2 (.load false 1 38),
 za 40 0 1000000 0 (.mv 0),
 za 41 40 1000000 0 (.nilc 40),
 za 42 41 1000000 0 (.faddr 3 41),
 za 43 42 1000000 3 (.load false 1 42),
 za 44 43 1000001 0 (.gcall false false [1000001, 1000002, 1000003] [[]] 17 [43]),
 ⟨some 45, .buildV k0' (.agg k1') [(0, 1, .tmp 34), (1, 1, .tmp 35), (2, 1, kk 5), (40, 1, .tmp 39), (41, 1, .tmp 44)], none, [(34, .imm), (35, .imm), (39, .imm), (44, .imm)]⟩,
 zi 46 45 (.bslice 73 42 [45]),
 ⟨some 47, .app 100003 73 42 456 29 46, none, [(29, .obj 100003), (46, .imm)]⟩,
 ⟨some 3, .mv 47, none, [(47, .obj 100003)]⟩]
def p30o24 := [zK 48 .add 3 20 1,
 zM 20 48]
def p30c27 := sq (.region (some ([0, 3, 19, 20], [100003, 1000000, 1000001, 1000002, 1000003], [(false, 3, 0, 100003, 73, 42)])) false p30o10) (sq (.cond 21 (.skip) (.exit 0)) (sq (.block 1 (sq (rg p30o14) (sq (sq (rg p30o15) (.cond 28 (.exit 0) (.skip))) (rh p30o20)))) (rg p30o24)))
def p30o31 := [zM 49 3,
 zM 2 49]
def p30c33 := sq (rg p30o31) (rt)
def p30c39 := sq (rg p30o1) (.scope (sq (rg p30o2) (sq (sq (rg p30o3) (.cond 8 (rg p30o4) (.skip))) (sq (.label) (sq (sq (rg p30o9) (.block 0 (.loop p30c27))) p30c33)))))
def pc30_r : List PRes := [PRes.tmp 2 [(0, 42)]]
def pc30 : PFunc := ⟨50, pc30_r, p30c39, false⟩
def pc30_a : Ann := {
 kr := fun
  | 5 => some ([0, 3, 19, 20], [100003, 1000000, 1000001, 1000002, 1000003], [(false, 3, 0, 100003, 73, 42)])
  | _ => none
 ka := fun
  | 15 => 100003
  | 47 => 100003
  | _ => 0
 kh := hg [([0, 30, 31, 32, 36, 37, 40, 41], .at_ 1000000 0), ([3, 29, 47], .obj 100003), ([4, 33, 34, 35, 39, 44, 45, 46], .imm), ([38], .at_ 1000000 2), ([42], .at_ 1000000 3), ([43], .at_ 1000001 0)]
 gf := fun d f => match d, f with
  | some 27, 17 => some (false, false, [1000001, 1000002, 1000003])
  | some 44, 17 => some (false, false, [1000001, 1000002, 1000003])
  | _, _ => none
 ow := ow0 }
theorem pc30_ok : zai Try.prog pc30_a Try.f30 = some pc30 := by kernel_rfl
def p77o1 := [zo 1 (.box 49 0 []),
 zM 2 kf]
def p77o2 := [zG 3 0 1,
 zL 4 3,
 zK 5 .geq 3 4 0,
 zM 6 5,
 zt 7 6 (.faddr 0 1),
 zt 8 6 (.load false 1 7),
 zt 9 6 (.prim (.bin .lss 3 false true) [8, kk 64]),
 zo 10 (.pick 6 9 kf),
 zM 11 10,
 zt 12 11 (.faddr 1 1),
 zt 13 11 (.load false 1 12),
 zt 14 11 (.prim (.bin .geq 3 false true) [13, kk 0]),
 zo 15 (.pick 11 14 kf),
 zM 16 15,
 zt 17 16 (.faddr 1 1),
 zt 18 16 (.load false 1 17),
 zt 19 16 (.prim (.bin .lss 3 false true) [18, kk 64]),
 zo 20 (.pick 16 19 kf),
 zM 2 20]
def p77c5 := sq (rg p77o1) (sq (rg p77o2) (rt))
def pc77_r : List PRes := [PRes.tmp 2 []]
def pc77 : PFunc := ⟨21, pc77_r, p77c5, false⟩
def pc77_a : Ann := {
 kr := fun _ => none
 ka := fun _ => 0
 kh := fun _ => none
 ow := ow0 }
theorem pc77_ok : zai Try.prog pc77_a Try.f77 = some pc77 := by kernel_rfl
def p79o1 := [zo 1 (.box 51 0 []),
 zM 2 kf]
def p79o2 := [zo 3 (.load true 2 1),
 zo 4 (.call true [[]] 62 [3]),
 zo 5 (.prim (.un .not) [4]),
 zM 2 5]
def p79c5 := sq (rg p79o1) (sq (rg p79o2) (rt))
def pc79_r : List PRes := [PRes.tmp 2 []]
def pc79 : PFunc := ⟨6, pc79_r, p79c5, false⟩
def pc79_a : Ann := {
 kr := fun _ => none
 ka := fun _ => 0
 kh := fun _ => none
 ow := ow0 }
theorem pc79_ok : zai Try.prog pc79_a Try.f79 = some pc79 := by kernel_rfl
def p91o1 := [zM 4 (kk 0)]
def p91o2 := [zM 6 0,
 zo 7 (.lenS 6),
 zM 8 (kk 0)]
def p91o3 := [zB 9 .lss 3 8 7]
def p91o7 := [zM 10 8,
 zM 5 10]
def p91o8 := [zM 11 1,
 zM 12 0,
 zM 13 5,
 zo 14 (.iaddrS 2 12 13),
 zo 15 (.load true 2 14),
 zo 16 (.callv true [[]] 11 [15])]
def p91o9 := [zM 17 5,
 zM 4 17]
def p91o17 := [zK 18 .add 3 8 1,
 zM 8 18]
def p91c20 := sq (.region (some ([0, 1, 7, 8], [], [])) false p91o3) (sq (.cond 9 (.skip) (.exit 0)) (sq (.block 1 (sq (rg p91o7) (sq (rg p91o8) (.cond 16 (sq (rg p91o9) (rt)) (.skip))))) (rg p91o17)))
def p91o24 := [zM 4 (kk (-1))]
def p91c26 := sq (rg p91o24) (rt)
def p91c28 := sq (rg p91o1) (sq (sq (rg p91o2) (.block 0 (.loop p91c20))) p91c26)
def pc91_r : List PRes := [PRes.tmp 4 []]
def pc91 : PFunc := ⟨19, pc91_r, p91c28, false⟩
def pc91_a : Ann := {
 kr := fun
  | 2 => some ([0, 1, 7, 8], [], [])
  | _ => none
 ka := fun _ => 0
 kh := fun _ => none
 ow := ow0 }
theorem pc91_ok : zai Try.prog pc91_a Try.f91 = some pc91 := by kernel_rfl
def p78o1 := [zM 4 kf]
def p78o2 := [zM 5 0,
 zM 6 1,
 zo 7 (.gcall false false [] [[(0, 2)], []] 91 [5, 6]),
 zK 8 .geq 3 7 0,
 zM 4 8]
def p78c5 := sq (rg p78o1) (sq (rg p78o2) (rt))
def pc78_r : List PRes := [PRes.tmp 4 []]
def pc78 : PFunc := ⟨9, pc78_r, p78c5, false⟩
def pc78_a : Ann := {
 kr := fun _ => none
 ka := fun _ => 0
 kh := fun _ => none
 gf := fun d f => match d, f with
  | some 7, 91 => some (false, false, [])
  | _, _ => none
 ow := ow0 }
theorem pc78_ok : zai Try.prog pc78_a Try.f78 = some pc78 := by kernel_rfl
def p72o1 := [zo 1 (.box 54 0 []),
 zM 2 kf]
def p72o2 := [zG 3 0 1,
 zL 4 3,
 zK 5 .geq 3 4 0,
 zM 6 5,
 zt 7 6 (.faddr 0 1),
 zt 8 6 (.load false 1 7),
 zt 9 6 (.prim (.bin .leq 3 false true) [8, kk 1000000]),
 zo 10 (.pick 6 9 kf),
 zM 11 10,
 zt 12 11 (.faddr 1 1),
 zt 13 11 (.load true 2 12),
 zt 14 11 (.call true [[]] 77 [13]),
 zo 15 (.pick 11 14 kf),
 zM 16 15,
 zt 17 16 (.faddr 3 1),
 zt 18 16 (.slcA 4 2 17 none none),
 zt 19 16 (.gcall false false [1] [[(0, 2)], []] 78 [18, .func 79]),
 zt 20 16 (.prim (.un .not) [19]),
 zo 21 (.pick 16 20 kf),
 zM 2 21]
def p72c5 := sq (rg p72o1) (sq (rg p72o2) (rt))
def pc72_r : List PRes := [PRes.tmp 2 []]
def pc72 : PFunc := ⟨22, pc72_r, p72c5, false⟩
def pc72_a : Ann := {
 kr := fun _ => none
 ka := fun _ => 0
 kh := fun _ => none
 gf := fun d f => match d, f with
  | some 19, 78 => some (false, false, [1])
  | _, _ => none
 ow := ow0 }
theorem pc72_ok : zai Try.prog pc72_a Try.f72 = some pc72 := by kernel_rfl
def p80o1 := [zM 4 kf]
def p80o2 := [zM 5 0,
 zM 6 1,
 zK 7 .add 3 6 1,
 zB 8 .shr 5 5 7,
 zo 9 (.prim (.bin .and 5 false true) [8, .const (.int .u8 1)]),
 zo 10 (.prim (.bin .eql 5 false true) [9, .const (.int .u8 1)]),
 zM 4 10]
def p80c5 := sq (rg p80o1) (sq (rg p80o2) (rt))
def pc80_r : List PRes := [PRes.tmp 4 []]
def pc80 : PFunc := ⟨11, pc80_r, p80c5, false⟩
def pc80_a : Ann := {
 kr := fun _ => none
 ka := fun _ => 0
 kh := fun _ => none
 ow := ow0 }
theorem pc80_ok : zai Try.prog pc80_a Try.f80 = some pc80 := by kernel_rfl
def p73o1 := [zo 1 (.box 56 0 []),
 zM 2 kf]
def p73o2 := [zG 5 0 1,
 zL 6 5,
 zK 7 .lss 3 6 0,
 zM 8 7,
 zf 9 8 (.faddr 0 1),
 zf 10 8 (.load false 1 9),
 zf 11 8 (.prim (.bin .gtr 3 false true) [10, kk 1000000]),
 zo 12 (.pick 8 kt 11),
 zM 13 12,
 zf 14 13 (.faddr 1 1),
 zf 15 13 (.load false 1 14),
 zf 16 13 (.prim (.bin .eql 5 false true) [15, .const (.int .u8 0)]),
 zo 17 (.pick 13 kt 16),
 zM 18 17,
 zf 19 18 (.faddr 1 1),
 zf 20 18 (.load false 1 19),
 zf 21 18 (.prim (.bin .gtr 5 false true) [20, .const (.int .u8 31)]),
 zo 22 (.pick 18 kt 21)]
def p73o3 := [zM 2 kf]
def p73o9 := [zG 23 1 1,
 zL 24 23,
 zo 25 (.prim (.bin .and 5 false true) [24, .const (.int .u8 1)]),
 zo 26 (.prim (.bin .eql 5 false true) [25, .const (.int .u8 0)]),
 zM 27 26,
 zt 28 27 (.faddr 2 1),
 zt 29 27 (.load true 2 28),
 zt 30 27 (.build (.agg #[ki, ki]) []),
 zt 31 27 (.prim (.bin .neq 49 false false) [29, 30]),
 zo 32 (.pick 27 31 kf),
 zM 33 32,
 zf 34 33 (.faddr 2 1),
 zf 35 33 (.load true 2 34),
 zf 36 33 (.call true [[]] 77 [35]),
 zf 37 33 (.prim (.un .not) [36]),
 zo 38 (.pick 33 kt 37)]
def p73o10 := [zM 2 kf]
def p73o16 := [zG 39 4 1,
 zo 40 (.load true 8 39),
 zM 41 (kk 0)]
def p73o17 := [zK 42 .lss 3 41 4]
def p73o21 := [zM 43 41,
 zo 44 (.idx true 2 4 40 41),
 zo 4 (.alloc 51 (.agg #[ki, ks]) []),
 zM 3 43,
 zs (.store 2 4 44)]
def p73o22 := [zo 45 (.load true 2 4),
 zo 46 (.call true [[]] 62 [45]),
 zo 47 (.prim (.un .not) [46]),
 zM 48 47,
 zf 49 48 (.faddr 1 1),
 zf 50 48 (.load false 1 49),
 zf 51 48 (.mv 3),
 zf 52 48 (.call true [[], []] 80 [50, 51]),
 zf 53 48 (.prim (.un .not) [52]),
 zf 54 48 (.mv 53),
 zt 55 54 (.load true 2 4),
 zt 56 54 (.build (.agg #[ki, ks]) []),
 zt 57 54 (.prim (.bin .neq 51 false false) [55, 56]),
 zf 58 48 (.pick 54 57 kf),
 zo 59 (.pick 48 kt 58)]
def p73o23 := [zM 2 kf]
def p73o31 := [zK 60 .add 3 41 1,
 zM 41 60]
def p73c34 := sq (.region (some ([1, 40, 41], [1, 4], [])) false p73o17) (sq (.cond 42 (.skip) (.exit 0)) (sq (.block 1 (sq (rg p73o21) (sq (rg p73o22) (.cond 59 (sq (rg p73o23) (rt)) (.skip))))) (rg p73o31)))
def p73o38 := [zM 2 kt]
def p73c40 := sq (rg p73o38) (rt)
def p73c41 := sq (sq (.region (some ([1], [1], [])) false p73o16) (.block 0 (.loop p73c34))) p73c40
def p73c44 := sq (rg p73o1) (sq (sq (rg p73o2) (.cond 22 (sq (rg p73o3) (rt)) (.skip))) (sq (sq (rg p73o9) (.cond 38 (sq (rg p73o10) (rt)) (.skip))) p73c41))
def pc73_r : List PRes := [PRes.tmp 2 []]
def pc73 : PFunc := ⟨61, pc73_r, p73c44, false⟩
def pc73_a : Ann := {
 kr := fun
  | 5 => some ([1], [1], [])
  | 6 => some ([1, 40, 41], [1, 4], [])
  | _ => none
 ka := fun _ => 0
 kh := fun _ => none
 ow := ow0 }
theorem pc73_ok : zai Try.prog pc73_a Try.f73 = some pc73 := by kernel_rfl
def p57o1 := [zo 1 (.box 58 0 []),
 zM 2 kf]
def p57o2 := [za 5 1 1 0 (.faddr 2 1),
 za 6 5 1 2 (.load true 11 5),
 zo 7 (.build (.agg k6') []),
 zj 8 6 7 (.prim (.bin .eql 54 false false) [6, 7]),
 za 9 1 1 0 (.faddr 13 1),
 za 10 9 1 13 (.load true 12 9),
 zo 11 (.build (.agg #[ki, .int .u8 0, ki, ki, ki, ks, ki, ks, ki, ks, ki, ks]) []),
 zj 12 10 11 (.prim (.bin .eql 56 false false) [10, 11]),
 zi 3 8 (.mv 8),
 zi 4 12 (.mv 12)]
def p57o3 := [zG 13 0 1,
 zL 14 13]
def p57o4 := [zK 16 .eql 3 14 1,
 zM 15 16]
def p57o5 := [zG 17 2 1,
 zo 18 (.load true 11 17),
 zo 19 (.call true [[]] 72 [18]),
 zM 20 19,
 zt 21 20 (.faddr 1 1),
 zt 22 20 (.load false 1 21),
 zt 23 20 (.faddr 2 1),
 zt 24 20 (.faddr 0 23),
 zt 25 20 (.load false 1 24),
 zt 26 20 (.prim (.bin .eql 3 false false) [22, 25]),
 zo 27 (.pick 20 26 kf),
 zM 28 27,
 zt 29 28 (.mv 4),
 zo 30 (.pick 28 29 kf),
 zM 2 30]
def p57o8 := [zK 32 .eql 3 14 2,
 zM 31 32]
def p57o9 := [zG 33 13 1,
 zo 34 (.load true 12 33),
 zo 35 (.call true [[]] 73 [34]),
 zM 36 35,
 zt 37 36 (.faddr 1 1),
 zt 38 36 (.load false 1 37),
 zt 39 36 (.faddr 13 1),
 zt 40 36 (.faddr 0 39),
 zt 41 36 (.load false 1 40),
 zt 42 36 (.prim (.bin .eql 3 false false) [38, 41]),
 zo 43 (.pick 36 42 kf),
 zM 44 43,
 zt 45 44 (.mv 3),
 zo 46 (.pick 44 45 kf),
 zM 2 46]
def p57o12 := [zK 48 .eql 3 14 3,
 zM 47 48]
def p57o13 := [zG 49 1 1,
 zL 50 49,
 zK 51 .geq 3 50 0,
 zM 52 51,
 zt 53 52 (.faddr 1 1),
 zt 54 52 (.load false 1 53),
 zt 55 52 (.prim (.bin .leq 3 false true) [54, kk 1000000]),
 zo 56 (.pick 52 55 kf),
 zM 57 56,
 zt 58 57 (.mv 3),
 zo 59 (.pick 57 58 kf),
 zM 60 59,
 zt 61 60 (.mv 4),
 zo 62 (.pick 60 61 kf),
 zM 2 62]
def p57o25 := [zM 2 kf]
def p57c30 := sq (rg p57o1) (sq (rh p57o2) (sq (sq (rg p57o3) (.block 0 (sq (rg p57o4) (.cond 15 (sq (rg p57o5) (rt)) (sq (rg p57o8) (.cond 31 (sq (rg p57o9) (rt)) (sq (rg p57o12) (.cond 47 (sq (rg p57o13) (rt)) (.skip))))))))) (sq (rg p57o25) (rt))))
def pc57_r : List PRes := [PRes.tmp 2 []]
def pc57 : PFunc := ⟨63, pc57_r, p57c30, false⟩
def pc57_a : Ann := {
 kr := fun _ => none
 ka := fun _ => 0
 kh := hg [([1], .at_ 1 0), ([5], .at_ 1 2), ([6, 7, 8, 10, 11, 12], .imm), ([9], .at_ 1 13)]
 ow := ow0 }
theorem pc57_ok : zai Try.prog pc57_a Try.f57 = some pc57 := by kernel_rfl
def p56o1 := [zo 1 (.box 58 0 []),
 zM 2 kf]
def p56o2 := [zo 3 (.load true 25 1),
 zo 4 (.call true [[]] 57 [3]),
 zo 5 (.prim (.un .not) [4]),
 zM 2 5]
def p56c5 := sq (rg p56o1) (sq (rg p56o2) (rt))
def pc56_r : List PRes := [PRes.tmp 2 []]
def pc56 : PFunc := ⟨6, pc56_r, p56c5, false⟩
def pc56_a : Ann := {
 kr := fun _ => none
 ka := fun _ => 0
 kh := fun _ => none
 ow := ow0 }
theorem pc56_ok : zai Try.prog pc56_a Try.f56 = some pc56 := by kernel_rfl
def p71o1 := [zM 4 (kk 0)]
def p71o2 := [zM 6 0,
 zo 7 (.lenS 6),
 zM 8 (kk 0)]
def p71o3 := [zB 9 .lss 3 8 7]
def p71o7 := [zM 10 8,
 zM 5 10]
def p71o8 := [zM 11 1,
 zM 12 0,
 zM 13 5,
 zo 14 (.iaddrS 25 12 13),
 zo 15 (.load true 25 14),
 zo 16 (.callv true [[]] 11 [15])]
def p71o9 := [zM 17 5,
 zM 4 17]
def p71o17 := [zK 18 .add 3 8 1,
 zM 8 18]
def p71c20 := sq (.region (some ([0, 1, 7, 8], [], [])) false p71o3) (sq (.cond 9 (.skip) (.exit 0)) (sq (.block 1 (sq (rg p71o7) (sq (rg p71o8) (.cond 16 (sq (rg p71o9) (rt)) (.skip))))) (rg p71o17)))
def p71o24 := [zM 4 (kk (-1))]
def p71c26 := sq (rg p71o24) (rt)
def p71c28 := sq (rg p71o1) (sq (sq (rg p71o2) (.block 0 (.loop p71c20))) p71c26)
def pc71_r : List PRes := [PRes.tmp 4 []]
def pc71 : PFunc := ⟨19, pc71_r, p71c28, false⟩
def pc71_a : Ann := {
 kr := fun
  | 2 => some ([0, 1, 7, 8], [], [])
  | _ => none
 ka := fun _ => 0
 kh := fun _ => none
 ow := ow0 }
theorem pc71_ok : zai Try.prog pc71_a Try.f71 = some pc71 := by kernel_rfl
def p55o1 := [zM 4 kf]
def p55o2 := [zM 5 0,
 zM 6 1,
 zo 7 (.gcall false false [] [[(0, 25)], []] 71 [5, 6]),
 zK 8 .geq 3 7 0,
 zM 4 8]
def p55c5 := sq (rg p55o1) (sq (rg p55o2) (rt))
def pc55_r : List PRes := [PRes.tmp 4 []]
def pc55 : PFunc := ⟨9, pc55_r, p55c5, false⟩
def pc55_a : Ann := {
 kr := fun _ => none
 ka := fun _ => 0
 kh := fun _ => none
 gf := fun d f => match d, f with
  | some 7, 71 => some (false, false, [])
  | _, _ => none
 ow := ow0 }
theorem pc55_ok : zai Try.prog pc55_a Try.f55 = some pc55 := by kernel_rfl
def p44o1 := [zo 3 (.box 32 1 [(5, 1000000058, 25)]),
 zM 4 kf]
def p44o2 := [za 8 3 3 0 (.faddr 1 3),
 za 9 8 3 1 (.load false 1 8),
 za 10 0 1000000 0 (.mv 0),
 za 11 10 1000000 0 (.nilc 10),
 za 12 11 1000000 0 (.faddr 0 11),
 za 13 12 1000000 0 (.load false 1 12),
 zj 14 9 13 (.prim (.bin .neq 3 false false) [9, 13]),
 zi 15 14 (.mv 14),
 ⟨some 16, .faddr 2 3, some (15, false), [(3, .at_ 3 0)]⟩,
 ⟨some 17, .load false 1 16, some (15, false), [(16, .at_ 3 2)]⟩,
 ⟨some 18, .mv 0, some (15, false), [(0, .at_ 1000000 0)]⟩,
 ⟨some 19, .nilc 18, some (15, false), [(18, .at_ 1000000 0)]⟩,
 ⟨some 20, .faddr 1 19, some (15, false), [(19, .at_ 1000000 0)]⟩,
 ⟨some 21, .load false 1 20, some (15, false), [(20, .at_ 1000000 1)]⟩,
 ⟨some 22, .prim (.bin .neq 3 false false) [17, 21], some (15, false), [(17, .imm), (21, .imm)]⟩,
 zj 23 15 22 (.pick 15 kt 22),
 zi 24 23 (.mv 23),
 ⟨some 25, .faddr 0 3, some (24, false), [(3, .at_ 3 0)]⟩,
 ⟨some 26, .load false 1 25, some (24, false), [(25, .at_ 3 0)]⟩,
 ⟨some 27, .prim (.bin .lss 3 false true) [26, kk 0], some (24, false), [(26, .imm)]⟩,
 zj 28 24 27 (.pick 24 kt 27),
 zi 29 28 (.mv 28),
 ⟨some 30, .faddr 0 3, some (29, false), [(3, .at_ 3 0)]⟩,
 ⟨some 31, .load false 1 30, some (29, false), [(30, .at_ 3 0)]⟩,
 ⟨some 32, .mv 0, some (29, false), [(0, .at_ 1000000 0)]⟩,
 ⟨some 33, .nilc 32, some (29, false), [(32, .at_ 1000000 0)]⟩,
 ⟨some 34, .faddr 2 33, some (29, false), [(33, .at_ 1000000 0)]⟩,
 ⟨some 35, .load false 1 34, some (29, false), [(34, .at_ 1000000 2)]⟩,
 ⟨some 36, .prim (.bin .geq 3 false false) [31, 35], some (29, false), [(31, .imm), (35, .imm)]⟩,
 zj 37 29 36 (.pick 29 kt 36),
 zi 7 37 (.mv 37)]
def p44o3 := [zM 4 kf]
def p44o6 := [za 39 3 3 0 (.faddr 3 3),
 za 40 39 3 3 (.load false 1 39),
 zi 41 40 (.prim (.bin .lss 3 false true) [40, kk 0]),
 zi 42 41 (.mv 41),
 ⟨some 43, .faddr 3 3, some (42, false), [(3, .at_ 3 0)]⟩,
 ⟨some 44, .load false 1 43, some (42, false), [(43, .at_ 3 3)]⟩,
 ⟨some 45, .faddr 4 3, some (42, false), [(3, .at_ 3 0)]⟩,
 ⟨some 46, .load false 1 45, some (42, false), [(45, .at_ 3 4)]⟩,
 ⟨some 47, .prim (.bin .gtr 3 false false) [44, 46], some (42, false), [(44, .imm), (46, .imm)]⟩,
 zj 48 42 47 (.pick 42 kt 47),
 zi 49 48 (.mv 48),
 ⟨some 50, .mv 0, some (49, false), [(0, .at_ 1000000 0)]⟩,
 ⟨some 51, .nilc 50, some (49, false), [(50, .at_ 1000000 0)]⟩,
 ⟨some 52, .faddr 4 51, some (49, false), [(51, .at_ 1000000 0)]⟩,
 ⟨some 53, .load false 1 52, some (49, false), [(52, .at_ 1000000 4)]⟩,
 ⟨some 54, .prim (.bin .neq 3 false true) [53, .const (.int .i64 (-1))], some (49, false), [(53, .imm)]⟩,
 ⟨some 55, .mv 54, some (49, false), [(54, .imm)]⟩,
 ⟨some 56, .faddr 3 3, some (55, true), [(3, .at_ 3 0)]⟩,
 ⟨some 57, .load false 1 56, some (55, true), [(56, .at_ 3 3)]⟩,
 ⟨some 58, .mv 0, some (55, true), [(0, .at_ 1000000 0)]⟩,
 ⟨some 59, .nilc 58, some (55, true), [(58, .at_ 1000000 0)]⟩,
 ⟨some 60, .faddr 4 59, some (55, true), [(59, .at_ 1000000 0)]⟩,
 ⟨some 61, .load false 1 60, some (55, true), [(60, .at_ 1000000 4)]⟩,
 ⟨some 62, .prim (.bin .neq 3 false false) [57, 61], some (55, true), [(57, .imm), (61, .imm)]⟩,
 ⟨some 63, .pick 55 62 kf, some (49, false), [(55, .imm), (62, .imm)]⟩,
 zj 64 49 63 (.pick 49 kt 63),
 zi 38 64 (.mv 64)]
def p44o7 := [zM 4 kf]
def p44o10 := [za 66 3 3 0 (.faddr 4 3),
 za 67 66 3 4 (.load false 1 66),
 za 68 0 1000000 0 (.mv 0),
 za 69 68 1000000 0 (.nilc 68),
 za 70 69 1000000 0 (.faddr 3 69),
 za 71 70 1000000 3 (.load false 1 70),
 zj 72 67 71 (.prim (.bin .leq 3 false false) [67, 71]),
 zi 73 72 (.mv 72),
 ⟨some 74, .faddr 4 3, some (73, false), [(3, .at_ 3 0)]⟩,
 ⟨some 75, .load false 1 74, some (73, false), [(74, .at_ 3 4)]⟩,
 ⟨some 76, .faddr 3 3, some (73, false), [(3, .at_ 3 0)]⟩,
 ⟨some 77, .load false 1 76, some (73, false), [(76, .at_ 3 3)]⟩,
 ⟨some 78, .mv 0, some (73, false), [(0, .at_ 1000000 0)]⟩,
 ⟨some 79, .nilc 78, some (73, false), [(78, .at_ 1000000 0)]⟩,
 ⟨some 80, .faddr 3 79, some (73, false), [(79, .at_ 1000000 0)]⟩,
 ⟨some 81, .load false 1 80, some (73, false), [(80, .at_ 1000000 3)]⟩,
 ⟨some 82, .prim .max [77, 81], some (73, false), [(77, .imm), (81, .imm)]⟩,
 ⟨some 83, .prim (.bin .sub 3 false false) [75, 82], some (73, false), [(75, .imm), (82, .imm)]⟩,
 ⟨some 84, .prim (.bin .gtr 3 false true) [83, kk 36], some (73, false), [(83, .imm)]⟩,
 zj 85 73 84 (.pick 73 kt 84),
 zi 65 85 (.mv 85)]
def p44o11 := [zM 4 kf]
def p44c16 := sq (.region (some ([0, 3], [3, 1000000, 1000001, 1000002], [])) true p44o10) (.cond 65 (sq (rg p44o11) (rt)) (.skip))
def p44o22 := [za 87 0 1000000 0 (.mv 0),
 za 88 87 1000000 0 (.nilc 87),
 za 89 88 1000000 0 (.faddr 7 88),
 za 90 89 1000000 7 (.load false 1 89),
 za 91 3 3 0 (.faddr 0 3),
 za 92 91 3 0 (.load false 1 91),
 za 93 3 3 0 (.faddr 4 3),
 za 94 93 3 4 (.load false 1 93),
 zj 95 92 94 (.build (.agg #[ki, ki]) [(0, 1, .tmp 92), (1, 1, .tmp 94)]),
 ⟨some 96, .mlook true 97 [(0, 25)] 90 95, none, [(90, .obj 1000002), (95, .imm)]⟩,
 zM 86 96,
 zX 97 86 0,
 zX 98 86 1,
 zi 5 97 (.mv 97),
 zi 6 98 (.mv 98)]
def p44o23 := [zM 99 6]
def p44o24 := [zM 4 kf]
def p44o31 := [zG 100 5 3,
 zL 101 100,
 zo 102 (.gcall false false [] [[(0, 25)], []] 55 [101, .func 56]),
 zo 103 (.prim (.un .not) [102]),
 zM 4 103]
def p44c34 := sq (sq (rh p44o22) (sq (rg p44o23) (.cond 99 (sq (rg p44o24) (rt)) (.skip)))) (sq (rg p44o31) (rt))
def p44c36 := sq (rg p44o1) (sq (.block 0 (sq (rh p44o2) (.cond 7 (sq (rg p44o3) (rt)) (sq (rh p44o6) (.cond 38 (sq (rg p44o7) (rt)) p44c16))))) p44c34)
def pc44_r : List PRes := [PRes.tmp 4 []]
def pc44 : PFunc := ⟨104, pc44_r, p44c36, false⟩
def pc44_a : Ann := {
 kr := fun
  | 5 => some ([0, 3], [3, 1000000, 1000001, 1000002], [])
  | _ => none
 ka := fun _ => 0
 kh := hg [([0, 10, 11, 12, 18, 19, 32, 33, 50, 51, 58, 59, 68, 69, 78, 79, 87, 88], .at_ 1000000 0), ([3, 25, 30, 91], .at_ 3 0), ([8], .at_ 3 1), ([9, 13, 14, 15, 17, 21, 22, 23, 24, 26, 27, 28, 29, 31, 35, 36, 37, 40, 41, 42, 44, 46, 47, 48, 49, 53, 54, 55, 57, 61, 62, 63, 64, 67, 71, 72, 73, 75, 77, 81, 82, 83, 84, 85, 92, 94, 95, 97, 98], .imm), ([16], .at_ 3 2), ([20], .at_ 1000000 1), ([34], .at_ 1000000 2), ([39, 43, 56, 76], .at_ 3 3), ([45, 66, 74, 93], .at_ 3 4), ([52, 60], .at_ 1000000 4), ([70, 80], .at_ 1000000 3), ([89], .at_ 1000000 7), ([90], .obj 1000002)]
 gf := fun d f => match d, f with
  | some 102, 55 => some (false, false, [])
  | _, _ => none
 ow := ow0 }
theorem pc44_ok : zai Try.prog pc44_a Try.f44 = some pc44 := by kernel_rfl
def p92o1 := [zM 2 kf]
def p92o2 := [zM 3 0,
 zM 4 0,
 zB 5 .neq 3 3 4,
 zM 2 5]
def p92c5 := sq (rg p92o1) (sq (rg p92o2) (rt))
def pc92_r : List PRes := [PRes.tmp 2 []]
def pc92 : PFunc := ⟨6, pc92_r, p92c5, false⟩
def pc92_a : Ann := {
 kr := fun _ => none
 ka := fun _ => 0
 kh := fun _ => none
 ow := ow0 }
theorem pc92_ok : zai Try.prog pc92_a Try.f92 = some pc92 := by kernel_rfl
def p83o1 := [zM 4 (kk 0)]
def p83o2 := [zM 7 0,
 zo 8 (.call true [[]] 92 [7]),
 zM 5 8]
def p83o3 := [zM 9 1,
 zo 10 (.call true [[]] 92 [9]),
 zM 6 10]
def p83o4 := [zM 11 5]
def p83o5 := [zM 12 6]
def p83o6 := [zM 4 (kk 0)]
def p83o12 := [zM 4 (kk (-1))]
def p83o19 := [zM 13 6]
def p83o20 := [zM 4 (kk 1)]
def p83o26 := [zM 14 0,
 zM 15 1,
 zB 16 .lss 3 14 15]
def p83o27 := [zM 4 (kk (-1))]
def p83o33 := [zM 17 0,
 zM 18 1,
 zB 19 .gtr 3 17 18]
def p83o34 := [zM 4 (kk 1)]
def p83o40 := [zM 4 (kk 0)]
def p83c49 := sq (rg p83o1) (sq (rg p83o2) (sq (rg p83o3) (sq (sq (rg p83o4) (.cond 11 (sq (sq (rg p83o5) (.cond 12 (sq (rg p83o6) (rt)) (.skip))) (sq (rg p83o12) (rt))) (.skip))) (sq (sq (rg p83o19) (.cond 13 (sq (rg p83o20) (rt)) (.skip))) (sq (sq (rg p83o26) (.cond 16 (sq (rg p83o27) (rt)) (.skip))) (sq (sq (rg p83o33) (.cond 19 (sq (rg p83o34) (rt)) (.skip))) (sq (rg p83o40) (rt))))))))
def pc83_r : List PRes := [PRes.tmp 4 []]
def pc83 : PFunc := ⟨20, pc83_r, p83c49, false⟩
def pc83_a : Ann := {
 kr := fun _ => none
 ka := fun _ => 0
 kh := fun _ => none
 ow := ow0 }
theorem pc83_ok : zai Try.prog pc83_a Try.f83 = some pc83 := by kernel_rfl
def p82o1 := [zo 2 (.box 54 0 []),
 zM 4 (kk 0)]
def p82o2 := [zG 5 0 2,
 zL 6 5,
 zM 7 1,
 zo 8 (.call true [[], []] 83 [6, 7]),
 zM 4 8]
def p82c5 := sq (rg p82o1) (sq (rg p82o2) (rt))
def pc82_r : List PRes := [PRes.tmp 4 []]
def pc82 : PFunc := ⟨9, pc82_r, p82c5, false⟩
def pc82_a : Ann := {
 kr := fun _ => none
 ka := fun _ => 0
 kh := fun _ => none
 ow := ow0 }
theorem pc82_ok : zai Try.prog pc82_a Try.f82 = some pc82 := by kernel_rfl
def p81o1 := [zM 6 (kk 0),
 zM 7 kf]
def p81o2 := [zM 12 0,
 zo 13 (.lenS 12),
 zM 8 13]
def p81o3 := [zM 14 8,
 zM 9 (kk 0),
 zM 10 14]
def p81o4 := [zM 15 9,
 zM 16 10,
 zB 17 .lss 3 15 16]
def p81o9 := [zM 18 9,
 zM 19 10,
 zB 20 .add 3 18 19,
 zo 21 (.prim (.conv 3 122) [20]),
 zo 22 (.prim (.bin .shr 122 false true) [21, .const (.int .u64 1)]),
 zo 23 (.prim (.conv 122 3) [22]),
 zM 11 23]
def p81o10 := [zM 24 2,
 zM 25 0,
 zM 26 11,
 zo 27 (.iaddrS 11 25 26),
 zo 28 (.load true 11 27),
 zM 29 1,
 zo 30 (.callv true [[], []] 24 [28, 29]),
 zK 31 .lss 3 30 0]
def p81o11 := [zM 32 11,
 zK 33 .add 3 32 1,
 zM 9 33]
def p81o12 := [zM 34 11,
 zM 10 34]
def p81c17 := sq (sq (.region (some ([0, 1, 2, 8, 9, 10], [], [])) false p81o4) (.cond 17 (.skip) (.exit 0))) (.block 1 (sq (rg p81o9) (sq (rg p81o10) (.cond 31 (rg p81o11) (rg p81o12)))))
def p81o20 := [zM 35 9,
 zM 36 9,
 zM 37 8,
 zB 38 .lss 3 36 37,
 zM 39 38,
 zt 40 39 (.mv 2),
 zt 41 39 (.mv 0),
 zt 42 39 (.mv 9),
 zt 43 39 (.iaddrS 11 41 42),
 zt 44 39 (.load true 11 43),
 zt 45 39 (.mv 1),
 zt 46 39 (.callv true [[], []] 40 [44, 45]),
 zt 47 39 (.prim (.bin .eql 3 false true) [46, kk 0]),
 zo 48 (.pick 39 47 kf),
 zM 6 35,
 zM 7 48]
def p81c22 := sq (rg p81o20) (rt)
def p81c26 := sq (rg p81o1) (sq (rg p81o2) (sq (rg p81o3) (sq (.block 0 (.loop p81c17)) p81c22)))
def pc81_r : List PRes := [PRes.tmp 6 [], PRes.tmp 7 []]
def pc81 : PFunc := ⟨49, pc81_r, p81c26, false⟩
def pc81_a : Ann := {
 kr := fun
  | 3 => some ([0, 1, 2, 8, 9, 10], [], [])
  | _ => none
 ka := fun _ => 0
 kh := fun _ => none
 ow := ow0 }
theorem pc81_ok : zai Try.prog pc81_a Try.f81 = some pc81 := by kernel_rfl
def p85o1 := [zo 2 (.box 54 0 []),
 zo 3 (.box 56 1 []),
 zo 4 (.alloc 54 (.agg k6') [])]
def p85o2 := [zG 7 1 3,
 zL 8 7,
 zo 9 (.prim (.bin .and 5 false true) [8, .const (.int .u8 1)]),
 zo 10 (.prim (.bin .neq 5 false true) [9, .const (.int .u8 0)])]
def p85o3 := [zG 11 2 3,
 zo 12 (.load true 2 11),
 zG 13 1 2,
 zs (.store 2 13 12)]
def p85o7 := [zG 14 4 3,
 zo 15 (.load true 8 14),
 zM 16 (kk 0)]
def p85o8 := [zK 17 .lss 3 16 4]
def p85o12 := [zM 18 16,
 zo 19 (.idx true 2 4 15 16),
 zo 6 (.alloc 51 (.agg #[ki, ks]) []),
 zM 5 18,
 zs (.store 2 6 19)]
def p85o13 := [zG 20 1 3,
 zL 21 20,
 zM 22 5,
 zo 23 (.call true [[], []] 80 [21, 22])]
def p85o14 := [zM 24 5,
 zo 25 (.load true 2 6),
 zG 26 3 2,
 zo 27 (.iaddrA 4 2 26 24),
 zs (.store 2 27 25)]
def p85o20 := [zK 28 .add 3 16 1,
 zM 16 28]
def p85c23 := sq (.region (some ([2, 3, 4, 15, 16], [2, 3, 4, 6], [])) false p85o8) (sq (.cond 17 (.skip) (.exit 0)) (sq (.block 1 (sq (rg p85o12) (sq (rg p85o13) (.cond 23 (rg p85o14) (.skip))))) (rg p85o20)))
def p85o27 := [zo 29 (.load true 11 2),
 zs (.store 11 4 29)]
def p85c29 := sq (rg p85o27) (rt)
def p85c30 := sq (sq (.region (some ([2, 3, 4], [2, 3, 4], [])) false p85o7) (.block 0 (.loop p85c23))) p85c29
def p85c32 := sq (rg p85o1) (sq (sq (rg p85o2) (.cond 10 (rg p85o3) (.skip))) p85c30)
def pc85_r : List PRes := [PRes.cell 4 true 11 []]
def pc85 : PFunc := ⟨30, pc85_r, p85c32, false⟩
def pc85_a : Ann := {
 kr := fun
  | 3 => some ([2, 3, 4], [2, 3, 4], [])
  | 4 => some ([2, 3, 4, 15, 16], [2, 3, 4, 6], [])
  | _ => none
 ka := fun _ => 0
 kh := fun _ => none
 ow := ow0 }
theorem pc85_ok : zai Try.prog pc85_a Try.f85 = some pc85 := by kernel_rfl
def p74o1 := [zo 3 (.box 58 1 []),
 zo 4 (.mv (.const (kl))),
 zM 5 kf]
def p74o2 := [zM 10 0,
 zG 11 1 3,
 zL 12 11,
 zo 13 (.gcall false false [] [[(0, 11)], [], []] 81 [10, 12, .func 82]),
 zM 9 13,
 zX 14 9 0,
 zX 15 9 1,
 zM 6 14,
 zM 7 15]
def p74o3 := [zo 16 (.load true 25 3),
 zo 17 (.call true [[]] 57 [16]),
 zo 18 (.prim (.un .not) [17]),
 zM 19 18,
 zf 20 19 (.mv 7),
 zf 21 19 (.faddr 0 3),
 zf 22 19 (.load false 1 21),
 zf 23 19 (.prim (.bin .eql 3 false true) [22, kk 1]),
 zf 24 19 (.prim (.bin .eql 4 false false) [20, 23]),
 zo 25 (.pick 19 kt 24)]
def p74o4 := [zM 26 0,
 zo 27 (.gcall false false k5' [[(0, 11)]] 50 [26]),
 zM 4 27,
 zM 5 kf]
def p74o10 := [zM 28 0,
 zo 29 (.gcall false false k5' [[(0, 11)]] 50 [28]),
 zM 8 29]
def p74o11 := [zG 30 0 3,
 zL 31 30]
def p74o12 := [zK 38 .eql 3 31 1,
 zM 37 38]
def p74o13 := [zM 39 8,
 zM 40 6,
 zG 41 2 3,
 zo 42 (.load true 11 41),
 zo 43 (.bptrs 11 [42]),
 zo 44 (.gcall true false k8' [[(0, 11)], [], [(0, 11)]] 84 [39, 40, 43]),
 zM 8 44]
def p74o14 := [zK 46 .eql 3 31 2,
 zM 45 46]
def p74o15 : List POper := [⟨some 47, .mv 8, none, [(8, .obj 300000)]⟩,
 zi 48 6 (.mv 6),
 ⟨some 49, .mv 8, none, [(8, .obj 300000)]⟩,
 zi 50 6 (.mv 6),
 ⟨some 51, .iaddrS 11 49 50, none, [(49, .obj 300000), (50, .imm)]⟩,
 ⟨some 52, .load true 11 51, none, [(51, .obj 300000)]⟩,
 za 53 3 3 0 (.faddr 13 3),
 za 54 53 3 13 (.load true 12 53),
 zj 55 52 54 (.call false [[], []] 85 [52, 54]),
 ⟨some 56, .iaddrS 11 47 48, none, [(47, .obj 300000), (48, .imm)]⟩,
 zn (.store 11 56 55) [(56, .obj 300000), (55, .imm)]]
def p74o16 := [zM 32 8,
 zM 33 6,
 zM 34 6,
 zK 35 .add 3 34 1,
 zo 36 (.gcall true false k5' [[(0, 11)], [], []] 86 [32, 33, 35]),
 zM 8 36]
def p74o23 := [zM 57 8,
 zM 4 57,
 zM 5 kt]
def p74c30 := sq (rg p74o1) (sq (rg p74o2) (sq (sq (rg p74o3) (.cond 25 (sq (rg p74o4) (rt)) (.skip))) (sq (rg p74o10) (sq (sq (rg p74o11) (.block 0 (sq (rg p74o12) (.cond 37 (rg p74o13) (sq (rg p74o14) (.cond 45 (rh p74o15) (rg p74o16))))))) (sq (rg p74o23) (rt))))))
def pc74_r : List PRes := [PRes.tmp 4 [(0, 11)], PRes.tmp 5 []]
def pc74 : PFunc := ⟨58, pc74_r, p74c30, false⟩
def pc74_a : Ann := {
 kr := fun _ => none
 ka := fun _ => 0
 kh := hg [([3], .at_ 3 0), ([6, 48, 50, 52, 54, 55], .imm), ([8, 47, 49, 51, 56], .obj 300000), ([53], .at_ 3 13)]
 gf := fun d f => match d, f with
  | some 13, 81 => some (false, false, [])
  | some 27, 50 => some (false, false, k5')
  | some 29, 50 => some (false, false, k5')
  | some 36, 86 => some (true, false, k5')
  | some 44, 84 => some (true, false, k8')
  | _, _ => none
 ow := ow0
 bv := fun d => match d with
  | some 43 => true
  | _ => false }
theorem pc74_ok : zai Try.prog pc74_a Try.f74 = some pc74 := by kernel_rfl
def p58o1 := [zo 4 (.mv (.const (kl))),
 zM 5 kf]
def p58o2 := [zM 10 0,
 zo 11 (.gcall false true [399990, 399991] [[(0, 11)]] 50 [10]),
 zM 6 11,
 zM 7 kt]
def p58o4 := [zM 12 1,
 zo 13 (.lenS 12),
 zM 14 (kk 0)]
def p58o5 := [zB 15 .lss 3 14 13]
def p58o9 := [zo 16 (.iaddrS 25 12 14),
 zo 17 (.load true 25 16),
 zo 9 (.alloc 58 (.agg #[ki, ki, ki, ki, ki, ki, ks, ki, ks, ki, ks, ki, ks, ki, .int .u8 0, ki, ki, ki, ks, ki, ks, ki, ks, ki, ks]) []),
 zs (.store 25 9 17)]
def p58o10 := [zM 19 6,
 zo 20 (.load true 25 9),
 zo 21 (.call true [[(0, 11)], []] 74 [19, 20]),
 zM 18 21,
 zX 22 18 0,
 zX 23 18 1,
 zM 6 22,
 zM 7 23]
def p58o11 := [zM 24 7,
 zo 25 (.prim (.un .not) [24])]
def p58o19 := [zK 26 .add 3 14 1,
 zM 14 26]
def p58c22 := sq (.region (some ([0, 6, 7, 12, 13, 14], [9], [])) false p58o5) (sq (.cond 15 (.skip) (.exit 0)) (sq (.block 1 (sq (rg p58o9) (sq (rg p58o10) (sq (rg p58o11) (.cond 25 (.exit 0) (.skip)))))) (rg p58o19)))
def p58o26 := [zM 27 7,
 zo 28 (.prim (.un .not) [27])]
def p58o27 := [zM 29 0,
 zo 30 (.gcall false true [399990, 399991] [[(0, 11)]] 50 [29]),
 zM 4 30,
 zM 5 kf]
def p58o33 := [zM 31 6,
 zM 4 31,
 zM 5 kt]
def p58c36 := sq (sq (.region (some ([0, 6, 7], [9], [])) false p58o26) (.cond 28 (sq (rg p58o27) (rt)) (.skip))) (sq (rg p58o33) (rt))
def p58c41 := sq (rg p58o1) (.scope (sq (rg p58o2) (sq (.label) (sq (sq (rg p58o4) (.block 0 (.loop p58c22))) p58c36))))
def pc58_r : List PRes := [PRes.tmp 4 [(0, 11)], PRes.tmp 5 []]
def pc58 : PFunc := ⟨32, pc58_r, p58c41, false⟩
def pc58_a : Ann := {
 kr := fun
  | 3 => some ([0, 6, 7, 12, 13, 14], [9], [])
  | 8 => some ([0, 6, 7], [9], [])
  | _ => none
 ka := fun _ => 0
 kh := fun _ => none
 gf := fun d f => match d, f with
  | some 11, 50 => some (false, true, [399990, 399991])
  | some 30, 50 => some (false, true, [399990, 399991])
  | _, _ => none
 ow := ow0 }
theorem pc58_ok : zai Try.prog pc58_a Try.f58 = some pc58 := by kernel_rfl
def p46o1 := [zM 7 0,
 zo 8 (.nilc 7),
 zG 9 5 8,
 zL 10 9,
 zM 11 1,
 zo 12 (.call true [[(0, 11)], [(0, 25)]] 58 [10, 11]),
 zM 6 12,
 zX 13 6 0,
 zX 14 6 1,
 zM 4 13,
 zM 5 14]
def p46o2 := [zM 15 5,
 zo 16 (.prim (.un .not) [15])]
def p46o7 := [zM 17 0,
 zM 18 4,
 zo 19 (.nilc 17),
 zG 20 5 19,
 zs (.store 1 20 18)]
def p46o8 := [zM 21 0,
 zM 22 0,
 zo 23 (.nilc 22),
 zG 24 6 23,
 zL 25 24,
 zM 26 1,
 zo 27 (.app 100025 58 25 264 25 26),
 zo 28 (.nilc 21),
 zG 29 6 28,
 zs (.store 1 29 27)]
def p46c11 := sq (rg p46o1) (sq (sq (rg p46o2) (.cond 16 (rt) (.skip))) (sq (rg p46o7) (rg p46o8)))
def pc46_r : List PRes := []
def pc46 : PFunc := ⟨30, pc46_r, p46c11, false⟩
def pc46_a : Ann := {
 kr := fun _ => none
 ka := fun
  | 27 => 100025
  | _ => 0
 kh := fun _ => none
 ow := ow0 }
theorem pc46_ok : zai Try.prog pc46_a Try.f46 = some pc46 := by kernel_rfl
def p15o1 := [zo 3 (.box 32 1 [(5, 1000000058, 25)]),
 zM 4 kf]
def p15o2 := [zM 10 0,
 zo 11 (.load true 6 3),
 zo 12 (.gcall false false [1000000, 1000001, 1000002] [[], [(5, 25)]] 44 [10, 11]),
 zo 13 (.prim (.un .not) [12])]
def p15o3 := [zM 4 kf]
def p15o9 := [zM 14 0,
 zG 15 3 3,
 zL 16 15,
 zo 17 (.nilc 14),
 zG 18 4 17,
 zs (.store 1 18 16)]
def p15o10 := [za 19 0 1000000 0 (.mv 0),
 za 20 19 1000000 0 (.nilc 19),
 za 21 20 1000000 0 (.faddr 7 20),
 za 22 21 1000000 7 (.load false 1 21),
 za 23 3 3 0 (.faddr 0 3),
 za 24 23 3 0 (.load false 1 23),
 za 25 3 3 0 (.faddr 4 3),
 za 26 25 3 4 (.load false 1 25),
 zj 27 24 26 (.build (.agg #[ki, ki]) [(0, 1, .tmp 24), (1, 1, .tmp 26)]),
 za 28 3 3 0 (.faddr 5 3),
 za 29 28 3 5 (.load false 1 28),
 zi 30 29 (.gcall false true [399990, 399991] [[(0, 25)]] 45 [29]),
 zn (.mset 97 22 27 30) [(22, .obj 1000002), (27, .imm), (30, .imm)]]
def p15o12 := [za 31 0 1000000 0 (.mv 0),
 za 32 31 1000000 0 (.nilc 31),
 za 33 32 1000000 0 (.faddr 3 32),
 za 34 33 1000000 3 (.load false 1 33),
 zi 35 34 (.prim (.bin .add 3 false true) [34, kk 1]),
 za 36 0 1000000 0 (.mv 0),
 za 37 36 1000000 0 (.nilc 36),
 za 38 37 1000000 0 (.faddr 4 37),
 za 39 38 1000000 4 (.load false 1 38),
 zj 40 35 39 (.prim .max [35, 39]),
 zi 5 40 (.mv 40)]
def p15o13 := [zM 41 0,
 zo 42 (.nilc 41),
 zG 43 2 42,
 zL 44 43,
 zM 45 (kk 0)]
def p15o14 := [zB 46 .lss 3 45 44]
def p15o18 := [zM 47 45,
 zM 6 47]
def p15o19 := [zM 49 0,
 zo 50 (.nilc 49),
 zG 51 7 50,
 zL 52 51,
 zM 53 6,
 zM 54 5,
 zo 55 (.build (.agg #[ki, ki]) [(0, 1, .tmp 53), (1, 1, .tmp 54)]),
 zo 56 (.mlook true 97 [(0, 25)] 52 55),
 zM 48 56,
 zX 57 48 0,
 zX 58 48 1,
 zM 7 57,
 zM 8 58]
def p15o20 := [zM 59 8,
 zo 60 (.prim (.un .not) [59])]
def p15o28 := [zK 61 .add 3 45 1,
 zM 45 61]
def p15c31 := sq (.region (some ([0, 5, 44, 45], [1000000, 1000001, 1000002], [])) false p15o14) (sq (.cond 46 (.skip) (.exit 2)) (sq (.block 3 (sq (rg p15o18) (sq (rg p15o19) (sq (rg p15o20) (.cond 60 (.exit 0) (.skip)))))) (rg p15o28)))
def p15o35 := [zM 62 0,
 zo 63 (.nilc 62),
 zG 64 2 63,
 zL 65 64,
 zM 66 (kk 0)]
def p15o36 := [zB 67 .lss 3 66 65]
def p15o40 := [zM 68 66,
 zM 9 68]
def p15o41 := [zM 69 0,
 zM 70 0,
 zo 71 (.nilc 70),
 zG 72 7 71,
 zL 73 72,
 zM 74 9,
 zM 75 5,
 zo 76 (.build (.agg #[ki, ki]) [(0, 1, .tmp 74), (1, 1, .tmp 75)]),
 zo 77 (.mlook false 97 [(0, 25)] 73 76),
 zo 78 (.gcall false false [1000000, 1000001, 1000002] [[], [(0, 25)]] 46 [69, 77])]
def p15o42 := [zM 79 0,
 zo 80 (.nilc 79),
 zG 81 7 80,
 zL 82 81,
 zM 83 9,
 zM 84 5,
 zo 85 (.build (.agg #[ki, ki]) [(0, 1, .tmp 83), (1, 1, .tmp 84)]),
 zs (.mdel 97 82 85)]
def p15o46 := [zK 86 .add 3 66 1,
 zM 66 86]
def p15c49 := sq (.region (some ([0, 5, 65, 66], [1000000, 1000001, 1000002], [])) false p15o36) (sq (.cond 67 (.skip) (.exit 4)) (sq (.block 5 (sq (rg p15o40) (sq (rg p15o41) (rg p15o42)))) (rg p15o46)))
def p15o53 := [zM 87 0,
 zM 88 5,
 zo 89 (.nilc 87),
 zG 90 3 89,
 zs (.store 1 90 88)]
def p15c53 := rg p15o53
def p15c54 := sq (sq (rg p15o35) (.block 4 (.loop p15c49))) p15c53
def p15c57 : PCode := .block 1 (sq (.region (some ([0], [3, 1000000, 1000001, 1000002], [])) true p15o12) (sq (sq (rg p15o13) (.block 2 (.loop p15c31))) p15c54))
def p15o60 := [zM 4 kt]
def p15c62 := sq (rg p15o60) (rt)
def p15c69 := sq (rg p15o1) (.scope (sq (sq (rg p15o2) (.cond 13 (sq (rg p15o3) (rt)) (.skip))) (sq (rg p15o9) (sq (rh p15o10) (sq (.label) (sq (.block 0 (.loop p15c57)) p15c62))))))
def pc15_r : List PRes := [PRes.tmp 4 []]
def pc15 : PFunc := ⟨91, pc15_r, p15c69, false⟩
def pc15_a : Ann := {
 kr := fun
  | 5 => some ([0], [3, 1000000, 1000001, 1000002], [])
  | 7 => some ([0, 5, 44, 45], [1000000, 1000001, 1000002], [])
  | 13 => some ([0, 5, 65, 66], [1000000, 1000001, 1000002], [])
  | _ => none
 ka := fun _ => 0
 kh := hg [([0, 19, 20, 31, 32, 36, 37], .at_ 1000000 0), ([3, 23], .at_ 3 0), ([21], .at_ 1000000 7), ([22], .obj 1000002), ([24, 26, 27, 29, 30, 34, 35, 39, 40], .imm), ([25], .at_ 3 4), ([28], .at_ 3 5), ([33], .at_ 1000000 3), ([38], .at_ 1000000 4)]
 gf := fun d f => match d, f with
  | some 12, 44 => some (false, false, [1000000, 1000001, 1000002])
  | some 30, 45 => some (false, true, [399990, 399991])
  | some 78, 46 => some (false, false, [1000000, 1000001, 1000002])
  | _, _ => none
 ow := ow0 }
theorem pc15_ok : zai Try.prog pc15_a Try.f15 = some pc15 := by kernel_rfl
def p35o1 := [zo 3 (.box 73 1 k3'),
 zM 4 (kk 0)]
def p35o2 := [za 5 3 3 0 (.faddr 1 3),
 za 6 5 3 1 (.load false 1 5),
 za 7 0 1000000 0 (.mv 0),
 za 8 7 1000000 0 (.nilc 7),
 za 9 8 1000000 0 (.faddr 0 8),
 za 10 9 1000000 0 (.load false 1 9),
 zi 11 10 (.prim (.bin .add 3 true false) [kk 100, 10]),
 zj 12 6 11 (.prim (.bin .neq 3 false false) [6, 11])]
def p35o3 := [zM 4 (kk 20)]
def p35o9 := [zG 13 2 3,
 zL 14 13]
def p35o10 := [zK 16 .eql 3 14 2,
 zM 15 16]
def p35o11 := [za 17 0 1000000 0 (.mv 0),
 za 18 17 1000000 0 (.nilc 17),
 za 19 18 1000000 0 (.faddr 46 18),
 za 20 19 1000000 46 (.load false 1 19),
 zi 21 20 (.mv 20),
 ⟨some 22, .faddr 40 3, some (21, true), [(3, .at_ 3 0)]⟩,
 ⟨some 23, .load false 1 22, some (21, true), [(22, .at_ 3 40)]⟩,
 ⟨some 24, .mv 0, some (21, true), [(0, .at_ 1000000 0)]⟩,
 ⟨some 25, .nilc 24, some (21, true), [(24, .at_ 1000000 0)]⟩,
 ⟨some 26, .faddr 2 25, some (21, true), [(25, .at_ 1000000 0)]⟩,
 ⟨some 27, .load false 1 26, some (21, true), [(26, .at_ 1000000 2)]⟩,
 ⟨some 28, .prim (.bin .eql 3 false false) [23, 27], some (21, true), [(23, .imm), (27, .imm)]⟩,
 zj 29 21 28 (.pick 21 28 kf),
 zi 30 29 (.mv 29),
 ⟨some 31, .faddr 3 3, some (30, true), [(3, .at_ 3 0)]⟩,
 ⟨some 32, .load false 1 31, some (30, true), [(31, .at_ 3 3)]⟩,
 ⟨some 33, .mv 0, some (30, true), [(0, .at_ 1000000 0)]⟩,
 ⟨some 34, .nilc 33, some (30, true), [(33, .at_ 1000000 0)]⟩,
 ⟨some 35, .faddr 4 34, some (30, true), [(34, .at_ 1000000 0)]⟩,
 ⟨some 36, .faddr 3 35, some (30, true), [(35, .at_ 1000000 4)]⟩,
 ⟨some 37, .load false 1 36, some (30, true), [(36, .at_ 1000000 7)]⟩,
 ⟨some 38, .prim (.bin .eql 3 false false) [32, 37], some (30, true), [(32, .imm), (37, .imm)]⟩,
 zj 39 30 38 (.pick 30 38 kf),
 zi 40 39 (.mv 39),
 ⟨some 41, .faddr 0 3, some (40, true), [(3, .at_ 3 0)]⟩,
 ⟨some 42, .load false 1 41, some (40, true), [(41, .at_ 3 0)]⟩,
 ⟨some 43, .mv 0, some (40, true), [(0, .at_ 1000000 0)]⟩,
 ⟨some 44, .nilc 43, some (40, true), [(43, .at_ 1000000 0)]⟩,
 ⟨some 45, .faddr 4 44, some (40, true), [(44, .at_ 1000000 0)]⟩,
 ⟨some 46, .faddr 1 45, some (40, true), [(45, .at_ 1000000 4)]⟩,
 ⟨some 47, .load false 1 46, some (40, true), [(46, .at_ 1000000 5)]⟩,
 ⟨some 48, .prim (.bin .eql 3 false false) [42, 47], some (40, true), [(42, .imm), (47, .imm)]⟩,
 zj 49 40 48 (.pick 40 48 kf)]
def p35o12 := [za 50 0 1000000 0 (.mv 0),
 za 51 0 1000000 0 (.mv 0),
 za 52 0 1000000 0 (.mv 0),
 za 53 3 3 0 (.faddr 27 3),
 za 54 53 3 27 (.load false 1 53),
 za 55 3 3 0 (.faddr 26 3),
 za 56 55 3 26 (.load false 1 55),
 za 57 50 1000000 0 (.nilc 50),
 za 58 57 1000000 0 (.faddr 46 57),
 zn (.store 1 58 kf) [(58, .at_ 1000000 46)],
 za 59 51 1000000 0 (.nilc 51),
 za 60 59 1000000 0 (.faddr 48 59),
 zn (.store 1 60 54) [(60, .at_ 1000000 48), (54, .imm)],
 za 61 52 1000000 0 (.nilc 52),
 za 62 61 1000000 0 (.faddr 49 61),
 zn (.store 1 62 56) [(62, .at_ 1000000 49), (56, .imm)]]
def p35o16 := [zK 64 .eql 3 14 4,
 zM 63 64]
def p35o17 := [za 65 0 1000000 0 (.mv 0),
 za 66 65 1000000 0 (.nilc 65),
 za 67 66 1000000 0 (.faddr 3 66),
 za 68 67 1000000 3 (.load false 1 67),
 za 69 3 3 0 (.faddr 34 3),
 za 70 69 3 34 (.load true 6 69),
 ⟨some 71, .gcall false false [1000001, 1000002, 1000003] [[], [(5, 25)]] 15 [68, 70], none, [(68, .at_ 1000001 0), (70, .imm)]⟩]
def p35o18 := [zM 4 (kk 11)]
def p35o27 := [zM 4 (kk 0)]
def p35c32 := sq (rg p35o1) (sq (sq (rh p35o2) (.cond 12 (sq (rg p35o3) (rt)) (.skip))) (sq (sq (rg p35o9) (.block 0 (sq (rg p35o10) (.cond 15 (sq (rh p35o11) (.cond 49 (rh p35o12) (.skip))) (sq (rg p35o16) (.cond 63 (rh p35o17) (sq (rg p35o18) (rt)))))))) (sq (rg p35o27) (rt))))
def pc35_r : List PRes := [PRes.tmp 4 []]
def pc35 : PFunc := ⟨72, pc35_r, p35c32, false⟩
def pc35_a : Ann := {
 kr := fun _ => none
 ka := fun _ => 0
 kh := hg [([0, 7, 8, 9, 17, 18, 24, 25, 33, 34, 43, 44, 50, 51, 52, 57, 59, 61, 65, 66], .at_ 1000000 0), ([3, 41], .at_ 3 0), ([5], .at_ 3 1), ([6, 10, 11, 20, 21, 23, 27, 28, 29, 30, 32, 37, 38, 39, 40, 42, 47, 48, 54, 56, 70], .imm), ([19, 58], .at_ 1000000 46), ([22], .at_ 3 40), ([26], .at_ 1000000 2), ([31], .at_ 3 3), ([35, 45], .at_ 1000000 4), ([36], .at_ 1000000 7), ([46], .at_ 1000000 5), ([53], .at_ 3 27), ([55], .at_ 3 26), ([60], .at_ 1000000 48), ([62], .at_ 1000000 49), ([67], .at_ 1000000 3), ([68], .at_ 1000001 0), ([69], .at_ 3 34)]
 gf := fun d f => match d, f with
  | some 71, 15 => some (false, false, [1000001, 1000002, 1000003])
  | _, _ => none
 ow := ow0 }
theorem pc35_ok : zai Try.prog pc35_a Try.f35 = some pc35 := by kernel_rfl
def p40o1 := [zM 2 (kk 0),
 zM 3 (kk 0)]
def p40o2 := [za 4 0 1000000 0 (.mv 0),
 za 5 4 1000000 0 (.nilc 4),
 za 6 5 1000000 0 (.faddr 48 5),
 za 7 6 1000000 48 (.load false 1 6),
 za 8 0 1000000 0 (.mv 0),
 za 9 8 1000000 0 (.nilc 8),
 za 10 9 1000000 0 (.faddr 49 9),
 za 11 10 1000000 49 (.load false 1 10),
 zi 2 7 (.mv 7),
 zi 3 11 (.mv 11)]
def p40c5 := sq (rg p40o1) (sq (rh p40o2) (rt))
def pc40_r : List PRes := [PRes.tmp 2 [], PRes.tmp 3 []]
def pc40 : PFunc := ⟨12, pc40_r, p40c5, false⟩
def pc40_a : Ann := {
 kr := fun _ => none
 ka := fun _ => 0
 kh := hg [([0, 4, 5, 8, 9], .at_ 1000000 0), ([6], .at_ 1000000 48), ([7, 11], .imm), ([10], .at_ 1000000 49)]
 ow := ow0 }
theorem pc40_ok : zai Try.prog pc40_a Try.f40 = some pc40 := by kernel_rfl
def p41o1 := [zM 2 (kk 0)]
def p41o2 := [zM 3 0,
 zo 4 (.nilc 3),
 zG 5 2 4,
 zL 6 5,
 zM 2 6]
def p41c5 := sq (rg p41o1) (sq (rg p41o2) (rt))
def pc41_r : List PRes := [PRes.tmp 2 []]
def pc41 : PFunc := ⟨7, pc41_r, p41c5, false⟩
def pc41_a : Ann := {
 kr := fun _ => none
 ka := fun _ => 0
 kh := fun _ => none
 ow := ow0 }
theorem pc41_ok : zai Try.prog pc41_a Try.f41 = some pc41 := by kernel_rfl
def p42o1 := [zo 2 (.mv (.const (.pointer none)))]
def p42o2 := [zM 3 0,
 zo 4 (.nilc 3),
 zG 5 3 4,
 zL 6 5,
 zM 2 6]
def p42c5 := sq (rg p42o1) (sq (rg p42o2) (rt))
def pc42_r : List PRes := [PRes.tmp 2 []]
def pc42 : PFunc := ⟨7, pc42_r, p42c5, true⟩
def pc42_a : Ann := {
 kr := fun _ => none
 ka := fun _ => 0
 kh := fun _ => none
 ow := ow0
 ex := true }
theorem pc42_ok : zai Try.prog pc42_a Try.f42 = some pc42 := by kernel_rfl
def p25o1 := [zM 0 kf]
def p25o2 := [zo 12 (.gcall false false k2' [[], []] 27 [kk 1, kk 2]),
 zM 1 12]
def p25o3 := [zM 13 1,
 zo 14 (.pnil false 13),
 zM 15 14,
 zf 16 15 (.mv 1),
 zf 17 15 (.gcall false false [300000, 300001, 300002, 300003] [[]] 42 [16]),
 zf 18 15 (.pnil false 17),
 zo 19 (.pick 15 kt 18),
 zM 20 19,
 zf 21 20 (.mv 1),
 zf 22 20 (.gcall false false [300000, 300001, 300002, 300003] [[]] 41 [21]),
 zf 23 20 (.prim (.bin .neq 3 false true) [22, kk 1]),
 zo 24 (.pick 20 kt 23)]
def p25o4 := [zM 0 kf]
def p25o10 := [zM 26 1,
 zo 27 (.build (.agg k4') [(0, 1, kk 1)]),
 zo 28 (.gcall false false [300000, 300001, 300002, 300003] [[], [], []] 28 [26, kk 0, 27]),
 zM 25 28,
 zX 29 25 0,
 zX 30 25 1,
 zo 2 (.alloc 73 (.agg k1') k3'),
 zs (.storeV k0' 42 2 29),
 zM 3 30]
def p25o11 := [zM 32 1,
 zo 33 (.build (.agg k4') [(0, 1, kk 1)]),
 zo 34 (.gcall false false [300000, 300001, 300002, 300003] [[], [], []] 28 [32, kk 0, 33]),
 zM 31 34,
 zX 35 31 0,
 zX 36 31 1,
 zo 4 (.alloc 73 (.agg k1') k3'),
 zs (.storeV k0' 42 4 35),
 zM 5 36]
def p25o12 := [zM 37 1,
 zo 38 (.buildV k0' (.agg k1') [(0, 1, kk 0), (1, 1, kk 101), (2, 1, kk 2), (40, 1, kk 1), (3, 1, kk 1), (26, 1, kk 17), (27, 1, kk 0)]),
 zo 39 (.gcall false false [300000, 300001, 300002, 300003] [[], k0'] 35 [37, 38]),
 zM 6 39]
def p25o13 := [zM 41 1,
 zo 42 (.gcall false false [300000, 300001, 300002, 300003] [[]] 40 [41]),
 zM 40 42,
 zX 43 40 0,
 zX 44 40 1,
 zM 7 43,
 zM 8 44]
def p25o14 := [zM 45 1,
 zo 46 (.buildV k0' (.agg k1') [(1, 1, kk 100)]),
 zo 47 (.gcall false false [300000, 300001, 300002, 300003] [[], k0'] 35 [45, 46]),
 zM 9 47]
def p25o15 := [zM 49 1,
 zo 50 (.build (.agg k4') [(0, 1, kk 1)]),
 zo 51 (.gcall false false [300000, 300001, 300002, 300003] [[], [], []] 28 [49, kk 2, 50]),
 zM 48 51,
 zX 52 48 0,
 zX 53 48 1,
 zo 10 (.alloc 73 (.agg k1') k3'),
 zs (.storeV k0' 42 10 52),
 zM 11 53]
def p25o16 := [zM 54 3,
 zK 55 .eql 67 54 0,
 zM 56 55,
 zt 57 56 (.faddr 0 2),
 zt 58 56 (.load false 1 57),
 zt 59 56 (.prim (.bin .eql 3 false true) [58, kk 101]),
 zo 60 (.pick 56 59 kf),
 zM 61 60,
 zt 62 61 (.faddr 1 2),
 zt 63 61 (.load false 1 62),
 zt 64 61 (.prim (.bin .eql 3 false true) [63, kk 0]),
 zo 65 (.pick 61 64 kf),
 zM 66 65,
 zt 67 66 (.faddr 3 2),
 zt 68 66 (.load false 1 67),
 zt 69 66 (.prim (.bin .eql 3 false true) [68, kk 1]),
 zo 70 (.pick 66 69 kf),
 zM 71 70,
 zt 72 71 (.faddr 4 2),
 zt 73 71 (.faddr 16 72),
 zt 74 71 (.load false 1 73),
 zt 75 71 (.prim (.bin .eql 3 false true) [74, kk 1]),
 zo 76 (.pick 71 75 kf),
 zM 77 76,
 zt 78 77 (.faddr 4 2),
 zt 79 77 (.faddr 17 78),
 zt 80 77 (.load false 1 79),
 zt 81 77 (.prim (.bin .eql 3 false true) [80, kk 1]),
 zo 82 (.pick 77 81 kf),
 zM 83 82,
 zt 84 83 (.mv 5),
 zt 85 83 (.prim (.bin .eql 67 false true) [84, kk 28]),
 zo 86 (.pick 83 85 kf),
 zM 87 86,
 zt 88 87 (.mv 6),
 zt 89 87 (.prim (.bin .eql 67 false true) [88, kk 0]),
 zo 90 (.pick 87 89 kf),
 zM 91 90,
 zt 92 91 (.mv 1),
 zt 93 91 (.gcall false false [300000, 300001, 300002, 300003] [[]] 29 [92]),
 zt 94 91 (.prim (.un .not) [93]),
 zo 95 (.pick 91 94 kf),
 zM 96 95,
 zt 97 96 (.mv 7),
 zt 98 96 (.prim (.bin .eql 3 false true) [97, kk 0]),
 zo 99 (.pick 96 98 kf),
 zM 100 99,
 zt 101 100 (.mv 8),
 zt 102 100 (.prim (.bin .eql 67 false true) [101, kk 17]),
 zo 103 (.pick 100 102 kf),
 zM 104 103,
 zt 105 104 (.mv 9),
 zt 106 104 (.prim (.bin .eql 67 false true) [105, kk 20]),
 zo 107 (.pick 104 106 kf),
 zM 108 107,
 zt 109 108 (.mv 11),
 zt 110 108 (.prim (.bin .eql 67 false true) [109, kk 19]),
 zo 111 (.pick 108 110 kf),
 zM 112 111,
 zt 113 112 (.mv 1),
 zt 114 112 (.gcall false false [300000, 300001, 300002, 300003] [[]] 30 [113]),
 zt 115 112 (.lenS 114),
 zt 116 112 (.prim (.bin .eql 3 false true) [115, kk 0]),
 zo 117 (.pick 112 116 kf),
 zM 0 117]
def pc25_r : List PRes := [PRes.tmp 0 []]
def pc25 : PFunc := ⟨118, pc25_r, (sq (rg p25o1) (sq (rg p25o2) (sq (sq (rg p25o3) (.cond 24 (sq (rg p25o4) (rt)) (.skip))) (sq (rg p25o10) (sq (rg p25o11) (sq (rg p25o12) (sq (rg p25o13) (sq (rg p25o14) (sq (rg p25o15) (sq (rg p25o16) (rt))))))))))), false⟩
def pc25_a : Ann := {
 kr := fun _ => none
 ka := fun _ => 0
 kh := fun _ => none
 gf := fun d f => match d, f with
  | some 12, 27 => some (false, false, k2')
  | some 17, 42 => some (false, false, [300000, 300001, 300002, 300003])
  | some 22, 41 => some (false, false, [300000, 300001, 300002, 300003])
  | some 28, 28 => some (false, false, [300000, 300001, 300002, 300003])
  | some 34, 28 => some (false, false, [300000, 300001, 300002, 300003])
  | some 39, 35 => some (false, false, [300000, 300001, 300002, 300003])
  | some 42, 40 => some (false, false, [300000, 300001, 300002, 300003])
  | some 47, 35 => some (false, false, [300000, 300001, 300002, 300003])
  | some 51, 28 => some (false, false, [300000, 300001, 300002, 300003])
  | some 93, 29 => some (false, false, [300000, 300001, 300002, 300003])
  | some 114, 30 => some (false, false, [300000, 300001, 300002, 300003])
  | _, _ => none
 ow := ow0 }
theorem pc25_ok : zai Try.prog pc25_a Try.f25 = some pc25 := by kernel_rfl
def p26o1 := [zo 1 (.box 63 0 []),
 zM 2 kf]
def p26o2 := [zM 3 (kk 0)]
def p26o3 := [zM 4 3,
 zK 5 .lss 3 4 4]
def p26o8 := [zM 8 3,
 zG 9 6 1,
 zo 10 (.iaddrA 4 2 9 8),
 zG 11 1 10,
 zL 12 11,
 zo 13 (.prim (.len 9) [12]),
 zK 14 .gtr 3 13 40]
def p26o9 := [zM 2 kf]
def p26o16 := [zM 6 3,
 zK 7 .add 3 6 1,
 zM 3 7]
def p26o22 := [zG 15 14 1,
 zG 16 1 15,
 zL 17 16,
 zo 18 (.prim (.len 9) [17]),
 zK 19 .leq 3 18 40,
 zM 2 19]
def p26c26 := sq (rg p26o1) (sq (sq (rg p26o2) (.block 0 (.loop (sq (sq (.region (some ([1, 3], [1], [])) false p26o3) (.cond 5 (.skip) (.exit 0))) (sq (.block 1 (sq (rg p26o8) (.cond 14 (sq (rg p26o9) (rt)) (.skip)))) (rg p26o16)))))) (sq (rg p26o22) (rt)))
def pc26_r : List PRes := [PRes.tmp 2 []]
def pc26 : PFunc := ⟨20, pc26_r, p26c26, false⟩
def pc26_a : Ann := {
 kr := fun
  | 2 => some ([1, 3], [1], [])
  | _ => none
 ka := fun _ => 0
 kh := fun _ => none
 ow := ow0 }
theorem pc26_ok : zai Try.prog pc26_a Try.f26 = some pc26 := by kernel_rfl
def p65o1 := [zo 1 (.box 51 0 []),
 zM 2 kf]
def p65o2 := [zG 3 1 1,
 zL 4 3,
 zo 5 (.prim (.len 9) [4]),
 zK 6 .leq 3 5 40,
 zM 2 6]
def p65c5 := sq (rg p65o1) (sq (rg p65o2) (rt))
def pc65_r : List PRes := [PRes.tmp 2 []]
def pc65 : PFunc := ⟨7, pc65_r, p65c5, false⟩
def pc65_a : Ann := {
 kr := fun _ => none
 ka := fun _ => 0
 kh := fun _ => none
 ow := ow0 }
theorem pc65_ok : zai Try.prog pc65_a Try.f65 = some pc65 := by kernel_rfl
def p52o1 := [zo 1 (.box 54 0 []),
 zM 2 kf]
def p52o2 := [zM 3 (kk 0)]
def p52o3 := [zM 4 3,
 zK 5 .lss 3 4 4]
def p52o8 := [zM 8 3,
 zG 9 3 1,
 zo 10 (.iaddrA 4 2 9 8),
 zo 11 (.load true 2 10),
 zo 12 (.call true [[]] 65 [11]),
 zo 13 (.prim (.un .not) [12])]
def p52o9 := [zM 2 kf]
def p52o16 := [zM 6 3,
 zK 7 .add 3 6 1,
 zM 3 7]
def p52o22 := [zM 2 kt]
def p52c26 := sq (rg p52o1) (sq (sq (rg p52o2) (.block 0 (.loop (sq (sq (.region (some ([1, 3], [1], [])) false p52o3) (.cond 5 (.skip) (.exit 0))) (sq (.block 1 (sq (rg p52o8) (.cond 13 (sq (rg p52o9) (rt)) (.skip)))) (rg p52o16)))))) (sq (rg p52o22) (rt)))
def pc52_r : List PRes := [PRes.tmp 2 []]
def pc52 : PFunc := ⟨14, pc52_r, p52c26, false⟩
def pc52_a : Ann := {
 kr := fun
  | 2 => some ([1, 3], [1], [])
  | _ => none
 ka := fun _ => 0
 kh := fun _ => none
 ow := ow0 }
theorem pc52_ok : zai Try.prog pc52_a Try.f52 = some pc52 := by kernel_rfl
def p31o1 := [zM 2 kf]
def p31o2 := [zM 3 (kk 0)]
def p31o3 := [zM 5 3,
 zM 6 0,
 zo 7 (.lenS 6),
 zB 8 .lss 3 5 7]
def p31o8 := [zM 11 0,
 zM 12 3,
 zo 13 (.iaddrS 66 11 12),
 zG 14 2 13,
 zo 15 (.load true 22 14),
 zo 16 (.call true [[]] 26 [15]),
 zo 17 (.prim (.un .not) [16]),
 zM 18 17,
 zf 19 18 (.mv 0),
 zf 20 18 (.mv 3),
 zf 21 18 (.iaddrS 66 19 20),
 zf 22 18 (.faddr 24 21),
 zf 23 18 (.faddr 34 22),
 zf 24 18 (.faddr 5 23),
 zf 25 18 (.load false 1 24),
 zf 26 18 (.lenS 25),
 zf 27 18 (.prim (.bin .gtr 3 false true) [26, kk 10]),
 zo 28 (.pick 18 kt 27)]
def p31o9 := [zM 2 kf]
def p31o15 := [zM 4 (kk 0)]
def p31o16 := [zM 29 4,
 zM 30 0,
 zM 31 3,
 zo 32 (.iaddrS 66 30 31),
 zG 33 24 32,
 zG 34 34 33,
 zG 35 5 34,
 zL 36 35,
 zo 37 (.lenS 36),
 zB 38 .lss 3 29 37]
def p31o21 := [zM 41 0,
 zM 42 3,
 zo 43 (.iaddrS 66 41 42),
 zG 44 24 43,
 zG 45 34 44,
 zG 46 5 45,
 zL 47 46,
 zM 48 4,
 zo 49 (.iaddrS 25 47 48),
 zG 50 2 49,
 zo 51 (.load true 11 50),
 zo 52 (.call true [[]] 52 [51]),
 zo 53 (.prim (.un .not) [52]),
 zM 54 53,
 zf 55 54 (.mv 0),
 zf 56 54 (.mv 3),
 zf 57 54 (.iaddrS 66 55 56),
 zf 58 54 (.faddr 24 57),
 zf 59 54 (.faddr 34 58),
 zf 60 54 (.faddr 5 59),
 zf 61 54 (.load false 1 60),
 zf 62 54 (.mv 4),
 zf 63 54 (.iaddrS 25 61 62),
 zf 64 54 (.faddr 13 63),
 zf 65 54 (.faddr 4 64),
 zf 66 54 (.load true 8 65),
 zf 67 54 (.build (.agg k6') [(3, 8, .tmp 66)]),
 zf 68 54 (.call true [[]] 52 [67]),
 zf 69 54 (.prim (.un .not) [68]),
 zo 70 (.pick 54 kt 69)]
def p31o22 := [zM 2 kf]
def p31o29 := [zM 39 4,
 zK 40 .add 3 39 1,
 zM 4 40]
def p31c31 := sq (sq (.region (some ([0, 3, 4], [], [])) false p31o16) (.cond 38 (.skip) (.exit 2))) (sq (.block 3 (sq (rg p31o21) (.cond 70 (sq (rg p31o22) (rt)) (.skip)))) (rg p31o29))
def p31o37 := [zM 9 3,
 zK 10 .add 3 9 1,
 zM 3 10]
def p31c37 := rg p31o37
def p31c39 := sq (sq (.region (some ([0, 3], [], [])) false p31o3) (.cond 8 (.skip) (.exit 0))) (sq (.block 1 (sq (sq (rg p31o8) (.cond 28 (sq (rg p31o9) (rt)) (.skip))) (sq (rg p31o15) (.block 2 (.loop p31c31))))) p31c37)
def p31o43 := [zM 71 0,
 zo 72 (.lenS 71),
 zK 73 .leq 3 72 50,
 zM 2 73]
def p31c45 := sq (rg p31o43) (rt)
def p31c47 := sq (rg p31o1) (sq (sq (rg p31o2) (.block 0 (.loop p31c39))) p31c45)
def pc31_r : List PRes := [PRes.tmp 2 []]
def pc31 : PFunc := ⟨74, pc31_r, p31c47, false⟩
def pc31_a : Ann := {
 kr := fun
  | 2 => some ([0, 3], [], [])
  | 7 => some ([0, 3, 4], [], [])
  | _ => none
 ka := fun _ => 0
 kh := fun _ => none
 ow := ow0 }
theorem pc31_ok : zai Try.prog pc31_a Try.f31 = some pc31 := by kernel_rfl
def p14o1 := [zo 6 (.mv (.const (.pointer none)))]
def p14o2 := [zM 7 0,
 zM 8 1,
 zM 9 2,
 zo 10 (.prim .min [9, kk 4]),
 zo 11 (.prim .max [kk 1, 10]),
 zo 12 (.buildV [(5, 11)] (.agg #[ki, ki, ki, ki, ki, kl, kl, kl]) [(0, 1, .tmp 7), (1, 1, .tmp 8), (2, 1, .tmp 11), (3, 1, .const (.int .i64 (-1))), (4, 1, .const (.int .i64 (-1)))]),
 zo 13 (.box 36 12 [(5, 1000000054, 11), (6, 58, 25), (7, 32, 6)]),
 zM 6 13]
def p14c5 := sq (rg p14o1) (sq (rg p14o2) (rt))
def pc14_r : List PRes := [PRes.tmp 6 []]
def pc14 : PFunc := ⟨14, pc14_r, p14c5, true⟩
def pc14_a : Ann := {
 kr := fun _ => none
 ka := fun _ => 0
 kh := fun _ => none
 ow := ow0
 ex := true }
theorem pc14_ok : zai Try.prog pc14_a Try.f14 = some pc14 := by kernel_rfl
def p32o1 := [zo 4 (.mv (.const (.pointer none)))]
def p32o2 := [zM 7 1,
 zo 8 (.prim .min [7, kk 4]),
 zo 9 (.prim .max [kk 1, 8]),
 zM 5 9]
def p32o3 := [zM 10 0,
 zo 11 (.prim .min [10, kk 3]),
 zo 12 (.prim .max [kk 0, 11]),
 zM 6 12]
def p32o4 := [zM 13 6,
 zM 14 5,
 zM 15 6,
 zM 16 5,
 zo 17 (.gcall false false k2' [[], [], []] 14 [15, kk 1, 16]),
 zo 18 (.buildV [(35, 11), (36, 2), (37, 11), (38, 22), (44, 25)] (.agg #[ki, ki, ki, ki, .bool false, ki, ki, ki, ki, ki, ki, ki, ki, ki, ki, ki, ks, ki, ks, ki, ks, ki, ks, ki, ks, ki, ki, ki, ki, ki, ki, ki, ki, ki, ki, kl, kl, kl, kl, ki, ki, ki, ki, ki, kl, ki, ki, ki, ki, .pointer none]) [(0, 1, .tmp 13), (1, 1, .tmp 14), (2, 1, kk 1), (49, 1, .tmp 17)]),
 zo 19 (.box 93 18 [(35, 1000000054, 11), (36, 1000000156, 2), (37, 1000000054, 11), (38, 1000000063, 22), (44, 1000000058, 25)]),
 zM 4 19]
def p32c9 := sq (rg p32o1) (sq (rg p32o2) (sq (rg p32o3) (sq (rg p32o4) (rt))))
def pc32_r : List PRes := [PRes.tmp 4 []]
def pc32 : PFunc := ⟨20, pc32_r, p32c9, true⟩
def pc32_a : Ann := {
 kr := fun _ => none
 ka := fun _ => 0
 kh := fun _ => none
 gf := fun d f => match d, f with
  | some 17, 14 => some (false, false, k2')
  | _, _ => none
 ow := ow0
 ex := true }
theorem pc32_ok : zai Try.prog pc32_a Try.f32 = some pc32 := by kernel_rfl
def p66o1 := [zM 6 kf]
def p66o2 := [zM 7 0,
 zM 8 1,
 zB 9 .geq 3 7 8,
 zM 10 9,
 zt 11 10 (.mv 0),
 zt 12 10 (.mv 2),
 zt 13 10 (.prim (.bin .leq 3 false false) [11, 12]),
 zo 14 (.pick 10 13 kf),
 zM 6 14]
def p66c5 := sq (rg p66o1) (sq (rg p66o2) (rt))
def pc66_r : List PRes := [PRes.tmp 6 []]
def pc66 : PFunc := ⟨15, pc66_r, p66c5, false⟩
def pc66_a : Ann := {
 kr := fun _ => none
 ka := fun _ => 0
 kh := fun _ => none
 ow := ow0 }
theorem pc66_ok : zai Try.prog pc66_a Try.f66 = some pc66 := by kernel_rfl
def p67o1 := [zo 1 (.box 63 0 []),
 zo 2 (.alloc 63 (.agg k4') [])]
def p67o2 := [zG 4 0 1,
 zL 5 4,
 zG 6 16 1,
 zL 7 6,
 zG 8 17 1,
 zL 9 8,
 zo 10 (.build (.agg k4') [(0, 1, .tmp 5), (16, 1, .tmp 7), (17, 1, .tmp 9)]),
 zo 3 (.alloc 63 (.agg k4') []),
 zs (.store 22 3 10)]
def p67o3 := [zG 11 0 1,
 zL 12 11]
def p67o4 := [zK 14 .eql 3 12 1,
 zM 13 14]
def p67o5 := [za 15 1 1 0 (.faddr 4 1),
 za 16 15 1 4 (.load true 2 15),
 za 17 1 1 0 (.faddr 6 1),
 za 18 17 1 6 (.load true 8 17),
 za 19 3 3 0 (.faddr 4 3),
 zn (.store 2 19 16) [(19, .at_ 3 4), (16, .imm)],
 za 20 3 3 0 (.faddr 6 3),
 zn (.store 8 20 18) [(20, .at_ 3 6), (18, .imm)]]
def p67o6 := [zK 22 .eql 3 12 2,
 zM 21 22]
def p67o7 := [za 23 1 1 0 (.faddr 1 1),
 za 24 23 1 1 (.load false 1 23),
 za 25 1 1 0 (.faddr 4 1),
 za 26 25 1 4 (.load true 2 25),
 za 27 3 3 0 (.faddr 1 3),
 zn (.store 1 27 24) [(27, .at_ 3 1), (24, .imm)],
 za 28 3 3 0 (.faddr 4 3),
 zn (.store 2 28 26) [(28, .at_ 3 4), (26, .imm)]]
def p67o8 := [zK 30 .eql 3 12 3,
 zM 29 30]
def p67o9 := [za 31 1 1 0 (.faddr 1 1),
 za 32 31 1 1 (.load false 1 31),
 za 33 1 1 0 (.faddr 2 1),
 za 34 33 1 2 (.load false 1 33),
 za 35 1 1 0 (.faddr 14 1),
 za 36 35 1 14 (.load true 2 35),
 za 37 3 3 0 (.faddr 1 3),
 zn (.store 1 37 32) [(37, .at_ 3 1), (32, .imm)],
 za 38 3 3 0 (.faddr 2 3),
 zn (.store 1 38 34) [(38, .at_ 3 2), (34, .imm)],
 za 39 3 3 0 (.faddr 14 3),
 zn (.store 2 39 36) [(39, .at_ 3 14), (36, .imm)]]
def p67o10 := [zK 41 .eql 3 12 4,
 zM 40 41]
def p67o11 := [zG 42 1 1,
 zL 43 42,
 zG 44 1 3,
 zs (.store 1 44 43)]
def p67o12 := [zK 46 .eql 3 12 5,
 zM 45 46]
def p67o13 := [za 47 1 1 0 (.faddr 2 1),
 za 48 47 1 2 (.load false 1 47),
 za 49 1 1 0 (.faddr 3 1),
 za 50 49 1 3 (.load false 1 49),
 za 51 3 3 0 (.faddr 2 3),
 zn (.store 1 51 48) [(51, .at_ 3 2), (48, .imm)],
 za 52 3 3 0 (.faddr 3 3),
 zn (.store 1 52 50) [(52, .at_ 3 3), (50, .imm)]]
def p67o14 := [zK 54 .eql 3 12 6,
 zM 53 54]
def p67o16 := [zK 55 .eql 3 12 7,
 zM 53 55]
def p67o19 := [zG 56 18 1,
 zo 57 (.load true 4 56),
 zG 58 18 3,
 zs (.store 4 58 57)]
def p67o35 := [zo 59 (.load true 22 3),
 zs (.store 22 2 59)]
def p67c40 := sq (rg p67o1) (sq (rg p67o2) (sq (sq (rg p67o3) (.block 0 (sq (rg p67o4) (.cond 13 (rh p67o5) (sq (rg p67o6) (.cond 21 (rh p67o7) (sq (rg p67o8) (.cond 29 (rh p67o9) (sq (rg p67o10) (.cond 40 (rg p67o11) (sq (rg p67o12) (.cond 45 (rh p67o13) (sq (sq (rg p67o14) (.cond 53 (.skip) (rg p67o16))) (.cond 53 (rg p67o19) (.skip))))))))))))))) (sq (rg p67o35) (rt))))
def pc67_r : List PRes := [PRes.cell 2 true 22 []]
def pc67 : PFunc := ⟨60, pc67_r, p67c40, false⟩
def pc67_a : Ann := {
 kr := fun _ => none
 ka := fun _ => 0
 kh := hg [([1], .at_ 1 0), ([3], .at_ 3 0), ([15, 25], .at_ 1 4), ([16, 18, 24, 26, 32, 34, 36, 48, 50], .imm), ([17], .at_ 1 6), ([19, 28], .at_ 3 4), ([20], .at_ 3 6), ([23, 31], .at_ 1 1), ([27, 37], .at_ 3 1), ([33, 47], .at_ 1 2), ([35], .at_ 1 14), ([38, 51], .at_ 3 2), ([39], .at_ 3 14), ([49], .at_ 1 3), ([52], .at_ 3 3)]
 ow := ow0 }
theorem pc67_ok : zai Try.prog pc67_a Try.f67 = some pc67 := by kernel_rfl
def p68o1 := [zo 1 (.box 49 0 []),
 zM 2 kf]
def p68o2 := [zG 3 0 1,
 zL 4 3,
 zo 5 (.call true [[], [], []] 66 [4, .const (.int .i64 (-1000)), kk 1000]),
 zM 6 5,
 zt 7 6 (.faddr 1 1),
 zt 8 6 (.load false 1 7),
 zt 9 6 (.call true [[], [], []] 66 [8, .const (.int .i64 (-1000)), kk 1000]),
 zo 10 (.pick 6 9 kf),
 zM 2 10]
def p68c5 := sq (rg p68o1) (sq (rg p68o2) (rt))
def pc68_r : List PRes := [PRes.tmp 2 []]
def pc68 : PFunc := ⟨11, pc68_r, p68c5, false⟩
def pc68_a : Ann := {
 kr := fun _ => none
 ka := fun _ => 0
 kh := fun _ => none
 ow := ow0 }
theorem pc68_ok : zai Try.prog pc68_a Try.f68 = some pc68 := by kernel_rfl
def p69o1 := [zo 1 (.box 61 0 []),
 zM 2 kf]
def p69o2 := [zG 3 0 1,
 zL 4 3,
 zG 5 1 1,
 zL 6 5,
 zo 7 (.build (.agg #[ki, ki]) [(0, 1, .tmp 4), (1, 1, .tmp 6)]),
 zo 8 (.call true [[]] 68 [7]),
 zM 9 8,
 zt 10 9 (.faddr 2 1),
 zt 11 9 (.load false 1 10),
 zt 12 9 (.faddr 3 1),
 zt 13 9 (.load false 1 12),
 zt 14 9 (.build (.agg #[ki, ki]) [(0, 1, .tmp 11), (1, 1, .tmp 13)]),
 zt 15 9 (.call true [[]] 68 [14]),
 zo 16 (.pick 9 15 kf),
 zM 2 16]
def p69c5 := sq (rg p69o1) (sq (rg p69o2) (rt))
def pc69_r : List PRes := [PRes.tmp 2 []]
def pc69 : PFunc := ⟨17, pc69_r, p69c5, false⟩
def pc69_a : Ann := {
 kr := fun _ => none
 ka := fun _ => 0
 kh := fun _ => none
 ow := ow0 }
theorem pc69_ok : zai Try.prog pc69_a Try.f69 = some pc69 := by kernel_rfl
def p70o1 := [zo 1 (.box 51 0 []),
 zM 2 kf]
def p70o2 := [zG 3 0 1,
 zL 4 3,
 zK 5 .eql 2 4 0,
 zM 6 5,
 zf 7 6 (.faddr 1 1),
 zf 8 6 (.load false 1 7),
 zf 9 6 (.prim (.bin .eql 9 false true) [8, .const (ks)]),
 zo 10 (.pick 6 kt 9),
 zM 11 10,
 zt 12 11 (.faddr 1 1),
 zt 13 11 (.load false 1 12),
 zt 14 11 (.prim (.len 9) [13]),
 zt 15 11 (.prim (.bin .leq 3 false true) [14, kk 12]),
 zo 16 (.pick 11 15 kf),
 zM 2 16]
def p70c5 := sq (rg p70o1) (sq (rg p70o2) (rt))
def pc70_r : List PRes := [PRes.tmp 2 []]
def pc70 : PFunc := ⟨17, pc70_r, p70c5, false⟩
def pc70_a : Ann := {
 kr := fun _ => none
 ka := fun _ => 0
 kh := fun _ => none
 ow := ow0 }
theorem pc70_ok : zai Try.prog pc70_a Try.f70 = some pc70 := by kernel_rfl
def p53o1 := [zo 1 (.box 63 0 []),
 zM 2 kf]
def p53o2 := [za 5 1 1 0 (.faddr 0 1),
 za 6 5 1 0 (.load false 1 5),
 zi 7 6 (.call false [[], [], []] 66 [6, kk 1, kk 8]),
 zi 8 7 (.mv 7),
 ⟨some 9, .faddr 16 1, some (8, true), [(1, .at_ 1 0)]⟩,
 ⟨some 10, .load false 1 9, some (8, true), [(9, .at_ 1 16)]⟩,
 ⟨some 11, .call false [[], [], []] 66 [10, kk 0, kk 3], some (8, true), [(10, .imm)]⟩,
 zj 12 8 11 (.pick 8 11 kf),
 zi 13 12 (.mv 12),
 ⟨some 14, .faddr 17 1, some (13, true), [(1, .at_ 1 0)]⟩,
 ⟨some 15, .load false 1 14, some (13, true), [(14, .at_ 1 17)]⟩,
 ⟨some 16, .call false [[], [], []] 66 [15, kk 0, kk 1000000], some (13, true), [(15, .imm)]⟩,
 zj 17 13 16 (.pick 13 16 kf),
 zi 18 17 (.mv 17),
 ⟨some 19, .load true 22 1, some (18, true), [(1, .at_ 1 0)]⟩,
 ⟨some 20, .load true 22 1, some (18, true), [(1, .at_ 1 0)]⟩,
 ⟨some 21, .call false [[]] 67 [20], some (18, true), [(20, .imm)]⟩,
 ⟨some 22, .prim (.bin .eql 63 false false) [19, 21], some (18, true), [(19, .imm), (21, .imm)]⟩,
 zj 23 18 22 (.pick 18 22 kf),
 zi 24 23 (.mv 23),
 ⟨some 25, .faddr 4 1, some (24, true), [(1, .at_ 1 0)]⟩,
 ⟨some 26, .load true 2 25, some (24, true), [(25, .at_ 1 4)]⟩,
 ⟨some 27, .call false [[]] 68 [26], some (24, true), [(26, .imm)]⟩,
 zj 28 24 27 (.pick 24 27 kf),
 zi 29 28 (.mv 28),
 ⟨some 30, .faddr 18 1, some (29, true), [(1, .at_ 1 0)]⟩,
 ⟨some 31, .load true 4 30, some (29, true), [(30, .at_ 1 18)]⟩,
 ⟨some 32, .call false [[]] 69 [31], some (29, true), [(31, .imm)]⟩,
 zj 33 29 32 (.pick 29 32 kf),
 zi 34 33 (.mv 33),
 ⟨some 35, .faddr 1 1, some (34, true), [(1, .at_ 1 0)]⟩,
 ⟨some 36, .load false 1 35, some (34, true), [(35, .at_ 1 1)]⟩,
 ⟨some 37, .call false [[], [], []] 66 [36, kk 0, kk 1000000], some (34, true), [(36, .imm)]⟩,
 zj 38 34 37 (.pick 34 37 kf),
 zi 39 38 (.mv 38),
 ⟨some 40, .faddr 2 1, some (39, true), [(1, .at_ 1 0)]⟩,
 ⟨some 41, .load false 1 40, some (39, true), [(40, .at_ 1 2)]⟩,
 ⟨some 42, .call false [[], [], []] 66 [41, .const (.int .i64 (-1)), kk 100], some (39, true), [(41, .imm)]⟩,
 zj 43 39 42 (.pick 39 42 kf),
 zi 44 43 (.mv 43),
 ⟨some 45, .faddr 3 1, some (44, true), [(1, .at_ 1 0)]⟩,
 ⟨some 46, .load false 1 45, some (44, true), [(45, .at_ 1 3)]⟩,
 ⟨some 47, .call false [[], [], []] 66 [46, .const (.int .i64 (-1)), kk 100], some (44, true), [(46, .imm)]⟩,
 zj 48 44 47 (.pick 44 47 kf),
 zi 49 48 (.mv 48),
 ⟨some 50, .faddr 14 1, some (49, true), [(1, .at_ 1 0)]⟩,
 ⟨some 51, .load true 2 50, some (49, true), [(50, .at_ 1 14)]⟩,
 ⟨some 52, .call false [[]] 70 [51], some (49, true), [(51, .imm)]⟩,
 zj 53 49 52 (.pick 49 52 kf),
 zi 3 53 (.mv 53)]
def p53o3 := [zM 4 (kk 0)]
def p53o4 := [zM 54 4,
 zK 55 .lss 3 54 4]
def p53o9 := [zM 58 3,
 zM 59 58,
 zt 60 59 (.mv 4),
 zt 61 59 (.faddr 6 1),
 zt 62 59 (.iaddrA 4 2 61 60),
 zt 63 59 (.load true 2 62),
 zt 64 59 (.call true [[]] 70 [63]),
 zo 65 (.pick 59 64 kf),
 zM 3 65]
def p53o11 := [zM 56 4,
 zK 57 .add 3 56 1,
 zM 4 57]
def p53c13 := sq (sq (.region (some ([1, 3, 4], [1], [])) false p53o4) (.cond 55 (.skip) (.exit 0))) (sq (.block 1 (rg p53o9)) (rg p53o11))
def p53o17 := [zM 66 3,
 zM 2 66]
def p53c19 := sq (rg p53o17) (rt)
def p53c20 := sq (sq (.region (some ([1, 3], [1], [])) false p53o3) (.block 0 (.loop p53c13))) p53c19
def p53c22 := sq (rg p53o1) (sq (rh p53o2) p53c20)
def pc53_r : List PRes := [PRes.tmp 2 []]
def pc53 : PFunc := ⟨67, pc53_r, p53c22, false⟩
def pc53_a : Ann := {
 kr := fun
  | 2 => some ([1, 3], [1], [])
  | 3 => some ([1, 3, 4], [1], [])
  | _ => none
 ka := fun _ => 0
 kh := hg [([1, 5], .at_ 1 0), ([6, 7, 8, 10, 11, 12, 13, 15, 16, 17, 18, 19, 20, 21, 22, 23, 24, 26, 27, 28, 29, 31, 32, 33, 34, 36, 37, 38, 39, 41, 42, 43, 44, 46, 47, 48, 49, 51, 52, 53], .imm), ([9], .at_ 1 16), ([14], .at_ 1 17), ([25], .at_ 1 4), ([30], .at_ 1 18), ([35], .at_ 1 1), ([40], .at_ 1 2), ([45], .at_ 1 3), ([50], .at_ 1 14)]
 ow := ow0 }
theorem pc53_ok : zai Try.prog pc53_a Try.f53 = some pc53 := by kernel_rfl
def p33o1 := [zo 5 (.box 63 2 []),
 zo 6 (.alloc 73 (.agg k1') k3'),
 zM 7 (kk 0)]
def p33o2 := [zo 9 (.load true 22 5),
 zo 8 (.alloc 63 (.agg k4') []),
 zs (.store 22 8 9)]
def p33o3 := [za 10 0 1000000 0 (.mv 0),
 za 11 10 1000000 0 (.nilc 10),
 za 12 11 1000000 0 (.faddr 0 11),
 za 13 12 1000000 0 (.load false 1 12),
 za 14 0 1000000 0 (.mv 0),
 za 15 14 1000000 0 (.nilc 14),
 za 16 15 1000000 0 (.faddr 2 15),
 za 17 16 1000000 2 (.load false 1 16),
 za 18 8 8 0 (.faddr 16 8),
 zn (.store 1 18 13) [(18, .at_ 8 16), (13, .imm)],
 za 19 8 8 0 (.faddr 17 8),
 zn (.store 1 19 17) [(19, .at_ 8 17), (17, .imm)]]
def p33o4 := [zM 21 0,
 zo 22 (.nilc 21),
 zG 23 4 22,
 zL 24 23,
 zM 20 24]
def p33o5 := [zo 25 (.buildV k0' (.agg k1') []),
 zs (.storeV k0' 42 6 25),
 zM 7 (kk 28)]
def p33o8 := [zM 27 1,
 zK 28 .lss 3 27 0,
 zM 29 28,
 zf 30 29 (.mv 1),
 zf 31 29 (.mv 0),
 zf 32 29 (.nilc 31),
 zf 33 29 (.faddr 1 32),
 zf 34 29 (.load false 1 33),
 zf 35 29 (.prim (.bin .geq 3 false false) [30, 34]),
 zo 36 (.pick 29 kt 35),
 zM 26 36]
def p33o9 := [zo 37 (.buildV k0' (.agg k1') []),
 zs (.storeV k0' 42 6 37),
 zM 7 (kk 19)]
def p33o12 := [zo 39 (.load true 22 8),
 zo 40 (.call true [[]] 53 [39]),
 zo 41 (.prim (.un .not) [40]),
 zM 38 41]
def p33o13 := [zo 42 (.buildV k0' (.agg k1') []),
 zs (.storeV k0' 42 6 42),
 zM 7 (kk 11)]
def p33o24 := [zM 43 0,
 zM 44 0,
 zo 45 (.nilc 44),
 zG 46 3 45,
 zL 47 46,
 zK 48 .add 3 47 1,
 zo 49 (.nilc 43),
 zG 50 3 49,
 zs (.store 1 50 48)]
def p33o25 := [zM 51 0,
 zo 52 (.nilc 51),
 zG 53 4 52,
 zs (.store 1 53 kt)]
def p33o26 := [za 54 0 1000000 0 (.mv 0),
 za 55 0 1000000 0 (.mv 0),
 za 56 55 1000000 0 (.nilc 55),
 za 57 56 1000000 0 (.faddr 0 56),
 za 58 57 1000000 0 (.load false 1 57),
 zi 59 58 (.prim (.bin .add 3 true false) [kk 100, 58]),
 zi 60 1 (.mv 1),
 za 61 0 1000000 0 (.mv 0),
 za 62 61 1000000 0 (.nilc 61),
 za 63 62 1000000 0 (.faddr 2 62),
 za 64 63 1000000 2 (.load false 1 63),
 za 65 0 1000000 0 (.mv 0),
 za 66 65 1000000 0 (.nilc 65),
 za 67 66 1000000 0 (.faddr 3 66),
 za 68 67 1000000 3 (.load false 1 67),
 za 69 8 8 0 (.load true 22 8),
 ⟨some 70, .buildV k0' (.agg k1') [(0, 1, .tmp 59), (1, 1, .tmp 60), (2, 1, kk 1), (40, 1, .tmp 64), (3, 1, .tmp 68), (4, 22, .tmp 69)], none, [(59, .imm), (60, .imm), (64, .imm), (68, .imm), (69, .imm)]⟩,
 za 71 54 1000000 0 (.nilc 54),
 za 72 71 1000000 0 (.faddr 5 71),
 zn (.storeV k0' 42 72 70) [(72, .at_ 1000000 5), (70, .imm)]]
def p33o27 := [zM 73 0,
 zo 74 (.nilc 73),
 zG 75 5 74,
 zo 76 (.load true 42 75),
 zs (.storeV k0' 42 6 76),
 zM 7 (kk 0)]
def p33c36 := sq (rg p33o1) (sq (rg p33o2) (sq (rh p33o3) (sq (.block 0 (sq (rg p33o4) (.cond 20 (sq (rg p33o5) (rt)) (sq (rg p33o8) (.cond 26 (sq (rg p33o9) (rt)) (sq (rg p33o12) (.cond 38 (sq (rg p33o13) (rt)) (.skip)))))))) (sq (rg p33o24) (sq (rg p33o25) (sq (rh p33o26) (sq (rg p33o27) (rt))))))))
def pc33_r : List PRes := [PRes.cell 6 true 42 k0', PRes.tmp 7 []]
def pc33 : PFunc := ⟨77, pc33_r, p33c36, false⟩
def pc33_a : Ann := {
 kr := fun _ => none
 ka := fun _ => 0
 kh := hg [([0, 10, 11, 12, 14, 15, 54, 55, 56, 57, 61, 62, 65, 66, 71], .at_ 1000000 0), ([1, 13, 17, 58, 59, 60, 64, 68, 69, 70], .imm), ([8], .at_ 8 0), ([16, 63], .at_ 1000000 2), ([18], .at_ 8 16), ([19], .at_ 8 17), ([67], .at_ 1000000 3), ([72], .at_ 1000000 5)]
 ow := ow0 }
theorem pc33_ok : zai Try.prog pc33_a Try.f33 = some pc33 := by kernel_rfl
def p34o1 := [zo 2 (.box 73 0 k3'),
 zo 3 (.box 73 1 k3'),
 zM 4 kf]
def p34o2 := [zG 5 0 2,
 zL 6 5,
 zG 7 0 3,
 zL 8 7,
 zB 9 .eql 3 6 8,
 zM 10 9,
 zt 11 10 (.faddr 1 2),
 zt 12 10 (.load false 1 11),
 zt 13 10 (.faddr 1 3),
 zt 14 10 (.load false 1 13),
 zt 15 10 (.prim (.bin .eql 3 false false) [12, 14]),
 zo 16 (.pick 10 15 kf),
 zM 17 16,
 zt 18 17 (.faddr 2 2),
 zt 19 17 (.load false 1 18),
 zt 20 17 (.faddr 2 3),
 zt 21 17 (.load false 1 20),
 zt 22 17 (.prim (.bin .eql 3 false false) [19, 21]),
 zo 23 (.pick 17 22 kf),
 zM 24 23,
 zt 25 24 (.faddr 3 2),
 zt 26 24 (.load false 1 25),
 zt 27 24 (.faddr 3 3),
 zt 28 24 (.load false 1 27),
 zt 29 24 (.prim (.bin .eql 3 false false) [26, 28]),
 zo 30 (.pick 24 29 kf),
 zM 31 30,
 zt 32 31 (.faddr 4 2),
 zt 33 31 (.load true 22 32),
 zt 34 31 (.faddr 4 3),
 zt 35 31 (.load true 22 34),
 zt 36 31 (.prim (.bin .eql 63 false false) [33, 35]),
 zo 37 (.pick 31 36 kf),
 zM 38 37,
 zt 39 38 (.faddr 40 2),
 zt 40 38 (.load false 1 39),
 zt 41 38 (.faddr 40 3),
 zt 42 38 (.load false 1 41),
 zt 43 38 (.prim (.bin .eql 3 false false) [40, 42]),
 zo 44 (.pick 38 43 kf),
 zM 45 44,
 zt 46 45 (.faddr 41 2),
 zt 47 45 (.load false 1 46),
 zt 48 45 (.faddr 41 3),
 zt 49 45 (.load false 1 48),
 zt 50 45 (.prim (.bin .eql 3 false false) [47, 49]),
 zo 51 (.pick 45 50 kf),
 zM 52 51,
 zt 53 52 (.faddr 26 2),
 zt 54 52 (.load false 1 53),
 zt 55 52 (.faddr 26 3),
 zt 56 52 (.load false 1 55),
 zt 57 52 (.prim (.bin .eql 67 false false) [54, 56]),
 zo 58 (.pick 52 57 kf),
 zM 59 58,
 zt 60 59 (.faddr 27 2),
 zt 61 59 (.load false 1 60),
 zt 62 59 (.faddr 27 3),
 zt 63 59 (.load false 1 62),
 zt 64 59 (.prim (.bin .eql 3 false false) [61, 63]),
 zo 65 (.pick 59 64 kf),
 zM 4 65]
def p34c5 := sq (rg p34o1) (sq (rg p34o2) (rt))
def pc34_r : List PRes := [PRes.tmp 4 []]
def pc34 : PFunc := ⟨66, pc34_r, p34c5, false⟩
def pc34_a : Ann := {
 kr := fun _ => none
 ka := fun _ => 0
 kh := fun _ => none
 ow := ow0 }
theorem pc34_ok : zai Try.prog pc34_a Try.f34 = some pc34 := by kernel_rfl
def p47o1 := [zM 6 (kk 0)]
def p47o2 := [zM 7 (kk 0)]
def p47o3 := [zM 8 7,
 zM 9 0,
 zo 10 (.nilc 9),
 zG 11 7 10,
 zL 12 11,
 zo 13 (.lenS 12),
 zB 14 .lss 3 8 13]
def p47o8 := [zM 17 0,
 zo 18 (.nilc 17),
 zG 19 7 18,
 zL 20 19,
 zM 21 7,
 zo 22 (.iaddrS 6 20 21),
 zG 23 0 22,
 zL 24 23,
 zM 25 1,
 zB 26 .eql 3 24 25,
 zM 27 26,
 zt 28 27 (.mv 0),
 zt 29 27 (.nilc 28),
 zt 30 27 (.faddr 7 29),
 zt 31 27 (.load false 1 30),
 zt 32 27 (.mv 7),
 zt 33 27 (.iaddrS 6 31 32),
 zt 34 27 (.faddr 4 33),
 zt 35 27 (.load false 1 34),
 zt 36 27 (.mv 2),
 zt 37 27 (.prim (.bin .eql 3 false false) [35, 36]),
 zo 38 (.pick 27 37 kf)]
def p47o9 := [zM 39 7,
 zM 6 39]
def p47o16 := [zM 15 7,
 zK 16 .add 3 15 1,
 zM 7 16]
def p47c18 := sq (sq (.region (some ([0, 1, 2, 7], [1000000, 1000001, 1000002], [])) false p47o3) (.cond 14 (.skip) (.exit 0))) (sq (.block 1 (sq (rg p47o8) (.cond 38 (sq (rg p47o9) (rt)) (.skip)))) (rg p47o16))
def p47o22 := [zM 6 (kk (-1))]
def p47c24 := sq (rg p47o22) (rt)
def p47c26 := sq (rg p47o1) (sq (sq (rg p47o2) (.block 0 (.loop p47c18))) p47c24)
def pc47_r : List PRes := [PRes.tmp 6 []]
def pc47 : PFunc := ⟨40, pc47_r, p47c26, false⟩
def pc47_a : Ann := {
 kr := fun
  | 2 => some ([0, 1, 2, 7], [1000000, 1000001, 1000002], [])
  | _ => none
 ka := fun _ => 0
 kh := fun _ => none
 ow := ow0 }
theorem pc47_ok : zai Try.prog pc47_a Try.f47 = some pc47 := by kernel_rfl
def p75o1 := [zo 1 (.box 49 0 []),
 zM 2 kf]
def p75o2 := [zG 3 0 1,
 zL 4 3,
 zK 5 .geq 3 4 0,
 zM 6 5,
 zt 7 6 (.faddr 0 1),
 zt 8 6 (.load false 1 7),
 zt 9 6 (.prim (.bin .lss 3 false true) [8, kk 64]),
 zo 10 (.pick 6 9 kf),
 zM 11 10,
 zt 12 11 (.faddr 1 1),
 zt 13 11 (.load false 1 12),
 zt 14 11 (.prim (.bin .geq 3 false true) [13, kk 0]),
 zo 15 (.pick 11 14 kf),
 zM 16 15,
 zt 17 16 (.faddr 1 1),
 zt 18 16 (.load false 1 17),
 zt 19 16 (.prim (.bin .lss 3 false true) [18, kk 64]),
 zo 20 (.pick 16 19 kf),
 zM 2 20]
def p75c5 := sq (rg p75o1) (sq (rg p75o2) (rt))
def pc75_r : List PRes := [PRes.tmp 2 []]
def pc75 : PFunc := ⟨21, pc75_r, p75c5, false⟩
def pc75_a : Ann := {
 kr := fun _ => none
 ka := fun _ => 0
 kh := fun _ => none
 ow := ow0 }
theorem pc75_ok : zai Try.prog pc75_a Try.f75 = some pc75 := by kernel_rfl
def p59o1 := [zo 1 (.box 54 0 []),
 zM 2 kf]
def p59o2 := [zG 5 0 1,
 zL 6 5,
 zK 7 .geq 3 6 0,
 zM 8 7,
 zt 9 8 (.faddr 0 1),
 zt 10 8 (.load false 1 9),
 zt 11 8 (.prim (.bin .leq 3 false true) [10, kk 1000000]),
 zo 12 (.pick 8 11 kf),
 zM 13 12,
 zt 14 13 (.faddr 1 1),
 zt 15 13 (.load true 2 14),
 zt 16 13 (.call true [[]] 75 [15]),
 zo 17 (.pick 13 16 kf),
 zM 3 17]
def p59o3 := [zM 4 (kk 0)]
def p59o4 := [zM 18 4,
 zK 19 .lss 3 18 4]
def p59o9 := [zM 22 3,
 zM 23 22,
 zt 24 23 (.mv 4),
 zt 25 23 (.faddr 3 1),
 zt 26 23 (.iaddrA 4 2 25 24),
 zt 27 23 (.load true 2 26),
 zt 28 23 (.call true [[]] 70 [27]),
 zo 29 (.pick 23 28 kf),
 zM 3 29]
def p59o11 := [zM 20 4,
 zK 21 .add 3 20 1,
 zM 4 21]
def p59c13 := sq (sq (.region (some ([1, 3, 4], [1], [])) false p59o4) (.cond 19 (.skip) (.exit 0))) (sq (.block 1 (rg p59o9)) (rg p59o11))
def p59o17 := [zM 30 3,
 zM 2 30]
def p59c19 := sq (rg p59o17) (rt)
def p59c20 := sq (sq (.region (some ([1, 3], [1], [])) false p59o3) (.block 0 (.loop p59c13))) p59c19
def p59c22 := sq (rg p59o1) (sq (rg p59o2) p59c20)
def pc59_r : List PRes := [PRes.tmp 2 []]
def pc59 : PFunc := ⟨31, pc59_r, p59c22, false⟩
def pc59_a : Ann := {
 kr := fun
  | 2 => some ([1, 3], [1], [])
  | 3 => some ([1, 3, 4], [1], [])
  | _ => none
 ka := fun _ => 0
 kh := fun _ => none
 ow := ow0 }
theorem pc59_ok : zai Try.prog pc59_a Try.f59 = some pc59 := by kernel_rfl
def p60o1 := [zo 1 (.box 56 0 []),
 zM 2 kf]
def p60o2 := [zG 4 0 1,
 zL 5 4,
 zK 6 .lss 3 5 0,
 zM 7 6,
 zf 8 7 (.faddr 0 1),
 zf 9 7 (.load false 1 8),
 zf 10 7 (.prim (.bin .gtr 3 false true) [9, kk 1000000]),
 zo 11 (.pick 7 kt 10),
 zM 12 11,
 zf 13 12 (.faddr 1 1),
 zf 14 12 (.load false 1 13),
 zf 15 12 (.prim (.bin .lss 5 false true) [14, .const (.int .u8 1)]),
 zo 16 (.pick 12 kt 15),
 zM 17 16,
 zf 18 17 (.faddr 1 1),
 zf 19 17 (.load false 1 18),
 zf 20 17 (.prim (.bin .gtr 5 false true) [19, .const (.int .u8 31)]),
 zo 21 (.pick 17 kt 20)]
def p60o3 := [zM 2 kf]
def p60o9 := [zG 22 1 1,
 zL 23 22,
 zo 24 (.prim (.bin .and 5 false true) [23, .const (.int .u8 1)]),
 zo 25 (.prim (.bin .neq 5 false true) [24, .const (.int .u8 0)]),
 zM 26 25,
 zt 27 26 (.faddr 2 1),
 zt 28 26 (.load true 2 27),
 zt 29 26 (.call true [[]] 75 [28]),
 zt 30 26 (.prim (.un .not) [29]),
 zo 31 (.pick 26 30 kf),
 zM 32 31,
 zf 33 32 (.faddr 1 1),
 zf 34 32 (.load false 1 33),
 zf 35 32 (.prim (.bin .and 5 false true) [34, .const (.int .u8 1)]),
 zf 36 32 (.prim (.bin .eql 5 false true) [35, .const (.int .u8 0)]),
 zf 37 32 (.mv 36),
 zt 38 37 (.faddr 2 1),
 zt 39 37 (.load true 2 38),
 zt 40 37 (.build (.agg #[ki, ki]) []),
 zt 41 37 (.prim (.bin .neq 49 false false) [39, 40]),
 zf 42 32 (.pick 37 41 kf),
 zo 43 (.pick 32 kt 42)]
def p60o10 := [zM 2 kf]
def p60o16 := [zM 3 (kk 0)]
def p60o17 := [zM 44 3,
 zK 45 .lss 3 44 4]
def p60o22 := [zM 48 3,
 zG 49 4 1,
 zo 50 (.iaddrA 4 2 49 48),
 zo 51 (.load true 2 50),
 zo 52 (.call true [[]] 70 [51]),
 zo 53 (.prim (.un .not) [52]),
 zM 54 53,
 zf 55 54 (.faddr 1 1),
 zf 56 54 (.load false 1 55),
 zf 57 54 (.mv 3),
 zf 58 54 (.prim (.bin .add 3 false true) [57, kk 1]),
 zf 59 54 (.prim (.conv 3 122) [58]),
 zf 60 54 (.prim (.bin .shr 5 false false) [56, 59]),
 zf 61 54 (.prim (.bin .and 5 false true) [60, .const (.int .u8 1)]),
 zf 62 54 (.prim (.bin .eql 5 false true) [61, .const (.int .u8 0)]),
 zf 63 54 (.mv 62),
 zt 64 63 (.mv 3),
 zt 65 63 (.faddr 4 1),
 zt 66 63 (.iaddrA 4 2 65 64),
 zt 67 63 (.load true 2 66),
 zt 68 63 (.build (.agg #[ki, ks]) []),
 zt 69 63 (.prim (.bin .neq 51 false false) [67, 68]),
 zf 70 54 (.pick 63 69 kf),
 zo 71 (.pick 54 kt 70)]
def p60o23 := [zM 2 kf]
def p60o30 := [zM 46 3,
 zK 47 .add 3 46 1,
 zM 3 47]
def p60c32 := sq (sq (.region (some ([1, 3], [1], [])) false p60o17) (.cond 45 (.skip) (.exit 0))) (sq (.block 1 (sq (rg p60o22) (.cond 71 (sq (rg p60o23) (rt)) (.skip)))) (rg p60o30))
def p60o36 := [zM 2 kt]
def p60c38 := sq (rg p60o36) (rt)
def p60c39 := sq (sq (.region (some ([1], [1], [])) false p60o16) (.block 0 (.loop p60c32))) p60c38
def p60c42 := sq (rg p60o1) (sq (sq (rg p60o2) (.cond 21 (sq (rg p60o3) (rt)) (.skip))) (sq (sq (rg p60o9) (.cond 43 (sq (rg p60o10) (rt)) (.skip))) p60c39))
def pc60_r : List PRes := [PRes.tmp 2 []]
def pc60 : PFunc := ⟨72, pc60_r, p60c42, false⟩
def pc60_a : Ann := {
 kr := fun
  | 5 => some ([1], [1], [])
  | 6 => some ([1, 3], [1], [])
  | _ => none
 ka := fun _ => 0
 kh := fun _ => none
 ow := ow0 }
theorem pc60_ok : zai Try.prog pc60_a Try.f60 = some pc60 := by kernel_rfl
def p48o1 := [zo 1 (.box 58 0 []),
 zM 2 kf]
def p48o2 := [zG 3 0 1,
 zL 4 3]
def p48o3 := [zK 6 .eql 3 4 1,
 zM 5 6]
def p48o4 := [zG 7 2 1,
 zo 8 (.load true 11 7),
 zo 9 (.call true [[]] 59 [8]),
 zM 10 9,
 zt 11 10 (.faddr 1 1),
 zt 12 10 (.load false 1 11),
 zt 13 10 (.faddr 2 1),
 zt 14 10 (.faddr 0 13),
 zt 15 10 (.load false 1 14),
 zt 16 10 (.prim (.bin .eql 3 false false) [12, 15]),
 zo 17 (.pick 10 16 kf),
 zM 18 17,
 zt 19 18 (.faddr 13 1),
 zt 20 18 (.load true 12 19),
 zt 21 18 (.build (.agg #[ki, .int .u8 0, ki, ki, ki, ks, ki, ks, ki, ks, ki, ks]) []),
 zt 22 18 (.prim (.bin .eql 56 false false) [20, 21]),
 zo 23 (.pick 18 22 kf),
 zM 2 23]
def p48o7 := [zK 25 .eql 3 4 2,
 zM 24 25]
def p48o8 := [zG 26 13 1,
 zo 27 (.load true 12 26),
 zo 28 (.call true [[]] 60 [27]),
 zM 29 28,
 zt 30 29 (.faddr 1 1),
 zt 31 29 (.load false 1 30),
 zt 32 29 (.faddr 13 1),
 zt 33 29 (.faddr 0 32),
 zt 34 29 (.load false 1 33),
 zt 35 29 (.prim (.bin .eql 3 false false) [31, 34]),
 zo 36 (.pick 29 35 kf),
 zM 37 36,
 zt 38 37 (.faddr 2 1),
 zt 39 37 (.load true 11 38),
 zt 40 37 (.build (.agg k6') []),
 zt 41 37 (.prim (.bin .eql 54 false false) [39, 40]),
 zo 42 (.pick 37 41 kf),
 zM 2 42]
def p48o11 := [zK 44 .eql 3 4 3,
 zM 43 44]
def p48o12 := [zG 45 1 1,
 zL 46 45,
 zK 47 .geq 3 46 0,
 zM 48 47,
 zt 49 48 (.faddr 1 1),
 zt 50 48 (.load false 1 49),
 zt 51 48 (.prim (.bin .leq 3 false true) [50, kk 1000000]),
 zo 52 (.pick 48 51 kf),
 zM 53 52,
 zt 54 53 (.faddr 2 1),
 zt 55 53 (.load true 11 54),
 zt 56 53 (.build (.agg k6') []),
 zt 57 53 (.prim (.bin .eql 54 false false) [55, 56]),
 zo 58 (.pick 53 57 kf),
 zM 59 58,
 zt 60 59 (.faddr 13 1),
 zt 61 59 (.load true 12 60),
 zt 62 59 (.build (.agg #[ki, .int .u8 0, ki, ki, ki, ks, ki, ks, ki, ks, ki, ks]) []),
 zt 63 59 (.prim (.bin .eql 56 false false) [61, 62]),
 zo 64 (.pick 59 63 kf),
 zM 2 64]
def p48o24 := [zM 2 kf]
def p48c28 := sq (rg p48o1) (sq (sq (rg p48o2) (.block 0 (sq (rg p48o3) (.cond 5 (sq (rg p48o4) (rt)) (sq (rg p48o7) (.cond 24 (sq (rg p48o8) (rt)) (sq (rg p48o11) (.cond 43 (sq (rg p48o12) (rt)) (.skip))))))))) (sq (rg p48o24) (rt)))
def pc48_r : List PRes := [PRes.tmp 2 []]
def pc48 : PFunc := ⟨65, pc48_r, p48c28, false⟩
def pc48_a : Ann := {
 kr := fun _ => none
 ka := fun _ => 0
 kh := fun _ => none
 ow := ow0 }
theorem pc48_ok : zai Try.prog pc48_a Try.f48 = some pc48 := by kernel_rfl
def p87o1 := [zM 4 (kk 0)]
def p87o2 := [zM 5 (kk 0)]
def p87o3 := [zM 6 5,
 zM 7 0,
 zo 8 (.lenS 7),
 zB 9 .lss 3 6 8]
def p87o8 := [zM 12 0,
 zM 13 5,
 zo 14 (.iaddrS 11 12 13),
 zG 15 0 14,
 zL 16 15,
 zM 17 1,
 zB 18 .eql 3 16 17]
def p87o9 := [zM 19 5,
 zM 4 19]
def p87o16 := [zM 10 5,
 zK 11 .add 3 10 1,
 zM 5 11]
def p87c18 := sq (sq (.region (some ([0, 1, 5], [], [])) false p87o3) (.cond 9 (.skip) (.exit 0))) (sq (.block 1 (sq (rg p87o8) (.cond 18 (sq (rg p87o9) (rt)) (.skip)))) (rg p87o16))
def p87o22 := [zM 4 (kk (-1))]
def p87c24 := sq (rg p87o22) (rt)
def p87c26 := sq (rg p87o1) (sq (sq (rg p87o2) (.block 0 (.loop p87c18))) p87c24)
def pc87_r : List PRes := [PRes.tmp 4 []]
def pc87 : PFunc := ⟨20, pc87_r, p87c26, false⟩
def pc87_a : Ann := {
 kr := fun
  | 2 => some ([0, 1, 5], [], [])
  | _ => none
 ka := fun _ => 0
 kh := fun _ => none
 ow := ow0 }
theorem pc87_ok : zai Try.prog pc87_a Try.f87 = some pc87 := by kernel_rfl
def p88o1 := [zo 3 (.box 54 1 []),
 zo 4 (.mv (.const (kl)))]
def p88o2 := [zo 5 (.mv (.const (kl)))]
def p88o3 := [zM 6 kf]
def p88o4 := [zM 7 (kk 0)]
def p88o5 := [zM 8 7,
 zM 9 0,
 zo 10 (.lenS 9),
 zB 11 .lss 3 8 10]
def p88o10 := [zi 14 6 (.mv 6),
 zi 15 14 (.prim (.un .not) [14]),
 zi 16 15 (.mv 15),
 ⟨some 17, .faddr 0 3, some (16, true), [(3, .at_ 3 0)]⟩,
 ⟨some 18, .load false 1 17, some (16, true), [(17, .at_ 3 0)]⟩,
 ⟨some 19, .mv 0, some (16, true), [(0, .imm)]⟩,
 ⟨some 20, .mv 7, some (16, true), [(7, .imm)]⟩,
 ⟨some 21, .iaddrS 11 19 20, some (16, true), [(19, .imm), (20, .imm)]⟩,
 ⟨some 22, .faddr 0 21, some (16, true), [(21, .imm)]⟩,
 ⟨some 23, .load false 1 22, some (16, true), [(22, .imm)]⟩,
 ⟨some 24, .prim (.bin .leq 3 false false) [18, 23], some (16, true), [(18, .imm), (23, .imm)]⟩,
 zj 25 16 24 (.pick 16 24 kf)]
def p88o11 := [zM 26 5,
 zo 27 (.load true 11 3),
 zo 28 (.bslice 54 11 [27]),
 zo 29 (.app 100005 54 11 120 26 28),
 zM 5 29]
def p88o12 := [zM 6 kt]
def p88o17 := [zi 30 0 (.mv 0),
 zi 31 7 (.mv 7),
 zj 32 30 31 (.iaddrS 11 30 31),
 zi 33 32 (.faddr 0 32),
 zi 34 33 (.load false 1 33),
 za 35 3 3 0 (.faddr 0 3),
 za 36 35 3 0 (.load false 1 35),
 zj 37 34 36 (.prim (.bin .neq 3 false false) [34, 36])]
def p88o18 := [zM 38 5,
 zM 39 0,
 zM 40 7,
 zo 41 (.iaddrS 11 39 40),
 zo 42 (.load true 11 41),
 zo 43 (.bslice 54 11 [42]),
 zo 44 (.app 100005 54 11 120 38 43),
 zM 5 44]
def p88c21 := sq (.region (some ([0, 3, 5, 6, 7], [3, 100005], [(false, 5, 0, 100005, 54, 11)])) true p88o17) (.cond 37 (rg p88o18) (.skip))
def p88o24 := [zM 12 7,
 zK 13 .add 3 12 1,
 zM 7 13]
def p88c24 := rg p88o24
def p88c26 := sq (sq (.region (some ([0, 3, 5, 6, 7], [3, 100005], [(false, 5, 0, 100005, 54, 11)])) false p88o5) (.cond 11 (.skip) (.exit 0))) (sq (.block 1 (sq (sq (rh p88o10) (.cond 25 (sq (rg p88o11) (rg p88o12)) (.skip))) p88c21)) p88c24)
def p88o30 := [zM 45 6,
 zo 46 (.prim (.un .not) [45])]
def p88o31 := [zM 47 5,
 zo 48 (.load true 11 3),
 zo 49 (.bslice 54 11 [48]),
 zo 50 (.app 100005 54 11 120 47 49),
 zM 5 50]
def p88o35 := [zM 51 5,
 zM 4 51]
def p88c38 := sq (sq (rg p88o30) (.cond 46 (rg p88o31) (.skip))) (sq (rg p88o35) (rt))
def p88c42 := sq (rg p88o1) (sq (rg p88o2) (sq (rg p88o3) (sq (sq (rg p88o4) (.block 0 (.loop p88c26))) p88c38)))
def pc88_r : List PRes := [PRes.tmp 4 [(0, 11)]]
def pc88 : PFunc := ⟨52, pc88_r, p88c42, false⟩
def pc88_a : Ann := {
 kr := fun
  | 4 => some ([0, 3, 5, 6, 7], [3, 100005], [(false, 5, 0, 100005, 54, 11)])
  | 9 => some ([0, 3, 5, 6, 7], [3, 100005], [(false, 5, 0, 100005, 54, 11)])
  | _ => none
 ka := fun
  | 29 => 100005
  | 44 => 100005
  | 50 => 100005
  | _ => 0
 kh := hg [([0, 6, 7, 14, 15, 16, 18, 19, 20, 21, 22, 23, 24, 30, 31, 32, 33, 34, 36], .imm), ([3, 17, 35], .at_ 3 0)]
 ow := ow0 }
theorem pc88_ok : zai Try.prog pc88_a Try.f88 = some pc88 := by kernel_rfl
def p89o1 := [zo 2 (.box 54 0 []),
 zo 3 (.box 56 1 []),
 zo 4 (.alloc 54 (.agg k6') [])]
def p89o2 := [zo 7 (.load true 11 2),
 zo 5 (.alloc 54 (.agg k6') []),
 zs (.store 11 5 7)]
def p89o3 := [zG 8 1 3,
 zL 9 8,
 zo 10 (.prim (.bin .and 5 false true) [9, .const (.int .u8 1)]),
 zo 11 (.prim (.bin .neq 5 false true) [10, .const (.int .u8 0)])]
def p89o4 := [zG 12 2 3,
 zo 13 (.load true 2 12),
 zG 14 1 5,
 zs (.store 2 14 13)]
def p89o8 := [zM 6 (kk 0)]
def p89o9 := [zM 15 6,
 zK 16 .lss 3 15 4]
def p89o14 := [zG 19 1 3,
 zL 20 19,
 zM 21 6,
 zK 22 .add 3 21 1,
 zo 23 (.prim (.conv 3 122) [22]),
 zB 24 .shr 5 20 23,
 zo 25 (.prim (.bin .and 5 false true) [24, .const (.int .u8 1)]),
 zo 26 (.prim (.bin .neq 5 false true) [25, .const (.int .u8 0)])]
def p89o15 := [zM 27 6,
 zM 28 6,
 zG 29 4 3,
 zo 30 (.iaddrA 4 2 29 28),
 zo 31 (.load true 2 30),
 zG 32 3 5,
 zo 33 (.iaddrA 4 2 32 27),
 zs (.store 2 33 31)]
def p89o20 := [zM 17 6,
 zK 18 .add 3 17 1,
 zM 6 18]
def p89c22 := sq (sq (.region (some ([3, 4, 5, 6], [3, 4, 5], [])) false p89o9) (.cond 16 (.skip) (.exit 0))) (sq (.block 1 (sq (rg p89o14) (.cond 26 (rg p89o15) (.skip)))) (rg p89o20))
def p89o26 := [zo 34 (.load true 11 5),
 zs (.store 11 4 34)]
def p89c28 := sq (rg p89o26) (rt)
def p89c29 := sq (sq (.region (some ([3, 4, 5], [2, 3, 4, 5], [])) false p89o8) (.block 0 (.loop p89c22))) p89c28
def p89c32 := sq (rg p89o1) (sq (rg p89o2) (sq (sq (rg p89o3) (.cond 11 (rg p89o4) (.skip))) p89c29))
def pc89_r : List PRes := [PRes.cell 4 true 11 []]
def pc89 : PFunc := ⟨35, pc89_r, p89c32, false⟩
def pc89_a : Ann := {
 kr := fun
  | 4 => some ([3, 4, 5], [2, 3, 4, 5], [])
  | 5 => some ([3, 4, 5, 6], [3, 4, 5], [])
  | _ => none
 ka := fun _ => 0
 kh := fun _ => none
 ow := ow0 }
theorem pc89_ok : zai Try.prog pc89_a Try.f89 = some pc89 := by kernel_rfl
def p90o1 := [zo 4 (.mv (.const (kl)))]
def p90o2 := [zo 5 (.mv (.const (kl)))]
def p90o3 := [zM 6 (kk 0)]
def p90o4 := [zM 7 6,
 zM 8 0,
 zo 9 (.lenS 8),
 zB 10 .lss 3 7 9]
def p90o9 := [zM 13 0,
 zM 14 6,
 zo 15 (.iaddrS 11 13 14),
 zG 16 0 15,
 zL 17 16,
 zM 18 1,
 zB 19 .neq 3 17 18]
def p90o10 := [zM 20 5,
 zM 21 0,
 zM 22 6,
 zo 23 (.iaddrS 11 21 22),
 zo 24 (.load true 11 23),
 zo 25 (.bslice 54 11 [24]),
 zo 26 (.app 100005 54 11 120 20 25),
 zM 5 26]
def p90o15 := [zM 11 6,
 zK 12 .add 3 11 1,
 zM 6 12]
def p90c17 := sq (sq (.region (some ([0, 1, 5, 6], [100005], [(false, 5, 0, 100005, 54, 11)])) false p90o4) (.cond 10 (.skip) (.exit 0))) (sq (.block 1 (sq (rg p90o9) (.cond 19 (rg p90o10) (.skip)))) (rg p90o15))
def p90o21 := [zM 27 5,
 zM 4 27]
def p90c23 := sq (rg p90o21) (rt)
def p90c26 := sq (rg p90o1) (sq (rg p90o2) (sq (sq (rg p90o3) (.block 0 (.loop p90c17))) p90c23))
def pc90_r : List PRes := [PRes.tmp 4 [(0, 11)]]
def pc90 : PFunc := ⟨28, pc90_r, p90c26, false⟩
def pc90_a : Ann := {
 kr := fun
  | 3 => some ([0, 1, 5, 6], [100005], [(false, 5, 0, 100005, 54, 11)])
  | _ => none
 ka := fun
  | 26 => 100005
  | _ => 0
 kh := fun _ => none
 ow := ow0 }
theorem pc90_ok : zai Try.prog pc90_a Try.f90 = some pc90 := by kernel_rfl
def p76o1 := [zo 3 (.box 58 1 []),
 zo 4 (.mv (.const (kl))),
 zM 5 kf]
def p76o2 := [zM 7 0,
 zG 8 1 3,
 zL 9 8,
 zo 10 (.call true [[(0, 11)], []] 87 [7, 9]),
 zM 6 10]
def p76o3 := [zo 11 (.load true 25 3),
 zo 12 (.call true [[]] 48 [11]),
 zo 13 (.prim (.un .not) [12]),
 zM 14 13,
 zf 15 14 (.mv 6),
 zf 16 14 (.prim (.bin .geq 3 false true) [15, kk 0]),
 zf 17 14 (.faddr 0 3),
 zf 18 14 (.load false 1 17),
 zf 19 14 (.prim (.bin .eql 3 false true) [18, kk 1]),
 zf 20 14 (.prim (.bin .eql 4 false false) [16, 19]),
 zo 21 (.pick 14 kt 20)]
def p76o4 := [zM 22 0,
 zM 4 22,
 zM 5 kf]
def p76o10 := [zG 23 0 3,
 zL 24 23]
def p76o11 := [zK 26 .eql 3 24 1,
 zM 25 26]
def p76o12 := [zM 27 0,
 zG 28 2 3,
 zo 29 (.load true 11 28),
 zo 30 (.call true [[(0, 11)], []] 88 [27, 29]),
 zM 4 30,
 zM 5 kt]
def p76o15 := [zK 32 .eql 3 24 2,
 zM 31 32]
def p76o16 := [zi 33 0 (.mv 0),
 zi 34 0 (.mv 0),
 zi 35 6 (.mv 6),
 zj 36 34 35 (.iaddrS 11 34 35),
 zi 37 36 (.load true 11 36),
 za 38 3 3 0 (.faddr 13 3),
 za 39 38 3 13 (.load true 12 38),
 zj 40 37 39 (.call false [[], []] 89 [37, 39]),
 zj 41 33 40 (.call false [[(0, 11)], []] 88 [33, 40]),
 zi 4 41 (.mv 41),
 zM 5 kt]
def p76o26 := [zM 42 0,
 zG 43 1 3,
 zL 44 43,
 zo 45 (.call true [[(0, 11)], []] 90 [42, 44]),
 zM 4 45,
 zM 5 kt]
def p76c32 := sq (rg p76o1) (sq (rg p76o2) (sq (sq (rg p76o3) (.cond 21 (sq (rg p76o4) (rt)) (.skip))) (sq (sq (rg p76o10) (.block 0 (sq (rg p76o11) (.cond 25 (sq (rg p76o12) (rt)) (sq (rg p76o15) (.cond 31 (sq (rh p76o16) (rt)) (.skip))))))) (sq (rg p76o26) (rt)))))
def pc76_r : List PRes := [PRes.tmp 4 [(0, 11)], PRes.tmp 5 []]
def pc76 : PFunc := ⟨46, pc76_r, p76c32, false⟩
def pc76_a : Ann := {
 kr := fun _ => none
 ka := fun _ => 0
 kh := hg [([0, 6, 33, 34, 35, 36, 37, 39, 40, 41], .imm), ([3], .at_ 3 0), ([38], .at_ 3 13)]
 ow := ow0 }
theorem pc76_ok : zai Try.prog pc76_a Try.f76 = some pc76 := by kernel_rfl
def p61o1 := [zo 4 (.mv (.const (kl))),
 zM 5 kf]
def p61o2 := [zM 10 0,
 zM 6 10]
def p61o3 := [zM 7 (kk 0)]
def p61o4 := [zM 11 7,
 zM 12 1,
 zo 13 (.lenS 12),
 zB 14 .lss 3 11 13]
def p61o9 := [zM 18 6,
 zM 19 1,
 zM 20 7,
 zo 21 (.iaddrS 25 19 20),
 zo 22 (.load true 25 21),
 zo 23 (.call true [[(0, 11)], []] 76 [18, 22]),
 zM 17 23,
 zX 24 17 0,
 zX 25 17 1,
 zM 8 24,
 zM 9 25]
def p61o10 := [zM 26 9,
 zo 27 (.prim (.un .not) [26])]
def p61o11 := [zM 28 0,
 zM 4 28,
 zM 5 kf]
def p61o17 := [zM 29 8,
 zM 6 29]
def p61o21 := [zM 15 7,
 zK 16 .add 3 15 1,
 zM 7 16]
def p61c23 := sq (sq (.region (some ([0, 1, 6, 7], [], [])) false p61o4) (.cond 14 (.skip) (.exit 0))) (sq (.block 1 (sq (rg p61o9) (sq (sq (rg p61o10) (.cond 27 (sq (rg p61o11) (rt)) (.skip))) (rg p61o17)))) (rg p61o21))
def p61o27 := [zM 30 6,
 zM 4 30,
 zM 5 kt]
def p61c29 := sq (rg p61o27) (rt)
def p61c32 := sq (rg p61o1) (sq (rg p61o2) (sq (sq (rg p61o3) (.block 0 (.loop p61c23))) p61c29))
def pc61_r : List PRes := [PRes.tmp 4 [(0, 11)], PRes.tmp 5 []]
def pc61 : PFunc := ⟨31, pc61_r, p61c32, false⟩
def pc61_a : Ann := {
 kr := fun
  | 3 => some ([0, 1, 6, 7], [], [])
  | _ => none
 ka := fun _ => 0
 kh := fun _ => none
 ow := ow0 }
theorem pc61_ok : zai Try.prog pc61_a Try.f61 = some pc61 := by kernel_rfl
def p49o1 := [zM 2 kf]
def p49o2 := [zM 9 0,
 zo 10 (.nilc 9),
 zG 11 4 10,
 zL 12 11,
 zK 13 .add 3 12 1,
 zM 3 13]
def p49o3 := [zM 14 0,
 zo 15 (.nilc 14),
 zG 16 4 15,
 zL 17 16,
 zK 18 .lss 3 17 0]
def p49o4 := [zM 19 0,
 zo 20 (.nilc 19),
 zG 21 3 20,
 zL 22 21,
 zM 3 22]
def p49o8 := [zM 4 (kk 0)]
def p49o9 := [zM 23 4,
 zM 24 0,
 zo 25 (.nilc 24),
 zG 26 2 25,
 zL 27 26,
 zB 28 .lss 3 23 27]
def p49o14 := [zM 31 0,
 zM 32 4,
 zM 33 3,
 zo 34 (.gcall false false [1000000, 1000001, 1000002] [[], [], []] 47 [31, 32, 33]),
 zK 35 .lss 3 34 0]
def p49o15 := [zM 2 kf]
def p49o22 := [zM 29 4,
 zK 30 .add 3 29 1,
 zM 4 30]
def p49c24 := sq (sq (.region (some ([0, 3, 4], [1000000, 1000001, 1000002], [])) false p49o9) (.cond 28 (.skip) (.exit 0))) (sq (.block 1 (sq (rg p49o14) (.cond 35 (sq (rg p49o15) (rt)) (.skip)))) (rg p49o22))
def p49o28 := [zM 5 (kk 0)]
def p49o29 := [zM 36 5,
 zM 37 0,
 zo 38 (.nilc 37),
 zG 39 2 38,
 zL 40 39,
 zB 41 .lss 3 36 40]
def p49o34 := [zM 44 0,
 zM 45 5,
 zM 46 3,
 zo 47 (.gcall false false [1000000, 1000001, 1000002] [[], [], []] 47 [44, 45, 46]),
 zM 6 47]
def p49o35 := [za 49 0 1000000 0 (.mv 0),
 za 50 49 1000000 0 (.nilc 49),
 za 51 50 1000000 0 (.faddr 5 50),
 za 52 51 1000000 5 (.load false 1 51),
 za 53 0 1000000 0 (.mv 0),
 za 54 53 1000000 0 (.nilc 53),
 za 55 54 1000000 0 (.faddr 7 54),
 za 56 55 1000000 7 (.load false 1 55),
 zi 57 6 (.mv 6),
 ⟨some 58, .iaddrS 6 56 57, none, [(56, .obj 1000002), (57, .imm)]⟩,
 ⟨some 59, .faddr 5 58, none, [(58, .obj 1000002)]⟩,
 ⟨some 60, .load false 1 59, none, [(59, .obj 1000002)]⟩,
 zj 61 52 60 (.call false [[(0, 11)], [(0, 25)]] 61 [52, 60]),
 zM 48 61,
 zX 62 48 0,
 zX 63 48 1,
 zi 7 62 (.mv 62),
 zi 8 63 (.mv 63)]
def p49o36 := [zM 64 8]
def p49o37 := [zM 65 0,
 zM 66 7,
 zo 67 (.nilc 65),
 zG 68 5 67,
 zs (.store 1 68 66)]
def p49o38 := [za 69 0 1000000 0 (.mv 0),
 za 70 0 1000000 0 (.mv 0),
 za 71 70 1000000 0 (.nilc 70),
 za 72 71 1000000 0 (.faddr 6 71),
 za 73 72 1000000 6 (.load false 1 72),
 za 74 0 1000000 0 (.mv 0),
 za 75 74 1000000 0 (.nilc 74),
 za 76 75 1000000 0 (.faddr 7 75),
 za 77 76 1000000 7 (.load false 1 76),
 zi 78 6 (.mv 6),
 ⟨some 79, .iaddrS 6 77 78, none, [(77, .obj 1000002), (78, .imm)]⟩,
 ⟨some 80, .faddr 5 79, none, [(79, .obj 1000002)]⟩,
 ⟨some 81, .load false 1 80, none, [(80, .obj 1000002)]⟩,
 ⟨some 82, .app 100073 58 25 264 73 81, none, [(73, .obj 1000001), (81, .imm)]⟩,
 za 83 69 1000000 0 (.nilc 69),
 za 84 83 1000000 0 (.faddr 6 83),
 zn (.store 1 84 82) [(84, .at_ 1000000 6), (82, .obj 1000001)]]
def p49o43 := [za 85 0 1000000 0 (.mv 0),
 za 86 0 1000000 0 (.mv 0),
 za 87 86 1000000 0 (.nilc 86),
 za 88 87 1000000 0 (.faddr 7 87),
 za 89 88 1000000 7 (.load false 1 88),
 zi 90 6 (.mv 6),
 ⟨some 91, .slc 6 89 none (some 90), none, [(89, .obj 1000002), (90, .imm)]⟩,
 ⟨some 92, .app 100092 32 6 64 (.const (kl)) 91, none, [(91, .obj 1000002)]⟩,
 za 93 0 1000000 0 (.mv 0),
 za 94 93 1000000 0 (.nilc 93),
 za 95 94 1000000 0 (.faddr 7 94),
 za 96 95 1000000 7 (.load false 1 95),
 zi 97 6 (.mv 6),
 zi 98 97 (.prim (.bin .add 3 false true) [97, kk 1]),
 ⟨some 99, .slc 6 96 (some 98) none, none, [(96, .obj 1000002), (98, .imm)]⟩,
 ⟨some 100, .appT 1000002 32 6 64 92 99, none, [(92, .obj 100092), (99, .obj 1000002)]⟩,
 za 101 85 1000000 0 (.nilc 85),
 za 102 101 1000000 0 (.faddr 7 101),
 zn (.store 1 102 100) [(102, .at_ 1000000 7), (100, .obj 1000002)]]
def p49c43 : PCode := .region (some ([0, 3, 5, 6], [1000000, 1000001, 1000002], [])) true p49o43
def p49o48 := [zM 42 5,
 zK 43 .add 3 42 1,
 zM 5 43]
def p49c48 := rg p49o48
def p49c50 := sq (sq (.region (some ([0, 3, 5], [100092, 1000000, 1000001, 1000002], [])) false p49o29) (.cond 41 (.skip) (.exit 2))) (sq (.block 3 (sq (rg p49o34) (sq (rh p49o35) (sq (sq (rg p49o36) (.cond 64 (sq (rg p49o37) (rh p49o38)) (.skip))) p49c43)))) p49c48)
def p49o54 := [zM 103 0,
 zM 104 3,
 zo 105 (.nilc 103),
 zG 106 4 105,
 zs (.store 1 106 104)]
def p49o55 := [zM 2 kt]
def p49c58 := sq (rg p49o54) (sq (rg p49o55) (rt))
def p49c59 := sq (sq (rg p49o28) (.block 2 (.loop p49c50))) p49c58
def p49c60 := sq (sq (.region (some ([0, 3], [1000000, 1000001, 1000002], [])) false p49o8) (.block 0 (.loop p49c24))) p49c59
def p49c63 := sq (rg p49o1) (sq (rg p49o2) (sq (sq (rg p49o3) (.cond 18 (rg p49o4) (.skip))) p49c60))
def pc49_r : List PRes := [PRes.tmp 2 []]
def pc49 : PFunc := ⟨107, pc49_r, p49c63, false⟩
def pc49_a : Ann := {
 kr := fun
  | 4 => some ([0, 3], [1000000, 1000001, 1000002], [])
  | 5 => some ([0, 3, 4], [1000000, 1000001, 1000002], [])
  | 10 => some ([0, 3, 5], [100092, 1000000, 1000001, 1000002], [])
  | 17 => some ([0, 3, 5, 6], [1000000, 1000001, 1000002], [])
  | _ => none
 ka := fun
  | 82 => 100073
  | 92 => 100092
  | 100 => 100092
  | _ => 0
 kh := hg [([0, 49, 50, 53, 54, 69, 70, 71, 74, 75, 83, 85, 86, 87, 93, 94, 101], .at_ 1000000 0), ([6, 52, 57, 60, 62, 63, 78, 81, 90, 97, 98], .imm), ([51], .at_ 1000000 5), ([55, 76, 88, 95, 102], .at_ 1000000 7), ([56, 58, 59, 77, 79, 80, 89, 91, 96, 99, 100], .obj 1000002), ([72, 84], .at_ 1000000 6), ([73, 82], .obj 1000001), ([92], .obj 100092)]
 gf := fun d f => match d, f with
  | some 34, 47 => some (false, false, [1000000, 1000001, 1000002])
  | some 47, 47 => some (false, false, [1000000, 1000001, 1000002])
  | _, _ => none
 ow := ow0
 tk := fun d => match d with
  | some 100 => some 1000002
  | _ => none }
theorem pc49_ok : zai Try.prog pc49_a Try.f49 = some pc49 := by kernel_rfl
def p16o1 := [zo 3 (.box 32 1 [(5, 1000000058, 25)]),
 zM 4 kf]
def p16o2 := [za 6 3 3 0 (.faddr 1 3),
 za 7 6 3 1 (.load false 1 6),
 za 8 0 1000000 0 (.mv 0),
 za 9 8 1000000 0 (.nilc 8),
 za 10 9 1000000 0 (.faddr 0 9),
 za 11 10 1000000 0 (.load false 1 10),
 zj 12 7 11 (.prim (.bin .neq 3 false false) [7, 11]),
 zi 13 12 (.mv 12),
 ⟨some 14, .faddr 2 3, some (13, false), [(3, .at_ 3 0)]⟩,
 ⟨some 15, .load false 1 14, some (13, false), [(14, .at_ 3 2)]⟩,
 ⟨some 16, .mv 0, some (13, false), [(0, .at_ 1000000 0)]⟩,
 ⟨some 17, .nilc 16, some (13, false), [(16, .at_ 1000000 0)]⟩,
 ⟨some 18, .faddr 1 17, some (13, false), [(17, .at_ 1000000 0)]⟩,
 ⟨some 19, .load false 1 18, some (13, false), [(18, .at_ 1000000 1)]⟩,
 ⟨some 20, .prim (.bin .neq 3 false false) [15, 19], some (13, false), [(15, .imm), (19, .imm)]⟩,
 zj 21 13 20 (.pick 13 kt 20),
 zi 22 21 (.mv 21),
 ⟨some 23, .faddr 0 3, some (22, false), [(3, .at_ 3 0)]⟩,
 ⟨some 24, .load false 1 23, some (22, false), [(23, .at_ 3 0)]⟩,
 ⟨some 25, .prim (.bin .lss 3 false true) [24, kk 0], some (22, false), [(24, .imm)]⟩,
 zj 26 22 25 (.pick 22 kt 25),
 zi 27 26 (.mv 26),
 ⟨some 28, .faddr 0 3, some (27, false), [(3, .at_ 3 0)]⟩,
 ⟨some 29, .load false 1 28, some (27, false), [(28, .at_ 3 0)]⟩,
 ⟨some 30, .mv 0, some (27, false), [(0, .at_ 1000000 0)]⟩,
 ⟨some 31, .nilc 30, some (27, false), [(30, .at_ 1000000 0)]⟩,
 ⟨some 32, .faddr 2 31, some (27, false), [(31, .at_ 1000000 0)]⟩,
 ⟨some 33, .load false 1 32, some (27, false), [(32, .at_ 1000000 2)]⟩,
 ⟨some 34, .prim (.bin .geq 3 false false) [29, 33], some (27, false), [(29, .imm), (33, .imm)]⟩,
 zj 35 27 34 (.pick 27 kt 34),
 zi 36 35 (.mv 35),
 ⟨some 37, .faddr 3 3, some (36, false), [(3, .at_ 3 0)]⟩,
 ⟨some 38, .load false 1 37, some (36, false), [(37, .at_ 3 3)]⟩,
 ⟨some 39, .prim (.bin .lss 3 false true) [38, kk 0], some (36, false), [(38, .imm)]⟩,
 zj 40 36 39 (.pick 36 kt 39),
 zi 41 40 (.mv 40),
 ⟨some 42, .faddr 3 3, some (41, false), [(3, .at_ 3 0)]⟩,
 ⟨some 43, .load false 1 42, some (41, false), [(42, .at_ 3 3)]⟩,
 ⟨some 44, .faddr 4 3, some (41, false), [(3, .at_ 3 0)]⟩,
 ⟨some 45, .load false 1 44, some (41, false), [(44, .at_ 3 4)]⟩,
 ⟨some 46, .prim (.bin .gtr 3 false false) [43, 45], some (41, false), [(43, .imm), (45, .imm)]⟩,
 zj 47 41 46 (.pick 41 kt 46),
 zi 48 47 (.mv 47),
 ⟨some 49, .mv 0, some (48, false), [(0, .at_ 1000000 0)]⟩,
 ⟨some 50, .nilc 49, some (48, false), [(49, .at_ 1000000 0)]⟩,
 ⟨some 51, .faddr 3 50, some (48, false), [(50, .at_ 1000000 0)]⟩,
 ⟨some 52, .load false 1 51, some (48, false), [(51, .at_ 1000000 3)]⟩,
 ⟨some 53, .prim (.bin .geq 3 false true) [52, kk 0], some (48, false), [(52, .imm)]⟩,
 ⟨some 54, .mv 53, some (48, false), [(53, .imm)]⟩,
 ⟨some 55, .faddr 3 3, some (54, true), [(3, .at_ 3 0)]⟩,
 ⟨some 56, .load false 1 55, some (54, true), [(55, .at_ 3 3)]⟩,
 ⟨some 57, .mv 0, some (54, true), [(0, .at_ 1000000 0)]⟩,
 ⟨some 58, .nilc 57, some (54, true), [(57, .at_ 1000000 0)]⟩,
 ⟨some 59, .faddr 3 58, some (54, true), [(58, .at_ 1000000 0)]⟩,
 ⟨some 60, .load false 1 59, some (54, true), [(59, .at_ 1000000 3)]⟩,
 ⟨some 61, .prim (.bin .neq 3 false false) [56, 60], some (54, true), [(56, .imm), (60, .imm)]⟩,
 ⟨some 62, .pick 54 61 kf, some (48, false), [(54, .imm), (61, .imm)]⟩,
 zj 63 48 62 (.pick 48 kt 62),
 zi 64 63 (.mv 63),
 ⟨some 65, .faddr 4 3, some (64, false), [(3, .at_ 3 0)]⟩,
 ⟨some 66, .load false 1 65, some (64, false), [(65, .at_ 3 4)]⟩,
 ⟨some 67, .mv 0, some (64, false), [(0, .at_ 1000000 0)]⟩,
 ⟨some 68, .nilc 67, some (64, false), [(67, .at_ 1000000 0)]⟩,
 ⟨some 69, .faddr 4 68, some (64, false), [(68, .at_ 1000000 0)]⟩,
 ⟨some 70, .load false 1 69, some (64, false), [(69, .at_ 1000000 4)]⟩,
 ⟨some 71, .prim (.bin .leq 3 false false) [66, 70], some (64, false), [(66, .imm), (70, .imm)]⟩,
 zj 72 64 71 (.pick 64 kt 71),
 zi 73 72 (.mv 72),
 ⟨some 74, .faddr 4 3, some (73, false), [(3, .at_ 3 0)]⟩,
 ⟨some 75, .load false 1 74, some (73, false), [(74, .at_ 3 4)]⟩,
 ⟨some 76, .prim (.bin .sub 3 false true) [75, kk 36], some (73, false), [(75, .imm)]⟩,
 ⟨some 77, .faddr 3 3, some (73, false), [(3, .at_ 3 0)]⟩,
 ⟨some 78, .load false 1 77, some (73, false), [(77, .at_ 3 3)]⟩,
 ⟨some 79, .mv 0, some (73, false), [(0, .at_ 1000000 0)]⟩,
 ⟨some 80, .nilc 79, some (73, false), [(79, .at_ 1000000 0)]⟩,
 ⟨some 81, .faddr 4 80, some (73, false), [(80, .at_ 1000000 0)]⟩,
 ⟨some 82, .load false 1 81, some (73, false), [(81, .at_ 1000000 4)]⟩,
 ⟨some 83, .prim .max [78, 82], some (73, false), [(78, .imm), (82, .imm)]⟩,
 ⟨some 84, .prim (.bin .gtr 3 false false) [76, 83], some (73, false), [(76, .imm), (83, .imm)]⟩,
 zj 85 73 84 (.pick 73 kt 84),
 zi 86 85 (.mv 85),
 ⟨some 87, .mv 0, some (86, false), [(0, .at_ 1000000 0)]⟩,
 ⟨some 88, .faddr 0 3, some (86, false), [(3, .at_ 3 0)]⟩,
 ⟨some 89, .load false 1 88, some (86, false), [(88, .at_ 3 0)]⟩,
 ⟨some 90, .faddr 4 3, some (86, false), [(3, .at_ 3 0)]⟩,
 ⟨some 91, .load false 1 90, some (86, false), [(90, .at_ 3 4)]⟩,
 ⟨some 92, .gcall false false [1000000, 1000001, 1000002] [[], [], []] 47 [87, 89, 91], some (86, false), [(87, .at_ 1000000 0), (89, .imm), (91, .imm)]⟩,
 ⟨some 93, .prim (.bin .geq 3 false true) [92, kk 0], some (86, false), [(92, .imm)]⟩,
 zj 94 86 93 (.pick 86 kt 93)]
def p16o3 := [zM 4 kf]
def p16o9 := [zM 5 (kk 0)]
def p16o10 := [zM 95 5,
 zG 96 5 3,
 zL 97 96,
 zo 98 (.lenS 97),
 zB 99 .lss 3 95 98]
def p16o15 := [zG 102 5 3,
 zL 103 102,
 zM 104 5,
 zo 105 (.iaddrS 25 103 104),
 zo 106 (.load true 25 105),
 zo 107 (.call true [[]] 48 [106]),
 zo 108 (.prim (.un .not) [107])]
def p16o16 := [zM 4 kf]
def p16o23 := [zM 100 5,
 zK 101 .add 3 100 1,
 zM 5 101]
def p16c25 := sq (sq (.region (some ([0, 3, 5], [3, 1000000, 1000001, 1000002], [])) false p16o10) (.cond 99 (.skip) (.exit 0))) (sq (.block 1 (sq (rg p16o15) (.cond 108 (sq (rg p16o16) (rt)) (.skip)))) (rg p16o23))
def p16o29 := [zM 109 0,
 zG 110 3 3,
 zL 111 110,
 zo 112 (.nilc 109),
 zG 113 3 112,
 zs (.store 1 113 111)]
def p16o30 := [za 114 0 1000000 0 (.mv 0),
 za 115 0 1000000 0 (.mv 0),
 za 116 115 1000000 0 (.nilc 115),
 za 117 116 1000000 0 (.faddr 7 116),
 za 118 117 1000000 7 (.load false 1 117),
 za 119 3 3 0 (.load true 6 3),
 zi 120 119 (.bslice 32 6 [119]),
 ⟨some 121, .app 100118 32 6 64 118 120, none, [(118, .obj 1000002), (120, .imm)]⟩,
 za 122 114 1000000 0 (.nilc 114),
 za 123 122 1000000 0 (.faddr 7 122),
 zn (.store 1 123 121) [(123, .at_ 1000000 7), (121, .obj 1000002)]]
def p16o31 := [zM 124 0,
 zo 125 (.gcall false false [1000000, 1000001, 1000002] [[]] 49 [124])]
def p16c38 := sq (sq (.region (some ([0], [3, 1000000, 1000001, 1000002], [])) false p16o31) (.cond 125 (.skip) (.exit 2))) (.block 3 (.exit 3))
def p16o41 := [zM 4 kt]
def p16c43 := sq (rg p16o41) (rt)
def p16c46 := sq (rg p16o29) (sq (rh p16o30) (sq (.block 2 (.loop p16c38)) p16c43))
def p16c47 := sq (sq (.region (some ([0, 3], [3, 1000000, 1000001, 1000002], [])) false p16o9) (.block 0 (.loop p16c25))) p16c46
def p16c49 := sq (rg p16o1) (sq (sq (rh p16o2) (.cond 94 (sq (rg p16o3) (rt)) (.skip))) p16c47)
def pc16_r : List PRes := [PRes.tmp 4 []]
def pc16 : PFunc := ⟨126, pc16_r, p16c49, false⟩
def pc16_a : Ann := {
 kr := fun
  | 3 => some ([0, 3], [3, 1000000, 1000001, 1000002], [])
  | 4 => some ([0, 3, 5], [3, 1000000, 1000001, 1000002], [])
  | 10 => some ([0], [3, 1000000, 1000001, 1000002], [])
  | _ => none
 ka := fun
  | 121 => 100118
  | _ => 0
 kh := hg [([0, 8, 9, 10, 16, 17, 30, 31, 49, 50, 57, 58, 67, 68, 79, 80, 87, 114, 115, 116, 122], .at_ 1000000 0), ([3, 23, 28, 88], .at_ 3 0), ([6], .at_ 3 1), ([7, 11, 12, 13, 15, 19, 20, 21, 22, 24, 25, 26, 27, 29, 33, 34, 35, 36, 38, 39, 40, 41, 43, 45, 46, 47, 48, 52, 53, 54, 56, 60, 61, 62, 63, 64, 66, 70, 71, 72, 73, 75, 76, 78, 82, 83, 84, 85, 86, 89, 91, 92, 93, 119, 120], .imm), ([14], .at_ 3 2), ([18], .at_ 1000000 1), ([32], .at_ 1000000 2), ([37, 42, 55, 77], .at_ 3 3), ([44, 65, 74, 90], .at_ 3 4), ([51, 59], .at_ 1000000 3), ([69, 81], .at_ 1000000 4), ([117, 123], .at_ 1000000 7), ([118, 121], .obj 1000002)]
 gf := fun d f => match d, f with
  | some 92, 47 => some (false, false, [1000000, 1000001, 1000002])
  | some 125, 49 => some (false, false, [1000000, 1000001, 1000002])
  | _, _ => none
 ow := ow0 }
theorem pc16_ok : zai Try.prog pc16_a Try.f16 = some pc16 := by kernel_rfl
def p36o1 := [zo 3 (.box 73 1 k3'),
 zM 4 (kk 0)]
def p36o2 := [za 6 3 3 0 (.faddr 1 3),
 za 7 6 3 1 (.load false 1 6),
 za 8 0 1000000 0 (.mv 0),
 za 9 8 1000000 0 (.nilc 8),
 za 10 9 1000000 0 (.faddr 0 9),
 za 11 10 1000000 0 (.load false 1 10),
 zi 12 11 (.prim (.bin .add 3 true false) [kk 100, 11]),
 zj 13 7 12 (.prim (.bin .neq 3 false false) [7, 12]),
 zi 5 13 (.mv 13)]
def p36o3 := [zM 4 (kk 20)]
def p36o6 := [zG 15 2 3,
 zL 16 15,
 zK 17 .eql 3 16 2,
 zM 14 17]
def p36o7 := [za 18 0 1000000 0 (.mv 0),
 za 19 18 1000000 0 (.nilc 18),
 za 20 19 1000000 0 (.faddr 4 19),
 za 21 20 1000000 4 (.load false 1 20),
 zi 22 21 (.mv 21),
 ⟨some 23, .faddr 40 3, some (22, true), [(3, .at_ 3 0)]⟩,
 ⟨some 24, .load false 1 23, some (22, true), [(23, .at_ 3 40)]⟩,
 ⟨some 25, .mv 0, some (22, true), [(0, .at_ 1000000 0)]⟩,
 ⟨some 26, .nilc 25, some (22, true), [(25, .at_ 1000000 0)]⟩,
 ⟨some 27, .faddr 2 26, some (22, true), [(26, .at_ 1000000 0)]⟩,
 ⟨some 28, .load false 1 27, some (22, true), [(27, .at_ 1000000 2)]⟩,
 ⟨some 29, .prim (.bin .eql 3 false false) [24, 28], some (22, true), [(24, .imm), (28, .imm)]⟩,
 zj 30 22 29 (.pick 22 29 kf),
 zi 31 30 (.mv 30),
 ⟨some 32, .faddr 3 3, some (31, true), [(3, .at_ 3 0)]⟩,
 ⟨some 33, .load false 1 32, some (31, true), [(32, .at_ 3 3)]⟩,
 ⟨some 34, .mv 0, some (31, true), [(0, .at_ 1000000 0)]⟩,
 ⟨some 35, .nilc 34, some (31, true), [(34, .at_ 1000000 0)]⟩,
 ⟨some 36, .faddr 3 35, some (31, true), [(35, .at_ 1000000 0)]⟩,
 ⟨some 37, .load false 1 36, some (31, true), [(36, .at_ 1000000 3)]⟩,
 ⟨some 38, .prim (.bin .eql 3 false false) [33, 37], some (31, true), [(33, .imm), (37, .imm)]⟩,
 zj 39 31 38 (.pick 31 38 kf),
 zi 40 39 (.mv 39),
 ⟨some 41, .faddr 0 3, some (40, true), [(3, .at_ 3 0)]⟩,
 ⟨some 42, .load false 1 41, some (40, true), [(41, .at_ 3 0)]⟩,
 ⟨some 43, .mv 0, some (40, true), [(0, .at_ 1000000 0)]⟩,
 ⟨some 44, .nilc 43, some (40, true), [(43, .at_ 1000000 0)]⟩,
 ⟨some 45, .faddr 5 44, some (40, true), [(44, .at_ 1000000 0)]⟩,
 ⟨some 46, .faddr 1 45, some (40, true), [(45, .at_ 1000000 5)]⟩,
 ⟨some 47, .load false 1 46, some (40, true), [(46, .at_ 1000000 6)]⟩,
 ⟨some 48, .prim (.bin .eql 3 false false) [42, 47], some (40, true), [(42, .imm), (47, .imm)]⟩,
 zj 49 40 48 (.pick 40 48 kf)]
def p36o8 := [zM 50 0,
 zo 51 (.nilc 50),
 zG 52 4 51,
 zs (.store 1 52 kf)]
def p36o9 := [za 53 0 1000000 0 (.mv 0),
 za 54 0 1000000 0 (.mv 0),
 za 55 3 3 0 (.faddr 26 3),
 za 56 55 3 26 (.load false 1 55),
 za 57 3 3 0 (.faddr 27 3),
 za 58 57 3 27 (.load false 1 57),
 za 59 53 1000000 0 (.nilc 53),
 za 60 59 1000000 0 (.faddr 47 59),
 zn (.store 1 60 56) [(60, .at_ 1000000 47), (56, .imm)],
 za 61 54 1000000 0 (.nilc 54),
 za 62 61 1000000 0 (.faddr 48 61),
 zn (.store 1 62 58) [(62, .at_ 1000000 48), (58, .imm)]]
def p36o14 := [zM 4 (kk 0)]
def p36o18 := [zG 64 2 3,
 zL 65 64,
 zK 66 .eql 3 65 4,
 zM 63 66]
def p36o19 := [za 67 0 1000000 0 (.mv 0),
 za 68 67 1000000 0 (.nilc 67),
 za 69 68 1000000 0 (.faddr 49 68),
 za 70 69 1000000 49 (.load false 1 69),
 za 71 3 3 0 (.faddr 34 3),
 za 72 71 3 34 (.load true 6 71),
 ⟨some 73, .gcall false false [1000001, 1000002, 1000003] [[], [(5, 25)]] 16 [70, 72], none, [(70, .at_ 1000001 0), (72, .imm)]⟩]
def p36o20 := [zM 4 (kk 0)]
def p36o32 := [zM 4 (kk 11)]
def p36c36 := sq (rg p36o1) (sq (.block 0 (sq (rh p36o2) (.cond 5 (sq (rg p36o3) (rt)) (sq (rg p36o6) (.cond 14 (sq (sq (rh p36o7) (.cond 49 (sq (rg p36o8) (rh p36o9)) (.skip))) (sq (rg p36o14) (rt))) (sq (rg p36o18) (.cond 63 (sq (rh p36o19) (sq (rg p36o20) (rt))) (.skip)))))))) (sq (rg p36o32) (rt)))
def pc36_r : List PRes := [PRes.tmp 4 []]
def pc36 : PFunc := ⟨74, pc36_r, p36c36, false⟩
def pc36_a : Ann := {
 kr := fun _ => none
 ka := fun _ => 0
 kh := hg [([0, 8, 9, 10, 18, 19, 25, 26, 34, 35, 43, 44, 53, 54, 59, 61, 67, 68], .at_ 1000000 0), ([3, 41], .at_ 3 0), ([6], .at_ 3 1), ([7, 11, 12, 13, 21, 22, 24, 28, 29, 30, 31, 33, 37, 38, 39, 40, 42, 47, 48, 56, 58, 72], .imm), ([20], .at_ 1000000 4), ([23], .at_ 3 40), ([27], .at_ 1000000 2), ([32], .at_ 3 3), ([36], .at_ 1000000 3), ([45], .at_ 1000000 5), ([46], .at_ 1000000 6), ([55], .at_ 3 26), ([57], .at_ 3 27), ([60], .at_ 1000000 47), ([62], .at_ 1000000 48), ([69], .at_ 1000000 49), ([70], .at_ 1000001 0), ([71], .at_ 3 34)]
 gf := fun d f => match d, f with
  | some 73, 16 => some (false, false, [1000001, 1000002, 1000003])
  | _, _ => none
 ow := ow0 }
theorem pc36_ok : zai Try.prog pc36_a Try.f36 = some pc36 := by kernel_rfl
def p37o1 := [zo 2 (.mv (.const (kl)))]
def p37o2 := [zo 3 (.mv (.const (kl)))]
def p37o3 := [zM 5 0,
 zo 6 (.nilc 5),
 zG 7 4 6,
 zL 8 7]
def p37o4 := [zM 9 3,
 zM 10 0,
 zo 11 (.nilc 10),
 zG 12 5 11,
 zo 13 (.load true 42 12),
 zo 14 (.bslice 73 42 [13]),
 zo 15 (.app 100003 73 42 456 9 14),
 zM 3 15]
def p37o8 := [zM 4 (kk 0)]
def p37o9 := [zM 16 4,
 zM 17 0,
 zo 18 (.nilc 17),
 zG 19 1 18,
 zL 20 19,
 zB 21 .lss 3 16 20,
 zM 22 21,
 zt 23 22 (.mv 0),
 zt 24 22 (.nilc 23),
 zt 25 22 (.faddr 49 24),
 zt 26 22 (.load false 1 25),
 zt 27 22 (.nilc 26),
 zt 28 22 (.faddr 4 27),
 zt 29 22 (.load false 1 28),
 zt 30 22 (.prim (.bin .geq 3 false true) [29, kk 0]),
 zo 31 (.pick 22 30 kf)]
def p37o14 : List POper := [⟨some 34, .mv 3, none, [(3, .obj 100003)]⟩,
 za 35 0 1000000 0 (.mv 0),
 za 36 35 1000000 0 (.nilc 35),
 za 37 36 1000000 0 (.faddr 0 36),
 za 38 37 1000000 0 (.load false 1 37),
 zi 39 38 (.prim (.bin .add 3 true false) [kk 100, 38]),
 zi 40 4 (.mv 4),
 za 41 0 1000000 0 (.mv 0),
 za 42 41 1000000 0 (.nilc 41),
 za 43 42 1000000 0 (.faddr 2 42),
 za 44 43 1000000 2 (.load false 1 43),
 za 45 0 1000000 0 (.mv 0),
 za 46 45 1000000 0 (.nilc 45),
 za 47 46 1000000 0 (.faddr 49 46),
 za 48 47 1000000 49 (.load false 1 47),
 za 49 48 1000001 0 (.nilc 48),
 za 50 49 1000001 0 (.faddr 4 49),
 za 51 50 1000001 4 (.load false 1 50),
 ⟨some 52, .buildV k0' (.agg k1') [(0, 1, .tmp 39), (1, 1, .tmp 40), (2, 1, kk 5), (40, 1, .tmp 44), (41, 1, .tmp 51)], none, [(39, .imm), (40, .imm), (44, .imm), (51, .imm)]⟩,
 zi 53 52 (.bslice 73 42 [52]),
 ⟨some 54, .app 100003 73 42 456 34 53, none, [(34, .obj 100003), (53, .imm)]⟩,
 ⟨some 3, .mv 54, none, [(54, .obj 100003)]⟩]
def p37o16 := [zM 32 4,
 zK 33 .add 3 32 1,
 zM 4 33]
def p37c18 := sq (sq (.region (some ([0, 3, 4], [100003, 1000000, 1000001, 1000002, 1000003], [])) false p37o9) (.cond 31 (.skip) (.exit 0))) (sq (.block 1 (rh p37o14)) (rg p37o16))
def p37o22 := [zM 55 3,
 zM 2 55]
def p37c24 := sq (rg p37o22) (rt)
def p37c25 := sq (sq (.region (some ([0, 3], [100003, 1000000, 1000001, 1000002, 1000003], [(false, 3, 0, 100003, 73, 42)])) false p37o8) (.block 0 (.loop p37c18))) p37c24
def p37c28 := sq (rg p37o1) (sq (rg p37o2) (sq (sq (rg p37o3) (.cond 8 (rg p37o4) (.skip))) p37c25))
def pc37_r : List PRes := [PRes.tmp 2 [(0, 42)]]
def pc37 : PFunc := ⟨56, pc37_r, p37c28, false⟩
def pc37_a : Ann := {
 kr := fun
  | 4 => some ([0, 3], [100003, 1000000, 1000001, 1000002, 1000003], [(false, 3, 0, 100003, 73, 42)])
  | 5 => some ([0, 3, 4], [100003, 1000000, 1000001, 1000002, 1000003], [])
  | _ => none
 ka := fun
  | 15 => 100003
  | 54 => 100003
  | _ => 0
 kh := hg [([0, 35, 36, 37, 41, 42, 45, 46], .at_ 1000000 0), ([3, 34, 54], .obj 100003), ([4, 38, 39, 40, 44, 51, 52, 53], .imm), ([43], .at_ 1000000 2), ([47], .at_ 1000000 49), ([48, 49], .at_ 1000001 0), ([50], .at_ 1000001 4)]
 ow := ow0 }
theorem pc37_ok : zai Try.prog pc37_a Try.f37 = some pc37 := by kernel_rfl
def p39o1 := [zM 2 0,
 zM 3 0,
 zo 4 (.nilc 3),
 zG 5 2 4,
 zL 6 5,
 zK 7 .add 3 6 1,
 zo 8 (.nilc 2),
 zG 9 2 8,
 zs (.store 1 9 7)]
def p39o2 := [zM 10 0,
 zM 11 0,
 zM 12 0,
 zM 13 0,
 zo 14 (.nilc 10),
 zG 15 3 14,
 zs (.store 1 15 (kk 0)),
 zo 16 (.nilc 11),
 zG 17 4 16,
 zs (.store 1 17 kf),
 zo 18 (.nilc 12),
 zG 19 47 18,
 zs (.store 1 19 (kk 0)),
 zo 20 (.nilc 13),
 zG 21 48 20,
 zs (.store 1 21 (kk 0))]
def p39o3 := [za 22 0 1000000 0 (.mv 0),
 za 23 0 1000000 0 (.mv 0),
 za 24 23 1000000 0 (.nilc 23),
 za 25 24 1000000 0 (.faddr 0 24),
 za 26 25 1000000 0 (.load false 1 25),
 za 27 0 1000000 0 (.mv 0),
 za 28 27 1000000 0 (.nilc 27),
 za 29 28 1000000 0 (.faddr 2 28),
 za 30 29 1000000 2 (.load false 1 29),
 za 31 0 1000000 0 (.mv 0),
 za 32 31 1000000 0 (.nilc 31),
 za 33 32 1000000 0 (.faddr 1 32),
 za 34 33 1000000 1 (.load false 1 33),
 ⟨some 35, .gcall false false k2' [[], [], []] 14 [26, 30, 34], none, [(26, .imm), (30, .imm), (34, .imm)]⟩,
 za 36 22 1000000 0 (.nilc 22),
 za 37 36 1000000 0 (.faddr 49 36),
 zn (.store 1 37 35) [(37, .at_ 1000000 49), (35, .at_ 300000 0)]]
def p39c5 := sq (rg p39o1) (sq (rg p39o2) (rh p39o3))
def pc39_r : List PRes := []
def pc39 : PFunc := ⟨38, pc39_r, p39c5, true⟩
def pc39_a : Ann := {
 kr := fun _ => none
 ka := fun _ => 0
 kh := hg [([0, 22, 23, 24, 25, 27, 28, 31, 32, 36], .at_ 1000000 0), ([26, 30, 34], .imm), ([29], .at_ 1000000 2), ([33], .at_ 1000000 1), ([35], .at_ 300000 0), ([37], .at_ 1000000 49)]
 gf := fun d f => match d, f with
  | some 35, 14 => some (false, false, k2')
  | _, _ => none
 ow := ow0
 ex := true }
theorem pc39_ok : zai Try.prog pc39_a Try.f39 = some pc39 := by kernel_rfl
def p9o1 := [zM 6 kf]
def p9o2 := [zo 19 (.call true [] 25 []),
 zo 20 (.prim (.un .not) [19])]
def p9o3 := [zM 6 kf]
def p9o9 := [zM 21 2,
 zo 22 (.call true [[(0, 66)]] 31 [21]),
 zo 23 (.prim (.un .not) [22])]
def p9o10 := [zM 6 kt]
def p9o16 := [zM 24 0,
 zM 25 1,
 zo 26 (.gcall false false k2' [[], []] 27 [24, 25]),
 zM 27 0,
 zM 28 1,
 zo 29 (.gcall false false k2' [[], []] 32 [27, 28]),
 zM 7 26,
 zM 8 29]
def p9o17 := [zM 9 (kk 0)]
def p9o18 := [zM 30 9,
 zM 31 2,
 zo 32 (.lenS 31),
 zB 33 .lss 3 30 32]
def p9o23 := [zM 41 2,
 zM 42 9,
 zo 43 (.iaddrS 66 41 42),
 zG 44 0 43,
 zL 45 44,
 zK 46 .leq 3 45 1,
 zM 40 46]
def p9o24 := [za 48 7 300000 0 (.mv 7),
 zi 49 2 (.mv 2),
 zi 50 9 (.mv 9),
 zj 51 49 50 (.iaddrS 66 49 50),
 zi 52 51 (.faddr 1 51),
 zi 53 52 (.load false 1 52),
 zi 54 2 (.mv 2),
 zi 55 9 (.mv 9),
 zj 56 54 55 (.iaddrS 66 54 55),
 zi 57 56 (.faddr 2 56),
 zi 58 57 (.load true 22 57),
 ⟨some 59, .gcall false false [300000, 300001, 300002, 300003] [[], [], []] 28 [48, 53, 58], none, [(48, .at_ 300000 0), (53, .imm), (58, .imm)]⟩,
 zM 47 59,
 zX 60 47 0,
 zX 61 47 1,
 zo 10 (.alloc 73 (.agg k1') k3'),
 zn (.storeV k0' 42 10 60) [(10, .at_ 10 0), (60, .imm)],
 zi 11 61 (.mv 61)]
def p9o25 := [za 63 8 300004 0 (.mv 8),
 zi 64 2 (.mv 2),
 zi 65 9 (.mv 9),
 zj 66 64 65 (.iaddrS 66 64 65),
 zi 67 66 (.faddr 1 66),
 zi 68 67 (.load false 1 67),
 zi 69 2 (.mv 2),
 zi 70 9 (.mv 9),
 zj 71 69 70 (.iaddrS 66 69 70),
 zi 72 71 (.faddr 2 71),
 zi 73 72 (.load true 22 72),
 ⟨some 74, .gcall false false [300004, 300005, 300006, 300007] [[], [], []] 33 [63, 68, 73], none, [(63, .at_ 300004 0), (68, .imm), (73, .imm)]⟩,
 zM 62 74,
 zX 75 62 0,
 zX 76 62 1,
 zo 12 (.alloc 73 (.agg k1') k3'),
 zn (.storeV k0' 42 12 75) [(12, .at_ 12 0), (75, .imm)],
 zi 13 76 (.mv 76)]
def p9o26 := [zM 77 11,
 zM 78 13,
 zB 79 .neq 3 77 78,
 zM 80 79,
 zf 81 80 (.mv 11),
 zf 82 80 (.prim (.bin .eql 67 false true) [81, kk 0]),
 zf 83 80 (.mv 82),
 zt 84 83 (.load true 42 10),
 zt 85 83 (.load true 42 12),
 zt 86 83 (.call true [k0', k0'] 34 [84, 85]),
 zt 87 83 (.prim (.un .not) [86]),
 zf 88 80 (.pick 83 87 kf),
 zo 89 (.pick 80 kt 88)]
def p9o27 := [zM 6 kf]
def p9o35 := [zM 91 2,
 zM 92 9,
 zo 93 (.iaddrS 66 91 92),
 zG 94 0 93,
 zL 95 94,
 zK 96 .leq 3 95 3,
 zM 90 96]
def p9o36 := [za 97 7 300000 0 (.mv 7),
 zi 98 2 (.mv 2),
 zi 99 9 (.mv 9),
 zj 100 98 99 (.iaddrS 66 98 99),
 zi 101 100 (.faddr 24 100),
 zi 102 101 (.load true 42 101),
 ⟨some 103, .gcall false false [300000, 300001, 300002, 300003] [[], k0'] 35 [97, 102], none, [(97, .at_ 300000 0), (102, .imm)]⟩,
 za 104 8 300004 0 (.mv 8),
 zi 105 2 (.mv 2),
 zi 106 9 (.mv 9),
 zj 107 105 106 (.iaddrS 66 105 106),
 zi 108 107 (.faddr 24 107),
 zi 109 108 (.load true 42 108),
 ⟨some 110, .gcall false false [300004, 300005, 300006, 300007] [[], k0'] 36 [104, 109], none, [(104, .at_ 300004 0), (109, .imm)]⟩,
 zj 111 103 110 (.prim (.bin .neq 3 false false) [103, 110])]
def p9o37 := [zM 6 kf]
def p9o43 := [zM 113 2,
 zM 114 9,
 zo 115 (.iaddrS 66 113 114),
 zG 116 0 115,
 zL 117 116,
 zK 118 .eql 3 117 4,
 zM 112 118]
def p9o44 := [zM 119 7,
 zo 120 (.gcall false false [300000, 300001, 300002, 300003] [[]] 30 [119]),
 zM 121 8,
 zo 122 (.gcall false false [300004, 300005, 300006, 300007] [[]] 37 [121]),
 zM 14 120,
 zM 15 122]
def p9o45 := [zM 123 14,
 zo 124 (.lenS 123),
 zM 125 15,
 zo 126 (.lenS 125),
 zB 127 .neq 3 124 126]
def p9o46 := [zM 6 kf]
def p9o52 := [zM 16 (kk 0)]
def p9o53 := [zM 128 16,
 zM 129 14,
 zo 130 (.lenS 129),
 zB 131 .lss 3 128 130]
def p9o58 := [zi 134 14 (.mv 14),
 zi 135 16 (.mv 16),
 zj 136 134 135 (.iaddrS 42 134 135),
 zi 137 136 (.load true 42 136),
 zi 138 15 (.mv 15),
 zi 139 16 (.mv 16),
 zj 140 138 139 (.iaddrS 42 138 139),
 zi 141 140 (.load true 42 140),
 zj 142 137 141 (.call false [k0', k0'] 34 [137, 141]),
 zi 143 142 (.prim (.un .not) [142])]
def p9o59 := [zM 6 kf]
def p9o66 := [zM 132 16,
 zK 133 .add 3 132 1,
 zM 16 133]
def p9c68 := sq (sq (.region (some ([2, 7, 8, 9, 14, 15, 16], k5', [])) false p9o53) (.cond 131 (.skip) (.exit 3))) (sq (.block 4 (sq (rh p9o58) (.cond 143 (sq (rg p9o59) (rt)) (.skip)))) (rg p9o66))
def p9o74 := [zM 36 7,
 zo 37 (.gcall false false k2' [[]] 38 [36])]
def p9o75 := [zM 38 8,
 zo 39 (.gcall false false k2' [[]] 39 [38])]
def p9o84 := [zM 145 7,
 zo 146 (.gcall false false [300000, 300001, 300002, 300003] [[]] 40 [145]),
 zM 144 146,
 zX 147 144 0,
 zX 148 144 1,
 zM 17 147,
 zM 18 148]
def p9o85 := [za 149 7 300000 0 (.mv 7),
 za 150 149 300000 0 (.gcall false false [300000, 300001, 300002, 300003] [[]] 29 [149]),
 za 151 8 300004 0 (.mv 8),
 za 152 151 300004 0 (.nilc 151),
 za 153 152 300004 0 (.faddr 4 152),
 za 154 153 300004 4 (.load false 1 153),
 zj 155 150 154 (.prim (.bin .neq 4 false false) [150, 154]),
 zi 156 155 (.mv 155),
 ⟨some 157, .mv 7, some (156, false), [(7, .at_ 300000 0)]⟩,
 ⟨some 158, .gcall false false [300000, 300001, 300002, 300003] [[]] 41 [157], some (156, false), [(157, .at_ 300000 0)]⟩,
 ⟨some 159, .mv 8, some (156, false), [(8, .at_ 300004 0)]⟩,
 ⟨some 160, .nilc 159, some (156, false), [(159, .at_ 300004 0)]⟩,
 ⟨some 161, .faddr 2 160, some (156, false), [(160, .at_ 300004 0)]⟩,
 ⟨some 162, .load false 1 161, some (156, false), [(161, .at_ 300004 2)]⟩,
 ⟨some 163, .prim (.bin .neq 3 false false) [158, 162], some (156, false), [(158, .imm), (162, .imm)]⟩,
 zj 164 156 163 (.pick 156 kt 163),
 zi 165 164 (.mv 164),
 ⟨some 166, .mv 17, some (165, false), [(17, .imm)]⟩,
 ⟨some 167, .mv 8, some (165, false), [(8, .at_ 300004 0)]⟩,
 ⟨some 168, .nilc 167, some (165, false), [(167, .at_ 300004 0)]⟩,
 ⟨some 169, .faddr 48 168, some (165, false), [(168, .at_ 300004 0)]⟩,
 ⟨some 170, .load false 1 169, some (165, false), [(169, .at_ 300004 48)]⟩,
 ⟨some 171, .prim (.bin .neq 3 false false) [166, 170], some (165, false), [(166, .imm), (170, .imm)]⟩,
 zj 172 165 171 (.pick 165 kt 171),
 zi 173 172 (.mv 172),
 ⟨some 174, .mv 18, some (173, false), [(18, .imm)]⟩,
 ⟨some 175, .mv 8, some (173, false), [(8, .at_ 300004 0)]⟩,
 ⟨some 176, .nilc 175, some (173, false), [(175, .at_ 300004 0)]⟩,
 ⟨some 177, .faddr 47 176, some (173, false), [(176, .at_ 300004 0)]⟩,
 ⟨some 178, .load false 1 177, some (173, false), [(177, .at_ 300004 47)]⟩,
 ⟨some 179, .prim (.bin .neq 3 false false) [174, 178], some (173, false), [(174, .imm), (178, .imm)]⟩,
 zj 180 173 179 (.pick 173 kt 179),
 zi 181 180 (.mv 180),
 ⟨some 182, .mv 7, some (181, false), [(7, .at_ 300000 0)]⟩,
 ⟨some 183, .gcall false false [300000, 300001, 300002, 300003] [[]] 42 [182], some (181, false), [(182, .at_ 300000 0)]⟩,
 ⟨some 184, .gcall false false [300001, 300002, 300003] [[]] 17 [183], some (181, false), [(183, .at_ 300001 0)]⟩,
 ⟨some 185, .mv 8, some (181, false), [(8, .at_ 300004 0)]⟩,
 ⟨some 186, .nilc 185, some (181, false), [(185, .at_ 300004 0)]⟩,
 ⟨some 187, .faddr 49 186, some (181, false), [(186, .at_ 300004 0)]⟩,
 ⟨some 188, .load false 1 187, some (181, false), [(187, .at_ 300004 49)]⟩,
 ⟨some 189, .nilc 188, some (181, false), [(188, .at_ 300005 0)]⟩,
 ⟨some 190, .faddr 4 189, some (181, false), [(189, .at_ 300005 0)]⟩,
 ⟨some 191, .load false 1 190, some (181, false), [(190, .at_ 300005 4)]⟩,
 ⟨some 192, .prim (.bin .neq 3 false false) [184, 191], some (181, false), [(184, .imm), (191, .imm)]⟩,
 zj 193 181 192 (.pick 181 kt 192),
 zi 194 193 (.mv 193),
 ⟨some 195, .mv 7, some (194, false), [(7, .at_ 300000 0)]⟩,
 ⟨some 196, .gcall false false [300000, 300001, 300002, 300003] [[]] 42 [195], some (194, false), [(195, .at_ 300000 0)]⟩,
 ⟨some 197, .gcall false false [300001, 300002, 300003] [[]] 20 [196], some (194, false), [(196, .at_ 300001 0)]⟩,
 ⟨some 198, .mv 8, some (194, false), [(8, .at_ 300004 0)]⟩,
 ⟨some 199, .nilc 198, some (194, false), [(198, .at_ 300004 0)]⟩,
 ⟨some 200, .faddr 49 199, some (194, false), [(199, .at_ 300004 0)]⟩,
 ⟨some 201, .load false 1 200, some (194, false), [(200, .at_ 300004 49)]⟩,
 ⟨some 202, .nilc 201, some (194, false), [(201, .at_ 300005 0)]⟩,
 ⟨some 203, .faddr 5 202, some (194, false), [(202, .at_ 300005 0)]⟩,
 ⟨some 204, .load false 1 203, some (194, false), [(203, .at_ 300005 5)]⟩,
 ⟨some 205, .call false [[(0, 11)], [(0, 11)]] 19 [197, 204], some (194, false), [(197, .imm), (204, .imm)]⟩,
 ⟨some 206, .prim (.un .not) [205], some (194, false), [(205, .imm)]⟩,
 zj 207 194 206 (.pick 194 kt 206)]
def p9o86 := [zM 6 kf]
def p9c92 := sq (.region (some ([2, 7, 8, 9], k9', k10')) false p9o84) (sq (rh p9o85) (.cond 207 (sq (rg p9o86) (rt)) (.skip)))
def p9o95 := [zM 34 9,
 zK 35 .add 3 34 1,
 zM 9 35]
def p9c95 := rg p9o95
def p9c97 := sq (sq (.region (some ([2, 7, 8, 9], k5', [])) false p9o18) (.cond 33 (.skip) (.exit 0))) (sq (.block 1 (sq (.block 2 (sq (rg p9o23) (.cond 40 (sq (rh p9o24) (sq (rh p9o25) (sq (rg p9o26) (.cond 89 (sq (rg p9o27) (rt)) (.skip))))) (sq (rg p9o35) (.cond 90 (sq (rh p9o36) (.cond 111 (sq (rg p9o37) (rt)) (.skip))) (sq (rg p9o43) (.cond 112 (sq (rg p9o44) (sq (sq (rg p9o45) (.cond 127 (sq (rg p9o46) (rt)) (.skip))) (sq (rg p9o52) (.block 3 (.loop p9c68))))) (sq (rg p9o74) (rg p9o75))))))))) p9c92)) p9c95)
def p9o101 := [zM 6 kt]
def p9c103 := sq (rg p9o101) (rt)
def p9c108 := sq (rg p9o1) (sq (sq (rg p9o2) (.cond 20 (sq (rg p9o3) (rt)) (.skip))) (sq (sq (rg p9o9) (.cond 23 (sq (rg p9o10) (rt)) (.skip))) (sq (rg p9o16) (sq (sq (rg p9o17) (.block 0 (.loop p9c97))) p9c103))))
def pc9_r : List PRes := [PRes.tmp 6 []]
def pc9 : PFunc := ⟨208, pc9_r, p9c108, false⟩
def pc9_a : Ann := {
 kr := fun
  | 7 => some ([2, 7, 8, 9], k5', [])
  | 24 => some ([2, 7, 8, 9, 14, 15, 16], k5', [])
  | 28 => some ([2, 7, 8, 9], k9', k10')
  | _ => none
 ka := fun _ => 0
 kh := hg [([2, 9, 14, 15, 16, 17, 18, 49, 50, 51, 52, 53, 54, 55, 56, 57, 58, 60, 61, 64, 65, 66, 67, 68, 69, 70, 71, 72, 73, 75, 76, 98, 99, 100, 101, 102, 103, 105, 106, 107, 108, 109, 110, 134, 135, 136, 137, 138, 139, 140, 141, 142, 150, 154, 155, 156, 158, 162, 163, 164, 165, 166, 170, 171, 172, 173, 174, 178, 179, 180, 181, 184, 191, 192, 193, 194, 197, 204, 205, 206], .imm), ([7, 48, 97, 149, 157, 182, 195], .at_ 300000 0), ([8, 63, 104, 151, 152, 159, 160, 167, 168, 175, 176, 185, 186, 198, 199], .at_ 300004 0), ([10], .at_ 10 0), ([12], .at_ 12 0), ([153], .at_ 300004 4), ([161], .at_ 300004 2), ([169], .at_ 300004 48), ([177], .at_ 300004 47), ([183, 196], .at_ 300001 0), ([187, 200], .at_ 300004 49), ([188, 189, 201, 202], .at_ 300005 0), ([190], .at_ 300005 4), ([203], .at_ 300005 5)]
 gf := fun d f => match d, f with
  | some 26, 27 => some (false, false, k2')
  | some 29, 32 => some (false, false, k2')
  | some 37, 38 => some (false, false, k2')
  | some 39, 39 => some (false, false, k2')
  | some 59, 28 => some (false, false, [300000, 300001, 300002, 300003])
  | some 74, 33 => some (false, false, [300004, 300005, 300006, 300007])
  | some 103, 35 => some (false, false, [300000, 300001, 300002, 300003])
  | some 110, 36 => some (false, false, [300004, 300005, 300006, 300007])
  | some 120, 30 => some (false, false, [300000, 300001, 300002, 300003])
  | some 122, 37 => some (false, false, [300004, 300005, 300006, 300007])
  | some 146, 40 => some (false, false, [300000, 300001, 300002, 300003])
  | some 150, 29 => some (false, false, [300000, 300001, 300002, 300003])
  | some 158, 41 => some (false, false, [300000, 300001, 300002, 300003])
  | some 183, 42 => some (false, false, [300000, 300001, 300002, 300003])
  | some 184, 17 => some (false, false, [300001, 300002, 300003])
  | some 196, 42 => some (false, false, [300000, 300001, 300002, 300003])
  | some 197, 20 => some (false, false, [300001, 300002, 300003])
  | _, _ => none
 ow := ow0 }
theorem pc9_ok : zai Try.prog pc9_a Try.f9 = some pc9 := by kernel_rfl
end Go.Proofs.Ythdabpmcojmhhaa
