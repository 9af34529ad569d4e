/- No condition. -/
import Derived.Test.YthdabpmcojmhhaaViewPlaysT
namespace Go.Proofs.Ythdabpmcojmhhaa
open Go Go.Rx
set_option maxRecDepth 100000
set_option linter.unusedVariables false
set_option linter.unusedSimpArgs false
set_option linter.unnecessarySimpa false
set_option linter.unnecessarySimpa false
def p13o1 := [zo 6 (.mv (.const (.pointer none)))]
def p13o2 := [zM 7 0,
 zM 8 1,
 zM 9 2,
 zo 10 (.prim .max [9, kk 1]),
 zo 11 (.prim .min [10, kk 4]),
 zo 12 .mmake,
 zo 13 (.build (.agg #[ki, ki, ki, ki, ki, kl, kl, .map none]) [(0, 1, .tmp 7), (1, 1, .tmp 8), (2, 1, .tmp 11), (3, 1, .const (.int .i64 (-1))), (4, 1, .const (.int .i64 (-1))), (7, 1, .tmp 12)]),
 zo 14 (.box 99 13 [(5, 1000000054, 11), (6, 58, 25)]),
 zM 6 14]
def p13c5 := sq (rg p13o1) (sq (rg p13o2) (rt))
def pc13_r : List PRes := [PRes.tmp 6 []]
def pc13 : PFunc := ⟨15, pc13_r, p13c5, true⟩
def pc13_a : Ann := {
 kr := fun _ => none
 ka := fun _ => 0
 kh := fun _ => none
 ow := ow0
 ex := true }
theorem pc13_ok : compFn Try.prog pc13_a Try.f13 = some pc13 := by kernel_rfl
def p77o1 := [zo 1 (.box 49 0 []),
 zM 2 kf]
def p77o2 := [zG 3 0 1,
 zL 4 3,
 zK 5 .geq 3 4 0,
 zM 6 5,
 zt 7 6 (.faddr 0 1),
 zt 8 6 (.load false 1 7),
 zt 9 6 (.prim (.bin .lss 3 false true) [8, kk 64]),
 zo 10 (.pick 6 9 kf),
 zM 11 10,
 zt 12 11 (.faddr 1 1),
 zt 13 11 (.load false 1 12),
 zt 14 11 (.prim (.bin .geq 3 false true) [13, kk 0]),
 zo 15 (.pick 11 14 kf),
 zM 16 15,
 zt 17 16 (.faddr 1 1),
 zt 18 16 (.load false 1 17),
 zt 19 16 (.prim (.bin .lss 3 false true) [18, kk 64]),
 zo 20 (.pick 16 19 kf),
 zM 2 20]
def p77c5 := sq (rg p77o1) (sq (rg p77o2) (rt))
def pc77_r : List PRes := [PRes.tmp 2 []]
def pc77 : PFunc := ⟨21, pc77_r, p77c5, false⟩
def pc77_a : Ann := {
 kr := fun _ => none
 ka := fun _ => 0
 kh := fun _ => none
 ow := ow0 }
theorem pc77_ok : compFn Try.prog pc77_a Try.f77 = some pc77 := by kernel_rfl
def p62o1 := [zo 1 (.box 51 0 []),
 zM 2 kf]
def p62o2 := [zG 3 0 1,
 zL 4 3,
 zK 5 .eql 2 4 0,
 zM 6 5,
 zf 7 6 (.faddr 1 1),
 zf 8 6 (.load false 1 7),
 zf 9 6 (.prim (.bin .eql 9 false true) [8, .const (ks)]),
 zo 10 (.pick 6 kt 9),
 zM 11 10,
 zt 12 11 (.faddr 1 1),
 zt 13 11 (.load false 1 12),
 zt 14 11 (.prim (.len 9) [13]),
 zt 15 11 (.prim (.bin .leq 3 false true) [14, kk 12]),
 zo 16 (.pick 11 15 kf),
 zM 2 16]
def p62c5 := sq (rg p62o1) (sq (rg p62o2) (rt))
def pc62_r : List PRes := [PRes.tmp 2 []]
def pc62 : PFunc := ⟨17, pc62_r, p62c5, false⟩
def pc62_a : Ann := {
 kr := fun _ => none
 ka := fun _ => 0
 kh := fun _ => none
 ow := ow0 }
theorem pc62_ok : compFn Try.prog pc62_a Try.f62 = some pc62 := by kernel_rfl
def p79o1 := [zo 1 (.box 51 0 []),
 zM 2 kf]
def p79o2 := [zo 3 (.load true 2 1),
 zo 4 (.call true [[]] 62 [3]),
 zo 5 (.prim (.un .not) [4]),
 zM 2 5]
def p79c5 := sq (rg p79o1) (sq (rg p79o2) (rt))
def pc79_r : List PRes := [PRes.tmp 2 []]
def pc79 : PFunc := ⟨6, pc79_r, p79c5, false⟩
def pc79_a : Ann := {
 kr := fun _ => none
 ka := fun _ => 0
 kh := fun _ => none
 ow := ow0 }
theorem pc79_ok : compFn Try.prog pc79_a Try.f79 = some pc79 := by kernel_rfl
def p91o1 := [zM 4 (kk 0)]
def p91o2 := [zM 6 0,
 zo 7 (.lenS 6),
 zM 8 (kk 0)]
def p91o3 := [zB 9 .lss 3 8 7]
def p91o7 := [zM 10 8,
 zM 5 10]
def p91o8 := [zM 11 1,
 zM 12 0,
 zM 13 5,
 zo 14 (.iaddrS 2 12 13),
 zo 15 (.load true 2 14),
 zo 16 (.callv true [[]] 11 [15])]
def p91o9 := [zM 17 5,
 zM 4 17]
def p91o17 := [zK 18 .add 3 8 1,
 zM 8 18]
def p91c20 := sq (.region (some ([0, 1, 7, 8], [], [])) false p91o3) (sq (.cond 9 (.skip) (.exit 0)) (sq (.block 1 (sq (rg p91o7) (sq (rg p91o8) (.cond 16 (sq (rg p91o9) (rt)) (.skip))))) (rg p91o17)))
def p91o24 := [zM 4 (kk (-1))]
def p91c26 := sq (rg p91o24) (rt)
def p91c28 := sq (rg p91o1) (sq (sq (rg p91o2) (.block 0 (.loop p91c20))) p91c26)
def pc91_r : List PRes := [PRes.tmp 4 []]
def pc91 : PFunc := ⟨19, pc91_r, p91c28, false⟩
def pc91_a : Ann := {
 kr := fun
  | 2 => some ([0, 1, 7, 8], [], [])
  | _ => none
 ka := fun _ => 0
 kh := fun _ => none
 ow := ow0 }
theorem pc91_ok : compFn Try.prog pc91_a Try.f91 = some pc91 := by kernel_rfl
def p78o1 := [zM 4 kf]
def p78o2 := [zM 5 0,
 zM 6 1,
 zo 7 (.gcall false false [300000, 300001, 300002, 300003, 300004, 300005, 300006, 300007] [[(0, 2)], []] 91 [5, 6]),
 zK 8 .geq 3 7 0,
 zM 4 8]
def p78c5 := sq (rg p78o1) (sq (rg p78o2) (rt))
def pc78_r : List PRes := [PRes.tmp 4 []]
def pc78 : PFunc := ⟨9, pc78_r, p78c5, false⟩
def pc78_a : Ann := {
 kr := fun _ => none
 ka := fun _ => 0
 kh := fun _ => none
 gf := fun d f => match d, f with
  | some 7, 91 => some (false, false, [300000, 300001, 300002, 300003, 300004, 300005, 300006, 300007])
  | _, _ => none
 ow := ow0 }
theorem pc78_ok : compFn Try.prog pc78_a Try.f78 = some pc78 := by kernel_rfl
def p72o1 := [zo 1 (.box 54 0 []),
 zM 2 kf]
def p72o2 := [zG 3 0 1,
 zL 4 3,
 zK 5 .geq 3 4 0,
 zM 6 5,
 zt 7 6 (.faddr 0 1),
 zt 8 6 (.load false 1 7),
 zt 9 6 (.prim (.bin .leq 3 false true) [8, kk 1000000]),
 zo 10 (.pick 6 9 kf),
 zM 11 10,
 zt 12 11 (.faddr 1 1),
 zt 13 11 (.load true 2 12),
 zt 14 11 (.call true [[]] 77 [13]),
 zo 15 (.pick 11 14 kf),
 zM 16 15,
 zt 17 16 (.faddr 3 1),
 zt 18 16 (.slcA 4 2 17 none none),
 zt 19 16 (.gcall false false [1, 300000, 300001, 300002, 300003, 300004, 300005, 300006, 300007] [[(0, 2)], []] 78 [18, .func 79]),
 zt 20 16 (.prim (.un .not) [19]),
 zo 21 (.pick 16 20 kf),
 zM 2 21]
def p72c5 := sq (rg p72o1) (sq (rg p72o2) (rt))
def pc72_r : List PRes := [PRes.tmp 2 []]
def pc72 : PFunc := ⟨22, pc72_r, p72c5, false⟩
def pc72_a : Ann := {
 kr := fun _ => none
 ka := fun _ => 0
 kh := fun _ => none
 gf := fun d f => match d, f with
  | some 19, 78 => some (false, false, [1, 300000, 300001, 300002, 300003, 300004, 300005, 300006, 300007])
  | _, _ => none
 ow := ow0 }
theorem pc72_ok : compFn Try.prog pc72_a Try.f72 = some pc72 := by kernel_rfl
def p80o1 := [zM 4 kf]
def p80o2 := [zM 5 0,
 zM 6 1,
 zK 7 .add 3 6 1,
 zB 8 .shr 5 5 7,
 zo 9 (.prim (.bin .and 5 false true) [8, .const (.int .u8 1)]),
 zo 10 (.prim (.bin .eql 5 false true) [9, .const (.int .u8 1)]),
 zM 4 10]
def p80c5 := sq (rg p80o1) (sq (rg p80o2) (rt))
def pc80_r : List PRes := [PRes.tmp 4 []]
def pc80 : PFunc := ⟨11, pc80_r, p80c5, false⟩
def pc80_a : Ann := {
 kr := fun _ => none
 ka := fun _ => 0
 kh := fun _ => none
 ow := ow0 }
theorem pc80_ok : compFn Try.prog pc80_a Try.f80 = some pc80 := by kernel_rfl
def p73o1 := [zo 1 (.box 56 0 []),
 zM 2 kf]
def p73o2 := [zG 5 0 1,
 zL 6 5,
 zK 7 .lss 3 6 0,
 zM 8 7,
 zf 9 8 (.faddr 0 1),
 zf 10 8 (.load false 1 9),
 zf 11 8 (.prim (.bin .gtr 3 false true) [10, kk 1000000]),
 zo 12 (.pick 8 kt 11),
 zM 13 12,
 zf 14 13 (.faddr 1 1),
 zf 15 13 (.load false 1 14),
 zf 16 13 (.prim (.bin .eql 5 false true) [15, .const (.int .u8 0)]),
 zo 17 (.pick 13 kt 16),
 zM 18 17,
 zf 19 18 (.faddr 1 1),
 zf 20 18 (.load false 1 19),
 zf 21 18 (.prim (.bin .gtr 5 false true) [20, .const (.int .u8 31)]),
 zo 22 (.pick 18 kt 21)]
def p73o3 := [zM 2 kf]
def p73o9 := [zG 23 1 1,
 zL 24 23,
 zo 25 (.prim (.bin .and 5 false true) [24, .const (.int .u8 1)]),
 zo 26 (.prim (.bin .eql 5 false true) [25, .const (.int .u8 0)]),
 zM 27 26,
 zt 28 27 (.faddr 2 1),
 zt 29 27 (.load true 2 28),
 zt 30 27 (.build (.agg #[ki, ki]) []),
 zt 31 27 (.prim (.bin .neq 49 false false) [29, 30]),
 zo 32 (.pick 27 31 kf),
 zM 33 32,
 zf 34 33 (.faddr 2 1),
 zf 35 33 (.load true 2 34),
 zf 36 33 (.call true [[]] 77 [35]),
 zf 37 33 (.prim (.un .not) [36]),
 zo 38 (.pick 33 kt 37)]
def p73o10 := [zM 2 kf]
def p73o16 := [zG 39 4 1,
 zo 40 (.load true 8 39),
 zM 41 (kk 0)]
def p73o17 := [zK 42 .lss 3 41 4]
def p73o21 := [zM 43 41,
 zo 44 (.idx true 2 4 40 41),
 zo 4 (.alloc 51 (.agg #[ki, ks]) []),
 zM 3 43,
 zs (.store 2 4 44)]
def p73o22 := [zo 45 (.load true 2 4),
 zo 46 (.call true [[]] 62 [45]),
 zo 47 (.prim (.un .not) [46]),
 zM 48 47,
 zf 49 48 (.faddr 1 1),
 zf 50 48 (.load false 1 49),
 zf 51 48 (.mv 3),
 zf 52 48 (.call true [[], []] 80 [50, 51]),
 zf 53 48 (.prim (.un .not) [52]),
 zf 54 48 (.mv 53),
 zt 55 54 (.load true 2 4),
 zt 56 54 (.build (.agg #[ki, ks]) []),
 zt 57 54 (.prim (.bin .neq 51 false false) [55, 56]),
 zf 58 48 (.pick 54 57 kf),
 zo 59 (.pick 48 kt 58)]
def p73o23 := [zM 2 kf]
def p73o31 := [zK 60 .add 3 41 1,
 zM 41 60]
def p73c34 := sq (.region (some ([1, 40, 41], [1, 4], [])) false p73o17) (sq (.cond 42 (.skip) (.exit 0)) (sq (.block 1 (sq (rg p73o21) (sq (rg p73o22) (.cond 59 (sq (rg p73o23) (rt)) (.skip))))) (rg p73o31)))
def p73o38 := [zM 2 kt]
def p73c40 := sq (rg p73o38) (rt)
def p73c41 := sq (sq (.region (some ([1], [1], [])) false p73o16) (.block 0 (.loop p73c34))) p73c40
def p73c44 := sq (rg p73o1) (sq (sq (rg p73o2) (.cond 22 (sq (rg p73o3) (rt)) (.skip))) (sq (sq (rg p73o9) (.cond 38 (sq (rg p73o10) (rt)) (.skip))) p73c41))
def pc73_r : List PRes := [PRes.tmp 2 []]
def pc73 : PFunc := ⟨61, pc73_r, p73c44, false⟩
def pc73_a : Ann := {
 kr := fun
  | 5 => some ([1], [1], [])
  | 6 => some ([1, 40, 41], [1, 4], [])
  | _ => none
 ka := fun _ => 0
 kh := fun _ => none
 ow := ow0 }
theorem pc73_ok : compFn Try.prog pc73_a Try.f73 = some pc73 := by kernel_rfl
def p57o1 := [zo 1 (.box 58 0 []),
 zM 2 kf]
def p57o2 := [za 5 1 1 0 (.faddr 2 1),
 za 6 5 1 2 (.load true 11 5),
 zo 7 (.build (.agg #[ki, ki, ki, ki, ks, ki, ks, ki, ks, ki, ks]) []),
 zj 8 6 7 (.prim (.bin .eql 54 false false) [6, 7]),
 za 9 1 1 0 (.faddr 13 1),
 za 10 9 1 13 (.load true 12 9),
 zo 11 (.build (.agg #[ki, .int .u8 0, ki, ki, ki, ks, ki, ks, ki, ks, ki, ks]) []),
 zj 12 10 11 (.prim (.bin .eql 56 false false) [10, 11]),
 zi 3 8 (.mv 8),
 zi 4 12 (.mv 12)]
def p57o3 := [zG 13 0 1,
 zL 14 13]
def p57o4 := [zK 16 .eql 3 14 1,
 zM 15 16]
def p57o5 := [zG 17 2 1,
 zo 18 (.load true 11 17),
 zo 19 (.call true [[]] 72 [18]),
 zM 20 19,
 zt 21 20 (.faddr 1 1),
 zt 22 20 (.load false 1 21),
 zt 23 20 (.faddr 2 1),
 zt 24 20 (.faddr 0 23),
 zt 25 20 (.load false 1 24),
 zt 26 20 (.prim (.bin .eql 3 false false) [22, 25]),
 zo 27 (.pick 20 26 kf),
 zM 28 27,
 zt 29 28 (.mv 4),
 zo 30 (.pick 28 29 kf),
 zM 2 30]
def p57o8 := [zK 32 .eql 3 14 2,
 zM 31 32]
def p57o9 := [zG 33 13 1,
 zo 34 (.load true 12 33),
 zo 35 (.call true [[]] 73 [34]),
 zM 36 35,
 zt 37 36 (.faddr 1 1),
 zt 38 36 (.load false 1 37),
 zt 39 36 (.faddr 13 1),
 zt 40 36 (.faddr 0 39),
 zt 41 36 (.load false 1 40),
 zt 42 36 (.prim (.bin .eql 3 false false) [38, 41]),
 zo 43 (.pick 36 42 kf),
 zM 44 43,
 zt 45 44 (.mv 3),
 zo 46 (.pick 44 45 kf),
 zM 2 46]
def p57o12 := [zK 48 .eql 3 14 3,
 zM 47 48]
def p57o13 := [zG 49 1 1,
 zL 50 49,
 zK 51 .geq 3 50 0,
 zM 52 51,
 zt 53 52 (.faddr 1 1),
 zt 54 52 (.load false 1 53),
 zt 55 52 (.prim (.bin .leq 3 false true) [54, kk 1000000]),
 zo 56 (.pick 52 55 kf),
 zM 57 56,
 zt 58 57 (.mv 3),
 zo 59 (.pick 57 58 kf),
 zM 60 59,
 zt 61 60 (.mv 4),
 zo 62 (.pick 60 61 kf),
 zM 2 62]
def p57o25 := [zM 2 kf]
def p57c30 := sq (rg p57o1) (sq (rh p57o2) (sq (sq (rg p57o3) (.block 0 (sq (rg p57o4) (.cond 15 (sq (rg p57o5) (rt)) (sq (rg p57o8) (.cond 31 (sq (rg p57o9) (rt)) (sq (rg p57o12) (.cond 47 (sq (rg p57o13) (rt)) (.skip))))))))) (sq (rg p57o25) (rt))))
def pc57_r : List PRes := [PRes.tmp 2 []]
def pc57 : PFunc := ⟨63, pc57_r, p57c30, false⟩
def pc57_a : Ann := {
 kr := fun _ => none
 ka := fun _ => 0
 kh := hg [([1], .at_ 1 0), ([5], .at_ 1 2), ([6, 7, 8, 10, 11, 12], .imm), ([9], .at_ 1 13)]
 ow := ow0 }
theorem pc57_ok : compFn Try.prog pc57_a Try.f57 = some pc57 := by kernel_rfl
def p56o1 := [zo 1 (.box 58 0 []),
 zM 2 kf]
def p56o2 := [zo 3 (.load true 25 1),
 zo 4 (.call true [[]] 57 [3]),
 zo 5 (.prim (.un .not) [4]),
 zM 2 5]
def p56c5 := sq (rg p56o1) (sq (rg p56o2) (rt))
def pc56_r : List PRes := [PRes.tmp 2 []]
def pc56 : PFunc := ⟨6, pc56_r, p56c5, false⟩
def pc56_a : Ann := {
 kr := fun _ => none
 ka := fun _ => 0
 kh := fun _ => none
 ow := ow0 }
theorem pc56_ok : compFn Try.prog pc56_a Try.f56 = some pc56 := by kernel_rfl
def p71o1 := [zM 4 (kk 0)]
def p71o2 := [zM 6 0,
 zo 7 (.lenS 6),
 zM 8 (kk 0)]
def p71o3 := [zB 9 .lss 3 8 7]
def p71o7 := [zM 10 8,
 zM 5 10]
def p71o8 := [zM 11 1,
 zM 12 0,
 zM 13 5,
 zo 14 (.iaddrS 25 12 13),
 zo 15 (.load true 25 14),
 zo 16 (.callv true [[]] 11 [15])]
def p71o9 := [zM 17 5,
 zM 4 17]
def p71o17 := [zK 18 .add 3 8 1,
 zM 8 18]
def p71c20 := sq (.region (some ([0, 1, 7, 8], [], [])) false p71o3) (sq (.cond 9 (.skip) (.exit 0)) (sq (.block 1 (sq (rg p71o7) (sq (rg p71o8) (.cond 16 (sq (rg p71o9) (rt)) (.skip))))) (rg p71o17)))
def p71o24 := [zM 4 (kk (-1))]
def p71c26 := sq (rg p71o24) (rt)
def p71c28 := sq (rg p71o1) (sq (sq (rg p71o2) (.block 0 (.loop p71c20))) p71c26)
def pc71_r : List PRes := [PRes.tmp 4 []]
def pc71 : PFunc := ⟨19, pc71_r, p71c28, false⟩
def pc71_a : Ann := {
 kr := fun
  | 2 => some ([0, 1, 7, 8], [], [])
  | _ => none
 ka := fun _ => 0
 kh := fun _ => none
 ow := ow0 }
theorem pc71_ok : compFn Try.prog pc71_a Try.f71 = some pc71 := by kernel_rfl
def p55o1 := [zM 4 kf]
def p55o2 := [zM 5 0,
 zM 6 1,
 zo 7 (.gcall false false [300000, 300001, 300002, 300003, 300004, 300005, 300006, 300007] [[(0, 25)], []] 71 [5, 6]),
 zK 8 .geq 3 7 0,
 zM 4 8]
def p55c5 := sq (rg p55o1) (sq (rg p55o2) (rt))
def pc55_r : List PRes := [PRes.tmp 4 []]
def pc55 : PFunc := ⟨9, pc55_r, p55c5, false⟩
def pc55_a : Ann := {
 kr := fun _ => none
 ka := fun _ => 0
 kh := fun _ => none
 gf := fun d f => match d, f with
  | some 7, 71 => some (false, false, [300000, 300001, 300002, 300003, 300004, 300005, 300006, 300007])
  | _, _ => none
 ow := ow0 }
theorem pc55_ok : compFn Try.prog pc55_a Try.f55 = some pc55 := by kernel_rfl
def p44o1 := [zo 3 (.box 32 1 [(5, 1000000058, 25)]),
 zM 4 kf]
def p44o2 := [za 8 3 3 0 (.faddr 1 3),
 za 9 8 3 1 (.load false 1 8),
 za 10 0 1000000 0 (.mv 0),
 za 11 10 1000000 0 (.nilc 10),
 za 12 11 1000000 0 (.faddr 0 11),
 za 13 12 1000000 0 (.load false 1 12),
 zj 14 9 13 (.prim (.bin .neq 3 false false) [9, 13]),
 zi 15 14 (.mv 14),
 ⟨some 16, .faddr 2 3, some (15, false), [(3, .at_ 3 0)]⟩,
 ⟨some 17, .load false 1 16, some (15, false), [(16, .at_ 3 2)]⟩,
 ⟨some 18, .mv 0, some (15, false), [(0, .at_ 1000000 0)]⟩,
 ⟨some 19, .nilc 18, some (15, false), [(18, .at_ 1000000 0)]⟩,
 ⟨some 20, .faddr 1 19, some (15, false), [(19, .at_ 1000000 0)]⟩,
 ⟨some 21, .load false 1 20, some (15, false), [(20, .at_ 1000000 1)]⟩,
 ⟨some 22, .prim (.bin .neq 3 false false) [17, 21], some (15, false), [(17, .imm), (21, .imm)]⟩,
 zj 23 15 22 (.pick 15 kt 22),
 zi 24 23 (.mv 23),
 ⟨some 25, .faddr 0 3, some (24, false), [(3, .at_ 3 0)]⟩,
 ⟨some 26, .load false 1 25, some (24, false), [(25, .at_ 3 0)]⟩,
 ⟨some 27, .prim (.bin .lss 3 false true) [26, kk 0], some (24, false), [(26, .imm)]⟩,
 zj 28 24 27 (.pick 24 kt 27),
 zi 29 28 (.mv 28),
 ⟨some 30, .faddr 0 3, some (29, false), [(3, .at_ 3 0)]⟩,
 ⟨some 31, .load false 1 30, some (29, false), [(30, .at_ 3 0)]⟩,
 ⟨some 32, .mv 0, some (29, false), [(0, .at_ 1000000 0)]⟩,
 ⟨some 33, .nilc 32, some (29, false), [(32, .at_ 1000000 0)]⟩,
 ⟨some 34, .faddr 2 33, some (29, false), [(33, .at_ 1000000 0)]⟩,
 ⟨some 35, .load false 1 34, some (29, false), [(34, .at_ 1000000 2)]⟩,
 ⟨some 36, .prim (.bin .geq 3 false false) [31, 35], some (29, false), [(31, .imm), (35, .imm)]⟩,
 zj 37 29 36 (.pick 29 kt 36),
 zi 7 37 (.mv 37)]
def p44o3 := [zM 4 kf]
def p44o6 := [za 39 3 3 0 (.faddr 3 3),
 za 40 39 3 3 (.load false 1 39),
 zi 41 40 (.prim (.bin .lss 3 false true) [40, kk 0]),
 zi 42 41 (.mv 41),
 ⟨some 43, .faddr 3 3, some (42, false), [(3, .at_ 3 0)]⟩,
 ⟨some 44, .load false 1 43, some (42, false), [(43, .at_ 3 3)]⟩,
 ⟨some 45, .faddr 4 3, some (42, false), [(3, .at_ 3 0)]⟩,
 ⟨some 46, .load false 1 45, some (42, false), [(45, .at_ 3 4)]⟩,
 ⟨some 47, .prim (.bin .gtr 3 false false) [44, 46], some (42, false), [(44, .imm), (46, .imm)]⟩,
 zj 48 42 47 (.pick 42 kt 47),
 zi 49 48 (.mv 48),
 ⟨some 50, .mv 0, some (49, false), [(0, .at_ 1000000 0)]⟩,
 ⟨some 51, .nilc 50, some (49, false), [(50, .at_ 1000000 0)]⟩,
 ⟨some 52, .faddr 4 51, some (49, false), [(51, .at_ 1000000 0)]⟩,
 ⟨some 53, .load false 1 52, some (49, false), [(52, .at_ 1000000 4)]⟩,
 ⟨some 54, .prim (.bin .neq 3 false true) [53, .const (.int .i64 (-1))], some (49, false), [(53, .imm)]⟩,
 ⟨some 55, .mv 54, some (49, false), [(54, .imm)]⟩,
 ⟨some 56, .faddr 3 3, some (55, true), [(3, .at_ 3 0)]⟩,
 ⟨some 57, .load false 1 56, some (55, true), [(56, .at_ 3 3)]⟩,
 ⟨some 58, .mv 0, some (55, true), [(0, .at_ 1000000 0)]⟩,
 ⟨some 59, .nilc 58, some (55, true), [(58, .at_ 1000000 0)]⟩,
 ⟨some 60, .faddr 4 59, some (55, true), [(59, .at_ 1000000 0)]⟩,
 ⟨some 61, .load false 1 60, some (55, true), [(60, .at_ 1000000 4)]⟩,
 ⟨some 62, .prim (.bin .neq 3 false false) [57, 61], some (55, true), [(57, .imm), (61, .imm)]⟩,
 ⟨some 63, .pick 55 62 kf, some (49, false), [(55, .imm), (62, .imm)]⟩,
 zj 64 49 63 (.pick 49 kt 63),
 zi 38 64 (.mv 64)]
def p44o7 := [zM 4 kf]
def p44o10 := [za 66 3 3 0 (.faddr 4 3),
 za 67 66 3 4 (.load false 1 66),
 za 68 0 1000000 0 (.mv 0),
 za 69 68 1000000 0 (.nilc 68),
 za 70 69 1000000 0 (.faddr 3 69),
 za 71 70 1000000 3 (.load false 1 70),
 zj 72 67 71 (.prim (.bin .leq 3 false false) [67, 71]),
 zi 73 72 (.mv 72),
 ⟨some 74, .faddr 4 3, some (73, false), [(3, .at_ 3 0)]⟩,
 ⟨some 75, .load false 1 74, some (73, false), [(74, .at_ 3 4)]⟩,
 ⟨some 76, .faddr 3 3, some (73, false), [(3, .at_ 3 0)]⟩,
 ⟨some 77, .load false 1 76, some (73, false), [(76, .at_ 3 3)]⟩,
 ⟨some 78, .mv 0, some (73, false), [(0, .at_ 1000000 0)]⟩,
 ⟨some 79, .nilc 78, some (73, false), [(78, .at_ 1000000 0)]⟩,
 ⟨some 80, .faddr 3 79, some (73, false), [(79, .at_ 1000000 0)]⟩,
 ⟨some 81, .load false 1 80, some (73, false), [(80, .at_ 1000000 3)]⟩,
 ⟨some 82, .prim .max [77, 81], some (73, false), [(77, .imm), (81, .imm)]⟩,
 ⟨some 83, .prim (.bin .sub 3 false false) [75, 82], some (73, false), [(75, .imm), (82, .imm)]⟩,
 ⟨some 84, .prim (.bin .gtr 3 false true) [83, kk 36], some (73, false), [(83, .imm)]⟩,
 zj 85 73 84 (.pick 73 kt 84),
 zi 65 85 (.mv 85)]
def p44o11 := [zM 4 kf]
def p44c16 := sq (.region (some ([0, 3], [3, 1000000, 1000001, 1000002], [])) true p44o10) (.cond 65 (sq (rg p44o11) (rt)) (.skip))
def p44o22 := [za 87 0 1000000 0 (.mv 0),
 za 88 87 1000000 0 (.nilc 87),
 za 89 88 1000000 0 (.faddr 7 88),
 za 90 89 1000000 7 (.load false 1 89),
 za 91 3 3 0 (.faddr 0 3),
 za 92 91 3 0 (.load false 1 91),
 za 93 3 3 0 (.faddr 4 3),
 za 94 93 3 4 (.load false 1 93),
 zj 95 92 94 (.build (.agg #[ki, ki]) [(0, 1, .tmp 92), (1, 1, .tmp 94)]),
 ⟨some 96, .mlook true 97 [(0, 25)] 90 95, none, [(90, .obj 1000002), (95, .imm)]⟩,
 zM 86 96,
 zX 97 86 0,
 zX 98 86 1,
 zi 5 97 (.mv 97),
 zi 6 98 (.mv 98)]
def p44o23 := [zM 99 6]
def p44o24 := [zM 4 kf]
def p44o31 := [zG 100 5 3,
 zL 101 100,
 zo 102 (.gcall false false [300000, 300001, 300002, 300003, 300004, 300005, 300006, 300007] [[(0, 25)], []] 55 [101, .func 56]),
 zo 103 (.prim (.un .not) [102]),
 zM 4 103]
def p44c34 := sq (sq (rh p44o22) (sq (rg p44o23) (.cond 99 (sq (rg p44o24) (rt)) (.skip)))) (sq (rg p44o31) (rt))
def p44c36 := sq (rg p44o1) (sq (.block 0 (sq (rh p44o2) (.cond 7 (sq (rg p44o3) (rt)) (sq (rh p44o6) (.cond 38 (sq (rg p44o7) (rt)) p44c16))))) p44c34)
def pc44_r : List PRes := [PRes.tmp 4 []]
def pc44 : PFunc := ⟨104, pc44_r, p44c36, false⟩
def pc44_a : Ann := {
 kr := fun
  | 5 => some ([0, 3], [3, 1000000, 1000001, 1000002], [])
  | _ => none
 ka := fun _ => 0
 kh := hg [([0, 10, 11, 12, 18, 19, 32, 33, 50, 51, 58, 59, 68, 69, 78, 79, 87, 88], .at_ 1000000 0), ([3, 25, 30, 91], .at_ 3 0), ([8], .at_ 3 1), ([9, 13, 14, 15, 17, 21, 22, 23, 24, 26, 27, 28, 29, 31, 35, 36, 37, 40, 41, 42, 44, 46, 47, 48, 49, 53, 54, 55, 57, 61, 62, 63, 64, 67, 71, 72, 73, 75, 77, 81, 82, 83, 84, 85, 92, 94, 95, 97, 98], .imm), ([16], .at_ 3 2), ([20], .at_ 1000000 1), ([34], .at_ 1000000 2), ([39, 43, 56, 76], .at_ 3 3), ([45, 66, 74, 93], .at_ 3 4), ([52, 60], .at_ 1000000 4), ([70, 80], .at_ 1000000 3), ([89], .at_ 1000000 7), ([90], .obj 1000002)]
 gf := fun d f => match d, f with
  | some 102, 55 => some (false, false, [300000, 300001, 300002, 300003, 300004, 300005, 300006, 300007])
  | _, _ => none
 ow := ow0 }
theorem pc44_ok : compFn Try.prog pc44_a Try.f44 = some pc44 := by kernel_rfl
def p92o1 := [zM 2 kf]
def p92o2 := [zM 3 0,
 zM 4 0,
 zB 5 .neq 3 3 4,
 zM 2 5]
def p92c5 := sq (rg p92o1) (sq (rg p92o2) (rt))
def pc92_r : List PRes := [PRes.tmp 2 []]
def pc92 : PFunc := ⟨6, pc92_r, p92c5, false⟩
def pc92_a : Ann := {
 kr := fun _ => none
 ka := fun _ => 0
 kh := fun _ => none
 ow := ow0 }
theorem pc92_ok : compFn Try.prog pc92_a Try.f92 = some pc92 := by kernel_rfl
def p83o1 := [zM 4 (kk 0)]
def p83o2 := [zM 7 0,
 zo 8 (.call true [[]] 92 [7]),
 zM 5 8]
def p83o3 := [zM 9 1,
 zo 10 (.call true [[]] 92 [9]),
 zM 6 10]
def p83o4 := [zM 11 5]
def p83o5 := [zM 12 6]
def p83o6 := [zM 4 (kk 0)]
def p83o12 := [zM 4 (kk (-1))]
def p83o19 := [zM 13 6]
def p83o20 := [zM 4 (kk 1)]
def p83o26 := [zM 14 0,
 zM 15 1,
 zB 16 .lss 3 14 15]
def p83o27 := [zM 4 (kk (-1))]
def p83o33 := [zM 17 0,
 zM 18 1,
 zB 19 .gtr 3 17 18]
def p83o34 := [zM 4 (kk 1)]
def p83o40 := [zM 4 (kk 0)]
def p83c49 := sq (rg p83o1) (sq (rg p83o2) (sq (rg p83o3) (sq (sq (rg p83o4) (.cond 11 (sq (sq (rg p83o5) (.cond 12 (sq (rg p83o6) (rt)) (.skip))) (sq (rg p83o12) (rt))) (.skip))) (sq (sq (rg p83o19) (.cond 13 (sq (rg p83o20) (rt)) (.skip))) (sq (sq (rg p83o26) (.cond 16 (sq (rg p83o27) (rt)) (.skip))) (sq (sq (rg p83o33) (.cond 19 (sq (rg p83o34) (rt)) (.skip))) (sq (rg p83o40) (rt))))))))
def pc83_r : List PRes := [PRes.tmp 4 []]
def pc83 : PFunc := ⟨20, pc83_r, p83c49, false⟩
def pc83_a : Ann := {
 kr := fun _ => none
 ka := fun _ => 0
 kh := fun _ => none
 ow := ow0 }
theorem pc83_ok : compFn Try.prog pc83_a Try.f83 = some pc83 := by kernel_rfl
def p82o1 := [zo 2 (.box 54 0 []),
 zM 4 (kk 0)]
def p82o2 := [zG 5 0 2,
 zL 6 5,
 zM 7 1,
 zo 8 (.call true [[], []] 83 [6, 7]),
 zM 4 8]
def p82c5 := sq (rg p82o1) (sq (rg p82o2) (rt))
def pc82_r : List PRes := [PRes.tmp 4 []]
def pc82 : PFunc := ⟨9, pc82_r, p82c5, false⟩
def pc82_a : Ann := {
 kr := fun _ => none
 ka := fun _ => 0
 kh := fun _ => none
 ow := ow0 }
theorem pc82_ok : compFn Try.prog pc82_a Try.f82 = some pc82 := by kernel_rfl
def p81o1 := [zM 6 (kk 0),
 zM 7 kf]
def p81o2 := [zM 12 0,
 zo 13 (.lenS 12),
 zM 8 13]
def p81o3 := [zM 14 8,
 zM 9 (kk 0),
 zM 10 14]
def p81o4 := [zM 15 9,
 zM 16 10,
 zB 17 .lss 3 15 16]
def p81o9 := [zM 18 9,
 zM 19 10,
 zB 20 .add 3 18 19,
 zo 21 (.prim (.conv 3 122) [20]),
 zo 22 (.prim (.bin .shr 122 false true) [21, .const (.int .u64 1)]),
 zo 23 (.prim (.conv 122 3) [22]),
 zM 11 23]
def p81o10 := [zM 24 2,
 zM 25 0,
 zM 26 11,
 zo 27 (.iaddrS 11 25 26),
 zo 28 (.load true 11 27),
 zM 29 1,
 zo 30 (.callv true [[], []] 24 [28, 29]),
 zK 31 .lss 3 30 0]
def p81o11 := [zM 32 11,
 zK 33 .add 3 32 1,
 zM 9 33]
def p81o12 := [zM 34 11,
 zM 10 34]
def p81c17 := sq (sq (.region (some ([0, 1, 2, 8, 9, 10], [], [])) false p81o4) (.cond 17 (.skip) (.exit 0))) (.block 1 (sq (rg p81o9) (sq (rg p81o10) (.cond 31 (rg p81o11) (rg p81o12)))))
def p81o20 := [zM 35 9,
 zM 36 9,
 zM 37 8,
 zB 38 .lss 3 36 37,
 zM 39 38,
 zt 40 39 (.mv 2),
 zt 41 39 (.mv 0),
 zt 42 39 (.mv 9),
 zt 43 39 (.iaddrS 11 41 42),
 zt 44 39 (.load true 11 43),
 zt 45 39 (.mv 1),
 zt 46 39 (.callv true [[], []] 40 [44, 45]),
 zt 47 39 (.prim (.bin .eql 3 false true) [46, kk 0]),
 zo 48 (.pick 39 47 kf),
 zM 6 35,
 zM 7 48]
def p81c22 := sq (rg p81o20) (rt)
def p81c26 := sq (rg p81o1) (sq (rg p81o2) (sq (rg p81o3) (sq (.block 0 (.loop p81c17)) p81c22)))
def pc81_r : List PRes := [PRes.tmp 6 [], PRes.tmp 7 []]
def pc81 : PFunc := ⟨49, pc81_r, p81c26, false⟩
def pc81_a : Ann := {
 kr := fun
  | 3 => some ([0, 1, 2, 8, 9, 10], [], [])
  | _ => none
 ka := fun _ => 0
 kh := fun _ => none
 ow := ow0 }
theorem pc81_ok : compFn Try.prog pc81_a Try.f81 = some pc81 := by kernel_rfl
def p85o1 := [zo 2 (.box 54 0 []),
 zo 3 (.box 56 1 []),
 zo 4 (.alloc 54 (.agg #[ki, ki, ki, ki, ks, ki, ks, ki, ks, ki, ks]) [])]
def p85o2 := [zG 7 1 3,
 zL 8 7,
 zo 9 (.prim (.bin .and 5 false true) [8, .const (.int .u8 1)]),
 zo 10 (.prim (.bin .neq 5 false true) [9, .const (.int .u8 0)])]
def p85o3 := [zG 11 2 3,
 zo 12 (.load true 2 11),
 zG 13 1 2,
 zs (.store 2 13 12)]
def p85o7 := [zG 14 4 3,
 zo 15 (.load true 8 14),
 zM 16 (kk 0)]
def p85o8 := [zK 17 .lss 3 16 4]
def p85o12 := [zM 18 16,
 zo 19 (.idx true 2 4 15 16),
 zo 6 (.alloc 51 (.agg #[ki, ks]) []),
 zM 5 18,
 zs (.store 2 6 19)]
def p85o13 := [zG 20 1 3,
 zL 21 20,
 zM 22 5,
 zo 23 (.call true [[], []] 80 [21, 22])]
def p85o14 := [zM 24 5,
 zo 25 (.load true 2 6),
 zG 26 3 2,
 zo 27 (.iaddrA 4 2 26 24),
 zs (.store 2 27 25)]
def p85o20 := [zK 28 .add 3 16 1,
 zM 16 28]
def p85c23 := sq (.region (some ([2, 3, 4, 15, 16], [2, 3, 4, 6], [])) false p85o8) (sq (.cond 17 (.skip) (.exit 0)) (sq (.block 1 (sq (rg p85o12) (sq (rg p85o13) (.cond 23 (rg p85o14) (.skip))))) (rg p85o20)))
def p85o27 := [zo 29 (.load true 11 2),
 zs (.store 11 4 29)]
def p85c29 := sq (rg p85o27) (rt)
def p85c30 := sq (sq (.region (some ([2, 3, 4], [2, 3, 4], [])) false p85o7) (.block 0 (.loop p85c23))) p85c29
def p85c32 := sq (rg p85o1) (sq (sq (rg p85o2) (.cond 10 (rg p85o3) (.skip))) p85c30)
def pc85_r : List PRes := [PRes.cell 4 true 11 []]
def pc85 : PFunc := ⟨30, pc85_r, p85c32, false⟩
def pc85_a : Ann := {
 kr := fun
  | 3 => some ([2, 3, 4], [2, 3, 4], [])
  | 4 => some ([2, 3, 4, 15, 16], [2, 3, 4, 6], [])
  | _ => none
 ka := fun _ => 0
 kh := fun _ => none
 ow := ow0 }
theorem pc85_ok : compFn Try.prog pc85_a Try.f85 = some pc85 := by kernel_rfl
def p74o1 := [zo 3 (.box 58 1 []),
 zo 4 (.mv (.const (kl))),
 zM 5 kf]
def p74o2 := [zM 10 0,
 zG 11 1 3,
 zL 12 11,
 zo 13 (.gcall false false [300000, 300001, 300002, 300003, 300004, 300005, 300006, 300007] [[(0, 11)], [], []] 81 [10, 12, .func 82]),
 zM 9 13,
 zX 14 9 0,
 zX 15 9 1,
 zM 6 14,
 zM 7 15]
def p74o3 := [zo 16 (.load true 25 3),
 zo 17 (.call true [[]] 57 [16]),
 zo 18 (.prim (.un .not) [17]),
 zM 19 18,
 zf 20 19 (.mv 7),
 zf 21 19 (.faddr 0 3),
 zf 22 19 (.load false 1 21),
 zf 23 19 (.prim (.bin .eql 3 false true) [22, kk 1]),
 zf 24 19 (.prim (.bin .eql 4 false false) [20, 23]),
 zo 25 (.pick 19 kt 24)]
def p74o4 := [zM 26 0,
 zo 27 (.gcall false false [300000, 300001, 300002, 300003, 300004, 300005, 300006, 300007] [[(0, 11)]] 50 [26]),
 zM 4 27,
 zM 5 kf]
def p74o10 := [zM 28 0,
 zo 29 (.gcall false false [300000, 300001, 300002, 300003, 300004, 300005, 300006, 300007] [[(0, 11)]] 50 [28]),
 zM 8 29]
def p74o11 := [zG 30 0 3,
 zL 31 30]
def p74o12 := [zK 38 .eql 3 31 1,
 zM 37 38]
def p74o13 := [zM 39 8,
 zM 40 6,
 zG 41 2 3,
 zo 42 (.load true 11 41),
 zo 43 (.bptrs 11 [42]),
 zo 44 (.gcall true false [43, 300000, 300001, 300002, 300003, 300004, 300005, 300006, 300007] [[(0, 11)], [], [(0, 11)]] 84 [39, 40, 43]),
 zM 8 44]
def p74o14 := [zK 46 .eql 3 31 2,
 zM 45 46]
def p74o15 : List POper := [⟨some 47, .mv 8, none, [(8, .obj 300000)]⟩,
 zi 48 6 (.mv 6),
 ⟨some 49, .mv 8, none, [(8, .obj 300000)]⟩,
 zi 50 6 (.mv 6),
 ⟨some 51, .iaddrS 11 49 50, none, [(49, .obj 300000), (50, .imm)]⟩,
 ⟨some 52, .load true 11 51, none, [(51, .obj 300000)]⟩,
 za 53 3 3 0 (.faddr 13 3),
 za 54 53 3 13 (.load true 12 53),
 zj 55 52 54 (.call false [[], []] 85 [52, 54]),
 ⟨some 56, .iaddrS 11 47 48, none, [(47, .obj 300000), (48, .imm)]⟩,
 zn (.store 11 56 55) [(56, .obj 300000), (55, .imm)]]
def p74o16 := [zM 32 8,
 zM 33 6,
 zM 34 6,
 zK 35 .add 3 34 1,
 zo 36 (.gcall true false [300000, 300001, 300002, 300003, 300004, 300005, 300006, 300007] [[(0, 11)], [], []] 86 [32, 33, 35]),
 zM 8 36]
def p74o23 := [zM 57 8,
 zM 4 57,
 zM 5 kt]
def p74c30 := sq (rg p74o1) (sq (rg p74o2) (sq (sq (rg p74o3) (.cond 25 (sq (rg p74o4) (rt)) (.skip))) (sq (rg p74o10) (sq (sq (rg p74o11) (.block 0 (sq (rg p74o12) (.cond 37 (rg p74o13) (sq (rg p74o14) (.cond 45 (rh p74o15) (rg p74o16))))))) (sq (rg p74o23) (rt))))))
def pc74_r : List PRes := [PRes.tmp 4 [(0, 11)], PRes.tmp 5 []]
def pc74 : PFunc := ⟨58, pc74_r, p74c30, false⟩
def pc74_a : Ann := {
 kr := fun _ => none
 ka := fun _ => 0
 kh := hg [([3], .at_ 3 0), ([6, 48, 50, 52, 54, 55], .imm), ([8, 47, 49, 51, 56], .obj 300000), ([53], .at_ 3 13)]
 gf := fun d f => match d, f with
  | some 13, 81 => some (false, false, [300000, 300001, 300002, 300003, 300004, 300005, 300006, 300007])
  | some 27, 50 => some (false, false, [300000, 300001, 300002, 300003, 300004, 300005, 300006, 300007])
  | some 29, 50 => some (false, false, [300000, 300001, 300002, 300003, 300004, 300005, 300006, 300007])
  | some 36, 86 => some (true, false, [300000, 300001, 300002, 300003, 300004, 300005, 300006, 300007])
  | some 44, 84 => some (true, false, [43, 300000, 300001, 300002, 300003, 300004, 300005, 300006, 300007])
  | _, _ => none
 ow := ow0
 bv := fun d => match d with
  | some 43 => true
  | _ => false }
theorem pc74_ok : compFn Try.prog pc74_a Try.f74 = some pc74 := by kernel_rfl
def p58o1 := [zo 4 (.mv (.const (kl))),
 zM 5 kf]
def p58o2 := [zM 10 0,
 zo 11 (.gcall false true [399990, 399991] [[(0, 11)]] 50 [10]),
 zM 6 11,
 zM 7 kt]
def p58o4 := [zM 12 1,
 zo 13 (.lenS 12),
 zM 14 (kk 0)]
def p58o5 := [zB 15 .lss 3 14 13]
def p58o9 := [zo 16 (.iaddrS 25 12 14),
 zo 17 (.load true 25 16),
 zo 9 (.alloc 58 (.agg #[ki, ki, ki, ki, ki, ki, ks, ki, ks, ki, ks, ki, ks, ki, .int .u8 0, ki, ki, ki, ks, ki, ks, ki, ks, ki, ks]) []),
 zs (.store 25 9 17)]
def p58o10 := [zM 19 6,
 zo 20 (.load true 25 9),
 zo 21 (.call true [[(0, 11)], []] 74 [19, 20]),
 zM 18 21,
 zX 22 18 0,
 zX 23 18 1,
 zM 6 22,
 zM 7 23]
def p58o11 := [zM 24 7,
 zo 25 (.prim (.un .not) [24])]
def p58o19 := [zK 26 .add 3 14 1,
 zM 14 26]
def p58c22 := sq (.region (some ([0, 6, 7, 12, 13, 14], [9], [])) false p58o5) (sq (.cond 15 (.skip) (.exit 0)) (sq (.block 1 (sq (rg p58o9) (sq (rg p58o10) (sq (rg p58o11) (.cond 25 (.exit 0) (.skip)))))) (rg p58o19)))
def p58o26 := [zM 27 7,
 zo 28 (.prim (.un .not) [27])]
def p58o27 := [zM 29 0,
 zo 30 (.gcall false true [399990, 399991] [[(0, 11)]] 50 [29]),
 zM 4 30,
 zM 5 kf]
def p58o33 := [zM 31 6,
 zM 4 31,
 zM 5 kt]
def p58c36 := sq (sq (.region (some ([0, 6, 7], [9], [])) false p58o26) (.cond 28 (sq (rg p58o27) (rt)) (.skip))) (sq (rg p58o33) (rt))
def p58c41 := sq (rg p58o1) (.scope (sq (rg p58o2) (sq (.label) (sq (sq (rg p58o4) (.block 0 (.loop p58c22))) p58c36))))
def pc58_r : List PRes := [PRes.tmp 4 [(0, 11)], PRes.tmp 5 []]
def pc58 : PFunc := ⟨32, pc58_r, p58c41, false⟩
def pc58_a : Ann := {
 kr := fun
  | 3 => some ([0, 6, 7, 12, 13, 14], [9], [])
  | 8 => some ([0, 6, 7], [9], [])
  | _ => none
 ka := fun _ => 0
 kh := fun _ => none
 gf := fun d f => match d, f with
  | some 11, 50 => some (false, true, [399990, 399991])
  | some 30, 50 => some (false, true, [399990, 399991])
  | _, _ => none
 ow := ow0 }
theorem pc58_ok : compFn Try.prog pc58_a Try.f58 = some pc58 := by kernel_rfl
def p46o1 := [zM 7 0,
 zo 8 (.nilc 7),
 zG 9 5 8,
 zL 10 9,
 zM 11 1,
 zo 12 (.call true [[(0, 11)], [(0, 25)]] 58 [10, 11]),
 zM 6 12,
 zX 13 6 0,
 zX 14 6 1,
 zM 4 13,
 zM 5 14]
def p46o2 := [zM 15 5,
 zo 16 (.prim (.un .not) [15])]
def p46o7 := [zM 17 0,
 zM 18 4,
 zo 19 (.nilc 17),
 zG 20 5 19,
 zs (.store 1 20 18)]
def p46o8 := [zM 21 0,
 zM 22 0,
 zo 23 (.nilc 22),
 zG 24 6 23,
 zL 25 24,
 zM 26 1,
 zo 27 (.app 100025 58 25 264 25 26),
 zo 28 (.nilc 21),
 zG 29 6 28,
 zs (.store 1 29 27)]
def p46c11 := sq (rg p46o1) (sq (sq (rg p46o2) (.cond 16 (rt) (.skip))) (sq (rg p46o7) (rg p46o8)))
def pc46_r : List PRes := []
def pc46 : PFunc := ⟨30, pc46_r, p46c11, false⟩
def pc46_a : Ann := {
 kr := fun _ => none
 ka := fun
  | 27 => 100025
  | _ => 0
 kh := fun _ => none
 ow := ow0 }
theorem pc46_ok : compFn Try.prog pc46_a Try.f46 = some pc46 := by kernel_rfl
def p15o1 := [zo 3 (.box 32 1 [(5, 1000000058, 25)]),
 zM 4 kf]
def p15o2 := [zM 10 0,
 zo 11 (.load true 6 3),
 zo 12 (.gcall false false [1000000, 1000001, 1000002] [[], [(5, 25)]] 44 [10, 11]),
 zo 13 (.prim (.un .not) [12])]
def p15o3 := [zM 4 kf]
def p15o9 := [zM 14 0,
 zG 15 3 3,
 zL 16 15,
 zo 17 (.nilc 14),
 zG 18 4 17,
 zs (.store 1 18 16)]
def p15o10 := [za 19 0 1000000 0 (.mv 0),
 za 20 19 1000000 0 (.nilc 19),
 za 21 20 1000000 0 (.faddr 7 20),
 za 22 21 1000000 7 (.load false 1 21),
 za 23 3 3 0 (.faddr 0 3),
 za 24 23 3 0 (.load false 1 23),
 za 25 3 3 0 (.faddr 4 3),
 za 26 25 3 4 (.load false 1 25),
 zj 27 24 26 (.build (.agg #[ki, ki]) [(0, 1, .tmp 24), (1, 1, .tmp 26)]),
 za 28 3 3 0 (.faddr 5 3),
 za 29 28 3 5 (.load false 1 28),
 zi 30 29 (.gcall false true [399990, 399991] [[(0, 25)]] 45 [29]),
 zn (.mset 97 22 27 30) [(22, .obj 1000002), (27, .imm), (30, .imm)]]
def p15o12 := [za 31 0 1000000 0 (.mv 0),
 za 32 31 1000000 0 (.nilc 31),
 za 33 32 1000000 0 (.faddr 3 32),
 za 34 33 1000000 3 (.load false 1 33),
 zi 35 34 (.prim (.bin .add 3 false true) [34, kk 1]),
 za 36 0 1000000 0 (.mv 0),
 za 37 36 1000000 0 (.nilc 36),
 za 38 37 1000000 0 (.faddr 4 37),
 za 39 38 1000000 4 (.load false 1 38),
 zj 40 35 39 (.prim .max [35, 39]),
 zi 5 40 (.mv 40)]
def p15o13 := [zM 41 0,
 zo 42 (.nilc 41),
 zG 43 2 42,
 zL 44 43,
 zM 45 (kk 0)]
def p15o14 := [zB 46 .lss 3 45 44]
def p15o18 := [zM 47 45,
 zM 6 47]
def p15o19 := [zM 49 0,
 zo 50 (.nilc 49),
 zG 51 7 50,
 zL 52 51,
 zM 53 6,
 zM 54 5,
 zo 55 (.build (.agg #[ki, ki]) [(0, 1, .tmp 53), (1, 1, .tmp 54)]),
 zo 56 (.mlook true 97 [(0, 25)] 52 55),
 zM 48 56,
 zX 57 48 0,
 zX 58 48 1,
 zM 7 57,
 zM 8 58]
def p15o20 := [zM 59 8,
 zo 60 (.prim (.un .not) [59])]
def p15o28 := [zK 61 .add 3 45 1,
 zM 45 61]
def p15c31 := sq (.region (some ([0, 5, 44, 45], [1000000, 1000001, 1000002], [])) false p15o14) (sq (.cond 46 (.skip) (.exit 2)) (sq (.block 3 (sq (rg p15o18) (sq (rg p15o19) (sq (rg p15o20) (.cond 60 (.exit 0) (.skip)))))) (rg p15o28)))
def p15o35 := [zM 62 0,
 zo 63 (.nilc 62),
 zG 64 2 63,
 zL 65 64,
 zM 66 (kk 0)]
def p15o36 := [zB 67 .lss 3 66 65]
def p15o40 := [zM 68 66,
 zM 9 68]
def p15o41 := [zM 69 0,
 zM 70 0,
 zo 71 (.nilc 70),
 zG 72 7 71,
 zL 73 72,
 zM 74 9,
 zM 75 5,
 zo 76 (.build (.agg #[ki, ki]) [(0, 1, .tmp 74), (1, 1, .tmp 75)]),
 zo 77 (.mlook false 97 [(0, 25)] 73 76),
 zo 78 (.gcall false false [1000000, 1000001, 1000002] [[], [(0, 25)]] 46 [69, 77])]
def p15o42 := [zM 79 0,
 zo 80 (.nilc 79),
 zG 81 7 80,
 zL 82 81,
 zM 83 9,
 zM 84 5,
 zo 85 (.build (.agg #[ki, ki]) [(0, 1, .tmp 83), (1, 1, .tmp 84)]),
 zs (.mdel 97 82 85)]
def p15o46 := [zK 86 .add 3 66 1,
 zM 66 86]
def p15c49 := sq (.region (some ([0, 5, 65, 66], [1000000, 1000001, 1000002], [])) false p15o36) (sq (.cond 67 (.skip) (.exit 4)) (sq (.block 5 (sq (rg p15o40) (sq (rg p15o41) (rg p15o42)))) (rg p15o46)))
def p15o53 := [zM 87 0,
 zM 88 5,
 zo 89 (.nilc 87),
 zG 90 3 89,
 zs (.store 1 90 88)]
def p15c53 := rg p15o53
def p15c54 := sq (sq (rg p15o35) (.block 4 (.loop p15c49))) p15c53
def p15c57 : PCode := .block 1 (sq (.region (some ([0], [3, 1000000, 1000001, 1000002], [])) true p15o12) (sq (sq (rg p15o13) (.block 2 (.loop p15c31))) p15c54))
def p15o60 := [zM 4 kt]
def p15c62 := sq (rg p15o60) (rt)
def p15c69 := sq (rg p15o1) (.scope (sq (sq (rg p15o2) (.cond 13 (sq (rg p15o3) (rt)) (.skip))) (sq (rg p15o9) (sq (rh p15o10) (sq (.label) (sq (.block 0 (.loop p15c57)) p15c62))))))
def pc15_r : List PRes := [PRes.tmp 4 []]
def pc15 : PFunc := ⟨91, pc15_r, p15c69, false⟩
def pc15_a : Ann := {
 kr := fun
  | 5 => some ([0], [3, 1000000, 1000001, 1000002], [])
  | 7 => some ([0, 5, 44, 45], [1000000, 1000001, 1000002], [])
  | 13 => some ([0, 5, 65, 66], [1000000, 1000001, 1000002], [])
  | _ => none
 ka := fun _ => 0
 kh := hg [([0, 19, 20, 31, 32, 36, 37], .at_ 1000000 0), ([3, 23], .at_ 3 0), ([21], .at_ 1000000 7), ([22], .obj 1000002), ([24, 26, 27, 29, 30, 34, 35, 39, 40], .imm), ([25], .at_ 3 4), ([28], .at_ 3 5), ([33], .at_ 1000000 3), ([38], .at_ 1000000 4)]
 gf := fun d f => match d, f with
  | some 12, 44 => some (false, false, [1000000, 1000001, 1000002])
  | some 30, 45 => some (false, true, [399990, 399991])
  | some 78, 46 => some (false, false, [1000000, 1000001, 1000002])
  | _, _ => none
 ow := ow0 }
theorem pc15_ok : compFn Try.prog pc15_a Try.f15 = some pc15 := by kernel_rfl
def p17o1 := [zM 2 (kk 0)]
def p17o2 := [zM 3 0,
 zo 4 (.nilc 3),
 zG 5 3 4,
 zL 6 5,
 zM 2 6]
def p17c5 := sq (rg p17o1) (sq (rg p17o2) (rt))
def pc17_r : List PRes := [PRes.tmp 2 []]
def pc17 : PFunc := ⟨7, pc17_r, p17c5, false⟩
def pc17_a : Ann := {
 kr := fun _ => none
 ka := fun _ => 0
 kh := fun _ => none
 ow := ow0 }
theorem pc17_ok : compFn Try.prog pc17_a Try.f17 = some pc17 := by kernel_rfl
def p18o1 := [zM 2 (kk 0)]
def p18o2 := [zM 3 0,
 zo 4 (.nilc 3),
 zG 5 7 4,
 zL 6 5,
 zo 7 (.mlen 6),
 zM 2 7]
def p18c5 := sq (rg p18o1) (sq (rg p18o2) (rt))
def pc18_r : List PRes := [PRes.tmp 2 []]
def pc18 : PFunc := ⟨8, pc18_r, p18c5, false⟩
def pc18_a : Ann := {
 kr := fun _ => none
 ka := fun _ => 0
 kh := fun _ => none
 ow := ow0 }
theorem pc18_ok : compFn Try.prog pc18_a Try.f18 = some pc18 := by kernel_rfl
def p20o1 := [zo 2 (.mv (.const (kl)))]
def p20o2 := [zM 3 0,
 zo 4 (.nilc 3),
 zG 5 5 4,
 zL 6 5,
 zo 7 (.gcall false true [399990, 399991] [[(0, 11)]] 50 [6]),
 zM 2 7]
def p20c5 := sq (rg p20o1) (sq (rg p20o2) (rt))
def pc20_r : List PRes := [PRes.tmp 2 [(0, 11)]]
def pc20 : PFunc := ⟨8, pc20_r, p20c5, false⟩
def pc20_a : Ann := {
 kr := fun _ => none
 ka := fun _ => 0
 kh := fun _ => none
 gf := fun d f => match d, f with
  | some 7, 50 => some (false, true, [399990, 399991])
  | _, _ => none
 ow := ow0 }
theorem pc20_ok : compFn Try.prog pc20_a Try.f20 = some pc20 := by kernel_rfl
def p22o1 := [zo 2 (.mv (.const (kl)))]
def p22o2 := [zM 3 0,
 zo 4 (.nilc 3),
 zG 5 6 4,
 zL 6 5,
 zo 7 (.gcall false true [399990, 399991, 1000001] [[(0, 25)]] 45 [6]),
 zM 2 7]
def p22c5 := sq (rg p22o1) (sq (rg p22o2) (rt))
def pc22_r : List PRes := [PRes.tmp 2 [(0, 25)]]
def pc22 : PFunc := ⟨8, pc22_r, p22c5, false⟩
def pc22_a : Ann := {
 kr := fun _ => none
 ka := fun _ => 0
 kh := fun _ => none
 gf := fun d f => match d, f with
  | some 7, 45 => some (false, true, [399990, 399991, 1000001])
  | _, _ => none
 ow := ow0 }
theorem pc22_ok : compFn Try.prog pc22_a Try.f22 = some pc22 := by kernel_rfl
def p23o1 := [zM 2 (kk 0)]
def p23o2 := [zM 3 0,
 zo 4 (.nilc 3),
 zG 5 1 4,
 zL 6 5,
 zM 2 6]
def p23c5 := sq (rg p23o1) (sq (rg p23o2) (rt))
def pc23_r : List PRes := [PRes.tmp 2 []]
def pc23 : PFunc := ⟨7, pc23_r, p23c5, false⟩
def pc23_a : Ann := {
 kr := fun _ => none
 ka := fun _ => 0
 kh := fun _ => none
 ow := ow0 }
theorem pc23_ok : compFn Try.prog pc23_a Try.f23 = some pc23 := by kernel_rfl
def p24o1 := [zo 2 (.mv (.const (kl)))]
def p24o2 := [zM 3 0,
 zM 4 0,
 zo 5 (.build (.agg #[ki, ki, ki, ki, ks, ki, ks, ki, ks, ki, ks]) [(0, 1, .tmp 4)]),
 zo 6 (.build (.agg #[ki, ki, ki, ki, ki, ki, ks, ki, ks, ki, ks, ki, ks, ki, .int .u8 0, ki, ki, ki, ks, ki, ks, ki, ks, ki, ks]) [(0, 1, kk 1), (1, 1, .tmp 3), (2, 11, .tmp 5)]),
 zo 7 (.bown 58 25 [6]),
 zM 2 7]
def pc24_r : List PRes := [PRes.tmp 2 [(0, 25)]]
def pc24 : PFunc := ⟨8, pc24_r, (sq (rg p24o1) (sq (rg p24o2) (rt))), true⟩
def pc24_a : Ann := {
 kr := fun _ => none
 ka := fun _ => 0
 kh := fun _ => none
 ow := ow0
 bo := fun d => match d with
  | some 7 => true
  | _ => false
 ex := true }
theorem pc24_ok : compFn Try.prog pc24_a Try.f24 = some pc24 := by kernel_rfl
def p11o1 := [zM 0 kf]
def p11o2 := [zo 6 (.gcall false false [300000, 300001, 300002, 300003, 300004, 300005, 300006, 300007] [[], [], []] 13 [kk 1, kk 2, kk 2]),
 zM 1 6]
def p11o3 := [zM 7 1,
 zo 8 (.pnil false 7),
 zM 9 8,
 zf 10 9 (.mv 1),
 zf 11 9 (.gcall false false [300000, 300001, 300002] [[]] 17 [10]),
 zf 12 9 (.prim (.bin .neq 3 false true) [11, .const (.int .i64 (-1))]),
 zo 13 (.pick 9 kt 12)]
def p11o4 := [zM 0 kf]
def p11o10 := [zM 14 1,
 zo 15 (.gcall false true [399990, 399991] [[]] 24 [kk 3]),
 zo 16 (.build (.agg #[ki, ki, ki, ki, ki, kl]) [(0, 1, kk 0), (1, 1, kk 1), (2, 1, kk 2), (3, 1, kk 5), (4, 1, kk 5), (5, 1, .tmp 15)]),
 zo 17 (.gcall false false [300000, 300001, 300002] [[], [(5, 25)]] 15 [14, 16]),
 zM 2 17]
def p11o11 := [zM 18 1,
 zo 19 (.build (.agg #[ki, ki, ki, ki, ki, kl]) [(0, 1, kk 0), (1, 1, kk 1), (2, 1, kk 2), (3, 1, kk 5), (4, 1, kk 5)]),
 zo 20 (.gcall false false [300000, 300001, 300002] [[], [(5, 25)]] 15 [18, 19]),
 zM 3 20]
def p11o12 := [zM 21 1,
 zo 22 (.gcall false false [300000, 300001, 300002] [[]] 18 [21]),
 zM 4 22]
def p11o13 := [zM 23 1,
 zo 24 (.gcall false true [399990, 399991] [[]] 24 [kk 4]),
 zo 25 (.build (.agg #[ki, ki, ki, ki, ki, kl]) [(0, 1, kk 1), (1, 1, kk 1), (2, 1, kk 2), (3, 1, kk 5), (4, 1, kk 5), (5, 1, .tmp 24)]),
 zo 26 (.gcall false false [300000, 300001, 300002] [[], [(5, 25)]] 15 [23, 25]),
 zM 5 26]
def p11o14 := [zM 27 2,
 zM 28 27,
 zt 29 28 (.mv 3),
 zt 30 28 (.prim (.un .not) [29]),
 zo 31 (.pick 28 30 kf),
 zM 32 31,
 zt 33 32 (.mv 4),
 zt 34 32 (.prim (.bin .eql 3 false true) [33, kk 1]),
 zo 35 (.pick 32 34 kf),
 zM 36 35,
 zt 37 36 (.mv 5),
 zo 38 (.pick 36 37 kf),
 zM 39 38,
 zt 40 39 (.mv 1),
 zt 41 39 (.gcall false false [300000, 300001, 300002] [[]] 17 [40]),
 zt 42 39 (.prim (.bin .eql 3 false true) [41, kk 5]),
 zo 43 (.pick 39 42 kf),
 zM 44 43,
 zt 45 44 (.mv 1),
 zt 46 44 (.gcall false false [300000, 300001, 300002] [[]] 20 [45]),
 zt 47 44 (.lenS 46),
 zt 48 44 (.prim (.bin .eql 3 false true) [47, kk 2]),
 zo 49 (.pick 44 48 kf),
 zM 50 49,
 zt 51 50 (.mv 1),
 zt 52 50 (.gcall false false [300000, 300001, 300002] [[]] 22 [51]),
 zt 53 50 (.lenS 52),
 zt 54 50 (.prim (.bin .eql 3 false true) [53, kk 2]),
 zo 55 (.pick 50 54 kf),
 zM 56 55,
 zt 57 56 (.mv 1),
 zt 58 56 (.gcall false false [300000, 300001, 300002] [[]] 18 [57]),
 zt 59 56 (.prim (.bin .eql 3 false true) [58, kk 0]),
 zo 60 (.pick 56 59 kf),
 zM 61 60,
 zt 62 61 (.mv 1),
 zt 63 61 (.gcall false false [300000, 300001, 300002] [[]] 23 [62]),
 zt 64 61 (.prim (.bin .eql 3 false true) [63, kk 2]),
 zo 65 (.pick 61 64 kf),
 zM 66 65,
 zt 67 66 (.mv 1),
 zt 68 66 (.build (.agg #[ki, ki, ki, ki, ki, kl]) [(1, 1, kk 1), (2, 1, kk 1), (3, 1, kk 5), (4, 1, kk 6)]),
 zt 69 66 (.gcall false false [300000, 300001, 300002] [[], [(5, 25)]] 15 [67, 68]),
 zt 70 66 (.prim (.un .not) [69]),
 zo 71 (.pick 66 70 kf),
 zM 0 71]
def pc11_r : List PRes := [PRes.tmp 0 []]
def pc11 : PFunc := ⟨72, pc11_r, (sq (rg p11o1) (sq (rg p11o2) (sq (sq (rg p11o3) (.cond 13 (sq (rg p11o4) (rt)) (.skip))) (sq (rg p11o10) (sq (rg p11o11) (sq (rg p11o12) (sq (rg p11o13) (sq (rg p11o14) (rt))))))))), false⟩
def pc11_a : Ann := {
 kr := fun _ => none
 ka := fun _ => 0
 kh := fun _ => none
 gf := fun d f => match d, f with
  | some 6, 13 => some (false, false, [300000, 300001, 300002, 300003, 300004, 300005, 300006, 300007])
  | some 11, 17 => some (false, false, [300000, 300001, 300002])
  | some 15, 24 => some (false, true, [399990, 399991])
  | some 17, 15 => some (false, false, [300000, 300001, 300002])
  | some 20, 15 => some (false, false, [300000, 300001, 300002])
  | some 22, 18 => some (false, false, [300000, 300001, 300002])
  | some 24, 24 => some (false, true, [399990, 399991])
  | some 26, 15 => some (false, false, [300000, 300001, 300002])
  | some 41, 17 => some (false, false, [300000, 300001, 300002])
  | some 46, 20 => some (false, false, [300000, 300001, 300002])
  | some 52, 22 => some (false, false, [300000, 300001, 300002])
  | some 58, 18 => some (false, false, [300000, 300001, 300002])
  | some 63, 23 => some (false, false, [300000, 300001, 300002])
  | some 69, 15 => some (false, false, [300000, 300001, 300002])
  | _, _ => none
 ow := ow0 }
theorem pc11_ok : compFn Try.prog pc11_a Try.f11 = some pc11 := by kernel_rfl
def p54o1 := [zo 1 (.box 51 0 []),
 zM 2 kf]
def p54o2 := [zG 3 1 1,
 zL 4 3,
 zo 5 (.prim (.len 9) [4]),
 zK 6 .leq 3 5 40,
 zM 2 6]
def p54c5 := sq (rg p54o1) (sq (rg p54o2) (rt))
def pc54_r : List PRes := [PRes.tmp 2 []]
def pc54 : PFunc := ⟨7, pc54_r, p54c5, false⟩
def pc54_a : Ann := {
 kr := fun _ => none
 ka := fun _ => 0
 kh := fun _ => none
 ow := ow0 }
theorem pc54_ok : compFn Try.prog pc54_a Try.f54 = some pc54 := by kernel_rfl
def p43o1 := [zo 1 (.box 54 0 []),
 zM 2 kf]
def p43o2 := [zM 3 (kk 0)]
def p43o3 := [zM 4 3,
 zK 5 .lss 3 4 4]
def p43o8 := [zM 8 3,
 zG 9 3 1,
 zo 10 (.iaddrA 4 2 9 8),
 zo 11 (.load true 2 10),
 zo 12 (.call true [[]] 54 [11]),
 zo 13 (.prim (.un .not) [12])]
def p43o9 := [zM 2 kf]
def p43o16 := [zM 6 3,
 zK 7 .add 3 6 1,
 zM 3 7]
def p43o22 := [zM 2 kt]
def p43c26 := sq (rg p43o1) (sq (sq (rg p43o2) (.block 0 (.loop (sq (sq (.region (some ([1, 3], [1], [])) false p43o3) (.cond 5 (.skip) (.exit 0))) (sq (.block 1 (sq (rg p43o8) (.cond 13 (sq (rg p43o9) (rt)) (.skip)))) (rg p43o16)))))) (sq (rg p43o22) (rt)))
def pc43_r : List PRes := [PRes.tmp 2 []]
def pc43 : PFunc := ⟨14, pc43_r, p43c26, false⟩
def pc43_a : Ann := {
 kr := fun
  | 2 => some ([1, 3], [1], [])
  | _ => none
 ka := fun _ => 0
 kh := fun _ => none
 ow := ow0 }
theorem pc43_ok : compFn Try.prog pc43_a Try.f43 = some pc43 := by kernel_rfl
def p12o1 := [zM 2 kf]
def p12o2 := [zM 3 (kk 0)]
def p12o3 := [zM 5 3,
 zM 6 0,
 zo 7 (.lenS 6),
 zB 8 .lss 3 5 7]
def p12o8 := [zM 11 0,
 zM 12 3,
 zo 13 (.iaddrS 6 11 12),
 zG 14 5 13,
 zL 15 14,
 zo 16 (.lenS 15),
 zK 17 .gtr 3 16 20]
def p12o9 := [zM 2 kf]
def p12o15 := [zM 4 (kk 0)]
def p12o16 := [zM 18 4,
 zM 19 0,
 zM 20 3,
 zo 21 (.iaddrS 6 19 20),
 zG 22 5 21,
 zL 23 22,
 zo 24 (.lenS 23),
 zB 25 .lss 3 18 24]
def p12o21 := [zM 28 0,
 zM 29 3,
 zo 30 (.iaddrS 6 28 29),
 zG 31 5 30,
 zL 32 31,
 zM 33 4,
 zo 34 (.iaddrS 25 32 33),
 zG 35 2 34,
 zo 36 (.load true 11 35),
 zo 37 (.call true [[]] 43 [36]),
 zo 38 (.prim (.un .not) [37]),
 zM 39 38,
 zf 40 39 (.mv 0),
 zf 41 39 (.mv 3),
 zf 42 39 (.iaddrS 6 40 41),
 zf 43 39 (.faddr 5 42),
 zf 44 39 (.load false 1 43),
 zf 45 39 (.mv 4),
 zf 46 39 (.iaddrS 25 44 45),
 zf 47 39 (.faddr 13 46),
 zf 48 39 (.faddr 4 47),
 zf 49 39 (.load true 8 48),
 zf 50 39 (.build (.agg #[ki, ki, ki, ki, ks, ki, ks, ki, ks, ki, ks]) [(3, 8, .tmp 49)]),
 zf 51 39 (.call true [[]] 43 [50]),
 zf 52 39 (.prim (.un .not) [51]),
 zo 53 (.pick 39 kt 52)]
def p12o22 := [zM 2 kf]
def p12o29 := [zM 26 4,
 zK 27 .add 3 26 1,
 zM 4 27]
def p12c31 := sq (sq (.region (some ([0, 3, 4], [], [])) false p12o16) (.cond 25 (.skip) (.exit 2))) (sq (.block 3 (sq (rg p12o21) (.cond 53 (sq (rg p12o22) (rt)) (.skip)))) (rg p12o29))
def p12o37 := [zM 9 3,
 zK 10 .add 3 9 1,
 zM 3 10]
def p12c37 := rg p12o37
def p12c39 := sq (sq (.region (some ([0, 3], [], [])) false p12o3) (.cond 8 (.skip) (.exit 0))) (sq (.block 1 (sq (sq (rg p12o8) (.cond 17 (sq (rg p12o9) (rt)) (.skip))) (sq (rg p12o15) (.block 2 (.loop p12c31))))) p12c37)
def p12o43 := [zM 54 0,
 zo 55 (.lenS 54),
 zK 56 .leq 3 55 50,
 zM 2 56]
def p12c45 := sq (rg p12o43) (rt)
def p12c47 := sq (rg p12o1) (sq (sq (rg p12o2) (.block 0 (.loop p12c39))) p12c45)
def pc12_r : List PRes := [PRes.tmp 2 []]
def pc12 : PFunc := ⟨57, pc12_r, p12c47, false⟩
def pc12_a : Ann := {
 kr := fun
  | 2 => some ([0, 3], [], [])
  | 7 => some ([0, 3, 4], [], [])
  | _ => none
 ka := fun _ => 0
 kh := fun _ => none
 ow := ow0 }
theorem pc12_ok : compFn Try.prog pc12_a Try.f12 = some pc12 := by kernel_rfl
def p14o1 := [zo 6 (.mv (.const (.pointer none)))]
def p14o2 := [zM 7 0,
 zM 8 1,
 zM 9 2,
 zo 10 (.prim .min [9, kk 4]),
 zo 11 (.prim .max [kk 1, 10]),
 zo 12 (.build (.agg #[ki, ki, ki, ki, ki, kl, kl, kl]) [(0, 1, .tmp 7), (1, 1, .tmp 8), (2, 1, .tmp 11), (3, 1, .const (.int .i64 (-1))), (4, 1, .const (.int .i64 (-1)))]),
 zo 13 (.box 36 12 [(5, 1000000054, 11), (6, 58, 25), (7, 32, 6)]),
 zM 6 13]
def p14c5 := sq (rg p14o1) (sq (rg p14o2) (rt))
def pc14_r : List PRes := [PRes.tmp 6 []]
def pc14 : PFunc := ⟨14, pc14_r, p14c5, true⟩
def pc14_a : Ann := {
 kr := fun _ => none
 ka := fun _ => 0
 kh := fun _ => none
 ow := ow0
 ex := true }
theorem pc14_ok : compFn Try.prog pc14_a Try.f14 = some pc14 := by kernel_rfl
def p47o1 := [zM 6 (kk 0)]
def p47o2 := [zM 7 (kk 0)]
def p47o3 := [zM 8 7,
 zM 9 0,
 zo 10 (.nilc 9),
 zG 11 7 10,
 zL 12 11,
 zo 13 (.lenS 12),
 zB 14 .lss 3 8 13]
def p47o8 := [zM 17 0,
 zo 18 (.nilc 17),
 zG 19 7 18,
 zL 20 19,
 zM 21 7,
 zo 22 (.iaddrS 6 20 21),
 zG 23 0 22,
 zL 24 23,
 zM 25 1,
 zB 26 .eql 3 24 25,
 zM 27 26,
 zt 28 27 (.mv 0),
 zt 29 27 (.nilc 28),
 zt 30 27 (.faddr 7 29),
 zt 31 27 (.load false 1 30),
 zt 32 27 (.mv 7),
 zt 33 27 (.iaddrS 6 31 32),
 zt 34 27 (.faddr 4 33),
 zt 35 27 (.load false 1 34),
 zt 36 27 (.mv 2),
 zt 37 27 (.prim (.bin .eql 3 false false) [35, 36]),
 zo 38 (.pick 27 37 kf)]
def p47o9 := [zM 39 7,
 zM 6 39]
def p47o16 := [zM 15 7,
 zK 16 .add 3 15 1,
 zM 7 16]
def p47c18 := sq (sq (.region (some ([0, 1, 2, 7], [1000000, 1000001, 1000002], [])) false p47o3) (.cond 14 (.skip) (.exit 0))) (sq (.block 1 (sq (rg p47o8) (.cond 38 (sq (rg p47o9) (rt)) (.skip)))) (rg p47o16))
def p47o22 := [zM 6 (kk (-1))]
def p47c24 := sq (rg p47o22) (rt)
def p47c26 := sq (rg p47o1) (sq (sq (rg p47o2) (.block 0 (.loop p47c18))) p47c24)
def pc47_r : List PRes := [PRes.tmp 6 []]
def pc47 : PFunc := ⟨40, pc47_r, p47c26, false⟩
def pc47_a : Ann := {
 kr := fun
  | 2 => some ([0, 1, 2, 7], [1000000, 1000001, 1000002], [])
  | _ => none
 ka := fun _ => 0
 kh := fun _ => none
 ow := ow0 }
theorem pc47_ok : compFn Try.prog pc47_a Try.f47 = some pc47 := by kernel_rfl
def p70o1 := [zo 1 (.box 51 0 []),
 zM 2 kf]
def p70o2 := [zG 3 0 1,
 zL 4 3,
 zK 5 .eql 2 4 0,
 zM 6 5,
 zf 7 6 (.faddr 1 1),
 zf 8 6 (.load false 1 7),
 zf 9 6 (.prim (.bin .eql 9 false true) [8, .const (ks)]),
 zo 10 (.pick 6 kt 9),
 zM 11 10,
 zt 12 11 (.faddr 1 1),
 zt 13 11 (.load false 1 12),
 zt 14 11 (.prim (.len 9) [13]),
 zt 15 11 (.prim (.bin .leq 3 false true) [14, kk 12]),
 zo 16 (.pick 11 15 kf),
 zM 2 16]
def p70c5 := sq (rg p70o1) (sq (rg p70o2) (rt))
def pc70_r : List PRes := [PRes.tmp 2 []]
def pc70 : PFunc := ⟨17, pc70_r, p70c5, false⟩
def pc70_a : Ann := {
 kr := fun _ => none
 ka := fun _ => 0
 kh := fun _ => none
 ow := ow0 }
theorem pc70_ok : compFn Try.prog pc70_a Try.f70 = some pc70 := by kernel_rfl
def p75o1 := [zo 1 (.box 49 0 []),
 zM 2 kf]
def p75o2 := [zG 3 0 1,
 zL 4 3,
 zK 5 .geq 3 4 0,
 zM 6 5,
 zt 7 6 (.faddr 0 1),
 zt 8 6 (.load false 1 7),
 zt 9 6 (.prim (.bin .lss 3 false true) [8, kk 64]),
 zo 10 (.pick 6 9 kf),
 zM 11 10,
 zt 12 11 (.faddr 1 1),
 zt 13 11 (.load false 1 12),
 zt 14 11 (.prim (.bin .geq 3 false true) [13, kk 0]),
 zo 15 (.pick 11 14 kf),
 zM 16 15,
 zt 17 16 (.faddr 1 1),
 zt 18 16 (.load false 1 17),
 zt 19 16 (.prim (.bin .lss 3 false true) [18, kk 64]),
 zo 20 (.pick 16 19 kf),
 zM 2 20]
def p75c5 := sq (rg p75o1) (sq (rg p75o2) (rt))
def pc75_r : List PRes := [PRes.tmp 2 []]
def pc75 : PFunc := ⟨21, pc75_r, p75c5, false⟩
def pc75_a : Ann := {
 kr := fun _ => none
 ka := fun _ => 0
 kh := fun _ => none
 ow := ow0 }
theorem pc75_ok : compFn Try.prog pc75_a Try.f75 = some pc75 := by kernel_rfl
def p59o1 := [zo 1 (.box 54 0 []),
 zM 2 kf]
def p59o2 := [zG 5 0 1,
 zL 6 5,
 zK 7 .geq 3 6 0,
 zM 8 7,
 zt 9 8 (.faddr 0 1),
 zt 10 8 (.load false 1 9),
 zt 11 8 (.prim (.bin .leq 3 false true) [10, kk 1000000]),
 zo 12 (.pick 8 11 kf),
 zM 13 12,
 zt 14 13 (.faddr 1 1),
 zt 15 13 (.load true 2 14),
 zt 16 13 (.call true [[]] 75 [15]),
 zo 17 (.pick 13 16 kf),
 zM 3 17]
def p59o3 := [zM 4 (kk 0)]
def p59o4 := [zM 18 4,
 zK 19 .lss 3 18 4]
def p59o9 := [zM 22 3,
 zM 23 22,
 zt 24 23 (.mv 4),
 zt 25 23 (.faddr 3 1),
 zt 26 23 (.iaddrA 4 2 25 24),
 zt 27 23 (.load true 2 26),
 zt 28 23 (.call true [[]] 70 [27]),
 zo 29 (.pick 23 28 kf),
 zM 3 29]
def p59o11 := [zM 20 4,
 zK 21 .add 3 20 1,
 zM 4 21]
def p59c13 := sq (sq (.region (some ([1, 3, 4], [1], [])) false p59o4) (.cond 19 (.skip) (.exit 0))) (sq (.block 1 (rg p59o9)) (rg p59o11))
def p59o17 := [zM 30 3,
 zM 2 30]
def p59c19 := sq (rg p59o17) (rt)
def p59c20 := sq (sq (.region (some ([1, 3], [1], [])) false p59o3) (.block 0 (.loop p59c13))) p59c19
def p59c22 := sq (rg p59o1) (sq (rg p59o2) p59c20)
def pc59_r : List PRes := [PRes.tmp 2 []]
def pc59 : PFunc := ⟨31, pc59_r, p59c22, false⟩
def pc59_a : Ann := {
 kr := fun
  | 2 => some ([1, 3], [1], [])
  | 3 => some ([1, 3, 4], [1], [])
  | _ => none
 ka := fun _ => 0
 kh := fun _ => none
 ow := ow0 }
theorem pc59_ok : compFn Try.prog pc59_a Try.f59 = some pc59 := by kernel_rfl
def p60o1 := [zo 1 (.box 56 0 []),
 zM 2 kf]
def p60o2 := [zG 4 0 1,
 zL 5 4,
 zK 6 .lss 3 5 0,
 zM 7 6,
 zf 8 7 (.faddr 0 1),
 zf 9 7 (.load false 1 8),
 zf 10 7 (.prim (.bin .gtr 3 false true) [9, kk 1000000]),
 zo 11 (.pick 7 kt 10),
 zM 12 11,
 zf 13 12 (.faddr 1 1),
 zf 14 12 (.load false 1 13),
 zf 15 12 (.prim (.bin .lss 5 false true) [14, .const (.int .u8 1)]),
 zo 16 (.pick 12 kt 15),
 zM 17 16,
 zf 18 17 (.faddr 1 1),
 zf 19 17 (.load false 1 18),
 zf 20 17 (.prim (.bin .gtr 5 false true) [19, .const (.int .u8 31)]),
 zo 21 (.pick 17 kt 20)]
def p60o3 := [zM 2 kf]
def p60o9 := [zG 22 1 1,
 zL 23 22,
 zo 24 (.prim (.bin .and 5 false true) [23, .const (.int .u8 1)]),
 zo 25 (.prim (.bin .neq 5 false true) [24, .const (.int .u8 0)]),
 zM 26 25,
 zt 27 26 (.faddr 2 1),
 zt 28 26 (.load true 2 27),
 zt 29 26 (.call true [[]] 75 [28]),
 zt 30 26 (.prim (.un .not) [29]),
 zo 31 (.pick 26 30 kf),
 zM 32 31,
 zf 33 32 (.faddr 1 1),
 zf 34 32 (.load false 1 33),
 zf 35 32 (.prim (.bin .and 5 false true) [34, .const (.int .u8 1)]),
 zf 36 32 (.prim (.bin .eql 5 false true) [35, .const (.int .u8 0)]),
 zf 37 32 (.mv 36),
 zt 38 37 (.faddr 2 1),
 zt 39 37 (.load true 2 38),
 zt 40 37 (.build (.agg #[ki, ki]) []),
 zt 41 37 (.prim (.bin .neq 49 false false) [39, 40]),
 zf 42 32 (.pick 37 41 kf),
 zo 43 (.pick 32 kt 42)]
def p60o10 := [zM 2 kf]
def p60o16 := [zM 3 (kk 0)]
def p60o17 := [zM 44 3,
 zK 45 .lss 3 44 4]
def p60o22 := [zM 48 3,
 zG 49 4 1,
 zo 50 (.iaddrA 4 2 49 48),
 zo 51 (.load true 2 50),
 zo 52 (.call true [[]] 70 [51]),
 zo 53 (.prim (.un .not) [52]),
 zM 54 53,
 zf 55 54 (.faddr 1 1),
 zf 56 54 (.load false 1 55),
 zf 57 54 (.mv 3),
 zf 58 54 (.prim (.bin .add 3 false true) [57, kk 1]),
 zf 59 54 (.prim (.conv 3 122) [58]),
 zf 60 54 (.prim (.bin .shr 5 false false) [56, 59]),
 zf 61 54 (.prim (.bin .and 5 false true) [60, .const (.int .u8 1)]),
 zf 62 54 (.prim (.bin .eql 5 false true) [61, .const (.int .u8 0)]),
 zf 63 54 (.mv 62),
 zt 64 63 (.mv 3),
 zt 65 63 (.faddr 4 1),
 zt 66 63 (.iaddrA 4 2 65 64),
 zt 67 63 (.load true 2 66),
 zt 68 63 (.build (.agg #[ki, ks]) []),
 zt 69 63 (.prim (.bin .neq 51 false false) [67, 68]),
 zf 70 54 (.pick 63 69 kf),
 zo 71 (.pick 54 kt 70)]
def p60o23 := [zM 2 kf]
def p60o30 := [zM 46 3,
 zK 47 .add 3 46 1,
 zM 3 47]
def p60c32 := sq (sq (.region (some ([1, 3], [1], [])) false p60o17) (.cond 45 (.skip) (.exit 0))) (sq (.block 1 (sq (rg p60o22) (.cond 71 (sq (rg p60o23) (rt)) (.skip)))) (rg p60o30))
def p60o36 := [zM 2 kt]
def p60c38 := sq (rg p60o36) (rt)
def p60c39 := sq (sq (.region (some ([1], [1], [])) false p60o16) (.block 0 (.loop p60c32))) p60c38
def p60c42 := sq (rg p60o1) (sq (sq (rg p60o2) (.cond 21 (sq (rg p60o3) (rt)) (.skip))) (sq (sq (rg p60o9) (.cond 43 (sq (rg p60o10) (rt)) (.skip))) p60c39))
def pc60_r : List PRes := [PRes.tmp 2 []]
def pc60 : PFunc := ⟨72, pc60_r, p60c42, false⟩
def pc60_a : Ann := {
 kr := fun
  | 5 => some ([1], [1], [])
  | 6 => some ([1, 3], [1], [])
  | _ => none
 ka := fun _ => 0
 kh := fun _ => none
 ow := ow0 }
theorem pc60_ok : compFn Try.prog pc60_a Try.f60 = some pc60 := by kernel_rfl
def p48o1 := [zo 1 (.box 58 0 []),
 zM 2 kf]
def p48o2 := [zG 3 0 1,
 zL 4 3]
def p48o3 := [zK 6 .eql 3 4 1,
 zM 5 6]
def p48o4 := [zG 7 2 1,
 zo 8 (.load true 11 7),
 zo 9 (.call true [[]] 59 [8]),
 zM 10 9,
 zt 11 10 (.faddr 1 1),
 zt 12 10 (.load false 1 11),
 zt 13 10 (.faddr 2 1),
 zt 14 10 (.faddr 0 13),
 zt 15 10 (.load false 1 14),
 zt 16 10 (.prim (.bin .eql 3 false false) [12, 15]),
 zo 17 (.pick 10 16 kf),
 zM 18 17,
 zt 19 18 (.faddr 13 1),
 zt 20 18 (.load true 12 19),
 zt 21 18 (.build (.agg #[ki, .int .u8 0, ki, ki, ki, ks, ki, ks, ki, ks, ki, ks]) []),
 zt 22 18 (.prim (.bin .eql 56 false false) [20, 21]),
 zo 23 (.pick 18 22 kf),
 zM 2 23]
def p48o7 := [zK 25 .eql 3 4 2,
 zM 24 25]
def p48o8 := [zG 26 13 1,
 zo 27 (.load true 12 26),
 zo 28 (.call true [[]] 60 [27]),
 zM 29 28,
 zt 30 29 (.faddr 1 1),
 zt 31 29 (.load false 1 30),
 zt 32 29 (.faddr 13 1),
 zt 33 29 (.faddr 0 32),
 zt 34 29 (.load false 1 33),
 zt 35 29 (.prim (.bin .eql 3 false false) [31, 34]),
 zo 36 (.pick 29 35 kf),
 zM 37 36,
 zt 38 37 (.faddr 2 1),
 zt 39 37 (.load true 11 38),
 zt 40 37 (.build (.agg #[ki, ki, ki, ki, ks, ki, ks, ki, ks, ki, ks]) []),
 zt 41 37 (.prim (.bin .eql 54 false false) [39, 40]),
 zo 42 (.pick 37 41 kf),
 zM 2 42]
def p48o11 := [zK 44 .eql 3 4 3,
 zM 43 44]
def p48o12 := [zG 45 1 1,
 zL 46 45,
 zK 47 .geq 3 46 0,
 zM 48 47,
 zt 49 48 (.faddr 1 1),
 zt 50 48 (.load false 1 49),
 zt 51 48 (.prim (.bin .leq 3 false true) [50, kk 1000000]),
 zo 52 (.pick 48 51 kf),
 zM 53 52,
 zt 54 53 (.faddr 2 1),
 zt 55 53 (.load true 11 54),
 zt 56 53 (.build (.agg #[ki, ki, ki, ki, ks, ki, ks, ki, ks, ki, ks]) []),
 zt 57 53 (.prim (.bin .eql 54 false false) [55, 56]),
 zo 58 (.pick 53 57 kf),
 zM 59 58,
 zt 60 59 (.faddr 13 1),
 zt 61 59 (.load true 12 60),
 zt 62 59 (.build (.agg #[ki, .int .u8 0, ki, ki, ki, ks, ki, ks, ki, ks, ki, ks]) []),
 zt 63 59 (.prim (.bin .eql 56 false false) [61, 62]),
 zo 64 (.pick 59 63 kf),
 zM 2 64]
def p48o24 := [zM 2 kf]
def p48c28 := sq (rg p48o1) (sq (sq (rg p48o2) (.block 0 (sq (rg p48o3) (.cond 5 (sq (rg p48o4) (rt)) (sq (rg p48o7) (.cond 24 (sq (rg p48o8) (rt)) (sq (rg p48o11) (.cond 43 (sq (rg p48o12) (rt)) (.skip))))))))) (sq (rg p48o24) (rt)))
def pc48_r : List PRes := [PRes.tmp 2 []]
def pc48 : PFunc := ⟨65, pc48_r, p48c28, false⟩
def pc48_a : Ann := {
 kr := fun _ => none
 ka := fun _ => 0
 kh := fun _ => none
 ow := ow0 }
theorem pc48_ok : compFn Try.prog pc48_a Try.f48 = some pc48 := by kernel_rfl
def p87o1 := [zM 4 (kk 0)]
def p87o2 := [zM 5 (kk 0)]
def p87o3 := [zM 6 5,
 zM 7 0,
 zo 8 (.lenS 7),
 zB 9 .lss 3 6 8]
def p87o8 := [zM 12 0,
 zM 13 5,
 zo 14 (.iaddrS 11 12 13),
 zG 15 0 14,
 zL 16 15,
 zM 17 1,
 zB 18 .eql 3 16 17]
def p87o9 := [zM 19 5,
 zM 4 19]
def p87o16 := [zM 10 5,
 zK 11 .add 3 10 1,
 zM 5 11]
def p87c18 := sq (sq (.region (some ([0, 1, 5], [], [])) false p87o3) (.cond 9 (.skip) (.exit 0))) (sq (.block 1 (sq (rg p87o8) (.cond 18 (sq (rg p87o9) (rt)) (.skip)))) (rg p87o16))
def p87o22 := [zM 4 (kk (-1))]
def p87c24 := sq (rg p87o22) (rt)
def p87c26 := sq (rg p87o1) (sq (sq (rg p87o2) (.block 0 (.loop p87c18))) p87c24)
def pc87_r : List PRes := [PRes.tmp 4 []]
def pc87 : PFunc := ⟨20, pc87_r, p87c26, false⟩
def pc87_a : Ann := {
 kr := fun
  | 2 => some ([0, 1, 5], [], [])
  | _ => none
 ka := fun _ => 0
 kh := fun _ => none
 ow := ow0 }
theorem pc87_ok : compFn Try.prog pc87_a Try.f87 = some pc87 := by kernel_rfl
def p88o1 := [zo 3 (.box 54 1 []),
 zo 4 (.mv (.const (kl)))]
def p88o2 := [zo 5 (.mv (.const (kl)))]
def p88o3 := [zM 6 kf]
def p88o4 := [zM 7 (kk 0)]
def p88o5 := [zM 8 7,
 zM 9 0,
 zo 10 (.lenS 9),
 zB 11 .lss 3 8 10]
def p88o10 := [zi 14 6 (.mv 6),
 zi 15 14 (.prim (.un .not) [14]),
 zi 16 15 (.mv 15),
 ⟨some 17, .faddr 0 3, some (16, true), [(3, .at_ 3 0)]⟩,
 ⟨some 18, .load false 1 17, some (16, true), [(17, .at_ 3 0)]⟩,
 ⟨some 19, .mv 0, some (16, true), [(0, .imm)]⟩,
 ⟨some 20, .mv 7, some (16, true), [(7, .imm)]⟩,
 ⟨some 21, .iaddrS 11 19 20, some (16, true), [(19, .imm), (20, .imm)]⟩,
 ⟨some 22, .faddr 0 21, some (16, true), [(21, .imm)]⟩,
 ⟨some 23, .load false 1 22, some (16, true), [(22, .imm)]⟩,
 ⟨some 24, .prim (.bin .leq 3 false false) [18, 23], some (16, true), [(18, .imm), (23, .imm)]⟩,
 zj 25 16 24 (.pick 16 24 kf)]
def p88o11 := [zM 26 5,
 zo 27 (.load true 11 3),
 zo 28 (.bslice 54 11 [27]),
 zo 29 (.app 100005 54 11 120 26 28),
 zM 5 29]
def p88o12 := [zM 6 kt]
def p88o17 := [zi 30 0 (.mv 0),
 zi 31 7 (.mv 7),
 zj 32 30 31 (.iaddrS 11 30 31),
 zi 33 32 (.faddr 0 32),
 zi 34 33 (.load false 1 33),
 za 35 3 3 0 (.faddr 0 3),
 za 36 35 3 0 (.load false 1 35),
 zj 37 34 36 (.prim (.bin .neq 3 false false) [34, 36])]
def p88o18 := [zM 38 5,
 zM 39 0,
 zM 40 7,
 zo 41 (.iaddrS 11 39 40),
 zo 42 (.load true 11 41),
 zo 43 (.bslice 54 11 [42]),
 zo 44 (.app 100005 54 11 120 38 43),
 zM 5 44]
def p88c21 := sq (.region (some ([0, 3, 5, 6, 7], [3, 100005], [(false, 5, 0, 100005, 54, 11)])) true p88o17) (.cond 37 (rg p88o18) (.skip))
def p88o24 := [zM 12 7,
 zK 13 .add 3 12 1,
 zM 7 13]
def p88c24 := rg p88o24
def p88c26 := sq (sq (.region (some ([0, 3, 5, 6, 7], [3, 100005], [(false, 5, 0, 100005, 54, 11)])) false p88o5) (.cond 11 (.skip) (.exit 0))) (sq (.block 1 (sq (sq (rh p88o10) (.cond 25 (sq (rg p88o11) (rg p88o12)) (.skip))) p88c21)) p88c24)
def p88o30 := [zM 45 6,
 zo 46 (.prim (.un .not) [45])]
def p88o31 := [zM 47 5,
 zo 48 (.load true 11 3),
 zo 49 (.bslice 54 11 [48]),
 zo 50 (.app 100005 54 11 120 47 49),
 zM 5 50]
def p88o35 := [zM 51 5,
 zM 4 51]
def p88c38 := sq (sq (rg p88o30) (.cond 46 (rg p88o31) (.skip))) (sq (rg p88o35) (rt))
def p88c42 := sq (rg p88o1) (sq (rg p88o2) (sq (rg p88o3) (sq (sq (rg p88o4) (.block 0 (.loop p88c26))) p88c38)))
def pc88_r : List PRes := [PRes.tmp 4 [(0, 11)]]
def pc88 : PFunc := ⟨52, pc88_r, p88c42, false⟩
def pc88_a : Ann := {
 kr := fun
  | 4 => some ([0, 3, 5, 6, 7], [3, 100005], [(false, 5, 0, 100005, 54, 11)])
  | 9 => some ([0, 3, 5, 6, 7], [3, 100005], [(false, 5, 0, 100005, 54, 11)])
  | _ => none
 ka := fun
  | 29 => 100005
  | 44 => 100005
  | 50 => 100005
  | _ => 0
 kh := hg [([0, 6, 7, 14, 15, 16, 18, 19, 20, 21, 22, 23, 24, 30, 31, 32, 33, 34, 36], .imm), ([3, 17, 35], .at_ 3 0)]
 ow := ow0 }
theorem pc88_ok : compFn Try.prog pc88_a Try.f88 = some pc88 := by kernel_rfl
def p89o1 := [zo 2 (.box 54 0 []),
 zo 3 (.box 56 1 []),
 zo 4 (.alloc 54 (.agg #[ki, ki, ki, ki, ks, ki, ks, ki, ks, ki, ks]) [])]
def p89o2 := [zo 7 (.load true 11 2),
 zo 5 (.alloc 54 (.agg #[ki, ki, ki, ki, ks, ki, ks, ki, ks, ki, ks]) []),
 zs (.store 11 5 7)]
def p89o3 := [zG 8 1 3,
 zL 9 8,
 zo 10 (.prim (.bin .and 5 false true) [9, .const (.int .u8 1)]),
 zo 11 (.prim (.bin .neq 5 false true) [10, .const (.int .u8 0)])]
def p89o4 := [zG 12 2 3,
 zo 13 (.load true 2 12),
 zG 14 1 5,
 zs (.store 2 14 13)]
def p89o8 := [zM 6 (kk 0)]
def p89o9 := [zM 15 6,
 zK 16 .lss 3 15 4]
def p89o14 := [zG 19 1 3,
 zL 20 19,
 zM 21 6,
 zK 22 .add 3 21 1,
 zo 23 (.prim (.conv 3 122) [22]),
 zB 24 .shr 5 20 23,
 zo 25 (.prim (.bin .and 5 false true) [24, .const (.int .u8 1)]),
 zo 26 (.prim (.bin .neq 5 false true) [25, .const (.int .u8 0)])]
def p89o15 := [zM 27 6,
 zM 28 6,
 zG 29 4 3,
 zo 30 (.iaddrA 4 2 29 28),
 zo 31 (.load true 2 30),
 zG 32 3 5,
 zo 33 (.iaddrA 4 2 32 27),
 zs (.store 2 33 31)]
def p89o20 := [zM 17 6,
 zK 18 .add 3 17 1,
 zM 6 18]
def p89c22 := sq (sq (.region (some ([3, 4, 5, 6], [3, 4, 5], [])) false p89o9) (.cond 16 (.skip) (.exit 0))) (sq (.block 1 (sq (rg p89o14) (.cond 26 (rg p89o15) (.skip)))) (rg p89o20))
def p89o26 := [zo 34 (.load true 11 5),
 zs (.store 11 4 34)]
def p89c28 := sq (rg p89o26) (rt)
def p89c29 := sq (sq (.region (some ([3, 4, 5], [2, 3, 4, 5], [])) false p89o8) (.block 0 (.loop p89c22))) p89c28
def p89c32 := sq (rg p89o1) (sq (rg p89o2) (sq (sq (rg p89o3) (.cond 11 (rg p89o4) (.skip))) p89c29))
def pc89_r : List PRes := [PRes.cell 4 true 11 []]
def pc89 : PFunc := ⟨35, pc89_r, p89c32, false⟩
def pc89_a : Ann := {
 kr := fun
  | 4 => some ([3, 4, 5], [2, 3, 4, 5], [])
  | 5 => some ([3, 4, 5, 6], [3, 4, 5], [])
  | _ => none
 ka := fun _ => 0
 kh := fun _ => none
 ow := ow0 }
theorem pc89_ok : compFn Try.prog pc89_a Try.f89 = some pc89 := by kernel_rfl
def p90o1 := [zo 4 (.mv (.const (kl)))]
def p90o2 := [zo 5 (.mv (.const (kl)))]
def p90o3 := [zM 6 (kk 0)]
def p90o4 := [zM 7 6,
 zM 8 0,
 zo 9 (.lenS 8),
 zB 10 .lss 3 7 9]
def p90o9 := [zM 13 0,
 zM 14 6,
 zo 15 (.iaddrS 11 13 14),
 zG 16 0 15,
 zL 17 16,
 zM 18 1,
 zB 19 .neq 3 17 18]
def p90o10 := [zM 20 5,
 zM 21 0,
 zM 22 6,
 zo 23 (.iaddrS 11 21 22),
 zo 24 (.load true 11 23),
 zo 25 (.bslice 54 11 [24]),
 zo 26 (.app 100005 54 11 120 20 25),
 zM 5 26]
def p90o15 := [zM 11 6,
 zK 12 .add 3 11 1,
 zM 6 12]
def p90c17 := sq (sq (.region (some ([0, 1, 5, 6], [100005], [(false, 5, 0, 100005, 54, 11)])) false p90o4) (.cond 10 (.skip) (.exit 0))) (sq (.block 1 (sq (rg p90o9) (.cond 19 (rg p90o10) (.skip)))) (rg p90o15))
def p90o21 := [zM 27 5,
 zM 4 27]
def p90c23 := sq (rg p90o21) (rt)
def p90c26 := sq (rg p90o1) (sq (rg p90o2) (sq (sq (rg p90o3) (.block 0 (.loop p90c17))) p90c23))
def pc90_r : List PRes := [PRes.tmp 4 [(0, 11)]]
def pc90 : PFunc := ⟨28, pc90_r, p90c26, false⟩
def pc90_a : Ann := {
 kr := fun
  | 3 => some ([0, 1, 5, 6], [100005], [(false, 5, 0, 100005, 54, 11)])
  | _ => none
 ka := fun
  | 26 => 100005
  | _ => 0
 kh := fun _ => none
 ow := ow0 }
theorem pc90_ok : compFn Try.prog pc90_a Try.f90 = some pc90 := by kernel_rfl
def p76o1 := [zo 3 (.box 58 1 []),
 zo 4 (.mv (.const (kl))),
 zM 5 kf]
def p76o2 := [zM 7 0,
 zG 8 1 3,
 zL 9 8,
 zo 10 (.call true [[(0, 11)], []] 87 [7, 9]),
 zM 6 10]
def p76o3 := [zo 11 (.load true 25 3),
 zo 12 (.call true [[]] 48 [11]),
 zo 13 (.prim (.un .not) [12]),
 zM 14 13,
 zf 15 14 (.mv 6),
 zf 16 14 (.prim (.bin .geq 3 false true) [15, kk 0]),
 zf 17 14 (.faddr 0 3),
 zf 18 14 (.load false 1 17),
 zf 19 14 (.prim (.bin .eql 3 false true) [18, kk 1]),
 zf 20 14 (.prim (.bin .eql 4 false false) [16, 19]),
 zo 21 (.pick 14 kt 20)]
def p76o4 := [zM 22 0,
 zM 4 22,
 zM 5 kf]
def p76o10 := [zG 23 0 3,
 zL 24 23]
def p76o11 := [zK 26 .eql 3 24 1,
 zM 25 26]
def p76o12 := [zM 27 0,
 zG 28 2 3,
 zo 29 (.load true 11 28),
 zo 30 (.call true [[(0, 11)], []] 88 [27, 29]),
 zM 4 30,
 zM 5 kt]
def p76o15 := [zK 32 .eql 3 24 2,
 zM 31 32]
def p76o16 := [zi 33 0 (.mv 0),
 zi 34 0 (.mv 0),
 zi 35 6 (.mv 6),
 zj 36 34 35 (.iaddrS 11 34 35),
 zi 37 36 (.load true 11 36),
 za 38 3 3 0 (.faddr 13 3),
 za 39 38 3 13 (.load true 12 38),
 zj 40 37 39 (.call false [[], []] 89 [37, 39]),
 zj 41 33 40 (.call false [[(0, 11)], []] 88 [33, 40]),
 zi 4 41 (.mv 41),
 zM 5 kt]
def p76o26 := [zM 42 0,
 zG 43 1 3,
 zL 44 43,
 zo 45 (.call true [[(0, 11)], []] 90 [42, 44]),
 zM 4 45,
 zM 5 kt]
def p76c32 := sq (rg p76o1) (sq (rg p76o2) (sq (sq (rg p76o3) (.cond 21 (sq (rg p76o4) (rt)) (.skip))) (sq (sq (rg p76o10) (.block 0 (sq (rg p76o11) (.cond 25 (sq (rg p76o12) (rt)) (sq (rg p76o15) (.cond 31 (sq (rh p76o16) (rt)) (.skip))))))) (sq (rg p76o26) (rt)))))
def pc76_r : List PRes := [PRes.tmp 4 [(0, 11)], PRes.tmp 5 []]
def pc76 : PFunc := ⟨46, pc76_r, p76c32, false⟩
def pc76_a : Ann := {
 kr := fun _ => none
 ka := fun _ => 0
 kh := hg [([0, 6, 33, 34, 35, 36, 37, 39, 40, 41], .imm), ([3], .at_ 3 0), ([38], .at_ 3 13)]
 ow := ow0 }
theorem pc76_ok : compFn Try.prog pc76_a Try.f76 = some pc76 := by kernel_rfl
def p61o1 := [zo 4 (.mv (.const (kl))),
 zM 5 kf]
def p61o2 := [zM 10 0,
 zM 6 10]
def p61o3 := [zM 7 (kk 0)]
def p61o4 := [zM 11 7,
 zM 12 1,
 zo 13 (.lenS 12),
 zB 14 .lss 3 11 13]
def p61o9 := [zM 18 6,
 zM 19 1,
 zM 20 7,
 zo 21 (.iaddrS 25 19 20),
 zo 22 (.load true 25 21),
 zo 23 (.call true [[(0, 11)], []] 76 [18, 22]),
 zM 17 23,
 zX 24 17 0,
 zX 25 17 1,
 zM 8 24,
 zM 9 25]
def p61o10 := [zM 26 9,
 zo 27 (.prim (.un .not) [26])]
def p61o11 := [zM 28 0,
 zM 4 28,
 zM 5 kf]
def p61o17 := [zM 29 8,
 zM 6 29]
def p61o21 := [zM 15 7,
 zK 16 .add 3 15 1,
 zM 7 16]
def p61c23 := sq (sq (.region (some ([0, 1, 6, 7], [], [])) false p61o4) (.cond 14 (.skip) (.exit 0))) (sq (.block 1 (sq (rg p61o9) (sq (sq (rg p61o10) (.cond 27 (sq (rg p61o11) (rt)) (.skip))) (rg p61o17)))) (rg p61o21))
def p61o27 := [zM 30 6,
 zM 4 30,
 zM 5 kt]
def p61c29 := sq (rg p61o27) (rt)
def p61c32 := sq (rg p61o1) (sq (rg p61o2) (sq (sq (rg p61o3) (.block 0 (.loop p61c23))) p61c29))
def pc61_r : List PRes := [PRes.tmp 4 [(0, 11)], PRes.tmp 5 []]
def pc61 : PFunc := ⟨31, pc61_r, p61c32, false⟩
def pc61_a : Ann := {
 kr := fun
  | 3 => some ([0, 1, 6, 7], [], [])
  | _ => none
 ka := fun _ => 0
 kh := fun _ => none
 ow := ow0 }
theorem pc61_ok : compFn Try.prog pc61_a Try.f61 = some pc61 := by kernel_rfl
def p49o1 := [zM 2 kf]
def p49o2 := [zM 9 0,
 zo 10 (.nilc 9),
 zG 11 4 10,
 zL 12 11,
 zK 13 .add 3 12 1,
 zM 3 13]
def p49o3 := [zM 14 0,
 zo 15 (.nilc 14),
 zG 16 4 15,
 zL 17 16,
 zK 18 .lss 3 17 0]
def p49o4 := [zM 19 0,
 zo 20 (.nilc 19),
 zG 21 3 20,
 zL 22 21,
 zM 3 22]
def p49o8 := [zM 4 (kk 0)]
def p49o9 := [zM 23 4,
 zM 24 0,
 zo 25 (.nilc 24),
 zG 26 2 25,
 zL 27 26,
 zB 28 .lss 3 23 27]
def p49o14 := [zM 31 0,
 zM 32 4,
 zM 33 3,
 zo 34 (.gcall false false [1000000, 1000001, 1000002] [[], [], []] 47 [31, 32, 33]),
 zK 35 .lss 3 34 0]
def p49o15 := [zM 2 kf]
def p49o22 := [zM 29 4,
 zK 30 .add 3 29 1,
 zM 4 30]
def p49c24 := sq (sq (.region (some ([0, 3, 4], [1000000, 1000001, 1000002], [])) false p49o9) (.cond 28 (.skip) (.exit 0))) (sq (.block 1 (sq (rg p49o14) (.cond 35 (sq (rg p49o15) (rt)) (.skip)))) (rg p49o22))
def p49o28 := [zM 5 (kk 0)]
def p49o29 := [zM 36 5,
 zM 37 0,
 zo 38 (.nilc 37),
 zG 39 2 38,
 zL 40 39,
 zB 41 .lss 3 36 40]
def p49o34 := [zM 44 0,
 zM 45 5,
 zM 46 3,
 zo 47 (.gcall false false [1000000, 1000001, 1000002] [[], [], []] 47 [44, 45, 46]),
 zM 6 47]
def p49o35 := [za 49 0 1000000 0 (.mv 0),
 za 50 49 1000000 0 (.nilc 49),
 za 51 50 1000000 0 (.faddr 5 50),
 za 52 51 1000000 5 (.load false 1 51),
 za 53 0 1000000 0 (.mv 0),
 za 54 53 1000000 0 (.nilc 53),
 za 55 54 1000000 0 (.faddr 7 54),
 za 56 55 1000000 7 (.load false 1 55),
 zi 57 6 (.mv 6),
 ⟨some 58, .iaddrS 6 56 57, none, [(56, .obj 1000002), (57, .imm)]⟩,
 ⟨some 59, .faddr 5 58, none, [(58, .obj 1000002)]⟩,
 ⟨some 60, .load false 1 59, none, [(59, .obj 1000002)]⟩,
 zj 61 52 60 (.call false [[(0, 11)], [(0, 25)]] 61 [52, 60]),
 zM 48 61,
 zX 62 48 0,
 zX 63 48 1,
 zi 7 62 (.mv 62),
 zi 8 63 (.mv 63)]
def p49o36 := [zM 64 8]
def p49o37 := [zM 65 0,
 zM 66 7,
 zo 67 (.nilc 65),
 zG 68 5 67,
 zs (.store 1 68 66)]
def p49o38 := [za 69 0 1000000 0 (.mv 0),
 za 70 0 1000000 0 (.mv 0),
 za 71 70 1000000 0 (.nilc 70),
 za 72 71 1000000 0 (.faddr 6 71),
 za 73 72 1000000 6 (.load false 1 72),
 za 74 0 1000000 0 (.mv 0),
 za 75 74 1000000 0 (.nilc 74),
 za 76 75 1000000 0 (.faddr 7 75),
 za 77 76 1000000 7 (.load false 1 76),
 zi 78 6 (.mv 6),
 ⟨some 79, .iaddrS 6 77 78, none, [(77, .obj 1000002), (78, .imm)]⟩,
 ⟨some 80, .faddr 5 79, none, [(79, .obj 1000002)]⟩,
 ⟨some 81, .load false 1 80, none, [(80, .obj 1000002)]⟩,
 ⟨some 82, .app 100073 58 25 264 73 81, none, [(73, .obj 1000001), (81, .imm)]⟩,
 za 83 69 1000000 0 (.nilc 69),
 za 84 83 1000000 0 (.faddr 6 83),
 zn (.store 1 84 82) [(84, .at_ 1000000 6), (82, .obj 1000001)]]
def p49o43 := [za 85 0 1000000 0 (.mv 0),
 za 86 0 1000000 0 (.mv 0),
 za 87 86 1000000 0 (.nilc 86),
 za 88 87 1000000 0 (.faddr 7 87),
 za 89 88 1000000 7 (.load false 1 88),
 zi 90 6 (.mv 6),
 ⟨some 91, .slc 6 89 none (some 90), none, [(89, .obj 1000002), (90, .imm)]⟩,
 ⟨some 92, .app 100092 32 6 64 (.const (kl)) 91, none, [(91, .obj 1000002)]⟩,
 za 93 0 1000000 0 (.mv 0),
 za 94 93 1000000 0 (.nilc 93),
 za 95 94 1000000 0 (.faddr 7 94),
 za 96 95 1000000 7 (.load false 1 95),
 zi 97 6 (.mv 6),
 zi 98 97 (.prim (.bin .add 3 false true) [97, kk 1]),
 ⟨some 99, .slc 6 96 (some 98) none, none, [(96, .obj 1000002), (98, .imm)]⟩,
 ⟨some 100, .appT 1000002 32 6 64 92 99, none, [(92, .obj 100092), (99, .obj 1000002)]⟩,
 za 101 85 1000000 0 (.nilc 85),
 za 102 101 1000000 0 (.faddr 7 101),
 zn (.store 1 102 100) [(102, .at_ 1000000 7), (100, .obj 1000002)]]
def p49c43 : PCode := .region (some ([0, 3, 5, 6], [1000000, 1000001, 1000002], [])) true p49o43
def p49o48 := [zM 42 5,
 zK 43 .add 3 42 1,
 zM 5 43]
def p49c48 := rg p49o48
def p49c50 := sq (sq (.region (some ([0, 3, 5], [100092, 1000000, 1000001, 1000002], [])) false p49o29) (.cond 41 (.skip) (.exit 2))) (sq (.block 3 (sq (rg p49o34) (sq (rh p49o35) (sq (sq (rg p49o36) (.cond 64 (sq (rg p49o37) (rh p49o38)) (.skip))) p49c43)))) p49c48)
def p49o54 := [zM 103 0,
 zM 104 3,
 zo 105 (.nilc 103),
 zG 106 4 105,
 zs (.store 1 106 104)]
def p49o55 := [zM 2 kt]
def p49c58 := sq (rg p49o54) (sq (rg p49o55) (rt))
def p49c59 := sq (sq (rg p49o28) (.block 2 (.loop p49c50))) p49c58
def p49c60 := sq (sq (.region (some ([0, 3], [1000000, 1000001, 1000002], [])) false p49o8) (.block 0 (.loop p49c24))) p49c59
def p49c63 := sq (rg p49o1) (sq (rg p49o2) (sq (sq (rg p49o3) (.cond 18 (rg p49o4) (.skip))) p49c60))
def pc49_r : List PRes := [PRes.tmp 2 []]
def pc49 : PFunc := ⟨107, pc49_r, p49c63, false⟩
def pc49_a : Ann := {
 kr := fun
  | 4 => some ([0, 3], [1000000, 1000001, 1000002], [])
  | 5 => some ([0, 3, 4], [1000000, 1000001, 1000002], [])
  | 10 => some ([0, 3, 5], [100092, 1000000, 1000001, 1000002], [])
  | 17 => some ([0, 3, 5, 6], [1000000, 1000001, 1000002], [])
  | _ => none
 ka := fun
  | 82 => 100073
  | 92 => 100092
  | 100 => 100092
  | _ => 0
 kh := hg [([0, 49, 50, 53, 54, 69, 70, 71, 74, 75, 83, 85, 86, 87, 93, 94, 101], .at_ 1000000 0), ([6, 52, 57, 60, 62, 63, 78, 81, 90, 97, 98], .imm), ([51], .at_ 1000000 5), ([55, 76, 88, 95, 102], .at_ 1000000 7), ([56, 58, 59, 77, 79, 80, 89, 91, 96, 99, 100], .obj 1000002), ([72, 84], .at_ 1000000 6), ([73, 82], .obj 1000001), ([92], .obj 100092)]
 gf := fun d f => match d, f with
  | some 34, 47 => some (false, false, [1000000, 1000001, 1000002])
  | some 47, 47 => some (false, false, [1000000, 1000001, 1000002])
  | _, _ => none
 ow := ow0
 tk := fun d => match d with
  | some 100 => some 1000002
  | _ => none }
theorem pc49_ok : compFn Try.prog pc49_a Try.f49 = some pc49 := by kernel_rfl
def p16o1 := [zo 3 (.box 32 1 [(5, 1000000058, 25)]),
 zM 4 kf]
def p16o2 := [za 6 3 3 0 (.faddr 1 3),
 za 7 6 3 1 (.load false 1 6),
 za 8 0 1000000 0 (.mv 0),
 za 9 8 1000000 0 (.nilc 8),
 za 10 9 1000000 0 (.faddr 0 9),
 za 11 10 1000000 0 (.load false 1 10),
 zj 12 7 11 (.prim (.bin .neq 3 false false) [7, 11]),
 zi 13 12 (.mv 12),
 ⟨some 14, .faddr 2 3, some (13, false), [(3, .at_ 3 0)]⟩,
 ⟨some 15, .load false 1 14, some (13, false), [(14, .at_ 3 2)]⟩,
 ⟨some 16, .mv 0, some (13, false), [(0, .at_ 1000000 0)]⟩,
 ⟨some 17, .nilc 16, some (13, false), [(16, .at_ 1000000 0)]⟩,
 ⟨some 18, .faddr 1 17, some (13, false), [(17, .at_ 1000000 0)]⟩,
 ⟨some 19, .load false 1 18, some (13, false), [(18, .at_ 1000000 1)]⟩,
 ⟨some 20, .prim (.bin .neq 3 false false) [15, 19], some (13, false), [(15, .imm), (19, .imm)]⟩,
 zj 21 13 20 (.pick 13 kt 20),
 zi 22 21 (.mv 21),
 ⟨some 23, .faddr 0 3, some (22, false), [(3, .at_ 3 0)]⟩,
 ⟨some 24, .load false 1 23, some (22, false), [(23, .at_ 3 0)]⟩,
 ⟨some 25, .prim (.bin .lss 3 false true) [24, kk 0], some (22, false), [(24, .imm)]⟩,
 zj 26 22 25 (.pick 22 kt 25),
 zi 27 26 (.mv 26),
 ⟨some 28, .faddr 0 3, some (27, false), [(3, .at_ 3 0)]⟩,
 ⟨some 29, .load false 1 28, some (27, false), [(28, .at_ 3 0)]⟩,
 ⟨some 30, .mv 0, some (27, false), [(0, .at_ 1000000 0)]⟩,
 ⟨some 31, .nilc 30, some (27, false), [(30, .at_ 1000000 0)]⟩,
 ⟨some 32, .faddr 2 31, some (27, false), [(31, .at_ 1000000 0)]⟩,
 ⟨some 33, .load false 1 32, some (27, false), [(32, .at_ 1000000 2)]⟩,
 ⟨some 34, .prim (.bin .geq 3 false false) [29, 33], some (27, false), [(29, .imm), (33, .imm)]⟩,
 zj 35 27 34 (.pick 27 kt 34),
 zi 36 35 (.mv 35),
 ⟨some 37, .faddr 3 3, some (36, false), [(3, .at_ 3 0)]⟩,
 ⟨some 38, .load false 1 37, some (36, false), [(37, .at_ 3 3)]⟩,
 ⟨some 39, .prim (.bin .lss 3 false true) [38, kk 0], some (36, false), [(38, .imm)]⟩,
 zj 40 36 39 (.pick 36 kt 39),
 zi 41 40 (.mv 40),
 ⟨some 42, .faddr 3 3, some (41, false), [(3, .at_ 3 0)]⟩,
 ⟨some 43, .load false 1 42, some (41, false), [(42, .at_ 3 3)]⟩,
 ⟨some 44, .faddr 4 3, some (41, false), [(3, .at_ 3 0)]⟩,
 ⟨some 45, .load false 1 44, some (41, false), [(44, .at_ 3 4)]⟩,
 ⟨some 46, .prim (.bin .gtr 3 false false) [43, 45], some (41, false), [(43, .imm), (45, .imm)]⟩,
 zj 47 41 46 (.pick 41 kt 46),
 zi 48 47 (.mv 47),
 ⟨some 49, .mv 0, some (48, false), [(0, .at_ 1000000 0)]⟩,
 ⟨some 50, .nilc 49, some (48, false), [(49, .at_ 1000000 0)]⟩,
 ⟨some 51, .faddr 3 50, some (48, false), [(50, .at_ 1000000 0)]⟩,
 ⟨some 52, .load false 1 51, some (48, false), [(51, .at_ 1000000 3)]⟩,
 ⟨some 53, .prim (.bin .geq 3 false true) [52, kk 0], some (48, false), [(52, .imm)]⟩,
 ⟨some 54, .mv 53, some (48, false), [(53, .imm)]⟩,
 ⟨some 55, .faddr 3 3, some (54, true), [(3, .at_ 3 0)]⟩,
 ⟨some 56, .load false 1 55, some (54, true), [(55, .at_ 3 3)]⟩,
 ⟨some 57, .mv 0, some (54, true), [(0, .at_ 1000000 0)]⟩,
 ⟨some 58, .nilc 57, some (54, true), [(57, .at_ 1000000 0)]⟩,
 ⟨some 59, .faddr 3 58, some (54, true), [(58, .at_ 1000000 0)]⟩,
 ⟨some 60, .load false 1 59, some (54, true), [(59, .at_ 1000000 3)]⟩,
 ⟨some 61, .prim (.bin .neq 3 false false) [56, 60], some (54, true), [(56, .imm), (60, .imm)]⟩,
 ⟨some 62, .pick 54 61 kf, some (48, false), [(54, .imm), (61, .imm)]⟩,
 zj 63 48 62 (.pick 48 kt 62),
 zi 64 63 (.mv 63),
 ⟨some 65, .faddr 4 3, some (64, false), [(3, .at_ 3 0)]⟩,
 ⟨some 66, .load false 1 65, some (64, false), [(65, .at_ 3 4)]⟩,
 ⟨some 67, .mv 0, some (64, false), [(0, .at_ 1000000 0)]⟩,
 ⟨some 68, .nilc 67, some (64, false), [(67, .at_ 1000000 0)]⟩,
 ⟨some 69, .faddr 4 68, some (64, false), [(68, .at_ 1000000 0)]⟩,
 ⟨some 70, .load false 1 69, some (64, false), [(69, .at_ 1000000 4)]⟩,
 ⟨some 71, .prim (.bin .leq 3 false false) [66, 70], some (64, false), [(66, .imm), (70, .imm)]⟩,
 zj 72 64 71 (.pick 64 kt 71),
 zi 73 72 (.mv 72),
 ⟨some 74, .faddr 4 3, some (73, false), [(3, .at_ 3 0)]⟩,
 ⟨some 75, .load false 1 74, some (73, false), [(74, .at_ 3 4)]⟩,
 ⟨some 76, .prim (.bin .sub 3 false true) [75, kk 36], some (73, false), [(75, .imm)]⟩,
 ⟨some 77, .faddr 3 3, some (73, false), [(3, .at_ 3 0)]⟩,
 ⟨some 78, .load false 1 77, some (73, false), [(77, .at_ 3 3)]⟩,
 ⟨some 79, .mv 0, some (73, false), [(0, .at_ 1000000 0)]⟩,
 ⟨some 80, .nilc 79, some (73, false), [(79, .at_ 1000000 0)]⟩,
 ⟨some 81, .faddr 4 80, some (73, false), [(80, .at_ 1000000 0)]⟩,
 ⟨some 82, .load false 1 81, some (73, false), [(81, .at_ 1000000 4)]⟩,
 ⟨some 83, .prim .max [78, 82], some (73, false), [(78, .imm), (82, .imm)]⟩,
 ⟨some 84, .prim (.bin .gtr 3 false false) [76, 83], some (73, false), [(76, .imm), (83, .imm)]⟩,
 zj 85 73 84 (.pick 73 kt 84),
 zi 86 85 (.mv 85),
 ⟨some 87, .mv 0, some (86, false), [(0, .at_ 1000000 0)]⟩,
 ⟨some 88, .faddr 0 3, some (86, false), [(3, .at_ 3 0)]⟩,
 ⟨some 89, .load false 1 88, some (86, false), [(88, .at_ 3 0)]⟩,
 ⟨some 90, .faddr 4 3, some (86, false), [(3, .at_ 3 0)]⟩,
 ⟨some 91, .load false 1 90, some (86, false), [(90, .at_ 3 4)]⟩,
 ⟨some 92, .gcall false false [1000000, 1000001, 1000002] [[], [], []] 47 [87, 89, 91], some (86, false), [(87, .at_ 1000000 0), (89, .imm), (91, .imm)]⟩,
 ⟨some 93, .prim (.bin .geq 3 false true) [92, kk 0], some (86, false), [(92, .imm)]⟩,
 zj 94 86 93 (.pick 86 kt 93)]
def p16o3 := [zM 4 kf]
def p16o9 := [zM 5 (kk 0)]
def p16o10 := [zM 95 5,
 zG 96 5 3,
 zL 97 96,
 zo 98 (.lenS 97),
 zB 99 .lss 3 95 98]
def p16o15 := [zG 102 5 3,
 zL 103 102,
 zM 104 5,
 zo 105 (.iaddrS 25 103 104),
 zo 106 (.load true 25 105),
 zo 107 (.call true [[]] 48 [106]),
 zo 108 (.prim (.un .not) [107])]
def p16o16 := [zM 4 kf]
def p16o23 := [zM 100 5,
 zK 101 .add 3 100 1,
 zM 5 101]
def p16c25 := sq (sq (.region (some ([0, 3, 5], [3, 1000000, 1000001, 1000002], [])) false p16o10) (.cond 99 (.skip) (.exit 0))) (sq (.block 1 (sq (rg p16o15) (.cond 108 (sq (rg p16o16) (rt)) (.skip)))) (rg p16o23))
def p16o29 := [zM 109 0,
 zG 110 3 3,
 zL 111 110,
 zo 112 (.nilc 109),
 zG 113 3 112,
 zs (.store 1 113 111)]
def p16o30 := [za 114 0 1000000 0 (.mv 0),
 za 115 0 1000000 0 (.mv 0),
 za 116 115 1000000 0 (.nilc 115),
 za 117 116 1000000 0 (.faddr 7 116),
 za 118 117 1000000 7 (.load false 1 117),
 za 119 3 3 0 (.load true 6 3),
 zi 120 119 (.bslice 32 6 [119]),
 ⟨some 121, .app 100118 32 6 64 118 120, none, [(118, .obj 1000002), (120, .imm)]⟩,
 za 122 114 1000000 0 (.nilc 114),
 za 123 122 1000000 0 (.faddr 7 122),
 zn (.store 1 123 121) [(123, .at_ 1000000 7), (121, .obj 1000002)]]
def p16o31 := [zM 124 0,
 zo 125 (.gcall false false [1000000, 1000001, 1000002] [[]] 49 [124])]
def p16c38 := sq (sq (.region (some ([0], [3, 1000000, 1000001, 1000002], [])) false p16o31) (.cond 125 (.skip) (.exit 2))) (.block 3 (.exit 3))
def p16o41 := [zM 4 kt]
def p16c43 := sq (rg p16o41) (rt)
def p16c46 := sq (rg p16o29) (sq (rh p16o30) (sq (.block 2 (.loop p16c38)) p16c43))
def p16c47 := sq (sq (.region (some ([0, 3], [3, 1000000, 1000001, 1000002], [])) false p16o9) (.block 0 (.loop p16c25))) p16c46
def p16c49 := sq (rg p16o1) (sq (sq (rh p16o2) (.cond 94 (sq (rg p16o3) (rt)) (.skip))) p16c47)
def pc16_r : List PRes := [PRes.tmp 4 []]
def pc16 : PFunc := ⟨126, pc16_r, p16c49, false⟩
def pc16_a : Ann := {
 kr := fun
  | 3 => some ([0, 3], [3, 1000000, 1000001, 1000002], [])
  | 4 => some ([0, 3, 5], [3, 1000000, 1000001, 1000002], [])
  | 10 => some ([0], [3, 1000000, 1000001, 1000002], [])
  | _ => none
 ka := fun
  | 121 => 100118
  | _ => 0
 kh := hg [([0, 8, 9, 10, 16, 17, 30, 31, 49, 50, 57, 58, 67, 68, 79, 80, 87, 114, 115, 116, 122], .at_ 1000000 0), ([3, 23, 28, 88], .at_ 3 0), ([6], .at_ 3 1), ([7, 11, 12, 13, 15, 19, 20, 21, 22, 24, 25, 26, 27, 29, 33, 34, 35, 36, 38, 39, 40, 41, 43, 45, 46, 47, 48, 52, 53, 54, 56, 60, 61, 62, 63, 64, 66, 70, 71, 72, 73, 75, 76, 78, 82, 83, 84, 85, 86, 89, 91, 92, 93, 119, 120], .imm), ([14], .at_ 3 2), ([18], .at_ 1000000 1), ([32], .at_ 1000000 2), ([37, 42, 55, 77], .at_ 3 3), ([44, 65, 74, 90], .at_ 3 4), ([51, 59], .at_ 1000000 3), ([69, 81], .at_ 1000000 4), ([117, 123], .at_ 1000000 7), ([118, 121], .obj 1000002)]
 gf := fun d f => match d, f with
  | some 92, 47 => some (false, false, [1000000, 1000001, 1000002])
  | some 125, 49 => some (false, false, [1000000, 1000001, 1000002])
  | _, _ => none
 ow := ow0 }
theorem pc16_ok : compFn Try.prog pc16_a Try.f16 = some pc16 := by kernel_rfl
def p19o1 := [zM 4 kf]
def p19o2 := [zM 6 0,
 zo 7 (.lenS 6),
 zM 8 1,
 zo 9 (.lenS 8),
 zB 10 .neq 3 7 9]
def p19o3 := [zM 4 kf]
def p19o9 := [zM 5 (kk 0)]
def p19o10 := [zM 11 5,
 zM 12 0,
 zo 13 (.lenS 12),
 zB 14 .lss 3 11 13]
def p19o15 := [zi 17 0 (.mv 0),
 zi 18 5 (.mv 5),
 zj 19 17 18 (.iaddrS 11 17 18),
 zi 20 19 (.load true 11 19),
 zi 21 1 (.mv 1),
 zi 22 5 (.mv 5),
 zj 23 21 22 (.iaddrS 11 21 22),
 zi 24 23 (.load true 11 23),
 zj 25 20 24 (.prim (.bin .neq 54 false false) [20, 24])]
def p19o16 := [zM 4 kf]
def p19o23 := [zM 15 5,
 zK 16 .add 3 15 1,
 zM 5 16]
def p19c25 := sq (sq (.region (some ([0, 1, 5], [], [])) false p19o10) (.cond 14 (.skip) (.exit 0))) (sq (.block 1 (sq (rh p19o15) (.cond 25 (sq (rg p19o16) (rt)) (.skip)))) (rg p19o23))
def p19o29 := [zM 4 kt]
def p19c31 := sq (rg p19o29) (rt)
def p19c34 := sq (rg p19o1) (sq (sq (rg p19o2) (.cond 10 (sq (rg p19o3) (rt)) (.skip))) (sq (sq (rg p19o9) (.block 0 (.loop p19c25))) p19c31))
def pc19_r : List PRes := [PRes.tmp 4 []]
def pc19 : PFunc := ⟨26, pc19_r, p19c34, false⟩
def pc19_a : Ann := {
 kr := fun
  | 4 => some ([0, 1, 5], [], [])
  | _ => none
 ka := fun _ => 0
 kh := hg [([0, 1, 5, 17, 18, 19, 20, 21, 22, 23, 24], .imm)]
 ow := ow0 }
theorem pc19_ok : compFn Try.prog pc19_a Try.f19 = some pc19 := by kernel_rfl
def p21o1 := [zM 4 kf]
def p21o2 := [zM 6 0,
 zo 7 (.lenS 6),
 zM 8 1,
 zo 9 (.lenS 8),
 zB 10 .neq 3 7 9]
def p21o3 := [zM 4 kf]
def p21o9 := [zM 5 (kk 0)]
def p21o10 := [zM 11 5,
 zM 12 0,
 zo 13 (.lenS 12),
 zB 14 .lss 3 11 13]
def p21o15 := [zi 17 0 (.mv 0),
 zi 18 5 (.mv 5),
 zj 19 17 18 (.iaddrS 25 17 18),
 zi 20 19 (.load true 25 19),
 zi 21 1 (.mv 1),
 zi 22 5 (.mv 5),
 zj 23 21 22 (.iaddrS 25 21 22),
 zi 24 23 (.load true 25 23),
 zj 25 20 24 (.prim (.bin .neq 58 false false) [20, 24])]
def p21o16 := [zM 4 kf]
def p21o23 := [zM 15 5,
 zK 16 .add 3 15 1,
 zM 5 16]
def p21c25 := sq (sq (.region (some ([0, 1, 5], [], [])) false p21o10) (.cond 14 (.skip) (.exit 0))) (sq (.block 1 (sq (rh p21o15) (.cond 25 (sq (rg p21o16) (rt)) (.skip)))) (rg p21o23))
def p21o29 := [zM 4 kt]
def p21c31 := sq (rg p21o29) (rt)
def p21c34 := sq (rg p21o1) (sq (sq (rg p21o2) (.cond 10 (sq (rg p21o3) (rt)) (.skip))) (sq (sq (rg p21o9) (.block 0 (.loop p21c25))) p21c31))
def pc21_r : List PRes := [PRes.tmp 4 []]
def pc21 : PFunc := ⟨26, pc21_r, p21c34, false⟩
def pc21_a : Ann := {
 kr := fun
  | 4 => some ([0, 1, 5], [], [])
  | _ => none
 ka := fun _ => 0
 kh := hg [([0, 1, 5, 17, 18, 19, 20, 21, 22, 23, 24], .imm)]
 ow := ow0 }
theorem pc21_ok : compFn Try.prog pc21_a Try.f21 = some pc21 := by kernel_rfl
def p3o1 := [zM 8 kf]
def p3o2 := [zo 12 (.call true [] 11 []),
 zo 13 (.prim (.un .not) [12])]
def p3o3 := [zM 8 kf]
def p3o9 := [zM 14 3,
 zo 15 (.call true [[(0, 6)]] 12 [14]),
 zo 16 (.prim (.un .not) [15])]
def p3o10 := [zM 8 kt]
def p3o16 := [zM 17 0,
 zM 18 1,
 zM 19 2,
 zo 20 (.gcall false false [300000, 300001, 300002, 300003, 300004, 300005, 300006, 300007] [[], [], []] 13 [17, 18, 19]),
 zM 21 0,
 zM 22 1,
 zM 23 2,
 zo 24 (.gcall false false [300000, 300001, 300002, 300003, 300004, 300005, 300006, 300007] [[], [], []] 14 [21, 22, 23]),
 zM 9 20,
 zM 10 24]
def p3o17 := [zM 11 (kk 0)]
def p3o18 := [zM 25 11,
 zM 26 3,
 zo 27 (.lenS 26),
 zB 28 .lss 3 25 27]
def p3o23 := [za 31 9 300000 0 (.mv 9),
 zi 32 3 (.mv 3),
 zi 33 11 (.mv 11),
 zj 34 32 33 (.iaddrS 6 32 33),
 zi 35 34 (.load true 6 34),
 ⟨some 36, .gcall false false [300000, 300001, 300002] [[], [(5, 25)]] 15 [31, 35], none, [(31, .at_ 300000 0), (35, .imm)]⟩,
 za 37 10 300003 0 (.mv 10),
 zi 38 3 (.mv 3),
 zi 39 11 (.mv 11),
 zj 40 38 39 (.iaddrS 6 38 39),
 zi 41 40 (.load true 6 40),
 ⟨some 42, .gcall false false [300003, 300004, 300005] [[], [(5, 25)]] 16 [37, 41], none, [(37, .at_ 300003 0), (41, .imm)]⟩,
 zj 43 36 42 (.prim (.bin .neq 4 false false) [36, 42]),
 zi 44 43 (.mv 43),
 ⟨some 45, .mv 9, some (44, false), [(9, .at_ 300000 0)]⟩,
 ⟨some 46, .gcall false false [300000, 300001, 300002] [[]] 17 [45], some (44, false), [(45, .at_ 300000 0)]⟩,
 ⟨some 47, .mv 10, some (44, false), [(10, .at_ 300003 0)]⟩,
 ⟨some 48, .nilc 47, some (44, false), [(47, .at_ 300003 0)]⟩,
 ⟨some 49, .faddr 4 48, some (44, false), [(48, .at_ 300003 0)]⟩,
 ⟨some 50, .load false 1 49, some (44, false), [(49, .at_ 300003 4)]⟩,
 ⟨some 51, .prim (.bin .neq 3 false false) [46, 50], some (44, false), [(46, .imm), (50, .imm)]⟩,
 zj 52 44 51 (.pick 44 kt 51),
 zi 53 52 (.mv 52),
 ⟨some 54, .mv 9, some (53, false), [(9, .at_ 300000 0)]⟩,
 ⟨some 55, .gcall false false [300000, 300001, 300002] [[]] 18 [54], some (53, false), [(54, .at_ 300000 0)]⟩,
 ⟨some 56, .mv 10, some (53, false), [(10, .at_ 300003 0)]⟩,
 ⟨some 57, .nilc 56, some (53, false), [(56, .at_ 300003 0)]⟩,
 ⟨some 58, .faddr 7 57, some (53, false), [(57, .at_ 300003 0)]⟩,
 ⟨some 59, .load false 1 58, some (53, false), [(58, .at_ 300003 7)]⟩,
 ⟨some 60, .lenS 59, some (53, false), [(59, .obj 300005)]⟩,
 ⟨some 61, .prim (.bin .neq 3 false false) [55, 60], some (53, false), [(55, .imm), (60, .imm)]⟩,
 zj 62 53 61 (.pick 53 kt 61),
 zi 63 62 (.mv 62),
 ⟨some 64, .mv 9, some (63, false), [(9, .at_ 300000 0)]⟩,
 ⟨some 65, .gcall false false [300000, 300001, 300002] [[]] 20 [64], some (63, false), [(64, .at_ 300000 0)]⟩,
 ⟨some 66, .mv 10, some (63, false), [(10, .at_ 300003 0)]⟩,
 ⟨some 67, .nilc 66, some (63, false), [(66, .at_ 300003 0)]⟩,
 ⟨some 68, .faddr 5 67, some (63, false), [(67, .at_ 300003 0)]⟩,
 ⟨some 69, .load false 1 68, some (63, false), [(68, .at_ 300003 5)]⟩,
 ⟨some 70, .call false [[(0, 11)], [(0, 11)]] 19 [65, 69], some (63, false), [(65, .imm), (69, .imm)]⟩,
 ⟨some 71, .prim (.un .not) [70], some (63, false), [(70, .imm)]⟩,
 zj 72 63 71 (.pick 63 kt 71),
 zi 73 72 (.mv 72),
 ⟨some 74, .mv 9, some (73, false), [(9, .at_ 300000 0)]⟩,
 ⟨some 75, .gcall false false [300000, 300001, 300002] [[]] 22 [74], some (73, false), [(74, .at_ 300000 0)]⟩,
 ⟨some 76, .mv 10, some (73, false), [(10, .at_ 300003 0)]⟩,
 ⟨some 77, .nilc 76, some (73, false), [(76, .at_ 300003 0)]⟩,
 ⟨some 78, .faddr 6 77, some (73, false), [(77, .at_ 300003 0)]⟩,
 ⟨some 79, .load false 1 78, some (73, false), [(78, .at_ 300003 6)]⟩,
 ⟨some 80, .call false [[(0, 25)], [(0, 25)]] 21 [75, 79], some (73, false), [(75, .imm), (79, .obj 300004)]⟩,
 ⟨some 81, .prim (.un .not) [80], some (73, false), [(80, .imm)]⟩,
 zj 82 73 81 (.pick 73 kt 81)]
def p3o24 := [zM 8 kf]
def p3o31 := [zM 29 11,
 zK 30 .add 3 29 1,
 zM 11 30]
def p3c33 := sq (sq (.region (some ([1, 3, 9, 10, 11], [300000, 300001, 300002, 300003, 300004, 300005], [])) false p3o18) (.cond 28 (.skip) (.exit 0))) (sq (.block 1 (sq (rh p3o23) (.cond 82 (sq (rg p3o24) (rt)) (.skip)))) (rg p3o31))
def p3o37 := [zM 83 9,
 zo 84 (.gcall false false [300000, 300001, 300002] [[]] 23 [83]),
 zM 85 1,
 zB 86 .eql 3 84 85,
 zM 8 86]
def p3c39 := sq (rg p3o37) (rt)
def p3c44 := sq (rg p3o1) (sq (sq (rg p3o2) (.cond 13 (sq (rg p3o3) (rt)) (.skip))) (sq (sq (rg p3o9) (.cond 16 (sq (rg p3o10) (rt)) (.skip))) (sq (rg p3o16) (sq (sq (rg p3o17) (.block 0 (.loop p3c33))) p3c39))))
def pc3_r : List PRes := [PRes.tmp 8 []]
def pc3 : PFunc := ⟨87, pc3_r, p3c44, false⟩
def pc3_a : Ann := {
 kr := fun
  | 7 => some ([1, 3, 9, 10, 11], [300000, 300001, 300002, 300003, 300004, 300005], [])
  | _ => none
 ka := fun _ => 0
 kh := hg [([3, 11, 32, 33, 34, 35, 36, 38, 39, 40, 41, 42, 43, 44, 46, 50, 51, 52, 53, 55, 60, 61, 62, 63, 65, 69, 70, 71, 72, 73, 75, 80, 81], .imm), ([9, 31, 45, 54, 64, 74], .at_ 300000 0), ([10, 37, 47, 48, 56, 57, 66, 67, 76, 77], .at_ 300003 0), ([49], .at_ 300003 4), ([58], .at_ 300003 7), ([59], .obj 300005), ([68], .at_ 300003 5), ([78], .at_ 300003 6), ([79], .obj 300004)]
 gf := fun d f => match d, f with
  | some 20, 13 => some (false, false, [300000, 300001, 300002, 300003, 300004, 300005, 300006, 300007])
  | some 24, 14 => some (false, false, [300000, 300001, 300002, 300003, 300004, 300005, 300006, 300007])
  | some 36, 15 => some (false, false, [300000, 300001, 300002])
  | some 42, 16 => some (false, false, [300003, 300004, 300005])
  | some 46, 17 => some (false, false, [300000, 300001, 300002])
  | some 55, 18 => some (false, false, [300000, 300001, 300002])
  | some 65, 20 => some (false, false, [300000, 300001, 300002])
  | some 75, 22 => some (false, false, [300000, 300001, 300002])
  | some 84, 23 => some (false, false, [300000, 300001, 300002])
  | _, _ => none
 ow := ow0 }
theorem pc3_ok : compFn Try.prog pc3_a Try.f3 = some pc3 := by kernel_rfl
end Go.Proofs.Ythdabpmcojmhhaa
