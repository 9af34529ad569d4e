/- No condition. -/
import Derived.Test.YthdabpmcojmhhaaViewOrdersT
namespace Go.Proofs.Ythdabpmcojmhhaa
open Go Go.Rx
set_option maxRecDepth 100000
set_option linter.unusedVariables false
set_option linter.unusedSimpArgs false
set_option linter.unnecessarySimpa false
set_option linter.unnecessarySimpa false
def p13o1 := [zo 6 (.mv (.const (.pointer none)))]
def p13o2 := [zM 7 0,
 zM 8 1,
 zM 9 2,
 zo 10 (.prim .max [9, kk 1]),
 zo 11 (.prim .min [10, kk 4]),
 zo 12 .mmake,
 zo 13 (.build (.agg #[ki, ki, ki, ki, ki, kl, kl, .map none]) [(0, 1, .tmp 7), (1, 1, .tmp 8), (2, 1, .tmp 11), (3, 1, .const (.int .i64 (-1))), (4, 1, .const (.int .i64 (-1))), (7, 1, .tmp 12)]),
 zo 14 (.box 99 13 [(5, 1000000054, 11), (6, 58, 25)]),
 zM 6 14]
def p13c5 := sq (rg p13o1) (sq (rg p13o2) (rt))
def pc13_r : List PRes := [PRes.tmp 6 []]
def pc13 : PFunc := ⟨15, pc13_r, p13c5, true⟩
def pc13_a : Ann := {
 kr := fun _ => none
 ka := fun _ => 0
 kh := fun _ => none
 ow := ow0
 ex := true }
theorem pc13_ok : compFn Try.prog pc13_a Try.f13 = some pc13 := by kernel_rfl
def p77o1 := [zo 1 (.box 49 0 []),
 zM 2 kf]
def p77o2 := [zG 3 0 1,
 zL 4 3,
 zK 5 .geq 3 4 0,
 zM 6 5,
 zt 7 6 (.faddr 0 1),
 zt 8 6 (.load false 1 7),
 zt 9 6 (.prim (.bin .lss 3 false true) [8, kk 64]),
 zo 10 (.pick 6 9 kf),
 zM 11 10,
 zt 12 11 (.faddr 1 1),
 zt 13 11 (.load false 1 12),
 zt 14 11 (.prim (.bin .geq 3 false true) [13, kk 0]),
 zo 15 (.pick 11 14 kf),
 zM 16 15,
 zt 17 16 (.faddr 1 1),
 zt 18 16 (.load false 1 17),
 zt 19 16 (.prim (.bin .lss 3 false true) [18, kk 64]),
 zo 20 (.pick 16 19 kf),
 zM 2 20]
def p77c5 := sq (rg p77o1) (sq (rg p77o2) (rt))
def pc77_r : List PRes := [PRes.tmp 2 []]
def pc77 : PFunc := ⟨21, pc77_r, p77c5, false⟩
def pc77_a : Ann := {
 kr := fun _ => none
 ka := fun _ => 0
 kh := fun _ => none
 ow := ow0 }
theorem pc77_ok : compFn Try.prog pc77_a Try.f77 = some pc77 := by kernel_rfl
def p62o1 := [zo 1 (.box 51 0 []),
 zM 2 kf]
def p62o2 := [zG 3 0 1,
 zL 4 3,
 zK 5 .eql 2 4 0,
 zM 6 5,
 zf 7 6 (.faddr 1 1),
 zf 8 6 (.load false 1 7),
 zf 9 6 (.prim (.bin .eql 9 false true) [8, .const (ks)]),
 zo 10 (.pick 6 kt 9),
 zM 11 10,
 zt 12 11 (.faddr 1 1),
 zt 13 11 (.load false 1 12),
 zt 14 11 (.prim (.len 9) [13]),
 zt 15 11 (.prim (.bin .leq 3 false true) [14, kk 12]),
 zo 16 (.pick 11 15 kf),
 zM 2 16]
def p62c5 := sq (rg p62o1) (sq (rg p62o2) (rt))
def pc62_r : List PRes := [PRes.tmp 2 []]
def pc62 : PFunc := ⟨17, pc62_r, p62c5, false⟩
def pc62_a : Ann := {
 kr := fun _ => none
 ka := fun _ => 0
 kh := fun _ => none
 ow := ow0 }
theorem pc62_ok : compFn Try.prog pc62_a Try.f62 = some pc62 := by kernel_rfl
def p79o1 := [zo 1 (.box 51 0 []),
 zM 2 kf]
def p79o2 := [zo 3 (.load true 2 1),
 zo 4 (.call true [[]] 62 [3]),
 zo 5 (.prim (.un .not) [4]),
 zM 2 5]
def p79c5 := sq (rg p79o1) (sq (rg p79o2) (rt))
def pc79_r : List PRes := [PRes.tmp 2 []]
def pc79 : PFunc := ⟨6, pc79_r, p79c5, false⟩
def pc79_a : Ann := {
 kr := fun _ => none
 ka := fun _ => 0
 kh := fun _ => none
 ow := ow0 }
theorem pc79_ok : compFn Try.prog pc79_a Try.f79 = some pc79 := by kernel_rfl
def p91o1 := [zM 4 (kk 0)]
def p91o2 := [zM 6 0,
 zo 7 (.lenS 6),
 zM 8 (kk 0)]
def p91o3 := [zB 9 .lss 3 8 7]
def p91o7 := [zM 10 8,
 zM 5 10]
def p91o8 := [zM 11 1,
 zM 12 0,
 zM 13 5,
 zo 14 (.iaddrS 2 12 13),
 zo 15 (.load true 2 14),
 zo 16 (.callv true [[]] 11 [15])]
def p91o9 := [zM 17 5,
 zM 4 17]
def p91o17 := [zK 18 .add 3 8 1,
 zM 8 18]
def p91c20 := sq (.region (some ([0, 1, 7, 8], [], [])) false p91o3) (sq (.cond 9 (.skip) (.exit 0)) (sq (.block 1 (sq (rg p91o7) (sq (rg p91o8) (.cond 16 (sq (rg p91o9) (rt)) (.skip))))) (rg p91o17)))
def p91o24 := [zM 4 (kk (-1))]
def p91c26 := sq (rg p91o24) (rt)
def p91c28 := sq (rg p91o1) (sq (sq (rg p91o2) (.block 0 (.loop p91c20))) p91c26)
def pc91_r : List PRes := [PRes.tmp 4 []]
def pc91 : PFunc := ⟨19, pc91_r, p91c28, false⟩
def pc91_a : Ann := {
 kr := fun
  | 2 => some ([0, 1, 7, 8], [], [])
  | _ => none
 ka := fun _ => 0
 kh := fun _ => none
 ow := ow0 }
theorem pc91_ok : compFn Try.prog pc91_a Try.f91 = some pc91 := by kernel_rfl
def p78o1 := [zM 4 kf]
def p78o2 := [zM 5 0,
 zM 6 1,
 zo 7 (.gcall false false [300000, 300001, 300002, 300003, 300004, 300005, 300006, 300007] [[(0, 2)], []] 91 [5, 6]),
 zK 8 .geq 3 7 0,
 zM 4 8]
def p78c5 := sq (rg p78o1) (sq (rg p78o2) (rt))
def pc78_r : List PRes := [PRes.tmp 4 []]
def pc78 : PFunc := ⟨9, pc78_r, p78c5, false⟩
def pc78_a : Ann := {
 kr := fun _ => none
 ka := fun _ => 0
 kh := fun _ => none
 gf := fun d f => match d, f with
  | some 7, 91 => some (false, false, [300000, 300001, 300002, 300003, 300004, 300005, 300006, 300007])
  | _, _ => none
 ow := ow0 }
theorem pc78_ok : compFn Try.prog pc78_a Try.f78 = some pc78 := by kernel_rfl
def p72o1 := [zo 1 (.box 54 0 []),
 zM 2 kf]
def p72o2 := [zG 3 0 1,
 zL 4 3,
 zK 5 .geq 3 4 0,
 zM 6 5,
 zt 7 6 (.faddr 0 1),
 zt 8 6 (.load false 1 7),
 zt 9 6 (.prim (.bin .leq 3 false true) [8, kk 1000000]),
 zo 10 (.pick 6 9 kf),
 zM 11 10,
 zt 12 11 (.faddr 1 1),
 zt 13 11 (.load true 2 12),
 zt 14 11 (.call true [[]] 77 [13]),
 zo 15 (.pick 11 14 kf),
 zM 16 15,
 zt 17 16 (.faddr 3 1),
 zt 18 16 (.slcA 4 2 17 none none),
 zt 19 16 (.gcall false false [1, 300000, 300001, 300002, 300003, 300004, 300005, 300006, 300007] [[(0, 2)], []] 78 [18, .func 79]),
 zt 20 16 (.prim (.un .not) [19]),
 zo 21 (.pick 16 20 kf),
 zM 2 21]
def p72c5 := sq (rg p72o1) (sq (rg p72o2) (rt))
def pc72_r : List PRes := [PRes.tmp 2 []]
def pc72 : PFunc := ⟨22, pc72_r, p72c5, false⟩
def pc72_a : Ann := {
 kr := fun _ => none
 ka := fun _ => 0
 kh := fun _ => none
 gf := fun d f => match d, f with
  | some 19, 78 => some (false, false, [1, 300000, 300001, 300002, 300003, 300004, 300005, 300006, 300007])
  | _, _ => none
 ow := ow0 }
theorem pc72_ok : compFn Try.prog pc72_a Try.f72 = some pc72 := by kernel_rfl
def p80o1 := [zM 4 kf]
def p80o2 := [zM 5 0,
 zM 6 1,
 zK 7 .add 3 6 1,
 zB 8 .shr 5 5 7,
 zo 9 (.prim (.bin .and 5 false true) [8, .const (.int .u8 1)]),
 zo 10 (.prim (.bin .eql 5 false true) [9, .const (.int .u8 1)]),
 zM 4 10]
def p80c5 := sq (rg p80o1) (sq (rg p80o2) (rt))
def pc80_r : List PRes := [PRes.tmp 4 []]
def pc80 : PFunc := ⟨11, pc80_r, p80c5, false⟩
def pc80_a : Ann := {
 kr := fun _ => none
 ka := fun _ => 0
 kh := fun _ => none
 ow := ow0 }
theorem pc80_ok : compFn Try.prog pc80_a Try.f80 = some pc80 := by kernel_rfl
def p73o1 := [zo 1 (.box 56 0 []),
 zM 2 kf]
def p73o2 := [zG 5 0 1,
 zL 6 5,
 zK 7 .lss 3 6 0,
 zM 8 7,
 zf 9 8 (.faddr 0 1),
 zf 10 8 (.load false 1 9),
 zf 11 8 (.prim (.bin .gtr 3 false true) [10, kk 1000000]),
 zo 12 (.pick 8 kt 11),
 zM 13 12,
 zf 14 13 (.faddr 1 1),
 zf 15 13 (.load false 1 14),
 zf 16 13 (.prim (.bin .eql 5 false true) [15, .const (.int .u8 0)]),
 zo 17 (.pick 13 kt 16),
 zM 18 17,
 zf 19 18 (.faddr 1 1),
 zf 20 18 (.load false 1 19),
 zf 21 18 (.prim (.bin .gtr 5 false true) [20, .const (.int .u8 31)]),
 zo 22 (.pick 18 kt 21)]
def p73o3 := [zM 2 kf]
def p73o9 := [zG 23 1 1,
 zL 24 23,
 zo 25 (.prim (.bin .and 5 false true) [24, .const (.int .u8 1)]),
 zo 26 (.prim (.bin .eql 5 false true) [25, .const (.int .u8 0)]),
 zM 27 26,
 zt 28 27 (.faddr 2 1),
 zt 29 27 (.load true 2 28),
 zt 30 27 (.build (.agg #[ki, ki]) []),
 zt 31 27 (.prim (.bin .neq 49 false false) [29, 30]),
 zo 32 (.pick 27 31 kf),
 zM 33 32,
 zf 34 33 (.faddr 2 1),
 zf 35 33 (.load true 2 34),
 zf 36 33 (.call true [[]] 77 [35]),
 zf 37 33 (.prim (.un .not) [36]),
 zo 38 (.pick 33 kt 37)]
def p73o10 := [zM 2 kf]
def p73o16 := [zG 39 4 1,
 zo 40 (.load true 8 39),
 zM 41 (kk 0)]
def p73o17 := [zK 42 .lss 3 41 4]
def p73o21 := [zM 43 41,
 zo 44 (.idx true 2 4 40 41),
 zo 4 (.alloc 51 (.agg #[ki, ks]) []),
 zM 3 43,
 zs (.store 2 4 44)]
def p73o22 := [zo 45 (.load true 2 4),
 zo 46 (.call true [[]] 62 [45]),
 zo 47 (.prim (.un .not) [46]),
 zM 48 47,
 zf 49 48 (.faddr 1 1),
 zf 50 48 (.load false 1 49),
 zf 51 48 (.mv 3),
 zf 52 48 (.call true [[], []] 80 [50, 51]),
 zf 53 48 (.prim (.un .not) [52]),
 zf 54 48 (.mv 53),
 zt 55 54 (.load true 2 4),
 zt 56 54 (.build (.agg #[ki, ks]) []),
 zt 57 54 (.prim (.bin .neq 51 false false) [55, 56]),
 zf 58 48 (.pick 54 57 kf),
 zo 59 (.pick 48 kt 58)]
def p73o23 := [zM 2 kf]
def p73o31 := [zK 60 .add 3 41 1,
 zM 41 60]
def p73c34 := sq (.region (some ([1, 40, 41], [1, 4], [])) false p73o17) (sq (.cond 42 (.skip) (.exit 0)) (sq (.block 1 (sq (rg p73o21) (sq (rg p73o22) (.cond 59 (sq (rg p73o23) (rt)) (.skip))))) (rg p73o31)))
def p73o38 := [zM 2 kt]
def p73c40 := sq (rg p73o38) (rt)
def p73c41 := sq (sq (.region (some ([1], [1], [])) false p73o16) (.block 0 (.loop p73c34))) p73c40
def p73c44 := sq (rg p73o1) (sq (sq (rg p73o2) (.cond 22 (sq (rg p73o3) (rt)) (.skip))) (sq (sq (rg p73o9) (.cond 38 (sq (rg p73o10) (rt)) (.skip))) p73c41))
def pc73_r : List PRes := [PRes.tmp 2 []]
def pc73 : PFunc := ⟨61, pc73_r, p73c44, false⟩
def pc73_a : Ann := {
 kr := fun
  | 5 => some ([1], [1], [])
  | 6 => some ([1, 40, 41], [1, 4], [])
  | _ => none
 ka := fun _ => 0
 kh := fun _ => none
 ow := ow0 }
theorem pc73_ok : compFn Try.prog pc73_a Try.f73 = some pc73 := by kernel_rfl
def p57o1 := [zo 1 (.box 58 0 []),
 zM 2 kf]
def p57o2 := [za 5 1 1 0 (.faddr 2 1),
 za 6 5 1 2 (.load true 11 5),
 zo 7 (.build (.agg #[ki, ki, ki, ki, ks, ki, ks, ki, ks, ki, ks]) []),
 zj 8 6 7 (.prim (.bin .eql 54 false false) [6, 7]),
 za 9 1 1 0 (.faddr 13 1),
 za 10 9 1 13 (.load true 12 9),
 zo 11 (.build (.agg #[ki, .int .u8 0, ki, ki, ki, ks, ki, ks, ki, ks, ki, ks]) []),
 zj 12 10 11 (.prim (.bin .eql 56 false false) [10, 11]),
 zi 3 8 (.mv 8),
 zi 4 12 (.mv 12)]
def p57o3 := [zG 13 0 1,
 zL 14 13]
def p57o4 := [zK 16 .eql 3 14 1,
 zM 15 16]
def p57o5 := [zG 17 2 1,
 zo 18 (.load true 11 17),
 zo 19 (.call true [[]] 72 [18]),
 zM 20 19,
 zt 21 20 (.faddr 1 1),
 zt 22 20 (.load false 1 21),
 zt 23 20 (.faddr 2 1),
 zt 24 20 (.faddr 0 23),
 zt 25 20 (.load false 1 24),
 zt 26 20 (.prim (.bin .eql 3 false false) [22, 25]),
 zo 27 (.pick 20 26 kf),
 zM 28 27,
 zt 29 28 (.mv 4),
 zo 30 (.pick 28 29 kf),
 zM 2 30]
def p57o8 := [zK 32 .eql 3 14 2,
 zM 31 32]
def p57o9 := [zG 33 13 1,
 zo 34 (.load true 12 33),
 zo 35 (.call true [[]] 73 [34]),
 zM 36 35,
 zt 37 36 (.faddr 1 1),
 zt 38 36 (.load false 1 37),
 zt 39 36 (.faddr 13 1),
 zt 40 36 (.faddr 0 39),
 zt 41 36 (.load false 1 40),
 zt 42 36 (.prim (.bin .eql 3 false false) [38, 41]),
 zo 43 (.pick 36 42 kf),
 zM 44 43,
 zt 45 44 (.mv 3),
 zo 46 (.pick 44 45 kf),
 zM 2 46]
def p57o12 := [zK 48 .eql 3 14 3,
 zM 47 48]
def p57o13 := [zG 49 1 1,
 zL 50 49,
 zK 51 .geq 3 50 0,
 zM 52 51,
 zt 53 52 (.faddr 1 1),
 zt 54 52 (.load false 1 53),
 zt 55 52 (.prim (.bin .leq 3 false true) [54, kk 1000000]),
 zo 56 (.pick 52 55 kf),
 zM 57 56,
 zt 58 57 (.mv 3),
 zo 59 (.pick 57 58 kf),
 zM 60 59,
 zt 61 60 (.mv 4),
 zo 62 (.pick 60 61 kf),
 zM 2 62]
def p57o25 := [zM 2 kf]
def p57c30 := sq (rg p57o1) (sq (rh p57o2) (sq (sq (rg p57o3) (.block 0 (sq (rg p57o4) (.cond 15 (sq (rg p57o5) (rt)) (sq (rg p57o8) (.cond 31 (sq (rg p57o9) (rt)) (sq (rg p57o12) (.cond 47 (sq (rg p57o13) (rt)) (.skip))))))))) (sq (rg p57o25) (rt))))
def pc57_r : List PRes := [PRes.tmp 2 []]
def pc57 : PFunc := ⟨63, pc57_r, p57c30, false⟩
def pc57_a : Ann := {
 kr := fun _ => none
 ka := fun _ => 0
 kh := hg [([1], .at_ 1 0), ([5], .at_ 1 2), ([6, 7, 8, 10, 11, 12], .imm), ([9], .at_ 1 13)]
 ow := ow0 }
theorem pc57_ok : compFn Try.prog pc57_a Try.f57 = some pc57 := by kernel_rfl
def p56o1 := [zo 1 (.box 58 0 []),
 zM 2 kf]
def p56o2 := [zo 3 (.load true 25 1),
 zo 4 (.call true [[]] 57 [3]),
 zo 5 (.prim (.un .not) [4]),
 zM 2 5]
def p56c5 := sq (rg p56o1) (sq (rg p56o2) (rt))
def pc56_r : List PRes := [PRes.tmp 2 []]
def pc56 : PFunc := ⟨6, pc56_r, p56c5, false⟩
def pc56_a : Ann := {
 kr := fun _ => none
 ka := fun _ => 0
 kh := fun _ => none
 ow := ow0 }
theorem pc56_ok : compFn Try.prog pc56_a Try.f56 = some pc56 := by kernel_rfl
def p71o1 := [zM 4 (kk 0)]
def p71o2 := [zM 6 0,
 zo 7 (.lenS 6),
 zM 8 (kk 0)]
def p71o3 := [zB 9 .lss 3 8 7]
def p71o7 := [zM 10 8,
 zM 5 10]
def p71o8 := [zM 11 1,
 zM 12 0,
 zM 13 5,
 zo 14 (.iaddrS 25 12 13),
 zo 15 (.load true 25 14),
 zo 16 (.callv true [[]] 11 [15])]
def p71o9 := [zM 17 5,
 zM 4 17]
def p71o17 := [zK 18 .add 3 8 1,
 zM 8 18]
def p71c20 := sq (.region (some ([0, 1, 7, 8], [], [])) false p71o3) (sq (.cond 9 (.skip) (.exit 0)) (sq (.block 1 (sq (rg p71o7) (sq (rg p71o8) (.cond 16 (sq (rg p71o9) (rt)) (.skip))))) (rg p71o17)))
def p71o24 := [zM 4 (kk (-1))]
def p71c26 := sq (rg p71o24) (rt)
def p71c28 := sq (rg p71o1) (sq (sq (rg p71o2) (.block 0 (.loop p71c20))) p71c26)
def pc71_r : List PRes := [PRes.tmp 4 []]
def pc71 : PFunc := ⟨19, pc71_r, p71c28, false⟩
def pc71_a : Ann := {
 kr := fun
  | 2 => some ([0, 1, 7, 8], [], [])
  | _ => none
 ka := fun _ => 0
 kh := fun _ => none
 ow := ow0 }
theorem pc71_ok : compFn Try.prog pc71_a Try.f71 = some pc71 := by kernel_rfl
def p55o1 := [zM 4 kf]
def p55o2 := [zM 5 0,
 zM 6 1,
 zo 7 (.gcall false false [300000, 300001, 300002, 300003, 300004, 300005, 300006, 300007] [[(0, 25)], []] 71 [5, 6]),
 zK 8 .geq 3 7 0,
 zM 4 8]
def p55c5 := sq (rg p55o1) (sq (rg p55o2) (rt))
def pc55_r : List PRes := [PRes.tmp 4 []]
def pc55 : PFunc := ⟨9, pc55_r, p55c5, false⟩
def pc55_a : Ann := {
 kr := fun _ => none
 ka := fun _ => 0
 kh := fun _ => none
 gf := fun d f => match d, f with
  | some 7, 71 => some (false, false, [300000, 300001, 300002, 300003, 300004, 300005, 300006, 300007])
  | _, _ => none
 ow := ow0 }
theorem pc55_ok : compFn Try.prog pc55_a Try.f55 = some pc55 := by kernel_rfl
def p44o1 := [zo 3 (.box 32 1 [(5, 1000000058, 25)]),
 zM 4 kf]
def p44o2 := [za 8 3 3 0 (.faddr 1 3),
 za 9 8 3 1 (.load false 1 8),
 za 10 0 1000000 0 (.mv 0),
 za 11 10 1000000 0 (.nilc 10),
 za 12 11 1000000 0 (.faddr 0 11),
 za 13 12 1000000 0 (.load false 1 12),
 zj 14 9 13 (.prim (.bin .neq 3 false false) [9, 13]),
 zi 15 14 (.mv 14),
 ⟨some 16, .faddr 2 3, some (15, false), [(3, .at_ 3 0)]⟩,
 ⟨some 17, .load false 1 16, some (15, false), [(16, .at_ 3 2)]⟩,
 ⟨some 18, .mv 0, some (15, false), [(0, .at_ 1000000 0)]⟩,
 ⟨some 19, .nilc 18, some (15, false), [(18, .at_ 1000000 0)]⟩,
 ⟨some 20, .faddr 1 19, some (15, false), [(19, .at_ 1000000 0)]⟩,
 ⟨some 21, .load false 1 20, some (15, false), [(20, .at_ 1000000 1)]⟩,
 ⟨some 22, .prim (.bin .neq 3 false false) [17, 21], some (15, false), [(17, .imm), (21, .imm)]⟩,
 zj 23 15 22 (.pick 15 kt 22),
 zi 24 23 (.mv 23),
 ⟨some 25, .faddr 0 3, some (24, false), [(3, .at_ 3 0)]⟩,
 ⟨some 26, .load false 1 25, some (24, false), [(25, .at_ 3 0)]⟩,
 ⟨some 27, .prim (.bin .lss 3 false true) [26, kk 0], some (24, false), [(26, .imm)]⟩,
 zj 28 24 27 (.pick 24 kt 27),
 zi 29 28 (.mv 28),
 ⟨some 30, .faddr 0 3, some (29, false), [(3, .at_ 3 0)]⟩,
 ⟨some 31, .load false 1 30, some (29, false), [(30, .at_ 3 0)]⟩,
 ⟨some 32, .mv 0, some (29, false), [(0, .at_ 1000000 0)]⟩,
 ⟨some 33, .nilc 32, some (29, false), [(32, .at_ 1000000 0)]⟩,
 ⟨some 34, .faddr 2 33, some (29, false), [(33, .at_ 1000000 0)]⟩,
 ⟨some 35, .load false 1 34, some (29, false), [(34, .at_ 1000000 2)]⟩,
 ⟨some 36, .prim (.bin .geq 3 false false) [31, 35], some (29, false), [(31, .imm), (35, .imm)]⟩,
 zj 37 29 36 (.pick 29 kt 36),
 zi 7 37 (.mv 37)]
def p44o3 := [zM 4 kf]
def p44o6 := [za 39 3 3 0 (.faddr 3 3),
 za 40 39 3 3 (.load false 1 39),
 zi 41 40 (.prim (.bin .lss 3 false true) [40, kk 0]),
 zi 42 41 (.mv 41),
 ⟨some 43, .faddr 3 3, some (42, false), [(3, .at_ 3 0)]⟩,
 ⟨some 44, .load false 1 43, some (42, false), [(43, .at_ 3 3)]⟩,
 ⟨some 45, .faddr 4 3, some (42, false), [(3, .at_ 3 0)]⟩,
 ⟨some 46, .load false 1 45, some (42, false), [(45, .at_ 3 4)]⟩,
 ⟨some 47, .prim (.bin .gtr 3 false false) [44, 46], some (42, false), [(44, .imm), (46, .imm)]⟩,
 zj 48 42 47 (.pick 42 kt 47),
 zi 49 48 (.mv 48),
 ⟨some 50, .mv 0, some (49, false), [(0, .at_ 1000000 0)]⟩,
 ⟨some 51, .nilc 50, some (49, false), [(50, .at_ 1000000 0)]⟩,
 ⟨some 52, .faddr 4 51, some (49, false), [(51, .at_ 1000000 0)]⟩,
 ⟨some 53, .load false 1 52, some (49, false), [(52, .at_ 1000000 4)]⟩,
 ⟨some 54, .prim (.bin .neq 3 false true) [53, .const (.int .i64 (-1))], some (49, false), [(53, .imm)]⟩,
 ⟨some 55, .mv 54, some (49, false), [(54, .imm)]⟩,
 ⟨some 56, .faddr 3 3, some (55, true), [(3, .at_ 3 0)]⟩,
 ⟨some 57, .load false 1 56, some (55, true), [(56, .at_ 3 3)]⟩,
 ⟨some 58, .mv 0, some (55, true), [(0, .at_ 1000000 0)]⟩,
 ⟨some 59, .nilc 58, some (55, true), [(58, .at_ 1000000 0)]⟩,
 ⟨some 60, .faddr 4 59, some (55, true), [(59, .at_ 1000000 0)]⟩,
 ⟨some 61, .load false 1 60, some (55, true), [(60, .at_ 1000000 4)]⟩,
 ⟨some 62, .prim (.bin .neq 3 false false) [57, 61], some (55, true), [(57, .imm), (61, .imm)]⟩,
 ⟨some 63, .pick 55 62 kf, some (49, false), [(55, .imm), (62, .imm)]⟩,
 zj 64 49 63 (.pick 49 kt 63),
 zi 38 64 (.mv 64)]
def p44o7 := [zM 4 kf]
def p44o10 := [za 66 3 3 0 (.faddr 4 3),
 za 67 66 3 4 (.load false 1 66),
 za 68 0 1000000 0 (.mv 0),
 za 69 68 1000000 0 (.nilc 68),
 za 70 69 1000000 0 (.faddr 3 69),
 za 71 70 1000000 3 (.load false 1 70),
 zj 72 67 71 (.prim (.bin .leq 3 false false) [67, 71]),
 zi 73 72 (.mv 72),
 ⟨some 74, .faddr 4 3, some (73, false), [(3, .at_ 3 0)]⟩,
 ⟨some 75, .load false 1 74, some (73, false), [(74, .at_ 3 4)]⟩,
 ⟨some 76, .faddr 3 3, some (73, false), [(3, .at_ 3 0)]⟩,
 ⟨some 77, .load false 1 76, some (73, false), [(76, .at_ 3 3)]⟩,
 ⟨some 78, .mv 0, some (73, false), [(0, .at_ 1000000 0)]⟩,
 ⟨some 79, .nilc 78, some (73, false), [(78, .at_ 1000000 0)]⟩,
 ⟨some 80, .faddr 3 79, some (73, false), [(79, .at_ 1000000 0)]⟩,
 ⟨some 81, .load false 1 80, some (73, false), [(80, .at_ 1000000 3)]⟩,
 ⟨some 82, .prim .max [77, 81], some (73, false), [(77, .imm), (81, .imm)]⟩,
 ⟨some 83, .prim (.bin .sub 3 false false) [75, 82], some (73, false), [(75, .imm), (82, .imm)]⟩,
 ⟨some 84, .prim (.bin .gtr 3 false true) [83, kk 36], some (73, false), [(83, .imm)]⟩,
 zj 85 73 84 (.pick 73 kt 84),
 zi 65 85 (.mv 85)]
def p44o11 := [zM 4 kf]
def p44c16 := sq (.region (some ([0, 3], [3, 1000000, 1000001, 1000002], [])) true p44o10) (.cond 65 (sq (rg p44o11) (rt)) (.skip))
def p44o22 := [za 87 0 1000000 0 (.mv 0),
 za 88 87 1000000 0 (.nilc 87),
 za 89 88 1000000 0 (.faddr 7 88),
 za 90 89 1000000 7 (.load false 1 89),
 za 91 3 3 0 (.faddr 0 3),
 za 92 91 3 0 (.load false 1 91),
 za 93 3 3 0 (.faddr 4 3),
 za 94 93 3 4 (.load false 1 93),
 zj 95 92 94 (.build (.agg #[ki, ki]) [(0, 1, .tmp 92), (1, 1, .tmp 94)]),
 ⟨some 96, .mlook true 97 [(0, 25)] 90 95, none, [(90, .obj 1000002), (95, .imm)]⟩,
 zM 86 96,
 zX 97 86 0,
 zX 98 86 1,
 zi 5 97 (.mv 97),
 zi 6 98 (.mv 98)]
def p44o23 := [zM 99 6]
def p44o24 := [zM 4 kf]
def p44o31 := [zG 100 5 3,
 zL 101 100,
 zo 102 (.gcall false false [300000, 300001, 300002, 300003, 300004, 300005, 300006, 300007] [[(0, 25)], []] 55 [101, .func 56]),
 zo 103 (.prim (.un .not) [102]),
 zM 4 103]
def p44c34 := sq (sq (rh p44o22) (sq (rg p44o23) (.cond 99 (sq (rg p44o24) (rt)) (.skip)))) (sq (rg p44o31) (rt))
def p44c36 := sq (rg p44o1) (sq (.block 0 (sq (rh p44o2) (.cond 7 (sq (rg p44o3) (rt)) (sq (rh p44o6) (.cond 38 (sq (rg p44o7) (rt)) p44c16))))) p44c34)
def pc44_r : List PRes := [PRes.tmp 4 []]
def pc44 : PFunc := ⟨104, pc44_r, p44c36, false⟩
def pc44_a : Ann := {
 kr := fun
  | 5 => some ([0, 3], [3, 1000000, 1000001, 1000002], [])
  | _ => none
 ka := fun _ => 0
 kh := hg [([0, 10, 11, 12, 18, 19, 32, 33, 50, 51, 58, 59, 68, 69, 78, 79, 87, 88], .at_ 1000000 0), ([3, 25, 30, 91], .at_ 3 0), ([8], .at_ 3 1), ([9, 13, 14, 15, 17, 21, 22, 23, 24, 26, 27, 28, 29, 31, 35, 36, 37, 40, 41, 42, 44, 46, 47, 48, 49, 53, 54, 55, 57, 61, 62, 63, 64, 67, 71, 72, 73, 75, 77, 81, 82, 83, 84, 85, 92, 94, 95, 97, 98], .imm), ([16], .at_ 3 2), ([20], .at_ 1000000 1), ([34], .at_ 1000000 2), ([39, 43, 56, 76], .at_ 3 3), ([45, 66, 74, 93], .at_ 3 4), ([52, 60], .at_ 1000000 4), ([70, 80], .at_ 1000000 3), ([89], .at_ 1000000 7), ([90], .obj 1000002)]
 gf := fun d f => match d, f with
  | some 102, 55 => some (false, false, [300000, 300001, 300002, 300003, 300004, 300005, 300006, 300007])
  | _, _ => none
 ow := ow0 }
theorem pc44_ok : compFn Try.prog pc44_a Try.f44 = some pc44 := by kernel_rfl
def p92o1 := [zM 2 kf]
def p92o2 := [zM 3 0,
 zM 4 0,
 zB 5 .neq 3 3 4,
 zM 2 5]
def p92c5 := sq (rg p92o1) (sq (rg p92o2) (rt))
def pc92_r : List PRes := [PRes.tmp 2 []]
def pc92 : PFunc := ⟨6, pc92_r, p92c5, false⟩
def pc92_a : Ann := {
 kr := fun _ => none
 ka := fun _ => 0
 kh := fun _ => none
 ow := ow0 }
theorem pc92_ok : compFn Try.prog pc92_a Try.f92 = some pc92 := by kernel_rfl
def p83o1 := [zM 4 (kk 0)]
def p83o2 := [zM 7 0,
 zo 8 (.call true [[]] 92 [7]),
 zM 5 8]
def p83o3 := [zM 9 1,
 zo 10 (.call true [[]] 92 [9]),
 zM 6 10]
def p83o4 := [zM 11 5]
def p83o5 := [zM 12 6]
def p83o6 := [zM 4 (kk 0)]
def p83o12 := [zM 4 (kk (-1))]
def p83o19 := [zM 13 6]
def p83o20 := [zM 4 (kk 1)]
def p83o26 := [zM 14 0,
 zM 15 1,
 zB 16 .lss 3 14 15]
def p83o27 := [zM 4 (kk (-1))]
def p83o33 := [zM 17 0,
 zM 18 1,
 zB 19 .gtr 3 17 18]
def p83o34 := [zM 4 (kk 1)]
def p83o40 := [zM 4 (kk 0)]
def p83c49 := sq (rg p83o1) (sq (rg p83o2) (sq (rg p83o3) (sq (sq (rg p83o4) (.cond 11 (sq (sq (rg p83o5) (.cond 12 (sq (rg p83o6) (rt)) (.skip))) (sq (rg p83o12) (rt))) (.skip))) (sq (sq (rg p83o19) (.cond 13 (sq (rg p83o20) (rt)) (.skip))) (sq (sq (rg p83o26) (.cond 16 (sq (rg p83o27) (rt)) (.skip))) (sq (sq (rg p83o33) (.cond 19 (sq (rg p83o34) (rt)) (.skip))) (sq (rg p83o40) (rt))))))))
def pc83_r : List PRes := [PRes.tmp 4 []]
def pc83 : PFunc := ⟨20, pc83_r, p83c49, false⟩
def pc83_a : Ann := {
 kr := fun _ => none
 ka := fun _ => 0
 kh := fun _ => none
 ow := ow0 }
theorem pc83_ok : compFn Try.prog pc83_a Try.f83 = some pc83 := by kernel_rfl
def p82o1 := [zo 2 (.box 54 0 []),
 zM 4 (kk 0)]
def p82o2 := [zG 5 0 2,
 zL 6 5,
 zM 7 1,
 zo 8 (.call true [[], []] 83 [6, 7]),
 zM 4 8]
def p82c5 := sq (rg p82o1) (sq (rg p82o2) (rt))
def pc82_r : List PRes := [PRes.tmp 4 []]
def pc82 : PFunc := ⟨9, pc82_r, p82c5, false⟩
def pc82_a : Ann := {
 kr := fun _ => none
 ka := fun _ => 0
 kh := fun _ => none
 ow := ow0 }
theorem pc82_ok : compFn Try.prog pc82_a Try.f82 = some pc82 := by kernel_rfl
def p81o1 := [zM 6 (kk 0),
 zM 7 kf]
def p81o2 := [zM 12 0,
 zo 13 (.lenS 12),
 zM 8 13]
def p81o3 := [zM 14 8,
 zM 9 (kk 0),
 zM 10 14]
def p81o4 := [zM 15 9,
 zM 16 10,
 zB 17 .lss 3 15 16]
def p81o9 := [zM 18 9,
 zM 19 10,
 zB 20 .add 3 18 19,
 zo 21 (.prim (.conv 3 122) [20]),
 zo 22 (.prim (.bin .shr 122 false true) [21, .const (.int .u64 1)]),
 zo 23 (.prim (.conv 122 3) [22]),
 zM 11 23]
def p81o10 := [zM 24 2,
 zM 25 0,
 zM 26 11,
 zo 27 (.iaddrS 11 25 26),
 zo 28 (.load true 11 27),
 zM 29 1,
 zo 30 (.callv true [[], []] 24 [28, 29]),
 zK 31 .lss 3 30 0]
def p81o11 := [zM 32 11,
 zK 33 .add 3 32 1,
 zM 9 33]
def p81o12 := [zM 34 11,
 zM 10 34]
def p81c17 := sq (sq (.region (some ([0, 1, 2, 8, 9, 10], [], [])) false p81o4) (.cond 17 (.skip) (.exit 0))) (.block 1 (sq (rg p81o9) (sq (rg p81o10) (.cond 31 (rg p81o11) (rg p81o12)))))
def p81o20 := [zM 35 9,
 zM 36 9,
 zM 37 8,
 zB 38 .lss 3 36 37,
 zM 39 38,
 zt 40 39 (.mv 2),
 zt 41 39 (.mv 0),
 zt 42 39 (.mv 9),
 zt 43 39 (.iaddrS 11 41 42),
 zt 44 39 (.load true 11 43),
 zt 45 39 (.mv 1),
 zt 46 39 (.callv true [[], []] 40 [44, 45]),
 zt 47 39 (.prim (.bin .eql 3 false true) [46, kk 0]),
 zo 48 (.pick 39 47 kf),
 zM 6 35,
 zM 7 48]
def p81c22 := sq (rg p81o20) (rt)
def p81c26 := sq (rg p81o1) (sq (rg p81o2) (sq (rg p81o3) (sq (.block 0 (.loop p81c17)) p81c22)))
def pc81_r : List PRes := [PRes.tmp 6 [], PRes.tmp 7 []]
def pc81 : PFunc := ⟨49, pc81_r, p81c26, false⟩
def pc81_a : Ann := {
 kr := fun
  | 3 => some ([0, 1, 2, 8, 9, 10], [], [])
  | _ => none
 ka := fun _ => 0
 kh := fun _ => none
 ow := ow0 }
theorem pc81_ok : compFn Try.prog pc81_a Try.f81 = some pc81 := by kernel_rfl
def p85o1 := [zo 2 (.box 54 0 []),
 zo 3 (.box 56 1 []),
 zo 4 (.alloc 54 (.agg #[ki, ki, ki, ki, ks, ki, ks, ki, ks, ki, ks]) [])]
def p85o2 := [zG 7 1 3,
 zL 8 7,
 zo 9 (.prim (.bin .and 5 false true) [8, .const (.int .u8 1)]),
 zo 10 (.prim (.bin .neq 5 false true) [9, .const (.int .u8 0)])]
def p85o3 := [zG 11 2 3,
 zo 12 (.load true 2 11),
 zG 13 1 2,
 zs (.store 2 13 12)]
def p85o7 := [zG 14 4 3,
 zo 15 (.load true 8 14),
 zM 16 (kk 0)]
def p85o8 := [zK 17 .lss 3 16 4]
def p85o12 := [zM 18 16,
 zo 19 (.idx true 2 4 15 16),
 zo 6 (.alloc 51 (.agg #[ki, ks]) []),
 zM 5 18,
 zs (.store 2 6 19)]
def p85o13 := [zG 20 1 3,
 zL 21 20,
 zM 22 5,
 zo 23 (.call true [[], []] 80 [21, 22])]
def p85o14 := [zM 24 5,
 zo 25 (.load true 2 6),
 zG 26 3 2,
 zo 27 (.iaddrA 4 2 26 24),
 zs (.store 2 27 25)]
def p85o20 := [zK 28 .add 3 16 1,
 zM 16 28]
def p85c23 := sq (.region (some ([2, 3, 4, 15, 16], [2, 3, 4, 6], [])) false p85o8) (sq (.cond 17 (.skip) (.exit 0)) (sq (.block 1 (sq (rg p85o12) (sq (rg p85o13) (.cond 23 (rg p85o14) (.skip))))) (rg p85o20)))
def p85o27 := [zo 29 (.load true 11 2),
 zs (.store 11 4 29)]
def p85c29 := sq (rg p85o27) (rt)
def p85c30 := sq (sq (.region (some ([2, 3, 4], [2, 3, 4], [])) false p85o7) (.block 0 (.loop p85c23))) p85c29
def p85c32 := sq (rg p85o1) (sq (sq (rg p85o2) (.cond 10 (rg p85o3) (.skip))) p85c30)
def pc85_r : List PRes := [PRes.cell 4 true 11 []]
def pc85 : PFunc := ⟨30, pc85_r, p85c32, false⟩
def pc85_a : Ann := {
 kr := fun
  | 3 => some ([2, 3, 4], [2, 3, 4], [])
  | 4 => some ([2, 3, 4, 15, 16], [2, 3, 4, 6], [])
  | _ => none
 ka := fun _ => 0
 kh := fun _ => none
 ow := ow0 }
theorem pc85_ok : compFn Try.prog pc85_a Try.f85 = some pc85 := by kernel_rfl
def p74o1 := [zo 3 (.box 58 1 []),
 zo 4 (.mv (.const (kl))),
 zM 5 kf]
def p74o2 := [zM 10 0,
 zG 11 1 3,
 zL 12 11,
 zo 13 (.gcall false false [300000, 300001, 300002, 300003, 300004, 300005, 300006, 300007] [[(0, 11)], [], []] 81 [10, 12, .func 82]),
 zM 9 13,
 zX 14 9 0,
 zX 15 9 1,
 zM 6 14,
 zM 7 15]
def p74o3 := [zo 16 (.load true 25 3),
 zo 17 (.call true [[]] 57 [16]),
 zo 18 (.prim (.un .not) [17]),
 zM 19 18,
 zf 20 19 (.mv 7),
 zf 21 19 (.faddr 0 3),
 zf 22 19 (.load false 1 21),
 zf 23 19 (.prim (.bin .eql 3 false true) [22, kk 1]),
 zf 24 19 (.prim (.bin .eql 4 false false) [20, 23]),
 zo 25 (.pick 19 kt 24)]
def p74o4 := [zM 26 0,
 zo 27 (.gcall false false [300000, 300001, 300002, 300003, 300004, 300005, 300006, 300007] [[(0, 11)]] 50 [26]),
 zM 4 27,
 zM 5 kf]
def p74o10 := [zM 28 0,
 zo 29 (.gcall false false [300000, 300001, 300002, 300003, 300004, 300005, 300006, 300007] [[(0, 11)]] 50 [28]),
 zM 8 29]
def p74o11 := [zG 30 0 3,
 zL 31 30]
def p74o12 := [zK 38 .eql 3 31 1,
 zM 37 38]
def p74o13 := [zM 39 8,
 zM 40 6,
 zG 41 2 3,
 zo 42 (.load true 11 41),
 zo 43 (.bptrs 11 [42]),
 zo 44 (.gcall true false [43, 300000, 300001, 300002, 300003, 300004, 300005, 300006, 300007] [[(0, 11)], [], [(0, 11)]] 84 [39, 40, 43]),
 zM 8 44]
def p74o14 := [zK 46 .eql 3 31 2,
 zM 45 46]
def p74o15 : List POper := [⟨some 47, .mv 8, none, [(8, .obj 300000)]⟩,
 zi 48 6 (.mv 6),
 ⟨some 49, .mv 8, none, [(8, .obj 300000)]⟩,
 zi 50 6 (.mv 6),
 ⟨some 51, .iaddrS 11 49 50, none, [(49, .obj 300000), (50, .imm)]⟩,
 ⟨some 52, .load true 11 51, none, [(51, .obj 300000)]⟩,
 za 53 3 3 0 (.faddr 13 3),
 za 54 53 3 13 (.load true 12 53),
 zj 55 52 54 (.call false [[], []] 85 [52, 54]),
 ⟨some 56, .iaddrS 11 47 48, none, [(47, .obj 300000), (48, .imm)]⟩,
 zn (.store 11 56 55) [(56, .obj 300000), (55, .imm)]]
def p74o16 := [zM 32 8,
 zM 33 6,
 zM 34 6,
 zK 35 .add 3 34 1,
 zo 36 (.gcall true false [300000, 300001, 300002, 300003, 300004, 300005, 300006, 300007] [[(0, 11)], [], []] 86 [32, 33, 35]),
 zM 8 36]
def p74o23 := [zM 57 8,
 zM 4 57,
 zM 5 kt]
def p74c30 := sq (rg p74o1) (sq (rg p74o2) (sq (sq (rg p74o3) (.cond 25 (sq (rg p74o4) (rt)) (.skip))) (sq (rg p74o10) (sq (sq (rg p74o11) (.block 0 (sq (rg p74o12) (.cond 37 (rg p74o13) (sq (rg p74o14) (.cond 45 (rh p74o15) (rg p74o16))))))) (sq (rg p74o23) (rt))))))
def pc74_r : List PRes := [PRes.tmp 4 [(0, 11)], PRes.tmp 5 []]
def pc74 : PFunc := ⟨58, pc74_r, p74c30, false⟩
def pc74_a : Ann := {
 kr := fun _ => none
 ka := fun _ => 0
 kh := hg [([3], .at_ 3 0), ([6, 48, 50, 52, 54, 55], .imm), ([8, 47, 49, 51, 56], .obj 300000), ([53], .at_ 3 13)]
 gf := fun d f => match d, f with
  | some 13, 81 => some (false, false, [300000, 300001, 300002, 300003, 300004, 300005, 300006, 300007])
  | some 27, 50 => some (false, false, [300000, 300001, 300002, 300003, 300004, 300005, 300006, 300007])
  | some 29, 50 => some (false, false, [300000, 300001, 300002, 300003, 300004, 300005, 300006, 300007])
  | some 36, 86 => some (true, false, [300000, 300001, 300002, 300003, 300004, 300005, 300006, 300007])
  | some 44, 84 => some (true, false, [43, 300000, 300001, 300002, 300003, 300004, 300005, 300006, 300007])
  | _, _ => none
 ow := ow0
 bv := fun d => match d with
  | some 43 => true
  | _ => false }
theorem pc74_ok : compFn Try.prog pc74_a Try.f74 = some pc74 := by kernel_rfl
def p58o1 := [zo 4 (.mv (.const (kl))),
 zM 5 kf]
def p58o2 := [zM 10 0,
 zo 11 (.gcall false true [399990, 399991] [[(0, 11)]] 50 [10]),
 zM 6 11,
 zM 7 kt]
def p58o4 := [zM 12 1,
 zo 13 (.lenS 12),
 zM 14 (kk 0)]
def p58o5 := [zB 15 .lss 3 14 13]
def p58o9 := [zo 16 (.iaddrS 25 12 14),
 zo 17 (.load true 25 16),
 zo 9 (.alloc 58 (.agg #[ki, ki, ki, ki, ki, ki, ks, ki, ks, ki, ks, ki, ks, ki, .int .u8 0, ki, ki, ki, ks, ki, ks, ki, ks, ki, ks]) []),
 zs (.store 25 9 17)]
def p58o10 := [zM 19 6,
 zo 20 (.load true 25 9),
 zo 21 (.call true [[(0, 11)], []] 74 [19, 20]),
 zM 18 21,
 zX 22 18 0,
 zX 23 18 1,
 zM 6 22,
 zM 7 23]
def p58o11 := [zM 24 7,
 zo 25 (.prim (.un .not) [24])]
def p58o19 := [zK 26 .add 3 14 1,
 zM 14 26]
def p58c22 := sq (.region (some ([0, 6, 7, 12, 13, 14], [9], [])) false p58o5) (sq (.cond 15 (.skip) (.exit 0)) (sq (.block 1 (sq (rg p58o9) (sq (rg p58o10) (sq (rg p58o11) (.cond 25 (.exit 0) (.skip)))))) (rg p58o19)))
def p58o26 := [zM 27 7,
 zo 28 (.prim (.un .not) [27])]
def p58o27 := [zM 29 0,
 zo 30 (.gcall false true [399990, 399991] [[(0, 11)]] 50 [29]),
 zM 4 30,
 zM 5 kf]
def p58o33 := [zM 31 6,
 zM 4 31,
 zM 5 kt]
def p58c36 := sq (sq (.region (some ([0, 6, 7], [9], [])) false p58o26) (.cond 28 (sq (rg p58o27) (rt)) (.skip))) (sq (rg p58o33) (rt))
def p58c41 := sq (rg p58o1) (.scope (sq (rg p58o2) (sq (.label) (sq (sq (rg p58o4) (.block 0 (.loop p58c22))) p58c36))))
def pc58_r : List PRes := [PRes.tmp 4 [(0, 11)], PRes.tmp 5 []]
def pc58 : PFunc := ⟨32, pc58_r, p58c41, false⟩
def pc58_a : Ann := {
 kr := fun
  | 3 => some ([0, 6, 7, 12, 13, 14], [9], [])
  | 8 => some ([0, 6, 7], [9], [])
  | _ => none
 ka := fun _ => 0
 kh := fun _ => none
 gf := fun d f => match d, f with
  | some 11, 50 => some (false, true, [399990, 399991])
  | some 30, 50 => some (false, true, [399990, 399991])
  | _, _ => none
 ow := ow0 }
theorem pc58_ok : compFn Try.prog pc58_a Try.f58 = some pc58 := by kernel_rfl
def p46o1 := [zM 7 0,
 zo 8 (.nilc 7),
 zG 9 5 8,
 zL 10 9,
 zM 11 1,
 zo 12 (.call true [[(0, 11)], [(0, 25)]] 58 [10, 11]),
 zM 6 12,
 zX 13 6 0,
 zX 14 6 1,
 zM 4 13,
 zM 5 14]
def p46o2 := [zM 15 5,
 zo 16 (.prim (.un .not) [15])]
def p46o7 := [zM 17 0,
 zM 18 4,
 zo 19 (.nilc 17),
 zG 20 5 19,
 zs (.store 1 20 18)]
def p46o8 := [zM 21 0,
 zM 22 0,
 zo 23 (.nilc 22),
 zG 24 6 23,
 zL 25 24,
 zM 26 1,
 zo 27 (.app 100025 58 25 264 25 26),
 zo 28 (.nilc 21),
 zG 29 6 28,
 zs (.store 1 29 27)]
def p46c11 := sq (rg p46o1) (sq (sq (rg p46o2) (.cond 16 (rt) (.skip))) (sq (rg p46o7) (rg p46o8)))
def pc46_r : List PRes := []
def pc46 : PFunc := ⟨30, pc46_r, p46c11, false⟩
def pc46_a : Ann := {
 kr := fun _ => none
 ka := fun
  | 27 => 100025
  | _ => 0
 kh := fun _ => none
 ow := ow0 }
theorem pc46_ok : compFn Try.prog pc46_a Try.f46 = some pc46 := by kernel_rfl
def p15o1 := [zo 3 (.box 32 1 [(5, 1000000058, 25)]),
 zM 4 kf]
def p15o2 := [zM 10 0,
 zo 11 (.load true 6 3),
 zo 12 (.gcall false false [1000000, 1000001, 1000002] [[], [(5, 25)]] 44 [10, 11]),
 zo 13 (.prim (.un .not) [12])]
def p15o3 := [zM 4 kf]
def p15o9 := [zM 14 0,
 zG 15 3 3,
 zL 16 15,
 zo 17 (.nilc 14),
 zG 18 4 17,
 zs (.store 1 18 16)]
def p15o10 := [za 19 0 1000000 0 (.mv 0),
 za 20 19 1000000 0 (.nilc 19),
 za 21 20 1000000 0 (.faddr 7 20),
 za 22 21 1000000 7 (.load false 1 21),
 za 23 3 3 0 (.faddr 0 3),
 za 24 23 3 0 (.load false 1 23),
 za 25 3 3 0 (.faddr 4 3),
 za 26 25 3 4 (.load false 1 25),
 zj 27 24 26 (.build (.agg #[ki, ki]) [(0, 1, .tmp 24), (1, 1, .tmp 26)]),
 za 28 3 3 0 (.faddr 5 3),
 za 29 28 3 5 (.load false 1 28),
 zi 30 29 (.gcall false true [399990, 399991] [[(0, 25)]] 45 [29]),
 zn (.mset 97 22 27 30) [(22, .obj 1000002), (27, .imm), (30, .imm)]]
def p15o12 := [za 31 0 1000000 0 (.mv 0),
 za 32 31 1000000 0 (.nilc 31),
 za 33 32 1000000 0 (.faddr 3 32),
 za 34 33 1000000 3 (.load false 1 33),
 zi 35 34 (.prim (.bin .add 3 false true) [34, kk 1]),
 za 36 0 1000000 0 (.mv 0),
 za 37 36 1000000 0 (.nilc 36),
 za 38 37 1000000 0 (.faddr 4 37),
 za 39 38 1000000 4 (.load false 1 38),
 zj 40 35 39 (.prim .max [35, 39]),
 zi 5 40 (.mv 40)]
def p15o13 := [zM 41 0,
 zo 42 (.nilc 41),
 zG 43 2 42,
 zL 44 43,
 zM 45 (kk 0)]
def p15o14 := [zB 46 .lss 3 45 44]
def p15o18 := [zM 47 45,
 zM 6 47]
def p15o19 := [zM 49 0,
 zo 50 (.nilc 49),
 zG 51 7 50,
 zL 52 51,
 zM 53 6,
 zM 54 5,
 zo 55 (.build (.agg #[ki, ki]) [(0, 1, .tmp 53), (1, 1, .tmp 54)]),
 zo 56 (.mlook true 97 [(0, 25)] 52 55),
 zM 48 56,
 zX 57 48 0,
 zX 58 48 1,
 zM 7 57,
 zM 8 58]
def p15o20 := [zM 59 8,
 zo 60 (.prim (.un .not) [59])]
def p15o28 := [zK 61 .add 3 45 1,
 zM 45 61]
def p15c31 := sq (.region (some ([0, 5, 44, 45], [1000000, 1000001, 1000002], [])) false p15o14) (sq (.cond 46 (.skip) (.exit 2)) (sq (.block 3 (sq (rg p15o18) (sq (rg p15o19) (sq (rg p15o20) (.cond 60 (.exit 0) (.skip)))))) (rg p15o28)))
def p15o35 := [zM 62 0,
 zo 63 (.nilc 62),
 zG 64 2 63,
 zL 65 64,
 zM 66 (kk 0)]
def p15o36 := [zB 67 .lss 3 66 65]
def p15o40 := [zM 68 66,
 zM 9 68]
def p15o41 := [zM 69 0,
 zM 70 0,
 zo 71 (.nilc 70),
 zG 72 7 71,
 zL 73 72,
 zM 74 9,
 zM 75 5,
 zo 76 (.build (.agg #[ki, ki]) [(0, 1, .tmp 74), (1, 1, .tmp 75)]),
 zo 77 (.mlook false 97 [(0, 25)] 73 76),
 zo 78 (.gcall false false [1000000, 1000001, 1000002] [[], [(0, 25)]] 46 [69, 77])]
def p15o42 := [zM 79 0,
 zo 80 (.nilc 79),
 zG 81 7 80,
 zL 82 81,
 zM 83 9,
 zM 84 5,
 zo 85 (.build (.agg #[ki, ki]) [(0, 1, .tmp 83), (1, 1, .tmp 84)]),
 zs (.mdel 97 82 85)]
def p15o46 := [zK 86 .add 3 66 1,
 zM 66 86]
def p15c49 := sq (.region (some ([0, 5, 65, 66], [1000000, 1000001, 1000002], [])) false p15o36) (sq (.cond 67 (.skip) (.exit 4)) (sq (.block 5 (sq (rg p15o40) (sq (rg p15o41) (rg p15o42)))) (rg p15o46)))
def p15o53 := [zM 87 0,
 zM 88 5,
 zo 89 (.nilc 87),
 zG 90 3 89,
 zs (.store 1 90 88)]
def p15c53 := rg p15o53
def p15c54 := sq (sq (rg p15o35) (.block 4 (.loop p15c49))) p15c53
def p15c57 : PCode := .block 1 (sq (.region (some ([0], [3, 1000000, 1000001, 1000002], [])) true p15o12) (sq (sq (rg p15o13) (.block 2 (.loop p15c31))) p15c54))
def p15o60 := [zM 4 kt]
def p15c62 := sq (rg p15o60) (rt)
def p15c69 := sq (rg p15o1) (.scope (sq (sq (rg p15o2) (.cond 13 (sq (rg p15o3) (rt)) (.skip))) (sq (rg p15o9) (sq (rh p15o10) (sq (.label) (sq (.block 0 (.loop p15c57)) p15c62))))))
def pc15_r : List PRes := [PRes.tmp 4 []]
def pc15 : PFunc := ⟨91, pc15_r, p15c69, false⟩
def pc15_a : Ann := {
 kr := fun
  | 5 => some ([0], [3, 1000000, 1000001, 1000002], [])
  | 7 => some ([0, 5, 44, 45], [1000000, 1000001, 1000002], [])
  | 13 => some ([0, 5, 65, 66], [1000000, 1000001, 1000002], [])
  | _ => none
 ka := fun _ => 0
 kh := hg [([0, 19, 20, 31, 32, 36, 37], .at_ 1000000 0), ([3, 23], .at_ 3 0), ([21], .at_ 1000000 7), ([22], .obj 1000002), ([24, 26, 27, 29, 30, 34, 35, 39, 40], .imm), ([25], .at_ 3 4), ([28], .at_ 3 5), ([33], .at_ 1000000 3), ([38], .at_ 1000000 4)]
 gf := fun d f => match d, f with
  | some 12, 44 => some (false, false, [1000000, 1000001, 1000002])
  | some 30, 45 => some (false, true, [399990, 399991])
  | some 78, 46 => some (false, false, [1000000, 1000001, 1000002])
  | _, _ => none
 ow := ow0 }
theorem pc15_ok : compFn Try.prog pc15_a Try.f15 = some pc15 := by kernel_rfl
def p17o1 := [zM 2 (kk 0)]
def p17o2 := [zM 3 0,
 zo 4 (.nilc 3),
 zG 5 3 4,
 zL 6 5,
 zM 2 6]
def p17c5 := sq (rg p17o1) (sq (rg p17o2) (rt))
def pc17_r : List PRes := [PRes.tmp 2 []]
def pc17 : PFunc := ⟨7, pc17_r, p17c5, false⟩
def pc17_a : Ann := {
 kr := fun _ => none
 ka := fun _ => 0
 kh := fun _ => none
 ow := ow0 }
theorem pc17_ok : compFn Try.prog pc17_a Try.f17 = some pc17 := by kernel_rfl
def p18o1 := [zM 2 (kk 0)]
def p18o2 := [zM 3 0,
 zo 4 (.nilc 3),
 zG 5 7 4,
 zL 6 5,
 zo 7 (.mlen 6),
 zM 2 7]
def p18c5 := sq (rg p18o1) (sq (rg p18o2) (rt))
def pc18_r : List PRes := [PRes.tmp 2 []]
def pc18 : PFunc := ⟨8, pc18_r, p18c5, false⟩
def pc18_a : Ann := {
 kr := fun _ => none
 ka := fun _ => 0
 kh := fun _ => none
 ow := ow0 }
theorem pc18_ok : compFn Try.prog pc18_a Try.f18 = some pc18 := by kernel_rfl
def p20o1 := [zo 2 (.mv (.const (kl)))]
def p20o2 := [zM 3 0,
 zo 4 (.nilc 3),
 zG 5 5 4,
 zL 6 5,
 zo 7 (.gcall false true [399990, 399991] [[(0, 11)]] 50 [6]),
 zM 2 7]
def p20c5 := sq (rg p20o1) (sq (rg p20o2) (rt))
def pc20_r : List PRes := [PRes.tmp 2 [(0, 11)]]
def pc20 : PFunc := ⟨8, pc20_r, p20c5, false⟩
def pc20_a : Ann := {
 kr := fun _ => none
 ka := fun _ => 0
 kh := fun _ => none
 gf := fun d f => match d, f with
  | some 7, 50 => some (false, true, [399990, 399991])
  | _, _ => none
 ow := ow0 }
theorem pc20_ok : compFn Try.prog pc20_a Try.f20 = some pc20 := by kernel_rfl
def p22o1 := [zo 2 (.mv (.const (kl)))]
def p22o2 := [zM 3 0,
 zo 4 (.nilc 3),
 zG 5 6 4,
 zL 6 5,
 zo 7 (.gcall false true [399990, 399991, 1000001] [[(0, 25)]] 45 [6]),
 zM 2 7]
def p22c5 := sq (rg p22o1) (sq (rg p22o2) (rt))
def pc22_r : List PRes := [PRes.tmp 2 [(0, 25)]]
def pc22 : PFunc := ⟨8, pc22_r, p22c5, false⟩
def pc22_a : Ann := {
 kr := fun _ => none
 ka := fun _ => 0
 kh := fun _ => none
 gf := fun d f => match d, f with
  | some 7, 45 => some (false, true, [399990, 399991, 1000001])
  | _, _ => none
 ow := ow0 }
theorem pc22_ok : compFn Try.prog pc22_a Try.f22 = some pc22 := by kernel_rfl
def p23o1 := [zM 2 (kk 0)]
def p23o2 := [zM 3 0,
 zo 4 (.nilc 3),
 zG 5 1 4,
 zL 6 5,
 zM 2 6]
def pc23_r : List PRes := [PRes.tmp 2 []]
def pc23 : PFunc := ⟨7, pc23_r, (sq (rg p23o1) (sq (rg p23o2) (rt))), false⟩
def pc23_a : Ann := {
 kr := fun _ => none
 ka := fun _ => 0
 kh := fun _ => none
 ow := ow0 }
theorem pc23_ok : compFn Try.prog pc23_a Try.f23 = some pc23 := by kernel_rfl
def p24o1 := [zo 2 (.mv (.const (kl)))]
def p24o2 := [zM 3 0,
 zM 4 0,
 zo 5 (.build (.agg #[ki, ki, ki, ki, ks, ki, ks, ki, ks, ki, ks]) [(0, 1, .tmp 4)]),
 zo 6 (.build (.agg #[ki, ki, ki, ki, ki, ki, ks, ki, ks, ki, ks, ki, ks, ki, .int .u8 0, ki, ki, ki, ks, ki, ks, ki, ks, ki, ks]) [(0, 1, kk 1), (1, 1, .tmp 3), (2, 11, .tmp 5)]),
 zo 7 (.bown 58 25 [6]),
 zM 2 7]
def p24c5 := sq (rg p24o1) (sq (rg p24o2) (rt))
def pc24_r : List PRes := [PRes.tmp 2 [(0, 25)]]
def pc24 : PFunc := ⟨8, pc24_r, p24c5, true⟩
def pc24_a : Ann := {
 kr := fun _ => none
 ka := fun _ => 0
 kh := fun _ => none
 ow := ow0
 bo := fun d => match d with
  | some 7 => true
  | _ => false
 ex := true }
theorem pc24_ok : compFn Try.prog pc24_a Try.f24 = some pc24 := by kernel_rfl
def p11o1 := [zM 0 kf]
def p11o2 := [zo 6 (.gcall false false [300000, 300001, 300002, 300003, 300004, 300005, 300006, 300007] [[], [], []] 13 [kk 1, kk 2, kk 2]),
 zM 1 6]
def p11o3 := [zM 7 1,
 zo 8 (.pnil false 7),
 zM 9 8,
 zf 10 9 (.mv 1),
 zf 11 9 (.gcall false false [300000, 300001, 300002] [[]] 17 [10]),
 zf 12 9 (.prim (.bin .neq 3 false true) [11, .const (.int .i64 (-1))]),
 zo 13 (.pick 9 kt 12)]
def p11o4 := [zM 0 kf]
def p11o10 := [zM 14 1,
 zo 15 (.gcall false true [399990, 399991] [[]] 24 [kk 3]),
 zo 16 (.build (.agg #[ki, ki, ki, ki, ki, kl]) [(0, 1, kk 0), (1, 1, kk 1), (2, 1, kk 2), (3, 1, kk 5), (4, 1, kk 5), (5, 1, .tmp 15)]),
 zo 17 (.gcall false false [300000, 300001, 300002] [[], [(5, 25)]] 15 [14, 16]),
 zM 2 17]
def p11o11 := [zM 18 1,
 zo 19 (.build (.agg #[ki, ki, ki, ki, ki, kl]) [(0, 1, kk 0), (1, 1, kk 1), (2, 1, kk 2), (3, 1, kk 5), (4, 1, kk 5)]),
 zo 20 (.gcall false false [300000, 300001, 300002] [[], [(5, 25)]] 15 [18, 19]),
 zM 3 20]
def p11o12 := [zM 21 1,
 zo 22 (.gcall false false [300000, 300001, 300002] [[]] 18 [21]),
 zM 4 22]
def p11o13 := [zM 23 1,
 zo 24 (.gcall false true [399990, 399991] [[]] 24 [kk 4]),
 zo 25 (.build (.agg #[ki, ki, ki, ki, ki, kl]) [(0, 1, kk 1), (1, 1, kk 1), (2, 1, kk 2), (3, 1, kk 5), (4, 1, kk 5), (5, 1, .tmp 24)]),
 zo 26 (.gcall false false [300000, 300001, 300002] [[], [(5, 25)]] 15 [23, 25]),
 zM 5 26]
def p11o14 := [zM 27 2,
 zM 28 27,
 zt 29 28 (.mv 3),
 zt 30 28 (.prim (.un .not) [29]),
 zo 31 (.pick 28 30 kf),
 zM 32 31,
 zt 33 32 (.mv 4),
 zt 34 32 (.prim (.bin .eql 3 false true) [33, kk 1]),
 zo 35 (.pick 32 34 kf),
 zM 36 35,
 zt 37 36 (.mv 5),
 zo 38 (.pick 36 37 kf),
 zM 39 38,
 zt 40 39 (.mv 1),
 zt 41 39 (.gcall false false [300000, 300001, 300002] [[]] 17 [40]),
 zt 42 39 (.prim (.bin .eql 3 false true) [41, kk 5]),
 zo 43 (.pick 39 42 kf),
 zM 44 43,
 zt 45 44 (.mv 1),
 zt 46 44 (.gcall false false [300000, 300001, 300002] [[]] 20 [45]),
 zt 47 44 (.lenS 46),
 zt 48 44 (.prim (.bin .eql 3 false true) [47, kk 2]),
 zo 49 (.pick 44 48 kf),
 zM 50 49,
 zt 51 50 (.mv 1),
 zt 52 50 (.gcall false false [300000, 300001, 300002] [[]] 22 [51]),
 zt 53 50 (.lenS 52),
 zt 54 50 (.prim (.bin .eql 3 false true) [53, kk 2]),
 zo 55 (.pick 50 54 kf),
 zM 56 55,
 zt 57 56 (.mv 1),
 zt 58 56 (.gcall false false [300000, 300001, 300002] [[]] 18 [57]),
 zt 59 56 (.prim (.bin .eql 3 false true) [58, kk 0]),
 zo 60 (.pick 56 59 kf),
 zM 61 60,
 zt 62 61 (.mv 1),
 zt 63 61 (.gcall false false [300000, 300001, 300002] [[]] 23 [62]),
 zt 64 61 (.prim (.bin .eql 3 false true) [63, kk 2]),
 zo 65 (.pick 61 64 kf),
 zM 66 65,
 zt 67 66 (.mv 1),
 zt 68 66 (.build (.agg #[ki, ki, ki, ki, ki, kl]) [(1, 1, kk 1), (2, 1, kk 1), (3, 1, kk 5), (4, 1, kk 6)]),
 zt 69 66 (.gcall false false [300000, 300001, 300002] [[], [(5, 25)]] 15 [67, 68]),
 zt 70 66 (.prim (.un .not) [69]),
 zo 71 (.pick 66 70 kf),
 zM 0 71]
def pc11_r : List PRes := [PRes.tmp 0 []]
def pc11 : PFunc := ⟨72, pc11_r, (sq (rg p11o1) (sq (rg p11o2) (sq (sq (rg p11o3) (.cond 13 (sq (rg p11o4) (rt)) (.skip))) (sq (rg p11o10) (sq (rg p11o11) (sq (rg p11o12) (sq (rg p11o13) (sq (rg p11o14) (rt))))))))), false⟩
def pc11_a : Ann := {
 kr := fun _ => none
 ka := fun _ => 0
 kh := fun _ => none
 gf := fun d f => match d, f with
  | some 6, 13 => some (false, false, [300000, 300001, 300002, 300003, 300004, 300005, 300006, 300007])
  | some 11, 17 => some (false, false, [300000, 300001, 300002])
  | some 15, 24 => some (false, true, [399990, 399991])
  | some 17, 15 => some (false, false, [300000, 300001, 300002])
  | some 20, 15 => some (false, false, [300000, 300001, 300002])
  | some 22, 18 => some (false, false, [300000, 300001, 300002])
  | some 24, 24 => some (false, true, [399990, 399991])
  | some 26, 15 => some (false, false, [300000, 300001, 300002])
  | some 41, 17 => some (false, false, [300000, 300001, 300002])
  | some 46, 20 => some (false, false, [300000, 300001, 300002])
  | some 52, 22 => some (false, false, [300000, 300001, 300002])
  | some 58, 18 => some (false, false, [300000, 300001, 300002])
  | some 63, 23 => some (false, false, [300000, 300001, 300002])
  | some 69, 15 => some (false, false, [300000, 300001, 300002])
  | _, _ => none
 ow := ow0 }
theorem pc11_ok : compFn Try.prog pc11_a Try.f11 = some pc11 := by kernel_rfl
def p19o1 := [zM 4 kf]
def p19o2 := [zM 6 0,
 zo 7 (.lenS 6),
 zM 8 1,
 zo 9 (.lenS 8),
 zB 10 .neq 3 7 9]
def p19o3 := [zM 4 kf]
def p19o9 := [zM 5 (kk 0)]
def p19o10 := [zM 11 5,
 zM 12 0,
 zo 13 (.lenS 12),
 zB 14 .lss 3 11 13]
def p19o15 := [zi 17 0 (.mv 0),
 zi 18 5 (.mv 5),
 zj 19 17 18 (.iaddrS 11 17 18),
 zi 20 19 (.load true 11 19),
 zi 21 1 (.mv 1),
 zi 22 5 (.mv 5),
 zj 23 21 22 (.iaddrS 11 21 22),
 zi 24 23 (.load true 11 23),
 zj 25 20 24 (.prim (.bin .neq 54 false false) [20, 24])]
def p19o16 := [zM 4 kf]
def p19o23 := [zM 15 5,
 zK 16 .add 3 15 1,
 zM 5 16]
def p19c25 := sq (sq (.region (some ([0, 1, 5], [], [])) false p19o10) (.cond 14 (.skip) (.exit 0))) (sq (.block 1 (sq (rh p19o15) (.cond 25 (sq (rg p19o16) (rt)) (.skip)))) (rg p19o23))
def p19o29 := [zM 4 kt]
def p19c31 := sq (rg p19o29) (rt)
def p19c34 := sq (rg p19o1) (sq (sq (rg p19o2) (.cond 10 (sq (rg p19o3) (rt)) (.skip))) (sq (sq (rg p19o9) (.block 0 (.loop p19c25))) p19c31))
def pc19_r : List PRes := [PRes.tmp 4 []]
def pc19 : PFunc := ⟨26, pc19_r, p19c34, false⟩
def pc19_a : Ann := {
 kr := fun
  | 4 => some ([0, 1, 5], [], [])
  | _ => none
 ka := fun _ => 0
 kh := hg [([0, 1, 5, 17, 18, 19, 20, 21, 22, 23, 24], .imm)]
 ow := ow0 }
theorem pc19_ok : compFn Try.prog pc19_a Try.f19 = some pc19 := by kernel_rfl
def p21o1 := [zM 4 kf]
def p21o2 := [zM 6 0,
 zo 7 (.lenS 6),
 zM 8 1,
 zo 9 (.lenS 8),
 zB 10 .neq 3 7 9]
def p21o3 := [zM 4 kf]
def p21o9 := [zM 5 (kk 0)]
def p21o10 := [zM 11 5,
 zM 12 0,
 zo 13 (.lenS 12),
 zB 14 .lss 3 11 13]
def p21o15 := [zi 17 0 (.mv 0),
 zi 18 5 (.mv 5),
 zj 19 17 18 (.iaddrS 25 17 18),
 zi 20 19 (.load true 25 19),
 zi 21 1 (.mv 1),
 zi 22 5 (.mv 5),
 zj 23 21 22 (.iaddrS 25 21 22),
 zi 24 23 (.load true 25 23),
 zj 25 20 24 (.prim (.bin .neq 58 false false) [20, 24])]
def p21o16 := [zM 4 kf]
def p21o23 := [zM 15 5,
 zK 16 .add 3 15 1,
 zM 5 16]
def p21c25 := sq (sq (.region (some ([0, 1, 5], [], [])) false p21o10) (.cond 14 (.skip) (.exit 0))) (sq (.block 1 (sq (rh p21o15) (.cond 25 (sq (rg p21o16) (rt)) (.skip)))) (rg p21o23))
def p21o29 := [zM 4 kt]
def p21c31 := sq (rg p21o29) (rt)
def p21c34 := sq (rg p21o1) (sq (sq (rg p21o2) (.cond 10 (sq (rg p21o3) (rt)) (.skip))) (sq (sq (rg p21o9) (.block 0 (.loop p21c25))) p21c31))
def pc21_r : List PRes := [PRes.tmp 4 []]
def pc21 : PFunc := ⟨26, pc21_r, p21c34, false⟩
def pc21_a : Ann := {
 kr := fun
  | 4 => some ([0, 1, 5], [], [])
  | _ => none
 ka := fun _ => 0
 kh := hg [([0, 1, 5, 17, 18, 19, 20, 21, 22, 23, 24], .imm)]
 ow := ow0 }
theorem pc21_ok : compFn Try.prog pc21_a Try.f21 = some pc21 := by kernel_rfl
def p4o1 := [zM 8 kf]
def p4o2 := [zo 23 (.call true [] 11 []),
 zo 24 (.prim (.un .not) [23])]
def p4o3 := [zM 8 kf]
def p4o9 := [zM 25 0,
 zo 26 (.prim (.bin .rem 5 false true) [25, .const (.int .u8 4)]),
 zo 27 (.prim (.conv 5 3) [26]),
 zK 28 .add 3 27 1,
 zM 29 1,
 zo 30 (.prim (.bin .rem 5 false true) [29, .const (.int .u8 8)]),
 zo 31 (.prim (.conv 5 3) [30]),
 zK 32 .add 3 31 1,
 zM 9 28,
 zM 10 32]
def p4o10 := [zo 11 (.mv (.const (kl)))]
def p4o11 := [zM 12 (kk 0)]
def p4o12 := [zM 33 12,
 zM 34 10,
 zB 35 .lss 3 33 34]
def p4o17 := [zM 13 (kk 0)]
def p4o18 := [zM 38 13,
 zM 39 9,
 zB 40 .lss 3 38 39]
def p4o23 := [zM 43 13,
 zM 44 12,
 zo 45 (.prim (.bin .add 3 true false) [kk 3, 44]),
 zo 46 (.build (.agg #[ki, ki, ki, ki, ki, kl]) [(0, 1, .tmp 43), (1, 1, kk 0), (2, 1, kk 1), (3, 1, kk 3), (4, 1, .tmp 45)]),
 zo 14 (.alloc 32 (.agg #[ki, ki, ki, ki, ki, kl]) [(5, 1000000058, 25)]),
 zs (.storeV [(5, 25)] 6 14 46)]
def p4o24 := [zM 47 12,
 zM 48 9,
 zB 49 .mul 3 47 48,
 zM 50 13,
 zB 51 .add 3 49 50,
 zM 15 51]
def p4o25 := [zM 52 15,
 zM 53 2,
 zo 54 (.lenS 53),
 zB 55 .lss 3 52 54]
def p4o26 := [zM 56 2,
 zM 57 15,
 zo 58 (.iaddrS 1 56 57),
 zL 59 58,
 zo 60 (.prim (.conv 5 3) [59]),
 zo 61 (.prim (.bin .mul 3 true false) [kk 4, 60]),
 zM 62 13,
 zB 63 .add 3 61 62,
 zo 64 (.gcall false true [399990, 399991] [[]] 24 [63]),
 zG 65 5 14,
 zs (.store 1 65 64)]
def p4o31 := [zM 66 11,
 zo 67 (.load true 6 14),
 zo 68 (.bslice 32 6 [67]),
 zo 69 (.app 100011 32 6 64 66 68),
 zM 11 69]
def p4c31 : PCode := .region (some ([2, 3, 9, 10, 11, 12, 13, 14], [14, 100011], [])) false p4o31
def p4o35 := [zM 41 13,
 zK 42 .add 3 41 1,
 zM 13 42]
def p4c35 := rg p4o35
def p4c37 := sq (sq (.region (some ([2, 3, 9, 10, 11, 12, 13], [14, 100011], [(false, 11, 0, 100011, 32, 6)])) false p4o18) (.cond 40 (.skip) (.exit 2))) (sq (.block 3 (sq (rg p4o23) (sq (sq (rg p4o24) (sq (rg p4o25) (.cond 55 (rg p4o26) (.skip)))) p4c31))) p4c35)
def p4o42 := [zM 36 12,
 zK 37 .add 3 36 1,
 zM 12 37]
def p4c42 := rg p4o42
def p4c44 := sq (sq (.region (some ([2, 3, 9, 10, 11, 12], [100011], [(false, 11, 0, 100011, 32, 6)])) false p4o12) (.cond 35 (.skip) (.exit 0))) (sq (.block 1 (sq (rg p4o17) (.block 2 (.loop p4c37)))) p4c42)
def p4o48 := [zM 70 11,
 zo 71 (.app 100071 32 6 64 (.const (kl)) 70),
 zM 16 71]
def p4o49 := [zM 17 (kk 0)]
def p4o50 := [zM 72 17,
 zM 73 3,
 zo 74 (.lenS 73),
 zB 75 .lss 3 72 74]
def p4o55 := [zi 78 3 (.mv 3),
 zi 79 17 (.mv 17),
 zj 80 78 79 (.iaddrS 1 78 79),
 zi 81 80 (.load false 1 80),
 zi 82 81 (.prim (.bin .rem 45 false true) [81, .const (.int .u16 256)]),
 zi 83 82 (.prim (.conv 45 3) [82]),
 ⟨some 84, .mv 16, none, [(16, .obj 100071)]⟩,
 ⟨some 85, .lenS 84, none, [(84, .obj 100071)]⟩,
 zj 86 83 85 (.prim (.bin .rem 3 false false) [83, 85]),
 zi 87 3 (.mv 3),
 zi 88 17 (.mv 17),
 zj 89 87 88 (.iaddrS 1 87 88),
 zi 90 89 (.load false 1 89),
 zi 91 90 (.prim (.bin .quo 45 false true) [90, .const (.int .u16 256)]),
 zi 92 91 (.prim (.conv 45 3) [91]),
 ⟨some 93, .mv 16, none, [(16, .obj 100071)]⟩,
 ⟨some 94, .lenS 93, none, [(93, .obj 100071)]⟩,
 zj 95 92 94 (.prim (.bin .rem 3 false false) [92, 94]),
 zi 18 86 (.mv 86),
 zi 19 95 (.mv 95)]
def p4o56 : List POper := [⟨some 96, .mv 16, none, [(16, .obj 100071)]⟩,
 zi 97 18 (.mv 18),
 ⟨some 98, .mv 16, none, [(16, .obj 100071)]⟩,
 zi 99 19 (.mv 19),
 ⟨some 100, .mv 16, none, [(16, .obj 100071)]⟩,
 zi 101 19 (.mv 19),
 ⟨some 102, .iaddrS 6 100 101, none, [(100, .obj 100071), (101, .imm)]⟩,
 ⟨some 103, .load true 6 102, none, [(102, .obj 100071)]⟩,
 ⟨some 104, .mv 16, none, [(16, .obj 100071)]⟩,
 zi 105 18 (.mv 18),
 ⟨some 106, .iaddrS 6 104 105, none, [(104, .obj 100071), (105, .imm)]⟩,
 ⟨some 107, .load true 6 106, none, [(106, .obj 100071)]⟩,
 ⟨some 108, .iaddrS 6 96 97, none, [(96, .obj 100071), (97, .imm)]⟩,
 zn (.storeV [(5, 25)] 6 108 103) [(108, .obj 100071), (103, .imm)],
 ⟨some 109, .iaddrS 6 98 99, none, [(98, .obj 100071), (99, .imm)]⟩,
 zn (.storeV [(5, 25)] 6 109 107) [(109, .obj 100071), (107, .imm)]]
def p4o59 := [zM 76 17,
 zK 77 .add 3 76 1,
 zM 17 77]
def p4c61 := sq (sq (.region (some ([3, 9, 10, 11, 16, 17], [100011, 100071], [])) false p4o50) (.cond 75 (.skip) (.exit 4))) (sq (.block 5 (sq (rh p4o55) (rh p4o56))) (rg p4o59))
def p4o65 := [zM 110 9,
 zo 111 (.gcall false false [300000, 300001, 300002, 300003, 300004, 300005, 300006, 300007] [[], [], []] 13 [kk 0, kk 1, 110]),
 zM 112 9,
 zo 113 (.gcall false false [300000, 300001, 300002, 300003, 300004, 300005, 300006, 300007] [[], [], []] 13 [kk 0, kk 1, 112]),
 zM 20 111,
 zM 21 113]
def p4o66 := [zM 22 (kk 0)]
def p4o67 := [zM 114 22,
 zM 115 11,
 zo 116 (.lenS 115),
 zB 117 .lss 3 114 116]
def p4o72 := [zM 120 20,
 zM 121 11,
 zM 122 22,
 zo 123 (.iaddrS 6 121 122),
 zo 124 (.load true 6 123),
 zo 125 (.gcall false false [300000, 300001, 300002] [[], [(5, 25)]] 15 [120, 124]),
 zo 126 (.prim (.un .not) [125]),
 zM 127 126,
 zf 128 127 (.mv 21),
 zf 129 127 (.mv 16),
 zf 130 127 (.mv 22),
 zf 131 127 (.iaddrS 6 129 130),
 zf 132 127 (.load true 6 131),
 zf 133 127 (.gcall false false [300003, 300004, 300005] [[], [(5, 25)]] 15 [128, 132]),
 zf 134 127 (.prim (.un .not) [133]),
 zo 135 (.pick 127 kt 134)]
def p4o73 := [zM 8 kf]
def p4o79 := [zM 136 21,
 zM 137 16,
 zM 138 22,
 zo 139 (.iaddrS 6 137 138),
 zo 140 (.load true 6 139),
 zo 141 (.gcall false false [300003, 300004, 300005] [[], [(5, 25)]] 15 [136, 140])]
def p4o82 := [zM 118 22,
 zK 119 .add 3 118 1,
 zM 22 119]
def p4c84 := sq (sq (.region (some ([10, 11, 16, 20, 21, 22], [100011, 100071, 300000, 300001, 300002, 300003, 300004, 300005], [])) false p4o67) (.cond 117 (.skip) (.exit 6))) (sq (.block 7 (sq (sq (rg p4o72) (.cond 135 (sq (rg p4o73) (rt)) (.skip))) (rg p4o79))) (rg p4o82))
def p4o88 := [zM 142 20,
 zo 143 (.gcall false false [300000, 300001, 300002] [[]] 17 [142]),
 zM 144 10,
 zo 145 (.prim (.bin .add 3 true false) [kk 2, 144]),
 zB 146 .eql 3 143 145,
 zM 147 146,
 zt 148 147 (.mv 21),
 zt 149 147 (.gcall false false [300003, 300004, 300005] [[]] 17 [148]),
 zt 150 147 (.mv 10),
 zt 151 147 (.prim (.bin .add 3 true false) [kk 2, 150]),
 zt 152 147 (.prim (.bin .eql 3 false false) [149, 151]),
 zo 153 (.pick 147 152 kf),
 zM 154 153,
 zt 155 154 (.mv 20),
 zt 156 154 (.gcall false false [300000, 300001, 300002] [[]] 18 [155]),
 zt 157 154 (.prim (.bin .eql 3 false true) [156, kk 0]),
 zo 158 (.pick 154 157 kf),
 zM 159 158,
 zt 160 159 (.mv 21),
 zt 161 159 (.gcall false false [300003, 300004, 300005] [[]] 18 [160]),
 zt 162 159 (.prim (.bin .eql 3 false true) [161, kk 0]),
 zo 163 (.pick 159 162 kf),
 zM 164 163,
 zt 165 164 (.mv 20),
 zt 166 164 (.gcall false false [300000, 300001, 300002] [[]] 20 [165]),
 zt 167 164 (.mv 21),
 zt 168 164 (.gcall false false [300003, 300004, 300005] [[]] 20 [167]),
 zt 169 164 (.call true [[(0, 11)], [(0, 11)]] 19 [166, 168]),
 zo 170 (.pick 164 169 kf),
 zM 171 170,
 zt 172 171 (.mv 20),
 zt 173 171 (.gcall false false [300000, 300001, 300002] [[]] 22 [172]),
 zt 174 171 (.mv 21),
 zt 175 171 (.gcall false false [300003, 300004, 300005] [[]] 22 [174]),
 zt 176 171 (.call true [[(0, 25)], [(0, 25)]] 21 [173, 175]),
 zo 177 (.pick 171 176 kf),
 zM 8 177]
def p4c90 := sq (rg p4o88) (rt)
def p4c92 := sq (rg p4o65) (sq (sq (rg p4o66) (.block 6 (.loop p4c84))) p4c90)
def p4c94 := sq (rg p4o48) (sq (sq (rg p4o49) (.block 4 (.loop p4c61))) p4c92)
def p4c99 := sq (rg p4o1) (sq (sq (rg p4o2) (.cond 24 (sq (rg p4o3) (rt)) (.skip))) (sq (rg p4o9) (sq (rg p4o10) (sq (sq (rg p4o11) (.block 0 (.loop p4c44))) p4c94))))
def pc4_r : List PRes := [PRes.tmp 8 []]
def pc4 : PFunc := ⟨178, pc4_r, p4c99, false⟩
def pc4_a : Ann := {
 kr := fun
  | 6 => some ([2, 3, 9, 10, 11, 12], [100011], [(false, 11, 0, 100011, 32, 6)])
  | 9 => some ([2, 3, 9, 10, 11, 12, 13], [14, 100011], [(false, 11, 0, 100011, 32, 6)])
  | 15 => some ([2, 3, 9, 10, 11, 12, 13, 14], [14, 100011], [])
  | 18 => some ([3, 9, 10, 11, 16, 17], [100011, 100071], [])
  | 24 => some ([10, 11, 16, 20, 21, 22], [100011, 100071, 300000, 300001, 300002, 300003, 300004, 300005], [])
  | _ => none
 ka := fun
  | 69 => 100011
  | 71 => 100071
  | _ => 0
 kh := hg [([3, 17, 18, 19, 78, 79, 80, 81, 82, 83, 85, 86, 87, 88, 89, 90, 91, 92, 94, 95, 97, 99, 101, 103, 105, 107], .imm), ([16, 84, 93, 96, 98, 100, 102, 104, 106, 108, 109], .obj 100071)]
 gf := fun d f => match d, f with
  | some 64, 24 => some (false, true, [399990, 399991])
  | some 111, 13 => some (false, false, [300000, 300001, 300002, 300003, 300004, 300005, 300006, 300007])
  | some 113, 13 => some (false, false, [300000, 300001, 300002, 300003, 300004, 300005, 300006, 300007])
  | some 125, 15 => some (false, false, [300000, 300001, 300002])
  | some 133, 15 => some (false, false, [300003, 300004, 300005])
  | some 141, 15 => some (false, false, [300003, 300004, 300005])
  | some 143, 17 => some (false, false, [300000, 300001, 300002])
  | some 149, 17 => some (false, false, [300003, 300004, 300005])
  | some 156, 18 => some (false, false, [300000, 300001, 300002])
  | some 161, 18 => some (false, false, [300003, 300004, 300005])
  | some 166, 20 => some (false, false, [300000, 300001, 300002])
  | some 168, 20 => some (false, false, [300003, 300004, 300005])
  | some 173, 22 => some (false, false, [300000, 300001, 300002])
  | some 175, 22 => some (false, false, [300003, 300004, 300005])
  | _, _ => none
 ow := ow0 }
theorem pc4_ok : compFn Try.prog pc4_a Try.f4 = some pc4 := by kernel_rfl
end Go.Proofs.Ythdabpmcojmhhaa
