/-
  Code of functions, as the pure machine runs it. No condition.
-/
import Derived.Test.YtpjejnefegdoeaaNoteCellsT
namespace Go.Proofs.Ytpjejnefegdoeaa
open Go Go.Rx
set_option maxRecDepth 100000
set_option linter.unusedVariables false
set_option linter.unusedSimpArgs false
set_option linter.unnecessarySimpa false
-- 10: vedette/vedetteref17.Is
def p10o1 := [zo 2 (.box 26 0 []),
  zo 4 (.mv kf)]
def p10o2 := [zo 15 (.mv 1),
  zo 16 (.prim .min [15, kk 4]),
  zo 5 (.mv 16)]
def p10o3 := [zo 17 (.faddr 0 2),
  zo 18 (.load false 1 17),
  zo 19 (.prim (.bin .lss 3 false true) [18, kk 0]),
  zo 20 (.mv 19),
  zf 21 20 (.faddr 0 2),
  zf 22 20 (.load false 1 21),
  zf 23 20 (.mv 5),
  zf 24 20 (.prim (.bin .geq 3 false false) [22, 23]),
  zo 25 (.pick 20 kt 24),
  zo 26 (.mv 25),
  zf 27 26 (.faddr 1 2),
  zf 28 26 (.load false 1 27),
  zf 29 26 (.prim (.bin .lss 3 false true) [28, kk 0]),
  zo 30 (.pick 26 kt 29),
  zo 31 (.mv 30),
  zf 32 31 (.faddr 1 2),
  zf 33 31 (.load false 1 32),
  zf 34 31 (.prim (.bin .gtr 3 false true) [33, kk 1073741824]),
  zo 35 (.pick 31 kt 34),
  zo 36 (.mv 35),
  zf 37 36 (.faddr 2 2),
  zf 38 36 (.load false 1 37),
  zf 39 36 (.call true [[(0, 11)]] 25 [38]),
  zf 40 36 (.prim (.un .not) [39]),
  zo 41 (.pick 36 kt 40),
  zo 42 (.mv 41),
  zf 43 42 (.faddr 4 2),
  zf 44 42 (.load false 1 43),
  zf 45 42 (.call true [[(0, 11)]] 25 [44]),
  zf 46 42 (.prim (.un .not) [45]),
  zo 47 (.pick 42 kt 46),
  zo 48 (.mv 47),
  zf 49 48 (.faddr 3 2),
  zf 50 48 (.load false 1 49),
  zf 51 48 (.lenS 50),
  zf 52 48 (.prim (.bin .gtr 3 false true) [51, kk 16]),
  zo 53 (.pick 48 kt 52),
  zo 54 (.mv 53),
  zf 55 54 (.faddr 5 2),
  zf 56 54 (.load false 1 55),
  zf 57 54 (.lenS 56),
  zf 58 54 (.prim (.bin .gtr 3 false true) [57, kk 20]),
  zo 59 (.pick 54 kt 58)]
def p10o4 := [zo 4 (.mv kf)]
def p10o10 := [zo 6 (.mv (kk 0))]
def p10o11 := [zo 60 (.mv 6),
  zo 61 (.faddr 3 2),
  zo 62 (.load false 1 61),
  zo 63 (.lenS 62),
  zo 64 (.prim (.bin .lss 3 false false) [60, 63])]
def p10o16 := [zo 67 (.faddr 3 2),
  zo 68 (.load false 1 67),
  zo 69 (.mv 6),
  zo 70 (.iaddrS 2 68 69),
  zo 71 (.load true 2 70),
  zo 7 (.alloc 44 (.agg { toList := [.int .i64 0, .int .i64 0] }) []),
  zs (.store 2 7 71)]
def p10o17 := [za 72 7 7 0 (.faddr 0 7),
  za 73 72 7 0 (.load false 1 72),
  ⟨some 74, .call false [[]] 26 [73], none, [(73, .imm)]⟩,
  ⟨some 75, .prim (.un .not) [74], none, [(74, .imm)]⟩,
  ⟨some 76, .mv 75, none, [(75, .imm)]⟩,
  ⟨some 77, .faddr 1 7, some (76, false), [(7, .at_ 7 0)]⟩,
  ⟨some 78, .load false 1 77, some (76, false), [(77, .at_ 7 1)]⟩,
  ⟨some 79, .prim (.bin .lss 3 false true) [78, kk 0], some (76, false), [(78, .imm)]⟩,
  ⟨some 80, .pick 76 kt 79, none, [(76, .imm), (79, .imm)]⟩,
  ⟨some 81, .mv 80, none, [(80, .imm)]⟩,
  ⟨some 82, .faddr 1 7, some (81, false), [(7, .at_ 7 0)]⟩,
  ⟨some 83, .load false 1 82, some (81, false), [(82, .at_ 7 1)]⟩,
  ⟨some 84, .mv 5, some (81, false), [(5, .imm)]⟩,
  ⟨some 85, .prim (.bin .geq 3 false false) [83, 84], some (81, false), [(83, .imm), (84, .imm)]⟩,
  ⟨some 86, .pick 81 kt 85, none, [(81, .imm), (85, .imm)]⟩,
  ⟨some 87, .mv 86, none, [(86, .imm)]⟩,
  ⟨some 88, .faddr 1 7, some (87, false), [(7, .at_ 7 0)]⟩,
  ⟨some 89, .load false 1 88, some (87, false), [(88, .at_ 7 1)]⟩,
  ⟨some 90, .faddr 0 2, some (87, false), [(2, .at_ 2 0)]⟩,
  ⟨some 91, .load false 1 90, some (87, false), [(90, .at_ 2 0)]⟩,
  ⟨some 92, .prim (.bin .eql 3 false false) [89, 91], some (87, false), [(89, .imm), (91, .imm)]⟩,
  ⟨some 93, .pick 87 kt 92, none, [(87, .imm), (92, .imm)]⟩,
  ⟨some 94, .mv 93, none, [(93, .imm)]⟩,
  ⟨some 95, .mv 6, some (94, false), [(6, .imm)]⟩,
  ⟨some 96, .prim (.bin .gtr 3 false true) [95, kk 0], some (94, false), [(95, .imm)]⟩,
  ⟨some 97, .mv 96, some (94, false), [(96, .imm)]⟩,
  ⟨some 98, .faddr 0 7, some (97, true), [(7, .at_ 7 0)]⟩,
  ⟨some 99, .load false 1 98, some (97, true), [(98, .at_ 7 0)]⟩,
  ⟨some 100, .faddr 3 2, some (97, true), [(2, .at_ 2 0)]⟩,
  ⟨some 101, .load false 1 100, some (97, true), [(100, .at_ 2 3)]⟩,
  ⟨some 102, .mv 6, some (97, true), [(6, .imm)]⟩,
  ⟨some 103, .prim (.bin .sub 3 false true) [102, kk 1], some (97, true), [(102, .imm)]⟩,
  ⟨some 104, .iaddrS 2 101 103, some (97, true), [(101, .imm), (103, .imm)]⟩,
  ⟨some 105, .faddr 0 104, some (97, true), [(104, .imm)]⟩,
  ⟨some 106, .load false 1 105, some (97, true), [(105, .imm)]⟩,
  ⟨some 107, .prim (.bin .leq 3 false false) [99, 106], some (97, true), [(99, .imm), (106, .imm)]⟩,
  ⟨some 108, .pick 97 107 kf, some (94, false), [(97, .imm), (107, .imm)]⟩,
  ⟨some 109, .pick 94 kt 108, none, [(94, .imm), (108, .imm)]⟩]
def p10o18 := [zo 4 (.mv kf)]
def p10o26 := [zo 65 (.mv 6),
  zo 66 (.prim (.bin .add 3 false true) [65, kk 1]),
  zo 6 (.mv 66)]
def p10c28 := sq (sq (.region (some ([2, 5, 6], [2, 7], [])) false p10o11) (.cond 64 (.skip) (.exit 0))) (sq (.block 1 (sq (rg p10o16) (sq (rh p10o17) (.cond 109 (sq (rg p10o18) (rt)) (.skip))))) (rg p10o26))
def p10o32 := [zo 8 (.mv (kk 0))]
def p10o33 := [zo 110 (.mv 8),
  zo 111 (.faddr 5 2),
  zo 112 (.load false 1 111),
  zo 113 (.lenS 112),
  zo 114 (.prim (.bin .lss 3 false false) [110, 113])]
def p10o38 := [zo 117 (.faddr 5 2),
  zo 118 (.load false 1 117),
  zo 119 (.mv 8),
  zo 120 (.iaddrS 22 118 119),
  zo 121 (.load true 22 120),
  zo 122 (.call true [[]] 27 [121]),
  zo 123 (.prim (.un .not) [122]),
  zo 124 (.mv 123),
  zf 125 124 (.faddr 5 2),
  zf 126 124 (.load false 1 125),
  zf 127 124 (.mv 8),
  zf 128 124 (.iaddrS 22 126 127),
  zf 129 124 (.load true 22 128),
  zf 130 124 (.call true [[]] 28 [129]),
  zf 131 124 (.prim (.un .not) [130]),
  zo 132 (.pick 124 kt 131)]
def p10o39 := [zo 4 (.mv kf)]
def p10o46 := [zo 115 (.mv 8),
  zo 116 (.prim (.bin .add 3 false true) [115, kk 1]),
  zo 8 (.mv 116)]
def p10c48 := sq (sq (.region (some ([2, 8], [2], [])) false p10o33) (.cond 114 (.skip) (.exit 2))) (sq (.block 3 (sq (rg p10o38) (.cond 132 (sq (rg p10o39) (rt)) (.skip)))) (rg p10o46))
def p10o52 := [zo 9 (.mv (kk 0))]
def p10o53 := [zo 133 (.mv 9),
  zo 134 (.faddr 4 2),
  zo 135 (.load false 1 134),
  zo 136 (.lenS 135),
  zo 137 (.prim (.bin .lss 3 false false) [133, 136])]
def p10o58 := [zo 141 (.faddr 4 2),
  zo 142 (.load false 1 141),
  zo 143 (.mv 9),
  zo 144 (.iaddrS 11 142 143),
  zo 145 (.faddr 1 144),
  zo 146 (.load true 2 145),
  zo 147 (.call true [[]] 29 [146]),
  zo 140 (.mv 147),
  zo 148 (.ext 140 0),
  zo 149 (.ext 140 1),
  zo 10 (.mv 148),
  zo 11 (.mv 149)]
def p10o59 := [zo 150 (.faddr 3 2),
  zo 151 (.load false 1 150),
  zo 152 (.mv 10),
  zo 153 (.call true [[(0, 2)], []] 30 [151, 152]),
  zo 154 (.prim (.un .not) [153])]
def p10o60 := [zo 4 (.mv kf)]
def p10o68 := [zo 138 (.mv 9),
  zo 139 (.prim (.bin .add 3 false true) [138, kk 1]),
  zo 9 (.mv 139)]
def p10c70 := sq (sq (.region (some ([2, 9], [2], [])) false p10o53) (.cond 137 (.skip) (.exit 4))) (sq (.block 5 (sq (rg p10o58) (sq (rg p10o59) (.cond 154 (sq (rg p10o60) (rt)) (.skip))))) (rg p10o68))
def p10o74 := [zo 12 (.mv (kk 0))]
def p10o75 := [zo 155 (.mv 12),
  zo 156 (.faddr 2 2),
  zo 157 (.load false 1 156),
  zo 158 (.lenS 157),
  zo 159 (.prim (.bin .lss 3 false false) [155, 158])]
def p10o80 := [zo 163 (.faddr 2 2),
  zo 164 (.load false 1 163),
  zo 165 (.mv 12),
  zo 166 (.iaddrS 11 164 165),
  zo 167 (.faddr 1 166),
  zo 168 (.load true 2 167),
  zo 169 (.call true [[]] 29 [168]),
  zo 162 (.mv 169),
  zo 170 (.ext 162 0),
  zo 171 (.ext 162 1),
  zo 13 (.mv 170),
  zo 14 (.mv 171)]
def p10o81 := [zo 172 (.faddr 3 2),
  zo 173 (.load false 1 172),
  zo 174 (.mv 13),
  zo 175 (.call true [[(0, 2)], []] 30 [173, 174])]
def p10o82 := [zo 4 (.mv kf)]
def p10o90 := [zo 160 (.mv 12),
  zo 161 (.prim (.bin .add 3 false true) [160, kk 1]),
  zo 12 (.mv 161)]
def p10c92 := sq (sq (.region (some ([2, 12], [2], [])) false p10o75) (.cond 159 (.skip) (.exit 6))) (sq (.block 7 (sq (rg p10o80) (sq (rg p10o81) (.cond 175 (sq (rg p10o82) (rt)) (.skip))))) (rg p10o90))
def p10o96 := [zo 4 (.mv kt)]
def p10c98 := sq (rg p10o96) (rt)
def p10c99 := sq (sq (rg p10o74) (.block 6 (.loop p10c92))) p10c98
def p10c100 := sq (sq (rg p10o52) (.block 4 (.loop p10c70))) p10c99
def p10c101 := sq (sq (rg p10o32) (.block 2 (.loop p10c48))) p10c100
def p10c105 := sq (rg p10o1) (sq (rg p10o2) (sq (sq (rg p10o3) (.cond 59 (sq (rg p10o4) (rt)) (.skip))) (sq (sq (rg p10o10) (.block 0 (.loop p10c28))) p10c101)))
def pc10_r : List PRes := [PRes.tmp 4 []]
def pc10 : PFunc := ⟨176, pc10_r, p10c105, false⟩
def pc10_a : Ann := {
  kr := fun
    | 5 => some ([2, 5, 6], [2, 7], [])
    | 11 => some ([2, 8], [2], [])
    | 16 => some ([2, 9], [2], [])
    | 22 => some ([2, 12], [2], [])
    | _ => none
  ka := fun
    | _ => 0
  kh := fun x => [(2, Hint.at_ 2 0), (5, .imm), (6, .imm), (7, .at_ 7 0), (72, .at_ 7 0), (73, .imm), (74, .imm), (75, .imm), (76, .imm), (77, .at_ 7 1), (78, .imm), (79, .imm), (80, .imm), (81, .imm), (82, .at_ 7 1), (83, .imm), (84, .imm), (85, .imm), (86, .imm), (87, .imm), (88, .at_ 7 1), (89, .imm), (90, .at_ 2 0), (91, .imm), (92, .imm), (93, .imm), (94, .imm), (95, .imm), (96, .imm), (97, .imm), (98, .at_ 7 0), (99, .imm), (100, .at_ 2 3), (101, .imm), (102, .imm), (103, .imm), (104, .imm), (105, .imm), (106, .imm), (107, .imm), (108, .imm)].lookup x
  ow := fun t => match t with
    | 64 => [(1, 5, 1)]
    | _ => []
  tc := fun t => match t with
    | 64 => true
    | _ => false }
theorem pc10_ok : compFn Try.prog pc10_a Try.f10 = some pc10 := by kernel_rfl


end Go.Proofs.Ytpjejnefegdoeaa
