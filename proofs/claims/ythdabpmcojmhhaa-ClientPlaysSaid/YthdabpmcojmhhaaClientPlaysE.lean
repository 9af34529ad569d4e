/- No condition. -/
import Derived.Test.YthdabpmcojmhhaaClientPlaysC0
import Derived.Test.YthdabpmcojmhhaaClientPlaysB
namespace Go.Proofs.Ythdabpmcojmhhaa
open Go Go.Rx
set_option maxRecDepth 100000
set_option linter.unusedVariables false
set_option linter.unusedSimpArgs false
set_option linter.unnecessarySimpa false
set_option linter.unnecessarySimpa false
def tbl : Table := fun f => match f with
 | 17 => some pc17
 | 19 => some pc19
 | 20 => some pc20
 | 13 => some pc13
 | 38 => some pc38
 | 27 => some pc27
 | 62 => some pc62
 | 63 => some pc63
 | 64 => some pc64
 | 51 => some pc51
 | 28 => some pc28
 | 29 => some pc29
 | 30 => some pc30
 | 77 => some pc77
 | 79 => some pc79
 | 91 => some pc91
 | 78 => some pc78
 | 72 => some pc72
 | 80 => some pc80
 | 73 => some pc73
 | 57 => some pc57
 | 56 => some pc56
 | 71 => some pc71
 | 55 => some pc55
 | 44 => some pc44
 | 92 => some pc92
 | 83 => some pc83
 | 82 => some pc82
 | 81 => some pc81
 | 85 => some pc85
 | 74 => some pc74
 | 58 => some pc58
 | 46 => some pc46
 | 15 => some pc15
 | 35 => some pc35
 | 40 => some pc40
 | 41 => some pc41
 | 42 => some pc42
 | 25 => some pc25
 | 26 => some pc26
 | 65 => some pc65
 | 52 => some pc52
 | 31 => some pc31
 | 14 => some pc14
 | 32 => some pc32
 | 66 => some pc66
 | 67 => some pc67
 | 68 => some pc68
 | 69 => some pc69
 | 70 => some pc70
 | 53 => some pc53
 | 33 => some pc33
 | 34 => some pc34
 | 47 => some pc47
 | 75 => some pc75
 | 59 => some pc59
 | 60 => some pc60
 | 48 => some pc48
 | 87 => some pc87
 | 88 => some pc88
 | 89 => some pc89
 | 90 => some pc90
 | 76 => some pc76
 | 61 => some pc61
 | 49 => some pc49
 | 16 => some pc16
 | 36 => some pc36
 | 37 => some pc37
 | 39 => some pc39
 | 9 => some pc9
 | _ => none
noncomputable def D : zaf := all Try.prog B tbl
theorem B_b50 {l r : List Thing} (h : zca l = some r) : B 50 [.one (vw Thing.cod l)] [] = some (.one (.osl 1000000 0 0 r.length), [.arr 54 Thing.cod.sz 0 r.length (zaa Thing.cod r)]) := (orC_hit (cloneO_is (T := 54) (f := 50) (c := Thing.cod) h))
theorem D_b50 {l r : List Thing} (h : zca l = some r) : D 50 [.one (vw Thing.cod l)] [] = some (.one (.osl 1000000 0 0 r.length), [.arr 54 Thing.cod.sz 0 r.length (zaa Thing.cod r)]) := all_of (N := 0) (B_b50 h)
theorem B_b84 {l r : List Thing} {i : Int} {a : Thing} (h : insL l i a = some r) : B 84 [.one (.osl 1000000 0 0 l.length), .one (li .i64 i), .one (.csl 1000001 Thing.cod.sz 0 1)] [.arr 54 Thing.cod.sz 0 l.length (zaa Thing.cod l), .cells (Thing.cod.enc a)] = some (.one (.osl 1000000 1 0 r.length), [.arr 54 Thing.cod.sz 1 r.length (zaa Thing.cod r), .cells (Thing.cod.enc a)]) := (zel rfl (orC_hit (insO_is (T := 54) (f := 84) (c := Thing.cod) h rfl rfl)))
theorem D_b84 {l r : List Thing} {i : Int} {a : Thing} (h : insL l i a = some r) : D 84 [.one (.osl 1000000 0 0 l.length), .one (li .i64 i), .one (.csl 1000001 Thing.cod.sz 0 1)] [.arr 54 Thing.cod.sz 0 l.length (zaa Thing.cod l), .cells (Thing.cod.enc a)] = some (.one (.osl 1000000 1 0 r.length), [.arr 54 Thing.cod.sz 1 r.length (zaa Thing.cod r), .cells (Thing.cod.enc a)]) := all_of (N := 0) (B_b84 h)
theorem B_b86 {l r : List Thing} {i j : Int} (h : delL l i j = some r) : B 86 [.one (.osl 1000000 0 0 l.length), .one (li .i64 i), .one (li .i64 j)] [.arr 54 Thing.cod.sz 0 l.length (zaa Thing.cod l)] = some (.one (.osl 1000000 1 0 r.length), [.arr 54 Thing.cod.sz 1 r.length (zaa Thing.cod r)]) := (zel rfl (zel rfl (orC_hit (delO_is (T := 54) (f := 86) (c := Thing.cod) h))))
theorem D_b86 {l r : List Thing} {i j : Int} (h : delL l i j = some r) : D 86 [.one (.osl 1000000 0 0 l.length), .one (li .i64 i), .one (li .i64 j)] [.arr 54 Thing.cod.sz 0 l.length (zaa Thing.cod l)] = some (.one (.osl 1000000 1 0 r.length), [.arr 54 Thing.cod.sz 1 r.length (zaa Thing.cod r)]) := all_of (N := 0) (B_b86 h)
theorem B_b45 {l r : List Event} (h : zca l = some r) : B 45 [.one (vw Event.cod l)] [] = some (.one (.osl 1000000 0 0 r.length), [.arr 58 Event.cod.sz 0 r.length (zaa Event.cod r)]) := (zel rfl (zel rfl (zel rfl (cloneO_is (T := 58) (f := 45) (c := Event.cod) h))))
theorem D_b45 {l r : List Event} (h : zca l = some r) : D 45 [.one (vw Event.cod l)] [] = some (.one (.osl 1000000 0 0 r.length), [.arr 58 Event.cod.sz 0 r.length (zaa Event.cod r)]) := all_of (N := 0) (B_b45 h)
theorem D_meets (hm : Try.prog.follows .mixedOrders = true) : Meets Try.prog D := by
 refine all_meets hm B_meets ?_
 intro f pf h
 unfold tbl at h
 split at h <;> first | (cases h; done) | skip
 ·exact mt h ⟨_, pc17_a, Try.func17, pc17_ok⟩
 ·exact mt h ⟨_, pc19_a, Try.func19, pc19_ok⟩
 ·exact mt h ⟨_, pc20_a, Try.func20, pc20_ok⟩
 ·exact mt h ⟨_, pc13_a, Try.func13, pc13_ok⟩
 ·exact mt h ⟨_, pc38_a, Try.func38, pc38_ok⟩
 ·exact mt h ⟨_, pc27_a, Try.func27, pc27_ok⟩
 ·exact mt h ⟨_, pc62_a, Try.func62, pc62_ok⟩
 ·exact mt h ⟨_, pc63_a, Try.func63, pc63_ok⟩
 ·exact mt h ⟨_, pc64_a, Try.func64, pc64_ok⟩
 ·exact mt h ⟨_, pc51_a, Try.func51, pc51_ok⟩
 ·exact mt h ⟨_, pc28_a, Try.func28, pc28_ok⟩
 ·exact mt h ⟨_, pc29_a, Try.func29, pc29_ok⟩
 ·exact mt h ⟨_, pc30_a, Try.func30, pc30_ok⟩
 ·exact mt h ⟨_, pc77_a, Try.func77, pc77_ok⟩
 ·exact mt h ⟨_, pc79_a, Try.func79, pc79_ok⟩
 ·exact mt h ⟨_, pc91_a, Try.func91, pc91_ok⟩
 ·exact mt h ⟨_, pc78_a, Try.func78, pc78_ok⟩
 ·exact mt h ⟨_, pc72_a, Try.func72, pc72_ok⟩
 ·exact mt h ⟨_, pc80_a, Try.func80, pc80_ok⟩
 ·exact mt h ⟨_, pc73_a, Try.func73, pc73_ok⟩
 ·exact mt h ⟨_, pc57_a, Try.func57, pc57_ok⟩
 ·exact mt h ⟨_, pc56_a, Try.func56, pc56_ok⟩
 ·exact mt h ⟨_, pc71_a, Try.func71, pc71_ok⟩
 ·exact mt h ⟨_, pc55_a, Try.func55, pc55_ok⟩
 ·exact mt h ⟨_, pc44_a, Try.func44, pc44_ok⟩
 ·exact mt h ⟨_, pc92_a, Try.func92, pc92_ok⟩
 ·exact mt h ⟨_, pc83_a, Try.func83, pc83_ok⟩
 ·exact mt h ⟨_, pc82_a, Try.func82, pc82_ok⟩
 ·exact mt h ⟨_, pc81_a, Try.func81, pc81_ok⟩
 ·exact mt h ⟨_, pc85_a, Try.func85, pc85_ok⟩
 ·exact mt h ⟨_, pc74_a, Try.func74, pc74_ok⟩
 ·exact mt h ⟨_, pc58_a, Try.func58, pc58_ok⟩
 ·exact mt h ⟨_, pc46_a, Try.func46, pc46_ok⟩
 ·exact mt h ⟨_, pc15_a, Try.func15, pc15_ok⟩
 ·exact mt h ⟨_, pc35_a, Try.func35, pc35_ok⟩
 ·exact mt h ⟨_, pc40_a, Try.func40, pc40_ok⟩
 ·exact mt h ⟨_, pc41_a, Try.func41, pc41_ok⟩
 ·exact mt h ⟨_, pc42_a, Try.func42, pc42_ok⟩
 ·exact mt h ⟨_, pc25_a, Try.func25, pc25_ok⟩
 ·exact mt h ⟨_, pc26_a, Try.func26, pc26_ok⟩
 ·exact mt h ⟨_, pc65_a, Try.func65, pc65_ok⟩
 ·exact mt h ⟨_, pc52_a, Try.func52, pc52_ok⟩
 ·exact mt h ⟨_, pc31_a, Try.func31, pc31_ok⟩
 ·exact mt h ⟨_, pc14_a, Try.func14, pc14_ok⟩
 ·exact mt h ⟨_, pc32_a, Try.func32, pc32_ok⟩
 ·exact mt h ⟨_, pc66_a, Try.func66, pc66_ok⟩
 ·exact mt h ⟨_, pc67_a, Try.func67, pc67_ok⟩
 ·exact mt h ⟨_, pc68_a, Try.func68, pc68_ok⟩
 ·exact mt h ⟨_, pc69_a, Try.func69, pc69_ok⟩
 ·exact mt h ⟨_, pc70_a, Try.func70, pc70_ok⟩
 ·exact mt h ⟨_, pc53_a, Try.func53, pc53_ok⟩
 ·exact mt h ⟨_, pc33_a, Try.func33, pc33_ok⟩
 ·exact mt h ⟨_, pc34_a, Try.func34, pc34_ok⟩
 ·exact mt h ⟨_, pc47_a, Try.func47, pc47_ok⟩
 ·exact mt h ⟨_, pc75_a, Try.func75, pc75_ok⟩
 ·exact mt h ⟨_, pc59_a, Try.func59, pc59_ok⟩
 ·exact mt h ⟨_, pc60_a, Try.func60, pc60_ok⟩
 ·exact mt h ⟨_, pc48_a, Try.func48, pc48_ok⟩
 ·exact mt h ⟨_, pc87_a, Try.func87, pc87_ok⟩
 ·exact mt h ⟨_, pc88_a, Try.func88, pc88_ok⟩
 ·exact mt h ⟨_, pc89_a, Try.func89, pc89_ok⟩
 ·exact mt h ⟨_, pc90_a, Try.func90, pc90_ok⟩
 ·exact mt h ⟨_, pc76_a, Try.func76, pc76_ok⟩
 ·exact mt h ⟨_, pc61_a, Try.func61, pc61_ok⟩
 ·exact mt h ⟨_, pc49_a, Try.func49, pc49_ok⟩
 ·exact mt h ⟨_, pc16_a, Try.func16, pc16_ok⟩
 ·exact mt h ⟨_, pc36_a, Try.func36, pc36_ok⟩
 ·exact mt h ⟨_, pc37_a, Try.func37, pc37_ok⟩
 ·exact mt h ⟨_, pc39_a, Try.func39, pc39_ok⟩
 ·exact mt h ⟨_, pc9_a, Try.func9, pc9_ok⟩
end Go.Proofs.Ythdabpmcojmhhaa
