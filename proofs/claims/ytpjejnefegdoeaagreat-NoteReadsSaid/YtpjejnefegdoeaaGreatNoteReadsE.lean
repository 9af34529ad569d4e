/- No condition. -/
import Derived.Test.YtpjejnefegdoeaaGreatNoteReadsC0
import Derived.Test.YtpjejnefegdoeaaGreatNoteReadsB
namespace Go.Proofs.YtpjejnefegdoeaaGreat
open Go Go.Rx
set_option maxRecDepth 100000
set_option linter.unusedVariables false
set_option linter.unusedSimpArgs false
set_option linter.unnecessarySimpa false
set_option linter.unnecessarySimpa false
def tbl : Table := fun f => match f with
 | 61 => some pc61
 | 62 => some pc62
 | 63 => some pc63
 | 31 => some pc31
 | 32 => some pc32
 | 30 => some pc30
 | 64 => some pc64
 | 33 => some pc33
 | 87 => some pc87
 | 99 => some pc99
 | 96 => some pc96
 | 88 => some pc88
 | 65 => some pc65
 | 67 => some pc67
 | 89 => some pc89
 | 66 => some pc66
 | 91 => some pc91
 | 97 => some pc97
 | 90 => some pc90
 | 68 => some pc68
 | 34 => some pc34
 | 69 => some pc69
 | 35 => some pc35
 | 12 => some pc12
 | 18 => some pc18
 | 73 => some pc73
 | 42 => some pc42
 | 45 => some pc45
 | 93 => some pc93
 | 92 => some pc92
 | 71 => some pc71
 | 40 => some pc40
 | 16 => some pc16
 | 43 => some pc43
 | 44 => some pc44
 | 19 => some pc19
 | 46 => some pc46
 | 47 => some pc47
 | 21 => some pc21
 | 6 => some pc6
 | 82 => some pc82
 | 56 => some pc56
 | 27 => some pc27
 | 60 => some pc60
 | 57 => some pc57
 | 102 => some pc102
 | 100 => some pc100
 | 95 => some pc95
 | 85 => some pc85
 | 101 => some pc101
 | 98 => some pc98
 | 94 => some pc94
 | 83 => some pc83
 | 58 => some pc58
 | 84 => some pc84
 | 86 => some pc86
 | 59 => some pc59
 | 28 => some pc28
 | 10 => some pc10
 | 29 => some pc29
 | 11 => some pc11
 | 36 => some pc36
 | 37 => some pc37
 | 38 => some pc38
 | 13 => some pc13
 | 4 => some pc4
 | 14 => some pc14
 | 70 => some pc70
 | 39 => some pc39
 | 15 => some pc15
 | 5 => some pc5
 | 25 => some pc25
 | 55 => some pc55
 | 26 => some pc26
 | 9 => some pc9
 | 48 => some pc48
 | 23 => some pc23
 | 7 => some pc7
 | 79 => some pc79
 | 80 => some pc80
 | 74 => some pc74
 | 49 => some pc49
 | 50 => some pc50
 | 75 => some pc75
 | 76 => some pc76
 | 77 => some pc77
 | 78 => some pc78
 | 51 => some pc51
 | 52 => some pc52
 | 81 => some pc81
 | 53 => some pc53
 | 54 => some pc54
 | 24 => some pc24
 | 8 => some pc8
 | 3 => some pc3
 | _ => none
noncomputable def D : Oracle := all Tryz.prog B tbl
theorem D_add {a : Lf} (ha : selfP a = true) {l : List Int} {s : ByteArray} : ∀ r, bldAdd l s = some r → D 17 [.one (.ptr 1000000 0), .one (ls s)] [.tcells 61 [a, .osl 1000001 0 0 l.length], .arr 5 (codI .u8).sz 0 l.length (getOf (codI .u8) l)] = some (.tup [.one (li .i64 s.size), .one (.val .nilIface)], [.tcells 61 [.ptr 1000000 0, .osl 1000001 1 0 r.length], .arr 5 (codI .u8).sz 1 r.length (getOf (codI .u8) r)]) :=
 fun r hr => all_of (N := 0) (B_of1 (bldO_add (fS := 22) ha r hr))
theorem D_str {a : Lf} (ha : selfP a = true) {l : List Int} : ∀ r, bldStr l = some r → D 22 [.one (.ptr 1000000 0)] [.tcells 61 [a, .osl 1000001 0 0 l.length], .arr 5 (codI .u8).sz 0 l.length (getOf (codI .u8) l)] = some (.one (ls r), [.tcells 61 [a, .osl 1000001 0 0 l.length], .arr 5 (codI .u8).sz 1 ([] : List Int).length (getOf (codI .u8) ([] : List Int))]) :=
 fun r hr => all_of (N := 0) (B_of1 (bldO_str (fW := 17) ha r hr))
theorem B_len {a : Lf} (ha : selfP a = true) {l : List Int} : ∀ r, bldLen l = some r → B 20 [.one (.ptr 1000000 0)] [.tcells 61 [a, .osl 1000001 0 0 l.length], .arr 5 (codI .u8).sz 0 l.length (getOf (codI .u8) l)] = some (.one (li .i64 r), [.tcells 61 [a, .osl 1000001 0 0 l.length], .arr 5 (codI .u8).sz 0 l.length (getOf (codI .u8) l)]) :=
 fun r hr => (orC_skip rfl (bldL_len ha r hr))
theorem D_len {a : Lf} (ha : selfP a = true) {l : List Int} : ∀ r, bldLen l = some r → D 20 [.one (.ptr 1000000 0)] [.tcells 61 [a, .osl 1000001 0 0 l.length], .arr 5 (codI .u8).sz 0 l.length (getOf (codI .u8) l)] = some (.one (li .i64 r), [.tcells 61 [a, .osl 1000001 0 0 l.length], .arr 5 (codI .u8).sz 0 l.length (getOf (codI .u8) l)]) :=
 fun r hr => all_of (N := 0) (B_len ha r hr)
theorem D_meets (hm : Tryz.prog.follows .mixedOrders = true) : Meets Tryz.prog D := by
 refine all_meets hm B_meets ?_
 intro f pf h
 unfold tbl at h
 split at h <;> first | (cases h; done) | skip
 ·exact mt h ⟨_, pc61_a, Tryz.func61, pc61_ok⟩
 ·exact mt h ⟨_, pc62_a, Tryz.func62, pc62_ok⟩
 ·exact mt h ⟨_, pc63_a, Tryz.func63, pc63_ok⟩
 ·exact mt h ⟨_, pc31_a, Tryz.func31, pc31_ok⟩
 ·exact mt h ⟨_, pc32_a, Tryz.func32, pc32_ok⟩
 ·exact mt h ⟨_, pc30_a, Tryz.func30, pc30_ok⟩
 ·exact mt h ⟨_, pc64_a, Tryz.func64, pc64_ok⟩
 ·exact mt h ⟨_, pc33_a, Tryz.func33, pc33_ok⟩
 ·exact mt h ⟨_, pc87_a, Tryz.func87, pc87_ok⟩
 ·exact mt h ⟨_, pc99_a, Tryz.func99, pc99_ok⟩
 ·exact mt h ⟨_, pc96_a, Tryz.func96, pc96_ok⟩
 ·exact mt h ⟨_, pc88_a, Tryz.func88, pc88_ok⟩
 ·exact mt h ⟨_, pc65_a, Tryz.func65, pc65_ok⟩
 ·exact mt h ⟨_, pc67_a, Tryz.func67, pc67_ok⟩
 ·exact mt h ⟨_, pc89_a, Tryz.func89, pc89_ok⟩
 ·exact mt h ⟨_, pc66_a, Tryz.func66, pc66_ok⟩
 ·exact mt h ⟨_, pc91_a, Tryz.func91, pc91_ok⟩
 ·exact mt h ⟨_, pc97_a, Tryz.func97, pc97_ok⟩
 ·exact mt h ⟨_, pc90_a, Tryz.func90, pc90_ok⟩
 ·exact mt h ⟨_, pc68_a, Tryz.func68, pc68_ok⟩
 ·exact mt h ⟨_, pc34_a, Tryz.func34, pc34_ok⟩
 ·exact mt h ⟨_, pc69_a, Tryz.func69, pc69_ok⟩
 ·exact mt h ⟨_, pc35_a, Tryz.func35, pc35_ok⟩
 ·exact mt h ⟨_, pc12_a, Tryz.func12, pc12_ok⟩
 ·exact mt h ⟨_, pc18_a, Tryz.func18, pc18_ok⟩
 ·exact mt h ⟨_, pc73_a, Tryz.func73, pc73_ok⟩
 ·exact mt h ⟨_, pc42_a, Tryz.func42, pc42_ok⟩
 ·exact mt h ⟨_, pc45_a, Tryz.func45, pc45_ok⟩
 ·exact mt h ⟨_, pc93_a, Tryz.func93, pc93_ok⟩
 ·exact mt h ⟨_, pc92_a, Tryz.func92, pc92_ok⟩
 ·exact mt h ⟨_, pc71_a, Tryz.func71, pc71_ok⟩
 ·exact mt h ⟨_, pc40_a, Tryz.func40, pc40_ok⟩
 ·exact mt h ⟨_, pc16_a, Tryz.func16, pc16_ok⟩
 ·exact mt h ⟨_, pc43_a, Tryz.func43, pc43_ok⟩
 ·exact mt h ⟨_, pc44_a, Tryz.func44, pc44_ok⟩
 ·exact mt h ⟨_, pc19_a, Tryz.func19, pc19_ok⟩
 ·exact mt h ⟨_, pc46_a, Tryz.func46, pc46_ok⟩
 ·exact mt h ⟨_, pc47_a, Tryz.func47, pc47_ok⟩
 ·exact mt h ⟨_, pc21_a, Tryz.func21, pc21_ok⟩
 ·exact mt h ⟨_, pc6_a, Tryz.func6, pc6_ok⟩
 ·exact mt h ⟨_, pc82_a, Tryz.func82, pc82_ok⟩
 ·exact mt h ⟨_, pc56_a, Tryz.func56, pc56_ok⟩
 ·exact mt h ⟨_, pc27_a, Tryz.func27, pc27_ok⟩
 ·exact mt h ⟨_, pc60_a, Tryz.func60, pc60_ok⟩
 ·exact mt h ⟨_, pc57_a, Tryz.func57, pc57_ok⟩
 ·exact mt h ⟨_, pc102_a, Tryz.func102, pc102_ok⟩
 ·exact mt h ⟨_, pc100_a, Tryz.func100, pc100_ok⟩
 ·exact mt h ⟨_, pc95_a, Tryz.func95, pc95_ok⟩
 ·exact mt h ⟨_, pc85_a, Tryz.func85, pc85_ok⟩
 ·exact mt h ⟨_, pc101_a, Tryz.func101, pc101_ok⟩
 ·exact mt h ⟨_, pc98_a, Tryz.func98, pc98_ok⟩
 ·exact mt h ⟨_, pc94_a, Tryz.func94, pc94_ok⟩
 ·exact mt h ⟨_, pc83_a, Tryz.func83, pc83_ok⟩
 ·exact mt h ⟨_, pc58_a, Tryz.func58, pc58_ok⟩
 ·exact mt h ⟨_, pc84_a, Tryz.func84, pc84_ok⟩
 ·exact mt h ⟨_, pc86_a, Tryz.func86, pc86_ok⟩
 ·exact mt h ⟨_, pc59_a, Tryz.func59, pc59_ok⟩
 ·exact mt h ⟨_, pc28_a, Tryz.func28, pc28_ok⟩
 ·exact mt h ⟨_, pc10_a, Tryz.func10, pc10_ok⟩
 ·exact mt h ⟨_, pc29_a, Tryz.func29, pc29_ok⟩
 ·exact mt h ⟨_, pc11_a, Tryz.func11, pc11_ok⟩
 ·exact mt h ⟨_, pc36_a, Tryz.func36, pc36_ok⟩
 ·exact mt h ⟨_, pc37_a, Tryz.func37, pc37_ok⟩
 ·exact mt h ⟨_, pc38_a, Tryz.func38, pc38_ok⟩
 ·exact mt h ⟨_, pc13_a, Tryz.func13, pc13_ok⟩
 ·exact mt h ⟨_, pc4_a, Tryz.func4, pc4_ok⟩
 ·exact mt h ⟨_, pc14_a, Tryz.func14, pc14_ok⟩
 ·exact mt h ⟨_, pc70_a, Tryz.func70, pc70_ok⟩
 ·exact mt h ⟨_, pc39_a, Tryz.func39, pc39_ok⟩
 ·exact mt h ⟨_, pc15_a, Tryz.func15, pc15_ok⟩
 ·exact mt h ⟨_, pc5_a, Tryz.func5, pc5_ok⟩
 ·exact mt h ⟨_, pc25_a, Tryz.func25, pc25_ok⟩
 ·exact mt h ⟨_, pc55_a, Tryz.func55, pc55_ok⟩
 ·exact mt h ⟨_, pc26_a, Tryz.func26, pc26_ok⟩
 ·exact mt h ⟨_, pc9_a, Tryz.func9, pc9_ok⟩
 ·exact mt h ⟨_, pc48_a, Tryz.func48, pc48_ok⟩
 ·exact mt h ⟨_, pc23_a, Tryz.func23, pc23_ok⟩
 ·exact mt h ⟨_, pc7_a, Tryz.func7, pc7_ok⟩
 ·exact mt h ⟨_, pc79_a, Tryz.func79, pc79_ok⟩
 ·exact mt h ⟨_, pc80_a, Tryz.func80, pc80_ok⟩
 ·exact mt h ⟨_, pc74_a, Tryz.func74, pc74_ok⟩
 ·exact mt h ⟨_, pc49_a, Tryz.func49, pc49_ok⟩
 ·exact mt h ⟨_, pc50_a, Tryz.func50, pc50_ok⟩
 ·exact mt h ⟨_, pc75_a, Tryz.func75, pc75_ok⟩
 ·exact mt h ⟨_, pc76_a, Tryz.func76, pc76_ok⟩
 ·exact mt h ⟨_, pc77_a, Tryz.func77, pc77_ok⟩
 ·exact mt h ⟨_, pc78_a, Tryz.func78, pc78_ok⟩
 ·exact mt h ⟨_, pc51_a, Tryz.func51, pc51_ok⟩
 ·exact mt h ⟨_, pc52_a, Tryz.func52, pc52_ok⟩
 ·exact mt h ⟨_, pc81_a, Tryz.func81, pc81_ok⟩
 ·exact mt h ⟨_, pc53_a, Tryz.func53, pc53_ok⟩
 ·exact mt h ⟨_, pc54_a, Tryz.func54, pc54_ok⟩
 ·exact mt h ⟨_, pc24_a, Tryz.func24, pc24_ok⟩
 ·exact mt h ⟨_, pc8_a, Tryz.func8, pc8_ok⟩
 ·exact mt h ⟨_, pc3_a, Tryz.func3, pc3_ok⟩
end Go.Proofs.YtpjejnefegdoeaaGreat
