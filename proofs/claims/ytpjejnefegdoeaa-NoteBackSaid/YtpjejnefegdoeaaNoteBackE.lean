/- No condition. -/
import Derived.Test.YtpjejnefegdoeaaNoteBackC0
import Derived.Test.YtpjejnefegdoeaaNoteBackB
namespace Go.Proofs.Ytpjejnefegdoeaa
open Go Go.Rx
set_option maxRecDepth 100000
set_option linter.unusedVariables false
set_option linter.unusedSimpArgs false
set_option linter.unnecessarySimpa false
set_option linter.unnecessarySimpa false
def tbl : Table := fun f => match f with
 | 60 => some pc60
 | 61 => some pc61
 | 62 => some pc62
 | 32 => some pc32
 | 33 => some pc33
 | 31 => some pc31
 | 63 => some pc63
 | 34 => some pc34
 | 78 => some pc78
 | 94 => some pc94
 | 90 => some pc90
 | 79 => some pc79
 | 64 => some pc64
 | 66 => some pc66
 | 80 => some pc80
 | 65 => some pc65
 | 82 => some pc82
 | 91 => some pc91
 | 81 => some pc81
 | 67 => some pc67
 | 35 => some pc35
 | 68 => some pc68
 | 36 => some pc36
 | 11 => some pc11
 | 20 => some pc20
 | 77 => some pc77
 | 46 => some pc46
 | 49 => some pc49
 | 89 => some pc89
 | 88 => some pc88
 | 75 => some pc75
 | 44 => some pc44
 | 18 => some pc18
 | 47 => some pc47
 | 48 => some pc48
 | 21 => some pc21
 | 50 => some pc50
 | 51 => some pc51
 | 23 => some pc23
 | 9 => some pc9
 | 37 => some pc37
 | 38 => some pc38
 | 39 => some pc39
 | 12 => some pc12
 | 40 => some pc40
 | 13 => some pc13
 | 83 => some pc83
 | 69 => some pc69
 | 41 => some pc41
 | 73 => some pc73
 | 70 => some pc70
 | 98 => some pc98
 | 96 => some pc96
 | 93 => some pc93
 | 86 => some pc86
 | 97 => some pc97
 | 95 => some pc95
 | 92 => some pc92
 | 84 => some pc84
 | 71 => some pc71
 | 85 => some pc85
 | 87 => some pc87
 | 72 => some pc72
 | 42 => some pc42
 | 14 => some pc14
 | 7 => some pc7
 | 16 => some pc16
 | 74 => some pc74
 | 43 => some pc43
 | 17 => some pc17
 | 8 => some pc8
 | 15 => some pc15
 | 4 => some pc4
 | _ => none
noncomputable def D : Oracle := all Try.prog B tbl
theorem D_add {a : Lf} (ha : selfP a = true) {l : List Int} {s : ByteArray} : ∀ r, bldAdd l s = some r → D 19 [.one (.ptr 1000000 0), .one (ls s)] [.tcells 64 [a, .osl 1000001 0 0 l.length], .arr 5 (codI .u8).sz 0 l.length (getOf (codI .u8) l)] = some (.tup [.one (li .i64 s.size), .one (.val .nilIface)], [.tcells 64 [.ptr 1000000 0, .osl 1000001 1 0 r.length], .arr 5 (codI .u8).sz 1 r.length (getOf (codI .u8) r)]) :=
 fun r hr => all_of (N := 0) (B_of1 (bldO_add (fS := 24) ha r hr))
theorem D_str {a : Lf} (ha : selfP a = true) {l : List Int} : ∀ r, bldStr l = some r → D 24 [.one (.ptr 1000000 0)] [.tcells 64 [a, .osl 1000001 0 0 l.length], .arr 5 (codI .u8).sz 0 l.length (getOf (codI .u8) l)] = some (.one (ls r), [.tcells 64 [a, .osl 1000001 0 0 l.length], .arr 5 (codI .u8).sz 1 ([] : List Int).length (getOf (codI .u8) ([] : List Int))]) :=
 fun r hr => all_of (N := 0) (B_of1 (bldO_str (fW := 19) ha r hr))
theorem B_len {a : Lf} (ha : selfP a = true) {l : List Int} : ∀ r, bldLen l = some r → B 22 [.one (.ptr 1000000 0)] [.tcells 64 [a, .osl 1000001 0 0 l.length], .arr 5 (codI .u8).sz 0 l.length (getOf (codI .u8) l)] = some (.one (li .i64 r), [.tcells 64 [a, .osl 1000001 0 0 l.length], .arr 5 (codI .u8).sz 0 l.length (getOf (codI .u8) l)]) :=
 fun r hr => (orC_skip rfl (bldL_len ha r hr))
theorem D_len {a : Lf} (ha : selfP a = true) {l : List Int} : ∀ r, bldLen l = some r → D 22 [.one (.ptr 1000000 0)] [.tcells 64 [a, .osl 1000001 0 0 l.length], .arr 5 (codI .u8).sz 0 l.length (getOf (codI .u8) l)] = some (.one (li .i64 r), [.tcells 64 [a, .osl 1000001 0 0 l.length], .arr 5 (codI .u8).sz 0 l.length (getOf (codI .u8) l)]) :=
 fun r hr => all_of (N := 0) (B_len ha r hr)
theorem D_meets (hm : Try.prog.follows .mixedOrders = true) : Meets Try.prog D := by
 refine all_meets hm B_meets ?_
 intro f pf h
 unfold tbl at h
 split at h <;> first | (cases h; done) | skip
 ·exact mt h ⟨_, pc60_a, Try.func60, pc60_ok⟩
 ·exact mt h ⟨_, pc61_a, Try.func61, pc61_ok⟩
 ·exact mt h ⟨_, pc62_a, Try.func62, pc62_ok⟩
 ·exact mt h ⟨_, pc32_a, Try.func32, pc32_ok⟩
 ·exact mt h ⟨_, pc33_a, Try.func33, pc33_ok⟩
 ·exact mt h ⟨_, pc31_a, Try.func31, pc31_ok⟩
 ·exact mt h ⟨_, pc63_a, Try.func63, pc63_ok⟩
 ·exact mt h ⟨_, pc34_a, Try.func34, pc34_ok⟩
 ·exact mt h ⟨_, pc78_a, Try.func78, pc78_ok⟩
 ·exact mt h ⟨_, pc94_a, Try.func94, pc94_ok⟩
 ·exact mt h ⟨_, pc90_a, Try.func90, pc90_ok⟩
 ·exact mt h ⟨_, pc79_a, Try.func79, pc79_ok⟩
 ·exact mt h ⟨_, pc64_a, Try.func64, pc64_ok⟩
 ·exact mt h ⟨_, pc66_a, Try.func66, pc66_ok⟩
 ·exact mt h ⟨_, pc80_a, Try.func80, pc80_ok⟩
 ·exact mt h ⟨_, pc65_a, Try.func65, pc65_ok⟩
 ·exact mt h ⟨_, pc82_a, Try.func82, pc82_ok⟩
 ·exact mt h ⟨_, pc91_a, Try.func91, pc91_ok⟩
 ·exact mt h ⟨_, pc81_a, Try.func81, pc81_ok⟩
 ·exact mt h ⟨_, pc67_a, Try.func67, pc67_ok⟩
 ·exact mt h ⟨_, pc35_a, Try.func35, pc35_ok⟩
 ·exact mt h ⟨_, pc68_a, Try.func68, pc68_ok⟩
 ·exact mt h ⟨_, pc36_a, Try.func36, pc36_ok⟩
 ·exact mt h ⟨_, pc11_a, Try.func11, pc11_ok⟩
 ·exact mt h ⟨_, pc20_a, Try.func20, pc20_ok⟩
 ·exact mt h ⟨_, pc77_a, Try.func77, pc77_ok⟩
 ·exact mt h ⟨_, pc46_a, Try.func46, pc46_ok⟩
 ·exact mt h ⟨_, pc49_a, Try.func49, pc49_ok⟩
 ·exact mt h ⟨_, pc89_a, Try.func89, pc89_ok⟩
 ·exact mt h ⟨_, pc88_a, Try.func88, pc88_ok⟩
 ·exact mt h ⟨_, pc75_a, Try.func75, pc75_ok⟩
 ·exact mt h ⟨_, pc44_a, Try.func44, pc44_ok⟩
 ·exact mt h ⟨_, pc18_a, Try.func18, pc18_ok⟩
 ·exact mt h ⟨_, pc47_a, Try.func47, pc47_ok⟩
 ·exact mt h ⟨_, pc48_a, Try.func48, pc48_ok⟩
 ·exact mt h ⟨_, pc21_a, Try.func21, pc21_ok⟩
 ·exact mt h ⟨_, pc50_a, Try.func50, pc50_ok⟩
 ·exact mt h ⟨_, pc51_a, Try.func51, pc51_ok⟩
 ·exact mt h ⟨_, pc23_a, Try.func23, pc23_ok⟩
 ·exact mt h ⟨_, pc9_a, Try.func9, pc9_ok⟩
 ·exact mt h ⟨_, pc37_a, Try.func37, pc37_ok⟩
 ·exact mt h ⟨_, pc38_a, Try.func38, pc38_ok⟩
 ·exact mt h ⟨_, pc39_a, Try.func39, pc39_ok⟩
 ·exact mt h ⟨_, pc12_a, Try.func12, pc12_ok⟩
 ·exact mt h ⟨_, pc40_a, Try.func40, pc40_ok⟩
 ·exact mt h ⟨_, pc13_a, Try.func13, pc13_ok⟩
 ·exact mt h ⟨_, pc83_a, Try.func83, pc83_ok⟩
 ·exact mt h ⟨_, pc69_a, Try.func69, pc69_ok⟩
 ·exact mt h ⟨_, pc41_a, Try.func41, pc41_ok⟩
 ·exact mt h ⟨_, pc73_a, Try.func73, pc73_ok⟩
 ·exact mt h ⟨_, pc70_a, Try.func70, pc70_ok⟩
 ·exact mt h ⟨_, pc98_a, Try.func98, pc98_ok⟩
 ·exact mt h ⟨_, pc96_a, Try.func96, pc96_ok⟩
 ·exact mt h ⟨_, pc93_a, Try.func93, pc93_ok⟩
 ·exact mt h ⟨_, pc86_a, Try.func86, pc86_ok⟩
 ·exact mt h ⟨_, pc97_a, Try.func97, pc97_ok⟩
 ·exact mt h ⟨_, pc95_a, Try.func95, pc95_ok⟩
 ·exact mt h ⟨_, pc92_a, Try.func92, pc92_ok⟩
 ·exact mt h ⟨_, pc84_a, Try.func84, pc84_ok⟩
 ·exact mt h ⟨_, pc71_a, Try.func71, pc71_ok⟩
 ·exact mt h ⟨_, pc85_a, Try.func85, pc85_ok⟩
 ·exact mt h ⟨_, pc87_a, Try.func87, pc87_ok⟩
 ·exact mt h ⟨_, pc72_a, Try.func72, pc72_ok⟩
 ·exact mt h ⟨_, pc42_a, Try.func42, pc42_ok⟩
 ·exact mt h ⟨_, pc14_a, Try.func14, pc14_ok⟩
 ·exact mt h ⟨_, pc7_a, Try.func7, pc7_ok⟩
 ·exact mt h ⟨_, pc16_a, Try.func16, pc16_ok⟩
 ·exact mt h ⟨_, pc74_a, Try.func74, pc74_ok⟩
 ·exact mt h ⟨_, pc43_a, Try.func43, pc43_ok⟩
 ·exact mt h ⟨_, pc17_a, Try.func17, pc17_ok⟩
 ·exact mt h ⟨_, pc8_a, Try.func8, pc8_ok⟩
 ·exact mt h ⟨_, pc15_a, Try.func15, pc15_ok⟩
 ·exact mt h ⟨_, pc4_a, Try.func4, pc4_ok⟩
end Go.Proofs.Ytpjejnefegdoeaa
