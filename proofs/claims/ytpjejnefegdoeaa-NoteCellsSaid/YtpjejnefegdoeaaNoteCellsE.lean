/-
  The table of the functions; what it tells is what the program does. No condition.
-/
import Derived.Test.YtpjejnefegdoeaaNoteCellsC0
import Derived.Test.YtpjejnefegdoeaaNoteCellsC1
import Derived.Test.YtpjejnefegdoeaaNoteCellsB
namespace Go.Proofs.Ytpjejnefegdoeaa
open Go Go.Rx
set_option maxRecDepth 100000
set_option linter.unusedVariables false
set_option linter.unusedSimpArgs false
set_option linter.unnecessarySimpa false
def tbl : Table := fun f => match f with
  | 60 => some pc60
  | 61 => some pc61
  | 62 => some pc62
  | 32 => some pc32
  | 33 => some pc33
  | 31 => some pc31
  | 63 => some pc63
  | 34 => some pc34
  | 78 => some pc78
  | 94 => some pc94
  | 90 => some pc90
  | 79 => some pc79
  | 64 => some pc64
  | 66 => some pc66
  | 80 => some pc80
  | 65 => some pc65
  | 82 => some pc82
  | 91 => some pc91
  | 81 => some pc81
  | 67 => some pc67
  | 35 => some pc35
  | 68 => some pc68
  | 36 => some pc36
  | 11 => some pc11
  | 20 => some pc20
  | 77 => some pc77
  | 46 => some pc46
  | 49 => some pc49
  | 89 => some pc89
  | 88 => some pc88
  | 75 => some pc75
  | 44 => some pc44
  | 18 => some pc18
  | 47 => some pc47
  | 48 => some pc48
  | 21 => some pc21
  | 50 => some pc50
  | 51 => some pc51
  | 23 => some pc23
  | 9 => some pc9
  | 37 => some pc37
  | 38 => some pc38
  | 39 => some pc39
  | 12 => some pc12
  | 40 => some pc40
  | 13 => some pc13
  | 83 => some pc83
  | 69 => some pc69
  | 41 => some pc41
  | 73 => some pc73
  | 70 => some pc70
  | 98 => some pc98
  | 96 => some pc96
  | 93 => some pc93
  | 86 => some pc86
  | 97 => some pc97
  | 95 => some pc95
  | 92 => some pc92
  | 84 => some pc84
  | 71 => some pc71
  | 85 => some pc85
  | 87 => some pc87
  | 72 => some pc72
  | 42 => some pc42
  | 14 => some pc14
  | 7 => some pc7
  | 6 => some pc6
  | 57 => some pc57
  | 58 => some pc58
  | 52 => some pc52
  | 25 => some pc25
  | 26 => some pc26
  | 53 => some pc53
  | 54 => some pc54
  | 55 => some pc55
  | 56 => some pc56
  | 27 => some pc27
  | 28 => some pc28
  | 59 => some pc59
  | 29 => some pc29
  | 30 => some pc30
  | 10 => some pc10
  | _ => none
noncomputable def D : Oracle := all Try.prog B tbl
theorem D_add {a : Lf} (ha : selfP a = true) {l : List Int} {s : ByteArray} : ∀ r, bldAdd l s = some r → D 19 [.one (.ptr 1000000 0), .one (ls s)] [.tcells 64 [a, .osl 1000001 0 0 l.length], .arr 5 (codI .u8).sz 0 l.length (getOf (codI .u8) l)] = some (.tup [.one (li .i64 s.size), .one (.val .nilIface)], [.tcells 64 [.ptr 1000000 0, .osl 1000001 1 0 r.length], .arr 5 (codI .u8).sz 1 r.length (getOf (codI .u8) r)]) :=
  fun r hr => all_of (N := 0) (B_of1 (bldO_add (fS := 24) ha r hr))
theorem D_str {a : Lf} (ha : selfP a = true) {l : List Int} : ∀ r, bldStr l = some r → D 24 [.one (.ptr 1000000 0)] [.tcells 64 [a, .osl 1000001 0 0 l.length], .arr 5 (codI .u8).sz 0 l.length (getOf (codI .u8) l)] = some (.one (ls r), [.tcells 64 [a, .osl 1000001 0 0 l.length], .arr 5 (codI .u8).sz 1 ([] : List Int).length (getOf (codI .u8) ([] : List Int))]) :=
  fun r hr => all_of (N := 0) (B_of1 (bldO_str (fW := 19) ha r hr))
theorem B_len {a : Lf} (ha : selfP a = true) {l : List Int} : ∀ r, bldLen l = some r → B 22 [.one (.ptr 1000000 0)] [.tcells 64 [a, .osl 1000001 0 0 l.length], .arr 5 (codI .u8).sz 0 l.length (getOf (codI .u8) l)] = some (.one (li .i64 r), [.tcells 64 [a, .osl 1000001 0 0 l.length], .arr 5 (codI .u8).sz 0 l.length (getOf (codI .u8) l)]) :=
  fun r hr => (orC_skip rfl (bldL_len ha r hr))
theorem D_len {a : Lf} (ha : selfP a = true) {l : List Int} : ∀ r, bldLen l = some r → D 22 [.one (.ptr 1000000 0)] [.tcells 64 [a, .osl 1000001 0 0 l.length], .arr 5 (codI .u8).sz 0 l.length (getOf (codI .u8) l)] = some (.one (li .i64 r), [.tcells 64 [a, .osl 1000001 0 0 l.length], .arr 5 (codI .u8).sz 0 l.length (getOf (codI .u8) l)]) :=
  fun r hr => all_of (N := 0) (B_len ha r hr)
theorem D_meets (hm : Try.prog.follows .mixedOrders = true) : Meets Try.prog D := by
  refine all_meets hm B_meets ?_
  intro f pf h
  unfold tbl at h
  split at h <;> first | (cases h; done) | skip
  · obtain rfl := Option.some.inj h; exact ⟨_, pc60_a, Try.func60, pc60_ok⟩
  · obtain rfl := Option.some.inj h; exact ⟨_, pc61_a, Try.func61, pc61_ok⟩
  · obtain rfl := Option.some.inj h; exact ⟨_, pc62_a, Try.func62, pc62_ok⟩
  · obtain rfl := Option.some.inj h; exact ⟨_, pc32_a, Try.func32, pc32_ok⟩
  · obtain rfl := Option.some.inj h; exact ⟨_, pc33_a, Try.func33, pc33_ok⟩
  · obtain rfl := Option.some.inj h; exact ⟨_, pc31_a, Try.func31, pc31_ok⟩
  · obtain rfl := Option.some.inj h; exact ⟨_, pc63_a, Try.func63, pc63_ok⟩
  · obtain rfl := Option.some.inj h; exact ⟨_, pc34_a, Try.func34, pc34_ok⟩
  · obtain rfl := Option.some.inj h; exact ⟨_, pc78_a, Try.func78, pc78_ok⟩
  · obtain rfl := Option.some.inj h; exact ⟨_, pc94_a, Try.func94, pc94_ok⟩
  · obtain rfl := Option.some.inj h; exact ⟨_, pc90_a, Try.func90, pc90_ok⟩
  · obtain rfl := Option.some.inj h; exact ⟨_, pc79_a, Try.func79, pc79_ok⟩
  · obtain rfl := Option.some.inj h; exact ⟨_, pc64_a, Try.func64, pc64_ok⟩
  · obtain rfl := Option.some.inj h; exact ⟨_, pc66_a, Try.func66, pc66_ok⟩
  · obtain rfl := Option.some.inj h; exact ⟨_, pc80_a, Try.func80, pc80_ok⟩
  · obtain rfl := Option.some.inj h; exact ⟨_, pc65_a, Try.func65, pc65_ok⟩
  · obtain rfl := Option.some.inj h; exact ⟨_, pc82_a, Try.func82, pc82_ok⟩
  · obtain rfl := Option.some.inj h; exact ⟨_, pc91_a, Try.func91, pc91_ok⟩
  · obtain rfl := Option.some.inj h; exact ⟨_, pc81_a, Try.func81, pc81_ok⟩
  · obtain rfl := Option.some.inj h; exact ⟨_, pc67_a, Try.func67, pc67_ok⟩
  · obtain rfl := Option.some.inj h; exact ⟨_, pc35_a, Try.func35, pc35_ok⟩
  · obtain rfl := Option.some.inj h; exact ⟨_, pc68_a, Try.func68, pc68_ok⟩
  · obtain rfl := Option.some.inj h; exact ⟨_, pc36_a, Try.func36, pc36_ok⟩
  · obtain rfl := Option.some.inj h; exact ⟨_, pc11_a, Try.func11, pc11_ok⟩
  · obtain rfl := Option.some.inj h; exact ⟨_, pc20_a, Try.func20, pc20_ok⟩
  · obtain rfl := Option.some.inj h; exact ⟨_, pc77_a, Try.func77, pc77_ok⟩
  · obtain rfl := Option.some.inj h; exact ⟨_, pc46_a, Try.func46, pc46_ok⟩
  · obtain rfl := Option.some.inj h; exact ⟨_, pc49_a, Try.func49, pc49_ok⟩
  · obtain rfl := Option.some.inj h; exact ⟨_, pc89_a, Try.func89, pc89_ok⟩
  · obtain rfl := Option.some.inj h; exact ⟨_, pc88_a, Try.func88, pc88_ok⟩
  · obtain rfl := Option.some.inj h; exact ⟨_, pc75_a, Try.func75, pc75_ok⟩
  · obtain rfl := Option.some.inj h; exact ⟨_, pc44_a, Try.func44, pc44_ok⟩
  · obtain rfl := Option.some.inj h; exact ⟨_, pc18_a, Try.func18, pc18_ok⟩
  · obtain rfl := Option.some.inj h; exact ⟨_, pc47_a, Try.func47, pc47_ok⟩
  · obtain rfl := Option.some.inj h; exact ⟨_, pc48_a, Try.func48, pc48_ok⟩
  · obtain rfl := Option.some.inj h; exact ⟨_, pc21_a, Try.func21, pc21_ok⟩
  · obtain rfl := Option.some.inj h; exact ⟨_, pc50_a, Try.func50, pc50_ok⟩
  · obtain rfl := Option.some.inj h; exact ⟨_, pc51_a, Try.func51, pc51_ok⟩
  · obtain rfl := Option.some.inj h; exact ⟨_, pc23_a, Try.func23, pc23_ok⟩
  · obtain rfl := Option.some.inj h; exact ⟨_, pc9_a, Try.func9, pc9_ok⟩
  · obtain rfl := Option.some.inj h; exact ⟨_, pc37_a, Try.func37, pc37_ok⟩
  · obtain rfl := Option.some.inj h; exact ⟨_, pc38_a, Try.func38, pc38_ok⟩
  · obtain rfl := Option.some.inj h; exact ⟨_, pc39_a, Try.func39, pc39_ok⟩
  · obtain rfl := Option.some.inj h; exact ⟨_, pc12_a, Try.func12, pc12_ok⟩
  · obtain rfl := Option.some.inj h; exact ⟨_, pc40_a, Try.func40, pc40_ok⟩
  · obtain rfl := Option.some.inj h; exact ⟨_, pc13_a, Try.func13, pc13_ok⟩
  · obtain rfl := Option.some.inj h; exact ⟨_, pc83_a, Try.func83, pc83_ok⟩
  · obtain rfl := Option.some.inj h; exact ⟨_, pc69_a, Try.func69, pc69_ok⟩
  · obtain rfl := Option.some.inj h; exact ⟨_, pc41_a, Try.func41, pc41_ok⟩
  · obtain rfl := Option.some.inj h; exact ⟨_, pc73_a, Try.func73, pc73_ok⟩
  · obtain rfl := Option.some.inj h; exact ⟨_, pc70_a, Try.func70, pc70_ok⟩
  · obtain rfl := Option.some.inj h; exact ⟨_, pc98_a, Try.func98, pc98_ok⟩
  · obtain rfl := Option.some.inj h; exact ⟨_, pc96_a, Try.func96, pc96_ok⟩
  · obtain rfl := Option.some.inj h; exact ⟨_, pc93_a, Try.func93, pc93_ok⟩
  · obtain rfl := Option.some.inj h; exact ⟨_, pc86_a, Try.func86, pc86_ok⟩
  · obtain rfl := Option.some.inj h; exact ⟨_, pc97_a, Try.func97, pc97_ok⟩
  · obtain rfl := Option.some.inj h; exact ⟨_, pc95_a, Try.func95, pc95_ok⟩
  · obtain rfl := Option.some.inj h; exact ⟨_, pc92_a, Try.func92, pc92_ok⟩
  · obtain rfl := Option.some.inj h; exact ⟨_, pc84_a, Try.func84, pc84_ok⟩
  · obtain rfl := Option.some.inj h; exact ⟨_, pc71_a, Try.func71, pc71_ok⟩
  · obtain rfl := Option.some.inj h; exact ⟨_, pc85_a, Try.func85, pc85_ok⟩
  · obtain rfl := Option.some.inj h; exact ⟨_, pc87_a, Try.func87, pc87_ok⟩
  · obtain rfl := Option.some.inj h; exact ⟨_, pc72_a, Try.func72, pc72_ok⟩
  · obtain rfl := Option.some.inj h; exact ⟨_, pc42_a, Try.func42, pc42_ok⟩
  · obtain rfl := Option.some.inj h; exact ⟨_, pc14_a, Try.func14, pc14_ok⟩
  · obtain rfl := Option.some.inj h; exact ⟨_, pc7_a, Try.func7, pc7_ok⟩
  · obtain rfl := Option.some.inj h; exact ⟨_, pc6_a, Try.func6, pc6_ok⟩
  · obtain rfl := Option.some.inj h; exact ⟨_, pc57_a, Try.func57, pc57_ok⟩
  · obtain rfl := Option.some.inj h; exact ⟨_, pc58_a, Try.func58, pc58_ok⟩
  · obtain rfl := Option.some.inj h; exact ⟨_, pc52_a, Try.func52, pc52_ok⟩
  · obtain rfl := Option.some.inj h; exact ⟨_, pc25_a, Try.func25, pc25_ok⟩
  · obtain rfl := Option.some.inj h; exact ⟨_, pc26_a, Try.func26, pc26_ok⟩
  · obtain rfl := Option.some.inj h; exact ⟨_, pc53_a, Try.func53, pc53_ok⟩
  · obtain rfl := Option.some.inj h; exact ⟨_, pc54_a, Try.func54, pc54_ok⟩
  · obtain rfl := Option.some.inj h; exact ⟨_, pc55_a, Try.func55, pc55_ok⟩
  · obtain rfl := Option.some.inj h; exact ⟨_, pc56_a, Try.func56, pc56_ok⟩
  · obtain rfl := Option.some.inj h; exact ⟨_, pc27_a, Try.func27, pc27_ok⟩
  · obtain rfl := Option.some.inj h; exact ⟨_, pc28_a, Try.func28, pc28_ok⟩
  · obtain rfl := Option.some.inj h; exact ⟨_, pc59_a, Try.func59, pc59_ok⟩
  · obtain rfl := Option.some.inj h; exact ⟨_, pc29_a, Try.func29, pc29_ok⟩
  · obtain rfl := Option.some.inj h; exact ⟨_, pc30_a, Try.func30, pc30_ok⟩
  · obtain rfl := Option.some.inj h; exact ⟨_, pc10_a, Try.func10, pc10_ok⟩

end Go.Proofs.Ytpjejnefegdoeaa
