/-
  The table of the functions; what it tells is what the program does. No condition.
-/
import Derived.Test.YtobeamaaifgllaaThingManyC0
import Derived.Test.YtobeamaaifgllaaThingManyC1
import Derived.Test.YtobeamaaifgllaaThingManyB
namespace Go.Proofs.Ytobeamaaifgllaa
open Go Go.Rx
set_option maxRecDepth 100000
set_option linter.unusedVariables false
set_option linter.unusedSimpArgs false
set_option linter.unnecessarySimpa false
def tbl : Table := fun f => match f with
  | 67 => some pc67
  | 70 => some pc70
  | 69 => some pc69
  | 103 => some pc103
  | 68 => some pc68
  | 24 => some pc24
  | 65 => some pc65
  | 99 => some pc99
  | 77 => some pc77
  | 100 => some pc100
  | 114 => some pc114
  | 101 => some pc101
  | 63 => some pc63
  | 21 => some pc21
  | 22 => some pc22
  | 25 => some pc25
  | 26 => some pc26
  | 28 => some pc28
  | 73 => some pc73
  | 116 => some pc116
  | 104 => some pc104
  | 117 => some pc117
  | 121 => some pc121
  | 118 => some pc118
  | 105 => some pc105
  | 71 => some pc71
  | 30 => some pc30
  | 32 => some pc32
  | 15 => some pc15
  | 57 => some pc57
  | 16 => some pc16
  | 17 => some pc17
  | 7 => some pc7
  | 8 => some pc8
  | 58 => some pc58
  | 59 => some pc59
  | 18 => some pc18
  | 60 => some pc60
  | 61 => some pc61
  | 98 => some pc98
  | 62 => some pc62
  | 19 => some pc19
  | 20 => some pc20
  | 23 => some pc23
  | 34 => some pc34
  | 74 => some pc74
  | 76 => some pc76
  | 88 => some pc88
  | 94 => some pc94
  | 107 => some pc107
  | 119 => some pc119
  | 108 => some pc108
  | _ => none
noncomputable def D : Oracle := all Try.prog B tbl
theorem D_add {a : Lf} (ha : selfP a = true) {l : List Int} {s : ByteArray} : ∀ r, bldAdd l s = some r → D 64 [.one (.ptr 1000000 0), .one (ls s)] [.tcells 96 [a, .osl 1000001 0 0 l.length], .arr 5 (codI .u8).sz 0 l.length (getOf (codI .u8) l)] = some (.tup [.one (li .i64 s.size), .one (.val .nilIface)], [.tcells 96 [.ptr 1000000 0, .osl 1000001 1 0 r.length], .arr 5 (codI .u8).sz 1 r.length (getOf (codI .u8) r)]) :=
  fun r hr => all_of (N := 0) (bldO_add (fS := 66) ha r hr)
theorem D_str {a : Lf} (ha : selfP a = true) {l : List Int} : ∀ r, bldStr l = some r → D 66 [.one (.ptr 1000000 0)] [.tcells 96 [a, .osl 1000001 0 0 l.length], .arr 5 (codI .u8).sz 0 l.length (getOf (codI .u8) l)] = some (.one (ls r), [.tcells 96 [a, .osl 1000001 0 0 l.length], .arr 5 (codI .u8).sz 1 ([] : List Int).length (getOf (codI .u8) ([] : List Int))]) :=
  fun r hr => all_of (N := 0) (bldO_str (fW := 64) ha r hr)
theorem D_meets (hm : Try.prog.follows .mixedOrders = true) : Meets Try.prog D := by
  refine all_meets hm B_meets ?_
  intro f pf h
  unfold tbl at h
  split at h <;> first | (cases h; done) | skip
  · obtain rfl := Option.some.inj h; exact ⟨_, pc67_a, Try.func67, pc67_ok⟩
  · obtain rfl := Option.some.inj h; exact ⟨_, pc70_a, Try.func70, pc70_ok⟩
  · obtain rfl := Option.some.inj h; exact ⟨_, pc69_a, Try.func69, pc69_ok⟩
  · obtain rfl := Option.some.inj h; exact ⟨_, pc103_a, Try.func103, pc103_ok⟩
  · obtain rfl := Option.some.inj h; exact ⟨_, pc68_a, Try.func68, pc68_ok⟩
  · obtain rfl := Option.some.inj h; exact ⟨_, pc24_a, Try.func24, pc24_ok⟩
  · obtain rfl := Option.some.inj h; exact ⟨_, pc65_a, Try.func65, pc65_ok⟩
  · obtain rfl := Option.some.inj h; exact ⟨_, pc99_a, Try.func99, pc99_ok⟩
  · obtain rfl := Option.some.inj h; exact ⟨_, pc77_a, Try.func77, pc77_ok⟩
  · obtain rfl := Option.some.inj h; exact ⟨_, pc100_a, Try.func100, pc100_ok⟩
  · obtain rfl := Option.some.inj h; exact ⟨_, pc114_a, Try.func114, pc114_ok⟩
  · obtain rfl := Option.some.inj h; exact ⟨_, pc101_a, Try.func101, pc101_ok⟩
  · obtain rfl := Option.some.inj h; exact ⟨_, pc63_a, Try.func63, pc63_ok⟩
  · obtain rfl := Option.some.inj h; exact ⟨_, pc21_a, Try.func21, pc21_ok⟩
  · obtain rfl := Option.some.inj h; exact ⟨_, pc22_a, Try.func22, pc22_ok⟩
  · obtain rfl := Option.some.inj h; exact ⟨_, pc25_a, Try.func25, pc25_ok⟩
  · obtain rfl := Option.some.inj h; exact ⟨_, pc26_a, Try.func26, pc26_ok⟩
  · obtain rfl := Option.some.inj h; exact ⟨_, pc28_a, Try.func28, pc28_ok⟩
  · obtain rfl := Option.some.inj h; exact ⟨_, pc73_a, Try.func73, pc73_ok⟩
  · obtain rfl := Option.some.inj h; exact ⟨_, pc116_a, Try.func116, pc116_ok⟩
  · obtain rfl := Option.some.inj h; exact ⟨_, pc104_a, Try.func104, pc104_ok⟩
  · obtain rfl := Option.some.inj h; exact ⟨_, pc117_a, Try.func117, pc117_ok⟩
  · obtain rfl := Option.some.inj h; exact ⟨_, pc121_a, Try.func121, pc121_ok⟩
  · obtain rfl := Option.some.inj h; exact ⟨_, pc118_a, Try.func118, pc118_ok⟩
  · obtain rfl := Option.some.inj h; exact ⟨_, pc105_a, Try.func105, pc105_ok⟩
  · obtain rfl := Option.some.inj h; exact ⟨_, pc71_a, Try.func71, pc71_ok⟩
  · obtain rfl := Option.some.inj h; exact ⟨_, pc30_a, Try.func30, pc30_ok⟩
  · obtain rfl := Option.some.inj h; exact ⟨_, pc32_a, Try.func32, pc32_ok⟩
  · obtain rfl := Option.some.inj h; exact ⟨_, pc15_a, Try.func15, pc15_ok⟩
  · obtain rfl := Option.some.inj h; exact ⟨_, pc57_a, Try.func57, pc57_ok⟩
  · obtain rfl := Option.some.inj h; exact ⟨_, pc16_a, Try.func16, pc16_ok⟩
  · obtain rfl := Option.some.inj h; exact ⟨_, pc17_a, Try.func17, pc17_ok⟩
  · obtain rfl := Option.some.inj h; exact ⟨_, pc7_a, Try.func7, pc7_ok⟩
  · obtain rfl := Option.some.inj h; exact ⟨_, pc8_a, Try.func8, pc8_ok⟩
  · obtain rfl := Option.some.inj h; exact ⟨_, pc58_a, Try.func58, pc58_ok⟩
  · obtain rfl := Option.some.inj h; exact ⟨_, pc59_a, Try.func59, pc59_ok⟩
  · obtain rfl := Option.some.inj h; exact ⟨_, pc18_a, Try.func18, pc18_ok⟩
  · obtain rfl := Option.some.inj h; exact ⟨_, pc60_a, Try.func60, pc60_ok⟩
  · obtain rfl := Option.some.inj h; exact ⟨_, pc61_a, Try.func61, pc61_ok⟩
  · obtain rfl := Option.some.inj h; exact ⟨_, pc98_a, Try.func98, pc98_ok⟩
  · obtain rfl := Option.some.inj h; exact ⟨_, pc62_a, Try.func62, pc62_ok⟩
  · obtain rfl := Option.some.inj h; exact ⟨_, pc19_a, Try.func19, pc19_ok⟩
  · obtain rfl := Option.some.inj h; exact ⟨_, pc20_a, Try.func20, pc20_ok⟩
  · obtain rfl := Option.some.inj h; exact ⟨_, pc23_a, Try.func23, pc23_ok⟩
  · obtain rfl := Option.some.inj h; exact ⟨_, pc34_a, Try.func34, pc34_ok⟩
  · obtain rfl := Option.some.inj h; exact ⟨_, pc74_a, Try.func74, pc74_ok⟩
  · obtain rfl := Option.some.inj h; exact ⟨_, pc76_a, Try.func76, pc76_ok⟩
  · obtain rfl := Option.some.inj h; exact ⟨_, pc88_a, Try.func88, pc88_ok⟩
  · obtain rfl := Option.some.inj h; exact ⟨_, pc94_a, Try.func94, pc94_ok⟩
  · obtain rfl := Option.some.inj h; exact ⟨_, pc107_a, Try.func107, pc107_ok⟩
  · obtain rfl := Option.some.inj h; exact ⟨_, pc119_a, Try.func119, pc119_ok⟩
  · obtain rfl := Option.some.inj h; exact ⟨_, pc108_a, Try.func108, pc108_ok⟩

end Go.Proofs.Ytobeamaaifgllaa
