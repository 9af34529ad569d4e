/- No condition. -/
import Derived.Test.YtobeamaaifgllaaEventSpanC0
import Derived.Test.YtobeamaaifgllaaEventSpanB
namespace Go.Proofs.Ytobeamaaifgllaa
open Go Go.Rx
set_option maxRecDepth 100000
set_option linter.unusedVariables false
set_option linter.unusedSimpArgs false
set_option linter.unnecessarySimpa false
set_option linter.unnecessarySimpa false
def tbl : Table := fun f => match f with
 | 67 => some pc67
 | 70 => some pc70
 | 69 => some pc69
 | 103 => some pc103
 | 68 => some pc68
 | 24 => some pc24
 | 99 => some pc99
 | 77 => some pc77
 | 39 => some pc39
 | 111 => some pc111
 | 86 => some pc86
 | 85 => some pc85
 | 84 => some pc84
 | 88 => some pc88
 | 51 => some pc51
 | 40 => some pc40
 | 65 => some pc65
 | 110 => some pc110
 | 80 => some pc80
 | 81 => some pc81
 | 100 => some pc100
 | 114 => some pc114
 | 101 => some pc101
 | 63 => some pc63
 | 21 => some pc21
 | 82 => some pc82
 | 46 => some pc46
 | 83 => some pc83
 | 49 => some pc49
 | 73 => some pc73
 | 116 => some pc116
 | 104 => some pc104
 | 117 => some pc117
 | 121 => some pc121
 | 118 => some pc118
 | 105 => some pc105
 | 71 => some pc71
 | 30 => some pc30
 | 95 => some pc95
 | 54 => some pc54
 | 42 => some pc42
 | 14 => some pc14
 | _ => none
noncomputable def D : Oracle := all Try.prog B tbl
theorem D_add {a : Lf} (ha : selfP a = true) {l : List Int} {s : ByteArray} : ∀ r, bldAdd l s = some r → D 64 [.one (.ptr 1000000 0), .one (ls s)] [.tcells 96 [a, .osl 1000001 0 0 l.length], .arr 5 (codI .u8).sz 0 l.length (getOf (codI .u8) l)] = some (.tup [.one (li .i64 s.size), .one (.val .nilIface)], [.tcells 96 [.ptr 1000000 0, .osl 1000001 1 0 r.length], .arr 5 (codI .u8).sz 1 r.length (getOf (codI .u8) r)]) :=
 fun r hr => all_of (N := 0) (B_of1 (bldO_add (fS := 66) ha r hr))
theorem D_str {a : Lf} (ha : selfP a = true) {l : List Int} : ∀ r, bldStr l = some r → D 66 [.one (.ptr 1000000 0)] [.tcells 96 [a, .osl 1000001 0 0 l.length], .arr 5 (codI .u8).sz 0 l.length (getOf (codI .u8) l)] = some (.one (ls r), [.tcells 96 [a, .osl 1000001 0 0 l.length], .arr 5 (codI .u8).sz 1 ([] : List Int).length (getOf (codI .u8) ([] : List Int))]) :=
 fun r hr => all_of (N := 0) (B_of1 (bldO_str (fW := 64) ha r hr))
theorem B_b78 {l r : List Thing} (h : cloneL l = some r) : B 78 [.one (vw Thing.cod l)] [] = some (.one (.osl 1000000 0 0 r.length), [.arr 28 Thing.cod.sz 0 r.length (getOf Thing.cod r)]) := (orC_skip rfl (orC_hit (cloneO_is (T := 28) (f := 78) (c := Thing.cod) h)))
theorem D_b78 {l r : List Thing} (h : cloneL l = some r) : D 78 [.one (vw Thing.cod l)] [] = some (.one (.osl 1000000 0 0 r.length), [.arr 28 Thing.cod.sz 0 r.length (getOf Thing.cod r)]) := all_of (N := 0) (B_b78 h)
theorem B_b87 {l r : List Thing} {i : Int} {a : Thing} (h : insL l i a = some r) : B 87 [.one (.osl 1000000 0 0 l.length), .one (li .i64 i), .one (.csl 1000001 Thing.cod.sz 0 1)] [.arr 28 Thing.cod.sz 0 l.length (getOf Thing.cod l), .cells (Thing.cod.enc a)] = some (.one (.osl 1000000 1 0 r.length), [.arr 28 Thing.cod.sz 1 r.length (getOf Thing.cod r), .cells (Thing.cod.enc a)]) := (orC_skip rfl (orC_skip rfl (orC_hit (insO_is (T := 28) (f := 87) (c := Thing.cod) h rfl rfl))))
theorem D_b87 {l r : List Thing} {i : Int} {a : Thing} (h : insL l i a = some r) : D 87 [.one (.osl 1000000 0 0 l.length), .one (li .i64 i), .one (.csl 1000001 Thing.cod.sz 0 1)] [.arr 28 Thing.cod.sz 0 l.length (getOf Thing.cod l), .cells (Thing.cod.enc a)] = some (.one (.osl 1000000 1 0 r.length), [.arr 28 Thing.cod.sz 1 r.length (getOf Thing.cod r), .cells (Thing.cod.enc a)]) := all_of (N := 0) (B_b87 h)
theorem B_b89 {l r : List Thing} {i j : Int} (h : delL l i j = some r) : B 89 [.one (.osl 1000000 0 0 l.length), .one (li .i64 i), .one (li .i64 j)] [.arr 28 Thing.cod.sz 0 l.length (getOf Thing.cod l)] = some (.one (.osl 1000000 1 0 r.length), [.arr 28 Thing.cod.sz 1 r.length (getOf Thing.cod r)]) := (orC_skip rfl (orC_skip rfl (orC_skip rfl (delO_is (T := 28) (f := 89) (c := Thing.cod) h))))
theorem D_b89 {l r : List Thing} {i j : Int} (h : delL l i j = some r) : D 89 [.one (.osl 1000000 0 0 l.length), .one (li .i64 i), .one (li .i64 j)] [.arr 28 Thing.cod.sz 0 l.length (getOf Thing.cod l)] = some (.one (.osl 1000000 1 0 r.length), [.arr 28 Thing.cod.sz 1 r.length (getOf Thing.cod r)]) := all_of (N := 0) (B_b89 h)
theorem D_meets (hm : Try.prog.follows .mixedOrders = true) : Meets Try.prog D := by
 refine all_meets hm B_meets ?_
 intro f pf h
 unfold tbl at h
 split at h <;> first | (cases h; done) | skip
 ·exact mt h ⟨_, pc67_a, Try.func67, pc67_ok⟩
 ·exact mt h ⟨_, pc70_a, Try.func70, pc70_ok⟩
 ·exact mt h ⟨_, pc69_a, Try.func69, pc69_ok⟩
 ·exact mt h ⟨_, pc103_a, Try.func103, pc103_ok⟩
 ·exact mt h ⟨_, pc68_a, Try.func68, pc68_ok⟩
 ·exact mt h ⟨_, pc24_a, Try.func24, pc24_ok⟩
 ·exact mt h ⟨_, pc99_a, Try.func99, pc99_ok⟩
 ·exact mt h ⟨_, pc77_a, Try.func77, pc77_ok⟩
 ·exact mt h ⟨_, pc39_a, Try.func39, pc39_ok⟩
 ·exact mt h ⟨_, pc111_a, Try.func111, pc111_ok⟩
 ·exact mt h ⟨_, pc86_a, Try.func86, pc86_ok⟩
 ·exact mt h ⟨_, pc85_a, Try.func85, pc85_ok⟩
 ·exact mt h ⟨_, pc84_a, Try.func84, pc84_ok⟩
 ·exact mt h ⟨_, pc88_a, Try.func88, pc88_ok⟩
 ·exact mt h ⟨_, pc51_a, Try.func51, pc51_ok⟩
 ·exact mt h ⟨_, pc40_a, Try.func40, pc40_ok⟩
 ·exact mt h ⟨_, pc65_a, Try.func65, pc65_ok⟩
 ·exact mt h ⟨_, pc110_a, Try.func110, pc110_ok⟩
 ·exact mt h ⟨_, pc80_a, Try.func80, pc80_ok⟩
 ·exact mt h ⟨_, pc81_a, Try.func81, pc81_ok⟩
 ·exact mt h ⟨_, pc100_a, Try.func100, pc100_ok⟩
 ·exact mt h ⟨_, pc114_a, Try.func114, pc114_ok⟩
 ·exact mt h ⟨_, pc101_a, Try.func101, pc101_ok⟩
 ·exact mt h ⟨_, pc63_a, Try.func63, pc63_ok⟩
 ·exact mt h ⟨_, pc21_a, Try.func21, pc21_ok⟩
 ·exact mt h ⟨_, pc82_a, Try.func82, pc82_ok⟩
 ·exact mt h ⟨_, pc46_a, Try.func46, pc46_ok⟩
 ·exact mt h ⟨_, pc83_a, Try.func83, pc83_ok⟩
 ·exact mt h ⟨_, pc49_a, Try.func49, pc49_ok⟩
 ·exact mt h ⟨_, pc73_a, Try.func73, pc73_ok⟩
 ·exact mt h ⟨_, pc116_a, Try.func116, pc116_ok⟩
 ·exact mt h ⟨_, pc104_a, Try.func104, pc104_ok⟩
 ·exact mt h ⟨_, pc117_a, Try.func117, pc117_ok⟩
 ·exact mt h ⟨_, pc121_a, Try.func121, pc121_ok⟩
 ·exact mt h ⟨_, pc118_a, Try.func118, pc118_ok⟩
 ·exact mt h ⟨_, pc105_a, Try.func105, pc105_ok⟩
 ·exact mt h ⟨_, pc71_a, Try.func71, pc71_ok⟩
 ·exact mt h ⟨_, pc30_a, Try.func30, pc30_ok⟩
 ·exact mt h ⟨_, pc95_a, Try.func95, pc95_ok⟩
 ·exact mt h ⟨_, pc54_a, Try.func54, pc54_ok⟩
 ·exact mt h ⟨_, pc42_a, Try.func42, pc42_ok⟩
 ·exact mt h ⟨_, pc14_a, Try.func14, pc14_ok⟩
end Go.Proofs.Ytobeamaaifgllaa
