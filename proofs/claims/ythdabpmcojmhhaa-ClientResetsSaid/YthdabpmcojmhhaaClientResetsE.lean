/- No condition. -/
import Derived.Test.YthdabpmcojmhhaaClientResetsC0
import Derived.Test.YthdabpmcojmhhaaClientResetsB
namespace Go.Proofs.Ythdabpmcojmhhaa
open Go Go.Rx
set_option maxRecDepth 100000
set_option linter.unusedVariables false
set_option linter.unusedSimpArgs false
set_option linter.unnecessarySimpa false
set_option linter.unnecessarySimpa false
def tbl : Table := fun f => match f with
 | 17 => some pc17
 | 20 => some pc20
 | 13 => some pc13
 | 38 => some pc38
 | 27 => some pc27
 | 62 => some pc62
 | 63 => some pc63
 | 64 => some pc64
 | 51 => some pc51
 | 28 => some pc28
 | 29 => some pc29
 | 30 => some pc30
 | 77 => some pc77
 | 79 => some pc79
 | 91 => some pc91
 | 78 => some pc78
 | 72 => some pc72
 | 80 => some pc80
 | 73 => some pc73
 | 57 => some pc57
 | 56 => some pc56
 | 71 => some pc71
 | 55 => some pc55
 | 44 => some pc44
 | 92 => some pc92
 | 83 => some pc83
 | 82 => some pc82
 | 81 => some pc81
 | 85 => some pc85
 | 74 => some pc74
 | 58 => some pc58
 | 46 => some pc46
 | 15 => some pc15
 | 35 => some pc35
 | 40 => some pc40
 | 41 => some pc41
 | 42 => some pc42
 | 25 => some pc25
 | 10 => some pc10
 | _ => none
noncomputable def D : Oracle := all Try.prog B tbl
theorem B_b50 {l r : List Thing} (h : cloneL l = some r) : B 50 [.one (vw Thing.cod l)] [] = some (.one (.osl 1000000 0 0 r.length), [.arr 54 Thing.cod.sz 0 r.length (getOf Thing.cod r)]) := (orC_hit (cloneO_is (T := 54) (f := 50) (c := Thing.cod) h))
theorem D_b50 {l r : List Thing} (h : cloneL l = some r) : D 50 [.one (vw Thing.cod l)] [] = some (.one (.osl 1000000 0 0 r.length), [.arr 54 Thing.cod.sz 0 r.length (getOf Thing.cod r)]) := all_of (N := 0) (B_b50 h)
theorem B_b84 {l r : List Thing} {i : Int} {a : Thing} (h : insL l i a = some r) : B 84 [.one (.osl 1000000 0 0 l.length), .one (li .i64 i), .one (.csl 1000001 Thing.cod.sz 0 1)] [.arr 54 Thing.cod.sz 0 l.length (getOf Thing.cod l), .cells (Thing.cod.enc a)] = some (.one (.osl 1000000 1 0 r.length), [.arr 54 Thing.cod.sz 1 r.length (getOf Thing.cod r), .cells (Thing.cod.enc a)]) := (orC_skip rfl (orC_hit (insO_is (T := 54) (f := 84) (c := Thing.cod) h rfl rfl)))
theorem D_b84 {l r : List Thing} {i : Int} {a : Thing} (h : insL l i a = some r) : D 84 [.one (.osl 1000000 0 0 l.length), .one (li .i64 i), .one (.csl 1000001 Thing.cod.sz 0 1)] [.arr 54 Thing.cod.sz 0 l.length (getOf Thing.cod l), .cells (Thing.cod.enc a)] = some (.one (.osl 1000000 1 0 r.length), [.arr 54 Thing.cod.sz 1 r.length (getOf Thing.cod r), .cells (Thing.cod.enc a)]) := all_of (N := 0) (B_b84 h)
theorem B_b86 {l r : List Thing} {i j : Int} (h : delL l i j = some r) : B 86 [.one (.osl 1000000 0 0 l.length), .one (li .i64 i), .one (li .i64 j)] [.arr 54 Thing.cod.sz 0 l.length (getOf Thing.cod l)] = some (.one (.osl 1000000 1 0 r.length), [.arr 54 Thing.cod.sz 1 r.length (getOf Thing.cod r)]) := (orC_skip rfl (orC_skip rfl (orC_hit (delO_is (T := 54) (f := 86) (c := Thing.cod) h))))
theorem D_b86 {l r : List Thing} {i j : Int} (h : delL l i j = some r) : D 86 [.one (.osl 1000000 0 0 l.length), .one (li .i64 i), .one (li .i64 j)] [.arr 54 Thing.cod.sz 0 l.length (getOf Thing.cod l)] = some (.one (.osl 1000000 1 0 r.length), [.arr 54 Thing.cod.sz 1 r.length (getOf Thing.cod r)]) := all_of (N := 0) (B_b86 h)
theorem B_b45 {l r : List Event} (h : cloneL l = some r) : B 45 [.one (vw Event.cod l)] [] = some (.one (.osl 1000000 0 0 r.length), [.arr 58 Event.cod.sz 0 r.length (getOf Event.cod r)]) := (orC_skip rfl (orC_skip rfl (orC_skip rfl (cloneO_is (T := 58) (f := 45) (c := Event.cod) h))))
theorem D_b45 {l r : List Event} (h : cloneL l = some r) : D 45 [.one (vw Event.cod l)] [] = some (.one (.osl 1000000 0 0 r.length), [.arr 58 Event.cod.sz 0 r.length (getOf Event.cod r)]) := all_of (N := 0) (B_b45 h)
theorem D_meets (hm : Try.prog.follows .mixedOrders = true) : Meets Try.prog D := by
 refine all_meets hm B_meets ?_
 intro f pf h
 unfold tbl at h
 split at h <;> first | (cases h; done) | skip
 ·exact mt h ⟨_, pc17_a, Try.func17, pc17_ok⟩
 ·exact mt h ⟨_, pc20_a, Try.func20, pc20_ok⟩
 ·exact mt h ⟨_, pc13_a, Try.func13, pc13_ok⟩
 ·exact mt h ⟨_, pc38_a, Try.func38, pc38_ok⟩
 ·exact mt h ⟨_, pc27_a, Try.func27, pc27_ok⟩
 ·exact mt h ⟨_, pc62_a, Try.func62, pc62_ok⟩
 ·exact mt h ⟨_, pc63_a, Try.func63, pc63_ok⟩
 ·exact mt h ⟨_, pc64_a, Try.func64, pc64_ok⟩
 ·exact mt h ⟨_, pc51_a, Try.func51, pc51_ok⟩
 ·exact mt h ⟨_, pc28_a, Try.func28, pc28_ok⟩
 ·exact mt h ⟨_, pc29_a, Try.func29, pc29_ok⟩
 ·exact mt h ⟨_, pc30_a, Try.func30, pc30_ok⟩
 ·exact mt h ⟨_, pc77_a, Try.func77, pc77_ok⟩
 ·exact mt h ⟨_, pc79_a, Try.func79, pc79_ok⟩
 ·exact mt h ⟨_, pc91_a, Try.func91, pc91_ok⟩
 ·exact mt h ⟨_, pc78_a, Try.func78, pc78_ok⟩
 ·exact mt h ⟨_, pc72_a, Try.func72, pc72_ok⟩
 ·exact mt h ⟨_, pc80_a, Try.func80, pc80_ok⟩
 ·exact mt h ⟨_, pc73_a, Try.func73, pc73_ok⟩
 ·exact mt h ⟨_, pc57_a, Try.func57, pc57_ok⟩
 ·exact mt h ⟨_, pc56_a, Try.func56, pc56_ok⟩
 ·exact mt h ⟨_, pc71_a, Try.func71, pc71_ok⟩
 ·exact mt h ⟨_, pc55_a, Try.func55, pc55_ok⟩
 ·exact mt h ⟨_, pc44_a, Try.func44, pc44_ok⟩
 ·exact mt h ⟨_, pc92_a, Try.func92, pc92_ok⟩
 ·exact mt h ⟨_, pc83_a, Try.func83, pc83_ok⟩
 ·exact mt h ⟨_, pc82_a, Try.func82, pc82_ok⟩
 ·exact mt h ⟨_, pc81_a, Try.func81, pc81_ok⟩
 ·exact mt h ⟨_, pc85_a, Try.func85, pc85_ok⟩
 ·exact mt h ⟨_, pc74_a, Try.func74, pc74_ok⟩
 ·exact mt h ⟨_, pc58_a, Try.func58, pc58_ok⟩
 ·exact mt h ⟨_, pc46_a, Try.func46, pc46_ok⟩
 ·exact mt h ⟨_, pc15_a, Try.func15, pc15_ok⟩
 ·exact mt h ⟨_, pc35_a, Try.func35, pc35_ok⟩
 ·exact mt h ⟨_, pc40_a, Try.func40, pc40_ok⟩
 ·exact mt h ⟨_, pc41_a, Try.func41, pc41_ok⟩
 ·exact mt h ⟨_, pc42_a, Try.func42, pc42_ok⟩
 ·exact mt h ⟨_, pc25_a, Try.func25, pc25_ok⟩
 ·exact mt h ⟨_, pc10_a, Try.func10, pc10_ok⟩
end Go.Proofs.Ythdabpmcojmhhaa
