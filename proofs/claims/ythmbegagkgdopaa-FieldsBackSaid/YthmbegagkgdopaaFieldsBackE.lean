/-
  The table of the functions; what it tells is what the program does. No condition.
-/
import Derived.Test.YthmbegagkgdopaaFieldsBackC0
import Derived.Test.YthmbegagkgdopaaFieldsBackC1
namespace Go.Proofs.Ythmbegagkgdopaa
open Go Go.Rx
set_option maxRecDepth 100000
set_option linter.unusedVariables false
set_option linter.unusedSimpArgs false
set_option linter.unnecessarySimpa false
def tbl : Table := fun f => match f with
  | 18 => some pc18
  | 26 => some pc26
  | 43 => some pc43
  | 50 => some pc50
  | 25 => some pc25
  | 42 => some pc42
  | 44 => some pc44
  | 68 => some pc68
  | 45 => some pc45
  | 20 => some pc20
  | 23 => some pc23
  | 28 => some pc28
  | 70 => some pc70
  | 71 => some pc71
  | 51 => some pc51
  | 74 => some pc74
  | 65 => some pc65
  | 67 => some pc67
  | 52 => some pc52
  | 29 => some pc29
  | 14 => some pc14
  | 17 => some pc17
  | 15 => some pc15
  | 27 => some pc27
  | 46 => some pc46
  | 31 => some pc31
  | 5 => some pc5
  | 19 => some pc19
  | 21 => some pc21
  | 47 => some pc47
  | 48 => some pc48
  | 69 => some pc69
  | 49 => some pc49
  | 22 => some pc22
  | 72 => some pc72
  | 54 => some pc54
  | 73 => some pc73
  | 55 => some pc55
  | _ => none
noncomputable def D : Oracle := all Try.prog (fun _ _ _ => none) tbl
theorem D_meets (hm : Try.prog.follows .mixedOrders = true) : Meets Try.prog D := by
  refine all_meets hm (Meets.none _) ?_
  intro f pf h
  unfold tbl at h
  split at h <;> first | (cases h; done) | skip
  · obtain rfl := Option.some.inj h; exact ⟨_, pc18_a, Try.func18, pc18_ok⟩
  · obtain rfl := Option.some.inj h; exact ⟨_, pc26_a, Try.func26, pc26_ok⟩
  · obtain rfl := Option.some.inj h; exact ⟨_, pc43_a, Try.func43, pc43_ok⟩
  · obtain rfl := Option.some.inj h; exact ⟨_, pc50_a, Try.func50, pc50_ok⟩
  · obtain rfl := Option.some.inj h; exact ⟨_, pc25_a, Try.func25, pc25_ok⟩
  · obtain rfl := Option.some.inj h; exact ⟨_, pc42_a, Try.func42, pc42_ok⟩
  · obtain rfl := Option.some.inj h; exact ⟨_, pc44_a, Try.func44, pc44_ok⟩
  · obtain rfl := Option.some.inj h; exact ⟨_, pc68_a, Try.func68, pc68_ok⟩
  · obtain rfl := Option.some.inj h; exact ⟨_, pc45_a, Try.func45, pc45_ok⟩
  · obtain rfl := Option.some.inj h; exact ⟨_, pc20_a, Try.func20, pc20_ok⟩
  · obtain rfl := Option.some.inj h; exact ⟨_, pc23_a, Try.func23, pc23_ok⟩
  · obtain rfl := Option.some.inj h; exact ⟨_, pc28_a, Try.func28, pc28_ok⟩
  · obtain rfl := Option.some.inj h; exact ⟨_, pc70_a, Try.func70, pc70_ok⟩
  · obtain rfl := Option.some.inj h; exact ⟨_, pc71_a, Try.func71, pc71_ok⟩
  · obtain rfl := Option.some.inj h; exact ⟨_, pc51_a, Try.func51, pc51_ok⟩
  · obtain rfl := Option.some.inj h; exact ⟨_, pc74_a, Try.func74, pc74_ok⟩
  · obtain rfl := Option.some.inj h; exact ⟨_, pc65_a, Try.func65, pc65_ok⟩
  · obtain rfl := Option.some.inj h; exact ⟨_, pc67_a, Try.func67, pc67_ok⟩
  · obtain rfl := Option.some.inj h; exact ⟨_, pc52_a, Try.func52, pc52_ok⟩
  · obtain rfl := Option.some.inj h; exact ⟨_, pc29_a, Try.func29, pc29_ok⟩
  · obtain rfl := Option.some.inj h; exact ⟨_, pc14_a, Try.func14, pc14_ok⟩
  · obtain rfl := Option.some.inj h; exact ⟨_, pc17_a, Try.func17, pc17_ok⟩
  · obtain rfl := Option.some.inj h; exact ⟨_, pc15_a, Try.func15, pc15_ok⟩
  · obtain rfl := Option.some.inj h; exact ⟨_, pc27_a, Try.func27, pc27_ok⟩
  · obtain rfl := Option.some.inj h; exact ⟨_, pc46_a, Try.func46, pc46_ok⟩
  · obtain rfl := Option.some.inj h; exact ⟨_, pc31_a, Try.func31, pc31_ok⟩
  · obtain rfl := Option.some.inj h; exact ⟨_, pc5_a, Try.func5, pc5_ok⟩
  · obtain rfl := Option.some.inj h; exact ⟨_, pc19_a, Try.func19, pc19_ok⟩
  · obtain rfl := Option.some.inj h; exact ⟨_, pc21_a, Try.func21, pc21_ok⟩
  · obtain rfl := Option.some.inj h; exact ⟨_, pc47_a, Try.func47, pc47_ok⟩
  · obtain rfl := Option.some.inj h; exact ⟨_, pc48_a, Try.func48, pc48_ok⟩
  · obtain rfl := Option.some.inj h; exact ⟨_, pc69_a, Try.func69, pc69_ok⟩
  · obtain rfl := Option.some.inj h; exact ⟨_, pc49_a, Try.func49, pc49_ok⟩
  · obtain rfl := Option.some.inj h; exact ⟨_, pc22_a, Try.func22, pc22_ok⟩
  · obtain rfl := Option.some.inj h; exact ⟨_, pc72_a, Try.func72, pc72_ok⟩
  · obtain rfl := Option.some.inj h; exact ⟨_, pc54_a, Try.func54, pc54_ok⟩
  · obtain rfl := Option.some.inj h; exact ⟨_, pc73_a, Try.func73, pc73_ok⟩
  · obtain rfl := Option.some.inj h; exact ⟨_, pc55_a, Try.func55, pc55_ok⟩

end Go.Proofs.Ythmbegagkgdopaa
