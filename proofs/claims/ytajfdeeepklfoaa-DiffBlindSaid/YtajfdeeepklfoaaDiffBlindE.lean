/-
  The table of the functions; what it tells is what the program does. No condition.
-/
import Derived.Test.YtajfdeeepklfoaaDiffBlindC0
namespace Go.Proofs.Ytajfdeeepklfoaa
open Go Go.Rx
set_option maxRecDepth 100000
set_option linter.unusedVariables false
set_option linter.unusedSimpArgs false
set_option linter.unnecessarySimpa false
def tbl : Table := fun f => match f with
  | 51 => some pc51
  | 21 => some pc21
  | 49 => some pc49
  | 18 => some pc18
  | 14 => some pc14
  | 69 => some pc69
  | 47 => some pc47
  | 15 => some pc15
  | 54 => some pc54
  | 70 => some pc70
  | 48 => some pc48
  | 16 => some pc16
  | 17 => some pc17
  | 23 => some pc23
  | 22 => some pc22
  | 50 => some pc50
  | 19 => some pc19
  | 20 => some pc20
  | 3 => some pc3
  | 4 => some pc4
  | 5 => some pc5
  | 6 => some pc6
  | _ => none
noncomputable def D : Oracle := all Try.prog (fun _ _ _ => none) tbl
theorem D_meets (hm : Try.prog.follows .mixedOrders = true) : Meets Try.prog D := by
  refine all_meets hm (Meets.none _) ?_
  intro f pf h
  unfold tbl at h
  split at h <;> first | (cases h; done) | skip
  · obtain rfl := Option.some.inj h; exact ⟨_, pc51_a, Try.func51, pc51_ok⟩
  · obtain rfl := Option.some.inj h; exact ⟨_, pc21_a, Try.func21, pc21_ok⟩
  · obtain rfl := Option.some.inj h; exact ⟨_, pc49_a, Try.func49, pc49_ok⟩
  · obtain rfl := Option.some.inj h; exact ⟨_, pc18_a, Try.func18, pc18_ok⟩
  · obtain rfl := Option.some.inj h; exact ⟨_, pc14_a, Try.func14, pc14_ok⟩
  · obtain rfl := Option.some.inj h; exact ⟨_, pc69_a, Try.func69, pc69_ok⟩
  · obtain rfl := Option.some.inj h; exact ⟨_, pc47_a, Try.func47, pc47_ok⟩
  · obtain rfl := Option.some.inj h; exact ⟨_, pc15_a, Try.func15, pc15_ok⟩
  · obtain rfl := Option.some.inj h; exact ⟨_, pc54_a, Try.func54, pc54_ok⟩
  · obtain rfl := Option.some.inj h; exact ⟨_, pc70_a, Try.func70, pc70_ok⟩
  · obtain rfl := Option.some.inj h; exact ⟨_, pc48_a, Try.func48, pc48_ok⟩
  · obtain rfl := Option.some.inj h; exact ⟨_, pc16_a, Try.func16, pc16_ok⟩
  · obtain rfl := Option.some.inj h; exact ⟨_, pc17_a, Try.func17, pc17_ok⟩
  · obtain rfl := Option.some.inj h; exact ⟨_, pc23_a, Try.func23, pc23_ok⟩
  · obtain rfl := Option.some.inj h; exact ⟨_, pc22_a, Try.func22, pc22_ok⟩
  · obtain rfl := Option.some.inj h; exact ⟨_, pc50_a, Try.func50, pc50_ok⟩
  · obtain rfl := Option.some.inj h; exact ⟨_, pc19_a, Try.func19, pc19_ok⟩
  · obtain rfl := Option.some.inj h; exact ⟨_, pc20_a, Try.func20, pc20_ok⟩
  · obtain rfl := Option.some.inj h; exact ⟨_, pc3_a, Try.func3, pc3_ok⟩
  · obtain rfl := Option.some.inj h; exact ⟨_, pc4_a, Try.func4, pc4_ok⟩
  · obtain rfl := Option.some.inj h; exact ⟨_, pc5_a, Try.func5, pc5_ok⟩
  · obtain rfl := Option.some.inj h; exact ⟨_, pc6_a, Try.func6, pc6_ok⟩

end Go.Proofs.Ytajfdeeepklfoaa
