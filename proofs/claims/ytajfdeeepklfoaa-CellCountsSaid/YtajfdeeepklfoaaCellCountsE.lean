/-
  The table of the functions; what it tells is what the program does. No condition.
-/
import Derived.Test.YtajfdeeepklfoaaCellCountsC0
namespace Go.Proofs.Ytajfdeeepklfoaa
open Go Go.Rx
set_option maxRecDepth 100000
set_option linter.unusedVariables false
set_option linter.unusedSimpArgs false
def tbl : Table := fun f => match f with
  | 23 => some pc23
  | 52 => some pc52
  | 81 => some pc81
  | 71 => some pc71
  | 53 => some pc53
  | 25 => some pc25
  | 31 => some pc31
  | 82 => some pc82
  | 72 => some pc72
  | 56 => some pc56
  | 27 => some pc27
  | 58 => some pc58
  | 29 => some pc29
  | 61 => some pc61
  | 33 => some pc33
  | 24 => some pc24
  | 8 => some pc8
  | 9 => some pc9
  | 10 => some pc10
  | _ => none
noncomputable def D : Oracle := all Try.prog (fun _ _ _ => none) tbl
theorem D_meets (hm : Try.prog.follows .mixedOrders = true) : Meets Try.prog D := by
  refine all_meets hm (Meets.none _) ?_
  intro f pf h
  unfold tbl at h
  split at h <;> first | (cases h; done) | skip
  · obtain rfl := Option.some.inj h; exact ⟨_, pc23_a, Try.func23, pc23_ok⟩
  · obtain rfl := Option.some.inj h; exact ⟨_, pc52_a, Try.func52, pc52_ok⟩
  · obtain rfl := Option.some.inj h; exact ⟨_, pc81_a, Try.func81, pc81_ok⟩
  · obtain rfl := Option.some.inj h; exact ⟨_, pc71_a, Try.func71, pc71_ok⟩
  · obtain rfl := Option.some.inj h; exact ⟨_, pc53_a, Try.func53, pc53_ok⟩
  · obtain rfl := Option.some.inj h; exact ⟨_, pc25_a, Try.func25, pc25_ok⟩
  · obtain rfl := Option.some.inj h; exact ⟨_, pc31_a, Try.func31, pc31_ok⟩
  · obtain rfl := Option.some.inj h; exact ⟨_, pc82_a, Try.func82, pc82_ok⟩
  · obtain rfl := Option.some.inj h; exact ⟨_, pc72_a, Try.func72, pc72_ok⟩
  · obtain rfl := Option.some.inj h; exact ⟨_, pc56_a, Try.func56, pc56_ok⟩
  · obtain rfl := Option.some.inj h; exact ⟨_, pc27_a, Try.func27, pc27_ok⟩
  · obtain rfl := Option.some.inj h; exact ⟨_, pc58_a, Try.func58, pc58_ok⟩
  · obtain rfl := Option.some.inj h; exact ⟨_, pc29_a, Try.func29, pc29_ok⟩
  · obtain rfl := Option.some.inj h; exact ⟨_, pc61_a, Try.func61, pc61_ok⟩
  · obtain rfl := Option.some.inj h; exact ⟨_, pc33_a, Try.func33, pc33_ok⟩
  · obtain rfl := Option.some.inj h; exact ⟨_, pc24_a, Try.func24, pc24_ok⟩
  · obtain rfl := Option.some.inj h; exact ⟨_, pc8_a, Try.func8, pc8_ok⟩
  · obtain rfl := Option.some.inj h; exact ⟨_, pc9_a, Try.func9, pc9_ok⟩
  · obtain rfl := Option.some.inj h; exact ⟨_, pc10_a, Try.func10, pc10_ok⟩

end Go.Proofs.Ytajfdeeepklfoaa
