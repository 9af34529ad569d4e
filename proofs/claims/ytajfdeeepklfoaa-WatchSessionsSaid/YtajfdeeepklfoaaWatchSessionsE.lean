/-
  The table of the functions; what it tells is what the program does. No condition.
-/
import Derived.Test.YtajfdeeepklfoaaWatchSessionsC0
namespace Go.Proofs.Ytajfdeeepklfoaa
open Go Go.Rx
set_option maxRecDepth 100000
set_option linter.unusedVariables false
set_option linter.unusedSimpArgs false
set_option linter.unnecessarySimpa false
def tbl : Table := fun f => match f with
  | 36 => some pc36
  | 62 => some pc62
  | 38 => some pc38
  | 58 => some pc58
  | 80 => some pc80
  | 67 => some pc67
  | 45 => some pc45
  | 73 => some pc73
  | 74 => some pc74
  | 75 => some pc75
  | 63 => some pc63
  | 64 => some pc64
  | 39 => some pc39
  | 41 => some pc41
  | 44 => some pc44
  | 51 => some pc51
  | 42 => some pc42
  | 35 => some pc35
  | 37 => some pc37
  | 12 => some pc12
  | _ => none
noncomputable def D : Oracle := all Try.prog (fun _ _ _ => none) tbl
theorem D_meets (hm : Try.prog.follows .mixedOrders = true) : Meets Try.prog D := by
  refine all_meets hm (Meets.none _) ?_
  intro f pf h
  unfold tbl at h
  split at h <;> first | (cases h; done) | skip
  · obtain rfl := Option.some.inj h; exact ⟨_, pc36_a, Try.func36, pc36_ok⟩
  · obtain rfl := Option.some.inj h; exact ⟨_, pc62_a, Try.func62, pc62_ok⟩
  · obtain rfl := Option.some.inj h; exact ⟨_, pc38_a, Try.func38, pc38_ok⟩
  · obtain rfl := Option.some.inj h; exact ⟨_, pc58_a, Try.func58, pc58_ok⟩
  · obtain rfl := Option.some.inj h; exact ⟨_, pc80_a, Try.func80, pc80_ok⟩
  · obtain rfl := Option.some.inj h; exact ⟨_, pc67_a, Try.func67, pc67_ok⟩
  · obtain rfl := Option.some.inj h; exact ⟨_, pc45_a, Try.func45, pc45_ok⟩
  · obtain rfl := Option.some.inj h; exact ⟨_, pc73_a, Try.func73, pc73_ok⟩
  · obtain rfl := Option.some.inj h; exact ⟨_, pc74_a, Try.func74, pc74_ok⟩
  · obtain rfl := Option.some.inj h; exact ⟨_, pc75_a, Try.func75, pc75_ok⟩
  · obtain rfl := Option.some.inj h; exact ⟨_, pc63_a, Try.func63, pc63_ok⟩
  · obtain rfl := Option.some.inj h; exact ⟨_, pc64_a, Try.func64, pc64_ok⟩
  · obtain rfl := Option.some.inj h; exact ⟨_, pc39_a, Try.func39, pc39_ok⟩
  · obtain rfl := Option.some.inj h; exact ⟨_, pc41_a, Try.func41, pc41_ok⟩
  · obtain rfl := Option.some.inj h; exact ⟨_, pc44_a, Try.func44, pc44_ok⟩
  · obtain rfl := Option.some.inj h; exact ⟨_, pc51_a, Try.func51, pc51_ok⟩
  · obtain rfl := Option.some.inj h; exact ⟨_, pc42_a, Try.func42, pc42_ok⟩
  · obtain rfl := Option.some.inj h; exact ⟨_, pc35_a, Try.func35, pc35_ok⟩
  · obtain rfl := Option.some.inj h; exact ⟨_, pc37_a, Try.func37, pc37_ok⟩
  · obtain rfl := Option.some.inj h; exact ⟨_, pc12_a, Try.func12, pc12_ok⟩

end Go.Proofs.Ytajfdeeepklfoaa
