/-
  The table of the functions; what it tells is what the program does. No condition.
-/
import Derived.Test.YthmbegagkgdopaaCmdReadsC0
namespace Go.Proofs.Ythmbegagkgdopaa
open Go Go.Rx
set_option maxRecDepth 100000
set_option linter.unusedVariables false
set_option linter.unusedSimpArgs false
set_option linter.unnecessarySimpa false
def tbl : Table := fun f => match f with
  | 26 => some pc26
  | 58 => some pc58
  | 59 => some pc59
  | 35 => some pc35
  | 42 => some pc42
  | 44 => some pc44
  | 68 => some pc68
  | 45 => some pc45
  | 56 => some pc56
  | 57 => some pc57
  | 34 => some pc34
  | 37 => some pc37
  | 39 => some pc39
  | 70 => some pc70
  | 74 => some pc74
  | 65 => some pc65
  | 64 => some pc64
  | 66 => some pc66
  | 67 => some pc67
  | 40 => some pc40
  | 32 => some pc32
  | 33 => some pc33
  | 27 => some pc27
  | 60 => some pc60
  | 61 => some pc61
  | 62 => some pc62
  | 63 => some pc63
  | 36 => some pc36
  | 41 => some pc41
  | 11 => some pc11
  | _ => none
noncomputable def D : Oracle := all Try.prog (fun _ _ _ => none) tbl
theorem D_meets (hm : Try.prog.follows .mixedOrders = true) : Meets Try.prog D := by
  refine all_meets hm (Meets.none _) ?_
  intro f pf h
  unfold tbl at h
  split at h <;> first | (cases h; done) | skip
  · obtain rfl := Option.some.inj h; exact ⟨_, pc26_a, Try.func26, pc26_ok⟩
  · obtain rfl := Option.some.inj h; exact ⟨_, pc58_a, Try.func58, pc58_ok⟩
  · obtain rfl := Option.some.inj h; exact ⟨_, pc59_a, Try.func59, pc59_ok⟩
  · obtain rfl := Option.some.inj h; exact ⟨_, pc35_a, Try.func35, pc35_ok⟩
  · obtain rfl := Option.some.inj h; exact ⟨_, pc42_a, Try.func42, pc42_ok⟩
  · obtain rfl := Option.some.inj h; exact ⟨_, pc44_a, Try.func44, pc44_ok⟩
  · obtain rfl := Option.some.inj h; exact ⟨_, pc68_a, Try.func68, pc68_ok⟩
  · obtain rfl := Option.some.inj h; exact ⟨_, pc45_a, Try.func45, pc45_ok⟩
  · obtain rfl := Option.some.inj h; exact ⟨_, pc56_a, Try.func56, pc56_ok⟩
  · obtain rfl := Option.some.inj h; exact ⟨_, pc57_a, Try.func57, pc57_ok⟩
  · obtain rfl := Option.some.inj h; exact ⟨_, pc34_a, Try.func34, pc34_ok⟩
  · obtain rfl := Option.some.inj h; exact ⟨_, pc37_a, Try.func37, pc37_ok⟩
  · obtain rfl := Option.some.inj h; exact ⟨_, pc39_a, Try.func39, pc39_ok⟩
  · obtain rfl := Option.some.inj h; exact ⟨_, pc70_a, Try.func70, pc70_ok⟩
  · obtain rfl := Option.some.inj h; exact ⟨_, pc74_a, Try.func74, pc74_ok⟩
  · obtain rfl := Option.some.inj h; exact ⟨_, pc65_a, Try.func65, pc65_ok⟩
  · obtain rfl := Option.some.inj h; exact ⟨_, pc64_a, Try.func64, pc64_ok⟩
  · obtain rfl := Option.some.inj h; exact ⟨_, pc66_a, Try.func66, pc66_ok⟩
  · obtain rfl := Option.some.inj h; exact ⟨_, pc67_a, Try.func67, pc67_ok⟩
  · obtain rfl := Option.some.inj h; exact ⟨_, pc40_a, Try.func40, pc40_ok⟩
  · obtain rfl := Option.some.inj h; exact ⟨_, pc32_a, Try.func32, pc32_ok⟩
  · obtain rfl := Option.some.inj h; exact ⟨_, pc33_a, Try.func33, pc33_ok⟩
  · obtain rfl := Option.some.inj h; exact ⟨_, pc27_a, Try.func27, pc27_ok⟩
  · obtain rfl := Option.some.inj h; exact ⟨_, pc60_a, Try.func60, pc60_ok⟩
  · obtain rfl := Option.some.inj h; exact ⟨_, pc61_a, Try.func61, pc61_ok⟩
  · obtain rfl := Option.some.inj h; exact ⟨_, pc62_a, Try.func62, pc62_ok⟩
  · obtain rfl := Option.some.inj h; exact ⟨_, pc63_a, Try.func63, pc63_ok⟩
  · obtain rfl := Option.some.inj h; exact ⟨_, pc36_a, Try.func36, pc36_ok⟩
  · obtain rfl := Option.some.inj h; exact ⟨_, pc41_a, Try.func41, pc41_ok⟩
  · obtain rfl := Option.some.inj h; exact ⟨_, pc11_a, Try.func11, pc11_ok⟩

end Go.Proofs.Ythmbegagkgdopaa
