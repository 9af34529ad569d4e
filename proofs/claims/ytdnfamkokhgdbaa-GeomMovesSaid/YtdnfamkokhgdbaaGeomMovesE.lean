/-
  The table of the functions; what it tells is what the program does. No condition.
-/
import Derived.Test.YtdnfamkokhgdbaaGeomMovesC0
namespace Go.Proofs.Ytdnfamkokhgdbaa
open Go Go.Rx
set_option maxRecDepth 100000
set_option linter.unusedVariables false
set_option linter.unusedSimpArgs false
set_option linter.unnecessarySimpa false
def tbl : Table := fun f => match f with
  | 27 => some pc27
  | 40 => some pc40
  | 31 => some pc31
  | 21 => some pc21
  | 23 => some pc23
  | 39 => some pc39
  | 25 => some pc25
  | 29 => some pc29
  | 33 => some pc33
  | 35 => some pc35
  | 19 => some pc19
  | 20 => some pc20
  | 28 => some pc28
  | 32 => some pc32
  | 22 => some pc22
  | 24 => some pc24
  | 26 => some pc26
  | 30 => some pc30
  | 41 => some pc41
  | 34 => some pc34
  | 36 => some pc36
  | 6 => some pc6
  | 10 => some pc10
  | _ => none
noncomputable def D : Oracle := all Try.prog (fun _ _ _ => none) tbl
theorem D_meets (hm : Try.prog.follows .mixedOrders = true) : Meets Try.prog D := by
  refine all_meets hm (Meets.none _) ?_
  intro f pf h
  unfold tbl at h
  split at h <;> first | (cases h; done) | skip
  · obtain rfl := Option.some.inj h; exact ⟨_, pc27_a, Try.func27, pc27_ok⟩
  · obtain rfl := Option.some.inj h; exact ⟨_, pc40_a, Try.func40, pc40_ok⟩
  · obtain rfl := Option.some.inj h; exact ⟨_, pc31_a, Try.func31, pc31_ok⟩
  · obtain rfl := Option.some.inj h; exact ⟨_, pc21_a, Try.func21, pc21_ok⟩
  · obtain rfl := Option.some.inj h; exact ⟨_, pc23_a, Try.func23, pc23_ok⟩
  · obtain rfl := Option.some.inj h; exact ⟨_, pc39_a, Try.func39, pc39_ok⟩
  · obtain rfl := Option.some.inj h; exact ⟨_, pc25_a, Try.func25, pc25_ok⟩
  · obtain rfl := Option.some.inj h; exact ⟨_, pc29_a, Try.func29, pc29_ok⟩
  · obtain rfl := Option.some.inj h; exact ⟨_, pc33_a, Try.func33, pc33_ok⟩
  · obtain rfl := Option.some.inj h; exact ⟨_, pc35_a, Try.func35, pc35_ok⟩
  · obtain rfl := Option.some.inj h; exact ⟨_, pc19_a, Try.func19, pc19_ok⟩
  · obtain rfl := Option.some.inj h; exact ⟨_, pc20_a, Try.func20, pc20_ok⟩
  · obtain rfl := Option.some.inj h; exact ⟨_, pc28_a, Try.func28, pc28_ok⟩
  · obtain rfl := Option.some.inj h; exact ⟨_, pc32_a, Try.func32, pc32_ok⟩
  · obtain rfl := Option.some.inj h; exact ⟨_, pc22_a, Try.func22, pc22_ok⟩
  · obtain rfl := Option.some.inj h; exact ⟨_, pc24_a, Try.func24, pc24_ok⟩
  · obtain rfl := Option.some.inj h; exact ⟨_, pc26_a, Try.func26, pc26_ok⟩
  · obtain rfl := Option.some.inj h; exact ⟨_, pc30_a, Try.func30, pc30_ok⟩
  · obtain rfl := Option.some.inj h; exact ⟨_, pc41_a, Try.func41, pc41_ok⟩
  · obtain rfl := Option.some.inj h; exact ⟨_, pc34_a, Try.func34, pc34_ok⟩
  · obtain rfl := Option.some.inj h; exact ⟨_, pc36_a, Try.func36, pc36_ok⟩
  · obtain rfl := Option.some.inj h; exact ⟨_, pc6_a, Try.func6, pc6_ok⟩
  · obtain rfl := Option.some.inj h; exact ⟨_, pc10_a, Try.func10, pc10_ok⟩

end Go.Proofs.Ytdnfamkokhgdbaa
