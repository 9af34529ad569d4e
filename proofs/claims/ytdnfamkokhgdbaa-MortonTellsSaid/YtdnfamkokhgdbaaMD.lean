/-
  Morton: what the table of functions tells is what the program does; words out of arguments.
-/
import Derived.Test.YtdnfamkokhgdbaaMA
import Derived.Test.YtdnfamkokhgdbaaChecked
import Derived.Test.YtdnfamkokhgdbaaRxQ
import Derived.OpenShut
namespace Go.Proofs.Ytdnfamkokhgdbaa
open Go Go.Rx
set_option maxRecDepth 100000
theorem D_meets : Meets Try.prog D := by
  refine all_meets Try.checked.mixed (Meets.none _) ?_
  intro f pf h
  unfold tblM at h
  split at h <;> first | (cases h; done) | skip
  · obtain rfl := Option.some.inj h; exact ⟨_, kr3, Try.func3, pc3_ok⟩
  · obtain rfl := Option.some.inj h; exact ⟨_, kr4, Try.func4, pc4_ok⟩
  · obtain rfl := Option.some.inj h; exact ⟨_, kr5, Try.func5, pc5_ok⟩
  · obtain rfl := Option.some.inj h; exact ⟨_, kr11, Try.func11, pc11_ok⟩
  · obtain rfl := Option.some.inj h; exact ⟨_, kr12, Try.func12, pc12_ok⟩
  · obtain rfl := Option.some.inj h; exact ⟨_, kr13, Try.func13, pc13_ok⟩
  · obtain rfl := Option.some.inj h; exact ⟨_, kr14, Try.func14, pc14_ok⟩
  · obtain rfl := Option.some.inj h; exact ⟨_, kr15, Try.func15, pc15_ok⟩
  · obtain rfl := Option.some.inj h; exact ⟨_, kr16, Try.func16, pc16_ok⟩
  · obtain rfl := Option.some.inj h; exact ⟨_, kr17, Try.func17, pc17_ok⟩
  · obtain rfl := Option.some.inj h; exact ⟨_, kr18, Try.func18, pc18_ok⟩
  · obtain rfl := Option.some.inj h; exact ⟨_, kr37, Try.func37, pc37_ok⟩
  · obtain rfl := Option.some.inj h; exact ⟨_, kr38, Try.func38, pc38_ok⟩

theorem word8 {a : Int} (h : (Lit.int .u8 a).wf = true) : ∃ x : BitVec 8, a = (x.toNat : Int) := by
  have b := bounds_u8 h
  exact ⟨BitVec.ofNat 8 a.toNat, by simp; omega⟩
theorem word16 {a : Int} (h : (Lit.int .u16 a).wf = true) : ∃ x : BitVec 16, a = (x.toNat : Int) := by
  have b := bounds_u16 h
  exact ⟨BitVec.ofNat 16 a.toNat, by simp; omega⟩
theorem word32 {a : Int} (h : (Lit.int .u32 a).wf = true) : ∃ x : BitVec 32, a = (x.toNat : Int) := by
  have b := bounds_u32 h
  exact ⟨BitVec.ofNat 32 a.toNat, by simp; omega⟩
end Go.Proofs.Ytdnfamkokhgdbaa
