/-
  Of every two commands whether they are any, whether they watch, whether they are alike, as the reference says; at most 200 bytes. No condition.
-/
import Derived.Test.YthmbegagkgdopaaRows
import Derived.Test.YthmbegagkgdopaaCmdTellsV
import Derived.Test.YthmbegagkgdopaaCmdTellsNa
import Derived.Test.YthmbegagkgdopaaCmdTellsCa
import Derived.Test.YthmbegagkgdopaaCmdTellsCr
import Derived.Test.YthmbegagkgdopaaCmdTellsCt
import Derived.Test.YthmbegagkgdopaaCmdTellsP2
import Derived.WalkKit
import Derived.ProofKit
import Derived.OpenShut
import Derived.ShutString
import Derived.ChangeOld
import Derived.Below
import Derived.SizedLaws
import Derived.Carry
namespace Go.Proofs.Ythmbegagkgdopaa.cmdTells
open Go Go.Rx Go.ChangeShapes Go.WideShapes Go.ChangeAt Go.RowKit
open Go.ChangeMaps (open_string shut_string)
set_option linter.unusedVariables false
theorem own : ownKnob Try.prog.godebug = none := by kernel_rfl
theorem laidOut : laidOutB Try.prog = true := by kernel_rfl
set_option maxRecDepth 100000 in
theorem lifted (os : Os) (started : os.Started) (H : Type) (enc : TypeId × Go.Value → H) :
    ReturnsInHanded {} Try.checked os 9 .any (Rows.cmdTellsSpec.pre6 enc Try.prog Try.f9 Rows.cmdTellsRow.domain false) (Rows.cmdTellsSpec.post enc Try.prog Try.f9 false true false false) := by
  refine returnsInHanded_of_change_sized (C := Try.checked) own started (by kernel_rfl) Try.func9
    (ChangeSpec.witness6 (enc := enc) (C := Try.checked) false ⟨#[], #[.agg #[.int .i64 0, .int .i64 0, .int .i64 0, .int .i64 0, .int .i64 0, .int .i64 0, .int .i64 0, .string ByteArray.empty, .int .i64 0, .string ByteArray.empty, .int .i64 0, .string ByteArray.empty, .int .i64 0, .string ByteArray.empty, .int .i64 0, .string ByteArray.empty, .int .i64 0, .int .i64 0, .int .i64 0, .int .i64 0, .int .i64 0, .int .i64 0], .agg #[.int .i64 0, .int .i64 0, .int .i64 0, .int .i64 0, .int .i64 0, .int .i64 0, .int .i64 0, .string ByteArray.empty, .int .i64 0, .string ByteArray.empty, .int .i64 0, .string ByteArray.empty, .int .i64 0, .string ByteArray.empty, .int .i64 0, .string ByteArray.empty, .int .i64 0, .int .i64 0, .int .i64 0, .int .i64 0, .int .i64 0, .int .i64 0]], []⟩ 8 (by kernel_rfl) (by kernel_rfl) (by kernel_rfl) (by kernel_rfl)) ?_
  intro W base args ds gs before hval0 hW hcnd hsz0 _
  have hval : ∀ (j : Nat) t v, Try.f9.params[j]? = some t → args[j]? = some v → Value.okWide Try.prog W .any base t v := hval0
  have hW' := hW
  obtain ⟨p, q, hA0, hV, rfl, hfz, hnd⟩ := hW
  have hA : DataW.TrodAll enc Try.prog W 0 (fun _ => true) true Try.f9.params.toList args.toList ds p := hA0
  rw [Try.params9] at hA hval
  obtain ⟨v0, vs0, d0, ds0, p0, q0, hargs, rfl, rfl, h0, r0⟩ := trodAll_cons hA
  obtain ⟨v1, vs1, d1, ds1, p1, q1, rfl, rfl, rfl, h1, r1⟩ := trodAll_cons r0
  obtain ⟨rfl, rfl, rfl⟩ := trodAll_nil r1
  obtain rfl : args = #[v0, v1] := by cases args; simp_all
  obtain ⟨rfl, rfl⟩ := trodVars_none hV
  obtain ⟨C0, rfl, _⟩ := okWide_struct Try.underlying57 (hval 0 57 v0 rfl rfl)
  have k0 := h0
  obtain ⟨a0, e0, w0⟩ : ∃ a : Command, C0.toList = Command.vals a ∧ Command.wf a := by obtain ⟨_, hf⟩ := h0; exact open_Command hf
  obtain rfl : C0 = (Command.vals a0).toArray := by rw [← e0]
  have lt0 : ∀ x ∈ p0, x.block < W.heap.size := by obtain ⟨m, hm⟩ := k0; exact DataW.trod_lt m _ _ _ hm
  obtain ⟨C1, rfl, _⟩ := okWide_struct Try.underlying57 (hval 1 57 v1 rfl rfl)
  have k1 := h1
  obtain ⟨a1, e1, w1⟩ : ∃ a : Command, C1.toList = Command.vals a ∧ Command.wf a := by obtain ⟨_, hf⟩ := h1; exact open_Command hf
  obtain rfl : C1 = (Command.vals a1).toArray := by rw [← e1]
  have lt1 : ∀ x ∈ p1, x.block < W.heap.size := by obtain ⟨m, hm⟩ := k1; exact DataW.trod_lt m _ _ _ hm
  clear hA0 hval0 hsz0
  obtain ⟨n, hn⟩ := cmdTells_pure a0 a1 w0 w1
  refine ((D_meets Try.checked.mixed).law (F9_ok n a0 a1 true hn) (I := fun b => b < W.heap.size) (.cons (argAgg _ (Command.one _)) (.cons (argAgg _ (Command.one _)) (.nil))) (fun _ h => h)).mono fun e W' ⟨he, bel⟩ => ?_
  subst he
  exact ⟨_, rfl, _, _, _, [], _, [], hW', trodAll_mk1 (shut_bool Try.underlying4 _), (trodAll_cons_mk (Below.trod laidOut (by kernel_rfl) (of_decide_eq_true (by kernel_rfl)) k0 bel lt0) (trodAll_cons_mk (Below.trod laidOut (by kernel_rfl) (of_decide_eq_true (by kernel_rfl)) k1 bel lt1) trodAll_mk0)), rfl, bel.frame _, fun h => by cases h⟩
theorem over : Rows.cmdTellsRow.holds Try.pinned (OpenSpec.ofChange Rows.cmdTellsSpec) :=
  OpenClaim.holds_of_wide 9 Try.f9 rfl rfl rfl rfl rfl rfl rfl ⟨rfl, rfl, rfl, rfl, rfl⟩ rfl rfl rfl rfl rfl (by kernel_rfl) Try.func9 (by kernel_rfl)
    (of_decide_eq_true (by kernel_rfl)) (by unfold Func.isWrapper; first | (rw [if_pos (by decide +kernel)]; kernel_rfl) | (rw [if_neg (by decide +kernel)]; exact ⟨rfl, rfl⟩))
    (fun os started H enc _ => lifted os started H enc)
theorem proved : Rows.CmdTellsSaid := over
end Go.Proofs.Ythmbegagkgdopaa.cmdTells
namespace Go.Proofs.Ythmbegagkgdopaa
/-- The row, under a short name, for the claim. -/
theorem cmdTells_holds : Rows.CmdTellsSaid := cmdTells.proved
#print axioms cmdTells_holds
end Go.Proofs.Ythmbegagkgdopaa
