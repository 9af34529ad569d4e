/-
  DiffRects: a rectangle that moves tells enters and leaves, no more. No condition.
-/
import Derived.Test.YtajfdeeepklfoaaRows
import Derived.Test.YtajfdeeepklfoaaDiffRectsV
import Derived.Test.YtajfdeeepklfoaaDiffRectsQf
import Derived.Test.YtajfdeeepklfoaaDiffRectsP1
import Derived.WalkKit
import Derived.ProofKit
import Derived.OpenShut
import Derived.ShutString
import Derived.ChangeOld
import Derived.Below
import Derived.SizedLaws
import Derived.Carry
namespace Go.Proofs.Ytajfdeeepklfoaa.diffRects
open Go Go.Rx Go.ChangeShapes Go.WideShapes Go.ChangeAt Go.RowKit
open Go.ChangeMaps (open_string shut_string)
set_option linter.unusedVariables false
theorem own : ownKnob Try.prog.godebug = none := by kernel_rfl
theorem laidOut : laidOutB Try.prog = true := by kernel_rfl
set_option maxRecDepth 100000 in
theorem lifted (os : Os) (started : os.Started) (H : Type) (enc : TypeId × Value → H) :
    ReturnsInHanded {} Try.checked os 5 .any (Rows.diffRectsSpec.pre6 enc Try.prog Try.f5 Rows.diffRectsRow.domain false) (Rows.diffRectsSpec.post enc Try.prog Try.f5 false true false false) := by
  refine returnsInHanded_of_change_sized (C := Try.checked) own started (by kernel_rfl) Try.func5
    (ChangeSpec.witness6 (enc := enc) (C := Try.checked) false ⟨#[], #[.slice none 0 0, .agg #[.int .i64 0, .int .i64 0, .int .i64 0, .int .i64 0], .agg #[.int .i64 0, .int .i64 0, .int .i64 0, .int .i64 0]], []⟩ 8 (by kernel_rfl) (by kernel_rfl) (by kernel_rfl) (by kernel_rfl)) ?_
  intro W base args ds gs before hval0 hW hcnd hsz0 _
  have hval : ∀ (j : Nat) t v, Try.f5.params[j]? = some t → args[j]? = some v → Value.okWide Try.prog W .any base t v := hval0
  have hW' := hW
  obtain ⟨p, q, hA0, hV, rfl, hfz, hnd⟩ := hW
  have hA : DataW.TrodAll enc Try.prog W 0 (fun _ => true) true Try.f5.params.toList args.toList ds p := hA0
  rw [Try.params5] at hA hval
  obtain ⟨v0, vs0, d0, ds0, p0, q0, hargs, rfl, rfl, h0, r0⟩ := trodAll_cons hA
  obtain ⟨v1, vs1, d1, ds1, p1, q1, rfl, rfl, rfl, h1, r1⟩ := trodAll_cons r0
  obtain ⟨v2, vs2, d2, ds2, p2, q2, rfl, rfl, rfl, h2, r2⟩ := trodAll_cons r1
  obtain ⟨rfl, rfl, rfl⟩ := trodAll_nil r2
  obtain rfl : args = #[v0, v1, v2] := by cases args; simp_all
  obtain ⟨rfl, rfl⟩ := trodVars_none hV
  obtain ⟨b0, len0, cap0, rfl⟩ := okWide_slice Try.underlying22 (hval 0 22 v0 rfl rfl)
  have k0 := h0
  obtain ⟨a0, l0, w0, _⟩ := open_vw (c := Thing.cod) (vals := Thing.vals) (wf := Thing.wf) Try.underlying22 (by kernel_rfl) (by decide) (fun _ _ _ h => open_Thing h) Thing.len Thing.encv Thing.one h0
  have lt0 : ∀ x ∈ p0, x.block < W.heap.size := by obtain ⟨m, hm⟩ := k0; exact DataW.trod_lt m _ _ _ hm
  obtain ⟨C1, rfl, _⟩ := okWide_struct Try.underlying24 (hval 1 24 v1 rfl rfl)
  have k1 := h1
  obtain ⟨a1, e1, w1⟩ : ∃ a : Rect, C1.toList = Rect.vals a ∧ Rect.wf a := by obtain ⟨_, hf⟩ := h1; exact open_Rect hf
  obtain rfl : C1 = (Rect.vals a1).toArray := by rw [← e1]
  have lt1 : ∀ x ∈ p1, x.block < W.heap.size := by obtain ⟨m, hm⟩ := k1; exact DataW.trod_lt m _ _ _ hm
  obtain ⟨C2, rfl, _⟩ := okWide_struct Try.underlying24 (hval 2 24 v2 rfl rfl)
  have k2 := h2
  obtain ⟨a2, e2, w2⟩ : ∃ a : Rect, C2.toList = Rect.vals a ∧ Rect.wf a := by obtain ⟨_, hf⟩ := h2; exact open_Rect hf
  obtain rfl : C2 = (Rect.vals a2).toArray := by rw [← e2]
  have lt2 : ∀ x ∈ p2, x.block < W.heap.size := by obtain ⟨m, hm⟩ := k2; exact DataW.trod_lt m _ _ _ hm
  clear hA0 hval0 hsz0
  obtain ⟨n, hn⟩ := diffRects_pure a0 a1 a2 w0 w1 w2
  refine ((D_meets Try.checked.mixed).law (F5_ok n a0 a1 a2 true hn) (I := fun b => b < W.heap.size) (.cons (.one _ _ (.imm _ _ l0)) (.cons (argAgg _ (Rect.one _)) (.cons (argAgg _ (Rect.one _)) (.nil)))) (fun _ h => h)).mono fun e W' ⟨he, bel⟩ => ?_
  subst he
  exact ⟨_, rfl, _, _, _, [], _, [], hW', trodAll_mk1 (shut_bool Try.underlying4 _), (trodAll_cons_mk (Below.trod laidOut (by kernel_rfl) (of_decide_eq_true (by kernel_rfl)) k0 bel lt0) (trodAll_cons_mk (Below.trod laidOut (by kernel_rfl) (of_decide_eq_true (by kernel_rfl)) k1 bel lt1) (trodAll_cons_mk (Below.trod laidOut (by kernel_rfl) (of_decide_eq_true (by kernel_rfl)) k2 bel lt2) trodAll_mk0))), rfl, bel.frame _, fun h => by cases h⟩
theorem over : Rows.diffRectsRow.holds Try.pinned (OpenSpec.ofChange Rows.diffRectsSpec) :=
  OpenClaim.holds_of_wide 5 Try.f5 rfl rfl rfl rfl rfl rfl rfl ⟨rfl, rfl, rfl, rfl, rfl⟩ rfl rfl rfl rfl rfl (by kernel_rfl) Try.func5 (by kernel_rfl)
    (of_decide_eq_true (by kernel_rfl)) (by unfold Func.isWrapper; first | (rw [if_pos (by decide +kernel)]; kernel_rfl) | (rw [if_neg (by decide +kernel)]; exact ⟨rfl, rfl⟩))
    (fun os started H enc _ => lifted os started H enc)
theorem proved : Rows.DiffRectsSaid := over
end Go.Proofs.Ytajfdeeepklfoaa.diffRects
namespace Go.Proofs.Ytajfdeeepklfoaa
/-- The row, under a short name, for the claim. -/
theorem diffRects_holds : Rows.DiffRectsSaid := diffRects.proved
#print axioms diffRects_holds
end Go.Proofs.Ytajfdeeepklfoaa
