/-
  DiffFolds of the given program.
-/
import Derived.Test.YtobeamaaifgllaaRows
import Derived.Test.YtobeamaaifgllaaDiffFoldsV
import Derived.Test.YtobeamaaifgllaaDiffFoldsQ0
import Derived.Test.YtobeamaaifgllaaDiffFoldsP0
import Derived.WalkKit
import Derived.ProofKit
import Derived.OpenShut
import Derived.ShutString
import Derived.ChangeOld
import Derived.Below
import Derived.SizedLaws
import Derived.Carry
namespace Go.Proofs.Ytobeamaaifgllaa.diffFolds
open Go Go.Rx Go.ChangeShapes Go.WideShapes Go.ChangeAt Go.RowKit
open Go.ChangeMaps (open_string shut_string)
set_option linter.unusedVariables false
theorem own : ownKnob Try.prog.godebug = none := by kernel_rfl
theorem laidOut : laidOutB Try.prog = true := by kernel_rfl
set_option maxRecDepth 100000 in
theorem lifted (os : Os) (started : os.Started) (H : Type) (enc : TypeId × Go.Value → H) :
    ReturnsInHanded {} Try.checked os 9 .any (Rows.diffFoldsSpec.pre6 enc Try.prog Try.f9 Rows.diffFoldsRow.domain false) (Rows.diffFoldsSpec.post enc Try.prog Try.f9 false true false false) := by
  refine returnsInHanded_of_change_sized (C := Try.checked) own started (by kernel_rfl) Try.func9
    (ChangeSpec.witness6 (enc := enc) (C := Try.checked) false ⟨#[], #[.slice none 0 0, .slice none 0 0, .agg #[.int .i64 0, .int .i64 0, .int .i64 0, .int .i64 0], .agg #[.int .i64 0, .int .i64 0, .int .i64 0, .int .i64 0]], []⟩ 8 (by kernel_rfl) (by kernel_rfl) (by kernel_rfl) (by kernel_rfl)) ?_
  intro W base args ds gs before hval0 hW hcnd hsz0 _
  have hval : ∀ (j : Nat) t v, Try.f9.params[j]? = some t → args[j]? = some v → Value.okWide Try.prog W .any base t v := hval0
  have hW' := hW
  obtain ⟨p, q, hA0, hV, rfl, hfz, hnd⟩ := hW
  have hA : DataW.TrodAll enc Try.prog W 0 (fun _ => true) true Try.f9.params.toList args.toList ds p := hA0
  rw [Try.params9] at hA hval
  obtain ⟨v0, vs0, d0, ds0, p0, q0, hargs, rfl, rfl, h0, r0⟩ := trodAll_cons hA
  obtain ⟨v1, vs1, d1, ds1, p1, q1, rfl, rfl, rfl, h1, r1⟩ := trodAll_cons r0
  obtain ⟨v2, vs2, d2, ds2, p2, q2, rfl, rfl, rfl, h2, r2⟩ := trodAll_cons r1
  obtain ⟨v3, vs3, d3, ds3, p3, q3, rfl, rfl, rfl, h3, r3⟩ := trodAll_cons r2
  obtain ⟨rfl, rfl, rfl⟩ := trodAll_nil r3
  obtain rfl : args = #[v0, v1, v2, v3] := by cases args; simp_all
  obtain ⟨rfl, rfl⟩ := trodVars_none hV
  obtain ⟨b0, len0, cap0, rfl⟩ := okWide_slice Try.underlying29 (hval 0 29 v0 rfl rfl)
  have k0 := h0
  obtain ⟨a0, l0, w0, _⟩ := open_vw (c := Thing.cod) (vals := Thing.vals) (wf := Thing.wf) Try.underlying29 (by kernel_rfl) (by decide) (fun _ _ _ h => open_Thing h) Thing.len Thing.encv Thing.one h0
  have lt0 : ∀ x ∈ p0, x.block < W.heap.size := by obtain ⟨m, hm⟩ := k0; exact DataW.trod_lt m _ _ _ hm
  obtain ⟨b1, len1, cap1, rfl⟩ := okWide_slice Try.underlying29 (hval 1 29 v1 rfl rfl)
  have k1 := h1
  obtain ⟨a1, l1, w1, _⟩ := open_vw (c := Thing.cod) (vals := Thing.vals) (wf := Thing.wf) Try.underlying29 (by kernel_rfl) (by decide) (fun _ _ _ h => open_Thing h) Thing.len Thing.encv Thing.one h1
  have lt1 : ∀ x ∈ p1, x.block < W.heap.size := by obtain ⟨m, hm⟩ := k1; exact DataW.trod_lt m _ _ _ hm
  obtain ⟨C2, rfl, _⟩ := okWide_struct Try.underlying62 (hval 2 62 v2 rfl rfl)
  have k2 := h2
  obtain ⟨a2, e2, w2⟩ : ∃ a : Rect, C2.toList = Rect.vals a ∧ Rect.wf a := by obtain ⟨_, hf⟩ := h2; exact open_Rect hf
  obtain rfl : C2 = (Rect.vals a2).toArray := by rw [← e2]
  have lt2 : ∀ x ∈ p2, x.block < W.heap.size := by obtain ⟨m, hm⟩ := k2; exact DataW.trod_lt m _ _ _ hm
  obtain ⟨C3, rfl, _⟩ := okWide_struct Try.underlying62 (hval 3 62 v3 rfl rfl)
  have k3 := h3
  obtain ⟨a3, e3, w3⟩ : ∃ a : Rect, C3.toList = Rect.vals a ∧ Rect.wf a := by obtain ⟨_, hf⟩ := h3; exact open_Rect hf
  obtain rfl : C3 = (Rect.vals a3).toArray := by rw [← e3]
  have lt3 : ∀ x ∈ p3, x.block < W.heap.size := by obtain ⟨m, hm⟩ := k3; exact DataW.trod_lt m _ _ _ hm
  clear hA0 hval0 hsz0
  obtain ⟨n, hn⟩ := diffFolds_pure a0 a1 a2 a3 w0 w1 w2 w3
  refine ((D_meets Try.checked.mixed).law (F9_ok n a0 a1 a2 a3 true hn) (I := fun b => b < W.heap.size) (.cons (.one _ _ (.imm _ _ l0)) (.cons (.one _ _ (.imm _ _ l1)) (.cons (argAgg _ (Rect.one _)) (.cons (argAgg _ (Rect.one _)) (.nil))))) (fun _ h => h)).mono fun e W' ⟨he, bel⟩ => ?_
  subst he
  exact ⟨_, rfl, _, _, _, [], _, [], hW', trodAll_mk1 (shut_bool Try.underlying4 _), (trodAll_cons_mk (Below.trod laidOut (by kernel_rfl) (of_decide_eq_true (by kernel_rfl)) k0 bel lt0) (trodAll_cons_mk (Below.trod laidOut (by kernel_rfl) (of_decide_eq_true (by kernel_rfl)) k1 bel lt1) (trodAll_cons_mk (Below.trod laidOut (by kernel_rfl) (of_decide_eq_true (by kernel_rfl)) k2 bel lt2) (trodAll_cons_mk (Below.trod laidOut (by kernel_rfl) (of_decide_eq_true (by kernel_rfl)) k3 bel lt3) trodAll_mk0)))), rfl, bel.frame _, fun h => by cases h⟩
theorem over : Rows.diffFoldsRow.holds Try.pinned (OpenSpec.ofChange Rows.diffFoldsSpec) :=
  OpenClaim.holds_of_wide 9 Try.f9 rfl rfl rfl rfl rfl rfl rfl ⟨rfl, rfl, rfl, rfl, rfl⟩ rfl rfl rfl rfl rfl (by kernel_rfl) Try.func9 (by kernel_rfl)
    (of_decide_eq_true (by kernel_rfl)) (by unfold Func.isWrapper; first | (rw [if_pos (by decide +kernel)]; kernel_rfl) | (rw [if_neg (by decide +kernel)]; exact ⟨rfl, rfl⟩))
    (fun os started H enc _ => lifted os started H enc)
theorem proved : Rows.DiffFoldsSaid := over
end Go.Proofs.Ytobeamaaifgllaa.diffFolds
namespace Go.Proofs.Ytobeamaaifgllaa
/-- The row, under a short name, for the claim. -/
theorem diffFolds_holds : Rows.DiffFoldsSaid := diffFolds.proved
#print axioms diffFolds_holds
end Go.Proofs.Ytobeamaaifgllaa
