/- No condition. -/
import Derived.Test.YthdabpmcojmhhaaRows
import Derived.Test.YthdabpmcojmhhaaViewOrdersV
import Derived.Test.YthdabpmcojmhhaaViewOrdersQ0
import Derived.Test.YthdabpmcojmhhaaViewOrdersP0
import Derived.WalkKit
import Derived.ProofKit
import Derived.OpenShut
import Derived.ShutString
import Derived.ChangeOld
import Derived.Below
import Derived.SizedLaws
import Derived.Carry
namespace Go.Proofs.Ythdabpmcojmhhaa.viewOrders
open Go Go.Rx Go.ChangeShapes Go.WideShapes Go.ChangeAt Go.RowKit
open Go.ChangeMaps (open_string shut_string)
set_option linter.unusedVariables false
theorem own : ownKnob Try.prog.godebug = none := by kernel_rfl
theorem laidOut : laidOutB Try.prog = true := by kernel_rfl
set_option maxRecDepth 100000 in
theorem lifted (os : Os) (started : os.Started) (H : Type) (enc : TypeId × Go.Value → H) :
  ReturnsInHanded {} Try.checked os 4 .any (Rows.viewOrdersSpec.pre6 enc Try.prog Try.f4 Rows.viewOrdersRow.domain false) (Rows.viewOrdersSpec.post enc Try.prog Try.f4 false true false false) := by
 refine returnsInHanded_of_change_sized (C := Try.checked) own started (by kernel_rfl) Try.func4
  (ChangeSpec.witness6 (enc := enc) (C := Try.checked) false ⟨#[], #[.int .u8 0, .int .u8 0, .slice none 0 0, .slice none 0 0], []⟩ 8 (by kernel_rfl) (by kernel_rfl) (by kernel_rfl) (by kernel_rfl)) ?_
 intro W base args ds gs before hval0 hW hcnd hsz0 _
 have hval : ∀ (j : Nat) t v, Try.f4.params[j]? = some t → args[j]? = some v → Value.okWide Try.prog W .any base t v := hval0
 have hW' := hW
 obtain ⟨p, q, hA0, hV, rfl, hfz, hnd⟩ := hW
 have hA : DataW.TrodAll enc Try.prog W 0 (fun _ => true) true Try.f4.params.toList args.toList ds p := hA0
 rw [Try.params4] at hA hval
 obtain ⟨v0, vs0, d0, ds0, p0, q0, hargs, rfl, rfl, h0, r0⟩ := trodAll_cons hA
 obtain ⟨v1, vs1, d1, ds1, p1, q1, rfl, rfl, rfl, h1, r1⟩ := trodAll_cons r0
 obtain ⟨v2, vs2, d2, ds2, p2, q2, rfl, rfl, rfl, h2, r2⟩ := trodAll_cons r1
 obtain ⟨v3, vs3, d3, ds3, p3, q3, rfl, rfl, rfl, h3, r3⟩ := trodAll_cons r2
 obtain ⟨rfl, rfl, rfl⟩ := trodAll_nil r3
 obtain rfl : args = #[v0, v1, v2, v3] := by cases args; simp_all
 obtain ⟨rfl, rfl⟩ := trodVars_none hV
 obtain ⟨a0, rfl, rfl, rfl, w0⟩ := open_int Try.underlying5 (hval 0 5 v0 rfl rfl) h0
 obtain ⟨a1, rfl, rfl, rfl, w1⟩ := open_int Try.underlying5 (hval 1 5 v1 rfl rfl) h1
 obtain ⟨b2, len2, cap2, rfl⟩ := okWide_slice Try.underlying42 (hval 2 42 v2 rfl rfl)
 have k2 := h2
 obtain ⟨a2, l2, w2, _⟩ := open_vw (c := (codI .u8)) (vals := fun a => [.int .u8 a]) (wf := fun a => (Lit.int .u8 a).wf = true) Try.underlying42 (by kernel_rfl) (by decide) (fun _ _ _ h => let ⟨a, e, _, w⟩ := DataW.trod_int Try.underlying5 h; ⟨a, e, w⟩) (fun _ => rfl) (fun _ => rfl) (by simp [Value.oneCell']) h2
 have lt2 : ∀ x ∈ p2, x.block < W.heap.size := by obtain ⟨m, hm⟩ := k2; exact DataW.trod_lt m _ _ _ hm
 obtain ⟨b3, len3, cap3, rfl⟩ := okWide_slice Try.underlying43 (hval 3 43 v3 rfl rfl)
 have k3 := h3
 obtain ⟨a3, l3, w3, _⟩ := open_vw (c := (codI .u16)) (vals := fun a => [.int .u16 a]) (wf := fun a => (Lit.int .u16 a).wf = true) Try.underlying43 (by kernel_rfl) (by decide) (fun _ _ _ h => let ⟨a, e, _, w⟩ := DataW.trod_int Try.underlying45 h; ⟨a, e, w⟩) (fun _ => rfl) (fun _ => rfl) (by simp [Value.oneCell']) h3
 have lt3 : ∀ x ∈ p3, x.block < W.heap.size := by obtain ⟨m, hm⟩ := k3; exact DataW.trod_lt m _ _ _ hm
 clear hA0 hval0 hsz0
 obtain ⟨n, hn⟩ := viewOrders_pure a0 a1 a2 a3 w0 w1 w2 w3
 refine ((D_meets Try.checked.mixed).law (F4_ok n a0 a1 a2 a3 true hn) (I := fun b => b < W.heap.size) (.cons (argVal rfl) (.cons (argVal rfl) (.cons (.one _ _ (.imm _ _ l2)) (.cons (.one _ _ (.imm _ _ l3)) (.nil))))) (fun _ h => h)).mono fun e W' ⟨he, bel⟩ => ?_
 subst he
 exact ⟨_, rfl, _, _, _, [], _, [], hW', trodAll_mk1 (shut_bool Try.underlying4 _), (trodAll_cons_mk (shut_int Try.underlying5 w0) (trodAll_cons_mk (shut_int Try.underlying5 w1) (trodAll_cons_mk (Below.trod laidOut (by kernel_rfl) (of_decide_eq_true (by kernel_rfl)) k2 bel lt2) (trodAll_cons_mk (Below.trod laidOut (by kernel_rfl) (of_decide_eq_true (by kernel_rfl)) k3 bel lt3) trodAll_mk0)))), rfl, bel.frame _, fun h => by cases h⟩
theorem over : Rows.viewOrdersRow.holds Try.pinned (OpenSpec.ofChange Rows.viewOrdersSpec) :=
 OpenClaim.holds_of_wide 4 Try.f4 rfl rfl rfl rfl rfl rfl rfl ⟨rfl, rfl, rfl, rfl, rfl⟩ rfl rfl rfl rfl rfl (by kernel_rfl) Try.func4 (by kernel_rfl)
  (of_decide_eq_true (by kernel_rfl)) (by unfold Func.isWrapper; first | (rw [if_pos (by decide +kernel)]; kernel_rfl) | (rw [if_neg (by decide +kernel)]; exact ⟨rfl, rfl⟩))
  (fun os started H enc _ => lifted os started H enc)
theorem proved : Rows.ViewOrdersSaid := over
end Go.Proofs.Ythdabpmcojmhhaa.viewOrders
namespace Go.Proofs.Ythdabpmcojmhhaa
theorem viewOrders_holds : Rows.ViewOrdersSaid := viewOrders.proved
#print axioms viewOrders_holds
end Go.Proofs.Ythdabpmcojmhhaa
