/-
  A client that joined turns as often as it likes in its session alone; joined anew elder turns count for nothing: the answer is true for every input. No condition.
-/
import Derived.Test.YtajfdeeepklfoaaRows
import Derived.Test.YtajfdeeepklfoaaWatchTurnsV
import Derived.Test.YtajfdeeepklfoaaWatchTurnsWa
import Derived.Test.YtajfdeeepklfoaaWatchTurnsWt
import Derived.Test.YtajfdeeepklfoaaWatchTurnsP1
import Derived.WalkKit
import Derived.ProofKit
import Derived.OpenShut
import Derived.ShutString
import Derived.ChangeOld
import Derived.Below
import Derived.SizedLaws
import Derived.Carry
namespace Go.Proofs.Ytajfdeeepklfoaa.watchTurns
open Go Go.Rx Go.ChangeShapes Go.WideShapes Go.ChangeAt Go.RowKit
open Go.ChangeMaps (open_string shut_string)
set_option linter.unusedVariables false
theorem own : ownKnob Try.prog.godebug = none := by kernel_rfl
theorem laidOut : laidOutB Try.prog = true := by kernel_rfl
set_option maxRecDepth 100000 in
theorem lifted (os : Os) (started : os.Started) (H : Type) (enc : TypeId × Go.Value → H) :
    ReturnsInHanded {} Try.checked os 13 .any (Rows.watchTurnsSpec.pre6 enc Try.prog Try.f13 Rows.watchTurnsRow.domain false) (Rows.watchTurnsSpec.post enc Try.prog Try.f13 false true false false) := by
  refine returnsInHanded_of_change_sized (C := Try.checked) own started (by kernel_rfl) Try.func13
    (ChangeSpec.witness6 (enc := enc) (C := Try.checked) false ⟨#[], #[.int .u8 0, .int .u8 0, .int .u8 0, .agg #[.int .i64 0, .int .i64 0, .int .i64 0, .int .i64 0], .agg #[.int .i64 0, .int .i64 0, .int .i64 0, .int .i64 0]], []⟩ 8 (by kernel_rfl) (by kernel_rfl) (by kernel_rfl) (by kernel_rfl)) ?_
  intro W base args ds gs before hval0 hW hcnd hsz0 _
  have hval : ∀ (j : Nat) t v, Try.f13.params[j]? = some t → args[j]? = some v → Value.okWide Try.prog W .any base t v := hval0
  have hW' := hW
  obtain ⟨p, q, hA0, hV, rfl, hfz, hnd⟩ := hW
  have hA : DataW.TrodAll enc Try.prog W 0 (fun _ => true) true Try.f13.params.toList args.toList ds p := hA0
  rw [Try.params13] at hA hval
  obtain ⟨v0, vs0, d0, ds0, p0, q0, hargs, rfl, rfl, h0, r0⟩ := trodAll_cons hA
  obtain ⟨v1, vs1, d1, ds1, p1, q1, rfl, rfl, rfl, h1, r1⟩ := trodAll_cons r0
  obtain ⟨v2, vs2, d2, ds2, p2, q2, rfl, rfl, rfl, h2, r2⟩ := trodAll_cons r1
  obtain ⟨v3, vs3, d3, ds3, p3, q3, rfl, rfl, rfl, h3, r3⟩ := trodAll_cons r2
  obtain ⟨v4, vs4, d4, ds4, p4, q4, rfl, rfl, rfl, h4, r4⟩ := trodAll_cons r3
  obtain ⟨rfl, rfl, rfl⟩ := trodAll_nil r4
  obtain rfl : args = #[v0, v1, v2, v3, v4] := by cases args; simp_all
  obtain ⟨rfl, rfl⟩ := trodVars_none hV
  obtain ⟨a0, rfl, rfl, rfl, w0⟩ := open_int Try.underlying5 (hval 0 5 v0 rfl rfl) h0
  obtain ⟨a1, rfl, rfl, rfl, w1⟩ := open_int Try.underlying5 (hval 1 5 v1 rfl rfl) h1
  obtain ⟨a2, rfl, rfl, rfl, w2⟩ := open_int Try.underlying5 (hval 2 5 v2 rfl rfl) h2
  obtain ⟨C3, rfl, _⟩ := okWide_struct Try.underlying24 (hval 3 24 v3 rfl rfl)
  have k3 := h3
  obtain ⟨a3, e3, w3⟩ : ∃ a : Rect, C3.toList = Rect.vals a ∧ Rect.wf a := by obtain ⟨_, hf⟩ := h3; exact open_Rect hf
  obtain rfl : C3 = (Rect.vals a3).toArray := by rw [← e3]
  have lt3 : ∀ x ∈ p3, x.block < W.heap.size := by obtain ⟨m, hm⟩ := k3; exact DataW.trod_lt m _ _ _ hm
  obtain ⟨C4, rfl, _⟩ := okWide_struct Try.underlying24 (hval 4 24 v4 rfl rfl)
  have k4 := h4
  obtain ⟨a4, e4, w4⟩ : ∃ a : Rect, C4.toList = Rect.vals a ∧ Rect.wf a := by obtain ⟨_, hf⟩ := h4; exact open_Rect hf
  obtain rfl : C4 = (Rect.vals a4).toArray := by rw [← e4]
  have lt4 : ∀ x ∈ p4, x.block < W.heap.size := by obtain ⟨m, hm⟩ := k4; exact DataW.trod_lt m _ _ _ hm
  clear hA0 hval0 hsz0
  obtain ⟨n, hn⟩ := watchTurns_pure a0 a1 a2 a3 a4 w0 w1 w2 w3 w4
  refine ((D_meets Try.checked.mixed).law (F13_ok n a0 a1 a2 a3 a4 true hn) (I := fun b => b < W.heap.size) (.cons (argVal rfl) (.cons (argVal rfl) (.cons (argVal rfl) (.cons (argAgg _ (Rect.one _)) (.cons (argAgg _ (Rect.one _)) (.nil)))))) (fun _ h => h)).mono fun e W' ⟨he, bel⟩ => ?_
  subst he
  exact ⟨_, rfl, _, _, _, [], _, [], hW', trodAll_mk1 (shut_bool Try.underlying4 _), (trodAll_cons_mk (shut_int Try.underlying5 w0) (trodAll_cons_mk (shut_int Try.underlying5 w1) (trodAll_cons_mk (shut_int Try.underlying5 w2) (trodAll_cons_mk (Below.trod laidOut (by kernel_rfl) (of_decide_eq_true (by kernel_rfl)) k3 bel lt3) (trodAll_cons_mk (Below.trod laidOut (by kernel_rfl) (of_decide_eq_true (by kernel_rfl)) k4 bel lt4) trodAll_mk0))))), rfl, bel.frame _, fun h => by cases h⟩
theorem over : Rows.watchTurnsRow.holds Try.pinned (OpenSpec.ofChange Rows.watchTurnsSpec) :=
  OpenClaim.holds_of_wide 13 Try.f13 rfl rfl rfl rfl rfl rfl rfl ⟨rfl, rfl, rfl, rfl, rfl⟩ rfl rfl rfl rfl rfl (by kernel_rfl) Try.func13 (by kernel_rfl)
    (of_decide_eq_true (by kernel_rfl)) (by unfold Func.isWrapper; first | (rw [if_pos (by decide +kernel)]; kernel_rfl) | (rw [if_neg (by decide +kernel)]; exact ⟨rfl, rfl⟩))
    (fun os started H enc _ => lifted os started H enc)
theorem proved : Rows.WatchTurnsSaid := over
end Go.Proofs.Ytajfdeeepklfoaa.watchTurns
namespace Go.Proofs.Ytajfdeeepklfoaa
/-- The row, under a short name, for the claim. -/
theorem watchTurns_holds : Rows.WatchTurnsSaid := watchTurns.proved
#print axioms watchTurns_holds
end Go.Proofs.Ytajfdeeepklfoaa
