/-
  EventSpoils, in plain Lean. No condition.
-/
import Derived.Test.YtobeamaaifgllaaEventSpoilsEb
import Derived.Test.YtobeamaaifgllaaEventSpoilsEc
import Derived.Test.YtobeamaaifgllaaEventSpoilsEw
import Derived.Test.YtobeamaaifgllaaEventSpoilsP0
namespace Go.Proofs.Ytobeamaaifgllaa
open Go Go.Rx
set_option maxRecDepth 100000
set_option linter.unusedSimpArgs false
set_option linter.unnecessarySimpa false
set_option linter.unusedVariables false
theorem spoil {n : Nat} (hn : 10 ≤ n) (t : Thing) (k i x m : Int) (ht : isTh t = true)
    (h : isEv ⟨k, i, ⟨t.ID, ⟨x, t.At.Y⟩, t.F⟩, ⟨0, m, ⟨0, 0⟩, ⟨noF, noF, noF, noF⟩⟩⟩ = false) : F13_j8 n t k i x m = some true := by
  have h1 : isEv ⟨1, t.ID, t, noD⟩ = true := by
    unfold isEv
    simp [ht, Delta.eqb_refl]
  unfold F13_j8
  rw [evs_bytes hn (by simp) (by simp; omega), Option.bind_some, step_eq (by unfold Ris; simp) (by simp) (by simp), Option.bind_some, ev_is, ev_is]
  have e1 : isEv (Event.mk 1 t.ID t (Delta.mk 0 0 (Point.mk 0 0) (A4.mk (Field.mk 0 ByteArray.empty) (Field.mk 0 ByteArray.empty) (Field.mk 0 ByteArray.empty) (Field.mk 0 ByteArray.empty)))) = true := h1
  have e2 : isEv (Event.mk k i (Thing.mk t.ID (Point.mk x t.At.Y) t.F) (Delta.mk 0 m (Point.mk 0 0) (A4.mk (Field.mk 0 ByteArray.empty) (Field.mk 0 ByteArray.empty) (Field.mk 0 ByteArray.empty) (Field.mk 0 ByteArray.empty)))) = false := h
  simp only [Option.bind_some, evsB, stp, e1, e2, List.all_cons, List.all_nil, Bool.and_true, Bool.and_false, Bool.false_and, if_true, Bool.not_false]
  rfl
theorem eventSpoils_pure (a0 : Thing) (a1 : Int) (_ : Thing.wf a0) (_ : (Lit.int .u8 a1).wf = true) : ∃ n, F13 n a0 a1 = some true := by
  refine ⟨100, ?_⟩
  unfold F13
  simp only [Option.bind_some, Bool.not_true, Bool.false_eq_true, if_false, fewU_eq, ris_eq]
  cases fewU a0 with
  | false => rfl
  | true =>
    cases ht : isTh a0 with
    | false => rfl
    | true =>
      simp only [Bool.not_true, Bool.false_eq_true, if_false]
      split
      · rfl
      · rename_i h0
        have hne : a0.ID ≠ 0 := by simpa using h0
        have ht' := ht
        simp only [isTh, Bool.and_eq_true, decide_eq_true_eq] at ht'
        have hw : IntKind.wrap .i64 (a0.ID - 1) = a0.ID - 1 := by simp [IntKind.wrap, IntKind.bits, IntKind.signed]; omega
        repeat' split
        · refine spoil (by omega) a0 _ _ _ _ ht ?_
          unfold isEv
          rw [hw]
          have : (a0.ID - 1 == a0.ID) = false := by simp; omega
          simp [this]
        · refine spoil (by omega) a0 _ _ _ _ ht ?_
          rfl
        · refine spoil (by omega) a0 _ _ _ _ ht ?_
          have : Thing.eqb ⟨a0.ID, ⟨a0.At.X, a0.At.Y⟩, a0.F⟩ noT = false := by
            rw [Bool.eq_false_iff]; intro h; rw [Thing.eqb_iff] at h; exact hne (congrArg Thing.ID h)
          unfold isEv
          simp [this]
        · refine spoil (by omega) a0 _ _ _ _ ht ?_
          have : Delta.eqb ⟨0, 1, ⟨0, 0⟩, ⟨noF, noF, noF, noF⟩⟩ noD = false := by decide +kernel
          unfold isEv
          simp [this]
        · refine spoil (by omega) a0 _ _ _ _ ht ?_
          have : isTh ⟨a0.ID, ⟨-1, a0.At.Y⟩, a0.F⟩ = false := by
            simp [isTh, on]
          unfold isEv
          simp [this]
end Go.Proofs.Ytobeamaaifgllaa
