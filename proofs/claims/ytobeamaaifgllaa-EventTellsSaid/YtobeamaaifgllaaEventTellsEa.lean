/-
  Events: which are any. No condition.
-/
import Derived.Test.YtobeamaaifgllaaEventTellsTj0
import Derived.Test.YtobeamaaifgllaaEventTellsP1
namespace Go.Proofs.Ytobeamaaifgllaa
open Go Go.Rx
set_option maxRecDepth 100000
set_option linter.unusedSimpArgs false
set_option linter.unnecessarySimpa false
set_option linter.unusedVariables false

def noT : Thing := ⟨0, ⟨0, 0⟩, ⟨noF, noF, noF, noF⟩⟩
def noD : Delta := ⟨0, 0, ⟨0, 0⟩, ⟨noF, noF, noF, noF⟩⟩
theorem Event.eqb_iff (x y : Event) : Event.eqb x y = true ↔ x = y := by
  cases x; cases y; simp [Event.eqb, Thing.eqb_iff, Delta.eqb_iff]
theorem Event.eqb_refl (x : Event) : Event.eqb x x = true := (Event.eqb_iff x x).2 rfl
theorem Delta.eqb_refl (x : Delta) : Delta.eqb x x = true := (Delta.eqb_iff x x).2 rfl
def isEv (e : Event) : Bool :=
  if e.Kind == 1 then isTh e.Thing && (e.ID == e.Thing.ID && Delta.eqb e.Delta noD)
  else if e.Kind == 2 then isD e.Delta && (e.ID == e.Delta.ID && Thing.eqb e.Thing noT)
  else if e.Kind == 3 then decide (0 ≤ e.ID) && (decide (e.ID ≤ 1000000) && (Thing.eqb e.Thing noT && Delta.eqb e.Delta noD))
  else false
theorem noT_is : Thing.mk 0 (Point.mk 0 0) (A4.mk (Field.mk 0 ByteArray.empty) (Field.mk 0 ByteArray.empty) (Field.mk 0 ByteArray.empty) (Field.mk 0 ByteArray.empty)) = noT := rfl
theorem noD_is : Delta.mk 0 0 (Point.mk 0 0) (A4.mk (Field.mk 0 ByteArray.empty) (Field.mk 0 ByteArray.empty) (Field.mk 0 ByteArray.empty) (Field.mk 0 ByteArray.empty)) = noD := rfl
theorem ite_bool (a b : Bool) : (if a = true then some b else some false) = some (a && b) := by cases a <;> rfl
theorem ev_is (n : Nat) (e : Event) : F39 n e = some (isEv e) := by
  unfold F39 isEv
  simp only [is_eq, isD_eq, Option.bind_some, ite_bool]
  by_cases h1 : (e.Kind == 1) = true
  · rw [if_pos h1, if_pos h1]; rfl
  · rw [if_neg h1, if_neg h1]
    by_cases h2 : (e.Kind == 2) = true
    · rw [if_pos h2, if_pos h2]; rfl
    · rw [if_neg h2, if_neg h2]
      by_cases h3 : (e.Kind == 3) = true
      · rw [if_pos h3, h3, Bool.true_and]; rfl
      · have h4 : (e.Kind == 3) = false := by simpa using h3
        rw [if_neg h3, h4, Bool.false_and]
theorem rev_is (n : Nat) (e : Event) (hw : (Lit.int .u8 e.Delta.Mask).wf = true) : F53 n e = some (isEv e) := by
  unfold F53 isEv
  simp only [ris_eq, risD_eq n e.Delta hw, Option.bind_some, ite_bool]
  by_cases h1 : (e.Kind == 1) = true
  · rw [if_pos h1, if_pos h1]; rfl
  · rw [if_neg h1, if_neg h1]
    by_cases h2 : (e.Kind == 2) = true
    · rw [if_pos h2, if_pos h2]; rfl
    · rw [if_neg h2, if_neg h2]
      by_cases h3 : (e.Kind == 3) = true
      · rw [if_pos h3, h3, Bool.true_and]; rfl
      · have h4 : (e.Kind == 3) = false := by simpa using h3
        rw [if_neg h3, h4, Bool.false_and]
end Go.Proofs.Ytobeamaaifgllaa
