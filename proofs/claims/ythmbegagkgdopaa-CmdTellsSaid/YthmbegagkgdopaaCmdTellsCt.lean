/-
  CmdTells: what the functions compute answers as the statement says, in plain Lean. No condition.
-/
import Derived.Test.YthmbegagkgdopaaCmdTellsCr
import Derived.Test.YthmbegagkgdopaaCmdTellsP2
namespace Go.Proofs.Ythmbegagkgdopaa
open Go Go.Rx
set_option maxRecDepth 100000
set_option linter.unusedSimpArgs false
set_option linter.unnecessarySimpa false
set_option linter.unusedVariables false

theorem fewT (n : Nat) (c : Command) : ∃ b, F33 n c = some b := by
  unfold F33
  split
  · exact ⟨_, rfl⟩
  · split
    · exact ⟨_, rfl⟩
    · split
      · exact ⟨_, rfl⟩
      · split <;> exact ⟨_, rfl⟩
theorem cmdTells_pure (a0 : Command) (a1 : Command) (_ : Command.wf a0) (_ : Command.wf a1) : ∃ n, F9 n a0 a1 = some true := by
  refine ⟨100, ?_⟩
  obtain ⟨b1, h1⟩ := fewT 100 a0
  obtain ⟨b2, h2⟩ := fewT 100 a1
  unfold F9
  simp only [Option.bind_some, Bool.not_true, Bool.false_eq_true, if_false, h1, h2, isC_eq, ris_eq, watches_eq, rwatches_eq, beq_self_eq_true, if_true]
  cases b1 with
  | false => rfl
  | true =>
    cases b2 with
    | false => rfl
    | true =>
      have hs : F39 100 a0 a1 = some (Command.eqb a0 a1) := rfl
      simp only [Bool.not_true, Bool.false_eq_true, if_false, hs, Option.bind_some, beq_self_eq_true, if_true]
      cases hc : isC a0 with
      | false =>
        rw [bytes_no hc]
        simp only [Option.bind_some, beq_self_eq_true, if_true]
        rfl
      | true =>
        rw [bytes_is (by omega) hc]
        have := byC_size (isC_in hc)
        simp only [Option.bind_some, beq_self_eq_true, if_true]
        rw [decide_eq_true (by omega)]
end Go.Proofs.Ythmbegagkgdopaa
