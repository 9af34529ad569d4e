/-
  CmdSpoils: what the functions compute answers as the statement says, in plain Lean. No condition.
-/
import Derived.Test.YthmbegagkgdopaaCmdSpoilsCa
import Derived.Test.YthmbegagkgdopaaCmdSpoilsP2
namespace Go.Proofs.Ythmbegagkgdopaa
open Go Go.Rx
set_option maxRecDepth 100000
set_option linter.unusedSimpArgs false
set_option linter.unnecessarySimpa false
set_option linter.unusedVariables false

theorem fewS (n : Nat) (c : Command) : ∃ b, F33 n c = some b := by
  unfold F33
  split
  · exact ⟨_, rfl⟩
  · split
    · exact ⟨_, rfl⟩
    · split
      · exact ⟨_, rfl⟩
      · split <;> exact ⟨_, rfl⟩
theorem notC {c : Command} (h : ¬ InC c) : isC c = false := by
  cases e : isC c with
  | false => rfl
  | true => exact absurd (isC_in e) h
theorem spoil {n : Nat} {a : Command} {k i t c s : Int} (ha : isC a = true) (h : ¬ InC (Command.mk k i a.Which t a.At a.F a.Value c s a.Rect)) : F12_j9 n a k i t c s = some true := by
  have e := notC h
  unfold F12_j9
  rw [bytes_no e, Option.bind_some, isC_eq, Option.bind_some, e]
  have ne : Command.eqb a (Command.mk k i a.Which t a.At a.F a.Value c s a.Rect) = false := by
    cases q : Command.eqb a (Command.mk k i a.Which t a.At a.F a.Value c s a.Rect) with
    | false => rfl
    | true =>
      rw [← (Command.eqb_iff _ _).1 q, ha] at e
      cases e
  have hs : ∀ x y, F39 n x y = some (Command.eqb x y) := fun _ _ => rfl
  simp only [hs, ne, Option.bind_some]
  rfl
theorem cmdSpoils_pure (a0 : Command) (a1 : Int) (_ : Command.wf a0) (_ : (Lit.int .u8 a1).wf = true) : ∃ n, F12 n a0 a1 = some true := by
  refine ⟨100, ?_⟩
  obtain ⟨b1, h1⟩ := fewS 100 a0
  unfold F12
  simp only [Option.bind_some, Bool.not_true, Bool.false_eq_true, if_false, h1, isC_eq]
  cases b1 with
  | false => rfl
  | true =>
    cases hc : isC a0 with
    | false => rfl
    | true =>
      simp only [Bool.not_true, Bool.false_eq_true, if_false]
      split
      · exact spoil hc (fun h => by have := h.kind; simp only at this; omega)
      · split
        · exact spoil hc (fun h => by have := h.kind; simp only at this; omega)
        · split
          · exact spoil hc (fun h => by have := h.client; simp only at this; omega)
          · split
            · exact spoil hc (fun h => by have := h.sess; simp only at this; omega)
            · split
              · exact spoil hc (fun h => by have := h.to; simp only at this; omega)
              · exact spoil hc (fun h => by have := h.id; simp only at this; omega)
end Go.Proofs.Ythmbegagkgdopaa
