/-
  ThingTells, in plain Lean. No condition.
-/
import Derived.Test.YtobeamaaifgllaaThingTellsTj
import Derived.Test.YtobeamaaifgllaaThingTellsP1
namespace Go.Proofs.Ytobeamaaifgllaa
open Go Go.Rx
set_option maxRecDepth 100000
set_option linter.unusedSimpArgs false
set_option linter.unnecessarySimpa false
set_option linter.unusedVariables false

theorem server2 (n : Nat) (x : Int) : F26 n x = F27 n x := by
  unfold F26 F27
  have : imax x 0 = imax 0 x := by simp only [imax]; split <;> split <;> omega
  rw [this]
theorem number2 (n : Nat) (s k : Int) : F28 n s k = F29 n s k := by
  unfold F28 F29
  have h1 : imin (imax k 0) 200000 = imax 0 (imin k 200000) := by
    simp only [imax, imin]
    repeat' split
    all_goals omega
  have h2 : imin (imax s 0) 3 = imax 0 (imin s 3) := by
    simp only [imax, imin]
    repeat' split
    all_goals omega
  rw [h1, h2]
theorem tells_j9 {n : Nat} (hn : 300 ≤ n) (t u : Thing) (l : List Thing) (a b : Int) : F3_j9 n t u l a b (if isTh t then tb t else ByteArray.empty) = some true := by
  unfold F3_j9
  have hs : ∃ x, F27 n a = some x := ⟨_, rfl⟩
  have hm : ∃ x, F29 n a b = some x := ⟨_, rfl⟩
  obtain ⟨x, hs⟩ := hs
  obtain ⟨y, hm⟩ := hm
  have hsame : F25 n t u = some (Thing.eqb t u) := rfl
  simp only [tbytes_eq (by omega : 10 ≤ n), all_eq hn, rall_eq hn, ris_eq, is_eq, server2, number2, hs, hm, hsame, Option.bind_some]
  cases h : isTh t with
  | true => simp
  | false => simp
theorem thingTells_pure (a0 a1 : Thing) (a2 : List Thing) (a3 a4 : Int) (_ : Thing.wf a0) (_ : Thing.wf a1) (h2 : (∀ x ∈ a2, Thing.wf x) ∧ a2.length ≤ maxLen) (_ : (Lit.int .i64 a3).wf = true) (_ : (Lit.int .i64 a4).wf = true) : ∃ n, F3 n a0 a1 a2 a3 a4 = some true := by
  refine ⟨a2.length + 1000, ?_⟩
  unfold F3
  have hj := tells_j9 (n := a2.length + 1000) (by omega) a0 a1 a2 a3 a4
  simp only [Option.bind_some, Bool.not_true, Bool.false_eq_true, if_false, few_eq, fews_eq a2 h2.2 (by omega : a2.length ≤ a2.length + 1000), ris_eq, full_eq]
  cases fewT a0 with
  | false => rfl
  | true =>
    cases fewT a1 with
    | false => rfl
    | true =>
      cases few a2 with
      | false => rfl
      | true =>
        simp only [Bool.not_true, Bool.false_eq_true, if_false]
        cases h : isTh a0 with
        | true =>
          rw [h] at hj
          simp only [if_true] at hj ⊢
          rw [rtb_eq (by omega) h]
          exact hj
        | false =>
          rw [h] at hj
          simp only [Bool.false_eq_true, if_false] at hj ⊢
          exact hj
end Go.Proofs.Ytobeamaaifgllaa
