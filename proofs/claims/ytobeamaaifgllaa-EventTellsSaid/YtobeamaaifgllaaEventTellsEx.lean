/-
  What the laws of events let in: rows. No condition.
-/
import Derived.Test.YtobeamaaifgllaaEventTellsEw
import Derived.Test.YtobeamaaifgllaaEventTellsEc
import Derived.Test.YtobeamaaifgllaaEventTellsP1
namespace Go.Proofs.Ytobeamaaifgllaa
open Go Go.Rx
set_option maxRecDepth 100000
set_option linter.unusedSimpArgs false
set_option linter.unnecessarySimpa false
set_option linter.unusedVariables false
theorem fewsU_l (n : Nat) (l : List Thing) (hl : l.length ≤ maxLen) : ∀ (m i : Nat), i ≤ l.length → l.length - i < m → F43_l4 n l m (i : Int) = some ((l.drop i).all fewU && decide ((l.length : Int) ≤ 30))
  | 0, i, _, h => by omega
  | m + 1, i, hi, h => by
    unfold F43_l4
    by_cases hlt : i < l.length
    · rw [if_pos (lt_dec hlt), ixg l i hlt, dropS l i hlt, List.all_cons]
      simp only [Option.bind_some, fewU_eq]
      cases fewU l[i] with
      | false => simp
      | true =>
        simp only [Bool.not_true, Bool.false_eq_true, if_false, Bool.true_and]
        rw [dsucc (by omega)]
        exact fewsU_l n l hl m (i + 1) (by omega) (by omega)
    · have : i = l.length := by omega
      subst this
      rw [if_neg (by rw [ge_dec (by omega)]; decide), List.drop_length]
      rfl
theorem fewsU {n : Nat} {l : List Thing} (hl : l.length ≤ maxLen) (hn : l.length ≤ n) : ∃ b, F43 n l = some b ∧ (b = true → l.length ≤ 30) := by
  have := fewsU_l n l hl (n + 8) 0 (by omega) (by omega)
  refine ⟨_, this, fun h => ?_⟩
  simp only [Bool.and_eq_true, decide_eq_true_eq] at h
  omega
theorem pred_w' {i : Nat} (h : i + 1 < maxLen) : IntKind.wrap .i64 (((i + 1 : Nat) : Int) - 1) = (i : Int) := by
  simp only [maxLen] at h
  simp [IntKind.wrap, IntKind.bits, IntKind.signed]; omega
theorem rising_l (n : Nat) (l : List Thing) (hl : l.length ≤ maxLen) : ∀ (m i : Nat), i ≤ l.length → l.length - i < m → (∀ t ∈ l.take i, isTh t = true) → Ris (l.take i) →
    ∃ b, F45_l4 n l m (i : Int) = some b ∧ (b = true ↔ (∀ t ∈ l, isTh t = true) ∧ Ris l)
  | 0, i, _, h, _, _ => by omega
  | m + 1, i, hi, h, hT, hR => by
    unfold F45_l4
    by_cases hlt : i < l.length
    · rw [if_pos (lt_dec hlt), ixg l i hlt]
      simp only [Option.bind_some, ris_eq]
      have hmem : l[i] ∈ l := List.getElem_mem hlt
      have htk : l.take (i + 1) = l.take i ++ [l[i]] := (List.take_append_getElem hlt).symm
      cases hE : isTh l[i] with
      | false => exact ⟨false, rfl, by simp; intro h0; have := h0 _ hmem; rw [hE] at this; cases this⟩
      | true =>
        have hT' : ∀ t ∈ l.take (i + 1), isTh t = true := by
          intro t ht
          rw [htk, List.mem_append, List.mem_singleton] at ht
          rcases ht with ht | rfl
          · exact hT t ht
          · exact hE
        simp only [Bool.not_true, Bool.false_eq_true, if_false]
        cases i with
        | zero =>
          rw [if_neg (by decide), dsucc (by simp only [maxLen]; decide)]
          exact rising_l n l hl m 1 (by omega) (by omega) hT' (by rw [htk, List.take_zero]; exact List.pairwise_singleton _ _)
        | succ i =>
          rw [if_pos (by simp), pred_w' (by omega), ixg l i (by omega)]
          simp only [Option.bind_some]
          by_cases hx : l[i + 1].ID ≤ l[i].ID
          · rw [if_pos (decide_eq_true hx)]
            refine ⟨false, rfl, ⟨fun h => (by cases h), fun h0 => ?_⟩⟩
            have := List.pairwise_iff_getElem.1 h0.2 i (i + 1) (by omega) hlt (by omega)
            omega
          · rw [if_neg (by simp; omega), dsucc (by omega)]
            refine rising_l n l hl m (i + 1 + 1) (by omega) (by omega) hT' ?_
            rw [htk]
            unfold Ris
            rw [List.pairwise_append]
            refine ⟨hR, List.pairwise_singleton _ _, ?_⟩
            intro a ha b hb
            rw [List.mem_singleton] at hb
            subst hb
            have hti : l.take (i + 1) = l.take i ++ [l[i]] := (List.take_append_getElem (by omega)).symm
            unfold Ris at hR
            rw [hti] at ha hR
            rw [List.mem_append, List.mem_singleton] at ha
            rcases ha with ha | rfl
            · have := (List.pairwise_append.1 hR).2.2 a ha l[i] (by simp)
              omega
            · omega
    · have : i = l.length := by omega
      subst this
      rw [if_neg (by rw [ge_dec (by omega)]; decide)]
      rw [List.take_length] at hT hR
      exact ⟨true, rfl, by simp; exact ⟨hT, hR⟩⟩
theorem rising_eq {n : Nat} {l : List Thing} (hl : l.length ≤ maxLen) (hn : l.length ≤ n) : ∃ b, F45 n l = some b ∧ (b = true ↔ (∀ t ∈ l, isTh t = true) ∧ Ris l) :=
  rising_l n l hl (n + 8) 0 (by omega) (by omega) (by simp) (by unfold Ris; simp)
theorem fewE_l (n : Nat) (l : List Event) (hl : l.length ≤ maxLen) : ∀ (m i : Nat), i ≤ l.length → l.length - i < m → ∃ b, F44_l4 n l m (i : Int) = some b ∧ (b = true → l.length ≤ 30)
  | 0, i, _, h => by omega
  | m + 1, i, hi, h => by
    unfold F44_l4
    by_cases hlt : i < l.length
    · rw [if_pos (lt_dec hlt), ixg l i hlt]
      simp only [Option.bind_some, fewU_eq]
      split
      · exact ⟨false, rfl, fun h => (by cases h)⟩
      · split
        · exact ⟨false, rfl, fun h => (by cases h)⟩
        · rw [dsucc (by omega)]
          exact fewE_l n l hl m (i + 1) (by omega) (by omega)
    · rw [if_neg (by rw [ge_dec hlt]; decide)]
      exact ⟨_, rfl, fun h => by simp at h; omega⟩
theorem fewE {n : Nat} {l : List Event} (hl : l.length ≤ maxLen) (hn : l.length ≤ n) : ∃ b, F44 n l = some b ∧ (b = true → l.length ≤ 30) :=
  fewE_l n l hl (n + 8) 0 (by omega) (by omega)
theorem sameAll_l (n : Nat) (l : List Thing) (hl : l.length ≤ 100000) : ∀ (m i : Nat), i ≤ l.length → l.length - i < m → F34_l4 n l l m (i : Int) = some true
  | 0, i, _, h => by omega
  | m + 1, i, hi, h => by
    unfold F34_l4
    by_cases hlt : i < l.length
    · rw [if_pos (lt_dec hlt), ixg l i hlt]
      simp only [Option.bind_some, Thing.eqb_refl, Bool.not_true, Bool.false_eq_true, if_false]
      rw [dsucc (by simp only [maxLen]; omega)]
      exact sameAll_l n l hl m (i + 1) (by omega) (by omega)
    · rw [if_neg (by rw [ge_dec hlt]; decide)]
theorem sameAll {n : Nat} {l : List Thing} (hl : l.length ≤ 100000) (hn : l.length ≤ n) : F34 n l l = some true := by
  unfold F34
  rw [if_neg (by simp)]
  exact sameAll_l n l hl (n + 8) 0 (by omega) (by omega)
end Go.Proofs.Ytobeamaaifgllaa
