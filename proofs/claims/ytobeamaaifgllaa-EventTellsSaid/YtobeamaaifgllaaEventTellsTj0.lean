/-
  Things: which are any, their bytes, rows of them. No condition.
-/
import Derived.Test.YtobeamaaifgllaaEventTellsTc0
import Derived.Test.YtobeamaaifgllaaEventTellsP1
namespace Go.Proofs.Ytobeamaaifgllaa
open Go Go.Rx
set_option maxRecDepth 100000
set_option linter.unusedSimpArgs false
set_option linter.unnecessarySimpa false
set_option linter.unusedVariables false
theorem ixg {α : Type} (l : List α) (i : Nat) (h : i < l.length) : ix l (i : Int) = some l[i] := by
  simp [ix, h]
theorem dsucc {i : Nat} (h : i < maxLen) : IntKind.wrap .i64 ((i : Int) + 1) = ((i + 1 : Nat) : Int) := by
  simp only [maxLen] at h
  simp [IntKind.wrap, IntKind.bits, IntKind.signed]; omega
theorem lt_dec {i n : Nat} (h : i < n) : decide ((i : Int) < (n : Int)) = true := by simp; omega
theorem ge_dec {i n : Nat} (h : ¬ i < n) : decide ((i : Int) < (n : Int)) = false := by simp; omega
theorem dropS {α : Type} (l : List α) (i : Nat) (h : i < l.length) : l.drop i = l[i] :: l.drop (i + 1) := (List.getElem_cons_drop (h := h)).symm
def isTh (t : Thing) : Bool := decide (0 ≤ t.ID) && (decide (t.ID ≤ 1000000) && (on t.At && (isF t.F.a0 && (isF t.F.a1 && (isF t.F.a2 && isF t.F.a3)))))
theorem not_eq (n : Nat) (f : Field) : F69 n f = some (!(isF f)) := by
  unfold F69
  simp only [isF_eq, Option.bind_some]
theorem is_eq (n : Nat) (t : Thing) : F24 n t = some (isTh t) := by
  have hz : ∀ a b c d : Field, F68s0 n [a, b, c, d] = some (!(isF a && (isF b && (isF c && isF d)))) := by
    intro a b c d
    unfold F68s0 F103s0
    unfold F103s0_l4
    have w1 : IntKind.wrap .i64 ((0 : Int) + 1) = 1 := by decide
    have w2 : IntKind.wrap .i64 ((1 : Int) + 1) = 2 := by decide
    have w3 : IntKind.wrap .i64 ((2 : Int) + 1) = 3 := by decide
    have w4 : IntKind.wrap .i64 ((3 : Int) + 1) = 4 := by decide
    have x0 : ix [a, b, c, d] 0 = some a := rfl
    have x1 : ix [a, b, c, d] 1 = some b := rfl
    have x2 : ix [a, b, c, d] 2 = some c := rfl
    have x3 : ix [a, b, c, d] 3 = some d := rfl
    have l0 : decide ((0 : Int) < (([a, b, c, d] : List Field).length : Int)) = true := rfl
    have l1 : decide ((1 : Int) < (([a, b, c, d] : List Field).length : Int)) = true := rfl
    have l2 : decide ((2 : Int) < (([a, b, c, d] : List Field).length : Int)) = true := rfl
    have l3 : decide ((3 : Int) < (([a, b, c, d] : List Field).length : Int)) = true := rfl
    have l4 : decide ((4 : Int) < (([a, b, c, d] : List Field).length : Int)) = false := rfl
    rw [if_pos l0, x0]
    simp only [Option.bind_some, not_eq]
    cases isF a with
    | false => rfl
    | true =>
      simp only [Bool.not_true, Bool.false_eq_true, if_false, Bool.true_and]
      rw [w1]
      unfold F103s0_l4
      rw [if_pos l1, x1]
      simp only [Option.bind_some, not_eq]
      cases isF b with
      | false => rfl
      | true =>
        simp only [Bool.not_true, Bool.false_eq_true, if_false, Bool.true_and]
        rw [w2]
        unfold F103s0_l4
        rw [if_pos l2, x2]
        simp only [Option.bind_some, not_eq]
        cases isF c with
        | false => rfl
        | true =>
          simp only [Bool.not_true, Bool.false_eq_true, if_false, Bool.true_and]
          rw [w3]
          unfold F103s0_l4
          rw [if_pos l3, x3]
          simp only [Option.bind_some, not_eq]
          cases isF d with
          | false => rfl
          | true =>
            simp only [Bool.not_true, Bool.false_eq_true, if_false]
            rw [w4]
            unfold F103s0_l4
            rw [if_neg (by rw [l4]; decide)]
            rfl
  unfold F24 isTh
  rw [hz]
  simp only [on_eq, Option.bind_some, Bool.not_not]
  by_cases h1 : 0 ≤ t.ID
  · by_cases h2 : t.ID ≤ 1000000
    · cases h3 : on t.At <;> simp [h1, h2]
    · simp [h1, h2]
  · simp [h1]
theorem ris_eq (n : Nat) (t : Thing) : F18 n t = some (isTh t) := by
  have k15 : ∀ b, F18_u15 n b = some b := fun b => rfl
  have k12 : ∀ b, F18_u12 n t b = some (b && isF t.F.a3) := fun b => by
    unfold F18_u12; cases b <;> simp only [risF_eq, Option.bind_some, k15, if_true, if_false, Bool.false_eq_true, Bool.true_and, Bool.false_and]
  have k9 : ∀ b, F18_u9 n t b = some (b && (isF t.F.a2 && isF t.F.a3)) := fun b => by
    unfold F18_u9; cases b <;> simp only [risF_eq, Option.bind_some, k12, if_true, if_false, Bool.false_eq_true, Bool.true_and, Bool.false_and]
  have k6 : ∀ b, F18_u6 n t b = some (b && (isF t.F.a1 && (isF t.F.a2 && isF t.F.a3))) := fun b => by
    unfold F18_u6; cases b <;> simp only [risF_eq, Option.bind_some, k9, if_true, if_false, Bool.false_eq_true, Bool.true_and, Bool.false_and]
  have k3 : ∀ b, F18_j3 n t b = some (b && (isF t.F.a0 && (isF t.F.a1 && (isF t.F.a2 && isF t.F.a3)))) := fun b => by
    unfold F18_j3; cases b <;> simp only [risF_eq, Option.bind_some, k6, if_true, if_false, Bool.false_eq_true, Bool.true_and, Bool.false_and]
  unfold F18 isTh
  simp only [ron_eq, Option.bind_some, k3]
  by_cases h1 : 0 ≤ t.ID
  · by_cases h2 : t.ID ≤ 1000000
    · simp [h1, h2]
    · simp [h1, h2]
  · simp [h1]
def full (t : Thing) : Delta := ⟨t.ID, 31, t.At, t.F⟩
theorem full_eq (n : Nat) (t : Thing) : F20 n t = some (full t) := rfl
theorem text_few {f : Field} (h : isF f = true) : f.Text.size ≤ 12 := by
  unfold isF at h
  split at h
  · simp at h; omega
  · split at h
    · simp at h; omega
    · cases h
theorem isTh_F {t : Thing} (h : isTh t = true) : isF t.F.a0 = true ∧ isF t.F.a1 = true ∧ isF t.F.a2 = true ∧ isF t.F.a3 = true := by
  unfold isTh at h
  simp only [Bool.and_eq_true] at h
  exact ⟨h.2.2.2.1, h.2.2.2.2.1, h.2.2.2.2.2.1, h.2.2.2.2.2.2⟩
theorem isTh_few {t : Thing} (h : isTh t = true) : Few (full t) := by
  obtain ⟨h0, h1, h2, h3⟩ := isTh_F h
  have := text_few h0; have := text_few h1; have := text_few h2; have := text_few h3
  refine ⟨?_, ?_, ?_, ?_⟩ <;> (unfold full; simp only; omega)
theorem full_is (t : Thing) : isD (full t) = isTh t := by
  have b1 : hs 31 1 = true := by decide +kernel
  have b2 : hs 31 2 = true := by decide +kernel
  have b3 : hs 31 3 = true := by decide +kernel
  have b4 : hs 31 4 = true := by decide +kernel
  have c1 : a1 (full t) = true := by show ((bitsI .and .u8 31 1) != 0) = true; decide +kernel
  unfold isD isTh fl4 okF
  have e : (full t).Mask = 31 := rfl
  rw [c1, e, b1, b2, b3, b4]
  have f1 : (!((31 : Int) == 0)) = true := rfl
  have f2 : (!(decide ((31 : Int) < 31))) = true := rfl
  rw [f1, f2]
  simp only [Bool.true_and, Bool.true_or, Bool.and_true]
  show (!(decide (t.ID < 0)) && (!(decide (1000000 < t.ID)) && (on t.At && (isF t.F.a0 && (isF t.F.a1 && (isF t.F.a2 && isF t.F.a3)))))) = _
  have g1 : (!(decide (t.ID < 0))) = decide (0 ≤ t.ID) := by by_cases h : t.ID < 0 <;> simp [h] <;> omega
  have g2 : (!(decide (1000000 < t.ID))) = decide (t.ID ≤ 1000000) := by by_cases h : 1000000 < t.ID <;> simp [h] <;> omega
  rw [g1, g2]
end Go.Proofs.Ytobeamaaifgllaa
