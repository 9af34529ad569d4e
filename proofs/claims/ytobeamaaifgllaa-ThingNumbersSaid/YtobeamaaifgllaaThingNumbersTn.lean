/-
  ThingNumbers, in plain Lean. No condition.
-/
import Derived.Test.YtobeamaaifgllaaThingNumbersTc
import Derived.Test.YtobeamaaifgllaaThingNumbersP1
namespace Go.Proofs.Ytobeamaaifgllaa
open Go Go.Rx
set_option maxRecDepth 100000
set_option linter.unusedSimpArgs false
set_option linter.unnecessarySimpa false
set_option linter.unusedVariables false

theorem wr64 {n : Int} (h : -9223372036854775808 ≤ n) (h' : n ≤ 9223372036854775807) : IntKind.wrap .i64 n = n := by
  simp [IntKind.wrap, IntKind.bits, IntKind.signed]; omega
theorem imaxE (a b : Int) : imax a b = if a < b then b else a := by unfold imax; rfl
theorem number_eq (n : Nat) {s k : Int} (hs : 0 ≤ s ∧ s < 4) (hk : 0 ≤ k ∧ k < 200000) : F28 n s k = some (4 * k + s) := by
  unfold F28
  have e1 : imax k 0 = k := by simp only [imax]; split <;> omega
  have e2 : imin k 200000 = k := by simp only [imin]; split <;> omega
  have e3 : imax s 0 = s := by simp only [imax]; split <;> omega
  have e4 : imin s 3 = s := by simp only [imin]; split <;> omega
  rw [e1, e2, e3, e4, wr64 (n := 4 * k) (by omega) (by omega), wr64 (by omega) (by omega)]
theorem server_eq (n : Nat) {x : Int} (h : 0 ≤ x) : F26 n x = some (x % 4) := by
  unfold F26
  have e : imax x 0 = x := by simp only [imax]; split <;> omega
  rw [e, Int.tmod_eq_emod_of_nonneg h]
theorem thingNumbers_pure (a0 a1 a2 a3 : Int) (w0 : (Lit.int .u8 a0).wf = true) (w1 : (Lit.int .u8 a1).wf = true) (w2 : (Lit.int .u16 a2).wf = true) (w3 : (Lit.int .u16 a3).wf = true) : ∃ n, F6 n a0 a1 a2 a3 = some true := by
  refine ⟨0, ?_⟩
  have b0 := bounds_u8 w0
  have b1 := bounds_u8 w1
  have b2 := bounds_u16 w2
  have b3 := bounds_u16 w3
  have t0 : IntKind.wrap .i64 (Int.tmod a0 4) = a0 % 4 := by rw [Int.tmod_eq_emod_of_nonneg (by omega), wr64 (by omega) (by omega)]
  have t1 : IntKind.wrap .i64 (Int.tmod a1 4) = a1 % 4 := by rw [Int.tmod_eq_emod_of_nonneg (by omega), wr64 (by omega) (by omega)]
  unfold F6
  rw [t0, t1, wr64 (n := a2) (by omega) (by omega), wr64 (n := a3) (by omega) (by omega)]
  simp only [Option.bind_some, Bool.not_true, Bool.false_eq_true, if_false]
  rw [number_eq 0 (s := a0 % 4) (by omega) (by omega), number_eq 0 (s := a1 % 4) (by omega) (by omega)]
  simp only [Option.bind_some]
  rw [server_eq 0 (by omega), server_eq 0 (by omega)]
  simp only [Option.bind_some]
  have c0 : ((4 * a2 + a0 % 4) % 4 == a0 % 4) = true := by rw [beq_iff_eq]; omega
  have c1 : ((4 * a3 + a1 % 4) % 4 == a1 % 4) = true := by rw [beq_iff_eq]; omega
  simp only [c0, c1, if_true]
  by_cases h : a0 % 4 = a1 % 4
  · have e : ((4 * a2 + a0 % 4 == 4 * a3 + a1 % 4) == (a2 == a3)) = true := by
      by_cases h2 : a2 = a3
      · simp [h, h2]
      · have : ¬ (4 * a2 + a0 % 4 = 4 * a3 + a1 % 4) := by omega
        rw [beq_iff_eq, beq_eq_false_iff_ne.2 this, beq_eq_false_iff_ne.2 h2]
    simp only [h, beq_self_eq_true, if_true, bne_self_eq_false, Bool.false_eq_true, if_false]
    rw [h] at e
    simp only [e, if_true]
    by_cases h3 : a3 ≤ a2
    · simp [h3]
    · have : 4 * a2 + a1 % 4 < 4 * a3 + a1 % 4 := by omega
      simp [h3, this]
  · have e : (a0 % 4 == a1 % 4) = false := by simp [h]
    have e2 : (4 * a2 + a0 % 4 == 4 * a3 + a1 % 4) = false := by
      have : ¬ (4 * a2 + a0 % 4 = 4 * a3 + a1 % 4) := by omega
      simp [this]
    have e3 : (a0 % 4 != a1 % 4) = true := by simp [h]
    simp only [e, e2, e3, Bool.false_eq_true, if_false, if_true, beq_self_eq_true, ite_self]
end Go.Proofs.Ytobeamaaifgllaa
