/-
  Reading things, and rows of them: both ways alike; ThingReads. No condition.
-/
import Derived.Test.YtobeamaaifgllaaEventReadsTi
import Derived.Test.YtobeamaaifgllaaEventReadsTj0
import Derived.Test.YtobeamaaifgllaaEventReadsP1
namespace Go.Proofs.Ytobeamaaifgllaa
open Go Go.Rx
set_option maxRecDepth 100000
set_option linter.unusedSimpArgs false
set_option linter.unnecessarySimpa false
set_option linter.unusedVariables false
theorem zixg {α : Type} (l : List α) (i : Nat) (h : i < l.length) : ix l (i : Int) = some l[i] := by
  simp [ix, h]
theorem zsucc {i : Nat} (h : i < 100000) : IntKind.wrap .i64 ((i : Int) + 1) = ((i + 1 : Nat) : Int) := by
  simp [IntKind.wrap, IntKind.bits, IntKind.signed]; omega
theorem zsuccU {i : Nat} (h : i < 100000) : IntKind.wrap .u64 ((i : Int) + 1) = ((i + 1 : Nat) : Int) := by
  simp [IntKind.wrap, IntKind.bits, IntKind.signed]; omega
theorem zpred {i : Nat} (h : i + 1 < 100000) : IntKind.wrap .i64 (((i + 1 : Nat) : Int) - 1) = (i : Int) := by
  simp [IntKind.wrap, IntKind.bits, IntKind.signed]; omega
theorem readT {n : Nat} {s : ByteArray} (hs : s.size ≤ 100000) (hn : s.size ≤ n) : ∃ r, F30 n s = some r ∧ F31 n s = some r ∧ (r.2.2 = 0 → (0 ≤ r.2.1 ∧ r.2.1 ≤ (s.size : Int)) ∧ isTh r.1 = true) := by
  obtain ⟨r, q1, q2, hb⟩ := read_eq n s hs hn
  unfold F30 F31
  simp only [q1, q2, Option.bind_some]
  cases h : (r.2.2 != 0) with
  | true =>
    have : r.2.2 ≠ 0 := by simpa using h
    exact ⟨_, rfl, rfl, fun h0 => absurd h0 this⟩
  | false =>
    have : r.2.2 = 0 := by simpa using h
    simp only [Bool.false_eq_true, if_false]
    cases h2 : (r.1.Mask != 31) with
    | true => exact ⟨_, rfl, rfl, fun h0 => absurd h0 (show (11 : Int) ≠ 0 by decide)⟩
    | false =>
      simp only [Bool.false_eq_true, if_false]
      refine ⟨_, rfl, rfl, fun _ => ⟨(hb this).1, ?_⟩⟩
      have hm : r.1.Mask = 31 := by simpa using h2
      have hd := (hb this).2
      have e : full ⟨r.1.ID, r.1.At, r.1.F⟩ = r.1 := by
        show Delta.mk r.1.ID 31 r.1.At r.1.F = r.1
        rw [← hm]
      rw [← full_is, e]
      exact hd
end Go.Proofs.Ytobeamaaifgllaa
