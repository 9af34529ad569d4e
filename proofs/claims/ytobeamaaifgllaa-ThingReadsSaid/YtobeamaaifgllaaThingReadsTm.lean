/-
  Reading things, and rows of them: both ways alike; ThingReads. No condition.
-/
import Derived.Test.YtobeamaaifgllaaThingReadsTi
import Derived.Test.YtobeamaaifgllaaThingReadsP1
namespace Go.Proofs.Ytobeamaaifgllaa
open Go Go.Rx
set_option maxRecDepth 100000
set_option linter.unusedSimpArgs false
set_option linter.unnecessarySimpa false
set_option linter.unusedVariables false

theorem zixg {α : Type} (l : List α) (i : Nat) (h : i < l.length) : ix l (i : Int) = some l[i] := by
  simp [ix, h]
theorem zsucc {i : Nat} (h : i < 100000) : IntKind.wrap .i64 ((i : Int) + 1) = ((i + 1 : Nat) : Int) := by
  simp [IntKind.wrap, IntKind.bits, IntKind.signed]; omega
theorem zsuccU {i : Nat} (h : i < 100000) : IntKind.wrap .u64 ((i : Int) + 1) = ((i + 1 : Nat) : Int) := by
  simp [IntKind.wrap, IntKind.bits, IntKind.signed]; omega
theorem zpred {i : Nat} (h : i + 1 < 100000) : IntKind.wrap .i64 (((i + 1 : Nat) : Int) - 1) = (i : Int) := by
  simp [IntKind.wrap, IntKind.bits, IntKind.signed]; omega

theorem readT {n : Nat} {s : ByteArray} (hs : s.size ≤ 100000) (hn : s.size ≤ n) : ∃ r, F30 n s = some r ∧ F31 n s = some r ∧ (r.2.2 = 0 → 0 ≤ r.2.1 ∧ r.2.1 ≤ (s.size : Int)) := by
  obtain ⟨r, q1, q2, hb⟩ := read_eq n s hs hn
  unfold F30 F31
  simp only [q1, q2, Option.bind_some]
  cases h : (r.2.2 != 0) with
  | true =>
    have : r.2.2 ≠ 0 := by simpa using h
    exact ⟨_, rfl, rfl, fun h0 => absurd h0 this⟩
  | false =>
    have : r.2.2 = 0 := by simpa using h
    simp only [Bool.false_eq_true, if_false]
    cases h2 : (r.1.Mask != 31) with
    | true => exact ⟨_, rfl, rfl, fun h0 => absurd h0 (show (11 : Int) ≠ 0 by decide)⟩
    | false =>
      simp only [Bool.false_eq_true, if_false]
      exact ⟨_, rfl, rfl, fun _ => hb this⟩

theorem some_l {n : Nat} {s : ByteArray} (hs : s.size ≤ 100000) (hn : s.size ≤ n) (r1 : Int × Int × Int) (h0 : 0 ≤ r1.1) (h1 : r1.1 ≤ 200) : ∀ (m i : Nat) (a : Int) (l : List Thing), l.length = i → (i : Int) ≤ r1.1 → r1.1.toNat - i < m → 0 ≤ a → a ≤ (s.size : Int) →
    ∃ r, F32_l11 n s r1 m a l (i : Int) = some r ∧ F33_l11 n s r1 m a l (i : Int) = some r ∧ r.1.length ≤ 200
  | 0, i, a, l, _, _, h, _, _ => by omega
  | m + 1, i, a, l, hl, hi, hm, a0, a1 => by
    unfold F32_l11 F33_l11
    have w1 : IntKind.wrap .i64 r1.1 = r1.1 := w64 (by omega) (by omega)
    rw [w1]
    by_cases hlt : (i : Int) < r1.1
    · have z := ext_size s a a0 a1
      obtain ⟨r, q1, q2, hb⟩ := readT (n := n) (s := s.extract a.toNat s.size) (by omega) (by omega)
      have hc : 0 ≤ a ∧ a ≤ (s.size : Int) := ⟨a0, a1⟩
      rw [if_pos (decide_eq_true hlt), if_pos (decide_eq_true hlt), if_pos hc, if_pos hc]
      simp only [q1, q2, Option.bind_some]
      cases h : (r.2.2 != 0) with
      | true => exact ⟨_, rfl, rfl, by simp⟩
      | false =>
        have he : r.2.2 = 0 := by simpa using h
        obtain ⟨k0, k1⟩ := hb he
        have wa : IntKind.wrap .i64 (a + r.2.1) = a + r.2.1 := w64 (by omega) (by omega)
        have hcell : ((l.length) + 1) * 120 ≤ maxCells ∧ (l.length) + 1 ≤ maxCells := by simp only [maxCells]; omega
        obtain ⟨x, x1, x2, x3⟩ := some_l hs hn r1 h0 h1 m (i + 1) (a + r.2.1) (l ++ [r.1]) (by simp [hl]) (by omega) (by omega) (by omega) (by omega)
        have j1 : F32_j14 n a l (i : Int) r (F32_l11 n s r1 m) = some x := by
          unfold F32_j14
          rw [if_pos hcell, wa, zsuccU (by omega)]; exact x1
        have j2 : F33_j14 n a l (i : Int) r (F33_l11 n s r1 m) = some x := by
          unfold F33_j14
          rw [if_pos hcell, wa, zsucc (by omega)]; exact x2
        simp only [Bool.false_eq_true, if_false, hl]
        cases i with
        | zero =>
          have c : decide ((0 : Int) < ((0 : Nat) : Int)) = false := rfl
          simp only [c, Bool.false_eq_true, if_false]
          exact ⟨x, j1, j2, x3⟩
        | succ j =>
          have c : decide ((0 : Int) < ((j + 1 : Nat) : Int)) = true := by rw [decide_eq_true_eq]; omega
          have hj : j < l.length := by omega
          rw [if_pos c, if_pos c, zpred (by omega), zixg l j hj]
          simp only [Option.bind_some]
          by_cases hle : r.1.ID ≤ l[j].ID
          · simp only [hle, decide_true, if_true]
            exact ⟨_, rfl, rfl, by simp⟩
          · simp only [hle, decide_false, Bool.false_eq_true, if_false]
            exact ⟨x, j1, j2, x3⟩
    · rw [if_neg (by simp [hlt]), if_neg (by simp [hlt])]
      exact ⟨_, rfl, rfl, by simp only; omega⟩
theorem some_eq {n : Nat} {s : ByteArray} (hs : s.size ≤ 100000) (hn : s.size ≤ n) (hn2 : 300 ≤ n) : ∃ r, F32 n s = some r ∧ F33 n s = some r ∧ r.1.length ≤ 200 := by
  obtain ⟨r, q1, q2, q3⟩ := get_eq n s hs hn
  unfold F32 F33
  simp only [q1, q2, Option.bind_some]
  rcases q3 with ⟨e0, k1, k2, u0, u1⟩ | ⟨e0, t0, k0⟩
  · have hb : (r.2.2 != 0) = false := by simp [e0]
    simp only [hb, Bool.false_eq_true, if_false]
    by_cases c : 200 < r.1
    · simp only [c, decide_true, if_true]
      exact ⟨_, rfl, rfl, by simp⟩
    · simp only [c, decide_false, Bool.false_eq_true, if_false]
      have := some_l hs hn r u0 (by omega) (n + 8) 0 r.2.1 [] rfl u0 (by omega) (by omega) k2
      simpa using this
  · have hb : (r.2.2 != 0) = true := by simp [e0]
    simp only [hb, if_true]
    exact ⟨_, rfl, rfl, by simp⟩
theorem sameAll_l (n : Nat) (l : List Thing) (hl : l.length ≤ 5000) : ∀ (m i : Nat), i ≤ l.length → l.length - i < m → F34_l4 n l l m (i : Int) = some true
  | 0, i, _, h => by omega
  | m + 1, i, hi, h => by
    unfold F34_l4
    by_cases hlt : i < l.length
    · rw [if_pos (by rw [decide_eq_true_eq]; omega), zixg l i hlt]
      simp only [Option.bind_some, Thing.eqb_refl, Bool.not_true, Bool.false_eq_true, if_false]
      rw [zsucc (by omega)]
      exact sameAll_l n l hl m (i + 1) (by omega) (by omega)
    · rw [if_neg (by rw [decide_eq_true_eq]; omega)]
theorem sameAll_refl {n : Nat} {l : List Thing} (hl : l.length ≤ 5000) (hn : l.length ≤ n) : F34 n l l = some true := by
  unfold F34
  have := sameAll_l n l hl (n + 8) 0 (by omega) (by omega)
  simp only [bne_self_eq_false, Bool.false_eq_true, if_false]
  simpa using this
theorem thingReads_pure (a0 : ByteArray) (_ : a0.size ≤ maxLen) : ∃ n, F4 n a0 = some true := by
  refine ⟨1000, ?_⟩
  unfold F4
  simp only [Option.bind_some, Bool.not_true, Bool.false_eq_true, if_false]
  by_cases h : 800 < (a0.size : Int)
  · simp [h]
  · obtain ⟨r, h1, h2, _⟩ := readT (n := 1000) (s := a0) (by omega) (by omega)
    obtain ⟨x, x1, x2, x3⟩ := some_eq (n := 1000) (s := a0) (by omega) (by omega) (by omega)
    simp only [h, decide_false, Bool.false_eq_true, if_false, h1, h2, x1, x2, Option.bind_some, Thing.eqb_refl, if_true, beq_self_eq_true, sameAll_refl (n := 1000) (l := x.1) (by omega) (by omega)]
end Go.Proofs.Ytobeamaaifgllaa
