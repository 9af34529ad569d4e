/-
  Reading numbers and texts: both ways alike. No condition.
-/
import Derived.Test.YtobeamaaifgllaaEventReadsTc0
import Derived.Test.YtobeamaaifgllaaEventReadsP1
namespace Go.Proofs.Ytobeamaaifgllaa
open Go Go.Rx
set_option maxRecDepth 100000
set_option linter.unusedSimpArgs false
set_option linter.unnecessarySimpa false
set_option linter.unusedVariables false

theorem and_fin : ∀ k : Fin 256, bitsI .andNot .u8 k.val 128 = bitsI .and .u8 k.val 127 ∧ (k.val < 128 → bitsI .and .u8 k.val 127 = k.val) := by decide +kernel
theorem or_in (a b : Int) : 0 ≤ bitsI .or .u64 a b ∧ bitsI .or .u64 a b < 18446744073709551616 := u64_in _
theorem byte_in (s : ByteArray) (i : Nat) (h : i < (bytesL s).length) : ∃ k : Fin 256, (bytesL s)[i] = (k.val : Int) := by
  simp only [bytesL, List.getElem_map]
  exact ⟨⟨_, UInt8.toNat_lt _⟩, rfl⟩
theorem ixb (s : ByteArray) (i : Nat) (h : i < (bytesL s).length) : ix (bytesL s) (i : Int) = some (bytesL s)[i] := by
  unfold ix; rw [if_neg (by omega)]; simp [h]
theorem w64 {n : Int} (h : -9223372036854775808 ≤ n) (h' : n ≤ 9223372036854775807) : IntKind.wrap .i64 n = n := by
  simp [IntKind.wrap, IntKind.bits, IntKind.signed]; omega

/-- What reading a number tells. -/
def GetR (s : ByteArray) (r : Int × Int × Int) : Prop := (r.2.2 = 0 ∧ 1 ≤ r.2.1 ∧ r.2.1 ≤ (s.size : Int) ∧ 0 ≤ r.1 ∧ r.1 < 18446744073709551616) ∨ (r.2.2 ≠ 0 ∧ r.1 = 0 ∧ r.2.1 = 0)
theorem get_l (n : Nat) (s : ByteArray) (hs : s.size ≤ 100000) : ∀ (m i : Nat) (acc : Int), i ≤ s.size → s.size - i < m → ∃ r, F73_l7 n s m acc (i : Int) = some r ∧ F74_l7 n s m acc (i : Int) = some r ∧ GetR s r
  | 0, i, acc, _, h => by omega
  | m + 1, i, acc, h1, h2 => by
    have hl : (bytesL s).length = s.size := bytesL_len s
    unfold F73_l7 F74_l7
    by_cases hi : i < s.size
    · have hd : decide ((i : Int) < ((bytesL s).length : Int)) = true := by rw [hl]; simp; omega
      have hd' : decide ((i : Int) < (s.size : Int)) = true := by simp; omega
      obtain ⟨k, hk⟩ := byte_in s i (by omega)
      obtain ⟨a1, a2⟩ := and_fin k
      have ex := ixb s i (by omega)
      rw [hk] at ex
      have w7 : IntKind.wrap .i64 (7 * (i : Int)) = 7 * i := w64 (by omega) (by omega)
      have w7u : IntKind.wrap .u64 (7 * (i : Int)) = 7 * i := by rw [wrap_u64]; omega
      have w1 : IntKind.wrap .i64 ((i : Int) + 1) = ((i + 1 : Nat) : Int) := by rw [w64 (by omega) (by omega)]; push_cast; rfl
      have g7 : ¬ (7 * (i : Int) < 0) := by omega
      have ne : (((i + 1 : Nat) : Int) == 0) = false := by simp; omega
      obtain ⟨r, q1, q2, q3⟩ := get_l n s hs m (i + 1) (bitsI .or .u64 acc (shlI .u64 (IntKind.wrap .u64 (bitsI .and .u8 k.val 127)) (7 * (i : Int)))) (by omega) (by omega)
      have core : ∃ r, F73_j9 n acc (i : Int) (k.val : Int) (F73_l7 n s m) = some r ∧ F74_j9 n acc (i : Int) (k.val : Int) (F74_l7 n s m) = some r ∧ GetR s r := by
        unfold F73_j9 F74_j9 F73_j10 F74_j10 F73_j13
        simp only [w7, w7u, w1, g7, not_false_eq_true, if_true, ne, Bool.false_eq_true, if_false, a1]
        by_cases hx : (k.val : Int) < 128
        · have e2 := a2 (by omega)
          simp only [hx, decide_true, if_true, e2]
          by_cases h0 : (0 : Int) < i
          · by_cases hz : (k.val : Int) = 0
            · simp only [h0, decide_true, if_true, hz, beq_self_eq_true]
              exact ⟨_, rfl, rfl, .inr ⟨by decide, rfl, rfl⟩⟩
            · have hz' : ((k.val : Int) == 0) = false := by simp; omega
              simp only [h0, decide_true, if_true, hz', Bool.false_eq_true, if_false]
              exact ⟨_, rfl, rfl, .inl ⟨rfl, by simp only; omega, by simp only; omega, (or_in _ _).1, (or_in _ _).2⟩⟩
          · simp only [h0, decide_false, Bool.false_eq_true, if_false, ite_self]
            exact ⟨_, rfl, rfl, .inl ⟨rfl, by simp only; omega, by simp only; omega, (or_in _ _).1, (or_in _ _).2⟩⟩
        · have hz' : ((k.val : Int) == 0) = false := by simp; omega
          simp only [hx, decide_false, Bool.false_eq_true, if_false, hz', ite_self]
          exact ⟨r, q1, q2, q3⟩
      simp only [hd, hd', if_true, ex, Option.bind_some]
      by_cases h9 : ((i : Int) == 9) = true
      · by_cases hx : (1 : Int) < k.val
        · simp only [h9, hx, decide_true, if_true]
          exact ⟨_, rfl, rfl, .inr ⟨by decide, rfl, rfl⟩⟩
        · simp only [h9, hx, decide_false, Bool.false_eq_true, if_false, if_true]
          exact core
      · simp only [h9, Bool.false_eq_true, if_false]
        exact core
    · have hd : decide ((i : Int) < ((bytesL s).length : Int)) = false := by rw [hl]; simp; omega
      have hd' : decide ((i : Int) < (s.size : Int)) = false := by simp; omega
      simp only [hd, hd', Bool.false_eq_true, if_false]
      exact ⟨_, rfl, rfl, .inr ⟨by decide, rfl, rfl⟩⟩
theorem get_eq (n : Nat) (s : ByteArray) (hs : s.size ≤ 100000) (hn : s.size ≤ n) : ∃ r, F73 n s = some r ∧ F74 n s = some r ∧ GetR s r := by
  unfold F73 F74
  exact get_l n s hs (n + 8) 0 0 (by omega) (by omega)

def TxtR (s : ByteArray) (r : ByteArray × Int × Int) : Prop := (r.2.2 = 0 ∧ 1 ≤ r.2.1 ∧ r.2.1 ≤ (s.size : Int)) ∨ (r.2.2 ≠ 0 ∧ r.1 = ByteArray.empty ∧ r.2.1 = 0)
theorem texts_eq (n : Nat) (s : ByteArray) (hs : s.size ≤ 100000) (hn : s.size ≤ n) : ∃ r, F117 n s 12 = some r ∧ F107 n s 12 = some r ∧ TxtR s r := by
  obtain ⟨r, q1, q2, q3⟩ := get_eq n s hs hn
  have m1 : IntKind.wrap .u64 (imax 12 0) = 12 := rfl
  have m2 : IntKind.wrap .u64 (imax 0 12) = 12 := rfl
  unfold F117 F107
  simp only [q1, q2, Option.bind_some, m1, m2]
  rcases q3 with ⟨e0, k1, k2, u0, u1⟩ | ⟨e0, h1, h2⟩
  · have hb : (r.2.2 != 0) = false := by simp [e0]
    have hz : IntKind.wrap .u64 (IntKind.wrap .i64 ((s.size : Int) - r.2.1)) = s.size - r.2.1 := by rw [w64 (by omega) (by omega), wrap_u64]; omega
    simp only [hb, Bool.false_eq_true, if_false, hz]
    by_cases c1 : 12 < r.1
    · simp only [c1, decide_true, if_true]
      exact ⟨_, rfl, rfl, .inr ⟨by decide, rfl, rfl⟩⟩
    · simp only [c1, decide_false, Bool.false_eq_true, if_false]
      by_cases c2 : (s.size : Int) - r.2.1 < r.1
      · simp only [c2, decide_true, if_true]
        exact ⟨_, rfl, rfl, .inr ⟨by decide, rfl, rfl⟩⟩
      · simp only [c2, decide_false, Bool.false_eq_true, if_false]
        have w1 : IntKind.wrap .i64 r.1 = r.1 := w64 (by omega) (by omega)
        have w2 : IntKind.wrap .i64 (r.2.1 + r.1) = r.2.1 + r.1 := w64 (by omega) (by omega)
        simp only [w1, w2]
        rw [if_pos (by omega)]
        exact ⟨_, rfl, rfl, .inl ⟨rfl, by simp only; omega, by simp only; omega⟩⟩
  · have hb : (r.2.2 != 0) = true := by simp [e0]
    simp only [hb, if_true]
    exact ⟨_, rfl, rfl, .inr ⟨e0, rfl, rfl⟩⟩
theorem ints_eq (n : Nat) (s : ByteArray) (hs : s.size ≤ 100000) (hn : s.size ≤ n) : ∃ r, F118 n s = some r ∧ F108 n s = some r ∧ ((r.2.2 = 0 ∧ 1 ≤ r.2.1 ∧ r.2.1 ≤ (s.size : Int)) ∨ (r.2.2 ≠ 0 ∧ r.2.1 = 0)) := by
  obtain ⟨r, q1, q2, q3⟩ := get_eq n s hs hn
  unfold F118 F108 F121 F119
  simp only [q1, q2, Option.bind_some]
  refine ⟨_, rfl, rfl, ?_⟩
  rcases q3 with ⟨e0, k1, k2, _, _⟩ | ⟨e0, h1, h2⟩
  · exact .inl ⟨e0, k1, k2⟩
  · exact .inr ⟨e0, h2⟩
theorem ext_size (s : ByteArray) (a : Int) (h0 : 0 ≤ a) (h1 : a ≤ (s.size : Int)) : ((s.extract a.toNat s.size).size : Int) = s.size - a := by
  rw [ByteArray.size_extract]; omega

/-- A field read: the reader's way and the reference's. -/
def refF (n : Nat) (s : ByteArray) (at_ : Int) (K : Int → Int → ByteArray → Option (Delta × Int × Int)) : Option (Delta × Int × Int) :=
  if 0 ≤ (at_ : Int) ∧ (at_ : Int) ≤ (s.size : Int) then
    (F107 n (s.extract at_.toNat s.size) 12).bind fun (r9 : (ByteArray × Int × Int)) =>
    if r9.2.2 != 0 then
      some ((Delta.mk 0 0 (Point.mk 0 0) (A4.mk (Field.mk 0 ByteArray.empty) (Field.mk 0 ByteArray.empty) (Field.mk 0 ByteArray.empty) (Field.mk 0 ByteArray.empty))), 0, r9.2.2)
    else
      if r9.1.toList == ByteArray.empty.toList then
        if 0 ≤ (IntKind.wrap .i64 (at_ + r9.2.1) : Int) ∧ (IntKind.wrap .i64 (at_ + r9.2.1) : Int) ≤ (s.size : Int) then
          (F108 n (s.extract (IntKind.wrap .i64 (at_ + r9.2.1)).toNat s.size)).bind fun (r10 : (Int × Int × Int)) =>
          if r10.2.2 != 0 then
            some ((Delta.mk 0 0 (Point.mk 0 0) (A4.mk (Field.mk 0 ByteArray.empty) (Field.mk 0 ByteArray.empty) (Field.mk 0 ByteArray.empty) (Field.mk 0 ByteArray.empty))), 0, r10.2.2)
          else
            K (IntKind.wrap .i64 (IntKind.wrap .i64 (at_ + r9.2.1) + r10.2.1)) r10.1 r9.1
        else none
      else
        K (IntKind.wrap .i64 (at_ + r9.2.1)) 0 r9.1
  else none
def none3 (e : Int) : Delta × Int × Int := ((Delta.mk 0 0 (Point.mk 0 0) (A4.mk (Field.mk 0 ByteArray.empty) (Field.mk 0 ByteArray.empty) (Field.mk 0 ByteArray.empty) (Field.mk 0 ByteArray.empty))), 0, e)
theorem field_eq (n : Nat) (s : ByteArray) (hs : s.size ≤ 100000) (hn : s.size ≤ n) (a : Int) (h0 : 0 ≤ a) (h1 : a ≤ (s.size : Int)) :
    ∃ (f : Field) (b e : Int), F105 n ⟨s, a, 0⟩ = some (f, ⟨s, b, e⟩) ∧ ((e = 0 ∧ 0 ≤ b ∧ b ≤ (s.size : Int) ∧ ∀ K, refF n s a K = K b f.N f.Text) ∨ (e ≠ 0 ∧ ∀ K, refF n s a K = some (none3 e))) := by
  have z1 := ext_size s a h0 h1
  obtain ⟨r, q1, q2, q3⟩ := texts_eq n (s.extract a.toNat s.size) (by omega) (by omega)
  unfold F105 F116 refF
  have hc : 0 ≤ a ∧ a ≤ (s.size : Int) := ⟨h0, h1⟩
  have e00 : ((0 : Int) != 0) = false := rfl
  simp only [e00, Bool.false_eq_true, if_false, if_pos hc, q1, q2, Option.bind_some]
  rcases q3 with ⟨e0, k1, k2⟩ | ⟨e0, t0, k0⟩
  · have w1 : IntKind.wrap .i64 (a + r.2.1) = a + r.2.1 := w64 (by omega) (by omega)
    have hb : (r.2.2 != 0) = false := by simp [e0]
    have hb' : (r.2.2 == 0) = true := by simp [e0]
    simp only [w1, hb, hb', Bool.false_eq_true, if_false, if_true]
    cases hE : (r.1.toList == ByteArray.empty.toList) with
    | false =>
      simp only [Bool.false_eq_true, if_false]
      exact ⟨_, _, _, rfl, .inl ⟨e0, by omega, by omega, fun K => rfl⟩⟩
    | true =>
      have hc2 : 0 ≤ a + r.2.1 ∧ a + r.2.1 ≤ (s.size : Int) := by omega
      have z2 := ext_size s (a + r.2.1) hc2.1 hc2.2
      obtain ⟨v, p1, p2, p3⟩ := ints_eq n (s.extract (a + r.2.1).toNat s.size) (by omega) (by omega)
      simp only [if_true, if_pos hc2, p1, p2, Option.bind_some]
      rcases p3 with ⟨f0, l1, l2⟩ | ⟨f0, l0⟩
      · have w2 : IntKind.wrap .i64 (a + r.2.1 + v.2.1) = a + r.2.1 + v.2.1 := w64 (by omega) (by omega)
        have hv : (v.2.2 != 0) = false := by simp [f0]
        simp only [w2, hv, Bool.false_eq_true, if_false]
        exact ⟨_, _, _, rfl, .inl ⟨f0, by omega, by omega, fun K => rfl⟩⟩
      · have hv : (v.2.2 != 0) = true := by simp [f0]
        simp only [hv, if_true]
        exact ⟨_, _, _, rfl, .inr ⟨f0, fun K => rfl⟩⟩
  · have hb : (r.2.2 != 0) = true := by simp [e0]
    have hb' : (r.2.2 == 0) = false := by simp [e0]
    simp only [hb, hb', if_true, Bool.false_eq_true, if_false, ite_self]
    exact ⟨_, _, _, rfl, .inr ⟨e0, fun K => rfl⟩⟩
end Go.Proofs.Ytobeamaaifgllaa
