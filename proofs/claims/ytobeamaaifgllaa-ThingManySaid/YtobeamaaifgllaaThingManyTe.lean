/-
  What was written is read: numbers. No condition.
-/
import Derived.Test.YtobeamaaifgllaaThingManyTd
import Derived.Test.YtobeamaaifgllaaThingManyP1
namespace Go.Proofs.Ytobeamaaifgllaa
open Go Go.Rx
set_option maxRecDepth 100000
set_option linter.unusedSimpArgs false
set_option linter.unnecessarySimpa false
set_option linter.unusedVariables false

theorem bytesL_app (a b : ByteArray) : bytesL (a ++ b) = bytesL a ++ bytesL b := by
  simp [bytesL, ByteArray.data_append]
theorem bytesL_mk (l : List Int) (h : ∀ x ∈ l, 0 ≤ x ∧ x < 256) : bytesL (mkStr l) = l := by
  simp only [bytesL, mkStr_data, List.map_map]
  conv => rhs; rw [← List.map_id l]
  apply List.map_congr_left
  intro x hx
  have := h x hx
  simp; omega
theorem or_add (a b i : Nat) (h : a < 2 ^ i) : a ||| (b * 2 ^ i) = a + b * 2 ^ i := by
  have := Nat.shiftLeft_add_eq_or_of_lt h b
  rw [Nat.shiftLeft_eq] at this
  rw [Nat.or_comm, ← this, Nat.add_comm]
theorem orI {a b : Int} {i : Nat} (h0 : 0 ≤ a) (h1 : a < 2 ^ i) (h2 : 0 ≤ b) (h3 : a + b * 2 ^ i < 18446744073709551616) : bitsI .or .u64 a (b * 2 ^ i) = a + b * 2 ^ i := by
  obtain ⟨m, rfl⟩ := Int.eq_ofNat_of_zero_le h0
  obtain ⟨k, rfl⟩ := Int.eq_ofNat_of_zero_le h2
  have e : ((k : Int) * 2 ^ i) = ((k * 2 ^ i : Nat) : Int) := by push_cast; rfl
  rw [e] at h3 ⊢
  have hm : m < 2 ^ i := by exact_mod_cast h1
  have h3' : m + k * 2 ^ i < 18446744073709551616 := by omega
  have e1 : (BitVec.ofInt 64 (m : Int)).toNat = m := by rw [BitVec.toNat_ofInt]; omega
  have e2 : (BitVec.ofInt 64 ((k * 2 ^ i : Nat) : Int)).toNat = k * 2 ^ i := by
    rw [BitVec.toNat_ofInt]; omega
  show IntKind.wrap .u64 (((BitVec.ofInt 64 (m : Int) ||| BitVec.ofInt 64 ((k * 2 ^ i : Nat) : Int)).toNat : Nat) : Int) = _
  rw [BitVec.toNat_or, e1, e2, or_add m k i hm, wrap_u64]
  omega
theorem shlI_mul {b : Int} {i : Nat} (hi : i ≤ 63) (h0 : 0 ≤ b) (h1 : b * 2 ^ i < 18446744073709551616) : shlI .u64 b (i : Int) = b * 2 ^ i := by
  have e : min ((i : Int).toNat) (IntKind.u64.bits) = i := by simp [IntKind.bits]; omega
  unfold shlI
  rw [e, wrap_u64]
  have : 0 ≤ b * 2 ^ i := Int.mul_nonneg h0 (Int.pow_nonneg (by decide))
  omega
theorem ch_val : ∀ k : Fin 256, bitsI .or .u8 k.val 128 = 128 + (k.val : Int) % 128 ∧ bitsI .andNot .u8 (128 + (k.val : Int) % 128) 128 = (k.val : Int) % 128 := by decide +kernel
theorem ch_is {y : Int} (h : 0 ≤ y) : ch y = 128 + y % 128 ∧ bitsI .andNot .u8 (128 + y % 128) 128 = y % 128 := by
  obtain ⟨h1, h2⟩ := ch_val ⟨(y % 256).toNat, by omega⟩
  have e : (((y % 256).toNat : Nat) : Int) = y % 256 := by omega
  simp only [e] at h1 h2
  have e2 : y % 256 % 128 = y % 128 := by omega
  rw [e2] at h1 h2
  refine ⟨?_, h2⟩
  rw [ch, wrap_u8, h1]
theorem get_pt_l (n : Nat) (s : ByteArray) (hs : s.size ≤ 100000) : ∀ (k m i : Nat) (acc y : Int) (rest : List Int), (bytesL s).drop i = putL k y ++ rest → 1 ≤ k → y < 128 ^ k → 0 ≤ y → 0 ≤ acc → acc < 2 ^ (7 * i) → acc + y * 2 ^ (7 * i) < 18446744073709551616 → (0 < i → 1 ≤ y) → i + k ≤ 10 → k < m →
    F73_l7 n s m acc (i : Int) = some (acc + y * 2 ^ (7 * i), ((i + (putL k y).length : Nat) : Int), 0)
  | 0, _, _, _, _, _, _, h, _, _, _, _, _, _, _, _ => by omega
  | k + 1, 0, _, _, _, _, _, _, _, _, _, _, _, _, _, h => by omega
  | k + 1, m + 1, i, acc, y, rest, hd, _, hy, hy0, ha0, ha, hb, hp, hk, hm => by
    have hl : (bytesL s).length = s.size := bytesL_len s
    have hne : (bytesL s).drop i ≠ [] := by
      rw [hd]; intro h
      have := putL_len k y
      have h2 := congrArg List.length h
      simp only [List.length_append, List.length_nil] at h2
      omega
    have hi : i < (bytesL s).length := by
      apply Nat.lt_of_not_le; intro h; exact hne (List.drop_eq_nil_of_le h)
    have hdr := List.drop_eq_getElem_cons hi
    have ex := ixb s i hi
    have w7 : IntKind.wrap .i64 (7 * (i : Int)) = ((7 * i : Nat) : Int) := by rw [w64 (by omega) (by omega)]; push_cast; rfl
    have w1 : IntKind.wrap .i64 ((i : Int) + 1) = ((i + 1 : Nat) : Int) := by rw [w64 (by omega) (by omega)]; push_cast; rfl
    have g7 : ¬ (((7 * i : Nat) : Int) < 0) := by omega
    have ne : (((i + 1 : Nat) : Int) == 0) = false := by simp; omega
    have hdd : decide ((i : Int) < ((bytesL s).length : Int)) = true := by simp; omega
    have pp : (0 : Int) < 2 ^ (7 * i) := Int.pow_pos (by decide)
    unfold F73_l7
    simp only [hdd, if_true, ex, Option.bind_some]
    by_cases h : 128 ≤ y
    · obtain ⟨c1, c2⟩ := ch_is hy0
      have hk1 : 1 ≤ k := by
        cases k with
        | zero => simp at hy; omega
        | succ k => omega
      have hpl : putL (k + 1) y = ch y :: putL k (y / 128) := by rw [putL, if_pos h]
      rw [hpl, hdr] at hd
      simp only [List.cons_append, List.cons.injEq] at hd
      have h9 : ((i : Int) == 9) = false := by simp; omega
      have hz : ((128 + y % 128) == 0) = false := by simp; omega
      have hlt : decide (128 + y % 128 < 128) = false := by simp; omega
      have hmod : 0 ≤ y % 128 ∧ y % 128 < 128 := by omega
      have pow : (2 : Int) ^ (7 * (i + 1)) = 2 ^ (7 * i) * 128 := by
        rw [show 7 * (i + 1) = 7 * i + 7 by omega, Int.pow_add]; rfl
      have split : y * 2 ^ (7 * i) = (y % 128) * 2 ^ (7 * i) + y / 128 * 2 ^ (7 * (i + 1)) := by
        rw [pow, ← Int.mul_assoc, Int.mul_right_comm, ← Int.add_mul]
        congr 1; omega
      have hq0 : 0 ≤ y / 128 * 2 ^ (7 * (i + 1)) := Int.mul_nonneg (by omega) (Int.le_of_lt (Int.pow_pos (by decide)))
      have hr0 : 0 ≤ (y % 128) * 2 ^ (7 * i) := Int.mul_nonneg hmod.1 (Int.le_of_lt pp)
      have ws : IntKind.wrap .u64 (y % 128) = y % 128 := by rw [wrap_u64]; omega
      have sh : shlI .u64 (y % 128) ((7 * i : Nat) : Int) = (y % 128) * 2 ^ (7 * i) := shlI_mul (by omega) hmod.1 (by omega)
      have orr : bitsI .or .u64 acc ((y % 128) * 2 ^ (7 * i)) = acc + (y % 128) * 2 ^ (7 * i) := orI ha0 ha hmod.1 (by omega)
      have step : F73_j9 n acc (i : Int) (ch y) (F73_l7 n s m) = F73_l7 n s m (acc + (y % 128) * 2 ^ (7 * i)) ((i + 1 : Nat) : Int) := by
        unfold F73_j9 F73_j10
        simp only [c1, c2, hz, hlt, w7, w1, g7, not_false_eq_true, if_true, Bool.false_eq_true, if_false, ws, sh, orr, ite_self]
      have hrec := get_pt_l n s hs k m (i + 1) (acc + (y % 128) * 2 ^ (7 * i)) (y / 128) rest hd.2 hk1 (by rw [Int.pow_succ] at hy; exact Int.ediv_lt_of_lt_mul (by decide) hy) (by omega) (by omega) (by
        rw [pow]
        have : (y % 128) * 2 ^ (7 * i) ≤ 127 * 2 ^ (7 * i) := Int.mul_le_mul_of_nonneg_right (by omega) (Int.le_of_lt pp)
        omega) (by omega) (by omega) (by omega) (by omega)
      simp only [h9, Bool.false_eq_true, if_false, hd.1]
      rw [step, hrec, hpl, split]
      simp only [List.length_cons, Int.add_assoc]
      congr 3
      omega
    · have hpl : putL (k + 1) y = [IntKind.wrap .u8 y] := by rw [putL, if_neg h]
      have wy : IntKind.wrap .u8 y = y := by rw [wrap_u8]; omega
      rw [hpl, hdr, wy] at hd
      simp only [List.cons_append, List.cons.injEq, List.nil_append] at hd
      have hlt : decide (y < 128) = true := by simp; omega
      have ws : IntKind.wrap .u64 y = y := by rw [wrap_u64]; omega
      have hr0 : 0 ≤ y * 2 ^ (7 * i) := Int.mul_nonneg hy0 (Int.le_of_lt pp)
      have sh : shlI .u64 y ((7 * i : Nat) : Int) = y * 2 ^ (7 * i) := shlI_mul (by omega) hy0 (by omega)
      have orr : bitsI .or .u64 acc (y * 2 ^ (7 * i)) = acc + y * 2 ^ (7 * i) := orI ha0 ha hy0 hb
      have last : F73_j9 n acc (i : Int) y (F73_l7 n s m) = some (acc + y * 2 ^ (7 * i), ((i + 1 : Nat) : Int), 0) := by
        unfold F73_j9 F73_j10 F73_j13
        simp only [hlt, w7, w1, g7, not_false_eq_true, if_true, ne, Bool.false_eq_true, if_false, ws, sh, orr]
        by_cases h0 : (0 : Int) < i
        · have hz : (y == 0) = false := by have := hp (by omega); simp; omega
          simp only [h0, decide_true, if_true, hz, Bool.false_eq_true, if_false]
        · simp only [h0, decide_false, Bool.false_eq_true, if_false]
      rw [hpl, hd.1]
      simp only [List.length_cons, List.length_nil, Nat.zero_add]
      by_cases h9 : ((i : Int) == 9) = true
      · have hi9 : i = 9 := by simp at h9; omega
        have hy1 : y ≤ 1 := by
          subst hi9
          have : (2 : Int) ^ (7 * 9) = 9223372036854775808 := by decide
          rw [this] at hb
          omega
        have : decide ((1 : Int) < y) = false := by simp; omega
        simp only [h9, if_true, this, Bool.false_eq_true, if_false, last]
      · simp only [h9, Bool.false_eq_true, if_false, last]
theorem get_pt (n : Nat) (hn : 10 ≤ n) (x : Int) (h0 : 0 ≤ x) (h1 : x < 18446744073709551616) (t : ByteArray) (hs : (pt x ++ t).size ≤ 100000) : F73 n (pt x ++ t) = some (x, ((pt x).size : Int), 0) := by
  unfold F73
  have hb : ∀ (k : Nat) (y : Int), 0 ≤ y → ∀ z ∈ putL k y, 0 ≤ z ∧ z < 256 := by
    intro k
    induction k with
    | zero => intro y _ z hz; simp [putL] at hz
    | succ k ih =>
      intro y hy z hz
      rw [putL] at hz
      split at hz
      · simp only [List.mem_cons] at hz
        rcases hz with rfl | hz
        · rw [(ch_is hy).1]; omega
        · exact ih _ (by omega) z hz
      · simp only [List.mem_singleton] at hz
        subst hz
        rw [wrap_u8]; omega
  have hd : (bytesL (pt x ++ t)).drop 0 = putL 10 x ++ bytesL t := by
    rw [List.drop_zero, bytesL_app, pt, bytesL_mk _ (hb 10 x h0)]
  have := get_pt_l n (pt x ++ t) hs 10 (n + 8) 0 0 x (bytesL t) hd (by omega) (pow10 h1) h0 (by omega) (by decide) (by simpa using h1) (by omega) (by omega) (by omega)
  rw [show ((0 : Nat) : Int) = 0 from rfl] at this
  rw [this, pt, mkStr_size]
  simp
end Go.Proofs.Ytobeamaaifgllaa
