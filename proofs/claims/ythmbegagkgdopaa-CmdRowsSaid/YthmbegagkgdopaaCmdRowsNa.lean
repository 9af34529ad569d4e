/-
  Numbers and texts: written, read, and read as they were written. No condition.
-/
import Derived.Test.YthmbegagkgdopaaCmdRowsV
import Derived.Test.YthmbegagkgdopaaCmdRowsP2
namespace Go.Proofs.Ythmbegagkgdopaa
open Go Go.Rx
set_option maxRecDepth 100000
set_option linter.unusedSimpArgs false
set_option linter.unnecessarySimpa false
set_option linter.unusedVariables false

theorem shr7 (x : Int) : shrI .u64 x 7 = x / 128 := by
  show Int.fdiv x 128 = x / 128
  exact Int.fdiv_eq_ediv_of_nonneg x (by decide)
theorem wrap_u64 (x : Int) : IntKind.wrap .u64 x = x % 18446744073709551616 := by simp [IntKind.wrap, IntKind.bits, IntKind.signed]
theorem wrap_u8 (x : Int) : IntKind.wrap .u8 x = x % 256 := by simp [IntKind.wrap, IntKind.bits, IntKind.signed]
theorem and127 {x : Int} (h0 : 0 ≤ x) (h1 : x < 18446744073709551616) : bitsI .and .u64 x 127 = x % 128 := by
  obtain ⟨k, rfl⟩ := Int.eq_ofNat_of_zero_le h0
  have e1 : (BitVec.ofInt 64 (k : Int)).toNat = k := by simp; omega
  have e2 : (BitVec.ofInt 64 (127 : Int)).toNat = 127 := rfl
  have e3 : k &&& 127 = k % 128 := Nat.and_two_pow_sub_one_eq_mod k 7
  show IntKind.wrap .u64 (((BitVec.ofInt 64 (k : Int) &&& BitVec.ofInt 64 (127 : Int)).toNat : Nat) : Int) = _
  rw [BitVec.toNat_and, e1, e2, e3, wrap_u64]
  omega
def ch (x : Int) : Int := bitsI .or .u8 (IntKind.wrap .u8 x) 128
theorem push_data (l : List Int) : ∀ s : ByteArray, (l.foldl (fun r n => r.push (UInt8.ofNat n.toNat)) s).data = s.data ++ (l.map fun n => UInt8.ofNat n.toNat).toArray := by
  induction l with
  | nil => intro s; simp
  | cons a l ih => intro s; simp only [List.foldl_cons, ih, List.map_cons]; cases s; simp [ByteArray.push]
theorem mkStr_data (l : List Int) : (mkStr l).data = (l.map fun n => UInt8.ofNat n.toNat).toArray := by
  unfold mkStr
  rw [push_data]
  show (#[] : Array UInt8) ++ _ = _
  simp
theorem mkStr_size (l : List Int) : (mkStr l).size = l.length := by
  show (mkStr l).data.size = _
  rw [mkStr_data]; simp
theorem ba_ext {a b : ByteArray} (h : a.data = b.data) : a = b := by cases a; cases b; simp only at h; rw [h]
theorem mkStr_app (a b : List Int) : mkStr (a ++ b) = mkStr a ++ mkStr b := by
  apply ba_ext
  rw [ByteArray.data_append, mkStr_data, mkStr_data, mkStr_data]; simp
theorem ba_assoc (a b c : ByteArray) : a ++ b ++ c = a ++ (b ++ c) := by
  apply ba_ext
  simp [ByteArray.data_append, Array.append_assoc]
theorem ba_size (a b : ByteArray) : (a ++ b).size = a.size + b.size := by
  show (a ++ b).data.size = _
  rw [ByteArray.data_append, Array.size_append]
  rfl
theorem ba_nil (a : ByteArray) : ByteArray.empty ++ a = a := by
  apply ba_ext
  rw [ByteArray.data_append]
  show (#[] : Array UInt8) ++ _ = _
  simp
def putL : Nat → Int → List Int
  | 0, _ => []
  | k + 1, x => if 128 ≤ x then ch x :: putL k (x / 128) else [IntKind.wrap .u8 x]
theorem putL_len : ∀ (k : Nat) (x : Int), (putL (k + 1) x).length ≤ k + 1 ∧ 1 ≤ (putL (k + 1) x).length
  | 0, x => by unfold putL; split <;> simp [putL]
  | k + 1, x => by
    have := putL_len k (x / 128)
    unfold putL
    split
    · simp only [List.length_cons]; omega
    · simp
theorem putL_one {k : Nat} {x : Int} (h : x < 128) : (putL (k + 1) x).length = 1 := by
  unfold putL; rw [if_neg (by omega)]; rfl
theorem put_l (n : Nat) : ∀ (k m : Nat) (x : Int) (l : List Int), 1 ≤ k → 0 ≤ x → x < 128 ^ k → k < m → l.length + k ≤ 1000 → F42_l7 n m x l = some (mkStr (l ++ putL k x))
  | 0, m, x, l, hk, h0, h1, _, _ => by omega
  | k + 1, 0, x, l, _, _, _, h, _ => by omega
  | k + 1, m + 1, x, l, _, h0, h1, h2, h3 => by
    have hc : (l.length + 1) * 1 ≤ maxCells ∧ l.length + 1 ≤ maxCells := by simp only [maxCells]; omega
    unfold F42_l7 putL
    by_cases h : 128 ≤ x
    · have hx : x / 128 < 128 ^ k := by
        rw [Int.pow_succ] at h1
        exact Int.ediv_lt_of_lt_mul (by decide) h1
      simp only [h, decide_true, if_true, if_pos hc, shr7]
      have hk : 1 ≤ k := by
        cases k with
        | zero => simp at h1; omega
        | succ k => omega
      rw [put_l n k m (x / 128) _ hk (by omega) hx (by omega) (by simp only [List.length_append, List.length_cons, List.length_nil]; omega)]
      simp only [List.append_assoc, List.cons_append, List.nil_append]
      rfl
    · simp only [h, decide_false, Bool.false_eq_true, if_false]
      rw [if_pos hc]
theorem pow10 {x : Int} (h : x < 18446744073709551616) : x < 128 ^ 10 := by
  have : (128 : Int) ^ 10 = 1180591620717411303424 := by decide
  rw [this]; omega
def pt (x : Int) : ByteArray := mkStr (putL 10 x)
theorem pt_size (x : Int) : (pt x).size ≤ 10 ∧ 1 ≤ (pt x).size := by
  rw [pt, mkStr_size]; exact putL_len 9 x
theorem pt_one {x : Int} (h : x < 128) : (pt x).size = 1 := by rw [pt, mkStr_size]; exact putL_one h
theorem put_eq {n : Nat} (hn : 10 ≤ n) {x : Int} (h0 : 0 ≤ x) (h1 : x < 18446744073709551616) : F42 n x = some (pt x) := by
  unfold F42
  rw [put_l n 10 (n + 8) x [] (by omega) h0 (pow10 h1) (by omega) (by simp)]
  rfl
theorem u64_in (x : Int) : 0 ≤ IntKind.wrap .u64 x ∧ IntKind.wrap .u64 x < 18446744073709551616 := by rw [wrap_u64]; omega
def pu (x : Int) : ByteArray := pt (IntKind.wrap .u64 x)
theorem pu_eq {n : Nat} (hn : 10 ≤ n) (x : Int) : F42 n (IntKind.wrap .u64 x) = some (pu x) := put_eq hn (u64_in x).1 (u64_in x).2
theorem pu_size (x : Int) : (pu x).size ≤ 10 ∧ 1 ≤ (pu x).size := pt_size _
def tx (s : ByteArray) : ByteArray := pu (s.size : Int) ++ s
theorem tx_eq {n : Nat} (hn : 10 ≤ n) {s : ByteArray} (h : s.size ≤ 100000) : F44 n s = some (tx s) := by
  unfold F44
  have := pu_size (s.size : Int)
  rw [pu_eq hn]
  simp only [Option.bind_some]
  rw [if_pos (by omega)]; rfl
theorem tx_size (s : ByteArray) : (tx s).size ≤ 10 + s.size ∧ 1 + s.size ≤ (tx s).size := by
  have := pu_size (s.size : Int)
  rw [tx, ba_size]; omega
theorem xor_in (a b : Int) : 0 ≤ bitsI .xor .u64 a b ∧ bitsI .xor .u64 a b < 18446744073709551616 := u64_in _
def zg (x : Int) : ByteArray := pt (bitsI .xor .u64 (shlI .u64 (IntKind.wrap .u64 x) 1) (IntKind.wrap .u64 (shrI .i64 x 63)))
theorem zg_eq {n : Nat} (hn : 10 ≤ n) (x : Int) : F45 n x = some (zg x) := by
  unfold F45 F68
  simp only [Option.bind_some]
  rw [put_eq hn (xor_in _ _).1 (xor_in _ _).2]
  rfl
theorem zg_size (x : Int) : (zg x).size ≤ 10 ∧ 1 ≤ (zg x).size := pt_size _
theorem and_fin : ∀ k : Fin 256, bitsI .andNot .u8 k.val 128 = bitsI .and .u8 k.val 127 ∧ (k.val < 128 → bitsI .and .u8 k.val 127 = k.val) := by decide +kernel
theorem or_in (a b : Int) : 0 ≤ bitsI .or .u64 a b ∧ bitsI .or .u64 a b < 18446744073709551616 := u64_in _
theorem byte_in (s : ByteArray) (i : Nat) (h : i < (bytesL s).length) : ∃ k : Fin 256, (bytesL s)[i] = (k.val : Int) := by
  simp only [bytesL, List.getElem_map]
  exact ⟨⟨_, UInt8.toNat_lt _⟩, rfl⟩
theorem ixb (s : ByteArray) (i : Nat) (h : i < (bytesL s).length) : ix (bytesL s) (i : Int) = some (bytesL s)[i] := by
  unfold ix; rw [if_neg (by omega)]; simp [h]
theorem w64 {n : Int} (h : -9223372036854775808 ≤ n) (h' : n ≤ 9223372036854775807) : IntKind.wrap .i64 n = n := by
  simp [IntKind.wrap, IntKind.bits, IntKind.signed]; omega
/-- The errors of what can't be read. -/
def isErr (e : Int) : Prop := e = 10 ∨ e = 11 ∨ e = 13
theorem isErr_ne {e : Int} (h : isErr e) : e ≠ 0 := by unfold isErr at h; omega
def GetR (s : ByteArray) (r : Int × Int × Int) : Prop := (r.2.2 = 0 ∧ 1 ≤ r.2.1 ∧ r.2.1 ≤ (s.size : Int) ∧ 0 ≤ r.1 ∧ r.1 < 18446744073709551616) ∨ (isErr r.2.2 ∧ r.1 = 0 ∧ r.2.1 = 0)
theorem get_l (n : Nat) (s : ByteArray) (hs : s.size ≤ 100000) : ∀ (m i : Nat) (acc : Int), i ≤ s.size → s.size - i < m → ∃ r, F70_l7 n s m acc (i : Int) = some r ∧ GetR s r
  | 0, i, acc, _, h => by omega
  | m + 1, i, acc, h1, h2 => by
    have hl : (bytesL s).length = s.size := bytesL_len s
    unfold F70_l7
    by_cases hi : i < s.size
    · have hd : decide ((i : Int) < ((bytesL s).length : Int)) = true := by rw [hl]; simp; omega
      have hd' : decide ((i : Int) < (s.size : Int)) = true := by simp; omega
      obtain ⟨k, hk⟩ := byte_in s i (by omega)
      obtain ⟨a1, a2⟩ := and_fin k
      have ex := ixb s i (by omega)
      rw [hk] at ex
      have w7 : IntKind.wrap .i64 (7 * (i : Int)) = 7 * i := w64 (by omega) (by omega)
      have w7u : IntKind.wrap .u64 (7 * (i : Int)) = 7 * i := by rw [wrap_u64]; omega
      have w1 : IntKind.wrap .i64 ((i : Int) + 1) = ((i + 1 : Nat) : Int) := by rw [w64 (by omega) (by omega)]; push_cast; rfl
      have g7 : ¬ (7 * (i : Int) < 0) := by omega
      have ne : (((i + 1 : Nat) : Int) == 0) = false := by simp; omega
      obtain ⟨r, q1, q3⟩ := get_l n s hs m (i + 1) (bitsI .or .u64 acc (shlI .u64 (IntKind.wrap .u64 (bitsI .and .u8 k.val 127)) (7 * (i : Int)))) (by omega) (by omega)
      have core : ∃ r, F70_j9 n acc (i : Int) (k.val : Int) (F70_l7 n s m) = some r ∧ GetR s r := by
        unfold F70_j9 F70_j10 F70_j13
        simp only [w7, w7u, w1, g7, not_false_eq_true, if_true, ne, Bool.false_eq_true, if_false, a1]
        by_cases hx : (k.val : Int) < 128
        · have e2 := a2 (by omega)
          simp only [hx, decide_true, if_true, e2]
          by_cases h0 : (0 : Int) < i
          · by_cases hz : (k.val : Int) = 0
            · simp only [h0, decide_true, if_true, hz, beq_self_eq_true]
              exact ⟨_, rfl, .inr ⟨by unfold isErr; decide, rfl, rfl⟩⟩
            · have hz' : ((k.val : Int) == 0) = false := by simp; omega
              simp only [h0, decide_true, if_true, hz', Bool.false_eq_true, if_false]
              exact ⟨_, rfl, .inl ⟨rfl, by simp only; omega, by simp only; omega, (or_in _ _).1, (or_in _ _).2⟩⟩
          · simp only [h0, decide_false, Bool.false_eq_true, if_false, ite_self]
            exact ⟨_, rfl, .inl ⟨rfl, by simp only; omega, by simp only; omega, (or_in _ _).1, (or_in _ _).2⟩⟩
        · have hz' : ((k.val : Int) == 0) = false := by simp; omega
          simp only [hx, decide_false, Bool.false_eq_true, if_false, hz', ite_self]
          exact ⟨r, q1, q3⟩
      simp only [hd, hd', if_true, ex, Option.bind_some]
      by_cases h9 : ((i : Int) == 9) = true
      · by_cases hx : (1 : Int) < k.val
        · simp only [h9, hx, decide_true, if_true]
          exact ⟨_, rfl, .inr ⟨by unfold isErr; decide, rfl, rfl⟩⟩
        · simp only [h9, hx, decide_false, Bool.false_eq_true, if_false, if_true]
          exact core
      · simp only [h9, Bool.false_eq_true, if_false]
        exact core
    · have hd : decide ((i : Int) < ((bytesL s).length : Int)) = false := by rw [hl]; simp; omega
      have hd' : decide ((i : Int) < (s.size : Int)) = false := by simp; omega
      simp only [hd, hd', Bool.false_eq_true, if_false]
      exact ⟨_, rfl, .inr ⟨by unfold isErr; decide, rfl, rfl⟩⟩
theorem get_eq (n : Nat) (s : ByteArray) (hs : s.size ≤ 100000) (hn : s.size ≤ n) : ∃ r, F70 n s = some r ∧ GetR s r := by
  unfold F70
  exact get_l n s hs (n + 8) 0 0 (by omega) (by omega)
def TxtR (s : ByteArray) (r : ByteArray × Int × Int) : Prop := (r.2.2 = 0 ∧ 1 ≤ r.2.1 ∧ r.2.1 ≤ (s.size : Int)) ∨ (isErr r.2.2 ∧ r.1 = ByteArray.empty ∧ r.2.1 = 0)
theorem texts_eq (n : Nat) (s : ByteArray) (hs : s.size ≤ 100000) (hn : s.size ≤ n) : ∃ r, F67 n s 12 = some r ∧ TxtR s r := by
  obtain ⟨r, q1, q3⟩ := get_eq n s hs hn
  have m1 : IntKind.wrap .u64 (imax 12 0) = 12 := rfl
  have m2 : IntKind.wrap .u64 (imax 0 12) = 12 := rfl
  unfold F67
  simp only [q1, Option.bind_some, m1, m2]
  rcases q3 with ⟨e0, k1, k2, u0, u1⟩ | ⟨e0, h1, h2⟩
  · have hb : (r.2.2 != 0) = false := by simp [e0]
    have hz : IntKind.wrap .u64 (IntKind.wrap .i64 ((s.size : Int) - r.2.1)) = s.size - r.2.1 := by rw [w64 (by omega) (by omega), wrap_u64]; omega
    simp only [hb, Bool.false_eq_true, if_false, hz]
    by_cases c1 : 12 < r.1
    · simp only [c1, decide_true, if_true]
      exact ⟨_, rfl, .inr ⟨by unfold isErr; decide, rfl, rfl⟩⟩
    · simp only [c1, decide_false, Bool.false_eq_true, if_false]
      by_cases c2 : (s.size : Int) - r.2.1 < r.1
      · simp only [c2, decide_true, if_true]
        exact ⟨_, rfl, .inr ⟨by unfold isErr; decide, rfl, rfl⟩⟩
      · simp only [c2, decide_false, Bool.false_eq_true, if_false]
        have w1 : IntKind.wrap .i64 r.1 = r.1 := w64 (by omega) (by omega)
        have w2 : IntKind.wrap .i64 (r.2.1 + r.1) = r.2.1 + r.1 := w64 (by omega) (by omega)
        simp only [w1, w2]
        rw [if_pos (by omega)]
        exact ⟨_, rfl, .inl ⟨rfl, by simp only; omega, by simp only; omega⟩⟩
  · have hb : (r.2.2 != 0) = true := by simp [isErr_ne e0]
    simp only [hb, if_true]
    exact ⟨_, rfl, .inr ⟨e0, rfl, rfl⟩⟩
theorem wrap_i64 (x : Int) : IntKind.wrap .i64 x = (x + 9223372036854775808) % 18446744073709551616 - 9223372036854775808 := by
  simp [IntKind.wrap, IntKind.bits, IntKind.signed]; omega
theorem ints_eq (n : Nat) (s : ByteArray) (hs : s.size ≤ 100000) (hn : s.size ≤ n) : ∃ r, F65 n s = some r ∧ (-9223372036854775808 ≤ r.1 ∧ r.1 < 9223372036854775808) ∧ ((r.2.2 = 0 ∧ 1 ≤ r.2.1 ∧ r.2.1 ≤ (s.size : Int)) ∨ (isErr r.2.2 ∧ r.2.1 = 0)) := by
  obtain ⟨r, q1, q3⟩ := get_eq n s hs hn
  have wi : ∀ x, -9223372036854775808 ≤ IntKind.wrap .i64 x ∧ IntKind.wrap .i64 x < 9223372036854775808 := fun x => by rw [wrap_i64]; omega
  unfold F65 F74
  simp only [q1, Option.bind_some]
  refine ⟨_, rfl, wi _, ?_⟩
  rcases q3 with ⟨e0, k1, k2, _, _⟩ | ⟨e0, h1, h2⟩
  · exact .inl ⟨e0, k1, k2⟩
  · exact .inr ⟨e0, h2⟩
theorem ext_size (s : ByteArray) (a : Int) (h0 : 0 ≤ a) (h1 : a ≤ (s.size : Int)) : ((s.extract a.toNat s.size).size : Int) = s.size - a := by
  rw [ByteArray.size_extract]; omega
theorem bytesL_app (a b : ByteArray) : bytesL (a ++ b) = bytesL a ++ bytesL b := by
  simp [bytesL, ByteArray.data_append]
theorem bytesL_mk (l : List Int) (h : ∀ x ∈ l, 0 ≤ x ∧ x < 256) : bytesL (mkStr l) = l := by
  simp only [bytesL, mkStr_data, List.map_map]
  conv => rhs; rw [← List.map_id l]
  apply List.map_congr_left
  intro x hx
  have := h x hx
  simp; omega
theorem or_add (a b i : Nat) (h : a < 2 ^ i) : a ||| (b * 2 ^ i) = a + b * 2 ^ i := by
  have := Nat.shiftLeft_add_eq_or_of_lt h b
  rw [Nat.shiftLeft_eq] at this
  rw [Nat.or_comm, ← this, Nat.add_comm]
theorem orI {a b : Int} {i : Nat} (h0 : 0 ≤ a) (h1 : a < 2 ^ i) (h2 : 0 ≤ b) (h3 : a + b * 2 ^ i < 18446744073709551616) : bitsI .or .u64 a (b * 2 ^ i) = a + b * 2 ^ i := by
  obtain ⟨m, rfl⟩ := Int.eq_ofNat_of_zero_le h0
  obtain ⟨k, rfl⟩ := Int.eq_ofNat_of_zero_le h2
  have e : ((k : Int) * 2 ^ i) = ((k * 2 ^ i : Nat) : Int) := by push_cast; rfl
  rw [e] at h3 ⊢
  have hm : m < 2 ^ i := by exact_mod_cast h1
  have h3' : m + k * 2 ^ i < 18446744073709551616 := by omega
  have e1 : (BitVec.ofInt 64 (m : Int)).toNat = m := by rw [BitVec.toNat_ofInt]; omega
  have e2 : (BitVec.ofInt 64 ((k * 2 ^ i : Nat) : Int)).toNat = k * 2 ^ i := by
    rw [BitVec.toNat_ofInt]; omega
  show IntKind.wrap .u64 (((BitVec.ofInt 64 (m : Int) ||| BitVec.ofInt 64 ((k * 2 ^ i : Nat) : Int)).toNat : Nat) : Int) = _
  rw [BitVec.toNat_or, e1, e2, or_add m k i hm, wrap_u64]
  omega
theorem shlI_mul {b : Int} {i : Nat} (hi : i ≤ 63) (h0 : 0 ≤ b) (h1 : b * 2 ^ i < 18446744073709551616) : shlI .u64 b (i : Int) = b * 2 ^ i := by
  have e : min ((i : Int).toNat) (IntKind.u64.bits) = i := by simp [IntKind.bits]; omega
  unfold shlI
  rw [e, wrap_u64]
  have : 0 ≤ b * 2 ^ i := Int.mul_nonneg h0 (Int.pow_nonneg (by decide))
  omega
theorem ch_val : ∀ k : Fin 256, bitsI .or .u8 k.val 128 = 128 + (k.val : Int) % 128 ∧ bitsI .andNot .u8 (128 + (k.val : Int) % 128) 128 = (k.val : Int) % 128 := by decide +kernel
theorem ch_is {y : Int} (h : 0 ≤ y) : ch y = 128 + y % 128 ∧ bitsI .andNot .u8 (128 + y % 128) 128 = y % 128 := by
  obtain ⟨h1, h2⟩ := ch_val ⟨(y % 256).toNat, by omega⟩
  have e : (((y % 256).toNat : Nat) : Int) = y % 256 := by omega
  simp only [e] at h1 h2
  have e2 : y % 256 % 128 = y % 128 := by omega
  rw [e2] at h1 h2
  refine ⟨?_, h2⟩
  rw [ch, wrap_u8, h1]
theorem get_pt_l (n : Nat) (s : ByteArray) (hs : s.size ≤ 100000) : ∀ (k m i : Nat) (acc y : Int) (rest : List Int), (bytesL s).drop i = putL k y ++ rest → 1 ≤ k → y < 128 ^ k → 0 ≤ y → 0 ≤ acc → acc < 2 ^ (7 * i) → acc + y * 2 ^ (7 * i) < 18446744073709551616 → (0 < i → 1 ≤ y) → i + k ≤ 10 → k < m →
    F70_l7 n s m acc (i : Int) = some (acc + y * 2 ^ (7 * i), ((i + (putL k y).length : Nat) : Int), 0)
  | 0, _, _, _, _, _, _, h, _, _, _, _, _, _, _, _ => by omega
  | k + 1, 0, _, _, _, _, _, _, _, _, _, _, _, _, _, h => by omega
  | k + 1, m + 1, i, acc, y, rest, hd, _, hy, hy0, ha0, ha, hb, hp, hk, hm => by
    have hl : (bytesL s).length = s.size := bytesL_len s
    have hne : (bytesL s).drop i ≠ [] := by
      rw [hd]; intro h
      have := putL_len k y
      have h2 := congrArg List.length h
      simp only [List.length_append, List.length_nil] at h2
      omega
    have hi : i < (bytesL s).length := by
      apply Nat.lt_of_not_le; intro h; exact hne (List.drop_eq_nil_of_le h)
    have hdr := List.drop_eq_getElem_cons hi
    have ex := ixb s i hi
    have w7 : IntKind.wrap .i64 (7 * (i : Int)) = ((7 * i : Nat) : Int) := by rw [w64 (by omega) (by omega)]; push_cast; rfl
    have w1 : IntKind.wrap .i64 ((i : Int) + 1) = ((i + 1 : Nat) : Int) := by rw [w64 (by omega) (by omega)]; push_cast; rfl
    have g7 : ¬ (((7 * i : Nat) : Int) < 0) := by omega
    have ne : (((i + 1 : Nat) : Int) == 0) = false := by simp; omega
    have hdd : decide ((i : Int) < ((bytesL s).length : Int)) = true := by simp; omega
    have pp : (0 : Int) < 2 ^ (7 * i) := Int.pow_pos (by decide)
    unfold F70_l7
    simp only [hdd, if_true, ex, Option.bind_some]
    by_cases h : 128 ≤ y
    · obtain ⟨c1, c2⟩ := ch_is hy0
      have hk1 : 1 ≤ k := by
        cases k with
        | zero => simp at hy; omega
        | succ k => omega
      have hpl : putL (k + 1) y = ch y :: putL k (y / 128) := by rw [putL, if_pos h]
      rw [hpl, hdr] at hd
      simp only [List.cons_append, List.cons.injEq] at hd
      have h9 : ((i : Int) == 9) = false := by simp; omega
      have hz : ((128 + y % 128) == 0) = false := by simp; omega
      have hlt : decide (128 + y % 128 < 128) = false := by simp; omega
      have hmod : 0 ≤ y % 128 ∧ y % 128 < 128 := by omega
      have pow : (2 : Int) ^ (7 * (i + 1)) = 2 ^ (7 * i) * 128 := by
        rw [show 7 * (i + 1) = 7 * i + 7 by omega, Int.pow_add]; rfl
      have split : y * 2 ^ (7 * i) = (y % 128) * 2 ^ (7 * i) + y / 128 * 2 ^ (7 * (i + 1)) := by
        rw [pow, ← Int.mul_assoc, Int.mul_right_comm, ← Int.add_mul]
        congr 1; omega
      have hq0 : 0 ≤ y / 128 * 2 ^ (7 * (i + 1)) := Int.mul_nonneg (by omega) (Int.le_of_lt (Int.pow_pos (by decide)))
      have hr0 : 0 ≤ (y % 128) * 2 ^ (7 * i) := Int.mul_nonneg hmod.1 (Int.le_of_lt pp)
      have ws : IntKind.wrap .u64 (y % 128) = y % 128 := by rw [wrap_u64]; omega
      have sh : shlI .u64 (y % 128) ((7 * i : Nat) : Int) = (y % 128) * 2 ^ (7 * i) := shlI_mul (by omega) hmod.1 (by omega)
      have orr : bitsI .or .u64 acc ((y % 128) * 2 ^ (7 * i)) = acc + (y % 128) * 2 ^ (7 * i) := orI ha0 ha hmod.1 (by omega)
      have step : F70_j9 n acc (i : Int) (ch y) (F70_l7 n s m) = F70_l7 n s m (acc + (y % 128) * 2 ^ (7 * i)) ((i + 1 : Nat) : Int) := by
        unfold F70_j9 F70_j10
        simp only [c1, c2, hz, hlt, w7, w1, g7, not_false_eq_true, if_true, Bool.false_eq_true, if_false, ws, sh, orr, ite_self]
      have hrec := get_pt_l n s hs k m (i + 1) (acc + (y % 128) * 2 ^ (7 * i)) (y / 128) rest hd.2 hk1 (by rw [Int.pow_succ] at hy; exact Int.ediv_lt_of_lt_mul (by decide) hy) (by omega) (by omega) (by
        rw [pow]
        have : (y % 128) * 2 ^ (7 * i) ≤ 127 * 2 ^ (7 * i) := Int.mul_le_mul_of_nonneg_right (by omega) (Int.le_of_lt pp)
        omega) (by omega) (by omega) (by omega) (by omega)
      simp only [h9, Bool.false_eq_true, if_false, hd.1]
      rw [step, hrec, hpl, split]
      simp only [List.length_cons, Int.add_assoc]
      congr 3
      omega
    · have hpl : putL (k + 1) y = [IntKind.wrap .u8 y] := by rw [putL, if_neg h]
      have wy : IntKind.wrap .u8 y = y := by rw [wrap_u8]; omega
      rw [hpl, hdr, wy] at hd
      simp only [List.cons_append, List.cons.injEq, List.nil_append] at hd
      have hlt : decide (y < 128) = true := by simp; omega
      have ws : IntKind.wrap .u64 y = y := by rw [wrap_u64]; omega
      have hr0 : 0 ≤ y * 2 ^ (7 * i) := Int.mul_nonneg hy0 (Int.le_of_lt pp)
      have sh : shlI .u64 y ((7 * i : Nat) : Int) = y * 2 ^ (7 * i) := shlI_mul (by omega) hy0 (by omega)
      have orr : bitsI .or .u64 acc (y * 2 ^ (7 * i)) = acc + y * 2 ^ (7 * i) := orI ha0 ha hy0 hb
      have last : F70_j9 n acc (i : Int) y (F70_l7 n s m) = some (acc + y * 2 ^ (7 * i), ((i + 1 : Nat) : Int), 0) := by
        unfold F70_j9 F70_j10 F70_j13
        simp only [hlt, w7, w1, g7, not_false_eq_true, if_true, ne, Bool.false_eq_true, if_false, ws, sh, orr]
        by_cases h0 : (0 : Int) < i
        · have hz : (y == 0) = false := by have := hp (by omega); simp; omega
          simp only [h0, decide_true, if_true, hz, Bool.false_eq_true, if_false]
        · simp only [h0, decide_false, Bool.false_eq_true, if_false]
      rw [hpl, hd.1]
      simp only [List.length_cons, List.length_nil, Nat.zero_add]
      by_cases h9 : ((i : Int) == 9) = true
      · have hi9 : i = 9 := by simp at h9; omega
        have hy1 : y ≤ 1 := by
          subst hi9
          have : (2 : Int) ^ (7 * 9) = 9223372036854775808 := by decide
          rw [this] at hb
          omega
        have : decide ((1 : Int) < y) = false := by simp; omega
        simp only [h9, if_true, this, Bool.false_eq_true, if_false, last]
      · simp only [h9, Bool.false_eq_true, if_false, last]
theorem get_pt (n : Nat) (hn : 10 ≤ n) (x : Int) (h0 : 0 ≤ x) (h1 : x < 18446744073709551616) (t : ByteArray) (hs : (pt x ++ t).size ≤ 100000) : F70 n (pt x ++ t) = some (x, ((pt x).size : Int), 0) := by
  unfold F70
  have hb : ∀ (k : Nat) (y : Int), 0 ≤ y → ∀ z ∈ putL k y, 0 ≤ z ∧ z < 256 := by
    intro k
    induction k with
    | zero => intro y _ z hz; simp [putL] at hz
    | succ k ih =>
      intro y hy z hz
      rw [putL] at hz
      split at hz
      · simp only [List.mem_cons] at hz
        rcases hz with rfl | hz
        · rw [(ch_is hy).1]; omega
        · exact ih _ (by omega) z hz
      · simp only [List.mem_singleton] at hz
        subst hz
        rw [wrap_u8]; omega
  have hd : (bytesL (pt x ++ t)).drop 0 = putL 10 x ++ bytesL t := by
    rw [List.drop_zero, bytesL_app, pt, bytesL_mk _ (hb 10 x h0)]
  have := get_pt_l n (pt x ++ t) hs 10 (n + 8) 0 0 x (bytesL t) hd (by omega) (pow10 h1) h0 (by omega) (by decide) (by simpa using h1) (by omega) (by omega) (by omega)
  rw [show ((0 : Nat) : Int) = 0 from rfl] at this
  rw [this, pt, mkStr_size]
  simp
theorem arr_ext (a b : Array UInt8) : (a ++ b).extract a.size (a.size + b.size) = b := by simp
theorem arr_mid (a b c : Array UInt8) : (a ++ (b ++ c)).extract a.size (a.size + b.size) = b := by simp [Array.extract_append]
theorem ext_app (a b : ByteArray) : (a ++ b).extract a.size (a ++ b).size = b := by
  apply ba_ext
  rw [ByteArray.data_extract, ByteArray.data_append, ba_size]
  exact arr_ext a.data b.data
theorem ext_mid (a b c : ByteArray) : (a ++ (b ++ c)).extract a.size (a.size + b.size) = b := by
  apply ba_ext
  rw [ByteArray.data_extract, ByteArray.data_append, ByteArray.data_append]
  exact arr_mid a.data b.data c.data
theorem pu_small {x : Int} (h0 : 0 ≤ x) (h : x < 18446744073709551616) : pu x = pt x := by
  unfold pu; rw [wrap_u64]; congr 1; omega
theorem texts_tx (n : Nat) (hn : 10 ≤ n) (t r : ByteArray) (ht : t.size ≤ 12) (hs : (tx t ++ r).size ≤ 100000) : F67 n (tx t ++ r) 12 = some (t, ((tx t).size : Int), 0) := by
  have hp : pu (t.size : Int) = pt (t.size : Int) := pu_small (by omega) (by omega)
  have e : tx t ++ r = pt (t.size : Int) ++ (t ++ r) := by rw [tx, hp, ba_assoc]
  have hp1 : (pt (t.size : Int)).size = 1 := pt_one (by omega)
  have hsz : (tx t).size = 1 + t.size := by rw [tx, hp, ba_size, hp1]
  rw [e] at hs ⊢
  have hss : (pt (t.size : Int) ++ (t ++ r)).size = 1 + (t.size + r.size) := by rw [ba_size, ba_size, hp1]
  unfold F67
  rw [get_pt n hn _ (by omega) (by omega) _ hs]
  have m1 : IntKind.wrap .u64 (imax 12 0) = 12 := rfl
  have w0 : IntKind.wrap .u64 (IntKind.wrap .i64 (((pt (t.size : Int) ++ (t ++ r)).size : Int) - ((pt (t.size : Int)).size : Int))) = t.size + r.size := by
    rw [hss, hp1, w64 (by omega) (by omega), wrap_u64]; omega
  have c1 : decide ((12 : Int) < (t.size : Int)) = false := by simp; omega
  have c2 : decide (((t.size : Int) + r.size) < (t.size : Int)) = false := by simp; omega
  have w1 : IntKind.wrap .i64 (t.size : Int) = t.size := w64 (by omega) (by omega)
  have w2 : IntKind.wrap .i64 (((pt (t.size : Int)).size : Int) + t.size) = 1 + t.size := by rw [hp1, w64 (by omega) (by omega)]; rfl
  simp only [Option.bind_some, bne_self_eq_false, Bool.false_eq_true, if_false, m1, w0, c1, c2, w1, w2]
  rw [if_pos (by rw [hss, hp1]; omega), hsz]
  have e3 : ((1 : Int) + (t.size : Int)).toNat = (pt (t.size : Int)).size + t.size := by rw [hp1]; omega
  have e4 : (((pt (t.size : Int)).size : Nat) : Int).toNat = (pt (t.size : Int)).size := rfl
  rw [e3, e4, ext_mid]
  push_cast
  rfl
theorem zig_pos {v : Int} (h0 : 0 ≤ v) (h1 : v < 9223372036854775808) : bitsI .xor .u64 (shlI .u64 (IntKind.wrap .u64 v) 1) (IntKind.wrap .u64 (shrI .i64 v 63)) = 2 * v := by
  have e1 : shrI .i64 v 63 = 0 := by
    show Int.fdiv v 9223372036854775808 = 0
    rw [Int.fdiv_eq_ediv_of_nonneg v (by decide)]; omega
  have e2 : shlI .u64 (IntKind.wrap .u64 v) 1 = 2 * v := by
    rw [wrap_u64]
    show IntKind.wrap .u64 (v % 18446744073709551616 * 2) = _
    rw [wrap_u64]; omega
  rw [e1, e2]
  show IntKind.wrap .u64 (((BitVec.ofInt 64 (2 * v) ^^^ BitVec.ofInt 64 (0 : Int)).toNat : Nat) : Int) = _
  have : BitVec.ofInt 64 (0 : Int) = 0#64 := rfl
  rw [this, BitVec.xor_zero, BitVec.toNat_ofInt, wrap_u64]
  omega
theorem zig_neg {v : Int} (h0 : v < 0) (h1 : -9223372036854775808 ≤ v) : bitsI .xor .u64 (shlI .u64 (IntKind.wrap .u64 v) 1) (IntKind.wrap .u64 (shrI .i64 v 63)) = -2 * v - 1 := by
  have e1 : shrI .i64 v 63 = -1 := by
    show Int.fdiv v 9223372036854775808 = -1
    rw [Int.fdiv_eq_ediv_of_nonneg v (by decide)]; omega
  have e2 : shlI .u64 (IntKind.wrap .u64 v) 1 = 18446744073709551616 + 2 * v ∨ shlI .u64 (IntKind.wrap .u64 v) 1 = 2 * v + 18446744073709551616 := by
    left
    rw [wrap_u64]
    show IntKind.wrap .u64 (v % 18446744073709551616 * 2) = _
    rw [wrap_u64]; omega
  have e2 : shlI .u64 (IntKind.wrap .u64 v) 1 = 18446744073709551616 + 2 * v := by omega
  rw [e1, e2]
  show IntKind.wrap .u64 (((BitVec.ofInt 64 (18446744073709551616 + 2 * v) ^^^ BitVec.ofInt 64 (IntKind.wrap .u64 (-1))).toNat : Nat) : Int) = _
  have : BitVec.ofInt 64 (IntKind.wrap .u64 (-1)) = BitVec.allOnes 64 := by decide +kernel
  rw [this, BitVec.xor_allOnes, BitVec.toNat_not, BitVec.toNat_ofInt, wrap_u64]
  omega
theorem and1 {u : Int} (h0 : 0 ≤ u) (h1 : u < 18446744073709551616) : bitsI .and .u64 u 1 = u % 2 := by
  obtain ⟨k, rfl⟩ := Int.eq_ofNat_of_zero_le h0
  have e1 : (BitVec.ofInt 64 (k : Int)).toNat = k := by rw [BitVec.toNat_ofInt]; omega
  have e2 : (BitVec.ofInt 64 (1 : Int)).toNat = 1 := rfl
  have e3 : k &&& 1 = k % 2 := Nat.and_two_pow_sub_one_eq_mod k 1
  show IntKind.wrap .u64 (((BitVec.ofInt 64 (k : Int) &&& BitVec.ofInt 64 (1 : Int)).toNat : Nat) : Int) = _
  rw [BitVec.toNat_and, e1, e2, e3, wrap_u64]
  omega
theorem shr1 (x : Int) : shrI .u64 x 1 = x / 2 := by
  show Int.fdiv x 2 = x / 2
  exact Int.fdiv_eq_ediv_of_nonneg x (by decide)
theorem zag_even {v : Int} (h0 : 0 ≤ v) (h1 : v < 9223372036854775808) (n : Nat) : F74 n (2 * v) = some v := by
  unfold F74
  have a : bitsI .and .u64 (2 * v) 1 = 0 := by rw [and1 (by omega) (by omega)]; omega
  have b : IntKind.wrap .i64 (shrI .u64 (2 * v) 1) = v := by rw [shr1, w64 (by omega) (by omega)]; omega
  have z : IntKind.wrap .i64 (0 - IntKind.wrap .i64 0) = 0 := rfl
  rw [a, b, z]
  refine congrArg some ?_
  show IntKind.wrap .i64 (((BitVec.ofInt 64 v ^^^ BitVec.ofInt 64 (0 : Int)).toNat : Nat) : Int) = _
  have : BitVec.ofInt 64 (0 : Int) = 0#64 := rfl
  rw [this, BitVec.xor_zero, BitVec.toNat_ofInt, wrap_i64]
  omega
theorem zag_odd {v : Int} (h0 : v < 0) (h1 : -9223372036854775808 ≤ v) (n : Nat) : F74 n (-2 * v - 1) = some v := by
  unfold F74
  have a : bitsI .and .u64 (-2 * v - 1) 1 = 1 := by rw [and1 (by omega) (by omega)]; omega
  have b : IntKind.wrap .i64 (shrI .u64 (-2 * v - 1) 1) = -v - 1 := by rw [shr1, w64 (by omega) (by omega)]; omega
  have z : IntKind.wrap .i64 (0 - IntKind.wrap .i64 1) = -1 := rfl
  rw [a, b, z]
  refine congrArg some ?_
  show IntKind.wrap .i64 (((BitVec.ofInt 64 (-v - 1) ^^^ BitVec.ofInt 64 (-1 : Int)).toNat : Nat) : Int) = _
  have : BitVec.ofInt 64 (-1 : Int) = BitVec.allOnes 64 := by decide +kernel
  rw [this, BitVec.xor_allOnes, BitVec.toNat_not, BitVec.toNat_ofInt, wrap_i64]
  omega
theorem ints_zg (n : Nat) (hn : 10 ≤ n) (v : Int) (h0 : -9223372036854775808 ≤ v) (h1 : v < 9223372036854775808) (r : ByteArray) (hs : (zg v ++ r).size ≤ 100000) : F65 n (zg v ++ r) = some (v, ((zg v).size : Int), 0) := by
  unfold F65
  unfold zg at hs ⊢
  rw [get_pt n hn _ (xor_in _ _).1 (xor_in _ _).2 _ hs]
  simp only [Option.bind_some]
  by_cases h : 0 ≤ v
  · rw [zig_pos h h1, zag_even h h1]; rfl
  · rw [zig_neg (by omega) h0, zag_odd (by omega) h0]; rfl
end Go.Proofs.Ythmbegagkgdopaa
