/-
  What was written is read: texts, signed numbers. No condition.
-/
import Derived.Test.YtobeamaaifgllaaThingManyTe
import Derived.Test.YtobeamaaifgllaaThingManyP1
namespace Go.Proofs.Ytobeamaaifgllaa
open Go Go.Rx
set_option maxRecDepth 100000
set_option linter.unusedSimpArgs false
set_option linter.unnecessarySimpa false
set_option linter.unusedVariables false

theorem arr_ext (a b : Array UInt8) : (a ++ b).extract a.size (a.size + b.size) = b := by simp
theorem arr_mid (a b c : Array UInt8) : (a ++ (b ++ c)).extract a.size (a.size + b.size) = b := by simp [Array.extract_append]
theorem ext_app (a b : ByteArray) : (a ++ b).extract a.size (a ++ b).size = b := by
  apply ba_ext
  rw [ByteArray.data_extract, ByteArray.data_append, ba_size]
  exact arr_ext a.data b.data
theorem ext_mid (a b c : ByteArray) : (a ++ (b ++ c)).extract a.size (a.size + b.size) = b := by
  apply ba_ext
  rw [ByteArray.data_extract, ByteArray.data_append, ByteArray.data_append]
  exact arr_mid a.data b.data c.data
theorem pu_small {x : Int} (h0 : 0 ≤ x) (h : x < 18446744073709551616) : pu x = pt x := by
  unfold pu; rw [wrap_u64]; congr 1; omega
theorem texts_tx (n : Nat) (hn : 10 ≤ n) (t r : ByteArray) (ht : t.size ≤ 12) (hs : (tx t ++ r).size ≤ 100000) : F117 n (tx t ++ r) 12 = some (t, ((tx t).size : Int), 0) := by
  have hp : pu (t.size : Int) = pt (t.size : Int) := pu_small (by omega) (by omega)
  have e : tx t ++ r = pt (t.size : Int) ++ (t ++ r) := by rw [tx, hp, ba_assoc]
  have hp1 : (pt (t.size : Int)).size = 1 := pt_one (by omega)
  have hsz : (tx t).size = 1 + t.size := by rw [tx, hp, ba_size, hp1]
  rw [e] at hs ⊢
  have hss : (pt (t.size : Int) ++ (t ++ r)).size = 1 + (t.size + r.size) := by rw [ba_size, ba_size, hp1]
  unfold F117
  rw [get_pt n hn _ (by omega) (by omega) _ hs]
  have m1 : IntKind.wrap .u64 (imax 12 0) = 12 := rfl
  have w0 : IntKind.wrap .u64 (IntKind.wrap .i64 (((pt (t.size : Int) ++ (t ++ r)).size : Int) - ((pt (t.size : Int)).size : Int))) = t.size + r.size := by
    rw [hss, hp1, w64 (by omega) (by omega), wrap_u64]; omega
  have c1 : decide ((12 : Int) < (t.size : Int)) = false := by simp; omega
  have c2 : decide (((t.size : Int) + r.size) < (t.size : Int)) = false := by simp; omega
  have w1 : IntKind.wrap .i64 (t.size : Int) = t.size := w64 (by omega) (by omega)
  have w2 : IntKind.wrap .i64 (((pt (t.size : Int)).size : Int) + t.size) = 1 + t.size := by rw [hp1, w64 (by omega) (by omega)]; rfl
  simp only [Option.bind_some, bne_self_eq_false, Bool.false_eq_true, if_false, m1, w0, c1, c2, w1, w2]
  rw [if_pos (by rw [hss, hp1]; omega), hsz]
  have e3 : ((1 : Int) + (t.size : Int)).toNat = (pt (t.size : Int)).size + t.size := by rw [hp1]; omega
  have e4 : (((pt (t.size : Int)).size : Nat) : Int).toNat = (pt (t.size : Int)).size := rfl
  rw [e3, e4, ext_mid]
  push_cast
  rfl

theorem zig_pos {v : Int} (h0 : 0 ≤ v) (h1 : v < 9223372036854775808) : bitsI .xor .u64 (shlI .u64 (IntKind.wrap .u64 v) 1) (IntKind.wrap .u64 (shrI .i64 v 63)) = 2 * v := by
  have e1 : shrI .i64 v 63 = 0 := by
    show Int.fdiv v 9223372036854775808 = 0
    rw [Int.fdiv_eq_ediv_of_nonneg v (by decide)]; omega
  have e2 : shlI .u64 (IntKind.wrap .u64 v) 1 = 2 * v := by
    rw [wrap_u64]
    show IntKind.wrap .u64 (v % 18446744073709551616 * 2) = _
    rw [wrap_u64]; omega
  rw [e1, e2]
  show IntKind.wrap .u64 (((BitVec.ofInt 64 (2 * v) ^^^ BitVec.ofInt 64 (0 : Int)).toNat : Nat) : Int) = _
  have : BitVec.ofInt 64 (0 : Int) = 0#64 := rfl
  rw [this, BitVec.xor_zero, BitVec.toNat_ofInt, wrap_u64]
  omega
theorem zig_neg {v : Int} (h0 : v < 0) (h1 : -9223372036854775808 ≤ v) : bitsI .xor .u64 (shlI .u64 (IntKind.wrap .u64 v) 1) (IntKind.wrap .u64 (shrI .i64 v 63)) = -2 * v - 1 := by
  have e1 : shrI .i64 v 63 = -1 := by
    show Int.fdiv v 9223372036854775808 = -1
    rw [Int.fdiv_eq_ediv_of_nonneg v (by decide)]; omega
  have e2 : shlI .u64 (IntKind.wrap .u64 v) 1 = 18446744073709551616 + 2 * v ∨ shlI .u64 (IntKind.wrap .u64 v) 1 = 2 * v + 18446744073709551616 := by
    left
    rw [wrap_u64]
    show IntKind.wrap .u64 (v % 18446744073709551616 * 2) = _
    rw [wrap_u64]; omega
  have e2 : shlI .u64 (IntKind.wrap .u64 v) 1 = 18446744073709551616 + 2 * v := by omega
  rw [e1, e2]
  show IntKind.wrap .u64 (((BitVec.ofInt 64 (18446744073709551616 + 2 * v) ^^^ BitVec.ofInt 64 (IntKind.wrap .u64 (-1))).toNat : Nat) : Int) = _
  have : BitVec.ofInt 64 (IntKind.wrap .u64 (-1)) = BitVec.allOnes 64 := by decide +kernel
  rw [this, BitVec.xor_allOnes, BitVec.toNat_not, BitVec.toNat_ofInt, wrap_u64]
  omega
theorem and1 {u : Int} (h0 : 0 ≤ u) (h1 : u < 18446744073709551616) : bitsI .and .u64 u 1 = u % 2 := by
  obtain ⟨k, rfl⟩ := Int.eq_ofNat_of_zero_le h0
  have e1 : (BitVec.ofInt 64 (k : Int)).toNat = k := by rw [BitVec.toNat_ofInt]; omega
  have e2 : (BitVec.ofInt 64 (1 : Int)).toNat = 1 := rfl
  have e3 : k &&& 1 = k % 2 := Nat.and_two_pow_sub_one_eq_mod k 1
  show IntKind.wrap .u64 (((BitVec.ofInt 64 (k : Int) &&& BitVec.ofInt 64 (1 : Int)).toNat : Nat) : Int) = _
  rw [BitVec.toNat_and, e1, e2, e3, wrap_u64]
  omega
theorem shr1 (x : Int) : shrI .u64 x 1 = x / 2 := by
  show Int.fdiv x 2 = x / 2
  exact Int.fdiv_eq_ediv_of_nonneg x (by decide)
theorem wrap_i64 (x : Int) : IntKind.wrap .i64 x = (x + 9223372036854775808) % 18446744073709551616 - 9223372036854775808 := by
  simp [IntKind.wrap, IntKind.bits, IntKind.signed]; omega
theorem zag_even {v : Int} (h0 : 0 ≤ v) (h1 : v < 9223372036854775808) (n : Nat) : F121 n (2 * v) = some v := by
  unfold F121
  have a : bitsI .and .u64 (2 * v) 1 = 0 := by rw [and1 (by omega) (by omega)]; omega
  have b : IntKind.wrap .i64 (shrI .u64 (2 * v) 1) = v := by rw [shr1, w64 (by omega) (by omega)]; omega
  have z : IntKind.wrap .i64 (0 - IntKind.wrap .i64 0) = 0 := rfl
  rw [a, b, z]
  refine congrArg some ?_
  show IntKind.wrap .i64 (((BitVec.ofInt 64 v ^^^ BitVec.ofInt 64 (0 : Int)).toNat : Nat) : Int) = _
  have : BitVec.ofInt 64 (0 : Int) = 0#64 := rfl
  rw [this, BitVec.xor_zero, BitVec.toNat_ofInt, wrap_i64]
  omega
theorem zag_odd {v : Int} (h0 : v < 0) (h1 : -9223372036854775808 ≤ v) (n : Nat) : F121 n (-2 * v - 1) = some v := by
  unfold F121
  have a : bitsI .and .u64 (-2 * v - 1) 1 = 1 := by rw [and1 (by omega) (by omega)]; omega
  have b : IntKind.wrap .i64 (shrI .u64 (-2 * v - 1) 1) = -v - 1 := by rw [shr1, w64 (by omega) (by omega)]; omega
  have z : IntKind.wrap .i64 (0 - IntKind.wrap .i64 1) = -1 := rfl
  rw [a, b, z]
  refine congrArg some ?_
  show IntKind.wrap .i64 (((BitVec.ofInt 64 (-v - 1) ^^^ BitVec.ofInt 64 (-1 : Int)).toNat : Nat) : Int) = _
  have : BitVec.ofInt 64 (-1 : Int) = BitVec.allOnes 64 := by decide +kernel
  rw [this, BitVec.xor_allOnes, BitVec.toNat_not, BitVec.toNat_ofInt, wrap_i64]
  omega
theorem ints_zg (n : Nat) (hn : 10 ≤ n) (v : Int) (h0 : -9223372036854775808 ≤ v) (h1 : v < 9223372036854775808) (r : ByteArray) (hs : (zg v ++ r).size ≤ 100000) : F118 n (zg v ++ r) = some (v, ((zg v).size : Int), 0) := by
  unfold F118
  unfold zg at hs ⊢
  rw [get_pt n hn _ (xor_in _ _).1 (xor_in _ _).2 _ hs]
  simp only [Option.bind_some]
  by_cases h : 0 ≤ v
  · rw [zig_pos h h1, zag_even h h1]; rfl
  · rw [zig_neg (by omega) h0, zag_odd (by omega) h0]; rfl
end Go.Proofs.Ytobeamaaifgllaa
