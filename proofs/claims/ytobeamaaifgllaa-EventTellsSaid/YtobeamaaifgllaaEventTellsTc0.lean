/-
  The bytes of deltas. No condition.
-/
import Derived.Test.YtobeamaaifgllaaEventTellsTb
namespace Go.Proofs.Ytobeamaaifgllaa
open Go Go.Rx
set_option maxRecDepth 100000
set_option linter.unusedSimpArgs false
set_option linter.unnecessarySimpa false
set_option linter.unusedVariables false
theorem shr7 (x : Int) : shrI .u64 x 7 = x / 128 := by
  show Int.fdiv x 128 = x / 128
  exact Int.fdiv_eq_ediv_of_nonneg x (by decide)
theorem wrap_u64 (x : Int) : IntKind.wrap .u64 x = x % 18446744073709551616 := by simp [IntKind.wrap, IntKind.bits, IntKind.signed]
theorem wrap_u8 (x : Int) : IntKind.wrap .u8 x = x % 256 := by simp [IntKind.wrap, IntKind.bits, IntKind.signed]
theorem and127 {x : Int} (h0 : 0 ≤ x) (h1 : x < 18446744073709551616) : bitsI .and .u64 x 127 = x % 128 := by
  obtain ⟨k, rfl⟩ := Int.eq_ofNat_of_zero_le h0
  have e1 : (BitVec.ofInt 64 (k : Int)).toNat = k := by simp; omega
  have e2 : (BitVec.ofInt 64 (127 : Int)).toNat = 127 := rfl
  have e3 : k &&& 127 = k % 128 := Nat.and_two_pow_sub_one_eq_mod k 7
  show IntKind.wrap .u64 (((BitVec.ofInt 64 (k : Int) &&& BitVec.ofInt 64 (127 : Int)).toNat : Nat) : Int) = _
  rw [BitVec.toNat_and, e1, e2, e3, wrap_u64]
  omega
def ch (x : Int) : Int := bitsI .or .u8 (IntKind.wrap .u8 x) 128
theorem ch_fin : ∀ k : Fin 256, bitsI .or .u8 ((k.val : Int) % 128) 128 = bitsI .or .u8 (k.val : Int) 128 := by decide +kernel
theorem ch_ref {x : Int} (h0 : 0 ≤ x) (h1 : x < 18446744073709551616) : bitsI .or .u8 (IntKind.wrap .u8 (bitsI .and .u64 x 127)) 128 = ch x := by
  rw [and127 h0 h1, ch, wrap_u8, wrap_u8]
  have := ch_fin ⟨(x % 256).toNat, by omega⟩
  simp only at this
  have e : (((x % 256).toNat : Nat) : Int) = x % 256 := by omega
  rw [e] at this
  rw [← this]
  congr 1
  omega
theorem push_data (l : List Int) : ∀ s : ByteArray, (l.foldl (fun r n => r.push (UInt8.ofNat n.toNat)) s).data = s.data ++ (l.map fun n => UInt8.ofNat n.toNat).toArray := by
  induction l with
  | nil => intro s; simp
  | cons a l ih => intro s; simp only [List.foldl_cons, ih, List.map_cons]; cases s; simp [ByteArray.push]
theorem mkStr_data (l : List Int) : (mkStr l).data = (l.map fun n => UInt8.ofNat n.toNat).toArray := by
  unfold mkStr
  rw [push_data]
  show (#[] : Array UInt8) ++ _ = _
  simp
theorem mkStr_size (l : List Int) : (mkStr l).size = l.length := by
  show (mkStr l).data.size = _
  rw [mkStr_data]; simp
theorem ba_ext {a b : ByteArray} (h : a.data = b.data) : a = b := by cases a; cases b; simp only at h; rw [h]
theorem mkStr_app (a b : List Int) : mkStr (a ++ b) = mkStr a ++ mkStr b := by
  apply ba_ext
  rw [ByteArray.data_append, mkStr_data, mkStr_data, mkStr_data]; simp
theorem ba_assoc (a b c : ByteArray) : a ++ b ++ c = a ++ (b ++ c) := by
  apply ba_ext
  simp [ByteArray.data_append, Array.append_assoc]
theorem ba_size (a b : ByteArray) : (a ++ b).size = a.size + b.size := by
  show (a ++ b).data.size = _
  rw [ByteArray.data_append, Array.size_append]
  rfl
theorem ba_nil (a : ByteArray) : ByteArray.empty ++ a = a := by
  apply ba_ext
  rw [ByteArray.data_append]
  show (#[] : Array UInt8) ++ _ = _
  simp
def putL : Nat → Int → List Int
  | 0, _ => []
  | k + 1, x => if 128 ≤ x then ch x :: putL k (x / 128) else [IntKind.wrap .u8 x]
theorem putL_len : ∀ (k : Nat) (x : Int), (putL (k + 1) x).length ≤ k + 1 ∧ 1 ≤ (putL (k + 1) x).length
  | 0, x => by unfold putL; split <;> simp [putL]
  | k + 1, x => by
    have := putL_len k (x / 128)
    unfold putL
    split
    · simp only [List.length_cons]; omega
    · simp
theorem putL_one {k : Nat} {x : Int} (h : x < 128) : (putL (k + 1) x).length = 1 := by
  unfold putL; rw [if_neg (by omega)]; rfl
theorem pow10 {x : Int} (h : x < 18446744073709551616) : x < 128 ^ 10 := by
  have : (128 : Int) ^ 10 = 1180591620717411303424 := by decide
  rw [this]; omega
def pt (x : Int) : ByteArray := mkStr (putL 10 x)
theorem pt_size (x : Int) : (pt x).size ≤ 10 ∧ 1 ≤ (pt x).size := by
  rw [pt, mkStr_size]; exact putL_len 9 x
theorem pt_one {x : Int} (h : x < 128) : (pt x).size = 1 := by rw [pt, mkStr_size]; exact putL_one h
theorem u64_in (x : Int) : 0 ≤ IntKind.wrap .u64 x ∧ IntKind.wrap .u64 x < 18446744073709551616 := by rw [wrap_u64]; omega
def pu (x : Int) : ByteArray := pt (IntKind.wrap .u64 x)
theorem pu_size (x : Int) : (pu x).size ≤ 10 ∧ 1 ≤ (pu x).size := pt_size _
def tx (s : ByteArray) : ByteArray := pu (s.size : Int) ++ s
theorem tx_size (s : ByteArray) : (tx s).size ≤ 10 + s.size ∧ 1 + s.size ≤ (tx s).size := by
  have := pu_size (s.size : Int)
  rw [tx, ba_size]; omega
theorem xor_in (a b : Int) : 0 ≤ bitsI .xor .u64 a b ∧ bitsI .xor .u64 a b < 18446744073709551616 := u64_in _
def zg (x : Int) : ByteArray := pt (bitsI .xor .u64 (shlI .u64 (IntKind.wrap .u64 x) 1) (IntKind.wrap .u64 (shrI .i64 x 63)))
def isE (s : ByteArray) : Bool := s.toList == ByteArray.empty.toList
def stage (s : ByteArray) (f : Field) (e : Bool) : ByteArray := if e then (if isE f.Text then s ++ tx f.Text ++ zg f.N else s ++ tx f.Text) else s
theorem stage_size (s : ByteArray) (f : Field) (e : Bool) (h : f.Text.size ≤ 40) : (stage s f e).size ≤ s.size + 60 := by
  have := tx_size f.Text
  have := pt_size (bitsI .xor .u64 (shlI .u64 (IntKind.wrap .u64 f.N) 1) (IntKind.wrap .u64 (shrI .i64 f.N 63)))
  have hz : (zg f.N).size ≤ 10 := this.1
  unfold stage
  split
  · split
    · rw [ba_size, ba_size]; omega
    · rw [ba_size]; omega
  · omega
def head (d : Delta) : ByteArray := if a1 d then (pu d.ID ++ pu d.Mask) ++ (pu d.At.X ++ pu d.At.Y) else pu d.ID ++ pu d.Mask
def body (s : ByteArray) (d : Delta) : ByteArray := stage (stage (stage (stage s d.F.a0 (hs d.Mask 1)) d.F.a1 (hs d.Mask 2)) d.F.a2 (hs d.Mask 3)) d.F.a3 (hs d.Mask 4)
def Few (d : Delta) : Prop := d.F.a0.Text.size ≤ 40 ∧ d.F.a1.Text.size ≤ 40 ∧ d.F.a2.Text.size ≤ 40 ∧ d.F.a3.Text.size ≤ 40
theorem head_size (d : Delta) : (head d).size ≤ 40 := by
  have p1 := pu_size d.ID; have p2 := pu_size d.Mask; have p3 := pu_size d.At.X; have p4 := pu_size d.At.Y
  unfold head
  split
  · rw [ba_size, ba_size, ba_size]; omega
  · rw [ba_size]; omega
end Go.Proofs.Ytobeamaaifgllaa
