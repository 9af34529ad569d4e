/- No condition. -/
import Derived.Test.YtpjejnefegdoeaaNoteBackV
import Derived.Test.YtpjejnefegdoeaaNoteBackP1
namespace Go.Proofs.Ytpjejnefegdoeaa
open Go Go.Rx
set_option maxRecDepth 100000
set_option linter.unusedVariables false
set_option linter.unusedSimpArgs false
set_option linter.unnecessarySimpa false
set_option linter.unnecessarySimpa false
theorem Point.eqb_iff (x y : Point) : Point.eqb x y = true ↔ x = y := by
 cases x; cases y; simp [Point.eqb]
theorem Field.eqb_iff (x y : Field) : Field.eqb x y = true ↔ x = y := by
 cases x; cases y; simp [Field.eqb, ba_beq]
theorem A4_Field.eqb_iff (x y : A4 Field) : A4_Field.eqb x y = true ↔ x = y := by
 cases x; cases y; simp [A4_Field.eqb, Field.eqb_iff]
theorem Thing.eqb_iff (x y : Thing) : Thing.eqb x y = true ↔ x = y := by
 cases x; cases y; simp [Thing.eqb, Point.eqb_iff, A4_Field.eqb_iff]
def noP : Point := ⟨0, 0⟩
def noF : Field := ⟨0, ByteArray.empty⟩
def hs (m i : Int) : Bool := bitsI .and .u8 (shrI .u8 m i) 1 == 1
theorem has0 (n : Nat) (m : Int) : F89 n m 0 = some (hs m 1) := rfl
theorem has1 (n : Nat) (m : Int) : F89 n m 1 = some (hs m 2) := rfl
theorem has2 (n : Nat) (m : Int) : F89 n m 2 = some (hs m 3) := rfl
theorem has3 (n : Nat) (m : Int) : F89 n m 3 = some (hs m 4) := rfl
def isF (f : Field) : Bool := if f.N == 0 then decide ((f.Text.size : Int) ≤ 12) else if f.Text.toList == ByteArray.empty.toList then decide ((f.Text.size : Int) ≤ 12) else false
theorem isF_eq (n : Nat) (f : Field) : F60 n f = some (isF f) := by
 unfold F60 isF
 split
 ·rfl
 ·split <;> rfl
def okF (f : Field) (e : Bool) : Bool := isF f && (e || Field.eqb f noF)
def on (p : Point) : Bool := if decide ((0 : Int) ≤ p.X) then if decide (p.X < 64) then if decide ((0 : Int) ≤ p.Y) then decide (p.Y < 64) else false else false else false
theorem on_eq (n : Nat) (p : Point) : F78 n p = some (on p) := by
 unfold F78 on
 split
 ·split
  ·split <;> rfl
  ·rfl
 ·rfl
def a1 (d : Delta) : Bool := (bitsI .and .u8 d.Mask 1) != 0
def fl4 (d : Delta) : Bool := okF d.F.a0 (hs d.Mask 1) && (okF d.F.a1 (hs d.Mask 2) && (okF d.F.a2 (hs d.Mask 3) && okF d.F.a3 (hs d.Mask 4)))
def isD (d : Delta) : Bool := !(decide (d.ID < 0)) && (!(decide ((1000000 : Int) < d.ID)) && (!(d.Mask == 0) && (!(decide ((31 : Int) < d.Mask)) && ((a1 d || Point.eqb d.At noP) && (on d.At && fl4 d)))))
theorem isd_fin (f : Field) (e : Bool) (o : Option Bool) (b : Bool) (ho : o = some b) : (if (!(isF f)) = true then some false else if (!e) = true then if (!(Field.eqb f ⟨0, ByteArray.empty⟩)) = true then some false else o else o) = some (okF f e && b) := by
 subst ho
 have : Field.eqb f ⟨0, ByteArray.empty⟩ = Field.eqb f noF := rfl
 rw [this]
 unfold okF
 cases isF f <;> cases e <;> cases Field.eqb f noF <;> simp
theorem isd_l (n : Nat) (d : Delta) : F88_j3 n d = some (fl4 d) := by
 have s3 : F88_u12 n d = some (okF d.F.a3 (hs d.Mask 4) && true) := by
  unfold F88_u12
  simp only [isF_eq, has3, Option.bind_some]
  exact isd_fin _ _ _ _ rfl
 have s2 : F88_u9 n d = some (okF d.F.a2 (hs d.Mask 3) && (okF d.F.a3 (hs d.Mask 4) && true)) := by
  unfold F88_u9
  simp only [isF_eq, has2, Option.bind_some]
  exact isd_fin _ _ _ _ s3
 have s1 : F88_u6 n d = some (okF d.F.a1 (hs d.Mask 2) && (okF d.F.a2 (hs d.Mask 3) && (okF d.F.a3 (hs d.Mask 4) && true))) := by
  unfold F88_u6
  simp only [isF_eq, has1, Option.bind_some]
  exact isd_fin _ _ _ _ s2
 have s0 : F88_j3 n d = some (okF d.F.a0 (hs d.Mask 1) && (okF d.F.a1 (hs d.Mask 2) && (okF d.F.a2 (hs d.Mask 3) && (okF d.F.a3 (hs d.Mask 4) && true)))) := by
  unfold F88_j3
  simp only [isF_eq, has0, Option.bind_some]
  exact isd_fin _ _ _ _ s1
 rw [s0]
 simp [fl4]
theorem isD_eq (n : Nat) (d : Delta) : F88 n d = some (isD d) := by
 unfold F88
 have hl := isd_l n d
 have ep : Point.eqb d.At (Point.mk 0 0) = Point.eqb d.At noP := rfl
 simp only [on_eq, Option.bind_some, hl, isD, a1, ep, bne]
 by_cases h1 : d.ID < 0
 ·simp [h1]
 ·by_cases h2 : 1000000 < d.ID
  ·simp [h1, h2]
  ·by_cases h3 : d.Mask = 0
   ·simp [h1, h2, h3]
   ·by_cases h4 : 31 < d.Mask
    ·simp [h1, h2, h3, h4]
    ·cases h5 : (bitsI .and .u8 d.Mask 1 == 0) <;> cases h6 : Point.eqb d.At noP <;> cases h7 : on d.At <;> simp [h1, h2, h3, h4, h5, h6, h7]
theorem shr7 (x : Int) : shrI .u64 x 7 = x / 128 := by
 show Int.fdiv x 128 = x / 128
 exact Int.fdiv_eq_ediv_of_nonneg x (by decide)
theorem wrap_u64 (x : Int) : IntKind.wrap .u64 x = x % 18446744073709551616 := by simp [IntKind.wrap, IntKind.bits, IntKind.signed]
theorem wrap_u8 (x : Int) : IntKind.wrap .u8 x = x % 256 := by simp [IntKind.wrap, IntKind.bits, IntKind.signed]
def ch (x : Int) : Int := bitsI .or .u8 (IntKind.wrap .u8 x) 128
theorem push_data (l : List Int) : ∀ s : ByteArray, (l.foldl (fun r n => r.push (UInt8.ofNat n.toNat)) s).data = s.data ++ (l.map fun n => UInt8.ofNat n.toNat).toArray := by
 induction l with
 | nil => intro s; simp
 | cons a l ih => intro s; simp only [List.foldl_cons, ih, List.map_cons]; cases s; simp [ByteArray.push]
theorem mkStr_data (l : List Int) : (mkStr l).data = (l.map fun n => UInt8.ofNat n.toNat).toArray := by
 unfold mkStr
 rw [push_data]
 show (#[] : Array UInt8) ++ _ = _
 simp
theorem mkStr_size (l : List Int) : (mkStr l).size = l.length := by
 show (mkStr l).data.size = _
 rw [mkStr_data]; simp
theorem ba_ext {a b : ByteArray} (h : a.data = b.data) : a = b := by cases a; cases b; simp only at h; rw [h]
theorem mkStr_app (a b : List Int) : mkStr (a ++ b) = mkStr a ++ mkStr b := by
 apply ba_ext
 rw [ByteArray.data_append, mkStr_data, mkStr_data, mkStr_data]; simp
theorem ba_assoc (a b c : ByteArray) : a ++ b ++ c = a ++ (b ++ c) := by
 apply ba_ext
 simp [ByteArray.data_append, Array.append_assoc]
theorem ba_size (a b : ByteArray) : (a ++ b).size = a.size + b.size := by
 show (a ++ b).data.size = _
 rw [ByteArray.data_append, Array.size_append]
 rfl
theorem ba_nil (a : ByteArray) : ByteArray.empty ++ a = a := by
 apply ba_ext
 rw [ByteArray.data_append]
 show (#[] : Array UInt8) ++ _ = _
 simp
def putL : Nat → Int → List Int
 | 0, _ => []
 | k + 1, x => if 128 ≤ x then ch x :: putL k (x / 128) else [IntKind.wrap .u8 x]
theorem putL_len : ∀ (k : Nat) (x : Int), (putL (k + 1) x).length ≤ k + 1 ∧ 1 ≤ (putL (k + 1) x).length
 | 0, x => by unfold putL; split <;> simp [putL]
 | k + 1, x => by
  have := putL_len k (x / 128)
  unfold putL
  split
  ·simp only [List.length_cons]; omega
  ·simp
theorem putL_one {k : Nat} {x : Int} (h : x < 128) : (putL (k + 1) x).length = 1 := by
 unfold putL; rw [if_neg (by omega)]; rfl
theorem pow10 {x : Int} (h : x < 18446744073709551616) : x < 128 ^ 10 := by
 have : (128 : Int) ^ 10 = 1180591620717411303424 := by decide
 rw [this]; omega
def pt (x : Int) : ByteArray := mkStr (putL 10 x)
theorem pt_size (x : Int) : (pt x).size ≤ 10 ∧ 1 ≤ (pt x).size := by
 rw [pt, mkStr_size]; exact putL_len 9 x
theorem pt_one {x : Int} (h : x < 128) : (pt x).size = 1 := by rw [pt, mkStr_size]; exact putL_one h
theorem u64_in (x : Int) : 0 ≤ IntKind.wrap .u64 x ∧ IntKind.wrap .u64 x < 18446744073709551616 := by rw [wrap_u64]; omega
def pu (x : Int) : ByteArray := pt (IntKind.wrap .u64 x)
theorem pu_size (x : Int) : (pu x).size ≤ 10 ∧ 1 ≤ (pu x).size := pt_size _
def tx (s : ByteArray) : ByteArray := pu (s.size : Int) ++ s
theorem tx_size (s : ByteArray) : (tx s).size ≤ 10 + s.size ∧ 1 + s.size ≤ (tx s).size := by
 have := pu_size (s.size : Int)
 rw [tx, ba_size]; omega
theorem xor_in (a b : Int) : 0 ≤ bitsI .xor .u64 a b ∧ bitsI .xor .u64 a b < 18446744073709551616 := u64_in _
def zg (x : Int) : ByteArray := pt (bitsI .xor .u64 (shlI .u64 (IntKind.wrap .u64 x) 1) (IntKind.wrap .u64 (shrI .i64 x 63)))
def isE (s : ByteArray) : Bool := s.toList == ByteArray.empty.toList
def stage (s : ByteArray) (f : Field) (e : Bool) : ByteArray := if e then (if isE f.Text then s ++ tx f.Text ++ zg f.N else s ++ tx f.Text) else s
theorem stage_size (s : ByteArray) (f : Field) (e : Bool) (h : f.Text.size ≤ 40) : (stage s f e).size ≤ s.size + 60 := by
 have := tx_size f.Text
 have := pt_size (bitsI .xor .u64 (shlI .u64 (IntKind.wrap .u64 f.N) 1) (IntKind.wrap .u64 (shrI .i64 f.N 63)))
 have hz : (zg f.N).size ≤ 10 := this.1
 unfold stage
 split
 ·split
  ·rw [ba_size, ba_size]; omega
  ·rw [ba_size]; omega
 ·omega
def head (d : Delta) : ByteArray := if a1 d then (pu d.ID ++ pu d.Mask) ++ (pu d.At.X ++ pu d.At.Y) else pu d.ID ++ pu d.Mask
def body (s : ByteArray) (d : Delta) : ByteArray := stage (stage (stage (stage s d.F.a0 (hs d.Mask 1)) d.F.a1 (hs d.Mask 2)) d.F.a2 (hs d.Mask 3)) d.F.a3 (hs d.Mask 4)
def Few (d : Delta) : Prop := d.F.a0.Text.size ≤ 40 ∧ d.F.a1.Text.size ≤ 40 ∧ d.F.a2.Text.size ≤ 40 ∧ d.F.a3.Text.size ≤ 40
theorem head_size (d : Delta) : (head d).size ≤ 40 := by
 have p1 := pu_size d.ID; have p2 := pu_size d.Mask; have p3 := pu_size d.At.X; have p4 := pu_size d.At.Y
 unfold head
 split
 ·rw [ba_size, ba_size, ba_size]; omega
 ·rw [ba_size]; omega
theorem and_fin : ∀ k : Fin 256, bitsI .andNot .u8 k.val 128 = bitsI .and .u8 k.val 127 ∧ (k.val < 128 → bitsI .and .u8 k.val 127 = k.val) := by decide +kernel
theorem or_in (a b : Int) : 0 ≤ bitsI .or .u64 a b ∧ bitsI .or .u64 a b < 18446744073709551616 := u64_in _
theorem byte_in (s : ByteArray) (i : Nat) (h : i < (bytesL s).length) : ∃ k : Fin 256, (bytesL s)[i] = (k.val : Int) := by
 simp only [bytesL, List.getElem_map]
 exact ⟨⟨_, UInt8.toNat_lt _⟩, rfl⟩
theorem ixb (s : ByteArray) (i : Nat) (h : i < (bytesL s).length) : ix (bytesL s) (i : Int) = some (bytesL s)[i] := by
 unfold ix; rw [if_neg (by omega)]; simp [h]
theorem w64 {n : Int} (h : -9223372036854775808 ≤ n) (h' : n ≤ 9223372036854775807) : IntKind.wrap .i64 n = n := by
 simp [IntKind.wrap, IntKind.bits, IntKind.signed]; omega
def GetR (s : ByteArray) (r : Int × Int × Int) : Prop := (r.2.2 = 0 ∧ 1 ≤ r.2.1 ∧ r.2.1 ≤ (s.size : Int) ∧ 0 ≤ r.1 ∧ r.1 < 18446744073709551616) ∨ (r.2.2 ≠ 0 ∧ r.1 = 0 ∧ r.2.1 = 0)
theorem get_l (n : Nat) (s : ByteArray) (hs : s.size ≤ 100000) : ∀ (m i : Nat) (acc : Int), i ≤ s.size → s.size - i < m → ∃ r, F83_l7 n s m acc (i : Int) = some r ∧ F15_l7 n s m acc (i : Int) = some r ∧ GetR s r
 | 0, i, acc, _, h => by omega
 | m + 1, i, acc, h1, h2 => by
  have hl : (bytesL s).length = s.size := bytesL_len s
  unfold F83_l7 F15_l7
  by_cases hi : i < s.size
  ·have hd : decide ((i : Int) < ((bytesL s).length : Int)) = true := by rw [hl]; simp; omega
   have hd' : decide ((i : Int) < (s.size : Int)) = true := by simp; omega
   obtain ⟨k, hk⟩ := byte_in s i (by omega)
   obtain ⟨a1, a2⟩ := and_fin k
   have ex := ixb s i (by omega)
   rw [hk] at ex
   have w7 : IntKind.wrap .i64 (7 * (i : Int)) = 7 * i := w64 (by omega) (by omega)
   have w7u : IntKind.wrap .u64 (7 * (i : Int)) = 7 * i := by rw [wrap_u64]; omega
   have w1 : IntKind.wrap .i64 ((i : Int) + 1) = ((i + 1 : Nat) : Int) := by rw [w64 (by omega) (by omega)]; push_cast; rfl
   have g7 : ¬ (7 * (i : Int) < 0) := by omega
   have ne : (((i + 1 : Nat) : Int) == 0) = false := by simp; omega
   obtain ⟨r, q1, q2, q3⟩ := get_l n s hs m (i + 1) (bitsI .or .u64 acc (shlI .u64 (IntKind.wrap .u64 (bitsI .and .u8 k.val 127)) (7 * (i : Int)))) (by omega) (by omega)
   have core : ∃ r, F83_j9 n acc (i : Int) (k.val : Int) (F83_l7 n s m) = some r ∧ F15_j9 n acc (i : Int) (k.val : Int) (F15_l7 n s m) = some r ∧ GetR s r := by
    unfold F83_j9 F15_j9 F83_j10 F15_j10 F83_j13
    simp only [w7, w7u, w1, g7, not_false_eq_true, if_true, ne, Bool.false_eq_true, if_false, a1]
    by_cases hx : (k.val : Int) < 128
    ·have e2 := a2 (by omega)
     simp only [hx, decide_true, if_true, e2]
     by_cases h0 : (0 : Int) < i
     ·by_cases hz : (k.val : Int) = 0
      ·simp only [h0, decide_true, if_true, hz, beq_self_eq_true]
       exact ⟨_, rfl, rfl, .inr ⟨by decide, rfl, rfl⟩⟩
      ·have hz' : ((k.val : Int) == 0) = false := by simp; omega
       simp only [h0, decide_true, if_true, hz', Bool.false_eq_true, if_false]
       exact ⟨_, rfl, rfl, .inl ⟨rfl, by simp only; omega, by simp only; omega, (or_in _ _).1, (or_in _ _).2⟩⟩
     ·simp only [h0, decide_false, Bool.false_eq_true, if_false, ite_self]
      exact ⟨_, rfl, rfl, .inl ⟨rfl, by simp only; omega, by simp only; omega, (or_in _ _).1, (or_in _ _).2⟩⟩
    ·have hz' : ((k.val : Int) == 0) = false := by simp; omega
     simp only [hx, decide_false, Bool.false_eq_true, if_false, hz', ite_self]
     exact ⟨r, q1, q2, q3⟩
   simp only [hd, hd', if_true, ex, Option.bind_some]
   by_cases h9 : ((i : Int) == 9) = true
   ·by_cases hx : (1 : Int) < k.val
    ·simp only [h9, hx, decide_true, if_true]
     exact ⟨_, rfl, rfl, .inr ⟨by decide, rfl, rfl⟩⟩
    ·simp only [h9, hx, decide_false, Bool.false_eq_true, if_false, if_true]
     exact core
   ·simp only [h9, Bool.false_eq_true, if_false]
    exact core
  ·have hd : decide ((i : Int) < ((bytesL s).length : Int)) = false := by rw [hl]; simp; omega
   have hd' : decide ((i : Int) < (s.size : Int)) = false := by simp; omega
   simp only [hd, hd', Bool.false_eq_true, if_false]
   exact ⟨_, rfl, rfl, .inr ⟨by decide, rfl, rfl⟩⟩
theorem get_eq (n : Nat) (s : ByteArray) (hs : s.size ≤ 100000) (hn : s.size ≤ n) : ∃ r, F83 n s = some r ∧ F15 n s = some r ∧ GetR s r := by
 unfold F83 F15
 exact get_l n s hs (n + 8) 0 0 (by omega) (by omega)
theorem ext_size (s : ByteArray) (a : Int) (h0 : 0 ≤ a) (h1 : a ≤ (s.size : Int)) : ((s.extract a.toNat s.size).size : Int) = s.size - a := by
 rw [ByteArray.size_extract]; omega
theorem bytesL_app (a b : ByteArray) : bytesL (a ++ b) = bytesL a ++ bytesL b := by
 simp [bytesL, ByteArray.data_append]
theorem bytesL_mk (l : List Int) (h : ∀ x ∈ l, 0 ≤ x ∧ x < 256) : bytesL (mkStr l) = l := by
 simp only [bytesL, mkStr_data, List.map_map]
 conv => rhs; rw [← List.map_id l]
 apply List.map_congr_left
 intro x hx
 have := h x hx
 simp; omega
theorem or_add (a b i : Nat) (h : a < 2 ^ i) : a ||| (b * 2 ^ i) = a + b * 2 ^ i := by
 have := Nat.shiftLeft_add_eq_or_of_lt h b
 rw [Nat.shiftLeft_eq] at this
 rw [Nat.or_comm, ← this, Nat.add_comm]
theorem orI {a b : Int} {i : Nat} (h0 : 0 ≤ a) (h1 : a < 2 ^ i) (h2 : 0 ≤ b) (h3 : a + b * 2 ^ i < 18446744073709551616) : bitsI .or .u64 a (b * 2 ^ i) = a + b * 2 ^ i := by
 obtain ⟨m, rfl⟩ := Int.eq_ofNat_of_zero_le h0
 obtain ⟨k, rfl⟩ := Int.eq_ofNat_of_zero_le h2
 have e : ((k : Int) * 2 ^ i) = ((k * 2 ^ i : Nat) : Int) := by push_cast; rfl
 rw [e] at h3 ⊢
 have hm : m < 2 ^ i := by exact_mod_cast h1
 have h3' : m + k * 2 ^ i < 18446744073709551616 := by omega
 have e1 : (BitVec.ofInt 64 (m : Int)).toNat = m := by rw [BitVec.toNat_ofInt]; omega
 have e2 : (BitVec.ofInt 64 ((k * 2 ^ i : Nat) : Int)).toNat = k * 2 ^ i := by
  rw [BitVec.toNat_ofInt]; omega
 show IntKind.wrap .u64 (((BitVec.ofInt 64 (m : Int) ||| BitVec.ofInt 64 ((k * 2 ^ i : Nat) : Int)).toNat : Nat) : Int) = _
 rw [BitVec.toNat_or, e1, e2, or_add m k i hm, wrap_u64]
 omega
theorem shlI_mul {b : Int} {i : Nat} (hi : i ≤ 63) (h0 : 0 ≤ b) (h1 : b * 2 ^ i < 18446744073709551616) : shlI .u64 b (i : Int) = b * 2 ^ i := by
 have e : min ((i : Int).toNat) (IntKind.u64.bits) = i := by simp [IntKind.bits]; omega
 unfold shlI
 rw [e, wrap_u64]
 have : 0 ≤ b * 2 ^ i := Int.mul_nonneg h0 (Int.pow_nonneg (by decide))
 omega
theorem ch_val : ∀ k : Fin 256, bitsI .or .u8 k.val 128 = 128 + (k.val : Int) % 128 ∧ bitsI .andNot .u8 (128 + (k.val : Int) % 128) 128 = (k.val : Int) % 128 := by decide +kernel
theorem ch_is {y : Int} (h : 0 ≤ y) : ch y = 128 + y % 128 ∧ bitsI .andNot .u8 (128 + y % 128) 128 = y % 128 := by
 obtain ⟨h1, h2⟩ := ch_val ⟨(y % 256).toNat, by omega⟩
 have e : (((y % 256).toNat : Nat) : Int) = y % 256 := by omega
 simp only [e] at h1 h2
 have e2 : y % 256 % 128 = y % 128 := by omega
 rw [e2] at h1 h2
 refine ⟨?_, h2⟩
 rw [ch, wrap_u8, h1]
theorem get_pt_l (n : Nat) (s : ByteArray) (hs : s.size ≤ 100000) : ∀ (k m i : Nat) (acc y : Int) (rest : List Int), (bytesL s).drop i = putL k y ++ rest → 1 ≤ k → y < 128 ^ k → 0 ≤ y → 0 ≤ acc → acc < 2 ^ (7 * i) → acc + y * 2 ^ (7 * i) < 18446744073709551616 → (0 < i → 1 ≤ y) → i + k ≤ 10 → k < m →
  F83_l7 n s m acc (i : Int) = some (acc + y * 2 ^ (7 * i), ((i + (putL k y).length : Nat) : Int), 0)
 | 0, _, _, _, _, _, _, h, _, _, _, _, _, _, _, _ => by omega
 | k + 1, 0, _, _, _, _, _, _, _, _, _, _, _, _, _, h => by omega
 | k + 1, m + 1, i, acc, y, rest, hd, _, hy, hy0, ha0, ha, hb, hp, hk, hm => by
  have hl : (bytesL s).length = s.size := bytesL_len s
  have hne : (bytesL s).drop i ≠ [] := by
   rw [hd]; intro h
   have := putL_len k y
   have h2 := congrArg List.length h
   simp only [List.length_append, List.length_nil] at h2
   omega
  have hi : i < (bytesL s).length := by
   apply Nat.lt_of_not_le; intro h; exact hne (List.drop_eq_nil_of_le h)
  have hdr := List.drop_eq_getElem_cons hi
  have ex := ixb s i hi
  have w7 : IntKind.wrap .i64 (7 * (i : Int)) = ((7 * i : Nat) : Int) := by rw [w64 (by omega) (by omega)]; push_cast; rfl
  have w1 : IntKind.wrap .i64 ((i : Int) + 1) = ((i + 1 : Nat) : Int) := by rw [w64 (by omega) (by omega)]; push_cast; rfl
  have g7 : ¬ (((7 * i : Nat) : Int) < 0) := by omega
  have ne : (((i + 1 : Nat) : Int) == 0) = false := by simp; omega
  have hdd : decide ((i : Int) < ((bytesL s).length : Int)) = true := by simp; omega
  have pp : (0 : Int) < 2 ^ (7 * i) := Int.pow_pos (by decide)
  unfold F83_l7
  simp only [hdd, if_true, ex, Option.bind_some]
  by_cases h : 128 ≤ y
  ·obtain ⟨c1, c2⟩ := ch_is hy0
   have hk1 : 1 ≤ k := by
    cases k with
    | zero => simp at hy; omega
    | succ k => omega
   have hpl : putL (k + 1) y = ch y :: putL k (y / 128) := by rw [putL, if_pos h]
   rw [hpl, hdr] at hd
   simp only [List.cons_append, List.cons.injEq] at hd
   have h9 : ((i : Int) == 9) = false := by simp; omega
   have hz : ((128 + y % 128) == 0) = false := by simp; omega
   have hlt : decide (128 + y % 128 < 128) = false := by simp; omega
   have hmod : 0 ≤ y % 128 ∧ y % 128 < 128 := by omega
   have pow : (2 : Int) ^ (7 * (i + 1)) = 2 ^ (7 * i) * 128 := by
    rw [show 7 * (i + 1) = 7 * i + 7 by omega, Int.pow_add]; rfl
   have split : y * 2 ^ (7 * i) = (y % 128) * 2 ^ (7 * i) + y / 128 * 2 ^ (7 * (i + 1)) := by
    rw [pow, ← Int.mul_assoc, Int.mul_right_comm, ← Int.add_mul]
    congr 1; omega
   have hq0 : 0 ≤ y / 128 * 2 ^ (7 * (i + 1)) := Int.mul_nonneg (by omega) (Int.le_of_lt (Int.pow_pos (by decide)))
   have hr0 : 0 ≤ (y % 128) * 2 ^ (7 * i) := Int.mul_nonneg hmod.1 (Int.le_of_lt pp)
   have ws : IntKind.wrap .u64 (y % 128) = y % 128 := by rw [wrap_u64]; omega
   have sh : shlI .u64 (y % 128) ((7 * i : Nat) : Int) = (y % 128) * 2 ^ (7 * i) := shlI_mul (by omega) hmod.1 (by omega)
   have orr : bitsI .or .u64 acc ((y % 128) * 2 ^ (7 * i)) = acc + (y % 128) * 2 ^ (7 * i) := orI ha0 ha hmod.1 (by omega)
   have step : F83_j9 n acc (i : Int) (ch y) (F83_l7 n s m) = F83_l7 n s m (acc + (y % 128) * 2 ^ (7 * i)) ((i + 1 : Nat) : Int) := by
    unfold F83_j9 F83_j10
    simp only [c1, c2, hz, hlt, w7, w1, g7, not_false_eq_true, if_true, Bool.false_eq_true, if_false, ws, sh, orr, ite_self]
   have hrec := get_pt_l n s hs k m (i + 1) (acc + (y % 128) * 2 ^ (7 * i)) (y / 128) rest hd.2 hk1 (by rw [Int.pow_succ] at hy; exact Int.ediv_lt_of_lt_mul (by decide) hy) (by omega) (by omega) (by
    rw [pow]
    have : (y % 128) * 2 ^ (7 * i) ≤ 127 * 2 ^ (7 * i) := Int.mul_le_mul_of_nonneg_right (by omega) (Int.le_of_lt pp)
    omega) (by omega) (by omega) (by omega) (by omega)
   simp only [h9, Bool.false_eq_true, if_false, hd.1]
   rw [step, hrec, hpl, split]
   simp only [List.length_cons, Int.add_assoc]
   congr 3
   omega
  ·have hpl : putL (k + 1) y = [IntKind.wrap .u8 y] := by rw [putL, if_neg h]
   have wy : IntKind.wrap .u8 y = y := by rw [wrap_u8]; omega
   rw [hpl, hdr, wy] at hd
   simp only [List.cons_append, List.cons.injEq, List.nil_append] at hd
   have hlt : decide (y < 128) = true := by simp; omega
   have ws : IntKind.wrap .u64 y = y := by rw [wrap_u64]; omega
   have hr0 : 0 ≤ y * 2 ^ (7 * i) := Int.mul_nonneg hy0 (Int.le_of_lt pp)
   have sh : shlI .u64 y ((7 * i : Nat) : Int) = y * 2 ^ (7 * i) := shlI_mul (by omega) hy0 (by omega)
   have orr : bitsI .or .u64 acc (y * 2 ^ (7 * i)) = acc + y * 2 ^ (7 * i) := orI ha0 ha hy0 hb
   have last : F83_j9 n acc (i : Int) y (F83_l7 n s m) = some (acc + y * 2 ^ (7 * i), ((i + 1 : Nat) : Int), 0) := by
    unfold F83_j9 F83_j10 F83_j13
    simp only [hlt, w7, w1, g7, not_false_eq_true, if_true, ne, Bool.false_eq_true, if_false, ws, sh, orr]
    by_cases h0 : (0 : Int) < i
    ·have hz : (y == 0) = false := by have := hp (by omega); simp; omega
     simp only [h0, decide_true, if_true, hz, Bool.false_eq_true, if_false]
    ·simp only [h0, decide_false, Bool.false_eq_true, if_false]
   rw [hpl, hd.1]
   simp only [List.length_cons, List.length_nil, Nat.zero_add]
   by_cases h9 : ((i : Int) == 9) = true
   ·have hi9 : i = 9 := by simp at h9; omega
    have hy1 : y ≤ 1 := by
     subst hi9
     have : (2 : Int) ^ (7 * 9) = 9223372036854775808 := by decide
     rw [this] at hb
     omega
    have : decide ((1 : Int) < y) = false := by simp; omega
    simp only [h9, if_true, this, Bool.false_eq_true, if_false, last]
   ·simp only [h9, Bool.false_eq_true, if_false, last]
theorem get_pt (n : Nat) (hn : 10 ≤ n) (x : Int) (h0 : 0 ≤ x) (h1 : x < 18446744073709551616) (t : ByteArray) (hs : (pt x ++ t).size ≤ 100000) : F83 n (pt x ++ t) = some (x, ((pt x).size : Int), 0) := by
 unfold F83
 have hb : ∀ (k : Nat) (y : Int), 0 ≤ y → ∀ z ∈ putL k y, 0 ≤ z ∧ z < 256 := by
  intro k
  induction k with
  | zero => intro y _ z hz; simp [putL] at hz
  | succ k ih =>
   intro y hy z hz
   rw [putL] at hz
   split at hz
   ·simp only [List.mem_cons] at hz
    rcases hz with rfl | hz
    ·rw [(ch_is hy).1]; omega
    ·exact ih _ (by omega) z hz
   ·simp only [List.mem_singleton] at hz
    subst hz
    rw [wrap_u8]; omega
 have hd : (bytesL (pt x ++ t)).drop 0 = putL 10 x ++ bytesL t := by
  rw [List.drop_zero, bytesL_app, pt, bytesL_mk _ (hb 10 x h0)]
 have := get_pt_l n (pt x ++ t) hs 10 (n + 8) 0 0 x (bytesL t) hd (by omega) (pow10 h1) h0 (by omega) (by decide) (by simpa using h1) (by omega) (by omega) (by omega)
 rw [show ((0 : Nat) : Int) = 0 from rfl] at this
 rw [this, pt, mkStr_size]
 simp
theorem arr_ext (a b : Array UInt8) : (a ++ b).extract a.size (a.size + b.size) = b := by simp
theorem arr_mid (a b c : Array UInt8) : (a ++ (b ++ c)).extract a.size (a.size + b.size) = b := by simp [Array.extract_append]
theorem ext_app (a b : ByteArray) : (a ++ b).extract a.size (a ++ b).size = b := by
 apply ba_ext
 rw [ByteArray.data_extract, ByteArray.data_append, ba_size]
 exact arr_ext a.data b.data
theorem ext_mid (a b c : ByteArray) : (a ++ (b ++ c)).extract a.size (a.size + b.size) = b := by
 apply ba_ext
 rw [ByteArray.data_extract, ByteArray.data_append, ByteArray.data_append]
 exact arr_mid a.data b.data c.data
theorem pu_small {x : Int} (h0 : 0 ≤ x) (h : x < 18446744073709551616) : pu x = pt x := by
 unfold pu; rw [wrap_u64]; congr 1; omega
theorem texts_tx (n : Nat) (hn : 10 ≤ n) (t r : ByteArray) (ht : t.size ≤ 12) (hs : (tx t ++ r).size ≤ 100000) : F69 n (tx t ++ r) 12 = some (t, ((tx t).size : Int), 0) := by
 have hp : pu (t.size : Int) = pt (t.size : Int) := pu_small (by omega) (by omega)
 have e : tx t ++ r = pt (t.size : Int) ++ (t ++ r) := by rw [tx, hp, ba_assoc]
 have hp1 : (pt (t.size : Int)).size = 1 := pt_one (by omega)
 have hsz : (tx t).size = 1 + t.size := by rw [tx, hp, ba_size, hp1]
 rw [e] at hs ⊢
 have hss : (pt (t.size : Int) ++ (t ++ r)).size = 1 + (t.size + r.size) := by rw [ba_size, ba_size, hp1]
 unfold F69
 rw [get_pt n hn _ (by omega) (by omega) _ hs]
 have m1 : IntKind.wrap .u64 (imax 12 0) = 12 := rfl
 have w0 : IntKind.wrap .u64 (IntKind.wrap .i64 (((pt (t.size : Int) ++ (t ++ r)).size : Int) - ((pt (t.size : Int)).size : Int))) = t.size + r.size := by
  rw [hss, hp1, w64 (by omega) (by omega), wrap_u64]; omega
 have c1 : decide ((12 : Int) < (t.size : Int)) = false := by simp; omega
 have c2 : decide (((t.size : Int) + r.size) < (t.size : Int)) = false := by simp; omega
 have w1 : IntKind.wrap .i64 (t.size : Int) = t.size := w64 (by omega) (by omega)
 have w2 : IntKind.wrap .i64 (((pt (t.size : Int)).size : Int) + t.size) = 1 + t.size := by rw [hp1, w64 (by omega) (by omega)]; rfl
 simp only [Option.bind_some, bne_self_eq_false, Bool.false_eq_true, if_false, m1, w0, c1, c2, w1, w2]
 rw [if_pos (by rw [hss, hp1]; omega), hsz]
 have e3 : ((1 : Int) + (t.size : Int)).toNat = (pt (t.size : Int)).size + t.size := by rw [hp1]; omega
 have e4 : (((pt (t.size : Int)).size : Nat) : Int).toNat = (pt (t.size : Int)).size := rfl
 rw [e3, e4, ext_mid]
 push_cast
 rfl
theorem zig_pos {v : Int} (h0 : 0 ≤ v) (h1 : v < 9223372036854775808) : bitsI .xor .u64 (shlI .u64 (IntKind.wrap .u64 v) 1) (IntKind.wrap .u64 (shrI .i64 v 63)) = 2 * v := by
 have e1 : shrI .i64 v 63 = 0 := by
  show Int.fdiv v 9223372036854775808 = 0
  rw [Int.fdiv_eq_ediv_of_nonneg v (by decide)]; omega
 have e2 : shlI .u64 (IntKind.wrap .u64 v) 1 = 2 * v := by
  rw [wrap_u64]
  show IntKind.wrap .u64 (v % 18446744073709551616 * 2) = _
  rw [wrap_u64]; omega
 rw [e1, e2]
 show IntKind.wrap .u64 (((BitVec.ofInt 64 (2 * v) ^^^ BitVec.ofInt 64 (0 : Int)).toNat : Nat) : Int) = _
 have : BitVec.ofInt 64 (0 : Int) = 0#64 := rfl
 rw [this, BitVec.xor_zero, BitVec.toNat_ofInt, wrap_u64]
 omega
theorem zig_neg {v : Int} (h0 : v < 0) (h1 : -9223372036854775808 ≤ v) : bitsI .xor .u64 (shlI .u64 (IntKind.wrap .u64 v) 1) (IntKind.wrap .u64 (shrI .i64 v 63)) = -2 * v - 1 := by
 have e1 : shrI .i64 v 63 = -1 := by
  show Int.fdiv v 9223372036854775808 = -1
  rw [Int.fdiv_eq_ediv_of_nonneg v (by decide)]; omega
 have e2 : shlI .u64 (IntKind.wrap .u64 v) 1 = 18446744073709551616 + 2 * v ∨ shlI .u64 (IntKind.wrap .u64 v) 1 = 2 * v + 18446744073709551616 := by
  left
  rw [wrap_u64]
  show IntKind.wrap .u64 (v % 18446744073709551616 * 2) = _
  rw [wrap_u64]; omega
 have e2 : shlI .u64 (IntKind.wrap .u64 v) 1 = 18446744073709551616 + 2 * v := by omega
 rw [e1, e2]
 show IntKind.wrap .u64 (((BitVec.ofInt 64 (18446744073709551616 + 2 * v) ^^^ BitVec.ofInt 64 (IntKind.wrap .u64 (-1))).toNat : Nat) : Int) = _
 have : BitVec.ofInt 64 (IntKind.wrap .u64 (-1)) = BitVec.allOnes 64 := by decide +kernel
 rw [this, BitVec.xor_allOnes, BitVec.toNat_not, BitVec.toNat_ofInt, wrap_u64]
 omega
theorem and1 {u : Int} (h0 : 0 ≤ u) (h1 : u < 18446744073709551616) : bitsI .and .u64 u 1 = u % 2 := by
 obtain ⟨k, rfl⟩ := Int.eq_ofNat_of_zero_le h0
 have e1 : (BitVec.ofInt 64 (k : Int)).toNat = k := by rw [BitVec.toNat_ofInt]; omega
 have e2 : (BitVec.ofInt 64 (1 : Int)).toNat = 1 := rfl
 have e3 : k &&& 1 = k % 2 := Nat.and_two_pow_sub_one_eq_mod k 1
 show IntKind.wrap .u64 (((BitVec.ofInt 64 (k : Int) &&& BitVec.ofInt 64 (1 : Int)).toNat : Nat) : Int) = _
 rw [BitVec.toNat_and, e1, e2, e3, wrap_u64]
 omega
theorem shr1 (x : Int) : shrI .u64 x 1 = x / 2 := by
 show Int.fdiv x 2 = x / 2
 exact Int.fdiv_eq_ediv_of_nonneg x (by decide)
theorem wrap_i64 (x : Int) : IntKind.wrap .i64 x = (x + 9223372036854775808) % 18446744073709551616 - 9223372036854775808 := by
 simp [IntKind.wrap, IntKind.bits, IntKind.signed]; omega
theorem zag_even {v : Int} (h0 : 0 ≤ v) (h1 : v < 9223372036854775808) (n : Nat) : F93 n (2 * v) = some v := by
 unfold F93
 have a : bitsI .and .u64 (2 * v) 1 = 0 := by rw [and1 (by omega) (by omega)]; omega
 have b : IntKind.wrap .i64 (shrI .u64 (2 * v) 1) = v := by rw [shr1, w64 (by omega) (by omega)]; omega
 have z : IntKind.wrap .i64 (0 - IntKind.wrap .i64 0) = 0 := rfl
 rw [a, b, z]
 refine congrArg some ?_
 show IntKind.wrap .i64 (((BitVec.ofInt 64 v ^^^ BitVec.ofInt 64 (0 : Int)).toNat : Nat) : Int) = _
 have : BitVec.ofInt 64 (0 : Int) = 0#64 := rfl
 rw [this, BitVec.xor_zero, BitVec.toNat_ofInt, wrap_i64]
 omega
theorem zag_odd {v : Int} (h0 : v < 0) (h1 : -9223372036854775808 ≤ v) (n : Nat) : F93 n (-2 * v - 1) = some v := by
 unfold F93
 have a : bitsI .and .u64 (-2 * v - 1) 1 = 1 := by rw [and1 (by omega) (by omega)]; omega
 have b : IntKind.wrap .i64 (shrI .u64 (-2 * v - 1) 1) = -v - 1 := by rw [shr1, w64 (by omega) (by omega)]; omega
 have z : IntKind.wrap .i64 (0 - IntKind.wrap .i64 1) = -1 := rfl
 rw [a, b, z]
 refine congrArg some ?_
 show IntKind.wrap .i64 (((BitVec.ofInt 64 (-v - 1) ^^^ BitVec.ofInt 64 (-1 : Int)).toNat : Nat) : Int) = _
 have : BitVec.ofInt 64 (-1 : Int) = BitVec.allOnes 64 := by decide +kernel
 rw [this, BitVec.xor_allOnes, BitVec.toNat_not, BitVec.toNat_ofInt, wrap_i64]
 omega
theorem ints_zg (n : Nat) (hn : 10 ≤ n) (v : Int) (h0 : -9223372036854775808 ≤ v) (h1 : v < 9223372036854775808) (r : ByteArray) (hs : (zg v ++ r).size ≤ 100000) : F86 n (zg v ++ r) = some (v, ((zg v).size : Int), 0) := by
 unfold F86
 unfold zg at hs ⊢
 rw [get_pt n hn _ (xor_in _ _).1 (xor_in _ _).2 _ hs]
 simp only [Option.bind_some]
 by_cases h : 0 ≤ v
 ·rw [zig_pos h h1, zag_even h h1]; rfl
 ·rw [zig_neg (by omega) h0, zag_odd (by omega) h0]; rfl
theorem numr (n : Nat) (hn : 10 ≤ n) (A R : ByteArray) (x : Int) (h0 : 0 ≤ x) (h1 : x ≤ 1000000) (hs : (A ++ (pu x ++ R)).size ≤ 100000) : F96 n ⟨A ++ (pu x ++ R), A.size, 0⟩ = some (x, ⟨A ++ (pu x ++ R), ((A ++ pu x).size : Nat), 0⟩) := by
 have hp : pu x = pt x := pu_small h0 (by omega)
 rw [hp] at hs ⊢
 have hz : (A ++ (pt x ++ R)).size = A.size + ((pt x).size + R.size) := by rw [ba_size, ba_size]
 have e00 : ((0 : Int) != 0) = false := rfl
 have hc : 0 ≤ ((A.size : Nat) : Int) ∧ ((A.size : Nat) : Int) ≤ ((A ++ (pt x ++ R)).size : Int) := by rw [hz]; omega
 have et : (((A.size : Nat) : Int)).toNat = A.size := rfl
 unfold F96 F98
 simp only [e00, Bool.false_eq_true, if_false, if_pos hc, et, ext_app]
 rw [get_pt n hn x h0 (by omega) R (by rw [ba_size]; omega)]
 have wi : IntKind.wrap .i64 (imin x 1000001) = x := by unfold imin; split <;> rw [w64 (by omega) (by omega)]; omega
 have w1 : IntKind.wrap .i64 ((A.size : Int) + (pt x).size) = ((A ++ pt x).size : Nat) := by rw [ba_size, w64 (by omega) (by omega)]; push_cast; rfl
 simp only [Option.bind_some, wi, w1]
def fb (f : Field) : ByteArray := if isE f.Text then tx f.Text ++ zg f.N else tx f.Text
theorem fieldr (n : Nat) (hn : 10 ≤ n) (A R : ByteArray) (f : Field) (hf : isF f = true) (h0 : -9223372036854775808 ≤ f.N) (h1 : f.N < 9223372036854775808) (hs : (A ++ (fb f ++ R)).size ≤ 100000) : F97 n ⟨A ++ (fb f ++ R), A.size, 0⟩ = some (f, ⟨A ++ (fb f ++ R), ((A ++ fb f).size : Nat), 0⟩) := by
 have h12 : f.Text.size ≤ 12 := by
  unfold isF at hf
  split at hf
  ·simp at hf; omega
  ·split at hf
   ·simp at hf; omega
   ·cases hf
 have e00 : ((0 : Int) != 0) = false := rfl
 have hz : (A ++ (fb f ++ R)).size = A.size + ((fb f).size + R.size) := by rw [ba_size, ba_size]
 have hc : 0 ≤ ((A.size : Nat) : Int) ∧ ((A.size : Nat) : Int) ≤ ((A ++ (fb f ++ R)).size : Int) := by rw [hz]; omega
 have et : (((A.size : Nat) : Int)).toNat = A.size := rfl
 unfold F97 F98
 simp only [e00, Bool.false_eq_true, if_false, if_pos hc, et, ext_app]
 unfold fb at hs hz hc ⊢
 cases hE : isE f.Text with
 | true =>
  simp only [hE, if_true] at hs hz hc ⊢
  have hE' : (f.Text.toList == ByteArray.empty.toList) = true := hE
  have a1 : tx f.Text ++ zg f.N ++ R = tx f.Text ++ (zg f.N ++ R) := ba_assoc _ _ _
  have a2 : A ++ (tx f.Text ++ zg f.N ++ R) = (A ++ tx f.Text) ++ (zg f.N ++ R) := by rw [a1, ba_assoc]
  rw [a1, texts_tx n hn f.Text _ h12 (by rw [← a1]; rw [ba_size] at hs; omega)]
  have w1 : IntKind.wrap .i64 ((A.size : Int) + (tx f.Text).size) = ((A ++ tx f.Text).size : Nat) := by
   have := tx_size f.Text
   rw [ba_size, w64 (by omega) (by omega)]; push_cast; rfl
  rw [← a1]
  have hc2 : 0 ≤ (((A ++ tx f.Text).size : Nat) : Int) ∧ (((A ++ tx f.Text).size : Nat) : Int) ≤ ((A ++ (tx f.Text ++ zg f.N ++ R)).size : Int) := by rw [a2, ba_size (A ++ tx f.Text)]; omega
  have et2 : ((((A ++ tx f.Text).size : Nat) : Int)).toNat = (A ++ tx f.Text).size := rfl
  simp only [Option.bind_some, hE', if_true, beq_self_eq_true, w1, if_pos hc2, et2]
  have hext : (A ++ (tx f.Text ++ zg f.N ++ R)).extract (A ++ tx f.Text).size (A ++ (tx f.Text ++ zg f.N ++ R)).size = zg f.N ++ R := by rw [a2]; exact ext_app _ _
  rw [hext, ints_zg n hn f.N h0 h1 R (by rw [a2, ba_size] at hs; omega)]
  have w2 : IntKind.wrap .i64 ((((A ++ tx f.Text).size : Nat) : Int) + (zg f.N).size) = ((A ++ (tx f.Text ++ zg f.N)).size : Nat) := by
   rw [a2, ba_size, ba_size (zg f.N)] at hs
   rw [← ba_assoc, ba_size (A ++ tx f.Text), w64 (by omega) (by omega)]; push_cast; rfl
  simp only [Option.bind_some, w2]
 | false =>
  simp only [hE, Bool.false_eq_true, if_false] at hs hz hc ⊢
  have hE' : (f.Text.toList == ByteArray.empty.toList) = false := hE
  rw [texts_tx n hn f.Text R h12 (by rw [ba_size] at hs; omega)]
  have w1 : IntKind.wrap .i64 ((A.size : Int) + (tx f.Text).size) = ((A ++ tx f.Text).size : Nat) := by
   have := tx_size f.Text
   rw [ba_size, w64 (by omega) (by omega)]; push_cast; rfl
  have hN : f.N = 0 := by
   unfold isF at hf
   split at hf
   ·rename_i h; simpa using h
   ·rw [hE'] at hf; cases hf
  simp only [Option.bind_some, hE', Bool.false_eq_true, if_false, w1]
  cases f; simp only at hN; subst hN; rfl
def gb (f : Field) (e : Bool) : ByteArray := if e then fb f else ByteArray.empty
theorem ba_nil_r (a : ByteArray) : a ++ ByteArray.empty = a := by
 apply ba_ext
 rw [ByteArray.data_append]
 show a.data ++ (#[] : Array UInt8) = a.data
 simp
theorem stage_gb (s : ByteArray) (f : Field) (e : Bool) : stage s f e = s ++ gb f e := by
 unfold stage gb fb
 cases e with
 | false => simp only [Bool.false_eq_true, if_false, ba_nil_r]
 | true =>
  simp only [if_true]
  cases isE f.Text with
  | true => simp only [if_true]; rw [ba_assoc]
  | false => simp only [Bool.false_eq_true, if_false]
theorem back1 {β : Type} (n : Nat) (hn : 10 ≤ n) (A R : ByteArray) (f : Field) (e : Bool) (he : e = false → f = noF) (hf : isF f = true) (h0 : -9223372036854775808 ≤ f.N) (h1 : f.N < 9223372036854775808) (hs : (A ++ (gb f e ++ R)).size ≤ 100000) (G : Int → ByteArray → ByteArray → Int → Int → Option β) :
  (if e = true then (F97 n ⟨A ++ (gb f e ++ R), A.size, 0⟩).bind (fun r => G r.1.N r.1.Text r.2.s r.2.at_ r.2.e) else G 0 ByteArray.empty (A ++ (gb f e ++ R)) A.size 0) = G f.N f.Text (A ++ gb f e ++ R) ((A ++ gb f e).size : Nat) 0 := by
 rw [ba_assoc]
 cases e with
 | false =>
  have := he rfl
  subst this
  simp only [Bool.false_eq_true, if_false, gb, ba_nil_r]
  rfl
 | true =>
  have hg : gb f true = fb f := rfl
  rw [hg] at hs ⊢
  simp only [if_true, fieldr n hn A R f hf h0 h1 hs, Option.bind_some]
set_option maxHeartbeats 1000000
structure Fld (d : Delta) : Prop where
 m : 0 ≤ d.Mask
 is : isD d = true
 n0 : -9223372036854775808 ≤ d.F.a0.N ∧ d.F.a0.N < 9223372036854775808
 n1 : -9223372036854775808 ≤ d.F.a1.N ∧ d.F.a1.N < 9223372036854775808
 n2 : -9223372036854775808 ≤ d.F.a2.N ∧ d.F.a2.N < 9223372036854775808
 n3 : -9223372036854775808 ≤ d.F.a3.N ∧ d.F.a3.N < 9223372036854775808
theorem okF_is {f : Field} {e : Bool} (h : okF f e = true) : isF f = true ∧ (e = false → f = noF) := by
 unfold okF at h
 simp only [Bool.and_eq_true, Bool.or_eq_true] at h
 refine ⟨h.1, fun he => ?_⟩
 subst he
 rcases h.2 with h2 | h2
 ·cases h2
 ·exact (Field.eqb_iff _ _).1 h2
theorem fl_is {d : Delta} (h : isD d = true) : okF d.F.a0 (hs d.Mask 1) = true ∧ okF d.F.a1 (hs d.Mask 2) = true ∧ okF d.F.a2 (hs d.Mask 3) = true ∧ okF d.F.a3 (hs d.Mask 4) = true := by
 unfold isD fl4 at h
 simp only [Bool.and_eq_true] at h
 exact ⟨h.2.2.2.2.2.2.1, h.2.2.2.2.2.2.2.1, h.2.2.2.2.2.2.2.2.1, h.2.2.2.2.2.2.2.2.2⟩
def g0 (d : Delta) : ByteArray := gb d.F.a0 (hs d.Mask 1)
def g1 (d : Delta) : ByteArray := gb d.F.a1 (hs d.Mask 2)
def g2 (d : Delta) : ByteArray := gb d.F.a2 (hs d.Mask 3)
def g3 (d : Delta) : ByteArray := gb d.F.a3 (hs d.Mask 4)
theorem backP (n : Nat) (hn : 10 ≤ n) (d : Delta) (H : Fld d) (r1 r2 r4 r5 : Int × Reader_fields) (A t : ByteArray) (h1 : r1.1 = d.ID) (h2 : IntKind.wrap .u8 r2.1 = d.Mask) (h4 : r4.1 = d.At.X) (h5 : r5.1 = d.At.Y)
  (hz : A.size + (g0 d).size + (g1 d).size + (g2 d).size + (g3 d).size + t.size ≤ 100000) :
  (if hs d.Mask 1 = true then (F97 n ⟨A ++ (g0 d ++ (g1 d ++ (g2 d ++ (g3 d ++ t)))), A.size, 0⟩).bind (fun r7 => F95_u11 n r1 r2 r4 r5 r7.2 r7.1.N r7.1.Text) else F95_u11 n r1 r2 r4 r5 ⟨(A ++ (g0 d ++ (g1 d ++ (g2 d ++ (g3 d ++ t))))), A.size, 0⟩ 0 ByteArray.empty) = some (d, (((A ++ g0 d ++ g1 d ++ g2 d ++ g3 d).size : Nat) : Int), 0) := by
 obtain ⟨o0, o1, o2, o3⟩ := fl_is H.is
 have e00 : ((0 : Int) != 0) = false := rfl
 have b0 := back1 n hn A (g1 d ++ (g2 d ++ (g3 d ++ t))) d.F.a0 (hs d.Mask 1) (okF_is o0).2 (okF_is o0).1 H.n0.1 H.n0.2 (by simp only [ba_size]; unfold g0 at hz; omega) (fun N T s c e => F95_u11 n r1 r2 r4 r5 ⟨s, c, e⟩ N T)
 have b1 := back1 n hn (A ++ g0 d) (g2 d ++ (g3 d ++ t)) d.F.a1 (hs d.Mask 2) (okF_is o1).2 (okF_is o1).1 H.n1.1 H.n1.2 (by simp only [ba_size]; unfold g1 at hz; omega) (fun N T s c e => F95_u17 n r1 r2 r4 r5 d.F.a0.N d.F.a0.Text ⟨s, c, e⟩ N T)
 have b2 := back1 n hn (A ++ g0 d ++ g1 d) (g3 d ++ t) d.F.a2 (hs d.Mask 3) (okF_is o2).2 (okF_is o2).1 H.n2.1 H.n2.2 (by simp only [ba_size]; unfold g2 at hz; omega) (fun N T s c e => F95_u23 n r1 r2 r4 r5 d.F.a0.N d.F.a0.Text d.F.a1.N d.F.a1.Text ⟨s, c, e⟩ N T)
 have b3 := back1 n hn (A ++ g0 d ++ g1 d ++ g2 d) t d.F.a3 (hs d.Mask 4) (okF_is o3).2 (okF_is o3).1 H.n3.1 H.n3.2 (by simp only [ba_size]; unfold g3 at hz; omega) (fun N T s c e => F95_u29 n r1 r2 r4 r5 d.F.a0.N d.F.a0.Text d.F.a1.N d.F.a1.Text d.F.a2.N d.F.a2.Text ⟨s, c, e⟩ N T)
 refine Eq.trans b0 ?_
 show F95_u11 n r1 r2 r4 r5 ⟨(A ++ g0 d ++ (g1 d ++ (g2 d ++ (g3 d ++ t)))), ((A ++ g0 d).size : Nat), 0⟩ d.F.a0.N d.F.a0.Text = _
 unfold F95_u11
 simp only [e00, Bool.false_eq_true, if_false, h2, has1, Option.bind_some]
 refine Eq.trans b1 ?_
 show F95_u17 n r1 r2 r4 r5 d.F.a0.N d.F.a0.Text ⟨(A ++ g0 d ++ g1 d ++ (g2 d ++ (g3 d ++ t))), ((A ++ g0 d ++ g1 d).size : Nat), 0⟩ d.F.a1.N d.F.a1.Text = _
 unfold F95_u17
 simp only [e00, Bool.false_eq_true, if_false, h2, has2, Option.bind_some]
 refine Eq.trans b2 ?_
 show F95_u23 n r1 r2 r4 r5 d.F.a0.N d.F.a0.Text d.F.a1.N d.F.a1.Text ⟨(A ++ g0 d ++ g1 d ++ g2 d ++ (g3 d ++ t)), ((A ++ g0 d ++ g1 d ++ g2 d).size : Nat), 0⟩ d.F.a2.N d.F.a2.Text = _
 unfold F95_u23
 simp only [e00, Bool.false_eq_true, if_false, h2, has3, Option.bind_some]
 refine Eq.trans b3 ?_
 show F95_j39 n r1 r2 r4 r5 ⟨(A ++ g0 d ++ g1 d ++ g2 d ++ g3 d ++ t), ((A ++ g0 d ++ g1 d ++ g2 d ++ g3 d).size : Nat), 0⟩ d.F.a0.N d.F.a0.Text d.F.a1.N d.F.a1.Text d.F.a2.N d.F.a2.Text d.F.a3.N d.F.a3.Text = _
 unfold F95_j39
 simp only [e00, Bool.false_eq_true, if_false, h1, h2, h4, h5]
 have hd : Delta.mk d.ID d.Mask (Point.mk d.At.X d.At.Y) (A4.mk (Field.mk d.F.a0.N d.F.a0.Text) (Field.mk d.F.a1.N d.F.a1.Text) (Field.mk d.F.a2.N d.F.a2.Text) (Field.mk d.F.a3.N d.F.a3.Text)) = d := rfl
 simp only [hd, isD_eq, H.is, Option.bind_some, Bool.not_true, Bool.false_eq_true, if_false]
theorem backN (n : Nat) (hn : 10 ≤ n) (d : Delta) (H : Fld d) (r1 r2 : Int × Reader_fields) (A t : ByteArray) (h1 : r1.1 = d.ID) (h2 : IntKind.wrap .u8 r2.1 = d.Mask) (h4 : d.At = noP)
  (hz : A.size + (g0 d).size + (g1 d).size + (g2 d).size + (g3 d).size + t.size ≤ 100000) :
  (if hs d.Mask 1 = true then (F97 n ⟨A ++ (g0 d ++ (g1 d ++ (g2 d ++ (g3 d ++ t)))), A.size, 0⟩).bind (fun r7 => F95_u46 n r1 r2 r7.2 r7.1.N r7.1.Text) else F95_u46 n r1 r2 ⟨(A ++ (g0 d ++ (g1 d ++ (g2 d ++ (g3 d ++ t))))), A.size, 0⟩ 0 ByteArray.empty) = some (d, (((A ++ g0 d ++ g1 d ++ g2 d ++ g3 d).size : Nat) : Int), 0) := by
 obtain ⟨o0, o1, o2, o3⟩ := fl_is H.is
 have e00 : ((0 : Int) != 0) = false := rfl
 have b0 := back1 n hn A (g1 d ++ (g2 d ++ (g3 d ++ t))) d.F.a0 (hs d.Mask 1) (okF_is o0).2 (okF_is o0).1 H.n0.1 H.n0.2 (by simp only [ba_size]; unfold g0 at hz; omega) (fun N T s c e => F95_u46 n r1 r2 ⟨s, c, e⟩ N T)
 have b1 := back1 n hn (A ++ g0 d) (g2 d ++ (g3 d ++ t)) d.F.a1 (hs d.Mask 2) (okF_is o1).2 (okF_is o1).1 H.n1.1 H.n1.2 (by simp only [ba_size]; unfold g1 at hz; omega) (fun N T s c e => F95_u52 n r1 r2 d.F.a0.N d.F.a0.Text ⟨s, c, e⟩ N T)
 have b2 := back1 n hn (A ++ g0 d ++ g1 d) (g3 d ++ t) d.F.a2 (hs d.Mask 3) (okF_is o2).2 (okF_is o2).1 H.n2.1 H.n2.2 (by simp only [ba_size]; unfold g2 at hz; omega) (fun N T s c e => F95_u58 n r1 r2 d.F.a0.N d.F.a0.Text d.F.a1.N d.F.a1.Text ⟨s, c, e⟩ N T)
 have b3 := back1 n hn (A ++ g0 d ++ g1 d ++ g2 d) t d.F.a3 (hs d.Mask 4) (okF_is o3).2 (okF_is o3).1 H.n3.1 H.n3.2 (by simp only [ba_size]; unfold g3 at hz; omega) (fun N T s c e => F95_u64 n r1 r2 d.F.a0.N d.F.a0.Text d.F.a1.N d.F.a1.Text d.F.a2.N d.F.a2.Text ⟨s, c, e⟩ N T)
 refine Eq.trans b0 ?_
 show F95_u46 n r1 r2 ⟨(A ++ g0 d ++ (g1 d ++ (g2 d ++ (g3 d ++ t)))), ((A ++ g0 d).size : Nat), 0⟩ d.F.a0.N d.F.a0.Text = _
 unfold F95_u46
 simp only [e00, Bool.false_eq_true, if_false, h2, has1, Option.bind_some]
 refine Eq.trans b1 ?_
 show F95_u52 n r1 r2 d.F.a0.N d.F.a0.Text ⟨(A ++ g0 d ++ g1 d ++ (g2 d ++ (g3 d ++ t))), ((A ++ g0 d ++ g1 d).size : Nat), 0⟩ d.F.a1.N d.F.a1.Text = _
 unfold F95_u52
 simp only [e00, Bool.false_eq_true, if_false, h2, has2, Option.bind_some]
 refine Eq.trans b2 ?_
 show F95_u58 n r1 r2 d.F.a0.N d.F.a0.Text d.F.a1.N d.F.a1.Text ⟨(A ++ g0 d ++ g1 d ++ g2 d ++ (g3 d ++ t)), ((A ++ g0 d ++ g1 d ++ g2 d).size : Nat), 0⟩ d.F.a2.N d.F.a2.Text = _
 unfold F95_u58
 simp only [e00, Bool.false_eq_true, if_false, h2, has3, Option.bind_some]
 refine Eq.trans b3 ?_
 show F95_j74 n r1 r2 ⟨(A ++ g0 d ++ g1 d ++ g2 d ++ g3 d ++ t), ((A ++ g0 d ++ g1 d ++ g2 d ++ g3 d).size : Nat), 0⟩ d.F.a0.N d.F.a0.Text d.F.a1.N d.F.a1.Text d.F.a2.N d.F.a2.Text d.F.a3.N d.F.a3.Text = _
 unfold F95_j74
 simp only [e00, Bool.false_eq_true, if_false, h1, h2]
 have hd : Delta.mk d.ID d.Mask (Point.mk 0 0) (A4.mk (Field.mk d.F.a0.N d.F.a0.Text) (Field.mk d.F.a1.N d.F.a1.Text) (Field.mk d.F.a2.N d.F.a2.Text) (Field.mk d.F.a3.N d.F.a3.Text)) = d := by
  have : d.At = Point.mk 0 0 := h4
  rw [← this]
 simp only [hd, isD_eq, H.is, Option.bind_some, Bool.not_true, Bool.false_eq_true, if_false]
theorem body_is (d : Delta) (s : ByteArray) : body s d = s ++ g0 d ++ g1 d ++ g2 d ++ g3 d := by
 unfold body g0 g1 g2 g3
 rw [stage_gb, stage_gb, stage_gb, stage_gb]
theorem gb_size (f : Field) (e : Bool) (h : f.Text.size ≤ 40) : (gb f e).size ≤ 60 := by
 have := stage_size ByteArray.empty f e h
 rw [stage_gb, ba_nil] at this
 have z : ByteArray.empty.size = 0 := rfl
 omega
theorem text12 {f : Field} (hf : isF f = true) : f.Text.size ≤ 12 := by
 unfold isF at hf
 split at hf
 ·simp at hf; omega
 ·split at hf
  ·simp at hf; omega
  ·cases hf
theorem read_back (n : Nat) (hn : 10 ≤ n) (d : Delta) (H : Fld d) (t : ByteArray) (ht : t.size ≤ 90000) : F95 n (body (head d) d ++ t) = some (d, ((body (head d) d).size : Int), 0) := by
 obtain ⟨o0, o1, o2, o3⟩ := fl_is H.is
 have k0 := gb_size d.F.a0 (hs d.Mask 1) (by have := text12 (okF_is o0).1; omega)
 have k1 := gb_size d.F.a1 (hs d.Mask 2) (by have := text12 (okF_is o1).1; omega)
 have k2 := gb_size d.F.a2 (hs d.Mask 3) (by have := text12 (okF_is o2).1; omega)
 have k3 := gb_size d.F.a3 (hs d.Mask 4) (by have := text12 (okF_is o3).1; omega)
 have kh := head_size d
 have e00 : ((0 : Int) != 0) = false := rfl
 have hd := H.is
 unfold isD at hd
 simp only [Bool.and_eq_true, Bool.not_eq_true', decide_eq_false_iff_not, beq_eq_false_iff_ne, ne_eq] at hd
 obtain ⟨i0, i1, m0, m1, pl, on1, _⟩ := hd
 have hss : body (head d) d ++ t = head d ++ (g0 d ++ (g1 d ++ (g2 d ++ (g3 d ++ t)))) := by
  rw [body_is]; simp only [ba_assoc]
 have hz : (head d).size + (g0 d).size + (g1 d).size + (g2 d).size + (g3 d).size + t.size ≤ 100000 := by
  unfold g0 g1 g2 g3; omega
 have wm : IntKind.wrap .u8 d.Mask = d.Mask := by rw [wrap_u8]; have := H.m; omega
 have hon : 0 ≤ d.At.X ∧ d.At.X < 64 ∧ 0 ≤ d.At.Y ∧ d.At.Y < 64 := by
  unfold on at on1
  by_cases h1 : 0 ≤ d.At.X <;> by_cases h2 : d.At.X < 64 <;> by_cases h3 : 0 ≤ d.At.Y <;> by_cases h4 : d.At.Y < 64 <;> simp [h1, h2, h3, h4] at on1 ⊢
 have z0 : ((ByteArray.empty.size : Nat) : Int) = 0 := rfl
 have hm := H.m
 have c1 : decide ((1000000 : Int) < d.ID) = false := by simp; omega
 have c2 : (d.Mask == 0) = false := by simp [m0]
 have c3 : decide ((31 : Int) < d.Mask) = false := by simp; omega
 rw [hss]
 unfold F95
 cases hA : a1 d with
 | true =>
  have hA' : (bitsI .and .u8 d.Mask 1 != 0) = true := hA
  have hh : head d = pu d.ID ++ pu d.Mask ++ pu d.At.X ++ pu d.At.Y := by
   unfold head; rw [hA]; simp only [if_true, ba_assoc]
  rw [hh] at hz
  simp only [ba_size] at hz
  rw [body_is, hh]
  have s1 : pu d.ID ++ pu d.Mask ++ pu d.At.X ++ pu d.At.Y ++ (g0 d ++ (g1 d ++ (g2 d ++ (g3 d ++ t)))) = ByteArray.empty ++ (pu d.ID ++ (pu d.Mask ++ (pu d.At.X ++ (pu d.At.Y ++ (g0 d ++ (g1 d ++ (g2 d ++ (g3 d ++ t)))))))) := by simp only [ba_nil, ba_assoc]
  have s2 : pu d.ID ++ pu d.Mask ++ pu d.At.X ++ pu d.At.Y ++ (g0 d ++ (g1 d ++ (g2 d ++ (g3 d ++ t)))) = pu d.ID ++ (pu d.Mask ++ (pu d.At.X ++ (pu d.At.Y ++ (g0 d ++ (g1 d ++ (g2 d ++ (g3 d ++ t))))))) := by simp only [ba_assoc]
  have s3 : pu d.ID ++ pu d.Mask ++ pu d.At.X ++ pu d.At.Y ++ (g0 d ++ (g1 d ++ (g2 d ++ (g3 d ++ t)))) = (pu d.ID ++ pu d.Mask) ++ (pu d.At.X ++ (pu d.At.Y ++ (g0 d ++ (g1 d ++ (g2 d ++ (g3 d ++ t)))))) := by simp only [ba_assoc]
  have s4 : pu d.ID ++ pu d.Mask ++ pu d.At.X ++ pu d.At.Y ++ (g0 d ++ (g1 d ++ (g2 d ++ (g3 d ++ t)))) = (pu d.ID ++ pu d.Mask ++ pu d.At.X) ++ (pu d.At.Y ++ (g0 d ++ (g1 d ++ (g2 d ++ (g3 d ++ t))))) := by simp only [ba_assoc]
  have q1 := numr n hn ByteArray.empty (pu d.Mask ++ (pu d.At.X ++ (pu d.At.Y ++ (g0 d ++ (g1 d ++ (g2 d ++ (g3 d ++ t))))))) d.ID (by omega) (by omega) (by rw [← s1]; simp only [ba_size]; omega)
  have q2 := numr n hn (pu d.ID) (pu d.At.X ++ (pu d.At.Y ++ (g0 d ++ (g1 d ++ (g2 d ++ (g3 d ++ t)))))) d.Mask (by omega) (by omega) (by rw [← s2]; simp only [ba_size]; omega)
  have q3 := numr n hn (pu d.ID ++ pu d.Mask) (pu d.At.Y ++ (g0 d ++ (g1 d ++ (g2 d ++ (g3 d ++ t))))) d.At.X (by omega) (by omega) (by rw [← s3]; simp only [ba_size]; omega)
  have q4 := numr n hn (pu d.ID ++ pu d.Mask ++ pu d.At.X) (g0 d ++ (g1 d ++ (g2 d ++ (g3 d ++ t)))) d.At.Y (by omega) (by omega) (by rw [← s4]; simp only [ba_size]; omega)
  rw [← s1, z0, ba_nil] at q1
  rw [← s2] at q2
  rw [← s3] at q3
  rw [← s4] at q4
  simp only [q1, q2, Option.bind_some, beq_self_eq_true, if_true, c1, c2, c3, Bool.false_eq_true, if_false]
  unfold F95_j3
  simp only [wm, hA', if_true, q3, q4, Option.bind_some, e00, Bool.false_eq_true, if_false, has0]
  exact backP n hn d H _ _ _ _ (pu d.ID ++ pu d.Mask ++ pu d.At.X ++ pu d.At.Y) t rfl wm rfl rfl (by simp only [ba_size]; omega)
 | false =>
  have hA' : (bitsI .and .u8 d.Mask 1 != 0) = false := hA
  have hat : d.At = noP := by
   rw [hA] at pl
   simp only [Bool.false_or] at pl
   exact (Point.eqb_iff _ _).1 pl
  have hh : head d = pu d.ID ++ pu d.Mask := by
   unfold head; rw [hA]; rfl
  rw [hh] at hz
  simp only [ba_size] at hz
  rw [body_is, hh]
  have s1 : pu d.ID ++ pu d.Mask ++ (g0 d ++ (g1 d ++ (g2 d ++ (g3 d ++ t)))) = ByteArray.empty ++ (pu d.ID ++ (pu d.Mask ++ (g0 d ++ (g1 d ++ (g2 d ++ (g3 d ++ t)))))) := by simp only [ba_nil, ba_assoc]
  have s2 : pu d.ID ++ pu d.Mask ++ (g0 d ++ (g1 d ++ (g2 d ++ (g3 d ++ t)))) = pu d.ID ++ (pu d.Mask ++ (g0 d ++ (g1 d ++ (g2 d ++ (g3 d ++ t))))) := by simp only [ba_assoc]
  have q1 := numr n hn ByteArray.empty (pu d.Mask ++ (g0 d ++ (g1 d ++ (g2 d ++ (g3 d ++ t))))) d.ID (by omega) (by omega) (by rw [← s1]; simp only [ba_size]; omega)
  have q2 := numr n hn (pu d.ID) (g0 d ++ (g1 d ++ (g2 d ++ (g3 d ++ t)))) d.Mask (by omega) (by omega) (by rw [← s2]; simp only [ba_size]; omega)
  rw [← s1, z0, ba_nil] at q1
  rw [← s2] at q2
  simp only [q1, q2, Option.bind_some, beq_self_eq_true, if_true, c1, c2, c3, Bool.false_eq_true, if_false]
  unfold F95_j3
  simp only [wm, hA', Bool.false_eq_true, if_false, Option.bind_some, e00, has0]
  exact backN n hn d H _ _ (pu d.ID ++ pu d.Mask) t rfl wm hat (by simp only [ba_size]; omega)
theorem ixg {α : Type} (l : List α) (i : Nat) (h : i < l.length) : ix l (i : Int) = some l[i] := by
 simp [ix, h]
theorem dsucc {i : Nat} (h : i < maxLen) : IntKind.wrap .i64 ((i : Int) + 1) = ((i + 1 : Nat) : Int) := by
 simp only [maxLen] at h
 simp [IntKind.wrap, IntKind.bits, IntKind.signed]; omega
theorem lt_dec {i n : Nat} (h : i < n) : decide ((i : Int) < (n : Int)) = true := by simp; omega
theorem ge_dec {i n : Nat} (h : ¬ i < n) : decide ((i : Int) < (n : Int)) = false := by simp; omega
theorem dropS {α : Type} (l : List α) (i : Nat) (h : i < l.length) : l.drop i = l[i] :: l.drop (i + 1) := (List.getElem_cons_drop (h := h)).symm
def isTh (t : Thing) : Bool := decide (0 ≤ t.ID) && (decide (t.ID ≤ 1000000) && (on t.At && (isF t.F.a0 && (isF t.F.a1 && (isF t.F.a2 && isF t.F.a3)))))
theorem not_eq (n : Nat) (f : Field) : F82 n f = some (!(isF f)) := by
 unfold F82
 simp only [isF_eq, Option.bind_some]
theorem is_eq (n : Nat) (t : Thing) : F67 n t = some (isTh t) := by
 have hz : ∀ a b c d : Field, F81s0 n [a, b, c, d] = some (!(isF a && (isF b && (isF c && isF d)))) := by
  intro a b c d
  unfold F81s0 F91s0
  unfold F91s0_l4
  have w1 : IntKind.wrap .i64 ((0 : Int) + 1) = 1 := by decide
  have w2 : IntKind.wrap .i64 ((1 : Int) + 1) = 2 := by decide
  have w3 : IntKind.wrap .i64 ((2 : Int) + 1) = 3 := by decide
  have w4 : IntKind.wrap .i64 ((3 : Int) + 1) = 4 := by decide
  have x0 : ix [a, b, c, d] 0 = some a := rfl
  have x1 : ix [a, b, c, d] 1 = some b := rfl
  have x2 : ix [a, b, c, d] 2 = some c := rfl
  have x3 : ix [a, b, c, d] 3 = some d := rfl
  have l0 : decide ((0 : Int) < (([a, b, c, d] : List Field).length : Int)) = true := rfl
  have l1 : decide ((1 : Int) < (([a, b, c, d] : List Field).length : Int)) = true := rfl
  have l2 : decide ((2 : Int) < (([a, b, c, d] : List Field).length : Int)) = true := rfl
  have l3 : decide ((3 : Int) < (([a, b, c, d] : List Field).length : Int)) = true := rfl
  have l4 : decide ((4 : Int) < (([a, b, c, d] : List Field).length : Int)) = false := rfl
  rw [if_pos l0, x0]
  simp only [Option.bind_some, not_eq]
  cases isF a with
  | false => rfl
  | true =>
   simp only [Bool.not_true, Bool.false_eq_true, if_false, Bool.true_and]
   rw [w1]
   unfold F91s0_l4
   rw [if_pos l1, x1]
   simp only [Option.bind_some, not_eq]
   cases isF b with
   | false => rfl
   | true =>
    simp only [Bool.not_true, Bool.false_eq_true, if_false, Bool.true_and]
    rw [w2]
    unfold F91s0_l4
    rw [if_pos l2, x2]
    simp only [Option.bind_some, not_eq]
    cases isF c with
    | false => rfl
    | true =>
     simp only [Bool.not_true, Bool.false_eq_true, if_false, Bool.true_and]
     rw [w3]
     unfold F91s0_l4
     rw [if_pos l3, x3]
     simp only [Option.bind_some, not_eq]
     cases isF d with
     | false => rfl
     | true =>
      simp only [Bool.not_true, Bool.false_eq_true, if_false]
      rw [w4]
      unfold F91s0_l4
      rw [if_neg (by rw [l4]; decide)]
      rfl
 unfold F67 isTh
 rw [hz]
 simp only [on_eq, Option.bind_some, Bool.not_not]
 by_cases h1 : 0 ≤ t.ID
 ·by_cases h2 : t.ID ≤ 1000000
  ·cases h3 : on t.At <;> simp [h1, h2]
  ·simp [h1, h2]
 ·simp [h1]
def full (t : Thing) : Delta := ⟨t.ID, 31, t.At, t.F⟩
theorem text_few {f : Field} (h : isF f = true) : f.Text.size ≤ 12 := by
 unfold isF at h
 split at h
 ·simp at h; omega
 ·split at h
  ·simp at h; omega
  ·cases h
theorem isTh_F {t : Thing} (h : isTh t = true) : isF t.F.a0 = true ∧ isF t.F.a1 = true ∧ isF t.F.a2 = true ∧ isF t.F.a3 = true := by
 unfold isTh at h
 simp only [Bool.and_eq_true] at h
 exact ⟨h.2.2.2.1, h.2.2.2.2.1, h.2.2.2.2.2.1, h.2.2.2.2.2.2⟩
theorem isTh_few {t : Thing} (h : isTh t = true) : Few (full t) := by
 obtain ⟨h0, h1, h2, h3⟩ := isTh_F h
 have := text_few h0; have := text_few h1; have := text_few h2; have := text_few h3
 refine ⟨?_, ?_, ?_, ?_⟩ <;> (unfold full; simp only; omega)
theorem full_is (t : Thing) : isD (full t) = isTh t := by
 have b1 : hs 31 1 = true := by decide +kernel
 have b2 : hs 31 2 = true := by decide +kernel
 have b3 : hs 31 3 = true := by decide +kernel
 have b4 : hs 31 4 = true := by decide +kernel
 have c1 : a1 (full t) = true := by show ((bitsI .and .u8 31 1) != 0) = true; decide +kernel
 unfold isD isTh fl4 okF
 have e : (full t).Mask = 31 := rfl
 rw [c1, e, b1, b2, b3, b4]
 have f1 : (!((31 : Int) == 0)) = true := rfl
 have f2 : (!(decide ((31 : Int) < 31))) = true := rfl
 rw [f1, f2]
 simp only [Bool.true_and, Bool.true_or, Bool.and_true]
 show (!(decide (t.ID < 0)) && (!(decide (1000000 < t.ID)) && (on t.At && (isF t.F.a0 && (isF t.F.a1 && (isF t.F.a2 && isF t.F.a3)))))) = _
 have g1 : (!(decide (t.ID < 0))) = decide (0 ≤ t.ID) := by by_cases h : t.ID < 0 <;> simp [h] <;> omega
 have g2 : (!(decide (1000000 < t.ID))) = decide (t.ID ≤ 1000000) := by by_cases h : 1000000 < t.ID <;> simp [h] <;> omega
 rw [g1, g2]
theorem put_l (n : Nat) : ∀ (k m : Nat) (x : Int) (l : List Int), 1 ≤ k → 0 ≤ x → x < 128 ^ k → k < m → l.length + k ≤ 1000 → F20_l7 n m x l = some (mkStr (l ++ putL k x))
 | 0, m, x, l, hk, h0, h1, _, _ => by omega
 | k + 1, 0, x, l, _, _, _, h, _ => by omega
 | k + 1, m + 1, x, l, _, h0, h1, h2, h3 => by
  have hc : (l.length + 1) * 1 ≤ maxCells ∧ l.length + 1 ≤ maxCells := by simp only [maxCells]; omega
  unfold F20_l7 putL
  by_cases h : 128 ≤ x
  ·have hx : x / 128 < 128 ^ k := by
    rw [Int.pow_succ] at h1
    exact Int.ediv_lt_of_lt_mul (by decide) h1
   simp only [h, decide_true, if_true, if_pos hc, shr7]
   have hk : 1 ≤ k := by
    cases k with
    | zero => simp at h1; omega
    | succ k => omega
   rw [put_l n k m (x / 128) _ hk (by omega) hx (by omega) (by simp only [List.length_append, List.length_cons, List.length_nil]; omega)]
   simp only [List.append_assoc, List.cons_append, List.nil_append]
   rfl
  ·simp only [h, decide_false, Bool.false_eq_true, if_false]
   rw [if_pos hc]
theorem put_eq {n : Nat} (hn : 10 ≤ n) {x : Int} (h0 : 0 ≤ x) (h1 : x < 18446744073709551616) : F20 n x = some (pt x) := by
 unfold F20
 rw [put_l n 10 (n + 8) x [] (by omega) h0 (pow10 h1) (by omega) (by simp)]
 rfl
theorem pu_eq {n : Nat} (hn : 10 ≤ n) (x : Int) : F20 n (IntKind.wrap .u64 x) = some (pu x) := put_eq hn (u64_in x).1 (u64_in x).2
theorem tx_eq {n : Nat} (hn : 10 ≤ n) {s : ByteArray} (h : s.size ≤ 1000) : F49 n s = some (tx s) := by
 unfold F49
 have := pu_size (s.size : Int)
 rw [pu_eq hn]
 simp only [Option.bind_some]
 rw [if_pos (by omega)]; rfl
theorem zg_eq {n : Nat} (hn : 10 ≤ n) (x : Int) : F46 n x = some (zg x) := by
 unfold F46 F77
 simp only [Option.bind_some]
 rw [put_eq hn (xor_in _ _).1 (xor_in _ _).2]
 rfl
theorem stg {α : Type} {n : Nat} (hn : 10 ≤ n) (s : ByteArray) (f : Field) (e : Bool) (h1 : s.size ≤ 1000) (h2 : f.Text.size ≤ 40) (K : ByteArray → Option α) :
  (if (!e) = true then K s else (F49 n f.Text).bind fun r => if s.size + r.size ≤ 9223372036854775807 then if (f.Text.toList == ByteArray.empty.toList) = true then (F46 n f.N).bind fun r2 => if (s ++ r).size + r2.size ≤ 9223372036854775807 then K ((s ++ r) ++ r2) else none else K (s ++ r) else none) = K (stage s f e) := by
 have a1 := tx_size f.Text
 have hz : (zg f.N).size ≤ 10 := (pt_size _).1
 cases e with
 | false => rfl
 | true =>
  simp only [Bool.not_true, Bool.false_eq_true, if_false, tx_eq hn (show f.Text.size ≤ 1000 by omega), zg_eq hn, Option.bind_some]
  rw [if_pos (by omega)]
  unfold stage isE
  cases f.Text.toList == ByteArray.empty.toList with
  | false => rfl
  | true =>
   simp only [if_true]
   rw [if_pos (by rw [ba_size]; omega)]
theorem body_eq {n : Nat} (hn : 10 ≤ n) (d : Delta) (hf : Few d) (s : ByteArray) (h : s.size ≤ 100) : F75_j7 n d s = some (body s d, 0) := by
 obtain ⟨f0, f1, f2, f3⟩ := hf
 have z1 := stage_size s d.F.a0 (hs d.Mask 1) f0
 have z2 := stage_size (stage s d.F.a0 (hs d.Mask 1)) d.F.a1 (hs d.Mask 2) f1
 have z3 := stage_size (stage (stage s d.F.a0 (hs d.Mask 1)) d.F.a1 (hs d.Mask 2)) d.F.a2 (hs d.Mask 3) f2
 unfold F75_j7
 simp only [has0, Option.bind_some]
 rw [stg hn s d.F.a0 _ (by omega) f0 (fun s => F75_u12 n d s)]
 unfold F75_u12
 simp only [has1, Option.bind_some]
 rw [stg hn _ d.F.a1 _ (by omega) f1 (fun s => F75_u17 n d s)]
 unfold F75_u17
 simp only [has2, Option.bind_some]
 rw [stg hn _ d.F.a2 _ (by omega) f2 (fun s => F75_u22 n d s)]
 unfold F75_u22
 simp only [has3, Option.bind_some]
 rw [stg hn _ d.F.a3 _ (by omega) f3 (fun s => F75_u27 n s)]
 rfl
theorem bytes_eq {n : Nat} (hn : 10 ≤ n) (d : Delta) (hf : Few d) : F75 n d = some (if isD d then (body (head d) d, 0) else (ByteArray.empty, 11)) := by
 have p1 := pu_size d.ID; have p2 := pu_size d.Mask; have p3 := pu_size d.At.X; have p4 := pu_size d.At.Y
 have hh := head_size d
 unfold F75
 simp only [isD_eq, Option.bind_some, pu_eq hn]
 cases hd : isD d with
 | false => simp
 | true =>
  simp only [Bool.not_true, Bool.false_eq_true, if_false, if_true]
  rw [if_pos (by omega)]
  unfold head at hh ⊢
  cases h1 : a1 d with
  | false =>
   have h1' : (bitsI .and .u8 d.Mask 1 != 0) = false := h1
   rw [h1] at hh
   simp only [h1', Bool.false_eq_true, if_false] at hh ⊢
   exact body_eq hn d hf _ (by omega)
  | true =>
   have h1' : (bitsI .and .u8 d.Mask 1 != 0) = true := h1
   rw [h1] at hh
   simp only [h1', if_true] at hh ⊢
   rw [if_pos (by omega), if_pos (by rw [ba_size, ba_size]; omega)]
   exact body_eq hn d hf _ (by omega)
def tb (t : Thing) : ByteArray := body (head (full t)) (full t)
theorem tb_size {t : Thing} (h : isTh t = true) : (tb t).size ≤ 280 ∧ 1 ≤ (tb t).size := by
 obtain ⟨f0, f1, f2, f3⟩ := isTh_few h
 have hh := head_size (full t)
 have h1 : 1 ≤ (head (full t)).size := by
  have := pu_size (full t).ID; have := pu_size (full t).Mask
  unfold head
  split <;> simp only [ba_size] <;> omega
 have g : ∀ (s : ByteArray) (f : Field) (e : Bool), s.size ≤ (stage s f e).size := fun s f e => by
  unfold stage
  split
  ·split <;> simp only [ba_size] <;> omega
  ·omega
 unfold tb body
 have z1 := stage_size (head (full t)) (full t).F.a0 (hs (full t).Mask 1) f0
 have z2 := stage_size (stage (head (full t)) (full t).F.a0 (hs (full t).Mask 1)) (full t).F.a1 (hs (full t).Mask 2) f1
 have z3 := stage_size (stage (stage (head (full t)) (full t).F.a0 (hs (full t).Mask 1)) (full t).F.a1 (hs (full t).Mask 2)) (full t).F.a2 (hs (full t).Mask 3) f2
 have z4 := stage_size (stage (stage (stage (head (full t)) (full t).F.a0 (hs (full t).Mask 1)) (full t).F.a1 (hs (full t).Mask 2)) (full t).F.a2 (hs (full t).Mask 3)) (full t).F.a3 (hs (full t).Mask 4) f3
 have y1 := g (head (full t)) (full t).F.a0 (hs (full t).Mask 1)
 have y2 := g (stage (head (full t)) (full t).F.a0 (hs (full t).Mask 1)) (full t).F.a1 (hs (full t).Mask 2)
 have y3 := g (stage (stage (head (full t)) (full t).F.a0 (hs (full t).Mask 1)) (full t).F.a1 (hs (full t).Mask 2)) (full t).F.a2 (hs (full t).Mask 3)
 have y4 := g (stage (stage (stage (head (full t)) (full t).F.a0 (hs (full t).Mask 1)) (full t).F.a1 (hs (full t).Mask 2)) (full t).F.a2 (hs (full t).Mask 3)) (full t).F.a3 (hs (full t).Mask 4)
 omega
theorem tbytes_eq {n : Nat} (hn : 10 ≤ n) (t : Thing) : F44 n t = some (if isTh t then (tb t, 0) else (ByteArray.empty, 11)) := by
 unfold F44
 simp only [is_eq, Option.bind_some]
 cases h : isTh t with
 | false => rfl
 | true =>
  simp only [Bool.not_true, Bool.false_eq_true, if_false, if_true]
  have := bytes_eq hn (full t) (isTh_few h)
  rw [full_is, h] at this
  have e : Delta.mk t.ID 31 t.At t.F = full t := rfl
  rw [e, this]
  rfl
theorem mk_bytes (s : ByteArray) : mkStr (bytesL s) = s := by
 apply ba_ext
 rw [mkStr_data]
 apply Array.ext'
 simp only [bytesL, List.map_map]
 have : ((fun n : Int => UInt8.ofNat n.toNat) ∘ fun b : UInt8 => (b.toNat : Int)) = id := by
  funext b; simp
 rw [this, List.map_id]
theorem bytes_add (a b : ByteArray) : bytesL (a ++ b) = bytesL a ++ bytesL b := by
 simp [bytesL, ByteArray.data_append]
theorem bytes_byteB (s : ByteArray) : (bytesL s).all byteB = true := by
 rw [List.all_eq_true]
 intro x hx
 simp only [bytesL, List.mem_map] at hx
 obtain ⟨b, _, rfl⟩ := hx
 have := b.toNat_lt
 simp only [byteB, Bool.and_eq_true, decide_eq_true_eq]
 omega
theorem bldAdd_s {a b : ByteArray} (h : a.size + b.size ≤ 1000000) : bldAdd (bytesL a) b = some (bytesL (a ++ b)) := by
 unfold bldAdd
 rw [if_pos (by rw [bytesL_len, Nat.ble_eq]; omega), bytes_add]
theorem bldStr_s {a : ByteArray} (h : 1 ≤ a.size) : bldStr (bytesL a) = some a := by
 unfold bldStr
 rw [if_pos (by rw [bytes_byteB, bytesL_len]; simp [Nat.blt_eq]; omega), mk_bytes]
def prevI (l : List Thing) (i : Nat) : Option Int := if i = 0 then none else some ((l.getD (i - 1) ⟨0, ⟨0, 0⟩, ⟨noF, noF, noF, noF⟩⟩).ID)
theorem prev0 (l : List Thing) : prevI l 0 = none := rfl
theorem prevS (l : List Thing) (i : Nat) (h : i < l.length) : prevI l (i + 1) = some l[i].ID := by
 unfold prevI
 rw [if_neg (by omega)]
 have : i + 1 - 1 = i := by omega
 rw [this, List.getD_eq_getElem?_getD, List.getElem?_eq_getElem h]; rfl
theorem pred_w {i : Nat} (h : i + 1 < maxLen) : IntKind.wrap .i64 (((i + 1 : Nat) : Int) - 1) = (i : Int) := by
 simp only [maxLen] at h
 simp [IntKind.wrap, IntKind.bits, IntKind.signed]; omega
def allR : Option Int → List Thing → ByteArray → ByteArray × Int
 | _, [], s => (s, 0)
 | p, t :: l, s => if isTh t = false then (ByteArray.empty, 11) else
  match p with
  | some q => if t.ID ≤ q then (ByteArray.empty, 11) else allR (some t.ID) l (s ++ tb t)
  | none => allR (some t.ID) l (s ++ tb t)
theorem allR_cons (l : List Thing) (i : Nat) (h : i < l.length) (s : ByteArray) (p : Option Int) : allR p (l.drop i) s = if isTh l[i] = false then (ByteArray.empty, 11) else
  match p with
  | some q => if l[i].ID ≤ q then (ByteArray.empty, 11) else allR (some l[i].ID) (l.drop (i + 1)) (s ++ tb l[i])
  | none => allR (some l[i].ID) (l.drop (i + 1)) (s ++ tb l[i]) := by
 rw [dropS l i h]; rfl
theorem all_l {n : Nat} (hn : 10 ≤ n) (l : List Thing) (hl : l.length ≤ 200) : ∀ (m i : Nat) (s : ByteArray), i ≤ l.length → l.length - i < m → 1 ≤ s.size → s.size + 280 * (l.length - i) ≤ 100000 →
  F18_l9 n l m (i : Int) (bytesL s) = some (allR (prevI l i) (l.drop i) s)
 | 0, i, _, _, h, _, _ => by omega
 | m + 1, i, s, hi, hm, h1, hs => by
  unfold F18_l9
  have hx : maxLen = 9223372036854775807 := rfl
  by_cases hlt : i < l.length
  ·rw [if_pos (lt_dec hlt), ixg l i hlt, allR_cons l i hlt]
   simp only [Option.bind_some, tbytes_eq hn]
   cases ht : isTh l[i] with
   | false => simp
   | true =>
    obtain ⟨z1, z2⟩ := tb_size ht
    have hadd := bldAdd_s (a := s) (b := tb l[i]) (by omega)
    have ih := all_l hn l hl m (i + 1) (s ++ tb l[i]) (by omega) (by omega) (by rw [ba_size]; omega) (by rw [ba_size]; omega)
    rw [prevS l i hlt] at ih
    have w := dsucc (i := i) (by omega)
    have e00 : ((0 : Int) != 0) = false := rfl
    simp only [if_true, e00, Bool.false_eq_true, if_false]
    cases i with
    | zero =>
     have c : decide ((0 : Int) < ((0 : Nat) : Int)) = false := rfl
     simp only [c, Bool.false_eq_true, if_false, hadd, Option.bind_some, prev0]
     rw [w]; simpa using ih
    | succ j =>
     have c : decide ((0 : Int) < ((j + 1 : Nat) : Int)) = true := by rw [decide_eq_true_eq]; omega
     have hj : j < l.length := by omega
     rw [if_pos c, pred_w (by omega), ixg l j hj, prevS l j hj]
     simp only [Option.bind_some, hadd]
     by_cases hle : l[j + 1].ID ≤ l[j].ID
     ·simp [hle]
     ·simp only [hle, decide_false, Bool.false_eq_true, if_false]
      rw [w]; simpa using ih
  ·have : i = l.length := by omega
   subst this
   rw [if_neg (by rw [ge_dec (by omega)]; decide), List.drop_length, bldStr_s h1]
   rfl
def allB (l : List Thing) : ByteArray × Int := if 200 < l.length then (ByteArray.empty, 13) else allR none l (pu (l.length : Int))
theorem all_eq {n : Nat} (hn : 300 ≤ n) (l : List Thing) : F18 n l = some (allB l) := by
 unfold F18 allB
 by_cases h : 200 < l.length
 ·have c : decide ((200 : Int) < (l.length : Int)) = true := by simp; omega
  rw [if_pos c, if_pos h]
 ·have c : decide ((200 : Int) < (l.length : Int)) = false := by simp; omega
  have p := pu_size (l.length : Int)
  have hb := bldAdd_s (a := ByteArray.empty) (b := pu (l.length : Int)) (by show 0 + _ ≤ _; omega)
  have he : bytesL ByteArray.empty = [] := rfl
  rw [he, ba_nil] at hb
  simp only [c, Bool.false_eq_true, if_false, pu_eq (by omega : 10 ≤ n), Option.bind_some, hb, if_neg h]
  have := all_l (by omega : 10 ≤ n) l (by omega) (n + 8) 0 (pu (l.length : Int)) (by omega) (by omega) p.2 (by omega)
  simpa [prev0] using this
def Cut (Q X : ByteArray) : Prop := ∃ R : ByteArray, Q ++ R = X ∧ 1 ≤ R.size
theorem ba_data (a : ByteArray) : a.data.toList.length = a.size := by rw [Array.length_toList]; rfl
theorem ba_of {a b : ByteArray} (h : a.data.toList = b.data.toList) : a = b := ba_ext (Array.ext' h)
theorem ba_list (a b : ByteArray) : (a ++ b).data.toList = a.data.toList ++ b.data.toList := by rw [ByteArray.data_append, Array.toList_append]
theorem Cut.split {Q A B : ByteArray} (h : Cut Q (A ++ B)) (hB : 1 ≤ B.size) : Cut Q A ∨ ∃ Q', Q = A ++ Q' ∧ Cut Q' B := by
 obtain ⟨R, e, hR⟩ := h
 have el : Q.data.toList ++ R.data.toList = A.data.toList ++ B.data.toList := by rw [← ba_list, ← ba_list, e]
 rcases List.append_eq_append_iff.1 el with ⟨xs, h1, h2⟩ | ⟨cs, h1, h2⟩
 ·cases xs with
  | nil =>
   refine .inr ⟨ByteArray.empty, ?_, B, ba_nil B, hB⟩
   rw [ba_nil_r]
   rw [List.append_nil] at h1
   exact ba_of h1.symm
  | cons x xs =>
   refine .inl ⟨⟨(x :: xs).toArray⟩, ba_of ?_, ?_⟩
   ·rw [ba_list, h1]
   ·rw [← ba_data]; simp
 ·refine .inr ⟨⟨cs.toArray⟩, ba_of ?_, R, ba_of ?_, hR⟩
  ·rw [ba_list, h1]
  ·rw [ba_list, h2]
theorem Cut.none {Q : ByteArray} (h : Cut Q ByteArray.empty) : False := by
 obtain ⟨R, e, hR⟩ := h
 have := congrArg ByteArray.size e
 rw [ba_size] at this
 have z : ByteArray.empty.size = 0 := rfl
 omega
theorem Cut.size {Q X : ByteArray} (h : Cut Q X) : Q.size < X.size := by
 obtain ⟨R, e, hR⟩ := h
 have := congrArg ByteArray.size e
 rw [ba_size] at this
 omega
theorem cut_extract (X : ByteArray) (k : Nat) (h : k < X.size) : Cut (X.extract 0 k) X := by
 refine ⟨X.extract k X.size, ?_, ?_⟩
 ·apply ba_ext
  rw [ByteArray.data_append, ByteArray.data_extract, ByteArray.data_extract]
  have : X.data.size = X.size := rfl
  rw [Array.extract_append_extract]
  simp
  omega
 ·have := ext_size X (k : Int) (by omega) (by omega)
  simp only [Int.toNat_natCast] at this
  omega
def More (l : List Int) : Prop := ∀ x ∈ l, 128 ≤ x ∧ x < 256
theorem ch_more {y : Int} (h : 0 ≤ y) : 128 ≤ ch y ∧ ch y < 256 := by
 rw [(ch_is h).1]; omega
theorem putL_cut : ∀ (k : Nat) (y : Int) (P R : List Int), 0 ≤ y → P ++ R = putL k y → R ≠ [] → More P
 | 0, y, P, R, _, e, hR => by
  simp only [putL] at e
  have := List.append_eq_nil_iff.1 e
  exact absurd this.2 hR
 | k + 1, y, P, R, hy, e, hR => by
  cases P with
  | nil => intro x hx; simp at hx
  | cons p P =>
   unfold putL at e
   split at e
   ·simp only [List.cons_append, List.cons.injEq] at e
    intro x hx
    rcases List.mem_cons.1 hx with rfl | hx
    ·rw [e.1]; exact ch_more hy
    ·exact putL_cut k (y / 128) P R (by omega) e.2 hR x hx
   ·simp only [List.cons_append, List.cons.injEq] at e
    have := List.append_eq_nil_iff.1 e.2
    exact absurd this.2 hR
theorem get_more (n : Nat) (s : ByteArray) (h : More (bytesL s)) (h9 : s.size ≤ 9) : ∀ (m i : Nat) (acc : Int), i ≤ s.size → s.size - i < m → F83_l7 n s m acc (i : Int) = some (0, 0, 10)
 | 0, i, _, _, hm => by omega
 | m + 1, i, acc, hi, hm => by
  have hl : (bytesL s).length = s.size := bytesL_len s
  unfold F83_l7
  by_cases hlt : i < s.size
  ·have hi' : i < (bytesL s).length := by omega
   have hdd : decide ((i : Int) < ((bytesL s).length : Int)) = true := by rw [decide_eq_true_eq]; omega
   obtain ⟨b1, b2⟩ := h _ (List.getElem_mem hi')
   have i9 : ((i : Int) == 9) = false := by rw [beq_eq_false_iff_ne]; omega
   have hz : ((bytesL s)[i] == 0) = false := by rw [beq_eq_false_iff_ne]; omega
   have hl8 : decide ((bytesL s)[i] < 128) = false := by rw [decide_eq_false_iff_not]; omega
   have w7 : IntKind.wrap .i64 (7 * (i : Int)) = 7 * (i : Int) := w64 (by omega) (by omega)
   have w1 : IntKind.wrap .i64 ((i : Int) + 1) = ((i + 1 : Nat) : Int) := by rw [w64 (by omega) (by omega)]; push_cast; rfl
   have j10 : ∀ acc, F83_j10 n acc (i : Int) (bytesL s)[i] (F83_l7 n s m) = some (0, 0, 10) := by
    intro acc
    unfold F83_j10
    rw [hl8, w7, w1]
    simp only [Bool.false_eq_true, if_false]
    rw [if_pos (by omega)]
    exact get_more n s h h9 m (i + 1) _ (by omega) (by omega)
   have j9 : ∀ acc, F83_j9 n acc (i : Int) (bytesL s)[i] (F83_l7 n s m) = some (0, 0, 10) := by
    intro acc
    unfold F83_j9
    rw [hz]
    simp only [Bool.false_eq_true, if_false, j10, ite_self]
   rw [if_pos hdd, ixb s i hi']
   simp only [Option.bind_some, i9, Bool.false_eq_true, if_false, j9]
  ·have hdd : decide ((i : Int) < ((bytesL s).length : Int)) = false := by rw [decide_eq_false_iff_not]; omega
   rw [if_neg (by rw [hdd]; decide)]
   rfl
theorem bytesL_mkStr_putL (k : Nat) (y : Int) (h : 0 ≤ y) : bytesL (mkStr (putL k y)) = putL k y := by
 refine bytesL_mk _ (fun x hx => ?_)
 have : ∀ (k : Nat) (y : Int), 0 ≤ y → ∀ x ∈ putL k y, 0 ≤ x ∧ x < 256 := by
  intro k
  induction k with
  | zero => intro y _ x hx; simp [putL] at hx
  | succ k ih =>
   intro y hy x hx
   unfold putL at hx
   split at hx
   ·rcases List.mem_cons.1 hx with rfl | hx
    ·have := ch_more hy; omega
    ·exact ih (y / 128) (by omega) x hx
   ·rw [List.mem_singleton.1 hx, wrap_u8]; omega
 exact this k y h x hx
theorem get_cut {n : Nat} (hn : 10 ≤ n) {x : Int} (h0 : 0 ≤ x) {Q : ByteArray} (h : Cut Q (pt x)) : F83 n Q = some (0, 0, 10) := by
 have hsz := h.size
 have hp := pt_size x
 obtain ⟨R, e, hR⟩ := h
 have hb : bytesL Q ++ bytesL R = putL 10 x := by
  rw [← bytesL_app, e, pt, bytesL_mkStr_putL 10 x h0]
 have hne : bytesL R ≠ [] := by
  intro e2
  have h2 : R.size = 0 := by
   have := congrArg List.length e2
   rw [bytesL_len] at this
   exact this
  omega
 have := get_more n Q (putL_cut 10 x _ _ h0 hb hne) (by omega) (n + 8) 0 0 (by omega) (by omega)
 unfold F83
 simpa using this
theorem Rect.eqb_iff (x y : Rect) : Rect.eqb x y = true ↔ x = y := by
 cases x; cases y; simp [Rect.eqb, and_assoc]
theorem Command.eqb_iff (x y : Command) : Command.eqb x y = true ↔ x = y := by
 cases x; cases y; simp [Command.eqb, Point.eqb_iff, A4_Field.eqb_iff, Field.eqb_iff, Rect.eqb_iff]
theorem zg_size (x : Int) : (zg x).size ≤ 10 ∧ 1 ≤ (zg x).size := pt_size _
theorem isF_text {f : Field} (h : isF f = true) : f.Text.size ≤ 12 := by have := text_few h; omega
def near (x : Int) : Bool := decide (-1000 ≤ x) && decide (x ≤ 1000)
theorem near_l (n : Nat) (l : List Int) (hl : l.length ≤ 8) : ∀ (m i : Nat), i ≤ l.length → l.length - i < m → F62_l4 n l m (i : Int) = some ((l.drop i).all near)
 | 0, i, _, h => by omega
 | m + 1, i, h1, h2 => by
  unfold F62_l4
  by_cases hi : i < l.length
  ·have ed : l.drop i = l[i] :: l.drop (i + 1) := by rw [List.drop_eq_getElem_cons hi]
   have ea : (l.drop i).all near = (near l[i] && (l.drop (i + 1)).all near) := by rw [ed, List.all_cons]
   simp only [lt_dec hi, if_true, ixg l i hi, Option.bind_some, dsucc (show i < maxLen by simp only [maxLen]; omega), ea, near_l n l hl m (i + 1) (by omega) (by omega)]
   generalize l[i] = x
   unfold near
   by_cases h3 : (-1000 : Int) ≤ x <;> by_cases h4 : x ≤ 1000 <;> simp [h3, h4]
  ·have ed : l.drop i = [] := List.drop_eq_nil_of_le (by omega)
   simp only [ge_dec hi, Bool.false_eq_true, if_false, ed, List.all_nil]
theorem near_eq (n : Nat) (l : List Int) (hl : l.length ≤ 7) : F62 n l = some (l.all near) := by
 unfold F62
 have := near_l n l (by omega) (n + 8) 0 (by omega) (by omega)
 simpa using this
def coreC (c : Command) : Command := (F61 0 c).getD c
theorem core_eq (n : Nat) (c : Command) : F61 n c = some (coreC c) := by
 have h : ∀ m, F61 m c = F61 0 c := fun m => rfl
 rw [h n]
 unfold coreC
 have : (F61 0 c).isSome := by
  unfold F61
  repeat (split <;> try rfl)
 obtain ⟨r, hr⟩ := Option.isSome_iff_exists.1 this
 rw [hr]; rfl
def boundsC (c : Command) : Bool := (decide (0 ≤ c.Client) && (decide (c.Client < 4) && (decide (0 ≤ c.Session) && decide (c.Session ≤ 1000000)))) &&
 ((decide (0 ≤ c.ID) && (decide (c.ID ≤ 1000000) && (decide (-1 ≤ c.Which) && (decide (c.Which ≤ 100) && (decide (-1 ≤ c.To) && (decide (c.To ≤ 100) && isF c.Value)))))) &&
  [c.At.X, c.At.Y, c.Rect.X0, c.Rect.Y0, c.Rect.X1, c.Rect.Y1].all near)
def isC (c : Command) : Bool := (isF c.F.a0 && (isF c.F.a1 && (isF c.F.a2 && isF c.F.a3))) && ((decide (1 ≤ c.Kind) && (decide (c.Kind ≤ 8) && Command.eqb c (coreC c))) && boundsC c)
theorem isC_eq (n : Nat) (c : Command) : F32 n c = some (isC c) := by
 have j12 : ∀ x y z, F32_j12 n c x y z = some (x && (y && (z && [c.At.X, c.At.Y, c.Rect.X0, c.Rect.Y0, c.Rect.X1, c.Rect.Y1].all near))) := by
  intro x y z
  unfold F32_j12
  rw [near_eq n _ (by simp)]
  cases x <;> cases y <;> cases z <;> simp
 have j9 : ∀ x y, F32_j9 n c x y = some (x && (y && ((decide (0 ≤ c.ID) && (decide (c.ID ≤ 1000000) && (decide (-1 ≤ c.Which) && (decide (c.Which ≤ 100) && (decide (-1 ≤ c.To) && (decide (c.To ≤ 100) && isF c.Value)))))) && [c.At.X, c.At.Y, c.Rect.X0, c.Rect.Y0, c.Rect.X1, c.Rect.Y1].all near))) := by
  intro x y
  unfold F32_j9
  simp only [j12, isF_eq, Option.bind_some]
  by_cases h1 : (0 : Int) ≤ c.ID
  ·by_cases h2 : c.ID ≤ 1000000
   ·by_cases h3 : (-1 : Int) ≤ c.Which
    ·by_cases h4 : c.Which ≤ 100
     ·by_cases h5 : (-1 : Int) ≤ c.To
      ·by_cases h6 : c.To ≤ 100 <;> simp only [h1, h2, h3, h4, h5, h6, decide_true, decide_false, if_true, Bool.false_eq_true, if_false, Bool.true_and, Bool.false_and, Bool.and_false]
      ·simp only [h1, h2, h3, h4, h5, decide_true, decide_false, if_true, Bool.false_eq_true, if_false, Bool.true_and, Bool.false_and, Bool.and_false]
     ·simp only [h1, h2, h3, h4, decide_true, decide_false, if_true, Bool.false_eq_true, if_false, Bool.true_and, Bool.false_and, Bool.and_false]
    ·simp only [h1, h2, h3, decide_true, decide_false, if_true, Bool.false_eq_true, if_false, Bool.true_and, Bool.false_and, Bool.and_false]
   ·simp only [h1, h2, decide_true, decide_false, if_true, Bool.false_eq_true, if_false, Bool.true_and, Bool.false_and, Bool.and_false]
  ·simp only [h1, decide_true, decide_false, if_true, Bool.false_eq_true, if_false, Bool.true_and, Bool.false_and, Bool.and_false]
 have j7 : ∀ x, F32_j7 n c x = some (x && boundsC c) := by
  intro x
  unfold F32_j7 boundsC
  simp only [j9]
  by_cases h1 : (0 : Int) ≤ c.Client
  ·by_cases h2 : c.Client < 4
   ·by_cases h3 : (0 : Int) ≤ c.Session <;> simp only [h1, h2, h3, decide_true, decide_false, if_true, Bool.false_eq_true, if_false, Bool.true_and, Bool.false_and, Bool.and_false]
   ·simp only [h1, h2, decide_true, decide_false, if_true, Bool.false_eq_true, if_false, Bool.true_and, Bool.false_and, Bool.and_false]
  ·simp only [h1, decide_true, decide_false, if_true, Bool.false_eq_true, if_false, Bool.true_and, Bool.false_and, Bool.and_false]
 unfold F32 isC
 simp only [isF_eq, Option.bind_some, core_eq, j7]
 cases isF c.F.a0
 ·rfl
 ·cases isF c.F.a1
  ·rfl
  ·cases isF c.F.a2
   ·rfl
   ·cases isF c.F.a3
    ·rfl
    ·by_cases h1 : (1 : Int) ≤ c.Kind
     ·by_cases h2 : c.Kind ≤ 8 <;> simp [h1, h2]
     ·simp [h1]
def watchesC (c : Command) : Bool := decide (6 ≤ c.Kind) && decide (c.Kind ≤ 8)
theorem watches_eq (n : Nat) (c : Command) : F33 n c = some (watchesC c) := by
 unfold F33 watchesC
 by_cases h : (6 : Int) ≤ c.Kind <;> simp [h]
structure InC (c : Command) : Prop where
 f0 : isF c.F.a0 = true
 f1 : isF c.F.a1 = true
 f2 : isF c.F.a2 = true
 f3 : isF c.F.a3 = true
 v : isF c.Value = true
 kind : 1 ≤ c.Kind ∧ c.Kind ≤ 8
 core : c = coreC c
 client : 0 ≤ c.Client ∧ c.Client < 4
 sess : 0 ≤ c.Session ∧ c.Session ≤ 1000000
 id : 0 ≤ c.ID ∧ c.ID ≤ 1000000
 which : -1 ≤ c.Which ∧ c.Which ≤ 100
 to : -1 ≤ c.To ∧ c.To ≤ 100
 atx : -1000 ≤ c.At.X ∧ c.At.X ≤ 1000
 aty : -1000 ≤ c.At.Y ∧ c.At.Y ≤ 1000
 x0 : -1000 ≤ c.Rect.X0 ∧ c.Rect.X0 ≤ 1000
 y0 : -1000 ≤ c.Rect.Y0 ∧ c.Rect.Y0 ≤ 1000
 x1 : -1000 ≤ c.Rect.X1 ∧ c.Rect.X1 ≤ 1000
 y1 : -1000 ≤ c.Rect.Y1 ∧ c.Rect.Y1 ≤ 1000
theorem isC_in {c : Command} (h : isC c = true) : InC c := by
 unfold isC boundsC near at h
 simp only [List.all_cons, List.all_nil, Bool.and_true, Bool.and_eq_true, decide_eq_true_eq, Command.eqb_iff] at h
 obtain ⟨⟨a0, a1, a2, a3⟩, ⟨k1, k2, k3⟩, ⟨h1, h2, h3, h4⟩, ⟨h5, h6, h7, h8, h9, h10, h11⟩, p1, p2, p3, p4, p5, p6⟩ := h
 exact ⟨a0, a1, a2, a3, h11, ⟨k1, k2⟩, k3, ⟨h1, h2⟩, ⟨h3, h4⟩, ⟨h5, h6⟩, ⟨h7, h8⟩, ⟨h9, h10⟩, p1, p2, p3, p4, p5, p6⟩
def fl (f : Field) : ByteArray := tx f.Text ++ zg f.N
theorem fl_size {f : Field} (h : isF f = true) : (fl f).size ≤ 32 ∧ 2 ≤ (fl f).size := by
 have := isF_text h
 have := tx_size f.Text
 have := zg_size f.N
 unfold fl; rw [ba_size]; omega
def hdC (c : Command) : ByteArray := zg c.Kind ++ zg c.Client ++ zg c.Session
theorem hdC_size (c : Command) : (hdC c).size ≤ 30 ∧ 3 ≤ (hdC c).size := by
 have := zg_size c.Kind
 have := zg_size c.Client
 have := zg_size c.Session
 unfold hdC; rw [ba_size, ba_size]; omega
def nums (c : Command) : List Int :=
 if c.Kind = 1 then [c.At.X, c.At.Y] else if c.Kind = 2 then [c.ID, c.At.X, c.At.Y] else if c.Kind = 3 then [c.ID, c.Which] else if c.Kind = 4 then [c.ID]
 else if c.Kind = 5 then [c.Which, c.To] else if c.Kind = 6 ∨ c.Kind = 7 then [c.Rect.X0, c.Rect.Y0, c.Rect.X1, c.Rect.Y1] else []
def vals (c : Command) : List Field :=
 if c.Kind = 1 then [c.F.a0, c.F.a1, c.F.a2, c.F.a3] else if c.Kind = 3 then [c.Value] else []
def addN (s : ByteArray) (l : List Int) : ByteArray := l.foldl (fun s x => s ++ zg x) s
def addV (s : ByteArray) (l : List Field) : ByteArray := l.foldl (fun s f => s ++ fl f) s
def byC (c : Command) : ByteArray := addV (addN (hdC c) (nums c)) (vals c)
theorem addN_size : ∀ (l : List Int) (s : ByteArray), (addN s l).size ≤ s.size + 10 * l.length ∧ s.size ≤ (addN s l).size
 | [], s => by simp [addN]
 | x :: l, s => by
  have := addN_size l (s ++ zg x)
  have := zg_size x
  rw [ba_size] at *
  simp only [addN, List.foldl_cons, List.length_cons] at *
  omega
theorem addV_size : ∀ (l : List Field) (s : ByteArray), (∀ f ∈ l, isF f = true) → (addV s l).size ≤ s.size + 32 * l.length ∧ s.size ≤ (addV s l).size
 | [], s, _ => by simp [addV]
 | x :: l, s, h => by
  have := addV_size l (s ++ fl x) (fun f hf => h f (List.mem_cons_of_mem _ hf))
  have := fl_size (h x (List.mem_cons_self ..))
  rw [ba_size] at *
  simp only [addV, List.foldl_cons, List.length_cons] at *
  omega
theorem nums_len (c : Command) : (nums c).length ≤ 4 := by
 unfold nums
 repeat (split; · simp)
 simp
theorem vals_len (c : Command) : (vals c).length ≤ 4 := by
 unfold vals
 repeat (split; · simp)
 simp
theorem vals_is {c : Command} (h : InC c) : ∀ f ∈ vals c, isF f = true := by
 unfold vals
 intro f hf
 split at hf
 ·simp only [List.mem_cons, List.not_mem_nil, or_false] at hf
  rcases hf with rfl | rfl | rfl | rfl
  ·exact h.f0
  ·exact h.f1
  ·exact h.f2
  ·exact h.f3
 ·split at hf
  ·simp only [List.mem_cons, List.not_mem_nil, or_false] at hf
   subst hf; exact h.v
  ·cases hf
theorem byC_size {c : Command} (h : InC c) : (byC c).size ≤ 198 ∧ 3 ≤ (byC c).size := by
 have h1 := hdC_size c
 have h2 := addN_size (nums c) (hdC c)
 have h3 := addV_size (vals c) (addN (hdC c) (nums c)) (vals_is h)
 have h4 := nums_len c
 have h5 := vals_len c
 unfold byC; omega
theorem values_eq (n : Nat) (c : Command) : F48s0 n c = some (if c.Kind = 1 then 1 else if c.Kind = 3 then 2 else 0) := by
 unfold F48s0
 by_cases h1 : c.Kind = 1
 ·simp [h1]
 by_cases h3 : c.Kind = 3
 ·simp [h3]
 simp [h1, h3]
theorem bytes_j21 {n : Nat} (hn : 10 ≤ n) {c : Command} (h : InC c) {s : ByteArray} (hs : s.size ≤ 100) : F21_j21 n c s = some (addV s (vals c), 0) := by
 unfold F21_j21 vals
 rw [values_eq, Option.bind_some]
 have z : ∀ f, isF f = true → f.Text.size ≤ 12 ∧ (tx f.Text).size ≤ 22 ∧ (zg f.N).size ≤ 10 := fun f hf => by
  have := isF_text hf
  have := tx_size f.Text
  have := zg_size f.N
  omega
 by_cases h1 : c.Kind = 1
 ·rw [if_pos h1, if_pos h1, if_neg (by decide), if_pos rfl]
  obtain ⟨p1, q1, r1⟩ := z _ h.f0
  obtain ⟨p2, q2, r2⟩ := z _ h.f1
  obtain ⟨p3, q3, r3⟩ := z _ h.f2
  obtain ⟨p4, q4, r4⟩ := z _ h.f3
  rw [tx_eq hn (by omega), Option.bind_some, zg_eq hn, Option.bind_some, if_pos (by omega), if_pos (by simp only [ba_size]; omega),
   tx_eq hn (by omega), Option.bind_some, zg_eq hn, Option.bind_some, if_pos (by omega), if_pos (by simp only [ba_size]; omega),
   tx_eq hn (by omega), Option.bind_some, zg_eq hn, Option.bind_some, if_pos (by omega), if_pos (by simp only [ba_size]; omega),
   tx_eq hn (by omega), Option.bind_some, zg_eq hn, Option.bind_some, if_pos (by omega), if_pos (by simp only [ba_size]; omega)]
  rfl
 ·rw [if_neg h1, if_neg h1]
  by_cases h3 : c.Kind = 3
  ·rw [if_pos h3, if_pos h3, if_neg (by decide), if_neg (by decide), if_pos rfl]
   obtain ⟨p1, q1, r1⟩ := z _ h.v
   rw [tx_eq hn (by omega), Option.bind_some, zg_eq hn, Option.bind_some, if_pos (by omega), if_pos (by simp only [ba_size]; omega)]
   rfl
  ·rw [if_neg h3, if_neg h3, if_pos rfl]
   rfl
theorem parts_eq (n : Nat) (c : Command) : F47s0 n c = some (if c.Kind = 1 then 1 else if c.Kind = 2 then 2 else if c.Kind = 3 then 3 else if c.Kind = 4 then 4 else if c.Kind = 5 then 5 else if c.Kind = 6 ∨ c.Kind = 7 then 6 else 0) := by
 unfold F47s0 F47s0_j1
 by_cases h1 : c.Kind = 1
 ·simp [h1]
 by_cases h2 : c.Kind = 2
 ·simp [h2]
 by_cases h3 : c.Kind = 3
 ·simp [h3]
 by_cases h4 : c.Kind = 4
 ·simp [h4]
 by_cases h5 : c.Kind = 5
 ·simp [h5]
 by_cases h6 : c.Kind = 6
 ·simp [h6]
 by_cases h7 : c.Kind = 7
 ·simp [h7]
 simp [h1, h2, h3, h4, h5, h6, h7]
theorem kinds {c : Command} (h : InC c) : c.Kind = 1 ∨ c.Kind = 2 ∨ c.Kind = 3 ∨ c.Kind = 4 ∨ c.Kind = 5 ∨ c.Kind = 6 ∨ c.Kind = 7 ∨ c.Kind = 8 := by
 have := h.kind; omega
theorem bytes_is {n : Nat} (hn : 10 ≤ n) {c : Command} (hc : isC c = true) : F21 n c = some (byC c, 0) := by
 have h := isC_in hc
 have z := fun x => (zg_size x).1
 have zh := (hdC_size c).1
 unfold F21
 rw [isC_eq, Option.bind_some, hc]
 have hk : F21_j21 n c (addN (hdC c) (nums c)) = some (byC c, 0) := by
  have := addN_size (nums c) (hdC c)
  have := nums_len c
  exact bytes_j21 hn h (by omega)
 have s1 := z c.Kind
 have s2 := z c.Client
 rw [if_neg (by decide), zg_eq hn, Option.bind_some]
 have s3 := z c.Session
 rw [zg_eq hn, Option.bind_some, if_pos (by omega), zg_eq hn, Option.bind_some, if_pos (by rw [ba_size]; omega), parts_eq, Option.bind_some, show zg c.Kind ++ zg c.Client ++ zg c.Session = hdC c from rfl]
 have fin : ∀ l s, nums c = l → addN (hdC c) l = s → F21_j21 n c s = some (byC c, 0) := by
  intro l s hl hs; rw [← hs, ← hl]; exact hk
 have b1 : ∀ x, (hdC c ++ zg x).size ≤ 40 := fun x => by have := z x; rw [ba_size]; omega
 have b2 : ∀ x y, (hdC c ++ zg x ++ zg y).size ≤ 50 := fun x y => by have := z y; have := b1 x; rw [ba_size]; omega
 have b3 : ∀ x y w, (hdC c ++ zg x ++ zg y ++ zg w).size ≤ 60 := fun x y w => by have := z w; have := b2 x y; rw [ba_size]; omega
 have sz0 : ∀ x, (hdC c).size + (zg x).size ≤ 9223372036854775807 := fun x => by have := z x; omega
 have sz1 : ∀ x y, (hdC c ++ zg x).size + (zg y).size ≤ 9223372036854775807 := fun x y => by have := z y; have := b1 x; omega
 have sz2 : ∀ x y w, (hdC c ++ zg x ++ zg y).size + (zg w).size ≤ 9223372036854775807 := fun x y w => by have := z w; have := b2 x y; omega
 have sz3 : ∀ x y w v, (hdC c ++ zg x ++ zg y ++ zg w).size + (zg v).size ≤ 9223372036854775807 := fun x y w v => by have := z v; have := b3 x y w; omega
 obtain e | e | e | e | e | e | e | e := kinds h
 ·have six : (if c.Kind = 1 then 1 else if c.Kind = 2 then 2 else if c.Kind = 3 then 3 else if c.Kind = 4 then 4 else if c.Kind = 5 then 5 else if c.Kind = 6 ∨ c.Kind = 7 then 6 else 0) = 1 := by simp [e]
  rw [six]
  rw [if_neg (by decide), if_pos rfl]
  rw [zg_eq hn, Option.bind_some, if_pos (sz0 _)]
  rw [zg_eq hn, Option.bind_some, if_pos (sz1 _ _)]
  exact fin [c.At.X, c.At.Y] _ (by unfold nums; simp [e]) rfl
 ·have six : (if c.Kind = 1 then 1 else if c.Kind = 2 then 2 else if c.Kind = 3 then 3 else if c.Kind = 4 then 4 else if c.Kind = 5 then 5 else if c.Kind = 6 ∨ c.Kind = 7 then 6 else 0) = 2 := by simp [e]
  rw [six]
  rw [if_neg (by decide), if_neg (by decide), if_pos rfl]
  rw [zg_eq hn, Option.bind_some, if_pos (sz0 _)]
  rw [zg_eq hn, Option.bind_some, if_pos (sz1 _ _)]
  rw [zg_eq hn, Option.bind_some, if_pos (sz2 _ _ _)]
  exact fin [c.ID, c.At.X, c.At.Y] _ (by unfold nums; simp [e]) rfl
 ·have six : (if c.Kind = 1 then 1 else if c.Kind = 2 then 2 else if c.Kind = 3 then 3 else if c.Kind = 4 then 4 else if c.Kind = 5 then 5 else if c.Kind = 6 ∨ c.Kind = 7 then 6 else 0) = 3 := by simp [e]
  rw [six]
  rw [if_neg (by decide), if_neg (by decide), if_neg (by decide), if_pos rfl]
  rw [zg_eq hn, Option.bind_some, if_pos (sz0 _)]
  rw [zg_eq hn, Option.bind_some, if_pos (sz1 _ _)]
  exact fin [c.ID, c.Which] _ (by unfold nums; simp [e]) rfl
 ·have six : (if c.Kind = 1 then 1 else if c.Kind = 2 then 2 else if c.Kind = 3 then 3 else if c.Kind = 4 then 4 else if c.Kind = 5 then 5 else if c.Kind = 6 ∨ c.Kind = 7 then 6 else 0) = 4 := by simp [e]
  rw [six]
  rw [if_neg (by decide), if_neg (by decide), if_neg (by decide), if_neg (by decide), if_pos rfl]
  rw [zg_eq hn, Option.bind_some, if_pos (sz0 _)]
  exact fin [c.ID] _ (by unfold nums; simp [e]) rfl
 ·have six : (if c.Kind = 1 then 1 else if c.Kind = 2 then 2 else if c.Kind = 3 then 3 else if c.Kind = 4 then 4 else if c.Kind = 5 then 5 else if c.Kind = 6 ∨ c.Kind = 7 then 6 else 0) = 5 := by simp [e]
  rw [six]
  rw [if_neg (by decide), if_neg (by decide), if_neg (by decide), if_neg (by decide), if_neg (by decide), if_pos rfl]
  rw [zg_eq hn, Option.bind_some, if_pos (sz0 _)]
  rw [zg_eq hn, Option.bind_some, if_pos (sz1 _ _)]
  exact fin [c.Which, c.To] _ (by unfold nums; simp [e]) rfl
 ·have six : (if c.Kind = 1 then 1 else if c.Kind = 2 then 2 else if c.Kind = 3 then 3 else if c.Kind = 4 then 4 else if c.Kind = 5 then 5 else if c.Kind = 6 ∨ c.Kind = 7 then 6 else 0) = 6 := by simp [e]
  rw [six]
  rw [if_neg (by decide), if_neg (by decide), if_neg (by decide), if_neg (by decide), if_neg (by decide), if_neg (by decide), if_pos rfl]
  rw [zg_eq hn, Option.bind_some, if_pos (sz0 _)]
  rw [zg_eq hn, Option.bind_some, if_pos (sz1 _ _)]
  rw [zg_eq hn, Option.bind_some, if_pos (sz2 _ _ _)]
  rw [zg_eq hn, Option.bind_some, if_pos (sz3 _ _ _ _)]
  exact fin [c.Rect.X0, c.Rect.Y0, c.Rect.X1, c.Rect.Y1] _ (by unfold nums; simp [e]) rfl
 ·have six : (if c.Kind = 1 then 1 else if c.Kind = 2 then 2 else if c.Kind = 3 then 3 else if c.Kind = 4 then 4 else if c.Kind = 5 then 5 else if c.Kind = 6 ∨ c.Kind = 7 then 6 else 0) = 6 := by simp [e]
  rw [six]
  rw [if_neg (by decide), if_neg (by decide), if_neg (by decide), if_neg (by decide), if_neg (by decide), if_neg (by decide), if_pos rfl]
  rw [zg_eq hn, Option.bind_some, if_pos (sz0 _)]
  rw [zg_eq hn, Option.bind_some, if_pos (sz1 _ _)]
  rw [zg_eq hn, Option.bind_some, if_pos (sz2 _ _ _)]
  rw [zg_eq hn, Option.bind_some, if_pos (sz3 _ _ _ _)]
  exact fin [c.Rect.X0, c.Rect.Y0, c.Rect.X1, c.Rect.Y1] _ (by unfold nums; simp [e]) rfl
 ·have nil : (if c.Kind = 1 then 1 else if c.Kind = 2 then 2 else if c.Kind = 3 then 3 else if c.Kind = 4 then 4 else if c.Kind = 5 then 5 else if c.Kind = 6 ∨ c.Kind = 7 then 6 else 0) = 0 := by simp [e]
  rw [nil]
  rw [if_pos rfl]
  exact fin [] _ (by unfold nums; simp [e]) rfl
set_option maxHeartbeats 1000000
theorem toList_loop (bs : ByteArray) : ∀ (k i : Nat) (r : List UInt8), k = bs.size - i → ByteArray.toList.loop bs i r = r.reverse ++ bs.data.toList.drop i
 | 0, i, r, h => by
  rw [ByteArray.toList.loop]
  have : ¬ i < bs.size := by omega
  rw [if_neg this]
  have h2 : bs.data.toList.drop i = [] := List.drop_eq_nil_of_le (by simp only [Array.length_toList]; have : bs.data.size = bs.size := rfl; omega)
  rw [h2, List.append_nil]
 | k + 1, i, r, h => by
  rw [ByteArray.toList.loop]
  have hi : i < bs.size := by omega
  have hi' : i < bs.data.toList.length := by simp only [Array.length_toList]; exact hi
  rw [if_pos hi, toList_loop bs k (i + 1) _ (by omega), List.drop_eq_getElem_cons hi']
  have e : bs.get! i = bs.data.toList[i] := by
   rw [ByteArray.get!.eq_def]
   have hi2 : i < bs.data.size := hi
   simp [getElem!_pos bs.data i hi2]
  rw [e]
  simp
theorem toList_data (bs : ByteArray) : bs.toList = bs.data.toList := by
 unfold ByteArray.toList
 rw [toList_loop bs bs.size 0 [] (by omega)]; simp
theorem toList_eq (a b : ByteArray) : (a.toList == b.toList) = true ↔ a = b := by
 rw [toList_data, toList_data, beq_iff_eq]
 constructor
 ·intro h
  have := Array.ext' h
  cases a; cases b; simp only at this; rw [this]
 ·rintro rfl; rfl
def I64 (x : Int) : Prop := -9223372036854775808 ≤ x ∧ x < 9223372036854775808
def Pre (s P : ByteArray) : Prop := ∃ R, s = P ++ R
theorem Pre.of {s P X : ByteArray} (h : Pre s (P ++ X)) : Pre s P := by
 obtain ⟨R, h⟩ := h
 exact ⟨X ++ R, by rw [h, ba_assoc]⟩
theorem Pre.size {s P : ByteArray} (h : Pre s P) : P.size ≤ s.size := by
 obtain ⟨R, rfl⟩ := h
 rw [ba_size]; omega
theorem num_back {n : Nat} (hn : 10 ≤ n) {s P : ByteArray} {v : Int} (hs : s.size ≤ 100000) (h : Pre s (P ++ zg v)) (hv : I64 v) :
  F85s0 n s (P.size : Int) = some (v, 0, ((P ++ zg v).size : Int)) := by
 obtain ⟨R, e⟩ := h
 rw [ba_assoc] at e
 have hz : s.size = P.size + (zg v ++ R).size := by rw [e, ba_size]
 have hx : s.extract P.size s.size = zg v ++ R := by rw [e]; exact ext_app _ _
 unfold F85s0
 rw [if_pos ⟨by omega, by omega⟩, Int.toNat_natCast, hx, ints_zg n hn v hv.1 hv.2 R (by omega), Option.bind_some]
 have := zg_size v
 have w : IntKind.wrap .i64 ((P.size : Int) + ((zg v).size : Int)) = ((P ++ zg v).size : Int) := by
  rw [ba_size, w64 (by rw [ba_size] at hz; omega) (by rw [ba_size] at hz; omega)]; push_cast; rfl
 simp only [w]
theorem text_back {n : Nat} (hn : 10 ≤ n) {s P t : ByteArray} (hs : s.size ≤ 100000) (h : Pre s (P ++ tx t)) (ht : t.size ≤ 12) :
  F69 n (s.extract (P.size : Int).toNat s.size) 12 = some (t, ((tx t).size : Int), 0) ∧ IntKind.wrap .i64 ((P.size : Int) + ((tx t).size : Int)) = ((P ++ tx t).size : Int) := by
 have hp := h.size
 obtain ⟨R, e⟩ := h
 rw [ba_assoc] at e
 have hz : s.size = P.size + (tx t ++ R).size := by rw [e, ba_size]
 have hx : s.extract P.size s.size = tx t ++ R := by rw [e]; exact ext_app _ _
 rw [Int.toNat_natCast, hx]
 refine ⟨texts_tx n hn t R ht (by omega), ?_⟩
 rw [ba_size] at hp ⊢
 rw [w64 (by omega) (by omega)]; push_cast; rfl
theorem nz : ¬ (((0 : Int) != 0) = true) := by decide
theorem clamp {v : Int} (h : -1000000 ≤ v ∧ v ≤ 1000000) : imin (imax v (-1000001)) 1000001 = v := by
 unfold imin imax; split <;> split <;> omega
theorem clampI {v : Int} (h : -1000000 ≤ v ∧ v ≤ 1000000) : I64 v := by unfold I64; omega
theorem whole0_back {n : Nat} (hn : 10 ≤ n) {s P : ByteArray} (hs : s.size ≤ 100000) (c : Command) {v0 v1 v2 : Int} (h : Pre s (P ++ zg v0 ++ zg v1 ++ zg v2)) (i0 : -1000000 ≤ v0 ∧ v0 ≤ 1000000) (i1 : -1000000 ≤ v1 ∧ v1 ≤ 1000000) (i2 : -1000000 ≤ v2 ∧ v2 ≤ 1000000) : F87s0 n c s (P.size : Int) = some (0, Command.mk v0 c.ID c.Which c.To c.At c.F c.Value v1 v2 c.Rect, ((P ++ zg v0 ++ zg v1 ++ zg v2).size : Int)) := by
 have p2 : Pre s (P ++ zg v0 ++ zg v1 ++ zg v2) := h
 have p1 : Pre s (P ++ zg v0 ++ zg v1) := p2.of
 have p0 : Pre s (P ++ zg v0) := p1.of
 unfold F87s0
 rw [num_back hn hs p0 (clampI i0), Option.bind_some, if_neg nz]
 rw [num_back hn hs p1 (clampI i1), Option.bind_some, if_neg nz]
 rw [num_back hn hs p2 (clampI i2), Option.bind_some, if_neg nz]
 simp only [clamp i0, clamp i1, clamp i2]
theorem whole1_back {n : Nat} (hn : 10 ≤ n) {s P : ByteArray} (hs : s.size ≤ 100000) (c : Command) {v0 v1 v2 v3 : Int} (h : Pre s (P ++ zg v0 ++ zg v1 ++ zg v2 ++ zg v3)) (i0 : -1000000 ≤ v0 ∧ v0 ≤ 1000000) (i1 : -1000000 ≤ v1 ∧ v1 ≤ 1000000) (i2 : -1000000 ≤ v2 ∧ v2 ≤ 1000000) (i3 : -1000000 ≤ v3 ∧ v3 ≤ 1000000) : F87s1 n c s (P.size : Int) = some (0, Command.mk c.Kind c.ID c.Which c.To c.At c.F c.Value c.Client c.Session (Rect.mk v0 v1 v2 v3), ((P ++ zg v0 ++ zg v1 ++ zg v2 ++ zg v3).size : Int)) := by
 have p3 : Pre s (P ++ zg v0 ++ zg v1 ++ zg v2 ++ zg v3) := h
 have p2 : Pre s (P ++ zg v0 ++ zg v1 ++ zg v2) := p3.of
 have p1 : Pre s (P ++ zg v0 ++ zg v1) := p2.of
 have p0 : Pre s (P ++ zg v0) := p1.of
 unfold F87s1
 rw [num_back hn hs p0 (clampI i0), Option.bind_some, if_neg nz]
 rw [num_back hn hs p1 (clampI i1), Option.bind_some, if_neg nz]
 rw [num_back hn hs p2 (clampI i2), Option.bind_some, if_neg nz]
 rw [num_back hn hs p3 (clampI i3), Option.bind_some, if_neg nz]
 simp only [clamp i0, clamp i1, clamp i2, clamp i3]
theorem whole2_back {n : Nat} (hn : 10 ≤ n) {s P : ByteArray} (hs : s.size ≤ 100000) (c : Command) {v0 v1 : Int} (h : Pre s (P ++ zg v0 ++ zg v1)) (i0 : -1000000 ≤ v0 ∧ v0 ≤ 1000000) (i1 : -1000000 ≤ v1 ∧ v1 ≤ 1000000) : F87s2 n c s (P.size : Int) = some (0, Command.mk c.Kind c.ID v0 v1 c.At c.F c.Value c.Client c.Session c.Rect, ((P ++ zg v0 ++ zg v1).size : Int)) := by
 have p1 : Pre s (P ++ zg v0 ++ zg v1) := h
 have p0 : Pre s (P ++ zg v0) := p1.of
 unfold F87s2
 rw [num_back hn hs p0 (clampI i0), Option.bind_some, if_neg nz]
 rw [num_back hn hs p1 (clampI i1), Option.bind_some, if_neg nz]
 simp only [clamp i0, clamp i1]
theorem whole3_back {n : Nat} (hn : 10 ≤ n) {s P : ByteArray} (hs : s.size ≤ 100000) (c : Command) {v0 : Int} (h : Pre s (P ++ zg v0)) (i0 : -1000000 ≤ v0 ∧ v0 ≤ 1000000) : F87s3 n c s (P.size : Int) = some (0, Command.mk c.Kind v0 c.Which c.To c.At c.F c.Value c.Client c.Session c.Rect, ((P ++ zg v0).size : Int)) := by
 have p0 : Pre s (P ++ zg v0) := h
 unfold F87s3
 rw [num_back hn hs p0 (clampI i0), Option.bind_some, if_neg nz]
 simp only [clamp i0]
theorem whole4_back {n : Nat} (hn : 10 ≤ n) {s P : ByteArray} (hs : s.size ≤ 100000) (c : Command) {v0 v1 : Int} (h : Pre s (P ++ zg v0 ++ zg v1)) (i0 : -1000000 ≤ v0 ∧ v0 ≤ 1000000) (i1 : -1000000 ≤ v1 ∧ v1 ≤ 1000000) : F87s4 n c s (P.size : Int) = some (0, Command.mk c.Kind v0 v1 c.To c.At c.F c.Value c.Client c.Session c.Rect, ((P ++ zg v0 ++ zg v1).size : Int)) := by
 have p1 : Pre s (P ++ zg v0 ++ zg v1) := h
 have p0 : Pre s (P ++ zg v0) := p1.of
 unfold F87s4
 rw [num_back hn hs p0 (clampI i0), Option.bind_some, if_neg nz]
 rw [num_back hn hs p1 (clampI i1), Option.bind_some, if_neg nz]
 simp only [clamp i0, clamp i1]
theorem whole5_back {n : Nat} (hn : 10 ≤ n) {s P : ByteArray} (hs : s.size ≤ 100000) (c : Command) {v0 v1 v2 : Int} (h : Pre s (P ++ zg v0 ++ zg v1 ++ zg v2)) (i0 : -1000000 ≤ v0 ∧ v0 ≤ 1000000) (i1 : -1000000 ≤ v1 ∧ v1 ≤ 1000000) (i2 : -1000000 ≤ v2 ∧ v2 ≤ 1000000) : F87s5 n c s (P.size : Int) = some (0, Command.mk c.Kind v0 c.Which c.To (Point.mk v1 v2) c.F c.Value c.Client c.Session c.Rect, ((P ++ zg v0 ++ zg v1 ++ zg v2).size : Int)) := by
 have p2 : Pre s (P ++ zg v0 ++ zg v1 ++ zg v2) := h
 have p1 : Pre s (P ++ zg v0 ++ zg v1) := p2.of
 have p0 : Pre s (P ++ zg v0) := p1.of
 unfold F87s5
 rw [num_back hn hs p0 (clampI i0), Option.bind_some, if_neg nz]
 rw [num_back hn hs p1 (clampI i1), Option.bind_some, if_neg nz]
 rw [num_back hn hs p2 (clampI i2), Option.bind_some, if_neg nz]
 simp only [clamp i0, clamp i1, clamp i2]
theorem whole6_back {n : Nat} (hn : 10 ≤ n) {s P : ByteArray} (hs : s.size ≤ 100000) (c : Command) {v0 v1 : Int} (h : Pre s (P ++ zg v0 ++ zg v1)) (i0 : -1000000 ≤ v0 ∧ v0 ≤ 1000000) (i1 : -1000000 ≤ v1 ∧ v1 ≤ 1000000) : F87s6 n c s (P.size : Int) = some (0, Command.mk c.Kind c.ID c.Which c.To (Point.mk v0 v1) c.F c.Value c.Client c.Session c.Rect, ((P ++ zg v0 ++ zg v1).size : Int)) := by
 have p1 : Pre s (P ++ zg v0 ++ zg v1) := h
 have p0 : Pre s (P ++ zg v0) := p1.of
 unfold F87s6
 rw [num_back hn hs p0 (clampI i0), Option.bind_some, if_neg nz]
 rw [num_back hn hs p1 (clampI i1), Option.bind_some, if_neg nz]
 simp only [clamp i0, clamp i1]
theorem whole7_is (n : Nat) (s : ByteArray) (a : Int) : F87s7 n s a = some () := rfl
def zF : A4 Field := A4.mk (Field.mk 0 ByteArray.empty) (Field.mk 0 ByteArray.empty) (Field.mk 0 ByteArray.empty) (Field.mk 0 ByteArray.empty)
def zC : Command := Command.mk 0 0 0 0 (Point.mk 0 0) zF (Field.mk 0 ByteArray.empty) 0 0 (Rect.mk 0 0 0 0)
structure NR (c : Command) : Prop where
 n0 : I64 c.F.a0.N
 n1 : I64 c.F.a1.N
 n2 : I64 c.F.a2.N
 n3 : I64 c.F.a3.N
 v : I64 c.Value.N
theorem nn : ((0 : Int) == 0) = true := rfl
theorem field_back {n : Nat} (hn : 10 ≤ n) {s P : ByteArray} (hs : s.size ≤ 100000) {f : Field} (hf : isF f = true) (hr : I64 f.N) (h : Pre s (P ++ fl f)) (K : Field → Int → Int → Option (Command × Int × Int)) (N : Int → Int → Option (Command × Int × Int)) :
  (if 0 ≤ (P.size : Int) ∧ (P.size : Int) ≤ (s.size : Int) then
   (F69 n (s.extract (P.size : Int).toNat s.size) 12).bind fun (r39 : (ByteArray × Int × Int)) =>
   if r39.2.2 == 0 then
    (F85s0 n s (IntKind.wrap .i64 ((P.size : Int) + r39.2.1))).bind fun (r40 : (Int × Int × Int)) => K (Field.mk r40.1 r39.1) r40.2.1 r40.2.2
   else N r39.2.2 (IntKind.wrap .i64 ((P.size : Int) + r39.2.1))
   else none) = K f 0 ((P ++ fl f).size : Int) := by
 have h2 : Pre s (P ++ tx f.Text ++ zg f.N) := by rw [ba_assoc]; exact h
 have h1 := h2.of
 have hp := h1.of.size
 obtain ⟨a, b⟩ := text_back hn hs h1 (isF_text hf)
 rw [if_pos ⟨by omega, by omega⟩, a, Option.bind_some, if_pos nn, b, num_back hn hs h2 hr, Option.bind_some]
 rw [show P ++ fl f = P ++ tx f.Text ++ zg f.N by rw [ba_assoc]; rfl]
theorem j47_back {n : Nat} (hn : 10 ≤ n) {s : ByteArray} {g : Command} (hc : isC g = true) (h : Pre s (byC g)) : F72_j47 n s g ((byC g).size : Int) = some (g, ((byC g).size : Int), 0) := by
 have hp := h.size
 have hx : s.extract 0 (byC g).size = byC g := by
  obtain ⟨R, e⟩ := h
  have := ext_mid ByteArray.empty (byC g) R
  rw [ba_nil, ← e] at this
  simpa using this
 unfold F72_j47
 rw [bytes_is hn hc, Option.bind_some, if_neg nz, if_pos ⟨by omega, by omega⟩, Int.toNat_natCast, hx]
 simp only [beq_self_eq_true, Bool.not_true, Bool.false_eq_true, if_false]
theorem j38_back {n : Nat} (hn : 10 ≤ n) {s P : ByteArray} (hs : s.size ≤ 100000) (g : Command) {f : Field} (hf : isF f = true) (hr : I64 f.N) (h : Pre s (P ++ fl f)) : F72_j38 n s g 0 (P.size : Int) = F72_j44 n s (Command.mk g.Kind g.ID g.Which g.To g.At (A4.mk g.F.a0 g.F.a1 g.F.a2 f) g.Value g.Client g.Session g.Rect) 0 ((P ++ fl f).size : Int) := by
 unfold F72_j38
 rw [if_neg nz]
 exact field_back hn hs hf hr h (fun f e a => F72_j44 n s (Command.mk g.Kind g.ID g.Which g.To g.At (A4.mk g.F.a0 g.F.a1 g.F.a2 f) g.Value g.Client g.Session g.Rect) e a) (fun e a => F72_j44 n s g e a)
theorem j32_back {n : Nat} (hn : 10 ≤ n) {s P : ByteArray} (hs : s.size ≤ 100000) (g : Command) {f : Field} (hf : isF f = true) (hr : I64 f.N) (h : Pre s (P ++ fl f)) : F72_j32 n s g 0 (P.size : Int) = F72_j38 n s (Command.mk g.Kind g.ID g.Which g.To g.At (A4.mk g.F.a0 g.F.a1 f g.F.a3) g.Value g.Client g.Session g.Rect) 0 ((P ++ fl f).size : Int) := by
 unfold F72_j32
 rw [if_neg nz]
 exact field_back hn hs hf hr h (fun f e a => F72_j38 n s (Command.mk g.Kind g.ID g.Which g.To g.At (A4.mk g.F.a0 g.F.a1 f g.F.a3) g.Value g.Client g.Session g.Rect) e a) (fun e a => F72_j38 n s g e a)
theorem j26_back {n : Nat} (hn : 10 ≤ n) {s P : ByteArray} (hs : s.size ≤ 100000) (g : Command) {f : Field} (hf : isF f = true) (hr : I64 f.N) (h : Pre s (P ++ fl f)) : F72_j26 n s g 0 (P.size : Int) = F72_j32 n s (Command.mk g.Kind g.ID g.Which g.To g.At (A4.mk g.F.a0 f g.F.a2 g.F.a3) g.Value g.Client g.Session g.Rect) 0 ((P ++ fl f).size : Int) := by
 unfold F72_j26
 rw [if_neg nz]
 exact field_back hn hs hf hr h (fun f e a => F72_j32 n s (Command.mk g.Kind g.ID g.Which g.To g.At (A4.mk g.F.a0 f g.F.a2 g.F.a3) g.Value g.Client g.Session g.Rect) e a) (fun e a => F72_j32 n s g e a)
theorem j13_back1 {n : Nat} (hn : 10 ≤ n) {s P : ByteArray} (hs : s.size ≤ 100000) (g : Command) (hk : g.Kind = 1) {f : Field} (hf : isF f = true) (hr : I64 f.N) (h : Pre s (P ++ fl f)) : F72_j13 n s g 0 (P.size : Int) = F72_j26 n s (Command.mk g.Kind g.ID g.Which g.To g.At (A4.mk f g.F.a1 g.F.a2 g.F.a3) g.Value g.Client g.Session g.Rect) 0 ((P ++ fl f).size : Int) := by
 unfold F72_j13
 rw [if_neg nz, values_eq, Option.bind_some, if_pos hk, if_neg (by decide), if_pos rfl]
 exact field_back hn hs hf hr h (fun f e a => F72_j26 n s (Command.mk g.Kind g.ID g.Which g.To g.At (A4.mk f g.F.a1 g.F.a2 g.F.a3) g.Value g.Client g.Session g.Rect) e a) (fun e a => F72_j26 n s g e a)
theorem j13_back3 {n : Nat} (hn : 10 ≤ n) {s P : ByteArray} (hs : s.size ≤ 100000) (g : Command) (hk : g.Kind = 3) {f : Field} (hf : isF f = true) (hr : I64 f.N) (h : Pre s (P ++ fl f)) : F72_j13 n s g 0 (P.size : Int) = F72_j20 n s (Command.mk g.Kind g.ID g.Which g.To g.At g.F f g.Client g.Session g.Rect) 0 ((P ++ fl f).size : Int) := by
 unfold F72_j13
 have v3 : (if g.Kind = 1 then 1 else if g.Kind = 3 then 2 else 0) = 2 := by simp [hk]
 rw [if_neg nz, values_eq, Option.bind_some, v3, if_neg (by decide), if_neg (by decide), if_pos rfl]
 exact field_back hn hs hf hr h (fun f e a => F72_j20 n s (Command.mk g.Kind g.ID g.Which g.To g.At g.F f g.Client g.Session g.Rect) e a) (fun e a => F72_j20 n s g e a)
theorem j13_back0 {n : Nat} {s : ByteArray} (g : Command) (h1 : g.Kind ≠ 1) (h3 : g.Kind ≠ 3) (i : Int) : F72_j13 n s g 0 i = F72_j47 n s g i := by
 unfold F72_j13
 rw [if_neg nz, values_eq, Option.bind_some, if_neg h1, if_neg h3, if_pos rfl]
theorem j20_back {n : Nat} {s : ByteArray} (g : Command) (i : Int) : F72_j20 n s g 0 i = F72_j47 n s g i := by
 unfold F72_j20; rw [if_neg nz]
theorem j44_back {n : Nat} {s : ByteArray} (g : Command) (i : Int) : F72_j44 n s g 0 i = F72_j47 n s g i := by
 unfold F72_j44; rw [if_neg nz]
theorem kind_all {c : Command} : coreC c = Command.mk c.Kind (if c.Kind = 2 ∨ c.Kind = 3 ∨ c.Kind = 4 then c.ID else 0) (if c.Kind = 3 ∨ c.Kind = 5 then c.Which else 0) (if c.Kind = 5 then c.To else 0) (if c.Kind = 1 ∨ c.Kind = 2 then c.At else Point.mk 0 0) (if c.Kind = 1 then c.F else zF) (if c.Kind = 3 then c.Value else Field.mk 0 ByteArray.empty) c.Client c.Session (if c.Kind = 6 ∨ c.Kind = 7 then c.Rect else Rect.mk 0 0 0 0) := by
 unfold coreC F61 zF
 by_cases h1 : c.Kind = 1
 ·simp [h1]
 by_cases h2 : c.Kind = 2
 ·simp [h2]
 by_cases h3 : c.Kind = 3
 ·simp [h3]
 by_cases h4 : c.Kind = 4
 ·simp [h4]
 by_cases h5 : c.Kind = 5
 ·simp [h5]
 by_cases h6 : c.Kind = 6
 ·simp [h6]
 by_cases h7 : c.Kind = 7
 ·simp [h7]
 simp [h1, h2, h3, h4, h5, h6, h7]
theorem readC_back {n : Nat} (hn : 10 ≤ n) {s : ByteArray} (hs : s.size ≤ 100000) {c : Command} (hc : isC c = true) (hr : NR c) (h : Pre s (byC c)) : F72 n s = some (c, ((byC c).size : Int), 0) := by
 have H := isC_in hc
 have hcore := H.core.trans kind_all
 have last := j47_back hn hc h
 have b1 := H.kind
 have b2 := H.client
 have b3 := H.sess
 have b4 := H.id
 have b5 := H.which
 have b6 := H.to
 have b7 := H.atx
 have b8 := H.aty
 have b9 := H.x0
 have b10 := H.y0
 have b11 := H.x1
 have b12 := H.y1
 unfold F72
 obtain ⟨nl, hnl⟩ : ∃ l, nums c = l := ⟨_, rfl⟩
 obtain ⟨vl, hvl⟩ : ∃ l, vals c = l := ⟨_, rfl⟩
 have hP : Pre s (addV (addN (hdC c) nl) vl) := by rw [← hnl, ← hvl]; exact h
 have hby : byC c = addV (addN (hdC c) nl) vl := by rw [← hnl, ← hvl]; rfl
 have vof : ∀ (l : List Field) (P : ByteArray), Pre s (addV P l) → Pre s P := by
  intro l
  induction l with
  | nil => intro P hp; exact hp
  | cons f l ih => intro P hp; exact (ih (P ++ fl f) hp).of
 have nof : ∀ (l : List Int) (P : ByteArray), Pre s (addN P l) → Pre s P := by
  intro l
  induction l with
  | nil => intro P hp; exact hp
  | cons f l ih => intro P hp; exact (ih (P ++ zg f) hp).of
 have hN : Pre s (addN (hdC c) nl) := vof _ _ hP
 have h0 : Pre s (ByteArray.empty ++ zg c.Kind ++ zg c.Client ++ zg c.Session) := by rw [ba_nil]; exact nof _ _ hN
 have w0 := whole0_back hn hs zC h0 (by omega) (by omega) (by omega)
 refine Eq.subst (motive := fun x => Option.bind x _ = _) w0.symm ?_
 rw [Option.bind_some, if_neg nz, parts_eq, Option.bind_some]
 have e0 : ByteArray.empty ++ zg c.Kind ++ zg c.Client ++ zg c.Session = hdC c := by rw [ba_nil]; rfl
 rw [e0]
 simp only
 obtain e | e | e | e | e | e | e | e := kinds H
 ·have six : (if c.Kind = 1 then 1 else if c.Kind = 2 then 2 else if c.Kind = 3 then 3 else if c.Kind = 4 then 4 else if c.Kind = 5 then 5 else if c.Kind = 6 ∨ c.Kind = 7 then 6 else 0) = 1 := by simp [e]
  rw [six]
  have en : nl = [c.At.X, c.At.Y] := by rw [← hnl]; unfold nums; simp [e]
  rw [en] at hN hP hby
  have ev : vl = [c.F.a0, c.F.a1, c.F.a2, c.F.a3] := by rw [← hvl]; unfold vals; simp [e]
  rw [ev] at hP hby
  rw [if_neg (by decide), if_pos rfl]
  rw [whole6_back hn hs _ hN (by omega) (by omega), Option.bind_some]
  simp only
  have p3 : Pre s (hdC c ++ zg c.At.X ++ zg c.At.Y ++ fl c.F.a0 ++ fl c.F.a1 ++ fl c.F.a2 ++ fl c.F.a3) := hP
  have p2 := p3.of
  have p1 := p2.of
  have p0 := p1.of
  rw [j13_back1 hn hs (Command.mk c.Kind zC.ID zC.Which zC.To (Point.mk c.At.X c.At.Y) zC.F zC.Value c.Client c.Session zC.Rect) e H.f0 hr.n0 p0, j26_back hn hs _ H.f1 hr.n1 p1, j32_back hn hs _ H.f2 hr.n2 p2, j38_back hn hs _ H.f3 hr.n3 p3, j44_back]
  rw [hby] at last ⊢
  refine Eq.trans (congrArg (fun g => F72_j47 n s g _) ?_) last
  refine Eq.trans ?_ hcore.symm
  simp [e, zC, zF]
 ·have six : (if c.Kind = 1 then 1 else if c.Kind = 2 then 2 else if c.Kind = 3 then 3 else if c.Kind = 4 then 4 else if c.Kind = 5 then 5 else if c.Kind = 6 ∨ c.Kind = 7 then 6 else 0) = 2 := by simp [e]
  rw [six]
  have en : nl = [c.ID, c.At.X, c.At.Y] := by rw [← hnl]; unfold nums; simp [e]
  rw [en] at hN hP hby
  have ev : vl = [] := by rw [← hvl]; unfold vals; simp [e]
  rw [ev] at hP hby
  rw [if_neg (by decide), if_neg (by decide), if_pos rfl]
  rw [whole5_back hn hs _ hN (by omega) (by omega) (by omega), Option.bind_some]
  simp only
  rw [j13_back0 _ (by simp only [e]; decide) (by simp only [e]; decide)]
  rw [hby] at last ⊢
  refine Eq.trans (congrArg (fun g => F72_j47 n s g _) ?_) last
  refine Eq.trans ?_ hcore.symm
  simp [e, zC, zF]
 ·have six : (if c.Kind = 1 then 1 else if c.Kind = 2 then 2 else if c.Kind = 3 then 3 else if c.Kind = 4 then 4 else if c.Kind = 5 then 5 else if c.Kind = 6 ∨ c.Kind = 7 then 6 else 0) = 3 := by simp [e]
  rw [six]
  have en : nl = [c.ID, c.Which] := by rw [← hnl]; unfold nums; simp [e]
  rw [en] at hN hP hby
  have ev : vl = [c.Value] := by rw [← hvl]; unfold vals; simp [e]
  rw [ev] at hP hby
  rw [if_neg (by decide), if_neg (by decide), if_neg (by decide), if_pos rfl]
  rw [whole4_back hn hs _ hN (by omega) (by omega), Option.bind_some]
  simp only
  have p0 : Pre s (hdC c ++ zg c.ID ++ zg c.Which ++ fl c.Value) := hP
  rw [j13_back3 hn hs (Command.mk c.Kind c.ID c.Which zC.To zC.At zC.F zC.Value c.Client c.Session zC.Rect) e H.v hr.v p0, j20_back]
  rw [hby] at last ⊢
  refine Eq.trans (congrArg (fun g => F72_j47 n s g _) ?_) last
  refine Eq.trans ?_ hcore.symm
  simp [e, zC, zF]
 ·have six : (if c.Kind = 1 then 1 else if c.Kind = 2 then 2 else if c.Kind = 3 then 3 else if c.Kind = 4 then 4 else if c.Kind = 5 then 5 else if c.Kind = 6 ∨ c.Kind = 7 then 6 else 0) = 4 := by simp [e]
  rw [six]
  have en : nl = [c.ID] := by rw [← hnl]; unfold nums; simp [e]
  rw [en] at hN hP hby
  have ev : vl = [] := by rw [← hvl]; unfold vals; simp [e]
  rw [ev] at hP hby
  rw [if_neg (by decide), if_neg (by decide), if_neg (by decide), if_neg (by decide), if_pos rfl]
  rw [whole3_back hn hs _ hN (by omega), Option.bind_some]
  simp only
  rw [j13_back0 _ (by simp only [e]; decide) (by simp only [e]; decide)]
  rw [hby] at last ⊢
  refine Eq.trans (congrArg (fun g => F72_j47 n s g _) ?_) last
  refine Eq.trans ?_ hcore.symm
  simp [e, zC, zF]
 ·have six : (if c.Kind = 1 then 1 else if c.Kind = 2 then 2 else if c.Kind = 3 then 3 else if c.Kind = 4 then 4 else if c.Kind = 5 then 5 else if c.Kind = 6 ∨ c.Kind = 7 then 6 else 0) = 5 := by simp [e]
  rw [six]
  have en : nl = [c.Which, c.To] := by rw [← hnl]; unfold nums; simp [e]
  rw [en] at hN hP hby
  have ev : vl = [] := by rw [← hvl]; unfold vals; simp [e]
  rw [ev] at hP hby
  rw [if_neg (by decide), if_neg (by decide), if_neg (by decide), if_neg (by decide), if_neg (by decide), if_pos rfl]
  rw [whole2_back hn hs _ hN (by omega) (by omega), Option.bind_some]
  simp only
  rw [j13_back0 _ (by simp only [e]; decide) (by simp only [e]; decide)]
  rw [hby] at last ⊢
  refine Eq.trans (congrArg (fun g => F72_j47 n s g _) ?_) last
  refine Eq.trans ?_ hcore.symm
  simp [e, zC, zF]
 ·have six : (if c.Kind = 1 then 1 else if c.Kind = 2 then 2 else if c.Kind = 3 then 3 else if c.Kind = 4 then 4 else if c.Kind = 5 then 5 else if c.Kind = 6 ∨ c.Kind = 7 then 6 else 0) = 6 := by simp [e]
  rw [six]
  have en : nl = [c.Rect.X0, c.Rect.Y0, c.Rect.X1, c.Rect.Y1] := by rw [← hnl]; unfold nums; simp [e]
  rw [en] at hN hP hby
  have ev : vl = [] := by rw [← hvl]; unfold vals; simp [e]
  rw [ev] at hP hby
  rw [if_neg (by decide), if_neg (by decide), if_neg (by decide), if_neg (by decide), if_neg (by decide), if_neg (by decide), if_pos rfl]
  rw [whole1_back hn hs _ hN (by omega) (by omega) (by omega) (by omega), Option.bind_some]
  simp only
  rw [j13_back0 _ (by simp only [e]; decide) (by simp only [e]; decide)]
  rw [hby] at last ⊢
  refine Eq.trans (congrArg (fun g => F72_j47 n s g _) ?_) last
  refine Eq.trans ?_ hcore.symm
  simp [e, zC, zF]
 ·have six : (if c.Kind = 1 then 1 else if c.Kind = 2 then 2 else if c.Kind = 3 then 3 else if c.Kind = 4 then 4 else if c.Kind = 5 then 5 else if c.Kind = 6 ∨ c.Kind = 7 then 6 else 0) = 6 := by simp [e]
  rw [six]
  have en : nl = [c.Rect.X0, c.Rect.Y0, c.Rect.X1, c.Rect.Y1] := by rw [← hnl]; unfold nums; simp [e]
  rw [en] at hN hP hby
  have ev : vl = [] := by rw [← hvl]; unfold vals; simp [e]
  rw [ev] at hP hby
  rw [if_neg (by decide), if_neg (by decide), if_neg (by decide), if_neg (by decide), if_neg (by decide), if_neg (by decide), if_pos rfl]
  rw [whole1_back hn hs _ hN (by omega) (by omega) (by omega) (by omega), Option.bind_some]
  simp only
  rw [j13_back0 _ (by simp only [e]; decide) (by simp only [e]; decide)]
  rw [hby] at last ⊢
  refine Eq.trans (congrArg (fun g => F72_j47 n s g _) ?_) last
  refine Eq.trans ?_ hcore.symm
  simp [e, zC, zF]
 ·have six : (if c.Kind = 1 then 1 else if c.Kind = 2 then 2 else if c.Kind = 3 then 3 else if c.Kind = 4 then 4 else if c.Kind = 5 then 5 else if c.Kind = 6 ∨ c.Kind = 7 then 6 else 0) = 0 := by simp [e]
  rw [six, if_pos rfl, whole7_is, Option.bind_some]
  have en : nl = [] := by rw [← hnl]; unfold nums; simp [e]
  have ev : vl = [] := by rw [← hvl]; unfold vals; simp [e]
  rw [en, ev] at hby
  rw [j13_back0 _ (by simp only [e]; decide) (by simp only [e]; decide)]
  rw [hby] at last ⊢
  refine Eq.trans (congrArg (fun g => F72_j47 n s g _) ?_) last
  refine Eq.trans ?_ hcore.symm
  simp [e, zC, zF]
theorem xor_nat {a b : Nat} (ha : a < 4294967296) (hb : b < 4294967296) : bitsI .xor .u32 (a : Int) (b : Int) = ((a ^^^ b : Nat) : Int) := by
 have h : a ^^^ b < 2 ^ 32 := Nat.xor_lt_two_pow (by omega) (by omega)
 have e : (BitVec.ofInt 32 (a : Int) ^^^ BitVec.ofInt 32 (b : Int)).toNat = a ^^^ b := by
  rw [BitVec.toNat_xor, BitVec.ofInt_natCast, BitVec.ofInt_natCast, BitVec.toNat_ofNat, BitVec.toNat_ofNat, Nat.mod_eq_of_lt (by omega), Nat.mod_eq_of_lt (by omega)]
 show IntKind.wrap .u32 ((BitVec.ofInt 32 (a : Int) ^^^ BitVec.ofInt 32 (b : Int)).toNat : Int) = _
 rw [e]
 simp [IntKind.wrap, IntKind.bits, IntKind.signed]; omega
theorem and1_nat {a : Nat} (ha : a < 4294967296) : (bitsI .and .u32 (a : Int) 1 == 1) = decide (a % 2 = 1) := by
 have e : (BitVec.ofInt 32 (a : Int) &&& BitVec.ofInt 32 1).toNat = a % 2 := by
  rw [BitVec.toNat_and, BitVec.ofInt_natCast, BitVec.toNat_ofNat, Nat.mod_eq_of_lt (by omega)]
  have : (BitVec.ofInt 32 1).toNat = 1 := rfl
  rw [this, Nat.and_one_is_mod]
 have h : bitsI .and .u32 (a : Int) 1 = ((a % 2 : Nat) : Int) := by
  show IntKind.wrap .u32 ((BitVec.ofInt 32 (a : Int) &&& BitVec.ofInt 32 1).toNat : Int) = _
  rw [e]
  simp [IntKind.wrap, IntKind.bits, IntKind.signed]; omega
 rw [h, Bool.eq_iff_iff, beq_iff_eq, decide_eq_true_eq]; omega
theorem shr1_nat (a : Nat) : shrI .u32 (a : Int) 1 = ((a / 2 : Nat) : Int) := by
 show Int.fdiv (a : Int) (2 ^ 1) = _
 rw [Int.fdiv_eq_ediv_of_nonneg _ (by decide)]
 simp
def stN (x : Nat) : Nat := if x % 2 = 1 then (x / 2) ^^^ 3988292384 else x / 2
theorem stN_lt {x : Nat} (h : x < 4294967296) : stN x < 4294967296 := by
 unfold stN
 split
 ·have h' : x / 2 ^^^ 3988292384 < 2 ^ 32 := Nat.xor_lt_two_pow (by omega) (by omega)
  omega
 ·omega
theorem half_bit {x : Nat} (h : x < 4294967296) : (x / 2).testBit 31 = false := Nat.testBit_lt_two_pow (by omega)
theorem xor_inj {a b c : Nat} (h : a ^^^ c = b ^^^ c) : a = b := by
 have := congrArg (· ^^^ c) h
 simpa [Nat.xor_assoc] using this
theorem stN_inj {x y : Nat} (hx : x < 4294967296) (hy : y < 4294967296) (h : stN x = stN y) : x = y := by
 have bp : Nat.testBit 3988292384 31 = true := by decide
 unfold stN at h
 split at h <;> split at h
 ·have := xor_inj h; omega
 ·have := congrArg (Nat.testBit · 31) h
  simp only [Nat.testBit_xor, half_bit hx, half_bit hy, bp] at this
  cases this
 ·have := congrArg (Nat.testBit · 31) h
  simp only [Nat.testBit_xor, half_bit hx, half_bit hy, bp] at this
  cases this
 ·omega
def itN : Nat → Nat → Nat
 | 0, x => x
 | k + 1, x => itN k (stN x)
theorem itN_lt : ∀ (k : Nat) {x : Nat}, x < 4294967296 → itN k x < 4294967296
 | 0, _, h => h
 | k + 1, _, h => itN_lt k (stN_lt h)
theorem itN_inj : ∀ (k : Nat) {x y : Nat}, x < 4294967296 → y < 4294967296 → itN k x = itN k y → x = y
 | 0, _, _, _, _, h => h
 | k + 1, _, _, hx, hy, h => stN_inj hx hy (itN_inj k (stN_lt hx) (stN_lt hy) h)
def crcN : Nat → List Int → Nat
 | x, [] => x
 | x, b :: l => crcN (itN 8 (x ^^^ b.toNat)) l
theorem crcN_cons (x : Nat) (b : Int) (l : List Int) : crcN x (b :: l) = crcN (itN 8 (x ^^^ b.toNat)) l := rfl
def Byt (l : List Int) : Prop := ∀ b ∈ l, 0 ≤ b ∧ b < 256
theorem mix_lt {x : Nat} (hx : x < 4294967296) {b : Int} (hb : 0 ≤ b ∧ b < 256) : x ^^^ b.toNat < 4294967296 := by
 have h' : x ^^^ b.toNat < 2 ^ 32 := Nat.xor_lt_two_pow (by omega) (by omega)
 omega
theorem crcN_lt : ∀ (l : List Int) {x : Nat}, Byt l → x < 4294967296 → crcN x l < 4294967296
 | [], _, _, h => h
 | b :: l, _, hl, h => crcN_lt l (fun c hc => hl c (List.mem_cons_of_mem _ hc)) (itN_lt 8 (mix_lt h (hl b List.mem_cons_self)))
theorem crcN_inj : ∀ (l : List Int) {x y : Nat}, Byt l → x < 4294967296 → y < 4294967296 → crcN x l = crcN y l → x = y
 | [], _, _, _, _, _, h => h
 | b :: l, x, y, hl, hx, hy, h => by
  have hb := hl b List.mem_cons_self
  have := crcN_inj l (fun c hc => hl c (List.mem_cons_of_mem _ hc)) (itN_lt 8 (mix_lt hx hb)) (itN_lt 8 (mix_lt hy hb)) h
  exact xor_inj (itN_inj 8 (mix_lt hx hb) (mix_lt hy hb) this)
theorem crcN_app : ∀ (a b : List Int) (x : Nat), crcN x (a ++ b) = crcN (crcN x a) b
 | [], _, _ => rfl
 | c :: a, b, x => by rw [List.cons_append]; exact crcN_app a b _
theorem crcN_ne {A C : List Int} {b c : Int} (hA : Byt A) (hC : Byt C) (hb : 0 ≤ b ∧ b < 256) (hc : 0 ≤ c ∧ c < 256) (h : b ≠ c) {x : Nat} (hx : x < 4294967296) : crcN x (A ++ b :: C) ≠ crcN x (A ++ c :: C) := by
 intro e
 rw [crcN_app, crcN_app] at e
 have h0 := crcN_lt A hA hx
 have e2 := crcN_inj C hC (itN_lt 8 (mix_lt h0 hb)) (itN_lt 8 (mix_lt h0 hc)) e
 have e3 := itN_inj 8 (mix_lt h0 hb) (mix_lt h0 hc) e2
 have e4 : b.toNat = c.toNat := by
  have := congrArg (crcN x A ^^^ ·) e3
  simpa [← Nat.xor_assoc] using this
 omega
theorem byt_bytes (s : ByteArray) : Byt (bytesL s) := by
 intro b hb
 obtain ⟨i, hi, rfl⟩ := List.getElem_of_mem hb
 obtain ⟨k, hk⟩ := byte_in s i hi
 rw [hk]
 have := k.isLt
 omega
def sumN (s : ByteArray) : Nat := crcN 4294967295 (bytesL s) ^^^ 4294967295
theorem sumN_lt (s : ByteArray) : sumN s < 4294967296 := by
 have h0 := crcN_lt (bytesL s) (byt_bytes s) (x := 4294967295) (by omega)
 have h' : crcN 4294967295 (bytesL s) ^^^ 4294967295 < 2 ^ 32 := Nat.xor_lt_two_pow (by omega) (by omega)
 exact h'
theorem crc8_eq (n : Nat) (i6 : Int) (rec : Int → Int → Option Int) : ∀ (m i x : Nat), i ≤ 8 → 8 - i < m → x < 4294967296 → F51_l15 n i6 rec m (x : Int) (i : Int) = rec (itN (8 - i) x : Nat) (IntKind.wrap .i64 (i6 + 1))
 | 0, i, x, _, h, _ => by omega
 | m + 1, i, x, hi, h, hx => by
  unfold F51_l15
  by_cases hlt : i < 8
  ·rw [if_pos (by rw [decide_eq_true_eq]; omega), dsucc (by simp only [maxLen]; omega), and1_nat hx, shr1_nat]
   have e : 8 - i = (8 - (i + 1)) + 1 := by omega
   rw [e, itN]
   have ih := crc8_eq n i6 rec m (i + 1) (stN x) (by omega) (by omega) (stN_lt hx)
   rw [← ih]
   unfold stN
   by_cases hp : x % 2 = 1
   ·rw [if_pos (by simpa using hp), if_pos hp]
    have := xor_nat (a := x / 2) (b := 3988292384) (by omega) (by omega)
    have e2 : ((3988292384 : Nat) : Int) = 3988292384 := rfl
    rw [e2] at this
    rw [this]
   ·rw [if_neg (by simpa using hp), if_neg hp]
  ·have : i = 8 := by omega
   subst this
   rw [if_neg (by decide)]
   rfl
theorem sum_l {n : Nat} (hn : 1 ≤ n) (s : ByteArray) (hs : s.size ≤ 100000) : ∀ (m i x : Nat), i ≤ (bytesL s).length → (bytesL s).length - i < m → x < 4294967296 → F51_l7 n s m (x : Int) (i : Int) = some ((crcN x ((bytesL s).drop i) ^^^ 4294967295 : Nat) : Int)
 | 0, i, _, _, h, _ => by omega
 | m + 1, i, x, hi, h, hx => by
  unfold F51_l7
  have hB := byt_bytes s
  by_cases hlt : i < (bytesL s).length
  ·have hb := bytesL_len s
   have hbb := hB _ (List.getElem_mem hlt)
   rw [if_pos (lt_dec hlt), ixg (bytesL s) i hlt, dropS _ _ hlt, crcN_cons]
   simp only [Option.bind_some]
   have ew : IntKind.wrap .u32 (bytesL s)[i] = (((bytesL s)[i].toNat : Nat) : Int) := by
    simp [IntKind.wrap, IntKind.bits, IntKind.signed]; omega
   rw [ew, xor_nat hx (by omega)]
   have hc := crc8_eq n (i : Int) (F51_l7 n s m) (n + 8) 0 (x ^^^ (bytesL s)[i].toNat) (by omega) (by omega) (mix_lt hx hbb)
   have hc' : F51_l15 n (i : Int) (F51_l7 n s m) (n + 8) ((x ^^^ (bytesL s)[i].toNat : Nat) : Int) 0 = _ := hc
   rw [hc', dsucc (by simp only [maxLen]; omega)]
   exact sum_l hn s hs m (i + 1) _ (by omega) (by omega) (itN_lt 8 (mix_lt hx hbb))
  ·rw [if_neg (by rw [ge_dec hlt]; decide), List.drop_of_length_le (by omega)]
   have := xor_nat (a := x) (b := 4294967295) hx (by omega)
   have e2 : ((4294967295 : Nat) : Int) = 4294967295 := rfl
   rw [e2] at this
   rw [this]; rfl
theorem sum_eq {n : Nat} {s : ByteArray} (hs : s.size ≤ 100000) (hn : s.size ≤ n) (hn1 : 1 ≤ n) : F51 n s = some ((sumN s : Nat) : Int) := by
 have := sum_l hn1 s hs (n + 8) 0 4294967295 (by omega) (by rw [bytesL_len]; omega) (by omega)
 exact this
def toldB (c : Nat) : ByteArray := mkStr [((c % 256 : Nat) : Int), ((c / 256 % 256 : Nat) : Int), ((c / 65536 % 256 : Nat) : Int), ((c / 16777216 % 256 : Nat) : Int)]
theorem shr_nat (a k : Nat) (hk : k ≤ 32) : shrI .u32 (a : Int) (k : Int) = ((a / 2 ^ k : Nat) : Int) := by
 show Int.fdiv (a : Int) (2 ^ (min (k : Int).toNat 32)) = _
 rw [Int.toNat_natCast, Nat.min_eq_left hk, Int.fdiv_eq_ediv_of_nonneg _ (Int.le_of_lt (Int.pow_pos (by decide)))]
 push_cast
 rfl
theorem told_eq (n c : Nat) : F50 n (c : Int) = some (toldB c) := by
 unfold F50 toldB
 have h8 := shr_nat c 8 (by omega)
 have h16 := shr_nat c 16 (by omega)
 have h24 := shr_nat c 24 (by omega)
 have e8 : ((8 : Nat) : Int) = 8 := rfl
 have e16 : ((16 : Nat) : Int) = 16 := rfl
 have e24 : ((24 : Nat) : Int) = 24 := rfl
 rw [e8] at h8; rw [e16] at h16; rw [e24] at h24
 rw [h8, h16, h24]
 simp only [wrap_u8]
 norm_cast
theorem toldB_size (c : Nat) : (toldB c).size = 4 := by rw [toldB, mkStr_size]; rfl
theorem toldB_inj {c d : Nat} (hc : c < 4294967296) (hd : d < 4294967296) (h : toldB c = toldB d) : c = d := by
 have := congrArg bytesL h
 unfold toldB at this
 rw [bytesL_mk _ (by simp; omega), bytesL_mk _ (by simp; omega)] at this
 simp only [List.cons.injEq, Int.natCast_inj, and_true] at this
 omega
theorem wrapB_eq {n : Nat} {s : ByteArray} (hn : 10 ≤ n) (hs : s.size ≤ 100000) (hn2 : s.size ≤ n) (htx : F49 n s = some (tx s)) : F23 n s = some (tx s ++ toldB (sumN s)) := by
 unfold F23
 rw [htx, sum_eq hs hn2 (by omega)]
 simp only [Option.bind_some, told_eq]
 have h1 := (tx_size s).1
 rw [if_pos (by rw [toldB_size]; omega)]
theorem imax4 : IntKind.wrap .u64 (imax 40000 0) = 40000 := rfl
theorem textsL_tx {n : Nat} (hn : 10 ≤ n) (t r : ByteArray) (ht : t.size ≤ 40000) (hs : (tx t ++ r).size ≤ 100000) : F69 n (tx t ++ r) 40000 = some (t, ((tx t).size : Int), 0) := by
 have hp : pu (t.size : Int) = pt (t.size : Int) := pu_small (by omega) (by omega)
 have e : tx t ++ r = pt (t.size : Int) ++ (t ++ r) := by rw [tx, hp, ba_assoc]
 have hp1 := pt_size (t.size : Int)
 have hsz : (tx t).size = (pt (t.size : Int)).size + t.size := by rw [tx, hp, ba_size]
 rw [e] at hs ⊢
 have hss : (pt (t.size : Int) ++ (t ++ r)).size = (pt (t.size : Int)).size + (t.size + r.size) := by rw [ba_size, ba_size]
 unfold F69
 rw [get_pt n hn _ (by omega) (by omega) _ hs]
 have m1 := imax4
 have w0 : IntKind.wrap .u64 (IntKind.wrap .i64 (((pt (t.size : Int) ++ (t ++ r)).size : Int) - ((pt (t.size : Int)).size : Int))) = t.size + r.size := by
  rw [w64 (by omega) (by omega), wrap_u64]; omega
 have c1 : decide ((40000 : Int) < (t.size : Int)) = false := by rw [decide_eq_false_iff_not]; omega
 have c2 : decide (((t.size : Int) + r.size) < (t.size : Int)) = false := by rw [decide_eq_false_iff_not]; omega
 have w1 : IntKind.wrap .i64 (t.size : Int) = t.size := w64 (by omega) (by omega)
 have w2 : IntKind.wrap .i64 (((pt (t.size : Int)).size : Int) + t.size) = ((pt (t.size : Int)).size : Int) + t.size := w64 (by omega) (by omega)
 simp only [Option.bind_some, bne_self_eq_false, Bool.false_eq_true, if_false, m1, w0, c1, c2, w1, w2]
 rw [if_pos (by omega), hsz]
 have e3 : (((pt (t.size : Int)).size : Int) + (t.size : Int)).toNat = (pt (t.size : Int)).size + t.size := by omega
 have e4 : (((pt (t.size : Int)).size : Nat) : Int).toNat = (pt (t.size : Int)).size := rfl
 rw [e3, e4, ext_mid]
 push_cast
 rfl
theorem textsL_cut {n : Nat} (hn : 10 ≤ n) {t : ByteArray} (ht : t.size ≤ 40000) {Q : ByteArray} (h : Cut Q (tx t)) : F69 n Q 40000 = some (ByteArray.empty, 0, 10) := by
 have hp : pu (t.size : Int) = pt (t.size : Int) := pu_small (by omega) (by omega)
 have hp1 := pt_size (t.size : Int)
 have key : Cut Q (pt (t.size : Int)) ∨ ∃ Q', Q = pt (t.size : Int) ++ Q' ∧ Q'.size < t.size := by
  rw [tx, hp] at h
  by_cases hz : 1 ≤ t.size
  ·rcases h.split hz with h | ⟨Q', e, h⟩
   ·exact .inl h
   ·exact .inr ⟨Q', e, h.size⟩
  ·left
   obtain ⟨R, e, hR⟩ := h
   refine ⟨R, ?_, hR⟩
   rw [e]
   have : t = ByteArray.empty := ba_of (by
    have : t.data.toList.length = 0 := by rw [ba_data]; omega
    rw [List.eq_nil_of_length_eq_zero this]; rfl)
   rw [this, ba_nil_r]
 unfold F69
 rcases key with h | ⟨Q', e, h⟩
 ·rw [get_cut hn (by omega) h]
  rfl
 ·have hs : (pt (t.size : Int) ++ Q').size = (pt (t.size : Int)).size + Q'.size := by rw [ba_size]
  rw [e, get_pt n hn _ (by omega) (by omega) Q' (by omega)]
  have m1 := imax4
  have w0 : IntKind.wrap .u64 (IntKind.wrap .i64 (((pt (t.size : Int) ++ Q').size : Int) - ((pt (t.size : Int)).size : Int))) = Q'.size := by
   rw [w64 (by omega) (by omega), wrap_u64]; omega
  have c1 : decide ((40000 : Int) < (t.size : Int)) = false := by rw [decide_eq_false_iff_not]; omega
  have c2 : decide ((Q'.size : Int) < (t.size : Int)) = true := by rw [decide_eq_true_eq]; omega
  simp only [Option.bind_some, bne_self_eq_false, Bool.false_eq_true, if_false, m1, w0, c1, c2, if_true]
theorem open_eq {n : Nat} (hn : 60000 ≤ n) {B T R : ByteArray} (hB : B.size ≤ 40000) (hT : T.size = 4) (hR : R.size ≤ 1000) : F41 n (tx B ++ (T ++ R)) = some (if T.toList == (toldB (sumN B)).toList then (B, ((tx B).size : Int) + 4, 0) else (ByteArray.empty, 0, 12)) := by
 have h1 := tx_size B
 have hs : (tx B ++ (T ++ R)).size = (tx B).size + (4 + R.size) := by rw [ba_size, ba_size, hT]
 unfold F41
 rw [textsL_tx (by omega) B (T ++ R) hB (by omega)]
 have w1 : IntKind.wrap .i64 (((tx B ++ (T ++ R)).size : Int) - ((tx B).size : Int)) = 4 + R.size := by rw [w64 (by omega) (by omega)]; omega
 have w2 : IntKind.wrap .i64 (((tx B).size : Int) + 4) = ((tx B).size : Int) + 4 := w64 (by omega) (by omega)
 have c1 : decide ((4 : Int) + R.size < 4) = false := by rw [decide_eq_false_iff_not]; omega
 simp only [Option.bind_some, bne_self_eq_false, Bool.false_eq_true, if_false, w1, w2, c1]
 have e3 : (((tx B).size : Int) + 4).toNat = (tx B).size + T.size := by omega
 have e4 : (((tx B).size : Nat) : Int).toNat = (tx B).size := rfl
 rw [if_pos (by omega), sum_eq (by omega) (by omega) (by omega), Option.bind_some, told_eq, Option.bind_some, e3, e4, ext_mid]
 cases (T.toList == (toldB (sumN B)).toList) <;> rfl
theorem open_cut {n : Nat} (hn : 60000 ≤ n) {B T : ByteArray} (hB : B.size ≤ 40000) (hT : T.size = 4) {Q : ByteArray} (h : Cut Q (tx B ++ T)) : F41 n Q = some (ByteArray.empty, 0, 10) := by
 unfold F41
 rcases h.split (by omega) with h | ⟨Q', rfl, h2⟩
 ·rw [textsL_cut (by omega) hB h]; rfl
 ·have hq : Q'.size < 4 := by have := h2.size; omega
  have hb : (tx B).size ≤ 40010 := by have := tx_size B; omega
  have h1 := tx_size B
  have hs : (tx B ++ Q').size = (tx B).size + Q'.size := by rw [ba_size]
  rw [textsL_tx (by omega) B Q' hB (by omega)]
  have w1 : IntKind.wrap .i64 (((tx B ++ Q').size : Int) - ((tx B).size : Int)) = Q'.size := by rw [w64 (by omega) (by omega)]; omega
  have c1 : decide ((Q'.size : Int) < 4) = true := by rw [decide_eq_true_eq]; omega
  simp only [Option.bind_some, bne_self_eq_false, Bool.false_eq_true, if_false, w1, c1, if_true]
theorem pred_wn {i : Nat} (h : i + 1 < maxLen) : IntKind.wrap .i64 (((i + 1 : Nat) : Int) - 1) = (i : Int) := by
 simp only [maxLen] at h
 simp [IntKind.wrap, IntKind.bits, IntKind.signed]; omega
def isCell (c : Int) : Bool := decide (0 ≤ c) && decide (c < 16)
theorem isCell_eq (n : Nat) (c : Int) : F63 n c = some (isCell c) := by
 unfold F63 isCell
 by_cases h : (0 : Int) ≤ c
 ·rw [if_pos (decide_eq_true h), decide_eq_true h]; rfl
 ·rw [if_neg (by simp; omega), decide_eq_false h]; rfl
def okH (f k : Int) (p : Option Int) (h : Hand) : Bool := isCell h.Cell && ((match p with | none => true | some q => !(decide (h.Cell ≤ q))) && (!(decide (h.To < 0)) && (!(decide (k ≤ h.To)) && !(h.To == f))))
def okHs (f k : Int) : Option Int → List Hand → Bool
 | _, [] => true
 | p, h :: l => okH f k p h && okHs f k (some h.Cell) l
def prevH (l : List Hand) (i : Nat) : Option Int := if i = 0 then none else some ((l.getD (i - 1) ⟨0, 0⟩).Cell)
theorem prevH0 (l : List Hand) : prevH l 0 = none := rfl
theorem prevHS (l : List Hand) (i : Nat) (h : i < l.length) : prevH l (i + 1) = some l[i].Cell := by
 unfold prevH
 rw [if_neg (by omega)]
 have : i + 1 - 1 = i := by omega
 rw [this, List.getD_eq_getElem?_getD, List.getElem?_eq_getElem h]; rfl
theorem ite_f (b : Bool) (x : Option Bool) (y : Bool) (h : x = some y) : (if b = true then some false else x) = some (!b && y) := by cases b <;> simp [h]
theorem hands_l (n : Nat) (l : List Hand) (f k : Int) (hl : l.length ≤ 100000) : ∀ (m i : Nat), i ≤ l.length → l.length - i < m → F34_l4 n l f k m (i : Int) = some (okHs f k (prevH l i) (l.drop i))
 | 0, i, _, h => by omega
 | m + 1, i, hi, h => by
  unfold F34_l4
  by_cases hlt : i < l.length
  ·have ih := hands_l n l f k hl m (i + 1) (by omega) (by omega)
   rw [← dsucc (by simp only [maxLen]; omega), prevHS l i hlt] at ih
   rw [if_pos (lt_dec hlt), ixg l i hlt, dropS l i hlt, okHs]
   simp only [Option.bind_some, isCell_eq, okH]
   have tail := ite_f (decide (l[i].To < 0)) _ _ (ite_f (decide (k ≤ l[i].To)) _ _ (ite_f (l[i].To == f) _ _ ih))
   cases hc : isCell l[i].Cell with
   | false => rfl
   | true =>
    simp only [Bool.not_true, Bool.false_eq_true, if_false, Bool.true_and]
    cases i with
    | zero =>
     rw [if_neg (by decide), prevH0, tail]
     simp [Bool.and_assoc]
    | succ i =>
     rw [if_pos (by simp), pred_wn (by simp only [maxLen]; omega), ixg l i (by omega), prevHS l i (by omega)]
     simp only [Option.bind_some]
     rw [ite_f _ _ _ tail]
     simp [Bool.and_assoc]
  ·rw [if_neg (by rw [ge_dec hlt]; decide), List.drop_of_length_le (by omega)]; rfl
theorem hands_eq {n : Nat} {l : List Hand} (f k : Int) (hl : l.length ≤ 100000) (hn : l.length ≤ n) : F34 n l f k = some (okHs f k none l) := by
 have := hands_l n l f k hl (n + 8) 0 (by omega) (by omega)
 exact this
def hasC (l : List Hand) (c : Int) : Bool := l.any fun h => h.Cell == c
theorem idx_l (n : Nat) (l : List Hand) (c : Int) (hl : l.length ≤ 100000) : ∀ (m i : Nat), i ≤ l.length → l.length - i < m → ∃ r : Int, F80s0_l4 n l c m (i : Int) = some r ∧ decide ((0 : Int) ≤ r) = hasC (l.drop i) c
 | 0, i, _, h => by omega
 | m + 1, i, hi, h => by
  unfold F80s0_l4
  by_cases hlt : i < l.length
  ·rw [if_pos (lt_dec hlt), ixg l i hlt, dropS l i hlt]
   unfold F66s0 hasC
   simp only [Option.bind_some, List.any_cons]
   cases hc : (l[i].Cell == c) with
   | true => exact ⟨_, rfl, by simp⟩
   | false =>
    simp only [Bool.false_eq_true, if_false, Bool.false_or]
    rw [dsucc (by simp only [maxLen]; omega)]
    exact idx_l n l c hl m (i + 1) (by omega) (by omega)
  ·rw [if_neg (by rw [ge_dec hlt]; decide), List.drop_of_length_le (by omega)]
   exact ⟨-1, rfl, rfl⟩
theorem handed_eq {n : Nat} {l : List Hand} (c : Int) (hl : l.length ≤ 100000) (hn : l.length ≤ n) : F65s0 n l c = some (hasC l c) := by
 unfold F65s0 F80s0
 obtain ⟨r, h1, h2⟩ := idx_l n l c hl (n + 8) 0 (by omega) (by omega)
 have h1' : F80s0_l4 n l c (n + 8) 0 = some r := h1
 rw [h1', Option.bind_some, h2, List.drop_zero]
def celP (p : Point) : Int × Int := (F64 0 p).getD (0, 0)
theorem of_eq (n : Nat) (p : Point) : F64 n p = some (celP p) := by
 have h : ∀ n, F64 n p = if on p then some (IntKind.wrap .i64 ((F90 0 (IntKind.wrap .u16 (IntKind.wrap .i64 (Int.tdiv p.X 16))) (IntKind.wrap .u16 (IntKind.wrap .i64 (Int.tdiv p.Y 16)))).getD 0), 0) else some (0, 14) := by
  intro n
  unfold F64
  rw [on_eq]
  cases on p with
  | false => rfl
  | true => rfl
 unfold celP
 rw [h n, h 0]
 split <;> rfl
def okT (hs : List Hand) (b : Bool) (p : Option Int) (t : Thing) : Bool := isTh t && ((match p with | none => true | some q => !(decide (t.ID ≤ q))) && (hasC hs (celP t.At).1 == b))
def okTs (hs : List Hand) (b : Bool) : Option Int → List Thing → Bool
 | _, [] => true
 | p, t :: l => okT hs b p t && okTs hs b (some t.ID) l
def prevT (l : List Thing) (i : Nat) : Option Int := if i = 0 then none else some ((l.getD (i - 1) ⟨0, ⟨0, 0⟩, ⟨noF, noF, noF, noF⟩⟩).ID)
theorem prevT0 (l : List Thing) : prevT l 0 = none := rfl
theorem prevTS (l : List Thing) (i : Nat) (h : i < l.length) : prevT l (i + 1) = some l[i].ID := by
 unfold prevT
 rw [if_neg (by omega)]
 have : i + 1 - 1 = i := by omega
 rw [this, List.getD_eq_getElem?_getD, List.getElem?_eq_getElem h]; rfl
theorem things_l (n : Nat) (l : List Thing) (hs : List Hand) (b : Bool) (hl : l.length ≤ 100000) (hh : hs.length ≤ 100000) (hn : hs.length ≤ n) : ∀ (m i : Nat), i ≤ l.length → l.length - i < m → F35_l4 n l hs b m (i : Int) = some (okTs hs b (prevT l i) (l.drop i) && decide ((l.length : Int) ≤ 200))
 | 0, i, _, h => by omega
 | m + 1, i, hi, h => by
  unfold F35_l4
  by_cases hlt : i < l.length
  ·have ih := things_l n l hs b hl hh hn m (i + 1) (by omega) (by omega)
   rw [← dsucc (by simp only [maxLen]; omega), prevTS l i hlt] at ih
   rw [if_pos (lt_dec hlt), ixg l i hlt, dropS l i hlt, okTs]
   simp only [Option.bind_some, of_eq, handed_eq _ hh hn, is_eq, okT]
   have tail := ite_f (!(hasC hs (celP l[i].At).1 == b)) _ _ ih
   cases hc : isTh l[i] with
   | false => rfl
   | true =>
    simp only [Bool.not_true, Bool.false_eq_true, if_false, Bool.true_and]
    cases i with
    | zero =>
     rw [if_neg (by decide), prevT0, tail]
     simp [Bool.and_assoc]
    | succ i =>
     rw [if_pos (by simp), pred_wn (by simp only [maxLen]; omega), ixg l i (by omega), prevTS l i (by omega)]
     simp only [Option.bind_some]
     rw [ite_f _ _ _ tail]
     simp [Bool.and_assoc]
  ·rw [if_neg (by rw [ge_dec hlt]; decide), List.drop_of_length_le (by omega)]; rfl
theorem things_eq {n : Nat} {l : List Thing} {hs : List Hand} (b : Bool) (hl : l.length ≤ 100000) (hn : l.length ≤ n) (hh : hs.length ≤ 100000) (hn2 : hs.length ≤ n) : F35 n l hs b = some (okTs hs b none l && decide ((l.length : Int) ≤ 200)) :=
 things_l n l hs b hl hh hn2 (n + 8) 0 (by omega) (by omega)
theorem Hand.eqb_iff (x y : Hand) : Hand.eqb x y = true ↔ x = y := by
 cases x; cases y; simp [Hand.eqb]
def okC (c : Command) : Bool := isC c && watchesC c
theorem wrong_eq (n : Nat) (c : Command) : F31 n c = some (!(okC c)) := by
 unfold F31 okC
 rw [isC_eq, Option.bind_some]
 cases isC c with
 | false => rfl
 | true => simp only [Bool.not_true, Bool.false_eq_true, if_false, watches_eq, Option.bind_some, Bool.true_and]
theorem idxC_l (n : Nat) (l : List Command) (hl : l.length ≤ 100000) : ∀ (m i : Nat), i ≤ l.length → l.length - i < m → ∃ r : Int, F68s0_l4 n l m (i : Int) = some r ∧ decide ((0 : Int) ≤ r) = !((l.drop i).all okC)
 | 0, i, _, h => by omega
 | m + 1, i, hi, h => by
  unfold F68s0_l4
  by_cases hlt : i < l.length
  ·rw [if_pos (lt_dec hlt), ixg l i hlt, dropS l i hlt]
   simp only [Option.bind_some, wrong_eq, List.all_cons]
   cases hc : okC l[i] with
   | false => exact ⟨_, rfl, by simp⟩
   | true =>
    simp only [Bool.not_true, Bool.false_eq_true, if_false, Bool.true_and]
    rw [dsucc (by simp only [maxLen]; omega)]
    exact idxC_l n l hl m (i + 1) (by omega) (by omega)
  ·rw [if_neg (by rw [ge_dec hlt]; decide), List.drop_of_length_le (by omega)]
   exact ⟨-1, rfl, rfl⟩
theorem wrongs_eq {n : Nat} {l : List Command} (hl : l.length ≤ 100000) (hn : l.length ≤ n) : F36s0 n l = some (!(l.all okC)) := by
 unfold F36s0 F68s0
 obtain ⟨r, h1, h2⟩ := idxC_l n l hl (n + 8) 0 (by omega) (by omega)
 have h1' : F68s0_l4 n l (n + 8) 0 = some r := h1
 rw [h1', Option.bind_some, h2, List.drop_zero]
structure Lens (n : Nat) (x : Note) : Prop where
 m : x.Moved.length ≤ 1000
 g : x.Given.length ≤ 1000
 h : x.Hands.length ≤ 1000
 w : x.Watch.length ≤ 1000
 n : 1000 ≤ n
def thOk (l : List Thing) (hs : List Hand) (b : Bool) : Bool := okTs hs b none l && decide ((l.length : Int) ≤ 200)
def isNt (k : Int) (x : Note) : Bool := !(decide (x.From < 0)) && (!(decide (k ≤ x.From)) && (!(decide (x.Beat < 0)) && (!(decide ((1073741824 : Int) < x.Beat)) && (!(decide ((20 : Int) < (x.Watch.length : Int))) && (okHs x.From k none x.Hands && (thOk x.Moved x.Hands false && (thOk x.Given x.Hands true && x.Watch.all okC)))))))
theorem ite_t (b : Bool) (x : Option Bool) (y : Bool) (h : x = some y) : (if b = true then x else some false) = some (b && y) := by cases b <;> simp [h]
theorem is_note {n : Nat} {x : Note} (L : Lens n x) (s : Int) : F11 n x s = some (isNt (imin s 4) x) := by
 have := L.m; have := L.g; have := L.h; have := L.w; have := L.n
 unfold F11 isNt
 rw [hands_eq _ _ (by omega) (by omega), Option.bind_some, things_eq false (by omega) (by omega) (by omega) (by omega), things_eq true (by omega) (by omega) (by omega) (by omega), wrongs_eq (by omega) (by omega)]
 simp only [Option.bind_some, Bool.not_not]
 refine ite_f _ _ _ (ite_f _ _ _ (ite_f _ _ _ (ite_f _ _ _ (ite_f _ _ _ (ite_t _ _ _ (ite_t _ _ _ (ite_t _ _ _ ?_)))))))
 rfl
theorem eqT_l (n : Nat) (a b : List Thing) (hl : a.length = b.length) (ha : a.length ≤ 100000) : ∀ (m i : Nat), i ≤ a.length → a.length - i < m → ∃ r, F37_l4 n a b m (i : Int) = some r ∧ (r = true ↔ a.drop i = b.drop i)
 | 0, i, _, h => by omega
 | m + 1, i, hi, hm => by
  unfold F37_l4
  by_cases h : i < a.length
  ·rw [if_pos (lt_dec h), ixg a i h, ixg b i (by omega), dropS a i h, dropS b i (by omega)]
   simp only [Option.bind_some]
   cases hc : Thing.eqb a[i] (b[i]'(by omega)) with
   | false => exact ⟨false, rfl, ⟨fun h => (by cases h), fun h => by
     have := (List.cons.inj h).1
     rw [(Thing.eqb_iff _ _).2 this] at hc; cases hc⟩⟩
   | true =>
    simp only [Bool.not_true, Bool.false_eq_true, if_false]
    rw [dsucc (by simp only [maxLen]; omega)]
    obtain ⟨r, h1, h2⟩ := eqT_l n a b hl ha m (i + 1) (by omega) (by omega)
    refine ⟨r, h1, h2.trans ⟨fun h => ?_, fun h => (List.cons.inj h).2⟩⟩
    rw [(Thing.eqb_iff _ _).1 hc, h]
  ·rw [if_neg (by rw [ge_dec h]; decide), List.drop_of_length_le (by omega), List.drop_of_length_le (by omega)]
   exact ⟨true, rfl, by simp⟩
theorem eqT_eq {n : Nat} {a b : List Thing} (ha : a.length ≤ 100000) (hn : a.length ≤ n) : ∃ r, F37 n a b = some r ∧ (r = true ↔ a = b) := by
 unfold F37
 by_cases h : a.length = b.length
 ·have : ¬ (((a.length : Int) != (b.length : Int)) = true) := by simp [h]
  rw [if_neg this]
  exact eqT_l n a b h ha (n + 8) 0 (by omega) (by omega)
 ·have : ((a.length : Int) != (b.length : Int)) = true := by simp; omega
  rw [if_pos this]
  exact ⟨false, rfl, ⟨fun h => (by cases h), fun he => absurd (congrArg List.length he) h⟩⟩
theorem fewT_tot (n : Nat) (t : Thing) : ∃ b, F43 n t = some b := by
 unfold F43 F74
 simp only [Option.bind_some]
 repeat' split
 all_goals exact ⟨_, rfl⟩
theorem fewTs_l (n : Nat) (l : List Thing) (hl : l.length ≤ maxLen) : ∀ (m i : Nat), i ≤ l.length → l.length - i < m → ∃ b, F17_l4 n l m (i : Int) = some b ∧ (b = true → l.length ≤ 30)
 | 0, i, _, h => by omega
 | m + 1, i, hi, h => by
  unfold F17_l4
  by_cases hlt : i < l.length
  ·obtain ⟨b, hb⟩ := fewT_tot n l[i]
   rw [if_pos (lt_dec hlt), ixg l i hlt]
   simp only [Option.bind_some, hb]
   split
   ·exact ⟨false, rfl, fun h => (by cases h)⟩
   ·rw [dsucc (by omega)]
    exact fewTs_l n l hl m (i + 1) (by omega) (by omega)
  ·rw [if_neg (by rw [ge_dec hlt]; decide)]
   exact ⟨_, rfl, fun h => by simp at h; omega⟩
theorem fewTs {n : Nat} {l : List Thing} (hl : l.length ≤ maxLen) (hn : l.length ≤ n) : ∃ b, F17 n l = some b ∧ (b = true → l.length ≤ 30) :=
 fewTs_l n l hl (n + 8) 0 (by omega) (by omega)
theorem fewC_tot (n : Nat) (c : Command) : ∃ b, F16 n c = some b := by
 unfold F16
 repeat' split
 all_goals exact ⟨_, rfl⟩
theorem fewN_l (n : Nat) (x : Note) (hm : x.Moved.length ≤ maxLen ∧ x.Moved.length ≤ n) (hg : x.Given.length ≤ maxLen ∧ x.Given.length ≤ n) (hl : x.Watch.length ≤ maxLen) : ∀ (m i : Nat), i ≤ x.Watch.length → x.Watch.length - i < m →
  ∃ b, F8_l4 n x m (i : Int) = some b ∧ (b = true → x.Moved.length ≤ 30 ∧ x.Given.length ≤ 30 ∧ x.Hands.length ≤ 20 ∧ x.Watch.length ≤ 24)
 | 0, i, _, h => by omega
 | m + 1, i, hi, h => by
  unfold F8_l4
  by_cases hlt : i < x.Watch.length
  ·obtain ⟨b, hb⟩ := fewC_tot n x.Watch[i]
   rw [if_pos (lt_dec hlt), ixg x.Watch i hlt]
   simp only [Option.bind_some, hb]
   split
   ·exact ⟨false, rfl, fun h => (by cases h)⟩
   ·rw [dsucc (by omega)]
    exact fewN_l n x hm hg hl m (i + 1) (by omega) (by omega)
  ·obtain ⟨b1, e1, f1⟩ := fewTs hm.1 hm.2
   obtain ⟨b2, e2, f2⟩ := fewTs hg.1 hg.2
   rw [if_neg (by rw [ge_dec hlt]; decide), e1, Option.bind_some, e2, Option.bind_some]
   cases b1 with
   | false => exact ⟨false, rfl, fun h => (by cases h)⟩
   | true =>
    cases b2 with
    | false => exact ⟨false, rfl, fun h => (by cases h)⟩
    | true =>
     simp only [if_true]
     refine ⟨_, ite_t (decide ((x.Hands.length : Int) ≤ 20)) _ _ rfl, fun h => ?_⟩
     simp only [Bool.and_eq_true, decide_eq_true_eq] at h
     exact ⟨f1 rfl, f2 rfl, by omega, by omega⟩
theorem fewN {n : Nat} {x : Note} (hw : Note.wf x) (h1 : x.Moved.length ≤ n) (h2 : x.Given.length ≤ n) (h3 : x.Watch.length ≤ n) : ∃ b, F8 n x = some b ∧ (b = true → x.Moved.length ≤ 30 ∧ x.Given.length ≤ 30 ∧ x.Hands.length ≤ 20 ∧ x.Watch.length ≤ 24) := by
 obtain ⟨_, _, hm, _, hg, hc⟩ := hw
 exact fewN_l n x ⟨hm.2, h1⟩ ⟨hg.2, h2⟩ hc.2 (n + 8) 0 (by omega) (by omega)
def okRt (p : Option Int) (t : Thing) : Bool := isTh t && (match p with | none => true | some q => !(decide (t.ID ≤ q)))
def okR : Option Int → List Thing → Bool
 | _, [] => true
 | p, t :: l => okRt p t && okR (some t.ID) l
def inC (hs : List Hand) (b : Bool) (t : Thing) : Bool := hasC hs (celP t.At).1 == b
theorem okTs_split (hs : List Hand) (b : Bool) : ∀ (l : List Thing) (p : Option Int), okTs hs b p l = (okR p l && l.all (inC hs b))
 | [], p => rfl
 | t :: l, p => by
  rw [okTs, okR, okTs_split hs b l, List.all_cons]
  unfold okT inC okRt
  ac_rfl
theorem okHs_few (f k : Int) : ∀ (l : List Hand) (q : Int), q ≤ 15 → okHs f k (some q) l = true → (l.length : Int) + q + 1 ≤ 16
 | [], q, h, _ => by simp; omega
 | h :: l, q, hq, hh => by
  rw [okHs, Bool.and_eq_true] at hh
  have h1 := hh.1
  simp only [okH, isCell, Bool.and_eq_true, Bool.not_eq_true', decide_eq_false_iff_not, decide_eq_true_eq] at h1
  have := okHs_few f k l h.Cell (by omega) hh.2
  simp only [List.length_cons]; omega
theorem okHs_16 {f k : Int} {l : List Hand} (h : okHs f k none l = true) : l.length ≤ 16 := by
 cases l with
 | nil => simp
 | cons h0 l =>
  rw [okHs, Bool.and_eq_true] at h
  have h1 := h.1
  simp only [okH, isCell, Bool.and_eq_true, Bool.not_eq_true', decide_eq_false_iff_not, decide_eq_true_eq] at h1
  have := okHs_few f k l h0.Cell (by omega) h.2
  simp only [List.length_cons]; omega
theorem rsameT_l (n : Nat) (a b : List Thing) : ∀ (m : Nat) (i : Int), F40_l4 n a b m i = F37_l4 n a b m i
 | 0, _ => rfl
 | m + 1, i => by
  unfold F40_l4 F37_l4
  simp only [rsameT_l n a b m]
theorem rsameT (n : Nat) (a b : List Thing) : F40 n a b = F37 n a b := by
 unfold F40 F37
 rw [rsameT_l]
theorem rs12 (n : Nat) (a b : Note) (hl : a.Watch.length = b.Watch.length) (ha : a.Watch.length ≤ 100000) : ∀ (m i : Nat), i ≤ a.Watch.length → a.Watch.length - i < m → ∃ r, F13_l12 n a b m (i : Int) = some r ∧ (r = true ↔ a.Watch.drop i = b.Watch.drop i)
 | 0, i, _, h => by omega
 | m + 1, i, hi, hm => by
  unfold F13_l12
  by_cases h : i < a.Watch.length
  ·rw [if_pos (lt_dec h), ixg a.Watch i h, ixg b.Watch i (by omega), dropS a.Watch i h, dropS b.Watch i (by omega)]
   simp only [Option.bind_some]
   cases hc : Command.eqb a.Watch[i] (b.Watch[i]'(by omega)) with
   | false => exact ⟨false, rfl, ⟨fun h => (by cases h), fun h => by
     have := (List.cons.inj h).1
     rw [(Command.eqb_iff _ _).2 this] at hc; cases hc⟩⟩
   | true =>
    simp only [Bool.not_true, Bool.false_eq_true, if_false]
    rw [dsucc (by simp only [maxLen]; omega)]
    obtain ⟨r, h1, h2⟩ := rs12 n a b hl ha m (i + 1) (by omega) (by omega)
    refine ⟨r, h1, h2.trans ⟨fun h => ?_, fun h => (List.cons.inj h).2⟩⟩
    rw [(Command.eqb_iff _ _).1 hc, h]
  ·rw [if_neg (by rw [ge_dec h]; decide), List.drop_of_length_le (by omega), List.drop_of_length_le (by omega)]
   exact ⟨true, rfl, by simp⟩
theorem rs6 (n : Nat) (a b : Note) (hl : a.Hands.length = b.Hands.length) (ha : a.Hands.length ≤ 100000) (hl2 : a.Watch.length = b.Watch.length) (ha2 : a.Watch.length ≤ 100000) (hn : a.Watch.length ≤ n) : ∀ (m i : Nat), i ≤ a.Hands.length → a.Hands.length - i < m → ∃ r, F13_l6 n a b m (i : Int) = some r ∧ (r = true ↔ a.Hands.drop i = b.Hands.drop i ∧ a.Watch = b.Watch)
 | 0, i, _, h => by omega
 | m + 1, i, hi, hm => by
  unfold F13_l6
  by_cases h : i < a.Hands.length
  ·rw [if_pos (lt_dec h), ixg a.Hands i h, ixg b.Hands i (by omega), dropS a.Hands i h, dropS b.Hands i (by omega)]
   simp only [Option.bind_some]
   cases hc : Hand.eqb a.Hands[i] (b.Hands[i]'(by omega)) with
   | false => exact ⟨false, rfl, ⟨fun h => (by cases h), fun h => by
     have := (List.cons.inj h.1).1
     rw [(Hand.eqb_iff _ _).2 this] at hc; cases hc⟩⟩
   | true =>
    simp only [Bool.not_true, Bool.false_eq_true, if_false]
    rw [dsucc (by simp only [maxLen]; omega)]
    obtain ⟨r, h1, h2⟩ := rs6 n a b hl ha hl2 ha2 hn m (i + 1) (by omega) (by omega)
    refine ⟨r, h1, h2.trans ⟨fun h => ⟨?_, h.2⟩, fun h => ⟨(List.cons.inj h.1).2, h.2⟩⟩⟩
    rw [(Hand.eqb_iff _ _).1 hc, h.1]
  ·rw [if_neg (by rw [ge_dec h]; decide), List.drop_of_length_le (by omega), List.drop_of_length_le (by omega)]
   obtain ⟨r, h1, h2⟩ := rs12 n a b hl2 ha2 (n + 8) 0 (by omega) (by omega)
   rw [List.drop_zero, List.drop_zero] at h2
   exact ⟨r, h1, h2.trans ⟨fun h => ⟨rfl, h⟩, fun h => h.2⟩⟩
theorem rsame_note {n : Nat} {a b : Note} (L : Lens n a) : ∃ r, F13 n a b = some r ∧ (r = true ↔ a = b) := by
 have := L.m; have := L.g; have := L.h; have := L.w; have := L.n
 have no : ∀ {p : Prop}, ¬ p → ((false = true) ↔ p) := fun h => ⟨fun h => (by cases h), fun hp => absurd hp h⟩
 unfold F13
 by_cases h1 : a.From = b.From
 case neg => exact ⟨false, by rw [if_pos (by simpa using h1)], no fun h => h1 (by rw [h])⟩
 rw [if_neg (by simpa using h1)]
 by_cases h2 : a.Beat = b.Beat
 case neg => exact ⟨false, by rw [if_pos (by simpa using h2)], no fun h => h2 (by rw [h])⟩
 rw [if_neg (by simpa using h2), rsameT, rsameT]
 obtain ⟨r1, e1, f1⟩ := eqT_eq (n := n) (a := a.Moved) (b := b.Moved) (by omega) (by omega)
 obtain ⟨r3, e3, f3⟩ := eqT_eq (n := n) (a := a.Given) (b := b.Given) (by omega) (by omega)
 rw [e1, e3]
 simp only [Option.bind_some]
 cases r1 with
 | false => exact ⟨false, rfl, no fun h => (by have := f1.2 (by rw [h]); cases this)⟩
 | true =>
  cases r3 with
  | false => exact ⟨false, rfl, no fun h => (by have := f3.2 (by rw [h]); cases this)⟩
  | true =>
   simp only [Bool.not_true, Bool.false_eq_true, if_false]
   by_cases h5 : a.Hands.length = b.Hands.length
   case neg => exact ⟨false, by rw [if_pos (by simp; omega)], no fun h => h5 (by rw [h])⟩
   rw [if_neg (by simp; omega)]
   by_cases h6 : a.Watch.length = b.Watch.length
   case neg => exact ⟨false, by rw [if_pos (by simp; omega)], no fun h => h6 (by rw [h])⟩
   rw [if_neg (by simp; omega)]
   obtain ⟨r, e, f⟩ := rs6 n a b h5 (by omega) h6 (by omega) (by omega) (n + 8) 0 (by omega) (by omega)
   rw [List.drop_zero, List.drop_zero] at f
   refine ⟨r, e, f.trans ⟨fun h => ?_, fun h => by rw [h]; exact ⟨rfl, rfl⟩⟩⟩
   have g1 := f1.1 rfl; have g3 := f3.1 rfl
   obtain ⟨g5, g6⟩ := h
   cases a; cases b; simp only at h1 h2 g1 g3 g5 g6; rw [h1, h2, g1, g3, g5, g6]
theorem tx_eq' {n : Nat} (hn : 10 ≤ n) {s : ByteArray} (h : s.size ≤ 100000) : F49 n s = some (tx s) := by
 unfold F49
 have := pu_size (s.size : Int)
 rw [pu_eq hn]
 simp only [Option.bind_some]
 rw [if_pos (by omega)]; rfl
theorem allR_size : ∀ (l : List Thing) (p : Option Int) (s : ByteArray), (allR p l s).1.size ≤ s.size + 280 * l.length
 | [], p, s => by simp [allR]
 | t :: l, p, s => by
  unfold allR
  cases h : isTh t with
  | false => simp only [if_true]; show 0 ≤ _; omega
  | true =>
   have h1 := (tb_size h).1
   have ih := allR_size l (some t.ID) (s ++ tb t)
   rw [ba_size] at ih
   simp only [Bool.true_eq_false, if_false, List.length_cons]
   split
   ·split
    ·show 0 ≤ _; omega
    ·omega
   ·omega
theorem allB_size (l : List Thing) : (allB l).1.size ≤ 10 + 280 * l.length := by
 unfold allB
 split
 ·show 0 ≤ _; omega
 ·have := allR_size l none (pu (l.length : Int))
  have := (pu_size (l.length : Int)).1
  omega
theorem i64_in {x : Int} (h : (Lit.int .i64 x).wf = true) : -9223372036854775808 ≤ x ∧ x < 9223372036854775808 := by
 have := bounds_i64 h; omega
theorem wf_N {t : Thing} (h : t.wf) : (-9223372036854775808 ≤ t.F.a0.N ∧ t.F.a0.N < 9223372036854775808) ∧ (-9223372036854775808 ≤ t.F.a1.N ∧ t.F.a1.N < 9223372036854775808) ∧ (-9223372036854775808 ≤ t.F.a2.N ∧ t.F.a2.N < 9223372036854775808) ∧ (-9223372036854775808 ≤ t.F.a3.N ∧ t.F.a3.N < 9223372036854775808) := by
 obtain ⟨_, _, h0, h1, h2, h3⟩ := h
 exact ⟨i64_in h0.1, i64_in h1.1, i64_in h2.1, i64_in h3.1⟩
theorem full_fld {t : Thing} (h : isTh t = true) (hw : t.wf) : Fld (full t) := by
 obtain ⟨n0, n1, n2, n3⟩ := wf_N hw
 exact ⟨by show (0 : Int) ≤ 31; decide, by rw [full_is]; exact h, n0, n1, n2, n3⟩
theorem read_tb {n : Nat} (hn : 10 ≤ n) {t : Thing} (h : isTh t = true) (hw : t.wf) (r : ByteArray) (hr : r.size ≤ 90000) : F92 n (tb t ++ r) = some (t, ((tb t).size : Int), 0) := by
 unfold F92 tb
 rw [read_back n hn (full t) (full_fld h hw) r hr]
 rfl
def catB : List Thing → ByteArray
 | [] => ByteArray.empty
 | t :: l => tb t ++ catB l
theorem catB_size (l : List Thing) (h : ∀ t ∈ l, isTh t = true) : (catB l).size ≤ 280 * l.length := by
 induction l with
 | nil => exact Nat.le_refl _
 | cons t l ih =>
  have := ih (fun x hx => h x (List.mem_cons_of_mem _ hx))
  have := tb_size (h t List.mem_cons_self)
  simp only [catB, ba_size, List.length_cons]; omega
def risP : Option Int → List Thing → Prop
 | _, [] => True
 | p, t :: l => (∀ q, p = some q → q < t.ID) ∧ risP (some t.ID) l
theorem zsuccU {i : Nat} (h : i < 100000) : IntKind.wrap .u64 ((i : Int) + 1) = ((i + 1 : Nat) : Int) := by
 simp [IntKind.wrap, IntKind.bits, IntKind.signed]; omega
theorem takeS {α : Type} (l : List α) (i : Nat) (h : i < l.length) : l.take i ++ [l[i]] = l.take (i + 1) := by
 rw [List.take_add_one, List.getElem?_eq_getElem h]; rfl
section
variable {n : Nat} (hn : 10 ≤ n) (L : List Thing) (hL : L.length ≤ 200) (hT : ∀ t ∈ L, isTh t = true) (hW : ∀ t ∈ L, t.wf) (r1 : Int × Int × Int) (h1 : r1.1 = (L.length : Int))
include hn hL hT hW h1
theorem some_step (m i : Nat) (A R : ByteArray) (hlt : i < L.length) (hA : A.size + 280 * (L.length - i) ≤ 80000) (hR : R.size ≤ 80000) (hp : ∀ q, prevI L i = some q → q < L[i].ID) :
  F84_l11 n (A ++ (tb L[i] ++ R)) r1 (m + 1) (A.size : Int) (L.take i) (i : Int) = F84_l11 n (A ++ tb L[i] ++ R) r1 m ((A ++ tb L[i]).size : Int) (L.take (i + 1)) ((i + 1 : Nat) : Int) := by
 have hmem : L[i] ∈ L := List.getElem_mem hlt
 have zt := tb_size (hT _ hmem)
 have hr := read_tb hn (hT _ hmem) (hW _ hmem) R (by omega)
 have hc : 0 ≤ (A.size : Int) ∧ (A.size : Int) ≤ ((A ++ (tb L[i] ++ R)).size : Int) := by rw [ba_size]; omega
 have et : ((A.size : Int)).toNat = A.size := rfl
 have e00 : ((0 : Int) != 0) = false := rfl
 have hlen : (L.take i).length = i := by rw [List.length_take]; omega
 have hcell : ((L.take i).length + 1) * 120 ≤ maxCells ∧ (L.take i).length + 1 ≤ maxCells := by rw [hlen]; simp only [maxCells]; omega
 have w : IntKind.wrap .i64 ((A.size : Int) + ((tb L[i]).size : Int)) = ((A ++ tb L[i]).size : Int) := by
  rw [ba_size, w64 (by omega) (by omega)]; push_cast; rfl
 have j14 : F84_j14 n (A.size : Int) (L.take i) (i : Int) (L[i], ((tb L[i]).size : Int), 0) (F84_l11 n (A ++ (tb L[i] ++ R)) r1 m) = F84_l11 n (A ++ tb L[i] ++ R) r1 m ((A ++ tb L[i]).size : Int) (L.take (i + 1)) ((i + 1 : Nat) : Int) := by
  unfold F84_j14
  rw [if_pos hcell, w, zsuccU (by omega), takeS L i hlt, ba_assoc]
 conv => lhs; unfold F84_l11
 rw [if_pos (by rw [decide_eq_true_eq, h1]; omega), if_pos hc, et, ext_app, hr]
 simp only [Option.bind_some, e00, Bool.false_eq_true, if_false, hlen]
 cases i with
 | zero =>
  have c : decide ((0 : Int) < ((0 : Nat) : Int)) = false := rfl
  simp only [c, Bool.false_eq_true, if_false]
  exact j14
 | succ j =>
  have c : decide ((0 : Int) < ((j + 1 : Nat) : Int)) = true := by rw [decide_eq_true_eq]; omega
  have hj : j < L.length := by omega
  have hx : ix (L.take (j + 1)) (j : Int) = some L[j] := by
   rw [ixg _ j (by rw [hlen]; omega)]
   simp
  have hq := hp _ (prevS L j hj)
  have hle : ¬ (L[j + 1].ID ≤ L[j].ID) := by omega
  have hx9 : maxLen = 9223372036854775807 := rfl
  rw [if_pos c, pred_w (by omega), hx]
  simp only [Option.bind_some, hle, decide_false, Bool.false_eq_true, if_false]
  exact j14
theorem some_back (T : ByteArray) (hTl : T.size ≤ 23000) : ∀ (m i : Nat) (A : ByteArray), i ≤ L.length → L.length - i < m → A.size + 280 * (L.length - i) ≤ 70000 → risP (prevI L i) (L.drop i) →
  F84_l11 n (A ++ (catB (L.drop i) ++ T)) r1 m (A.size : Int) (L.take i) (i : Int) = some (L, ((A ++ catB (L.drop i)).size : Int), 0)
 | 0, i, A, _, h, _, _ => by omega
 | m + 1, i, A, hi, hm, hA, hp => by
  by_cases hlt : i < L.length
  ·have hd := dropS L i hlt
   have hmem : L[i] ∈ L := List.getElem_mem hlt
   have zt := tb_size (hT _ hmem)
   have zr : (catB (L.drop (i + 1))).size ≤ 280 * (L.length - (i + 1)) := by
    have := catB_size (L.drop (i + 1)) (fun t ht => hT t (List.mem_of_mem_drop ht))
    simpa using this
   rw [hd] at hp
   obtain ⟨hp1, hp2⟩ := hp
   have st := some_step hn L hL hT hW r1 h1 m i A (catB (L.drop (i + 1)) ++ T) hlt (by omega) (by rw [ba_size]; omega) hp1
   have ih := some_back T hTl m (i + 1) (A ++ tb L[i]) (by omega) (by omega) (by rw [ba_size]; omega) (by rw [prevS L i hlt]; exact hp2)
   rw [hd, catB]
   have e1 : A ++ (tb L[i] ++ catB (L.drop (i + 1)) ++ T) = A ++ (tb L[i] ++ (catB (L.drop (i + 1)) ++ T)) := by simp only [ba_assoc]
   have e2 : A ++ (tb L[i] ++ catB (L.drop (i + 1))) = A ++ tb L[i] ++ catB (L.drop (i + 1)) := by simp only [ba_assoc]
   rw [e1, st, ih, e2]
  ·have : i = L.length := by omega
   subst this
   unfold F84_l11
   rw [if_neg (by rw [decide_eq_true_eq, h1]; omega), List.drop_length, List.take_length]
   simp only [catB, ba_nil_r]
end
def wB : List Command → ByteArray
 | [] => ByteArray.empty
 | c :: l => byC c ++ wB l
def hB : List Hand → ByteArray
 | [] => ByteArray.empty
 | h :: l => (pu h.Cell ++ pu h.To) ++ hB l
def frame (B : ByteArray) : ByteArray := tx B ++ toldB (sumN B)
def bodyN (x : Note) : ByteArray := pu x.From ++ pu x.Beat ++ (allB x.Moved).1 ++ (allB x.Given).1 ++ pu (x.Hands.length : Int) ++ hB x.Hands ++ pu (x.Watch.length : Int) ++ wB x.Watch
theorem wB_size : ∀ (l : List Command), (∀ c ∈ l, isC c = true) → (wB l).size ≤ 198 * l.length
 | [], _ => Nat.le_refl _
 | c :: l, h => by
  have h1 := byC_size (isC_in (h c List.mem_cons_self))
  have h2 := wB_size l (fun d hd => h d (List.mem_cons_of_mem _ hd))
  rw [wB, ba_size, List.length_cons]; omega
theorem hB_size : ∀ (l : List Hand), (hB l).size ≤ 20 * l.length
 | [] => Nat.le_refl _
 | h :: l => by
  have h1 := pu_size h.Cell
  have h3 := pu_size h.To
  have h2 := hB_size l
  rw [hB, ba_size, ba_size, List.length_cons]; omega
theorem okC_is {l : List Command} (h : l.all okC = true) : ∀ c ∈ l, isC c = true := by
 intro c hc
 have := List.all_eq_true.1 h c hc
 unfold okC at this
 rw [Bool.and_eq_true] at this
 exact this.1
theorem nx_w {n : Nat} (hn : 60000 ≤ n) (x : Note) (hl : x.Watch.length ≤ 30) (hw : x.Watch.all okC = true) : ∀ (m i : Nat) (s : ByteArray), i ≤ x.Watch.length → x.Watch.length - i < m → 1 ≤ s.size → s.size + 198 * (x.Watch.length - i) ≤ 30000 →
  F9_l27 n x m (i : Int) (bytesL s) = some (frame (s ++ wB (x.Watch.drop i)), 0)
 | 0, i, _, _, h, _, _ => by omega
 | m + 1, i, s, hi, hm, h1, hs => by
  unfold F9_l27
  by_cases hlt : i < x.Watch.length
  ·have hc : isC x.Watch[i] = true := okC_is hw _ (List.getElem_mem hlt)
   have hz := byC_size (isC_in hc)
   rw [if_pos (lt_dec hlt), ixg x.Watch i hlt]
   simp only [Option.bind_some, bytes_is (by omega : 10 ≤ n) hc]
   rw [bldAdd_s (by omega)]
   simp only [Option.bind_some]
   rw [dsucc (by simp only [maxLen]; omega)]
   have hb := ba_size s (byC x.Watch[i])
   have ih := nx_w hn x hl hw m (i + 1) (s ++ byC x.Watch[i]) (by omega) (by omega) (by omega) (by omega)
   rw [ih, dropS x.Watch i hlt, wB, ba_assoc]
  ·rw [if_neg (by rw [ge_dec hlt]; decide), List.drop_of_length_le (by omega), wB, ba_nil_r]
   unfold bldLen
   rw [bytesL_len, bldStr_s h1]
   simp only [Option.bind_some]
   rw [if_neg (by simp; omega), wrapB_eq (by omega) (by omega) (by omega) (tx_eq' (by omega) (by omega))]
   rfl
theorem nx_h {n : Nat} (hn : 60000 ≤ n) (x : Note) (hl : x.Watch.length ≤ 30) (hw : x.Watch.all okC = true) (hh : x.Hands.length ≤ 30) : ∀ (m i : Nat) (s : ByteArray), i ≤ x.Hands.length → x.Hands.length - i < m → 1 ≤ s.size → s.size + 20 * (x.Hands.length - i) ≤ 20000 →
  F9_l14 n x m (i : Int) (bytesL s) = some (frame (s ++ hB (x.Hands.drop i) ++ pu (x.Watch.length : Int) ++ wB x.Watch), 0)
 | 0, i, _, _, h, _, _ => by omega
 | m + 1, i, s, hi, hm, h1, hs => by
  unfold F9_l14
  by_cases hlt : i < x.Hands.length
  ·have p1 := pu_size x.Hands[i].Cell
   have p2 := pu_size x.Hands[i].To
   have hb := ba_size (pu x.Hands[i].Cell) (pu x.Hands[i].To)
   have hb2 := ba_size s (pu x.Hands[i].Cell ++ pu x.Hands[i].To)
   rw [if_pos (lt_dec hlt), ixg x.Hands i hlt]
   simp only [Option.bind_some, pu_eq (by omega : 10 ≤ n)]
   rw [if_pos (by omega), bldAdd_s (by omega)]
   simp only [Option.bind_some]
   rw [dsucc (by simp only [maxLen]; omega)]
   have ih := nx_h hn x hl hw hh m (i + 1) (s ++ (pu x.Hands[i].Cell ++ pu x.Hands[i].To)) (by omega) (by omega) (by omega) (by omega)
   rw [ih, dropS x.Hands i hlt, hB]
   simp only [ba_assoc]
  ·have p1 := pu_size (x.Watch.length : Int)
   have hb := ba_size s (pu (x.Watch.length : Int))
   rw [if_neg (by rw [ge_dec hlt]; decide), List.drop_of_length_le (by omega), hB, ba_nil_r]
   simp only [Option.bind_some, pu_eq (by omega : 10 ≤ n)]
   rw [bldAdd_s (by omega)]
   simp only [Option.bind_some]
   have := nx_w hn x hl hw (n + 8) 0 (s ++ pu (x.Watch.length : Int)) (by omega) (by omega) (by omega) (by omega)
   rw [List.drop_zero] at this
   exact this
structure Small (x : Note) : Prop where
 m : x.Moved.length ≤ 30
 g : x.Given.length ≤ 30
 h : x.Hands.length ≤ 20
 w : x.Watch.length ≤ 24
theorem nx_eq {n : Nat} (hn : 60000 ≤ n) {x : Note} (S : Small x) (hi : isNt 4 x = true) : F9 n x = some (frame (bodyN x), 0) := by
 obtain ⟨h1, h2, h3, h4⟩ := S
 have L : Lens n x := ⟨by omega, by omega, by omega, by omega, by omega⟩
 unfold F9
 have e4 : imin 4 4 = 4 := by decide
 rw [is_note L, e4, Option.bind_some, hi]
 have hw : x.Watch.all okC = true := by
  simp only [isNt, Bool.and_eq_true] at hi
  exact hi.2.2.2.2.2.2.2.2
 simp only [Bool.not_true, Bool.false_eq_true, if_false, all_eq (by omega : 300 ≤ n), pu_eq (by omega : 10 ≤ n), Option.bind_some]
 have a1 := allB_size x.Moved
 have a2 := allB_size x.Given
 have p1 := pu_size x.From
 have p2 := pu_size x.Beat
 have p3 := pu_size (x.Hands.length : Int)
 have s1 := ba_size (pu x.From) (pu x.Beat)
 have s2 := ba_size (pu x.From ++ pu x.Beat) (allB x.Moved).1
 have s3 := ba_size (pu x.From ++ pu x.Beat ++ (allB x.Moved).1) (allB x.Given).1
 have s4 := ba_size (pu x.From ++ pu x.Beat ++ (allB x.Moved).1 ++ (allB x.Given).1) (pu (x.Hands.length : Int))
 rw [if_pos (by omega), if_pos (by omega), if_pos (by omega), if_pos (by omega)]
 have hb := bldAdd_s (a := ByteArray.empty) (b := pu x.From ++ pu x.Beat ++ (allB x.Moved).1 ++ (allB x.Given).1 ++ pu (x.Hands.length : Int)) (by show 0 + _ ≤ _; omega)
 have he : bytesL ByteArray.empty = [] := rfl
 rw [he, ba_nil] at hb
 rw [hb, Option.bind_some]
 have := nx_h hn x (by omega) hw (by omega) (n + 8) 0 _ (by omega) (by omega) (by omega) (by omega : (pu x.From ++ pu x.Beat ++ (allB x.Moved).1 ++ (allB x.Given).1 ++ pu (x.Hands.length : Int)).size + 20 * (x.Hands.length - 0) ≤ 20000)
 rw [List.drop_zero] at this
 exact this
theorem bodyN_size {x : Note} (S : Small x) (hw : x.Watch.all okC = true) : (bodyN x).size ≤ 22500 := by
 obtain ⟨h1, h2, h3, h4⟩ := S
 have a1 := allB_size x.Moved
 have a2 := allB_size x.Given
 have p1 := pu_size x.From
 have p2 := pu_size x.Beat
 have p3 := pu_size (x.Hands.length : Int)
 have p4 := pu_size (x.Watch.length : Int)
 have b1 := hB_size x.Hands
 have b2 := wB_size x.Watch (okC_is hw)
 unfold bodyN
 simp only [ba_size]
 omega
theorem allR_ok : ∀ (l : List Thing) (p : Option Int) (s : ByteArray), okR p l = true → allR p l s = (s ++ catB l, 0) ∧ (∀ t ∈ l, isTh t = true) ∧ risP p l
 | [], p, s, _ => ⟨by unfold allR catB; rw [ba_nil_r], by simp, trivial⟩
 | t :: l, p, s, h => by
  rw [okR, Bool.and_eq_true] at h
  obtain ⟨h1, h2⟩ := h
  unfold okRt at h1
  rw [Bool.and_eq_true] at h1
  obtain ⟨e1, e2, e3⟩ := allR_ok l (some t.ID) (s ++ tb t) h2
  have hp : ∀ q, p = some q → q < t.ID := by
   rintro q rfl
   have := h1.2
   simp only [Bool.not_eq_true', decide_eq_false_iff_not] at this
   omega
  refine ⟨?_, ?_, hp, e3⟩
  ·unfold allR catB
   rw [if_neg (by rw [h1.1]; decide)]
   cases p with
   | none => simp only; rw [e1, ba_assoc]
   | some q =>
    have := hp q rfl
    simp only
    rw [if_neg (by omega), e1, ba_assoc]
  ·intro u hu
   rcases List.mem_cons.1 hu with rfl | hu
   ·exact h1.1
   ·exact e2 u hu
theorem allB_ok {l : List Thing} (hl : l.length ≤ 200) (h : okR none l = true) : allB l = (pu (l.length : Int) ++ catB l, 0) := by
 unfold allB
 rw [if_neg (by omega)]
 exact (allR_ok l none _ h).1
theorem nb_f : (((0 : Int) != 0) : Bool) = false := rfl
theorem took_ok (n : Nat) (s : ByteArray) {a k : Int} (h : -9223372036854775808 ≤ a + k ∧ a + k ≤ 9223372036854775807) : F73 n ⟨s, a, false⟩ k 0 = some ⟨s, a + k, false⟩ := by
 unfold F73
 simp only [Bool.false_eq_true, if_false, nb_f]
 rw [w64 h.1 h.2]
theorem num_rd {n : Nat} (hn : 10 ≤ n) {s A R : ByteArray} {v most : Int} (e : s = A ++ (pu v ++ R)) (h0 : 0 ≤ v) (h1 : v ≤ most) (hm : v ≤ 1000000000000) (hs : s.size ≤ 90000) :
  F70 n ⟨s, (A.size : Int), false⟩ most = some (v, ⟨s, ((A ++ pu v).size : Int), false⟩) := by
 have hp : pu v = pt v := pu_small h0 (by omega)
 have hz : s.size = A.size + (pu v ++ R).size := by rw [e, ba_size]
 have hx : s.extract A.size s.size = pu v ++ R := by rw [e]; exact ext_app _ _
 have hpz := pu_size v
 have hz2 : (pu v ++ R).size = (pu v).size + R.size := ba_size _ _
 unfold F70
 have et : ((A.size : Int)).toNat = A.size := rfl
 simp only [Bool.false_eq_true, if_false]
 rw [if_pos ⟨by omega, by omega⟩, et, hx, hp, get_pt n hn v h0 (by omega) R (by rw [← hp]; omega), Option.bind_some]
 dsimp only
 rw [took_ok n s (by rw [← hp]; omega), Option.bind_some]
 have c : decide (most < v) = false := by rw [decide_eq_false_iff_not]; omega
 simp only [c, Bool.false_eq_true, if_false]
 rw [w64 (by omega) (by omega), ba_size]
 push_cast
 rfl
theorem ths_rd {n : Nat} (hn : 1000 ≤ n) {s A R : ByteArray} {l : List Thing} (hl : l.length ≤ 30) (e : s = A ++ ((pu (l.length : Int) ++ catB l) ++ R)) (hT : ∀ t ∈ l, isTh t = true) (hW : ∀ t ∈ l, t.wf) (hR : risP none l) (hs : s.size ≤ 22500) :
  F71 n ⟨s, (A.size : Int), false⟩ = some (l, ⟨s, ((A ++ (pu (l.length : Int) ++ catB l)).size : Int), false⟩) := by
 have hp : pu (l.length : Int) = pt (l.length : Int) := pu_small (by omega) (by omega)
 have hz : s.size = A.size + ((pu (l.length : Int) ++ catB l) ++ R).size := by rw [e, ba_size]
 have hx : s.extract A.size s.size = (pu (l.length : Int) ++ catB l) ++ R := by rw [e]; exact ext_app _ _
 have hpz := pu_size (l.length : Int)
 have cz := catB_size l hT
 have hz2 : ((pu (l.length : Int) ++ catB l) ++ R).size = (pu (l.length : Int)).size + (catB l).size + R.size := by rw [ba_size, ba_size]
 have c200 : decide ((200 : Int) < (l.length : Int)) = false := by rw [decide_eq_false_iff_not]; omega
 have some1 : F84 n ((pu (l.length : Int) ++ catB l) ++ R) = some (l, ((pu (l.length : Int) ++ catB l).size : Int), 0) := by
  have gs := get_pt n (by omega) (l.length : Int) (by omega) (by omega) (catB l ++ R) (by rw [← hp, ba_size, ba_size]; omega)
  have bk := some_back (n := n) (by omega) l (by omega) hT hW ((l.length : Int), ((pu (l.length : Int)).size : Int), 0) rfl R (by omega) (n + 8) 0 (pu (l.length : Int)) (by omega) (by omega) (by omega) (by rw [prev0]; exact hR)
  unfold F84
  rw [ba_assoc, hp, gs, ← hp]
  simp only [Option.bind_some, nb_f, Bool.false_eq_true, if_false, c200]
  simpa using bk
 unfold F71
 have et : ((A.size : Int)).toNat = A.size := rfl
 simp only [Bool.false_eq_true, if_false]
 rw [if_pos ⟨by omega, by omega⟩, et, hx, some1, Option.bind_some]
 dsimp only
 have hq : (pu (l.length : Int) ++ catB l).size = (pu (l.length : Int)).size + (catB l).size := ba_size _ _
 rw [took_ok n s (by omega), Option.bind_some, ba_size A]
 push_cast
 rfl
theorem takeN {α : Type} (l : List α) (i : Nat) (h : i < l.length) : l.take i ++ [l[i]] = l.take (i + 1) := by
 rw [List.take_add_one, List.getElem?_eq_getElem h]; rfl
theorem wat_rd {n : Nat} (hn : 1000 ≤ n) {s : ByteArray} (hs : s.size ≤ 90000) (W : List Command) (hW : W.length ≤ 30) (hC : ∀ c ∈ W, isC c = true) (hN : ∀ c ∈ W, NR c) (r1 r2 : Int × Reader) (r3 r4 : List Thing × Reader) (H : List Hand) (r31 : Int × Reader) (h31 : r31.1 = (W.length : Int)) :
  ∀ (m i : Nat) (A R : ByteArray), i ≤ W.length → W.length - i < m → s = A ++ (wB (W.drop i) ++ R) → ∃ a, F42_l41 n r1 r2 r3 r4 H r31 m ⟨s, (A.size : Int), false⟩ (i : Int) (W.take i) = some (⟨r1.1, r2.1, r3.1, H, r4.1, W⟩, ⟨s, a, false⟩)
 | 0, i, _, _, _, h, _ => by omega
 | m + 1, i, A, R, hi, hm, e => by
  unfold F42_l41
  by_cases hlt : i < W.length
  ·rw [dropS W i hlt, wB, ba_assoc] at e
   have hc := hC _ (List.getElem_mem hlt)
   have hz : s.size = A.size + (byC W[i] ++ (wB (W.drop (i + 1)) ++ R)).size := by rw [e, ba_size]
   have hx : s.extract A.size s.size = byC W[i] ++ (wB (W.drop (i + 1)) ++ R) := by rw [e]; exact ext_app _ _
   have hz2 : (byC W[i] ++ (wB (W.drop (i + 1)) ++ R)).size = (byC W[i]).size + (wB (W.drop (i + 1)) ++ R).size := ba_size _ _
   have et : ((A.size : Int)).toNat = A.size := rfl
   have ht : (W.take i).length = i := by rw [List.length_take]; omega
   rw [if_pos (by rw [decide_eq_true_eq, h31]; omega)]
   simp only [Bool.false_eq_true, if_false]
   rw [if_pos ⟨by omega, by omega⟩, et, hx, readC_back (by omega) (by omega) hc (hN _ (List.getElem_mem hlt)) ⟨_, rfl⟩, Option.bind_some]
   dsimp only
   rw [took_ok n s (by omega), Option.bind_some, if_pos (by rw [ht]; simp only [maxCells]; omega), takeN W i hlt, dsucc (by simp only [maxLen]; omega)]
   have ez : (A.size : Int) + ((byC W[i]).size : Int) = ((A ++ byC W[i]).size : Int) := by rw [ba_size]; push_cast; rfl
   simp only [ez]
   exact wat_rd hn hs W hW hC hN r1 r2 r3 r4 H r31 h31 m (i + 1) (A ++ byC W[i]) R (by omega) (by omega) (by rw [ba_assoc]; exact e)
  ·have hi2 : i = W.length := by omega
   rw [if_neg (by rw [decide_eq_true_eq, h31]; omega), hi2, List.take_length]
   exact ⟨_, rfl⟩
theorem han_rd {n : Nat} (hn : 1000 ≤ n) {s : ByteArray} (hs : s.size ≤ 90000) (H : List Hand) (hH : H.length ≤ 30) (hC : ∀ h ∈ H, (0 ≤ h.Cell ∧ h.Cell ≤ 16) ∧ (0 ≤ h.To ∧ h.To ≤ 4)) (W : List Command) (hW : W.length ≤ 20) (hWC : ∀ c ∈ W, isC c = true) (hWN : ∀ c ∈ W, NR c) (r1 r2 : Int × Reader) (r3 r4 : List Thing × Reader) (r5 : Int × Reader) (h5 : r5.1 = (H.length : Int)) :
  ∀ (m i : Nat) (A : ByteArray), i ≤ H.length → H.length - i < m → s = A ++ (hB (H.drop i) ++ (pu (W.length : Int) ++ wB W)) → ∃ a, F42_l15 n r1 r2 r3 r4 r5 m ⟨s, (A.size : Int), false⟩ (i : Int) (H.take i) = some (⟨r1.1, r2.1, r3.1, H, r4.1, W⟩, ⟨s, a, false⟩)
 | 0, i, _, _, h, _ => by omega
 | m + 1, i, A, hi, hm, e => by
  unfold F42_l15
  by_cases hlt : i < H.length
  ·rw [dropS H i hlt, hB] at e
   simp only [ba_assoc] at e
   have hc := hC _ (List.getElem_mem hlt)
   have ht : (H.take i).length = i := by rw [List.length_take]; omega
   rw [if_pos (by rw [decide_eq_true_eq, h5]; omega)]
   simp only [Bool.false_eq_true, if_false]
   rw [num_rd (by omega) e hc.1.1 hc.1.2 (by omega) hs, Option.bind_some]
   have e2 : s = (A ++ pu H[i].Cell) ++ (pu H[i].To ++ (hB (H.drop (i + 1)) ++ (pu (W.length : Int) ++ wB W))) := by rw [e]; simp only [ba_assoc]
   rw [num_rd (by omega) e2 hc.2.1 hc.2.2 (by omega) hs, Option.bind_some]
   rw [if_pos (by rw [ht]; simp only [maxCells]; omega), dsucc (by simp only [maxLen]; omega)]
   have e3 : s = (A ++ pu H[i].Cell ++ pu H[i].To) ++ (hB (H.drop (i + 1)) ++ (pu (W.length : Int) ++ wB W)) := by rw [e]; simp only [ba_assoc]
   have ih := han_rd hn hs H hH hC W hW hWC hWN r1 r2 r3 r4 r5 h5 m (i + 1) _ (by omega) (by omega) e3
   have ek : H.take i ++ [(⟨H[i].Cell, H[i].To⟩ : Hand)] = H.take (i + 1) := takeN H i hlt
   rw [← ek] at ih
   exact ih
  ·have hi2 : i = H.length := by omega
   subst hi2
   rw [if_neg (by rw [decide_eq_true_eq, h5]; omega), List.take_length]
   rw [List.drop_length, hB, ba_nil] at e
   rw [num_rd (by omega) e (by omega) (by omega) (by omega) hs, Option.bind_some]
   have e2 : s = (A ++ pu (W.length : Int)) ++ (wB (W.drop 0) ++ ByteArray.empty) := by rw [e, List.drop_zero, ba_nil_r, ba_assoc]
   have := wat_rd hn hs W (by omega) hWC hWN r1 r2 r3 r4 H ((W.length : Int), ⟨s, ((A ++ pu (W.length : Int)).size : Int), false⟩) rfl (n + 8) 0 _ _ (by omega) (by omega) e2
   exact this
theorem okHs_in (f : Int) : ∀ (l : List Hand) (p : Option Int), okHs f 4 p l = true → ∀ h ∈ l, (0 ≤ h.Cell ∧ h.Cell ≤ 16) ∧ (0 ≤ h.To ∧ h.To ≤ 4)
 | [], _, _, h, hm => by cases hm
 | x :: l, p, hh, h, hm => by
  rw [okHs, Bool.and_eq_true] at hh
  rcases List.mem_cons.1 hm with rfl | hm
  ·have h1 := hh.1
   simp only [okH, isCell, Bool.and_eq_true, Bool.not_eq_true', decide_eq_false_iff_not, decide_eq_true_eq] at h1
   omega
  ·exact okHs_in f l _ hh.2 h hm
structure Wf (x : Note) : Prop where
 m : ∀ t ∈ x.Moved, t.wf
 g : ∀ t ∈ x.Given, t.wf
 w : ∀ c ∈ x.Watch, NR c
theorem note_rd {n : Nat} (hn : 1000 ≤ n) {x : Note} (S : Small x) (V : Wf x) (hi : isNt 4 x = true) (hz : (bodyN x).size ≤ 22500) : ∃ a, F42 n ⟨bodyN x, 0, false⟩ = some (x, ⟨bodyN x, a, false⟩) := by
 simp only [isNt, Bool.and_eq_true, Bool.not_eq_true', decide_eq_false_iff_not, thOk, okTs_split, decide_eq_true_eq] at hi
 obtain ⟨g1, g2, g3, g4, g5, g6, ⟨⟨g7, _⟩, g8⟩, ⟨⟨g9, _⟩, g10⟩, g11⟩ := hi
 have q16 := okHs_16 g6
 obtain ⟨_, m2, m3⟩ := allR_ok x.Moved none ByteArray.empty g7
 obtain ⟨_, v2, v3⟩ := allR_ok x.Given none ByteArray.empty g9
 have hm := allB_ok (by omega) g7
 have hg := allB_ok (by omega) g9
 have hw := okC_is g11
 obtain ⟨S1, S2, S3, S4⟩ := S
 have e0 : bodyN x = ByteArray.empty ++ (pu x.From ++ (pu x.Beat ++ ((pu (x.Moved.length : Int) ++ catB x.Moved) ++ ((pu (x.Given.length : Int) ++ catB x.Given) ++ (pu (x.Hands.length : Int) ++ (hB x.Hands ++ (pu (x.Watch.length : Int) ++ wB x.Watch))))))) := by
  unfold bodyN
  rw [hm, hg, ba_nil]
  simp only [ba_assoc]
 generalize bodyN x = s at e0 hz ⊢
 unfold F42
 have z0 : (0 : Int) = ((ByteArray.empty).size : Int) := rfl
 have r1 := num_rd (n := n) (by omega) e0 (by omega) (by omega : x.From ≤ 4) (by omega) (by omega)
 rw [← z0] at r1
 rw [r1, Option.bind_some]
 have e1 : s = (ByteArray.empty ++ pu x.From) ++ (pu x.Beat ++ ((pu (x.Moved.length : Int) ++ catB x.Moved) ++ ((pu (x.Given.length : Int) ++ catB x.Given) ++ (pu (x.Hands.length : Int) ++ (hB x.Hands ++ (pu (x.Watch.length : Int) ++ wB x.Watch)))))) := by rw [e0]; simp only [ba_assoc]
 generalize ByteArray.empty ++ pu x.From = A1 at e1 ⊢
 simp only
 rw [num_rd (n := n) (by omega) e1 (by omega) (by omega : x.Beat ≤ 1073741824) (by omega) (by omega), Option.bind_some]
 have e2 : s = (A1 ++ pu x.Beat) ++ ((pu (x.Moved.length : Int) ++ catB x.Moved) ++ ((pu (x.Given.length : Int) ++ catB x.Given) ++ (pu (x.Hands.length : Int) ++ (hB x.Hands ++ (pu (x.Watch.length : Int) ++ wB x.Watch))))) := by rw [e1]; simp only [ba_assoc]
 generalize A1 ++ pu x.Beat = A2 at e2 ⊢
 simp only
 rw [ths_rd hn S1 e2 m2 V.m m3 (by omega), Option.bind_some]
 have e3 : s = (A2 ++ (pu (x.Moved.length : Int) ++ catB x.Moved)) ++ ((pu (x.Given.length : Int) ++ catB x.Given) ++ (pu (x.Hands.length : Int) ++ (hB x.Hands ++ (pu (x.Watch.length : Int) ++ wB x.Watch)))) := by rw [e2]; simp only [ba_assoc]
 generalize A2 ++ (pu (x.Moved.length : Int) ++ catB x.Moved) = A3 at e3 ⊢
 simp only
 rw [ths_rd hn S2 e3 v2 V.g v3 (by omega), Option.bind_some]
 have e4 : s = (A3 ++ (pu (x.Given.length : Int) ++ catB x.Given)) ++ (pu (x.Hands.length : Int) ++ (hB x.Hands ++ (pu (x.Watch.length : Int) ++ wB x.Watch))) := by rw [e3]; simp only [ba_assoc]
 generalize A3 ++ (pu (x.Given.length : Int) ++ catB x.Given) = A4 at e4 ⊢
 simp only
 rw [num_rd (n := n) (by omega) e4 (by omega) (by omega : (x.Hands.length : Int) ≤ 16) (by omega) (by omega), Option.bind_some]
 have e5 : s = (A4 ++ pu (x.Hands.length : Int)) ++ (hB (x.Hands.drop 0) ++ (pu (x.Watch.length : Int) ++ wB x.Watch)) := by rw [e4]; simp only [ba_assoc, List.drop_zero]
 simp only
 obtain ⟨a, ha⟩ := han_rd hn (s := s) (by omega) x.Hands (by omega) (okHs_in _ _ _ g6) x.Watch (by omega) hw V.w (x.From, ⟨s, (A1.size : Int), false⟩) (x.Beat, ⟨s, (A2.size : Int), false⟩) (x.Moved, ⟨s, (A3.size : Int), false⟩) (x.Given, ⟨s, (A4.size : Int), false⟩) ((x.Hands.length : Int), ⟨s, ((A4 ++ pu (x.Hands.length : Int)).size : Int), false⟩) rfl (n + 8) 0 _ (by omega) (by omega) e5
 exact ⟨a, ha⟩
theorem i64_of {x : Int} (h : (Lit.int .i64 x).wf = true) : I64 x := by
 simp [Lit.wf, IntKind.min, IntKind.max, IntKind.bits, IntKind.signed] at h; unfold I64; omega
theorem nr_wf {c : Command} (h : Command.wf c) : NR c := by
 obtain ⟨_, _, _, _, _, hf, hv, _⟩ := h
 exact ⟨i64_of hf.1.1, i64_of hf.2.1.1, i64_of hf.2.2.1.1, i64_of hf.2.2.2.1, i64_of hv.1⟩
theorem wf_of {x : Note} (h : Note.wf x) : Wf x := by
 obtain ⟨_, _, hm, _, hg, hc⟩ := h
 exact ⟨hm.1, hg.1, fun c hc' => nr_wf (hc.1 c hc')⟩
theorem ext_pre (a b : ByteArray) : (a ++ b).extract 0 a.size = a := by
 have := ext_mid ByteArray.empty a b
 rw [ba_nil] at this
 simpa using this
theorem toList_refl (a : ByteArray) : (a.toList == a.toList) = true := (toList_eq a a).2 rfl
theorem frame_size (B : ByteArray) : (frame B).size = (tx B).size + 4 := by rw [frame, ba_size, toldB_size]
def zN : Note := ⟨0, 0, [], [], [], []⟩
theorem watch_all {x : Note} (hi : isNt 4 x = true) : x.Watch.all okC = true := by
 simp only [isNt, Bool.and_eq_true] at hi
 exact hi.2.2.2.2.2.2.2.2
theorem nb_no {n : Nat} {x : Note} (S : Small x) (hn : 60000 ≤ n) (hi : isNt 4 x = false) : F9 n x = some (ByteArray.empty, 11) := by
 obtain ⟨h1, h2, h3, h4⟩ := S
 have L : Lens n x := ⟨by omega, by omega, by omega, by omega, by omega⟩
 have e4 : imin 4 4 = 4 := by decide
 unfold F9
 rw [is_note L, e4, Option.bind_some, hi]
 rfl
theorem read_good {n : Nat} (hn : 60000 ≤ n) {x : Note} (S : Small x) (V : Wf x) (hi : isNt 4 x = true) {t : ByteArray} (ht : t.size ≤ 50) : F14 n (frame (bodyN x) ++ t) = some (x, ((frame (bodyN x)).size : Int), 0) := by
 have hz := bodyN_size S (watch_all hi)
 have hf := frame_size (bodyN x)
 have h1 := tx_size (bodyN x)
 have e : frame (bodyN x) ++ t = tx (bodyN x) ++ (toldB (sumN (bodyN x)) ++ t) := by rw [frame, ba_assoc]
 obtain ⟨a, ha⟩ := note_rd (n := n) (by omega) S V hi hz
 unfold F14
 rw [e, open_eq hn (by omega) (toldB_size _) (by omega), if_pos (toList_refl _), ← e]
 simp only [Option.bind_some, nb_f, Bool.false_eq_true, if_false, ha, nx_eq hn S hi]
 have hs := ba_size (frame (bodyN x)) t
 have et : (((tx (bodyN x)).size : Int) + 4).toNat = (frame (bodyN x)).size := by omega
 rw [if_pos (by omega), et, ext_pre, toList_refl]
 simp only [Bool.not_true, Bool.false_eq_true, if_false]
 have hf' : ((tx (bodyN x)).size : Int) + 4 = ((frame (bodyN x)).size : Int) := by omega
 rw [hf']
theorem read_cut' {n : Nat} (hn : 60000 ≤ n) {B Q : ByteArray} (hB : B.size ≤ 40000) (h : Cut Q (frame B)) : F14 n Q = some (zN, 0, 10) := by
 unfold F14
 rw [open_cut hn hB (toldB_size _) h]
 rfl
theorem read_bad {n : Nat} (hn : 60000 ≤ n) {B T t : ByteArray} (hB : B.size ≤ 40000) (hT : T.size = 4) (ht : t.size ≤ 50) (h : T ≠ toldB (sumN B)) : F14 n (tx B ++ (T ++ t)) = some (zN, 0, 12) := by
 have c : (T.toList == (toldB (sumN B)).toList) = false := by
  cases hc : (T.toList == (toldB (sumN B)).toList) with
  | false => rfl
  | true => exact absurd ((toList_eq _ _).1 hc) h
 unfold F14
 rw [open_eq hn hB hT (by omega), c]
 rfl
theorem flip_fin : ∀ b : Fin 256, ∀ k : Fin 8, bitsI .xor .u8 (b.val : Int) (shlI .u8 1 (k.val : Int)) ≠ (b.val : Int) ∧ 0 ≤ bitsI .xor .u8 (b.val : Int) (shlI .u8 1 (k.val : Int)) ∧ bitsI .xor .u8 (b.val : Int) (shlI .u8 1 (k.val : Int)) < 256 := by decide +kernel
theorem set_split {l : List Int} {j : Nat} (h : j < l.length) (b : Int) : l.set j b = l.take j ++ b :: l.drop (j + 1) := by
 rw [List.set_eq_take_append_cons_drop, if_pos h]
theorem get_split {l : List Int} {j : Nat} (h : j < l.length) : l = l.take j ++ l[j] :: l.drop (j + 1) := by
 rw [List.getElem_cons_drop, List.take_append_drop]
theorem byt_set {l : List Int} (hl : Byt l) {j : Nat} {b : Int} (hb : 0 ≤ b ∧ b < 256) : Byt (l.set j b) := by
 intro c hc
 rcases List.mem_or_eq_of_mem_set hc with h | rfl
 ·exact hl c h
 ·exact hb
theorem byt_take {l : List Int} (hl : Byt l) (j : Nat) : Byt (l.take j) := fun c hc => hl c (List.mem_of_mem_take hc)
theorem byt_drop {l : List Int} (hl : Byt l) (j : Nat) : Byt (l.drop j) := fun c hc => hl c (List.mem_of_mem_drop hc)
theorem flip_bad {n : Nat} (hn : 60000 ≤ n) {B t : ByteArray} (hB : B.size ≤ 30000) (ht : t.size ≤ 50) {j : Nat} (hj : j < B.size + 4) {b : Int} (hb : 0 ≤ b ∧ b < 256) (hne : (bytesL (B ++ toldB (sumN B))).getD j 0 ≠ b) :
  F14 n (mkStr ((bytesL (frame B)).set ((pu (B.size : Int)).size + j) b) ++ t) = some (zN, 0, 12) := by
 have hT := toldB_size (sumN B)
 have hlB := bytesL_len B
 have hlT := bytesL_len (toldB (sumN B))
 have hlp := bytesL_len (pu (B.size : Int))
 have e1 : bytesL (frame B) = bytesL (pu (B.size : Int)) ++ (bytesL B ++ bytesL (toldB (sumN B))) := by
  rw [frame, tx, bytesL_app, bytesL_app, List.append_assoc]
 have e2 : (bytesL (frame B)).set ((pu (B.size : Int)).size + j) b = bytesL (pu (B.size : Int)) ++ (bytesL B ++ bytesL (toldB (sumN B))).set j b := by
  rw [e1, List.set_append_right _ _ (by omega)]
  congr 2; omega
 rw [e2, mkStr_app, mk_bytes]
 rw [bytesL_app] at hne
 by_cases hjB : j < B.size
 ·have e3 : (bytesL B ++ bytesL (toldB (sumN B))).set j b = (bytesL B).set j b ++ bytesL (toldB (sumN B)) := List.set_append_left _ _ (by omega)
  have hjl : j < (bytesL B).length := by omega
  have hBy := byt_set (byt_bytes B) (j := j) hb
  have hz : (mkStr ((bytesL B).set j b)).size = B.size := by rw [mkStr_size, List.length_set, hlB]
  have e4 : pu (B.size : Int) ++ mkStr ((bytesL B).set j b ++ bytesL (toldB (sumN B))) ++ t = tx (mkStr ((bytesL B).set j b)) ++ (toldB (sumN B) ++ t) := by
   rw [mkStr_app, mk_bytes, tx, hz]
   simp only [ba_assoc]
  rw [e3, e4]
  refine read_bad hn (by omega) hT ht (fun h => ?_)
  have h5 := toldB_inj (sumN_lt _) (sumN_lt _) h
  unfold sumN at h5
  have h6 := xor_inj h5
  rw [bytesL_mk _ hBy, set_split hjl] at h6
  have h7 : (bytesL B)[j] ≠ b := by
   intro h8
   apply hne
   rw [List.getD_eq_getElem?_getD, List.getElem?_append_left hjl, List.getElem?_eq_getElem hjl]
   exact h8
  have hbj := byt_bytes B _ (List.getElem_mem hjl)
  refine crcN_ne (byt_take (byt_bytes B) j) (byt_drop (byt_bytes B) (j + 1)) hbj hb h7 (x := 4294967295) (by omega) ?_
  rw [← get_split hjl]
  exact h6
 ·have e3 : (bytesL B ++ bytesL (toldB (sumN B))).set j b = bytesL B ++ (bytesL (toldB (sumN B))).set (j - B.size) b := by
   rw [List.set_append_right _ _ (by omega), hlB]
  have hjl : j - B.size < (bytesL (toldB (sumN B))).length := by omega
  have hz : (mkStr ((bytesL (toldB (sumN B))).set (j - B.size) b)).size = 4 := by rw [mkStr_size, List.length_set, hlT, hT]
  have e4 : pu (B.size : Int) ++ mkStr (bytesL B ++ (bytesL (toldB (sumN B))).set (j - B.size) b) ++ t = tx B ++ (mkStr ((bytesL (toldB (sumN B))).set (j - B.size) b) ++ t) := by
   rw [mkStr_app, mk_bytes, tx]
   simp only [ba_assoc]
  rw [e3, e4]
  refine read_bad hn (by omega) hz ht (fun h => ?_)
  have h5 := congrArg bytesL h
  rw [bytesL_mk _ (byt_set (byt_bytes _) hb)] at h5
  have h6 := congrArg (fun l => l.getD (j - B.size) 0) h5
  simp only [List.getD_eq_getElem?_getD, List.getElem?_set_self hjl] at h6
  apply hne
  rw [List.getD_eq_getElem?_getD, List.getElem?_append_right (by omega), hlB]
  exact h6.symm
theorem u16_b {a : Int} (h : (Lit.int .u16 a).wf = true) : 0 ≤ a ∧ a < 65536 := by
 simp [Lit.wf, IntKind.min, IntKind.max, IntKind.bits, IntKind.signed] at h; omega
theorem u8_b {a : Int} (h : (Lit.int .u8 a).wf = true) : 0 ≤ a ∧ a < 256 := by
 simp [Lit.wf, IntKind.min, IntKind.max, IntKind.bits, IntKind.signed] at h; omega
theorem tmod_in {a k : Int} (ha : 0 ≤ a) (hk : 0 < k) : 0 ≤ Int.tmod a k ∧ Int.tmod a k < k := by
 have e : Int.tmod a k = a % k := Int.tmod_eq_emod_of_nonneg ha
 have h2 := Int.emod_nonneg a (by omega : k ≠ 0)
 have h3 := Int.emod_lt_of_pos a hk
 omega
theorem back_j10 {n : Nat} (hn : 60000 ≤ n) {B a2 : ByteArray} (hB : B.size ≤ 30000) (ht : a2.size ≤ 50) {a3 a4 a5 e : Int} (h3 : 0 ≤ a3 ∧ a3 < 65536) (h4 : 0 ≤ a4 ∧ a4 < 256) (h5 : 0 ≤ a5 ∧ a5 < 256) :
  F4_j10 n a2 a3 a4 a5 (frame B, e) = some true := by
 have hf := frame_size B
 have h1 := tx_size B
 have hp := pu_size (B.size : Int)
 have htx : (tx B).size = (pu (B.size : Int)).size + B.size := by rw [tx, ba_size]
 have w3 : IntKind.wrap .i64 a3 = a3 := w64 (by omega) (by omega)
 have w5 : IntKind.wrap .i64 a5 = a5 := w64 (by omega) (by omega)
 have m5 := tmod_in h5.1 (by omega : (0 : Int) < ((frame B).size : Int))
 unfold F4_j10
 dsimp only
 rw [w5, w3, if_pos (by omega), if_pos (by omega)]
 have hc := cut_extract (frame B) (Int.tmod a5 ((frame B).size : Int)).toNat (by omega)
 rw [read_cut' hn (by omega) hc, Option.bind_some]
 have gp : F83 n (frame B) = some ((B.size : Int), ((pu (B.size : Int)).size : Int), 0) := by
  have e : frame B = pt (B.size : Int) ++ (B ++ toldB (sumN B)) := by
   rw [frame, tx, pu_small (by omega) (by omega), ba_assoc]
  rw [e, get_pt n (by omega) (B.size : Int) (by omega) (by omega) (B ++ toldB (sumN B)) (by rw [← e]; omega), pu_small (by omega) (by omega)]
 obtain ⟨r, q1, q2, _⟩ := get_eq n (frame B) (by omega) (by omega)
 have hr : r = ((B.size : Int), ((pu (B.size : Int)).size : Int), 0) := Option.some.inj (q1.symm.trans gp)
 rw [q2, hr, Option.bind_some]
 have wd : IntKind.wrap .i64 (((frame B).size : Int) - ((pu (B.size : Int)).size : Int)) = (B.size : Int) + 4 := by rw [w64 (by omega) (by omega)]; omega
 dsimp only
 have m3 := tmod_in h3.1 (by omega : (0 : Int) < (B.size : Int) + 4)
 have m4 := tmod_in h4.1 (by omega : (0 : Int) < 8)
 have wi : IntKind.wrap .i64 (((pu (B.size : Int)).size : Int) + Int.tmod a3 ((B.size : Int) + 4)) = (((pu (B.size : Int)).size + (Int.tmod a3 ((B.size : Int) + 4)).toNat : Nat) : Int) := by
  rw [w64 (by omega) (by omega)]; push_cast; omega
 rw [wd, if_pos (by omega), wi]
 have hj : (Int.tmod a3 ((B.size : Int) + 4)).toNat < B.size + 4 := by omega
 generalize (Int.tmod a3 ((B.size : Int) + 4)).toNat = j at hj ⊢
 have hl := bytesL_len (frame B)
 have hjl : (pu (B.size : Int)).size + j < (bytesL (frame B)).length := by omega
 rw [ixg _ _ hjl, Option.bind_some, if_pos (by omega), Option.bind_some, Int.toNat_natCast]
 obtain ⟨k, hk⟩ := byte_in (frame B) _ hjl
 obtain ⟨q, hq⟩ : ∃ q : Fin 8, Int.tmod a4 8 = (q.val : Int) := ⟨⟨(Int.tmod a4 8).toNat, by omega⟩, by simp; omega⟩
 have ff := flip_fin k q
 rw [hq, hk]
 generalize bitsI .xor .u8 (k.val : Int) (shlI .u8 1 (q.val : Int)) = b at ff ⊢
 have hne : (bytesL (B ++ toldB (sumN B))).getD j 0 ≠ b := by
  have e1 : bytesL (frame B) = bytesL (pu (B.size : Int)) ++ bytesL (B ++ toldB (sumN B)) := by
   rw [frame, tx, ba_assoc, bytesL_app]
  have e2 : (bytesL (frame B)).getD ((pu (B.size : Int)).size + j) 0 = (bytesL (B ++ toldB (sumN B))).getD j 0 := by
   rw [e1, List.getD_eq_getElem?_getD, List.getElem?_append_right (by rw [bytesL_len]; omega), bytesL_len, List.getD_eq_getElem?_getD]
   congr 2; omega
  rw [← e2, List.getD_eq_getElem?_getD, List.getElem?_eq_getElem hjl, Option.getD_some, hk]
  exact fun h => ff.1 h.symm
 rw [if_pos (by rw [mkStr_size, List.length_set]; omega), flip_bad hn hB ht hj ff.2 hne, Option.bind_some]
 rfl
theorem noteBack_pure (a0 a1 : Note) (a2 : ByteArray) (a3 a4 a5 : Int) (h0 : Note.wf a0) (h1 : Note.wf a1) (_ : a2.size ≤ maxLen) (h3 : (Lit.int .u16 a3).wf = true) (h4 : (Lit.int .u8 a4).wf = true) (h5 : (Lit.int .u8 a5).wf = true) : ∃ n, F4 n a0 a1 a2 a3 a4 a5 = some true := by
 refine ⟨(a0.Moved.length + a0.Given.length + a0.Watch.length) + (a1.Moved.length + a1.Given.length + a1.Watch.length) + 100000, ?_⟩
 obtain ⟨b, hb, hl⟩ := fewN (n := (a0.Moved.length + a0.Given.length + a0.Watch.length) + (a1.Moved.length + a1.Given.length + a1.Watch.length) + 100000) h0 (by omega) (by omega) (by omega)
 obtain ⟨c, hc, hl1⟩ := fewN (n := (a0.Moved.length + a0.Given.length + a0.Watch.length) + (a1.Moved.length + a1.Given.length + a1.Watch.length) + 100000) h1 (by omega) (by omega) (by omega)
 have hn : 100000 ≤ (a0.Moved.length + a0.Given.length + a0.Watch.length) + (a1.Moved.length + a1.Given.length + a1.Watch.length) + 100000 := by omega
 generalize (a0.Moved.length + a0.Given.length + a0.Watch.length) + (a1.Moved.length + a1.Given.length + a1.Watch.length) + 100000 = n at *
 unfold F4
 simp only [Option.bind_some, Bool.not_true, Bool.false_eq_true, if_false, hb]
 cases b with
 | false => rfl
 | true =>
  simp only [Option.bind_some, Bool.not_true, Bool.false_eq_true, if_false, hc]
  cases c with
  | false => rfl
  | true =>
   obtain ⟨q1, q2, q3, q4⟩ := hl rfl
   obtain ⟨p1, p2, p3, p4⟩ := hl1 rfl
   have L : Lens n a0 := ⟨by omega, by omega, by omega, by omega, by omega⟩
   have S0 : Small a0 := ⟨q1, q2, q3, q4⟩
   have S1 : Small a1 := ⟨p1, p2, p3, p4⟩
   have i4 : imin 4 4 = 4 := by decide
   simp only [Bool.not_true, Bool.false_eq_true, if_false, is_note L, i4, Option.bind_some]
   by_cases ht : 50 < (a2.size : Int)
   ·simp [ht]
   have ht' : a2.size ≤ 50 := by omega
   rw [if_neg (by simpa using ht)]
   cases hi : isNt 4 a0 with
   | false => rfl
   | true =>
    have hz := bodyN_size S0 (watch_all hi)
    have hf := frame_size (bodyN a0)
    have hx := tx_size (bodyN a0)
    have e0 : (((0 : Int) != 0)) = false := rfl
    rw [nx_eq (by omega) S0 hi]
    simp only [Bool.not_true, Bool.false_eq_true, if_false, Option.bind_some, e0]
    rw [if_pos (by omega), read_good (by omega) S0 (wf_of h0) hi ht', Option.bind_some]
    dsimp only
    obtain ⟨r, e3, e4⟩ := rsame_note (b := a0) L
    have hr : r = true := e4.2 rfl
    subst hr
    have j10 := fun e => back_j10 (n := n) (by omega) (B := bodyN a0) (a2 := a2) (e := e) (by omega) ht' (u16_b h3) (u8_b h4) (u8_b h5)
    have nlt : ¬ (decide (((frame (bodyN a0)).size : Int) < 5)) = true := by rw [decide_eq_true_eq]; omega
    have nne : ¬ ((((frame (bodyN a0)).size : Int) != ((frame (bodyN a0)).size : Int)) = true) := by simp
    cases hi1 : isNt 4 a1 with
    | false =>
     rw [nb_no S1 (by omega) hi1, Option.bind_some]
     simp only [e0, Bool.false_eq_true, if_false]
     rw [if_neg nne, e3, Option.bind_some, if_neg (by decide), if_neg nlt, if_neg (by decide)]
     exact j10 0
    | true =>
     rw [nx_eq (by omega) S1 hi1, Option.bind_some]
     simp only [e0, Bool.false_eq_true, if_false]
     rw [if_neg nne, e3, Option.bind_some, if_neg (by decide), if_neg nlt, if_pos (by decide)]
     obtain ⟨r', e5, e6⟩ := rsame_note (b := a1) L
     rw [e5, Option.bind_some]
     have hq : (((frame (bodyN a0)).toList == (frame (bodyN a1)).toList) == r') = true := by
      have g0 := read_good (n := n) (t := ByteArray.empty) (by omega) S0 (wf_of h0) hi (by decide)
      have g1 := read_good (n := n) (t := ByteArray.empty) (by omega) S1 (wf_of h1) hi1 (by decide)
      have key : ((frame (bodyN a0)).toList == (frame (bodyN a1)).toList) = r' := by
       rw [Bool.eq_iff_iff, e6, toList_eq]
       constructor
       ·intro h
        rw [h, g1] at g0
        exact (congrArg Prod.fst (Option.some.inj g0)).symm
       ·rintro rfl; rfl
      rw [key]; simp
     rw [if_neg (by rw [hq]; decide)]
     exact j10 0
end Go.Proofs.Ytpjejnefegdoeaa
