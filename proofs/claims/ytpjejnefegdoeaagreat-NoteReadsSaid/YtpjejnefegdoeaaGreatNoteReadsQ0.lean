/- No condition. -/
import Derived.Test.YtpjejnefegdoeaaGreatNoteReadsV
import Derived.Test.YtpjejnefegdoeaaGreatNoteReadsP1
namespace Go.Proofs.YtpjejnefegdoeaaGreat
open Go Go.Rx
set_option maxRecDepth 100000
set_option linter.unusedVariables false
set_option linter.unusedSimpArgs false
set_option linter.unnecessarySimpa false
set_option linter.unnecessarySimpa false
theorem Point.eqb_iff (x y : Point) : Point.eqb x y = true ↔ x = y := by
 cases x; cases y; simp [Point.eqb]
theorem Field.eqb_iff (x y : Field) : Field.eqb x y = true ↔ x = y := by
 cases x; cases y; simp [Field.eqb, ba_beq]
theorem A4_Field.eqb_iff (x y : A4 Field) : A4_Field.eqb x y = true ↔ x = y := by
 cases x; cases y; simp [A4_Field.eqb, Field.eqb_iff]
theorem Thing.eqb_iff (x y : Thing) : Thing.eqb x y = true ↔ x = y := by
 cases x; cases y; simp [Thing.eqb, Point.eqb_iff, A4_Field.eqb_iff]
def noP : Point := ⟨0, 0⟩
def noF : Field := ⟨0, ByteArray.empty⟩
def hs (m i : Int) : Bool := bitsI .and .u8 (shrI .u8 m i) 1 == 1
theorem has0 (n : Nat) (m : Int) : F93 n m 0 = some (hs m 1) := rfl
theorem has1 (n : Nat) (m : Int) : F93 n m 1 = some (hs m 2) := rfl
theorem has2 (n : Nat) (m : Int) : F93 n m 2 = some (hs m 3) := rfl
theorem has3 (n : Nat) (m : Int) : F93 n m 3 = some (hs m 4) := rfl
def isF (f : Field) : Bool := if f.N == 0 then decide ((f.Text.size : Int) ≤ 12) else if f.Text.toList == ByteArray.empty.toList then decide ((f.Text.size : Int) ≤ 12) else false
theorem isF_eq (n : Nat) (f : Field) : F61 n f = some (isF f) := by
 unfold F61 isF
 split
 ·rfl
 ·split <;> rfl
def okF (f : Field) (e : Bool) : Bool := isF f && (e || Field.eqb f noF)
def on (p : Point) : Bool := if decide ((0 : Int) ≤ p.X) then if decide (p.X < 64) then if decide ((0 : Int) ≤ p.Y) then decide (p.Y < 64) else false else false else false
theorem on_eq (n : Nat) (p : Point) : F87 n p = some (on p) := by
 unfold F87 on
 split
 ·split
  ·split <;> rfl
  ·rfl
 ·rfl
def a1 (d : Delta) : Bool := (bitsI .and .u8 d.Mask 1) != 0
def fl4 (d : Delta) : Bool := okF d.F.a0 (hs d.Mask 1) && (okF d.F.a1 (hs d.Mask 2) && (okF d.F.a2 (hs d.Mask 3) && okF d.F.a3 (hs d.Mask 4)))
def isD (d : Delta) : Bool := !(decide (d.ID < 0)) && (!(decide ((1000000 : Int) < d.ID)) && (!(d.Mask == 0) && (!(decide ((31 : Int) < d.Mask)) && ((a1 d || Point.eqb d.At noP) && (on d.At && fl4 d)))))
theorem isd_fin (f : Field) (e : Bool) (o : Option Bool) (b : Bool) (ho : o = some b) : (if (!(isF f)) = true then some false else if (!e) = true then if (!(Field.eqb f ⟨0, ByteArray.empty⟩)) = true then some false else o else o) = some (okF f e && b) := by
 subst ho
 have : Field.eqb f ⟨0, ByteArray.empty⟩ = Field.eqb f noF := rfl
 rw [this]
 unfold okF
 cases isF f <;> cases e <;> cases Field.eqb f noF <;> simp
theorem isd_l (n : Nat) (d : Delta) : F92_j3 n d = some (fl4 d) := by
 have s3 : F92_u12 n d = some (okF d.F.a3 (hs d.Mask 4) && true) := by
  unfold F92_u12
  simp only [isF_eq, has3, Option.bind_some]
  exact isd_fin _ _ _ _ rfl
 have s2 : F92_u9 n d = some (okF d.F.a2 (hs d.Mask 3) && (okF d.F.a3 (hs d.Mask 4) && true)) := by
  unfold F92_u9
  simp only [isF_eq, has2, Option.bind_some]
  exact isd_fin _ _ _ _ s3
 have s1 : F92_u6 n d = some (okF d.F.a1 (hs d.Mask 2) && (okF d.F.a2 (hs d.Mask 3) && (okF d.F.a3 (hs d.Mask 4) && true))) := by
  unfold F92_u6
  simp only [isF_eq, has1, Option.bind_some]
  exact isd_fin _ _ _ _ s2
 have s0 : F92_j3 n d = some (okF d.F.a0 (hs d.Mask 1) && (okF d.F.a1 (hs d.Mask 2) && (okF d.F.a2 (hs d.Mask 3) && (okF d.F.a3 (hs d.Mask 4) && true)))) := by
  unfold F92_j3
  simp only [isF_eq, has0, Option.bind_some]
  exact isd_fin _ _ _ _ s1
 rw [s0]
 simp [fl4]
theorem isD_eq (n : Nat) (d : Delta) : F92 n d = some (isD d) := by
 unfold F92
 have hl := isd_l n d
 have ep : Point.eqb d.At (Point.mk 0 0) = Point.eqb d.At noP := rfl
 simp only [on_eq, Option.bind_some, hl, isD, a1, ep, bne]
 by_cases h1 : d.ID < 0
 ·simp [h1]
 ·by_cases h2 : 1000000 < d.ID
  ·simp [h1, h2]
  ·by_cases h3 : d.Mask = 0
   ·simp [h1, h2, h3]
   ·by_cases h4 : 31 < d.Mask
    ·simp [h1, h2, h3, h4]
    ·cases h5 : (bitsI .and .u8 d.Mask 1 == 0) <;> cases h6 : Point.eqb d.At noP <;> cases h7 : on d.At <;> simp [h1, h2, h3, h4, h5, h6, h7]
theorem shr7 (x : Int) : shrI .u64 x 7 = x / 128 := by
 show Int.fdiv x 128 = x / 128
 exact Int.fdiv_eq_ediv_of_nonneg x (by decide)
theorem wrap_u64 (x : Int) : IntKind.wrap .u64 x = x % 18446744073709551616 := by simp [IntKind.wrap, IntKind.bits, IntKind.signed]
theorem wrap_u8 (x : Int) : IntKind.wrap .u8 x = x % 256 := by simp [IntKind.wrap, IntKind.bits, IntKind.signed]
theorem and127 {x : Int} (h0 : 0 ≤ x) (h1 : x < 18446744073709551616) : bitsI .and .u64 x 127 = x % 128 := by
 obtain ⟨k, rfl⟩ := Int.eq_ofNat_of_zero_le h0
 have e1 : (BitVec.ofInt 64 (k : Int)).toNat = k := by simp; omega
 have e2 : (BitVec.ofInt 64 (127 : Int)).toNat = 127 := rfl
 have e3 : k &&& 127 = k % 128 := Nat.and_two_pow_sub_one_eq_mod k 7
 show IntKind.wrap .u64 (((BitVec.ofInt 64 (k : Int) &&& BitVec.ofInt 64 (127 : Int)).toNat : Nat) : Int) = _
 rw [BitVec.toNat_and, e1, e2, e3, wrap_u64]
 omega
def ch (x : Int) : Int := bitsI .or .u8 (IntKind.wrap .u8 x) 128
theorem ch_fin : ∀ k : Fin 256, bitsI .or .u8 ((k.val : Int) % 128) 128 = bitsI .or .u8 (k.val : Int) 128 := by decide +kernel
theorem ch_ref {x : Int} (h0 : 0 ≤ x) (h1 : x < 18446744073709551616) : bitsI .or .u8 (IntKind.wrap .u8 (bitsI .and .u64 x 127)) 128 = ch x := by
 rw [and127 h0 h1, ch, wrap_u8, wrap_u8]
 have := ch_fin ⟨(x % 256).toNat, by omega⟩
 simp only at this
 have e : (((x % 256).toNat : Nat) : Int) = x % 256 := by omega
 rw [e] at this
 rw [← this]
 congr 1
 omega
theorem push_data (l : List Int) : ∀ s : ByteArray, (l.foldl (fun r n => r.push (UInt8.ofNat n.toNat)) s).data = s.data ++ (l.map fun n => UInt8.ofNat n.toNat).toArray := by
 induction l with
 | nil => intro s; simp
 | cons a l ih => intro s; simp only [List.foldl_cons, ih, List.map_cons]; cases s; simp [ByteArray.push]
theorem mkStr_data (l : List Int) : (mkStr l).data = (l.map fun n => UInt8.ofNat n.toNat).toArray := by
 unfold mkStr
 rw [push_data]
 show (#[] : Array UInt8) ++ _ = _
 simp
theorem mkStr_size (l : List Int) : (mkStr l).size = l.length := by
 show (mkStr l).data.size = _
 rw [mkStr_data]; simp
theorem ba_ext {a b : ByteArray} (h : a.data = b.data) : a = b := by cases a; cases b; simp only at h; rw [h]
theorem mkStr_app (a b : List Int) : mkStr (a ++ b) = mkStr a ++ mkStr b := by
 apply ba_ext
 rw [ByteArray.data_append, mkStr_data, mkStr_data, mkStr_data]; simp
theorem ba_assoc (a b c : ByteArray) : a ++ b ++ c = a ++ (b ++ c) := by
 apply ba_ext
 simp [ByteArray.data_append, Array.append_assoc]
theorem ba_size (a b : ByteArray) : (a ++ b).size = a.size + b.size := by
 show (a ++ b).data.size = _
 rw [ByteArray.data_append, Array.size_append]
 rfl
theorem ba_nil (a : ByteArray) : ByteArray.empty ++ a = a := by
 apply ba_ext
 rw [ByteArray.data_append]
 show (#[] : Array UInt8) ++ _ = _
 simp
def putL : Nat → Int → List Int
 | 0, _ => []
 | k + 1, x => if 128 ≤ x then ch x :: putL k (x / 128) else [IntKind.wrap .u8 x]
theorem putL_len : ∀ (k : Nat) (x : Int), (putL (k + 1) x).length ≤ k + 1 ∧ 1 ≤ (putL (k + 1) x).length
 | 0, x => by unfold putL; split <;> simp [putL]
 | k + 1, x => by
  have := putL_len k (x / 128)
  unfold putL
  split
  ·simp only [List.length_cons]; omega
  ·simp
theorem pow10 {x : Int} (h : x < 18446744073709551616) : x < 128 ^ 10 := by
 have : (128 : Int) ^ 10 = 1180591620717411303424 := by decide
 rw [this]; omega
def pt (x : Int) : ByteArray := mkStr (putL 10 x)
theorem pt_size (x : Int) : (pt x).size ≤ 10 ∧ 1 ≤ (pt x).size := by
 rw [pt, mkStr_size]; exact putL_len 9 x
theorem u64_in (x : Int) : 0 ≤ IntKind.wrap .u64 x ∧ IntKind.wrap .u64 x < 18446744073709551616 := by rw [wrap_u64]; omega
def pu (x : Int) : ByteArray := pt (IntKind.wrap .u64 x)
theorem pu_size (x : Int) : (pu x).size ≤ 10 ∧ 1 ≤ (pu x).size := pt_size _
def tx (s : ByteArray) : ByteArray := pu (s.size : Int) ++ s
theorem tx_size (s : ByteArray) : (tx s).size ≤ 10 + s.size ∧ 1 + s.size ≤ (tx s).size := by
 have := pu_size (s.size : Int)
 rw [tx, ba_size]; omega
theorem xor_in (a b : Int) : 0 ≤ bitsI .xor .u64 a b ∧ bitsI .xor .u64 a b < 18446744073709551616 := u64_in _
def zg (x : Int) : ByteArray := pt (bitsI .xor .u64 (shlI .u64 (IntKind.wrap .u64 x) 1) (IntKind.wrap .u64 (shrI .i64 x 63)))
def isE (s : ByteArray) : Bool := s.toList == ByteArray.empty.toList
def stage (s : ByteArray) (f : Field) (e : Bool) : ByteArray := if e then (if isE f.Text then s ++ tx f.Text ++ zg f.N else s ++ tx f.Text) else s
theorem stage_size (s : ByteArray) (f : Field) (e : Bool) (h : f.Text.size ≤ 40) : (stage s f e).size ≤ s.size + 60 := by
 have := tx_size f.Text
 have := pt_size (bitsI .xor .u64 (shlI .u64 (IntKind.wrap .u64 f.N) 1) (IntKind.wrap .u64 (shrI .i64 f.N 63)))
 have hz : (zg f.N).size ≤ 10 := this.1
 unfold stage
 split
 ·split
  ·rw [ba_size, ba_size]; omega
  ·rw [ba_size]; omega
 ·omega
def head (d : Delta) : ByteArray := if a1 d then (pu d.ID ++ pu d.Mask) ++ (pu d.At.X ++ pu d.At.Y) else pu d.ID ++ pu d.Mask
def body (s : ByteArray) (d : Delta) : ByteArray := stage (stage (stage (stage s d.F.a0 (hs d.Mask 1)) d.F.a1 (hs d.Mask 2)) d.F.a2 (hs d.Mask 3)) d.F.a3 (hs d.Mask 4)
def Few (d : Delta) : Prop := d.F.a0.Text.size ≤ 40 ∧ d.F.a1.Text.size ≤ 40 ∧ d.F.a2.Text.size ≤ 40 ∧ d.F.a3.Text.size ≤ 40
theorem head_size (d : Delta) : (head d).size ≤ 40 := by
 have p1 := pu_size d.ID; have p2 := pu_size d.Mask; have p3 := pu_size d.At.X; have p4 := pu_size d.At.Y
 unfold head
 split
 ·rw [ba_size, ba_size, ba_size]; omega
 ·rw [ba_size]; omega
theorem and_fin : ∀ k : Fin 256, bitsI .andNot .u8 k.val 128 = bitsI .and .u8 k.val 127 ∧ (k.val < 128 → bitsI .and .u8 k.val 127 = k.val) := by decide +kernel
theorem or_in (a b : Int) : 0 ≤ bitsI .or .u64 a b ∧ bitsI .or .u64 a b < 18446744073709551616 := u64_in _
theorem byte_in (s : ByteArray) (i : Nat) (h : i < (bytesL s).length) : ∃ k : Fin 256, (bytesL s)[i] = (k.val : Int) := by
 simp only [bytesL, List.getElem_map]
 exact ⟨⟨_, UInt8.toNat_lt _⟩, rfl⟩
theorem ixb (s : ByteArray) (i : Nat) (h : i < (bytesL s).length) : ix (bytesL s) (i : Int) = some (bytesL s)[i] := by
 unfold ix; rw [if_neg (by omega)]; simp [h]
theorem w64 {n : Int} (h : -9223372036854775808 ≤ n) (h' : n ≤ 9223372036854775807) : IntKind.wrap .i64 n = n := by
 simp [IntKind.wrap, IntKind.bits, IntKind.signed]; omega
def GetR (s : ByteArray) (r : Int × Int × Int) : Prop := (r.2.2 = 0 ∧ 1 ≤ r.2.1 ∧ r.2.1 ≤ (s.size : Int) ∧ 0 ≤ r.1 ∧ r.1 < 18446744073709551616) ∨ (r.2.2 ≠ 0 ∧ r.1 = 0 ∧ r.2.1 = 0)
theorem get_l (n : Nat) (s : ByteArray) (hs : s.size ≤ 100000) : ∀ (m i : Nat) (acc : Int), i ≤ s.size → s.size - i < m → ∃ r, F82_l7 n s m acc (i : Int) = some r ∧ F48_l7 n s m acc (i : Int) = some r ∧ GetR s r
 | 0, i, acc, _, h => by omega
 | m + 1, i, acc, h1, h2 => by
  have hl : (bytesL s).length = s.size := bytesL_len s
  unfold F82_l7 F48_l7
  by_cases hi : i < s.size
  ·have hd : decide ((i : Int) < ((bytesL s).length : Int)) = true := by rw [hl]; simp; omega
   have hd' : decide ((i : Int) < (s.size : Int)) = true := by simp; omega
   obtain ⟨k, hk⟩ := byte_in s i (by omega)
   obtain ⟨a1, a2⟩ := and_fin k
   have ex := ixb s i (by omega)
   rw [hk] at ex
   have w7 : IntKind.wrap .i64 (7 * (i : Int)) = 7 * i := w64 (by omega) (by omega)
   have w7u : IntKind.wrap .u64 (7 * (i : Int)) = 7 * i := by rw [wrap_u64]; omega
   have w1 : IntKind.wrap .i64 ((i : Int) + 1) = ((i + 1 : Nat) : Int) := by rw [w64 (by omega) (by omega)]; push_cast; rfl
   have g7 : ¬ (7 * (i : Int) < 0) := by omega
   have ne : (((i + 1 : Nat) : Int) == 0) = false := by simp; omega
   obtain ⟨r, q1, q2, q3⟩ := get_l n s hs m (i + 1) (bitsI .or .u64 acc (shlI .u64 (IntKind.wrap .u64 (bitsI .and .u8 k.val 127)) (7 * (i : Int)))) (by omega) (by omega)
   have core : ∃ r, F82_j9 n acc (i : Int) (k.val : Int) (F82_l7 n s m) = some r ∧ F48_j9 n acc (i : Int) (k.val : Int) (F48_l7 n s m) = some r ∧ GetR s r := by
    unfold F82_j9 F48_j9 F82_j10 F48_j10 F82_j13
    simp only [w7, w7u, w1, g7, not_false_eq_true, if_true, ne, Bool.false_eq_true, if_false, a1]
    by_cases hx : (k.val : Int) < 128
    ·have e2 := a2 (by omega)
     simp only [hx, decide_true, if_true, e2]
     by_cases h0 : (0 : Int) < i
     ·by_cases hz : (k.val : Int) = 0
      ·simp only [h0, decide_true, if_true, hz, beq_self_eq_true]
       exact ⟨_, rfl, rfl, .inr ⟨by decide, rfl, rfl⟩⟩
      ·have hz' : ((k.val : Int) == 0) = false := by simp; omega
       simp only [h0, decide_true, if_true, hz', Bool.false_eq_true, if_false]
       exact ⟨_, rfl, rfl, .inl ⟨rfl, by simp only; omega, by simp only; omega, (or_in _ _).1, (or_in _ _).2⟩⟩
     ·simp only [h0, decide_false, Bool.false_eq_true, if_false, ite_self]
      exact ⟨_, rfl, rfl, .inl ⟨rfl, by simp only; omega, by simp only; omega, (or_in _ _).1, (or_in _ _).2⟩⟩
    ·have hz' : ((k.val : Int) == 0) = false := by simp; omega
     simp only [hx, decide_false, Bool.false_eq_true, if_false, hz', ite_self]
     exact ⟨r, q1, q2, q3⟩
   simp only [hd, hd', if_true, ex, Option.bind_some]
   by_cases h9 : ((i : Int) == 9) = true
   ·by_cases hx : (1 : Int) < k.val
    ·simp only [h9, hx, decide_true, if_true]
     exact ⟨_, rfl, rfl, .inr ⟨by decide, rfl, rfl⟩⟩
    ·simp only [h9, hx, decide_false, Bool.false_eq_true, if_false, if_true]
     exact core
   ·simp only [h9, Bool.false_eq_true, if_false]
    exact core
  ·have hd : decide ((i : Int) < ((bytesL s).length : Int)) = false := by rw [hl]; simp; omega
   have hd' : decide ((i : Int) < (s.size : Int)) = false := by simp; omega
   simp only [hd, hd', Bool.false_eq_true, if_false]
   exact ⟨_, rfl, rfl, .inr ⟨by decide, rfl, rfl⟩⟩
theorem get_eq (n : Nat) (s : ByteArray) (hs : s.size ≤ 100000) (hn : s.size ≤ n) : ∃ r, F82 n s = some r ∧ F48 n s = some r ∧ GetR s r := by
 unfold F82 F48
 exact get_l n s hs (n + 8) 0 0 (by omega) (by omega)
def TxtR (s : ByteArray) (r : ByteArray × Int × Int) : Prop := (r.2.2 = 0 ∧ 1 ≤ r.2.1 ∧ r.2.1 ≤ (s.size : Int)) ∨ (r.2.2 ≠ 0 ∧ r.1 = ByteArray.empty ∧ r.2.1 = 0)
theorem ext_size (s : ByteArray) (a : Int) (h0 : 0 ≤ a) (h1 : a ≤ (s.size : Int)) : ((s.extract a.toNat s.size).size : Int) = s.size - a := by
 rw [ByteArray.size_extract]; omega
theorem bytesL_app (a b : ByteArray) : bytesL (a ++ b) = bytesL a ++ bytesL b := by
 simp [bytesL, ByteArray.data_append]
theorem bytesL_mk (l : List Int) (h : ∀ x ∈ l, 0 ≤ x ∧ x < 256) : bytesL (mkStr l) = l := by
 simp only [bytesL, mkStr_data, List.map_map]
 conv => rhs; rw [← List.map_id l]
 apply List.map_congr_left
 intro x hx
 have := h x hx
 simp; omega
theorem or_add (a b i : Nat) (h : a < 2 ^ i) : a ||| (b * 2 ^ i) = a + b * 2 ^ i := by
 have := Nat.shiftLeft_add_eq_or_of_lt h b
 rw [Nat.shiftLeft_eq] at this
 rw [Nat.or_comm, ← this, Nat.add_comm]
theorem orI {a b : Int} {i : Nat} (h0 : 0 ≤ a) (h1 : a < 2 ^ i) (h2 : 0 ≤ b) (h3 : a + b * 2 ^ i < 18446744073709551616) : bitsI .or .u64 a (b * 2 ^ i) = a + b * 2 ^ i := by
 obtain ⟨m, rfl⟩ := Int.eq_ofNat_of_zero_le h0
 obtain ⟨k, rfl⟩ := Int.eq_ofNat_of_zero_le h2
 have e : ((k : Int) * 2 ^ i) = ((k * 2 ^ i : Nat) : Int) := by push_cast; rfl
 rw [e] at h3 ⊢
 have hm : m < 2 ^ i := by exact_mod_cast h1
 have h3' : m + k * 2 ^ i < 18446744073709551616 := by omega
 have e1 : (BitVec.ofInt 64 (m : Int)).toNat = m := by rw [BitVec.toNat_ofInt]; omega
 have e2 : (BitVec.ofInt 64 ((k * 2 ^ i : Nat) : Int)).toNat = k * 2 ^ i := by
  rw [BitVec.toNat_ofInt]; omega
 show IntKind.wrap .u64 (((BitVec.ofInt 64 (m : Int) ||| BitVec.ofInt 64 ((k * 2 ^ i : Nat) : Int)).toNat : Nat) : Int) = _
 rw [BitVec.toNat_or, e1, e2, or_add m k i hm, wrap_u64]
 omega
theorem shlI_mul {b : Int} {i : Nat} (hi : i ≤ 63) (h0 : 0 ≤ b) (h1 : b * 2 ^ i < 18446744073709551616) : shlI .u64 b (i : Int) = b * 2 ^ i := by
 have e : min ((i : Int).toNat) (IntKind.u64.bits) = i := by simp [IntKind.bits]; omega
 unfold shlI
 rw [e, wrap_u64]
 have : 0 ≤ b * 2 ^ i := Int.mul_nonneg h0 (Int.pow_nonneg (by decide))
 omega
theorem ch_val : ∀ k : Fin 256, bitsI .or .u8 k.val 128 = 128 + (k.val : Int) % 128 ∧ bitsI .andNot .u8 (128 + (k.val : Int) % 128) 128 = (k.val : Int) % 128 := by decide +kernel
theorem ch_is {y : Int} (h : 0 ≤ y) : ch y = 128 + y % 128 ∧ bitsI .andNot .u8 (128 + y % 128) 128 = y % 128 := by
 obtain ⟨h1, h2⟩ := ch_val ⟨(y % 256).toNat, by omega⟩
 have e : (((y % 256).toNat : Nat) : Int) = y % 256 := by omega
 simp only [e] at h1 h2
 have e2 : y % 256 % 128 = y % 128 := by omega
 rw [e2] at h1 h2
 refine ⟨?_, h2⟩
 rw [ch, wrap_u8, h1]
theorem get_pt_l (n : Nat) (s : ByteArray) (hs : s.size ≤ 100000) : ∀ (k m i : Nat) (acc y : Int) (rest : List Int), (bytesL s).drop i = putL k y ++ rest → 1 ≤ k → y < 128 ^ k → 0 ≤ y → 0 ≤ acc → acc < 2 ^ (7 * i) → acc + y * 2 ^ (7 * i) < 18446744073709551616 → (0 < i → 1 ≤ y) → i + k ≤ 10 → k < m →
  F82_l7 n s m acc (i : Int) = some (acc + y * 2 ^ (7 * i), ((i + (putL k y).length : Nat) : Int), 0)
 | 0, _, _, _, _, _, _, h, _, _, _, _, _, _, _, _ => by omega
 | k + 1, 0, _, _, _, _, _, _, _, _, _, _, _, _, _, h => by omega
 | k + 1, m + 1, i, acc, y, rest, hd, _, hy, hy0, ha0, ha, hb, hp, hk, hm => by
  have hl : (bytesL s).length = s.size := bytesL_len s
  have hne : (bytesL s).drop i ≠ [] := by
   rw [hd]; intro h
   have := putL_len k y
   have h2 := congrArg List.length h
   simp only [List.length_append, List.length_nil] at h2
   omega
  have hi : i < (bytesL s).length := by
   apply Nat.lt_of_not_le; intro h; exact hne (List.drop_eq_nil_of_le h)
  have hdr := List.drop_eq_getElem_cons hi
  have ex := ixb s i hi
  have w7 : IntKind.wrap .i64 (7 * (i : Int)) = ((7 * i : Nat) : Int) := by rw [w64 (by omega) (by omega)]; push_cast; rfl
  have w1 : IntKind.wrap .i64 ((i : Int) + 1) = ((i + 1 : Nat) : Int) := by rw [w64 (by omega) (by omega)]; push_cast; rfl
  have g7 : ¬ (((7 * i : Nat) : Int) < 0) := by omega
  have ne : (((i + 1 : Nat) : Int) == 0) = false := by simp; omega
  have hdd : decide ((i : Int) < ((bytesL s).length : Int)) = true := by simp; omega
  have pp : (0 : Int) < 2 ^ (7 * i) := Int.pow_pos (by decide)
  unfold F82_l7
  simp only [hdd, if_true, ex, Option.bind_some]
  by_cases h : 128 ≤ y
  ·obtain ⟨c1, c2⟩ := ch_is hy0
   have hk1 : 1 ≤ k := by
    cases k with
    | zero => simp at hy; omega
    | succ k => omega
   have hpl : putL (k + 1) y = ch y :: putL k (y / 128) := by rw [putL, if_pos h]
   rw [hpl, hdr] at hd
   simp only [List.cons_append, List.cons.injEq] at hd
   have h9 : ((i : Int) == 9) = false := by simp; omega
   have hz : ((128 + y % 128) == 0) = false := by simp; omega
   have hlt : decide (128 + y % 128 < 128) = false := by simp; omega
   have hmod : 0 ≤ y % 128 ∧ y % 128 < 128 := by omega
   have pow : (2 : Int) ^ (7 * (i + 1)) = 2 ^ (7 * i) * 128 := by
    rw [show 7 * (i + 1) = 7 * i + 7 by omega, Int.pow_add]; rfl
   have split : y * 2 ^ (7 * i) = (y % 128) * 2 ^ (7 * i) + y / 128 * 2 ^ (7 * (i + 1)) := by
    rw [pow, ← Int.mul_assoc, Int.mul_right_comm, ← Int.add_mul]
    congr 1; omega
   have hq0 : 0 ≤ y / 128 * 2 ^ (7 * (i + 1)) := Int.mul_nonneg (by omega) (Int.le_of_lt (Int.pow_pos (by decide)))
   have hr0 : 0 ≤ (y % 128) * 2 ^ (7 * i) := Int.mul_nonneg hmod.1 (Int.le_of_lt pp)
   have ws : IntKind.wrap .u64 (y % 128) = y % 128 := by rw [wrap_u64]; omega
   have sh : shlI .u64 (y % 128) ((7 * i : Nat) : Int) = (y % 128) * 2 ^ (7 * i) := shlI_mul (by omega) hmod.1 (by omega)
   have orr : bitsI .or .u64 acc ((y % 128) * 2 ^ (7 * i)) = acc + (y % 128) * 2 ^ (7 * i) := orI ha0 ha hmod.1 (by omega)
   have step : F82_j9 n acc (i : Int) (ch y) (F82_l7 n s m) = F82_l7 n s m (acc + (y % 128) * 2 ^ (7 * i)) ((i + 1 : Nat) : Int) := by
    unfold F82_j9 F82_j10
    simp only [c1, c2, hz, hlt, w7, w1, g7, not_false_eq_true, if_true, Bool.false_eq_true, if_false, ws, sh, orr, ite_self]
   have hrec := get_pt_l n s hs k m (i + 1) (acc + (y % 128) * 2 ^ (7 * i)) (y / 128) rest hd.2 hk1 (by rw [Int.pow_succ] at hy; exact Int.ediv_lt_of_lt_mul (by decide) hy) (by omega) (by omega) (by
    rw [pow]
    have : (y % 128) * 2 ^ (7 * i) ≤ 127 * 2 ^ (7 * i) := Int.mul_le_mul_of_nonneg_right (by omega) (Int.le_of_lt pp)
    omega) (by omega) (by omega) (by omega) (by omega)
   simp only [h9, Bool.false_eq_true, if_false, hd.1]
   rw [step, hrec, hpl, split]
   simp only [List.length_cons, Int.add_assoc]
   congr 3
   omega
  ·have hpl : putL (k + 1) y = [IntKind.wrap .u8 y] := by rw [putL, if_neg h]
   have wy : IntKind.wrap .u8 y = y := by rw [wrap_u8]; omega
   rw [hpl, hdr, wy] at hd
   simp only [List.cons_append, List.cons.injEq, List.nil_append] at hd
   have hlt : decide (y < 128) = true := by simp; omega
   have ws : IntKind.wrap .u64 y = y := by rw [wrap_u64]; omega
   have hr0 : 0 ≤ y * 2 ^ (7 * i) := Int.mul_nonneg hy0 (Int.le_of_lt pp)
   have sh : shlI .u64 y ((7 * i : Nat) : Int) = y * 2 ^ (7 * i) := shlI_mul (by omega) hy0 (by omega)
   have orr : bitsI .or .u64 acc (y * 2 ^ (7 * i)) = acc + y * 2 ^ (7 * i) := orI ha0 ha hy0 hb
   have last : F82_j9 n acc (i : Int) y (F82_l7 n s m) = some (acc + y * 2 ^ (7 * i), ((i + 1 : Nat) : Int), 0) := by
    unfold F82_j9 F82_j10 F82_j13
    simp only [hlt, w7, w1, g7, not_false_eq_true, if_true, ne, Bool.false_eq_true, if_false, ws, sh, orr]
    by_cases h0 : (0 : Int) < i
    ·have hz : (y == 0) = false := by have := hp (by omega); simp; omega
     simp only [h0, decide_true, if_true, hz, Bool.false_eq_true, if_false]
    ·simp only [h0, decide_false, Bool.false_eq_true, if_false]
   rw [hpl, hd.1]
   simp only [List.length_cons, List.length_nil, Nat.zero_add]
   by_cases h9 : ((i : Int) == 9) = true
   ·have hi9 : i = 9 := by simp at h9; omega
    have hy1 : y ≤ 1 := by
     subst hi9
     have : (2 : Int) ^ (7 * 9) = 9223372036854775808 := by decide
     rw [this] at hb
     omega
    have : decide ((1 : Int) < y) = false := by simp; omega
    simp only [h9, if_true, this, Bool.false_eq_true, if_false, last]
   ·simp only [h9, Bool.false_eq_true, if_false, last]
theorem get_pt (n : Nat) (hn : 10 ≤ n) (x : Int) (h0 : 0 ≤ x) (h1 : x < 18446744073709551616) (t : ByteArray) (hs : (pt x ++ t).size ≤ 100000) : F82 n (pt x ++ t) = some (x, ((pt x).size : Int), 0) := by
 unfold F82
 have hb : ∀ (k : Nat) (y : Int), 0 ≤ y → ∀ z ∈ putL k y, 0 ≤ z ∧ z < 256 := by
  intro k
  induction k with
  | zero => intro y _ z hz; simp [putL] at hz
  | succ k ih =>
   intro y hy z hz
   rw [putL] at hz
   split at hz
   ·simp only [List.mem_cons] at hz
    rcases hz with rfl | hz
    ·rw [(ch_is hy).1]; omega
    ·exact ih _ (by omega) z hz
   ·simp only [List.mem_singleton] at hz
    subst hz
    rw [wrap_u8]; omega
 have hd : (bytesL (pt x ++ t)).drop 0 = putL 10 x ++ bytesL t := by
  rw [List.drop_zero, bytesL_app, pt, bytesL_mk _ (hb 10 x h0)]
 have := get_pt_l n (pt x ++ t) hs 10 (n + 8) 0 0 x (bytesL t) hd (by omega) (pow10 h1) h0 (by omega) (by decide) (by simpa using h1) (by omega) (by omega) (by omega)
 rw [show ((0 : Nat) : Int) = 0 from rfl] at this
 rw [this, pt, mkStr_size]
 simp
theorem arr_ext (a b : Array UInt8) : (a ++ b).extract a.size (a.size + b.size) = b := by simp
theorem arr_mid (a b c : Array UInt8) : (a ++ (b ++ c)).extract a.size (a.size + b.size) = b := by simp [Array.extract_append]
theorem ext_app (a b : ByteArray) : (a ++ b).extract a.size (a ++ b).size = b := by
 apply ba_ext
 rw [ByteArray.data_extract, ByteArray.data_append, ba_size]
 exact arr_ext a.data b.data
theorem ext_mid (a b c : ByteArray) : (a ++ (b ++ c)).extract a.size (a.size + b.size) = b := by
 apply ba_ext
 rw [ByteArray.data_extract, ByteArray.data_append, ByteArray.data_append]
 exact arr_mid a.data b.data c.data
theorem pu_small {x : Int} (h0 : 0 ≤ x) (h : x < 18446744073709551616) : pu x = pt x := by
 unfold pu; rw [wrap_u64]; congr 1; omega
def fb (f : Field) : ByteArray := if isE f.Text then tx f.Text ++ zg f.N else tx f.Text
def gb (f : Field) (e : Bool) : ByteArray := if e then fb f else ByteArray.empty
theorem ba_nil_r (a : ByteArray) : a ++ ByteArray.empty = a := by
 apply ba_ext
 rw [ByteArray.data_append]
 show a.data ++ (#[] : Array UInt8) = a.data
 simp
set_option maxHeartbeats 1000000
def g1 (d : Delta) : ByteArray := gb d.F.a1 (hs d.Mask 2)
def g2 (d : Delta) : ByteArray := gb d.F.a2 (hs d.Mask 3)
def g3 (d : Delta) : ByteArray := gb d.F.a3 (hs d.Mask 4)
theorem ixg {α : Type} (l : List α) (i : Nat) (h : i < l.length) : ix l (i : Int) = some l[i] := by
 simp [ix, h]
theorem dsucc {i : Nat} (h : i < maxLen) : IntKind.wrap .i64 ((i : Int) + 1) = ((i + 1 : Nat) : Int) := by
 simp only [maxLen] at h
 simp [IntKind.wrap, IntKind.bits, IntKind.signed]; omega
theorem lt_dec {i n : Nat} (h : i < n) : decide ((i : Int) < (n : Int)) = true := by simp; omega
theorem ge_dec {i n : Nat} (h : ¬ i < n) : decide ((i : Int) < (n : Int)) = false := by simp; omega
theorem dropS {α : Type} (l : List α) (i : Nat) (h : i < l.length) : l.drop i = l[i] :: l.drop (i + 1) := (List.getElem_cons_drop (h := h)).symm
def isTh (t : Thing) : Bool := decide (0 ≤ t.ID) && (decide (t.ID ≤ 1000000) && (on t.At && (isF t.F.a0 && (isF t.F.a1 && (isF t.F.a2 && isF t.F.a3)))))
theorem not_eq (n : Nat) (f : Field) : F91 n f = some (!(isF f)) := by
 unfold F91
 simp only [isF_eq, Option.bind_some]
theorem is_eq (n : Nat) (t : Thing) : F68 n t = some (isTh t) := by
 have hz : ∀ a b c d : Field, F90s0 n [a, b, c, d] = some (!(isF a && (isF b && (isF c && isF d)))) := by
  intro a b c d
  unfold F90s0 F97s0
  unfold F97s0_l4
  have w1 : IntKind.wrap .i64 ((0 : Int) + 1) = 1 := by decide
  have w2 : IntKind.wrap .i64 ((1 : Int) + 1) = 2 := by decide
  have w3 : IntKind.wrap .i64 ((2 : Int) + 1) = 3 := by decide
  have w4 : IntKind.wrap .i64 ((3 : Int) + 1) = 4 := by decide
  have x0 : ix [a, b, c, d] 0 = some a := rfl
  have x1 : ix [a, b, c, d] 1 = some b := rfl
  have x2 : ix [a, b, c, d] 2 = some c := rfl
  have x3 : ix [a, b, c, d] 3 = some d := rfl
  have l0 : decide ((0 : Int) < (([a, b, c, d] : List Field).length : Int)) = true := rfl
  have l1 : decide ((1 : Int) < (([a, b, c, d] : List Field).length : Int)) = true := rfl
  have l2 : decide ((2 : Int) < (([a, b, c, d] : List Field).length : Int)) = true := rfl
  have l3 : decide ((3 : Int) < (([a, b, c, d] : List Field).length : Int)) = true := rfl
  have l4 : decide ((4 : Int) < (([a, b, c, d] : List Field).length : Int)) = false := rfl
  rw [if_pos l0, x0]
  simp only [Option.bind_some, not_eq]
  cases isF a with
  | false => rfl
  | true =>
   simp only [Bool.not_true, Bool.false_eq_true, if_false, Bool.true_and]
   rw [w1]
   unfold F97s0_l4
   rw [if_pos l1, x1]
   simp only [Option.bind_some, not_eq]
   cases isF b with
   | false => rfl
   | true =>
    simp only [Bool.not_true, Bool.false_eq_true, if_false, Bool.true_and]
    rw [w2]
    unfold F97s0_l4
    rw [if_pos l2, x2]
    simp only [Option.bind_some, not_eq]
    cases isF c with
    | false => rfl
    | true =>
     simp only [Bool.not_true, Bool.false_eq_true, if_false, Bool.true_and]
     rw [w3]
     unfold F97s0_l4
     rw [if_pos l3, x3]
     simp only [Option.bind_some, not_eq]
     cases isF d with
     | false => rfl
     | true =>
      simp only [Bool.not_true, Bool.false_eq_true, if_false]
      rw [w4]
      unfold F97s0_l4
      rw [if_neg (by rw [l4]; decide)]
      rfl
 unfold F68 isTh
 rw [hz]
 simp only [on_eq, Option.bind_some, Bool.not_not]
 by_cases h1 : 0 ≤ t.ID
 ·by_cases h2 : t.ID ≤ 1000000
  ·cases h3 : on t.At <;> simp [h1, h2]
  ·simp [h1, h2]
 ·simp [h1]
def full (t : Thing) : Delta := ⟨t.ID, 31, t.At, t.F⟩
theorem text_few {f : Field} (h : isF f = true) : f.Text.size ≤ 12 := by
 unfold isF at h
 split at h
 ·simp at h; omega
 ·split at h
  ·simp at h; omega
  ·cases h
theorem isTh_F {t : Thing} (h : isTh t = true) : isF t.F.a0 = true ∧ isF t.F.a1 = true ∧ isF t.F.a2 = true ∧ isF t.F.a3 = true := by
 unfold isTh at h
 simp only [Bool.and_eq_true] at h
 exact ⟨h.2.2.2.1, h.2.2.2.2.1, h.2.2.2.2.2.1, h.2.2.2.2.2.2⟩
theorem isTh_few {t : Thing} (h : isTh t = true) : Few (full t) := by
 obtain ⟨h0, h1, h2, h3⟩ := isTh_F h
 have := text_few h0; have := text_few h1; have := text_few h2; have := text_few h3
 refine ⟨?_, ?_, ?_, ?_⟩ <;> (unfold full; simp only; omega)
theorem full_is (t : Thing) : isD (full t) = isTh t := by
 have b1 : hs 31 1 = true := by decide +kernel
 have b2 : hs 31 2 = true := by decide +kernel
 have b3 : hs 31 3 = true := by decide +kernel
 have b4 : hs 31 4 = true := by decide +kernel
 have c1 : a1 (full t) = true := by show ((bitsI .and .u8 31 1) != 0) = true; decide +kernel
 unfold isD isTh fl4 okF
 have e : (full t).Mask = 31 := rfl
 rw [c1, e, b1, b2, b3, b4]
 have f1 : (!((31 : Int) == 0)) = true := rfl
 have f2 : (!(decide ((31 : Int) < 31))) = true := rfl
 rw [f1, f2]
 simp only [Bool.true_and, Bool.true_or, Bool.and_true]
 show (!(decide (t.ID < 0)) && (!(decide (1000000 < t.ID)) && (on t.At && (isF t.F.a0 && (isF t.F.a1 && (isF t.F.a2 && isF t.F.a3)))))) = _
 have g1 : (!(decide (t.ID < 0))) = decide (0 ≤ t.ID) := by by_cases h : t.ID < 0 <;> simp [h] <;> omega
 have g2 : (!(decide (1000000 < t.ID))) = decide (t.ID ≤ 1000000) := by by_cases h : 1000000 < t.ID <;> simp [h] <;> omega
 rw [g1, g2]
theorem put_l (n : Nat) : ∀ (k m : Nat) (x : Int) (l : List Int), 1 ≤ k → 0 ≤ x → x < 128 ^ k → k < m → l.length + k ≤ 1000 → F18_l7 n m x l = some (mkStr (l ++ putL k x))
 | 0, m, x, l, hk, h0, h1, _, _ => by omega
 | k + 1, 0, x, l, _, _, _, h, _ => by omega
 | k + 1, m + 1, x, l, _, h0, h1, h2, h3 => by
  have hc : (l.length + 1) * 1 ≤ maxCells ∧ l.length + 1 ≤ maxCells := by simp only [maxCells]; omega
  unfold F18_l7 putL
  by_cases h : 128 ≤ x
  ·have hx : x / 128 < 128 ^ k := by
    rw [Int.pow_succ] at h1
    exact Int.ediv_lt_of_lt_mul (by decide) h1
   simp only [h, decide_true, if_true, if_pos hc, shr7]
   have hk : 1 ≤ k := by
    cases k with
    | zero => simp at h1; omega
    | succ k => omega
   rw [put_l n k m (x / 128) _ hk (by omega) hx (by omega) (by simp only [List.length_append, List.length_cons, List.length_nil]; omega)]
   simp only [List.append_assoc, List.cons_append, List.nil_append]
   rfl
  ·simp only [h, decide_false, Bool.false_eq_true, if_false]
   rw [if_pos hc]
theorem put_eq {n : Nat} (hn : 10 ≤ n) {x : Int} (h0 : 0 ≤ x) (h1 : x < 18446744073709551616) : F18 n x = some (pt x) := by
 unfold F18
 rw [put_l n 10 (n + 8) x [] (by omega) h0 (pow10 h1) (by omega) (by simp)]
 rfl
theorem rput_l (n : Nat) : ∀ (k m : Nat) (x : Int) (s : ByteArray), 1 ≤ k → 0 ≤ x → x < 18446744073709551616 → x < 128 ^ k → k < m → s.size + k ≤ 1000 → F55_l7 n m x s = some (s ++ mkStr (putL k x))
 | 0, m, x, l, hk, h0, _, h1, _, _ => by omega
 | k + 1, 0, x, l, _, _, _, _, h, _ => by omega
 | k + 1, m + 1, x, s, _, h0, hx64, h1, h2, h3 => by
  unfold F55_l7 putL
  by_cases h : 128 ≤ x
  ·have hx : x / 128 < 128 ^ k := by
    rw [Int.pow_succ] at h1
    exact Int.ediv_lt_of_lt_mul (by decide) h1
   have hd : decide (x < 128) = false := by simp; omega
   have hc : s.size + (mkStr [ch x]).size ≤ 9223372036854775807 := by rw [mkStr_size]; simp only [List.length_cons, List.length_nil]; omega
   simp only [hd, Bool.false_eq_true, if_false, ch_ref h0 hx64, if_pos hc, shr7, if_pos h]
   have hk : 1 ≤ k := by
    cases k with
    | zero => simp at h1; omega
    | succ k => omega
   rw [rput_l n k m (x / 128) _ hk (by omega) (by omega) hx (by omega) (by rw [ba_size, mkStr_size]; simp only [List.length_cons, List.length_nil]; omega), ba_assoc, ← mkStr_app]
   rfl
  ·have hd : decide (x < 128) = true := by simp; omega
   have hc : s.size + (mkStr [IntKind.wrap .u8 x]).size ≤ 9223372036854775807 := by rw [mkStr_size]; simp only [List.length_cons, List.length_nil]; omega
   simp only [hd, if_true, if_pos hc, if_neg h]
theorem rput_eq {n : Nat} (hn : 10 ≤ n) {x : Int} (h0 : 0 ≤ x) (h1 : x < 18446744073709551616) : F55 n x = some (pt x) := by
 unfold F55
 rw [rput_l n 10 (n + 8) x ByteArray.empty (by omega) h0 h1 (pow10 h1) (by omega) (by show 0 + 10 ≤ 1000; omega), ba_nil]
 rfl
theorem pu_eq {n : Nat} (hn : 10 ≤ n) (x : Int) : F18 n (IntKind.wrap .u64 x) = some (pu x) := put_eq hn (u64_in x).1 (u64_in x).2
theorem rpu_eq {n : Nat} (hn : 10 ≤ n) (x : Int) : F55 n (IntKind.wrap .u64 x) = some (pu x) := rput_eq hn (u64_in x).1 (u64_in x).2
theorem tx_eq {n : Nat} (hn : 10 ≤ n) {s : ByteArray} (h : s.size ≤ 1000) : F45 n s = some (tx s) := by
 unfold F45
 have := pu_size (s.size : Int)
 rw [pu_eq hn]
 simp only [Option.bind_some]
 rw [if_pos (by omega)]; rfl
theorem zg_eq {n : Nat} (hn : 10 ≤ n) (x : Int) : F42 n x = some (zg x) := by
 unfold F42 F73
 simp only [Option.bind_some]
 rw [put_eq hn (xor_in _ _).1 (xor_in _ _).2]
 rfl
theorem stg {α : Type} {n : Nat} (hn : 10 ≤ n) (s : ByteArray) (f : Field) (e : Bool) (h1 : s.size ≤ 1000) (h2 : f.Text.size ≤ 40) (K : ByteArray → Option α) :
  (if (!e) = true then K s else (F45 n f.Text).bind fun r => if s.size + r.size ≤ 9223372036854775807 then if (f.Text.toList == ByteArray.empty.toList) = true then (F42 n f.N).bind fun r2 => if (s ++ r).size + r2.size ≤ 9223372036854775807 then K ((s ++ r) ++ r2) else none else K (s ++ r) else none) = K (stage s f e) := by
 have a1 := tx_size f.Text
 have hz : (zg f.N).size ≤ 10 := (pt_size _).1
 cases e with
 | false => rfl
 | true =>
  simp only [Bool.not_true, Bool.false_eq_true, if_false, tx_eq hn (show f.Text.size ≤ 1000 by omega), zg_eq hn, Option.bind_some]
  rw [if_pos (by omega)]
  unfold stage isE
  cases f.Text.toList == ByteArray.empty.toList with
  | false => rfl
  | true =>
   simp only [if_true]
   rw [if_pos (by rw [ba_size]; omega)]
theorem body_eq {n : Nat} (hn : 10 ≤ n) (d : Delta) (hf : Few d) (s : ByteArray) (h : s.size ≤ 100) : F71_j7 n d s = some (body s d, 0) := by
 obtain ⟨f0, f1, f2, f3⟩ := hf
 have z1 := stage_size s d.F.a0 (hs d.Mask 1) f0
 have z2 := stage_size (stage s d.F.a0 (hs d.Mask 1)) d.F.a1 (hs d.Mask 2) f1
 have z3 := stage_size (stage (stage s d.F.a0 (hs d.Mask 1)) d.F.a1 (hs d.Mask 2)) d.F.a2 (hs d.Mask 3) f2
 unfold F71_j7
 simp only [has0, Option.bind_some]
 rw [stg hn s d.F.a0 _ (by omega) f0 (fun s => F71_u12 n d s)]
 unfold F71_u12
 simp only [has1, Option.bind_some]
 rw [stg hn _ d.F.a1 _ (by omega) f1 (fun s => F71_u17 n d s)]
 unfold F71_u17
 simp only [has2, Option.bind_some]
 rw [stg hn _ d.F.a2 _ (by omega) f2 (fun s => F71_u22 n d s)]
 unfold F71_u22
 simp only [has3, Option.bind_some]
 rw [stg hn _ d.F.a3 _ (by omega) f3 (fun s => F71_u27 n s)]
 rfl
theorem bytes_eq {n : Nat} (hn : 10 ≤ n) (d : Delta) (hf : Few d) : F71 n d = some (if isD d then (body (head d) d, 0) else (ByteArray.empty, 11)) := by
 have p1 := pu_size d.ID; have p2 := pu_size d.Mask; have p3 := pu_size d.At.X; have p4 := pu_size d.At.Y
 have hh := head_size d
 unfold F71
 simp only [isD_eq, Option.bind_some, pu_eq hn]
 cases hd : isD d with
 | false => simp
 | true =>
  simp only [Bool.not_true, Bool.false_eq_true, if_false, if_true]
  rw [if_pos (by omega)]
  unfold head at hh ⊢
  cases h1 : a1 d with
  | false =>
   have h1' : (bitsI .and .u8 d.Mask 1 != 0) = false := h1
   rw [h1] at hh
   simp only [h1', Bool.false_eq_true, if_false] at hh ⊢
   exact body_eq hn d hf _ (by omega)
  | true =>
   have h1' : (bitsI .and .u8 d.Mask 1 != 0) = true := h1
   rw [h1] at hh
   simp only [h1', if_true] at hh ⊢
   rw [if_pos (by omega), if_pos (by rw [ba_size, ba_size]; omega)]
   exact body_eq hn d hf _ (by omega)
def tb (t : Thing) : ByteArray := body (head (full t)) (full t)
theorem tb_size {t : Thing} (h : isTh t = true) : (tb t).size ≤ 280 ∧ 1 ≤ (tb t).size := by
 obtain ⟨f0, f1, f2, f3⟩ := isTh_few h
 have hh := head_size (full t)
 have h1 : 1 ≤ (head (full t)).size := by
  have := pu_size (full t).ID; have := pu_size (full t).Mask
  unfold head
  split <;> simp only [ba_size] <;> omega
 have g : ∀ (s : ByteArray) (f : Field) (e : Bool), s.size ≤ (stage s f e).size := fun s f e => by
  unfold stage
  split
  ·split <;> simp only [ba_size] <;> omega
  ·omega
 unfold tb body
 have z1 := stage_size (head (full t)) (full t).F.a0 (hs (full t).Mask 1) f0
 have z2 := stage_size (stage (head (full t)) (full t).F.a0 (hs (full t).Mask 1)) (full t).F.a1 (hs (full t).Mask 2) f1
 have z3 := stage_size (stage (stage (head (full t)) (full t).F.a0 (hs (full t).Mask 1)) (full t).F.a1 (hs (full t).Mask 2)) (full t).F.a2 (hs (full t).Mask 3) f2
 have z4 := stage_size (stage (stage (stage (head (full t)) (full t).F.a0 (hs (full t).Mask 1)) (full t).F.a1 (hs (full t).Mask 2)) (full t).F.a2 (hs (full t).Mask 3)) (full t).F.a3 (hs (full t).Mask 4) f3
 have y1 := g (head (full t)) (full t).F.a0 (hs (full t).Mask 1)
 have y2 := g (stage (head (full t)) (full t).F.a0 (hs (full t).Mask 1)) (full t).F.a1 (hs (full t).Mask 2)
 have y3 := g (stage (stage (head (full t)) (full t).F.a0 (hs (full t).Mask 1)) (full t).F.a1 (hs (full t).Mask 2)) (full t).F.a2 (hs (full t).Mask 3)
 have y4 := g (stage (stage (stage (head (full t)) (full t).F.a0 (hs (full t).Mask 1)) (full t).F.a1 (hs (full t).Mask 2)) (full t).F.a2 (hs (full t).Mask 3)) (full t).F.a3 (hs (full t).Mask 4)
 omega
theorem tbytes_eq {n : Nat} (hn : 10 ≤ n) (t : Thing) : F40 n t = some (if isTh t then (tb t, 0) else (ByteArray.empty, 11)) := by
 unfold F40
 simp only [is_eq, Option.bind_some]
 cases h : isTh t with
 | false => rfl
 | true =>
  simp only [Bool.not_true, Bool.false_eq_true, if_false, if_true]
  have := bytes_eq hn (full t) (isTh_few h)
  rw [full_is, h] at this
  have e : Delta.mk t.ID 31 t.At t.F = full t := rfl
  rw [e, this]
  rfl
theorem mk_bytes (s : ByteArray) : mkStr (bytesL s) = s := by
 apply ba_ext
 rw [mkStr_data]
 apply Array.ext'
 simp only [bytesL, List.map_map]
 have : ((fun n : Int => UInt8.ofNat n.toNat) ∘ fun b : UInt8 => (b.toNat : Int)) = id := by
  funext b; simp
 rw [this, List.map_id]
theorem bytes_add (a b : ByteArray) : bytesL (a ++ b) = bytesL a ++ bytesL b := by
 simp [bytesL, ByteArray.data_append]
theorem bytes_byteB (s : ByteArray) : (bytesL s).all byteB = true := by
 rw [List.all_eq_true]
 intro x hx
 simp only [bytesL, List.mem_map] at hx
 obtain ⟨b, _, rfl⟩ := hx
 have := b.toNat_lt
 simp only [byteB, Bool.and_eq_true, decide_eq_true_eq]
 omega
theorem bldAdd_s {a b : ByteArray} (h : a.size + b.size ≤ 1000000) : bldAdd (bytesL a) b = some (bytesL (a ++ b)) := by
 unfold bldAdd
 rw [if_pos (by rw [bytesL_len, Nat.ble_eq]; omega), bytes_add]
theorem bldStr_s {a : ByteArray} (h : 1 ≤ a.size) : bldStr (bytesL a) = some a := by
 unfold bldStr
 rw [if_pos (by rw [bytes_byteB, bytesL_len]; simp [Nat.blt_eq]; omega), mk_bytes]
def prevI (l : List Thing) (i : Nat) : Option Int := if i = 0 then none else some ((l.getD (i - 1) ⟨0, ⟨0, 0⟩, ⟨noF, noF, noF, noF⟩⟩).ID)
theorem prev0 (l : List Thing) : prevI l 0 = none := rfl
theorem prevS (l : List Thing) (i : Nat) (h : i < l.length) : prevI l (i + 1) = some l[i].ID := by
 unfold prevI
 rw [if_neg (by omega)]
 have : i + 1 - 1 = i := by omega
 rw [this, List.getD_eq_getElem?_getD, List.getElem?_eq_getElem h]; rfl
theorem pred_w {i : Nat} (h : i + 1 < maxLen) : IntKind.wrap .i64 (((i + 1 : Nat) : Int) - 1) = (i : Int) := by
 simp only [maxLen] at h
 simp [IntKind.wrap, IntKind.bits, IntKind.signed]; omega
def allR : Option Int → List Thing → ByteArray → ByteArray × Int
 | _, [], s => (s, 0)
 | p, t :: l, s => if isTh t = false then (ByteArray.empty, 11) else
  match p with
  | some q => if t.ID ≤ q then (ByteArray.empty, 11) else allR (some t.ID) l (s ++ tb t)
  | none => allR (some t.ID) l (s ++ tb t)
theorem allR_cons (l : List Thing) (i : Nat) (h : i < l.length) (s : ByteArray) (p : Option Int) : allR p (l.drop i) s = if isTh l[i] = false then (ByteArray.empty, 11) else
  match p with
  | some q => if l[i].ID ≤ q then (ByteArray.empty, 11) else allR (some l[i].ID) (l.drop (i + 1)) (s ++ tb l[i])
  | none => allR (some l[i].ID) (l.drop (i + 1)) (s ++ tb l[i]) := by
 rw [dropS l i h]; rfl
theorem all_l {n : Nat} (hn : 10 ≤ n) (l : List Thing) (hl : l.length ≤ 200) : ∀ (m i : Nat) (s : ByteArray), i ≤ l.length → l.length - i < m → 1 ≤ s.size → s.size + 280 * (l.length - i) ≤ 100000 →
  F16_l9 n l m (i : Int) (bytesL s) = some (allR (prevI l i) (l.drop i) s)
 | 0, i, _, _, h, _, _ => by omega
 | m + 1, i, s, hi, hm, h1, hs => by
  unfold F16_l9
  have hx : maxLen = 9223372036854775807 := rfl
  by_cases hlt : i < l.length
  ·rw [if_pos (lt_dec hlt), ixg l i hlt, allR_cons l i hlt]
   simp only [Option.bind_some, tbytes_eq hn]
   cases ht : isTh l[i] with
   | false => simp
   | true =>
    obtain ⟨z1, z2⟩ := tb_size ht
    have hadd := bldAdd_s (a := s) (b := tb l[i]) (by omega)
    have ih := all_l hn l hl m (i + 1) (s ++ tb l[i]) (by omega) (by omega) (by rw [ba_size]; omega) (by rw [ba_size]; omega)
    rw [prevS l i hlt] at ih
    have w := dsucc (i := i) (by omega)
    have e00 : ((0 : Int) != 0) = false := rfl
    simp only [if_true, e00, Bool.false_eq_true, if_false]
    cases i with
    | zero =>
     have c : decide ((0 : Int) < ((0 : Nat) : Int)) = false := rfl
     simp only [c, Bool.false_eq_true, if_false, hadd, Option.bind_some, prev0]
     rw [w]; simpa using ih
    | succ j =>
     have c : decide ((0 : Int) < ((j + 1 : Nat) : Int)) = true := by rw [decide_eq_true_eq]; omega
     have hj : j < l.length := by omega
     rw [if_pos c, pred_w (by omega), ixg l j hj, prevS l j hj]
     simp only [Option.bind_some, hadd]
     by_cases hle : l[j + 1].ID ≤ l[j].ID
     ·simp [hle]
     ·simp only [hle, decide_false, Bool.false_eq_true, if_false]
      rw [w]; simpa using ih
  ·have : i = l.length := by omega
   subst this
   rw [if_neg (by rw [ge_dec (by omega)]; decide), List.drop_length, bldStr_s h1]
   rfl
def allB (l : List Thing) : ByteArray × Int := if 200 < l.length then (ByteArray.empty, 13) else allR none l (pu (l.length : Int))
theorem all_eq {n : Nat} (hn : 300 ≤ n) (l : List Thing) : F16 n l = some (allB l) := by
 unfold F16 allB
 by_cases h : 200 < l.length
 ·have c : decide ((200 : Int) < (l.length : Int)) = true := by simp; omega
  rw [if_pos c, if_pos h]
 ·have c : decide ((200 : Int) < (l.length : Int)) = false := by simp; omega
  have p := pu_size (l.length : Int)
  have hb := bldAdd_s (a := ByteArray.empty) (b := pu (l.length : Int)) (by show 0 + _ ≤ _; omega)
  have he : bytesL ByteArray.empty = [] := rfl
  rw [he, ba_nil] at hb
  simp only [c, Bool.false_eq_true, if_false, pu_eq (by omega : 10 ≤ n), Option.bind_some, hb, if_neg h]
  have := all_l (by omega : 10 ≤ n) l (by omega) (n + 8) 0 (pu (l.length : Int)) (by omega) (by omega) p.2 (by omega)
  simpa [prev0] using this
def Cut (Q X : ByteArray) : Prop := ∃ R : ByteArray, Q ++ R = X ∧ 1 ≤ R.size
theorem ba_data (a : ByteArray) : a.data.toList.length = a.size := by rw [Array.length_toList]; rfl
theorem ba_of {a b : ByteArray} (h : a.data.toList = b.data.toList) : a = b := ba_ext (Array.ext' h)
theorem ba_list (a b : ByteArray) : (a ++ b).data.toList = a.data.toList ++ b.data.toList := by rw [ByteArray.data_append, Array.toList_append]
theorem Cut.split {Q A B : ByteArray} (h : Cut Q (A ++ B)) (hB : 1 ≤ B.size) : Cut Q A ∨ ∃ Q', Q = A ++ Q' ∧ Cut Q' B := by
 obtain ⟨R, e, hR⟩ := h
 have el : Q.data.toList ++ R.data.toList = A.data.toList ++ B.data.toList := by rw [← ba_list, ← ba_list, e]
 rcases List.append_eq_append_iff.1 el with ⟨xs, h1, h2⟩ | ⟨cs, h1, h2⟩
 ·cases xs with
  | nil =>
   refine .inr ⟨ByteArray.empty, ?_, B, ba_nil B, hB⟩
   rw [ba_nil_r]
   rw [List.append_nil] at h1
   exact ba_of h1.symm
  | cons x xs =>
   refine .inl ⟨⟨(x :: xs).toArray⟩, ba_of ?_, ?_⟩
   ·rw [ba_list, h1]
   ·rw [← ba_data]; simp
 ·refine .inr ⟨⟨cs.toArray⟩, ba_of ?_, R, ba_of ?_, hR⟩
  ·rw [ba_list, h1]
  ·rw [ba_list, h2]
theorem Cut.none {Q : ByteArray} (h : Cut Q ByteArray.empty) : False := by
 obtain ⟨R, e, hR⟩ := h
 have := congrArg ByteArray.size e
 rw [ba_size] at this
 have z : ByteArray.empty.size = 0 := rfl
 omega
theorem Cut.size {Q X : ByteArray} (h : Cut Q X) : Q.size < X.size := by
 obtain ⟨R, e, hR⟩ := h
 have := congrArg ByteArray.size e
 rw [ba_size] at this
 omega
theorem d64 {n : Int} (h : -9223372036854775808 ≤ n) (h' : n ≤ 9223372036854775807) : IntKind.wrap .i64 n = n := by
 simp [IntKind.wrap, IntKind.bits, IntKind.signed]; omega
theorem Rect.eqb_iff (x y : Rect) : Rect.eqb x y = true ↔ x = y := by
 cases x; cases y; simp [Rect.eqb, and_assoc]
theorem Command.eqb_iff (x y : Command) : Command.eqb x y = true ↔ x = y := by
 cases x; cases y; simp [Command.eqb, Point.eqb_iff, A4_Field.eqb_iff, Field.eqb_iff, Rect.eqb_iff]
theorem zg_size (x : Int) : (zg x).size ≤ 10 ∧ 1 ≤ (zg x).size := pt_size _
theorem isF_text {f : Field} (h : isF f = true) : f.Text.size ≤ 12 := by have := text_few h; omega
def near (x : Int) : Bool := decide (-1000 ≤ x) && decide (x ≤ 1000)
theorem near_l (n : Nat) (l : List Int) (hl : l.length ≤ 8) : ∀ (m i : Nat), i ≤ l.length → l.length - i < m → F63_l4 n l m (i : Int) = some ((l.drop i).all near)
 | 0, i, _, h => by omega
 | m + 1, i, h1, h2 => by
  unfold F63_l4
  by_cases hi : i < l.length
  ·have ed : l.drop i = l[i] :: l.drop (i + 1) := by rw [List.drop_eq_getElem_cons hi]
   have ea : (l.drop i).all near = (near l[i] && (l.drop (i + 1)).all near) := by rw [ed, List.all_cons]
   simp only [lt_dec hi, if_true, ixg l i hi, Option.bind_some, dsucc (show i < maxLen by simp only [maxLen]; omega), ea, near_l n l hl m (i + 1) (by omega) (by omega)]
   generalize l[i] = x
   unfold near
   by_cases h3 : (-1000 : Int) ≤ x <;> by_cases h4 : x ≤ 1000 <;> simp [h3, h4]
  ·have ed : l.drop i = [] := List.drop_eq_nil_of_le (by omega)
   simp only [ge_dec hi, Bool.false_eq_true, if_false, ed, List.all_nil]
theorem near_eq (n : Nat) (l : List Int) (hl : l.length ≤ 7) : F63 n l = some (l.all near) := by
 unfold F63
 have := near_l n l (by omega) (n + 8) 0 (by omega) (by omega)
 simpa using this
def coreC (c : Command) : Command := (F62 0 c).getD c
theorem core_eq (n : Nat) (c : Command) : F62 n c = some (coreC c) := by
 have h : ∀ m, F62 m c = F62 0 c := fun m => rfl
 rw [h n]
 unfold coreC
 have : (F62 0 c).isSome := by
  unfold F62
  repeat (split <;> try rfl)
 obtain ⟨r, hr⟩ := Option.isSome_iff_exists.1 this
 rw [hr]; rfl
def boundsC (c : Command) : Bool := (decide (0 ≤ c.Client) && (decide (c.Client < 4) && (decide (0 ≤ c.Session) && decide (c.Session ≤ 1000000)))) &&
 ((decide (0 ≤ c.ID) && (decide (c.ID ≤ 1000000) && (decide (-1 ≤ c.Which) && (decide (c.Which ≤ 100) && (decide (-1 ≤ c.To) && (decide (c.To ≤ 100) && isF c.Value)))))) &&
  [c.At.X, c.At.Y, c.Rect.X0, c.Rect.Y0, c.Rect.X1, c.Rect.Y1].all near)
def isC (c : Command) : Bool := (isF c.F.a0 && (isF c.F.a1 && (isF c.F.a2 && isF c.F.a3))) && ((decide (1 ≤ c.Kind) && (decide (c.Kind ≤ 8) && Command.eqb c (coreC c))) && boundsC c)
theorem isC_eq (n : Nat) (c : Command) : F31 n c = some (isC c) := by
 have j12 : ∀ x y z, F31_j12 n c x y z = some (x && (y && (z && [c.At.X, c.At.Y, c.Rect.X0, c.Rect.Y0, c.Rect.X1, c.Rect.Y1].all near))) := by
  intro x y z
  unfold F31_j12
  rw [near_eq n _ (by simp)]
  cases x <;> cases y <;> cases z <;> simp
 have j9 : ∀ x y, F31_j9 n c x y = some (x && (y && ((decide (0 ≤ c.ID) && (decide (c.ID ≤ 1000000) && (decide (-1 ≤ c.Which) && (decide (c.Which ≤ 100) && (decide (-1 ≤ c.To) && (decide (c.To ≤ 100) && isF c.Value)))))) && [c.At.X, c.At.Y, c.Rect.X0, c.Rect.Y0, c.Rect.X1, c.Rect.Y1].all near))) := by
  intro x y
  unfold F31_j9
  simp only [j12, isF_eq, Option.bind_some]
  by_cases h1 : (0 : Int) ≤ c.ID
  ·by_cases h2 : c.ID ≤ 1000000
   ·by_cases h3 : (-1 : Int) ≤ c.Which
    ·by_cases h4 : c.Which ≤ 100
     ·by_cases h5 : (-1 : Int) ≤ c.To
      ·by_cases h6 : c.To ≤ 100 <;> simp only [h1, h2, h3, h4, h5, h6, decide_true, decide_false, if_true, Bool.false_eq_true, if_false, Bool.true_and, Bool.false_and, Bool.and_false]
      ·simp only [h1, h2, h3, h4, h5, decide_true, decide_false, if_true, Bool.false_eq_true, if_false, Bool.true_and, Bool.false_and, Bool.and_false]
     ·simp only [h1, h2, h3, h4, decide_true, decide_false, if_true, Bool.false_eq_true, if_false, Bool.true_and, Bool.false_and, Bool.and_false]
    ·simp only [h1, h2, h3, decide_true, decide_false, if_true, Bool.false_eq_true, if_false, Bool.true_and, Bool.false_and, Bool.and_false]
   ·simp only [h1, h2, decide_true, decide_false, if_true, Bool.false_eq_true, if_false, Bool.true_and, Bool.false_and, Bool.and_false]
  ·simp only [h1, decide_true, decide_false, if_true, Bool.false_eq_true, if_false, Bool.true_and, Bool.false_and, Bool.and_false]
 have j7 : ∀ x, F31_j7 n c x = some (x && boundsC c) := by
  intro x
  unfold F31_j7 boundsC
  simp only [j9]
  by_cases h1 : (0 : Int) ≤ c.Client
  ·by_cases h2 : c.Client < 4
   ·by_cases h3 : (0 : Int) ≤ c.Session <;> simp only [h1, h2, h3, decide_true, decide_false, if_true, Bool.false_eq_true, if_false, Bool.true_and, Bool.false_and, Bool.and_false]
   ·simp only [h1, h2, decide_true, decide_false, if_true, Bool.false_eq_true, if_false, Bool.true_and, Bool.false_and, Bool.and_false]
  ·simp only [h1, decide_true, decide_false, if_true, Bool.false_eq_true, if_false, Bool.true_and, Bool.false_and, Bool.and_false]
 unfold F31 isC
 simp only [isF_eq, Option.bind_some, core_eq, j7]
 cases isF c.F.a0
 ·rfl
 ·cases isF c.F.a1
  ·rfl
  ·cases isF c.F.a2
   ·rfl
   ·cases isF c.F.a3
    ·rfl
    ·by_cases h1 : (1 : Int) ≤ c.Kind
     ·by_cases h2 : c.Kind ≤ 8 <;> simp [h1, h2]
     ·simp [h1]
def watchesC (c : Command) : Bool := decide (6 ≤ c.Kind) && decide (c.Kind ≤ 8)
theorem watches_eq (n : Nat) (c : Command) : F32 n c = some (watchesC c) := by
 unfold F32 watchesC
 by_cases h : (6 : Int) ≤ c.Kind <;> simp [h]
structure InC (c : Command) : Prop where
 f0 : isF c.F.a0 = true
 f1 : isF c.F.a1 = true
 f2 : isF c.F.a2 = true
 f3 : isF c.F.a3 = true
 v : isF c.Value = true
 kind : 1 ≤ c.Kind ∧ c.Kind ≤ 8
 core : c = coreC c
 client : 0 ≤ c.Client ∧ c.Client < 4
 sess : 0 ≤ c.Session ∧ c.Session ≤ 1000000
 id : 0 ≤ c.ID ∧ c.ID ≤ 1000000
 which : -1 ≤ c.Which ∧ c.Which ≤ 100
 to : -1 ≤ c.To ∧ c.To ≤ 100
 atx : -1000 ≤ c.At.X ∧ c.At.X ≤ 1000
 aty : -1000 ≤ c.At.Y ∧ c.At.Y ≤ 1000
 x0 : -1000 ≤ c.Rect.X0 ∧ c.Rect.X0 ≤ 1000
 y0 : -1000 ≤ c.Rect.Y0 ∧ c.Rect.Y0 ≤ 1000
 x1 : -1000 ≤ c.Rect.X1 ∧ c.Rect.X1 ≤ 1000
 y1 : -1000 ≤ c.Rect.Y1 ∧ c.Rect.Y1 ≤ 1000
theorem isC_in {c : Command} (h : isC c = true) : InC c := by
 unfold isC boundsC near at h
 simp only [List.all_cons, List.all_nil, Bool.and_true, Bool.and_eq_true, decide_eq_true_eq, Command.eqb_iff] at h
 obtain ⟨⟨a0, a1, a2, a3⟩, ⟨k1, k2, k3⟩, ⟨h1, h2, h3, h4⟩, ⟨h5, h6, h7, h8, h9, h10, h11⟩, p1, p2, p3, p4, p5, p6⟩ := h
 exact ⟨a0, a1, a2, a3, h11, ⟨k1, k2⟩, k3, ⟨h1, h2⟩, ⟨h3, h4⟩, ⟨h5, h6⟩, ⟨h7, h8⟩, ⟨h9, h10⟩, p1, p2, p3, p4, p5, p6⟩
def fl (f : Field) : ByteArray := tx f.Text ++ zg f.N
theorem fl_size {f : Field} (h : isF f = true) : (fl f).size ≤ 32 ∧ 2 ≤ (fl f).size := by
 have := isF_text h
 have := tx_size f.Text
 have := zg_size f.N
 unfold fl; rw [ba_size]; omega
def hdC (c : Command) : ByteArray := zg c.Kind ++ zg c.Client ++ zg c.Session
theorem hdC_size (c : Command) : (hdC c).size ≤ 30 ∧ 3 ≤ (hdC c).size := by
 have := zg_size c.Kind
 have := zg_size c.Client
 have := zg_size c.Session
 unfold hdC; rw [ba_size, ba_size]; omega
def nums (c : Command) : List Int :=
 if c.Kind = 1 then [c.At.X, c.At.Y] else if c.Kind = 2 then [c.ID, c.At.X, c.At.Y] else if c.Kind = 3 then [c.ID, c.Which] else if c.Kind = 4 then [c.ID]
 else if c.Kind = 5 then [c.Which, c.To] else if c.Kind = 6 ∨ c.Kind = 7 then [c.Rect.X0, c.Rect.Y0, c.Rect.X1, c.Rect.Y1] else []
def vals (c : Command) : List Field :=
 if c.Kind = 1 then [c.F.a0, c.F.a1, c.F.a2, c.F.a3] else if c.Kind = 3 then [c.Value] else []
def addN (s : ByteArray) (l : List Int) : ByteArray := l.foldl (fun s x => s ++ zg x) s
def addV (s : ByteArray) (l : List Field) : ByteArray := l.foldl (fun s f => s ++ fl f) s
def byC (c : Command) : ByteArray := addV (addN (hdC c) (nums c)) (vals c)
theorem addN_size : ∀ (l : List Int) (s : ByteArray), (addN s l).size ≤ s.size + 10 * l.length ∧ s.size ≤ (addN s l).size
 | [], s => by simp [addN]
 | x :: l, s => by
  have := addN_size l (s ++ zg x)
  have := zg_size x
  rw [ba_size] at *
  simp only [addN, List.foldl_cons, List.length_cons] at *
  omega
theorem addV_size : ∀ (l : List Field) (s : ByteArray), (∀ f ∈ l, isF f = true) → (addV s l).size ≤ s.size + 32 * l.length ∧ s.size ≤ (addV s l).size
 | [], s, _ => by simp [addV]
 | x :: l, s, h => by
  have := addV_size l (s ++ fl x) (fun f hf => h f (List.mem_cons_of_mem _ hf))
  have := fl_size (h x (List.mem_cons_self ..))
  rw [ba_size] at *
  simp only [addV, List.foldl_cons, List.length_cons] at *
  omega
theorem nums_len (c : Command) : (nums c).length ≤ 4 := by
 unfold nums
 repeat (split; · simp)
 simp
theorem vals_len (c : Command) : (vals c).length ≤ 4 := by
 unfold vals
 repeat (split; · simp)
 simp
theorem vals_is {c : Command} (h : InC c) : ∀ f ∈ vals c, isF f = true := by
 unfold vals
 intro f hf
 split at hf
 ·simp only [List.mem_cons, List.not_mem_nil, or_false] at hf
  rcases hf with rfl | rfl | rfl | rfl
  ·exact h.f0
  ·exact h.f1
  ·exact h.f2
  ·exact h.f3
 ·split at hf
  ·simp only [List.mem_cons, List.not_mem_nil, or_false] at hf
   subst hf; exact h.v
  ·cases hf
theorem byC_size {c : Command} (h : InC c) : (byC c).size ≤ 198 ∧ 3 ≤ (byC c).size := by
 have h1 := hdC_size c
 have h2 := addN_size (nums c) (hdC c)
 have h3 := addV_size (vals c) (addN (hdC c) (nums c)) (vals_is h)
 have h4 := nums_len c
 have h5 := vals_len c
 unfold byC; omega
theorem values_eq (n : Nat) (c : Command) : F44s0 n c = some (if c.Kind = 1 then 1 else if c.Kind = 3 then 2 else 0) := by
 unfold F44s0
 by_cases h1 : c.Kind = 1
 ·simp [h1]
 by_cases h3 : c.Kind = 3
 ·simp [h3]
 simp [h1, h3]
theorem bytes_j21 {n : Nat} (hn : 10 ≤ n) {c : Command} (h : InC c) {s : ByteArray} (hs : s.size ≤ 100) : F19_j21 n c s = some (addV s (vals c), 0) := by
 unfold F19_j21 vals
 rw [values_eq, Option.bind_some]
 have z : ∀ f, isF f = true → f.Text.size ≤ 12 ∧ (tx f.Text).size ≤ 22 ∧ (zg f.N).size ≤ 10 := fun f hf => by
  have := isF_text hf
  have := tx_size f.Text
  have := zg_size f.N
  omega
 by_cases h1 : c.Kind = 1
 ·rw [if_pos h1, if_pos h1, if_neg (by decide), if_pos rfl]
  obtain ⟨p1, q1, r1⟩ := z _ h.f0
  obtain ⟨p2, q2, r2⟩ := z _ h.f1
  obtain ⟨p3, q3, r3⟩ := z _ h.f2
  obtain ⟨p4, q4, r4⟩ := z _ h.f3
  rw [tx_eq hn (by omega), Option.bind_some, zg_eq hn, Option.bind_some, if_pos (by omega), if_pos (by simp only [ba_size]; omega),
   tx_eq hn (by omega), Option.bind_some, zg_eq hn, Option.bind_some, if_pos (by omega), if_pos (by simp only [ba_size]; omega),
   tx_eq hn (by omega), Option.bind_some, zg_eq hn, Option.bind_some, if_pos (by omega), if_pos (by simp only [ba_size]; omega),
   tx_eq hn (by omega), Option.bind_some, zg_eq hn, Option.bind_some, if_pos (by omega), if_pos (by simp only [ba_size]; omega)]
  rfl
 ·rw [if_neg h1, if_neg h1]
  by_cases h3 : c.Kind = 3
  ·rw [if_pos h3, if_pos h3, if_neg (by decide), if_neg (by decide), if_pos rfl]
   obtain ⟨p1, q1, r1⟩ := z _ h.v
   rw [tx_eq hn (by omega), Option.bind_some, zg_eq hn, Option.bind_some, if_pos (by omega), if_pos (by simp only [ba_size]; omega)]
   rfl
  ·rw [if_neg h3, if_neg h3, if_pos rfl]
   rfl
theorem parts_eq (n : Nat) (c : Command) : F43s0 n c = some (if c.Kind = 1 then 1 else if c.Kind = 2 then 2 else if c.Kind = 3 then 3 else if c.Kind = 4 then 4 else if c.Kind = 5 then 5 else if c.Kind = 6 ∨ c.Kind = 7 then 6 else 0) := by
 unfold F43s0 F43s0_j1
 by_cases h1 : c.Kind = 1
 ·simp [h1]
 by_cases h2 : c.Kind = 2
 ·simp [h2]
 by_cases h3 : c.Kind = 3
 ·simp [h3]
 by_cases h4 : c.Kind = 4
 ·simp [h4]
 by_cases h5 : c.Kind = 5
 ·simp [h5]
 by_cases h6 : c.Kind = 6
 ·simp [h6]
 by_cases h7 : c.Kind = 7
 ·simp [h7]
 simp [h1, h2, h3, h4, h5, h6, h7]
theorem kinds {c : Command} (h : InC c) : c.Kind = 1 ∨ c.Kind = 2 ∨ c.Kind = 3 ∨ c.Kind = 4 ∨ c.Kind = 5 ∨ c.Kind = 6 ∨ c.Kind = 7 ∨ c.Kind = 8 := by
 have := h.kind; omega
theorem bytes_no {n : Nat} {c : Command} (h : isC c = false) : F19 n c = some (ByteArray.empty, 11) := by
 unfold F19
 rw [isC_eq, Option.bind_some, h]
 rfl
theorem bytes_is {n : Nat} (hn : 10 ≤ n) {c : Command} (hc : isC c = true) : F19 n c = some (byC c, 0) := by
 have h := isC_in hc
 have z := fun x => (zg_size x).1
 have zh := (hdC_size c).1
 unfold F19
 rw [isC_eq, Option.bind_some, hc]
 have hk : F19_j21 n c (addN (hdC c) (nums c)) = some (byC c, 0) := by
  have := addN_size (nums c) (hdC c)
  have := nums_len c
  exact bytes_j21 hn h (by omega)
 have s1 := z c.Kind
 have s2 := z c.Client
 rw [if_neg (by decide), zg_eq hn, Option.bind_some]
 have s3 := z c.Session
 rw [zg_eq hn, Option.bind_some, if_pos (by omega), zg_eq hn, Option.bind_some, if_pos (by rw [ba_size]; omega), parts_eq, Option.bind_some, show zg c.Kind ++ zg c.Client ++ zg c.Session = hdC c from rfl]
 have fin : ∀ l s, nums c = l → addN (hdC c) l = s → F19_j21 n c s = some (byC c, 0) := by
  intro l s hl hs; rw [← hs, ← hl]; exact hk
 have b1 : ∀ x, (hdC c ++ zg x).size ≤ 40 := fun x => by have := z x; rw [ba_size]; omega
 have b2 : ∀ x y, (hdC c ++ zg x ++ zg y).size ≤ 50 := fun x y => by have := z y; have := b1 x; rw [ba_size]; omega
 have b3 : ∀ x y w, (hdC c ++ zg x ++ zg y ++ zg w).size ≤ 60 := fun x y w => by have := z w; have := b2 x y; rw [ba_size]; omega
 have sz0 : ∀ x, (hdC c).size + (zg x).size ≤ 9223372036854775807 := fun x => by have := z x; omega
 have sz1 : ∀ x y, (hdC c ++ zg x).size + (zg y).size ≤ 9223372036854775807 := fun x y => by have := z y; have := b1 x; omega
 have sz2 : ∀ x y w, (hdC c ++ zg x ++ zg y).size + (zg w).size ≤ 9223372036854775807 := fun x y w => by have := z w; have := b2 x y; omega
 have sz3 : ∀ x y w v, (hdC c ++ zg x ++ zg y ++ zg w).size + (zg v).size ≤ 9223372036854775807 := fun x y w v => by have := z v; have := b3 x y w; omega
 obtain e | e | e | e | e | e | e | e := kinds h
 ·have six : (if c.Kind = 1 then 1 else if c.Kind = 2 then 2 else if c.Kind = 3 then 3 else if c.Kind = 4 then 4 else if c.Kind = 5 then 5 else if c.Kind = 6 ∨ c.Kind = 7 then 6 else 0) = 1 := by simp [e]
  rw [six]
  rw [if_neg (by decide), if_pos rfl]
  rw [zg_eq hn, Option.bind_some, if_pos (sz0 _)]
  rw [zg_eq hn, Option.bind_some, if_pos (sz1 _ _)]
  exact fin [c.At.X, c.At.Y] _ (by unfold nums; simp [e]) rfl
 ·have six : (if c.Kind = 1 then 1 else if c.Kind = 2 then 2 else if c.Kind = 3 then 3 else if c.Kind = 4 then 4 else if c.Kind = 5 then 5 else if c.Kind = 6 ∨ c.Kind = 7 then 6 else 0) = 2 := by simp [e]
  rw [six]
  rw [if_neg (by decide), if_neg (by decide), if_pos rfl]
  rw [zg_eq hn, Option.bind_some, if_pos (sz0 _)]
  rw [zg_eq hn, Option.bind_some, if_pos (sz1 _ _)]
  rw [zg_eq hn, Option.bind_some, if_pos (sz2 _ _ _)]
  exact fin [c.ID, c.At.X, c.At.Y] _ (by unfold nums; simp [e]) rfl
 ·have six : (if c.Kind = 1 then 1 else if c.Kind = 2 then 2 else if c.Kind = 3 then 3 else if c.Kind = 4 then 4 else if c.Kind = 5 then 5 else if c.Kind = 6 ∨ c.Kind = 7 then 6 else 0) = 3 := by simp [e]
  rw [six]
  rw [if_neg (by decide), if_neg (by decide), if_neg (by decide), if_pos rfl]
  rw [zg_eq hn, Option.bind_some, if_pos (sz0 _)]
  rw [zg_eq hn, Option.bind_some, if_pos (sz1 _ _)]
  exact fin [c.ID, c.Which] _ (by unfold nums; simp [e]) rfl
 ·have six : (if c.Kind = 1 then 1 else if c.Kind = 2 then 2 else if c.Kind = 3 then 3 else if c.Kind = 4 then 4 else if c.Kind = 5 then 5 else if c.Kind = 6 ∨ c.Kind = 7 then 6 else 0) = 4 := by simp [e]
  rw [six]
  rw [if_neg (by decide), if_neg (by decide), if_neg (by decide), if_neg (by decide), if_pos rfl]
  rw [zg_eq hn, Option.bind_some, if_pos (sz0 _)]
  exact fin [c.ID] _ (by unfold nums; simp [e]) rfl
 ·have six : (if c.Kind = 1 then 1 else if c.Kind = 2 then 2 else if c.Kind = 3 then 3 else if c.Kind = 4 then 4 else if c.Kind = 5 then 5 else if c.Kind = 6 ∨ c.Kind = 7 then 6 else 0) = 5 := by simp [e]
  rw [six]
  rw [if_neg (by decide), if_neg (by decide), if_neg (by decide), if_neg (by decide), if_neg (by decide), if_pos rfl]
  rw [zg_eq hn, Option.bind_some, if_pos (sz0 _)]
  rw [zg_eq hn, Option.bind_some, if_pos (sz1 _ _)]
  exact fin [c.Which, c.To] _ (by unfold nums; simp [e]) rfl
 ·have six : (if c.Kind = 1 then 1 else if c.Kind = 2 then 2 else if c.Kind = 3 then 3 else if c.Kind = 4 then 4 else if c.Kind = 5 then 5 else if c.Kind = 6 ∨ c.Kind = 7 then 6 else 0) = 6 := by simp [e]
  rw [six]
  rw [if_neg (by decide), if_neg (by decide), if_neg (by decide), if_neg (by decide), if_neg (by decide), if_neg (by decide), if_pos rfl]
  rw [zg_eq hn, Option.bind_some, if_pos (sz0 _)]
  rw [zg_eq hn, Option.bind_some, if_pos (sz1 _ _)]
  rw [zg_eq hn, Option.bind_some, if_pos (sz2 _ _ _)]
  rw [zg_eq hn, Option.bind_some, if_pos (sz3 _ _ _ _)]
  exact fin [c.Rect.X0, c.Rect.Y0, c.Rect.X1, c.Rect.Y1] _ (by unfold nums; simp [e]) rfl
 ·have six : (if c.Kind = 1 then 1 else if c.Kind = 2 then 2 else if c.Kind = 3 then 3 else if c.Kind = 4 then 4 else if c.Kind = 5 then 5 else if c.Kind = 6 ∨ c.Kind = 7 then 6 else 0) = 6 := by simp [e]
  rw [six]
  rw [if_neg (by decide), if_neg (by decide), if_neg (by decide), if_neg (by decide), if_neg (by decide), if_neg (by decide), if_pos rfl]
  rw [zg_eq hn, Option.bind_some, if_pos (sz0 _)]
  rw [zg_eq hn, Option.bind_some, if_pos (sz1 _ _)]
  rw [zg_eq hn, Option.bind_some, if_pos (sz2 _ _ _)]
  rw [zg_eq hn, Option.bind_some, if_pos (sz3 _ _ _ _)]
  exact fin [c.Rect.X0, c.Rect.Y0, c.Rect.X1, c.Rect.Y1] _ (by unfold nums; simp [e]) rfl
 ·have nil : (if c.Kind = 1 then 1 else if c.Kind = 2 then 2 else if c.Kind = 3 then 3 else if c.Kind = 4 then 4 else if c.Kind = 5 then 5 else if c.Kind = 6 ∨ c.Kind = 7 then 6 else 0) = 0 := by simp [e]
  rw [nil]
  rw [if_pos rfl]
  exact fin [] _ (by unfold nums; simp [e]) rfl
set_option maxHeartbeats 1000000
theorem toList_loop (bs : ByteArray) : ∀ (k i : Nat) (r : List UInt8), k = bs.size - i → ByteArray.toList.loop bs i r = r.reverse ++ bs.data.toList.drop i
 | 0, i, r, h => by
  rw [ByteArray.toList.loop]
  have : ¬ i < bs.size := by omega
  rw [if_neg this]
  have h2 : bs.data.toList.drop i = [] := List.drop_eq_nil_of_le (by simp only [Array.length_toList]; have : bs.data.size = bs.size := rfl; omega)
  rw [h2, List.append_nil]
 | k + 1, i, r, h => by
  rw [ByteArray.toList.loop]
  have hi : i < bs.size := by omega
  have hi' : i < bs.data.toList.length := by simp only [Array.length_toList]; exact hi
  rw [if_pos hi, toList_loop bs k (i + 1) _ (by omega), List.drop_eq_getElem_cons hi']
  have e : bs.get! i = bs.data.toList[i] := by
   rw [ByteArray.get!.eq_def]
   have hi2 : i < bs.data.size := hi
   simp [getElem!_pos bs.data i hi2]
  rw [e]
  simp
theorem toList_data (bs : ByteArray) : bs.toList = bs.data.toList := by
 unfold ByteArray.toList
 rw [toList_loop bs bs.size 0 [] (by omega)]; simp
theorem toList_eq (a b : ByteArray) : (a.toList == b.toList) = true ↔ a = b := by
 rw [toList_data, toList_data, beq_iff_eq]
 constructor
 ·intro h
  have := Array.ext' h
  cases a; cases b; simp only at this; rw [this]
 ·rintro rfl; rfl
def I64 (x : Int) : Prop := -9223372036854775808 ≤ x ∧ x < 9223372036854775808
def Pre (s P : ByteArray) : Prop := ∃ R, s = P ++ R
theorem Pre.of {s P X : ByteArray} (h : Pre s (P ++ X)) : Pre s P := by
 obtain ⟨R, h⟩ := h
 exact ⟨X ++ R, by rw [h, ba_assoc]⟩
theorem Pre.size {s P : ByteArray} (h : Pre s P) : P.size ≤ s.size := by
 obtain ⟨R, rfl⟩ := h
 rw [ba_size]; omega
theorem nz : ¬ (((0 : Int) != 0) = true) := by decide
theorem whole7_is (n : Nat) (s : ByteArray) (a : Int) : F86s7 n s a = some () := rfl
def zF : A4 Field := A4.mk (Field.mk 0 ByteArray.empty) (Field.mk 0 ByteArray.empty) (Field.mk 0 ByteArray.empty) (Field.mk 0 ByteArray.empty)
def zC : Command := Command.mk 0 0 0 0 (Point.mk 0 0) zF (Field.mk 0 ByteArray.empty) 0 0 (Rect.mk 0 0 0 0)
structure NR (c : Command) : Prop where
 n0 : I64 c.F.a0.N
 n1 : I64 c.F.a1.N
 n2 : I64 c.F.a2.N
 n3 : I64 c.F.a3.N
 v : I64 c.Value.N
theorem I64_0 : I64 0 := by unfold I64; omega
theorem xor_nat {a b : Nat} (ha : a < 4294967296) (hb : b < 4294967296) : bitsI .xor .u32 (a : Int) (b : Int) = ((a ^^^ b : Nat) : Int) := by
 have h : a ^^^ b < 2 ^ 32 := Nat.xor_lt_two_pow (by omega) (by omega)
 have e : (BitVec.ofInt 32 (a : Int) ^^^ BitVec.ofInt 32 (b : Int)).toNat = a ^^^ b := by
  rw [BitVec.toNat_xor, BitVec.ofInt_natCast, BitVec.ofInt_natCast, BitVec.toNat_ofNat, BitVec.toNat_ofNat, Nat.mod_eq_of_lt (by omega), Nat.mod_eq_of_lt (by omega)]
 show IntKind.wrap .u32 ((BitVec.ofInt 32 (a : Int) ^^^ BitVec.ofInt 32 (b : Int)).toNat : Int) = _
 rw [e]
 simp [IntKind.wrap, IntKind.bits, IntKind.signed]; omega
theorem and1_nat {a : Nat} (ha : a < 4294967296) : (bitsI .and .u32 (a : Int) 1 == 1) = decide (a % 2 = 1) := by
 have e : (BitVec.ofInt 32 (a : Int) &&& BitVec.ofInt 32 1).toNat = a % 2 := by
  rw [BitVec.toNat_and, BitVec.ofInt_natCast, BitVec.toNat_ofNat, Nat.mod_eq_of_lt (by omega)]
  have : (BitVec.ofInt 32 1).toNat = 1 := rfl
  rw [this, Nat.and_one_is_mod]
 have h : bitsI .and .u32 (a : Int) 1 = ((a % 2 : Nat) : Int) := by
  show IntKind.wrap .u32 ((BitVec.ofInt 32 (a : Int) &&& BitVec.ofInt 32 1).toNat : Int) = _
  rw [e]
  simp [IntKind.wrap, IntKind.bits, IntKind.signed]; omega
 rw [h, Bool.eq_iff_iff, beq_iff_eq, decide_eq_true_eq]; omega
theorem shr1_nat (a : Nat) : shrI .u32 (a : Int) 1 = ((a / 2 : Nat) : Int) := by
 show Int.fdiv (a : Int) (2 ^ 1) = _
 rw [Int.fdiv_eq_ediv_of_nonneg _ (by decide)]
 simp
def stN (x : Nat) : Nat := if x % 2 = 1 then (x / 2) ^^^ 3988292384 else x / 2
theorem stN_lt {x : Nat} (h : x < 4294967296) : stN x < 4294967296 := by
 unfold stN
 split
 ·have h' : x / 2 ^^^ 3988292384 < 2 ^ 32 := Nat.xor_lt_two_pow (by omega) (by omega)
  omega
 ·omega
def itN : Nat → Nat → Nat
 | 0, x => x
 | k + 1, x => itN k (stN x)
theorem itN_lt : ∀ (k : Nat) {x : Nat}, x < 4294967296 → itN k x < 4294967296
 | 0, _, h => h
 | k + 1, _, h => itN_lt k (stN_lt h)
def crcN : Nat → List Int → Nat
 | x, [] => x
 | x, b :: l => crcN (itN 8 (x ^^^ b.toNat)) l
theorem crcN_cons (x : Nat) (b : Int) (l : List Int) : crcN x (b :: l) = crcN (itN 8 (x ^^^ b.toNat)) l := rfl
def Byt (l : List Int) : Prop := ∀ b ∈ l, 0 ≤ b ∧ b < 256
theorem mix_lt {x : Nat} (hx : x < 4294967296) {b : Int} (hb : 0 ≤ b ∧ b < 256) : x ^^^ b.toNat < 4294967296 := by
 have h' : x ^^^ b.toNat < 2 ^ 32 := Nat.xor_lt_two_pow (by omega) (by omega)
 omega
theorem byt_bytes (s : ByteArray) : Byt (bytesL s) := by
 intro b hb
 obtain ⟨i, hi, rfl⟩ := List.getElem_of_mem hb
 obtain ⟨k, hk⟩ := byte_in s i hi
 rw [hk]
 have := k.isLt
 omega
def sumN (s : ByteArray) : Nat := crcN 4294967295 (bytesL s) ^^^ 4294967295
theorem crc8_eq (n : Nat) (i6 : Int) (rec : Int → Int → Option Int) : ∀ (m i x : Nat), i ≤ 8 → 8 - i < m → x < 4294967296 → F47_l15 n i6 rec m (x : Int) (i : Int) = rec (itN (8 - i) x : Nat) (IntKind.wrap .i64 (i6 + 1))
 | 0, i, x, _, h, _ => by omega
 | m + 1, i, x, hi, h, hx => by
  unfold F47_l15
  by_cases hlt : i < 8
  ·rw [if_pos (by rw [decide_eq_true_eq]; omega), dsucc (by simp only [maxLen]; omega), and1_nat hx, shr1_nat]
   have e : 8 - i = (8 - (i + 1)) + 1 := by omega
   rw [e, itN]
   have ih := crc8_eq n i6 rec m (i + 1) (stN x) (by omega) (by omega) (stN_lt hx)
   rw [← ih]
   unfold stN
   by_cases hp : x % 2 = 1
   ·rw [if_pos (by simpa using hp), if_pos hp]
    have := xor_nat (a := x / 2) (b := 3988292384) (by omega) (by omega)
    have e2 : ((3988292384 : Nat) : Int) = 3988292384 := rfl
    rw [e2] at this
    rw [this]
   ·rw [if_neg (by simpa using hp), if_neg hp]
  ·have : i = 8 := by omega
   subst this
   rw [if_neg (by decide)]
   rfl
theorem sum_l {n : Nat} (hn : 1 ≤ n) (s : ByteArray) (hs : s.size ≤ 100000) : ∀ (m i x : Nat), i ≤ (bytesL s).length → (bytesL s).length - i < m → x < 4294967296 → F47_l7 n s m (x : Int) (i : Int) = some ((crcN x ((bytesL s).drop i) ^^^ 4294967295 : Nat) : Int)
 | 0, i, _, _, h, _ => by omega
 | m + 1, i, x, hi, h, hx => by
  unfold F47_l7
  have hB := byt_bytes s
  by_cases hlt : i < (bytesL s).length
  ·have hb := bytesL_len s
   have hbb := hB _ (List.getElem_mem hlt)
   rw [if_pos (lt_dec hlt), ixg (bytesL s) i hlt, dropS _ _ hlt, crcN_cons]
   simp only [Option.bind_some]
   have ew : IntKind.wrap .u32 (bytesL s)[i] = (((bytesL s)[i].toNat : Nat) : Int) := by
    simp [IntKind.wrap, IntKind.bits, IntKind.signed]; omega
   rw [ew, xor_nat hx (by omega)]
   have hc := crc8_eq n (i : Int) (F47_l7 n s m) (n + 8) 0 (x ^^^ (bytesL s)[i].toNat) (by omega) (by omega) (mix_lt hx hbb)
   have hc' : F47_l15 n (i : Int) (F47_l7 n s m) (n + 8) ((x ^^^ (bytesL s)[i].toNat : Nat) : Int) 0 = _ := hc
   rw [hc', dsucc (by simp only [maxLen]; omega)]
   exact sum_l hn s hs m (i + 1) _ (by omega) (by omega) (itN_lt 8 (mix_lt hx hbb))
  ·rw [if_neg (by rw [ge_dec hlt]; decide), List.drop_of_length_le (by omega)]
   have := xor_nat (a := x) (b := 4294967295) hx (by omega)
   have e2 : ((4294967295 : Nat) : Int) = 4294967295 := rfl
   rw [e2] at this
   rw [this]; rfl
theorem sum_eq {n : Nat} {s : ByteArray} (hs : s.size ≤ 100000) (hn : s.size ≤ n) (hn1 : 1 ≤ n) : F47 n s = some ((sumN s : Nat) : Int) := by
 have := sum_l hn1 s hs (n + 8) 0 4294967295 (by omega) (by rw [bytesL_len]; omega) (by omega)
 exact this
def toldB (c : Nat) : ByteArray := mkStr [((c % 256 : Nat) : Int), ((c / 256 % 256 : Nat) : Int), ((c / 65536 % 256 : Nat) : Int), ((c / 16777216 % 256 : Nat) : Int)]
theorem shr_nat (a k : Nat) (hk : k ≤ 32) : shrI .u32 (a : Int) (k : Int) = ((a / 2 ^ k : Nat) : Int) := by
 show Int.fdiv (a : Int) (2 ^ (min (k : Int).toNat 32)) = _
 rw [Int.toNat_natCast, Nat.min_eq_left hk, Int.fdiv_eq_ediv_of_nonneg _ (Int.le_of_lt (Int.pow_pos (by decide)))]
 push_cast
 rfl
theorem told_eq (n c : Nat) : F46 n (c : Int) = some (toldB c) := by
 unfold F46 toldB
 have h8 := shr_nat c 8 (by omega)
 have h16 := shr_nat c 16 (by omega)
 have h24 := shr_nat c 24 (by omega)
 have e8 : ((8 : Nat) : Int) = 8 := rfl
 have e16 : ((16 : Nat) : Int) = 16 := rfl
 have e24 : ((24 : Nat) : Int) = 24 := rfl
 rw [e8] at h8; rw [e16] at h16; rw [e24] at h24
 rw [h8, h16, h24]
 simp only [wrap_u8]
 norm_cast
theorem toldB_size (c : Nat) : (toldB c).size = 4 := by rw [toldB, mkStr_size]; rfl
theorem wrapB_eq {n : Nat} {s : ByteArray} (hn : 10 ≤ n) (hs : s.size ≤ 100000) (hn2 : s.size ≤ n) (htx : F45 n s = some (tx s)) : F21 n s = some (tx s ++ toldB (sumN s)) := by
 unfold F21
 rw [htx, sum_eq hs hn2 (by omega)]
 simp only [Option.bind_some, told_eq]
 have h1 := (tx_size s).1
 rw [if_pos (by rw [toldB_size]; omega)]
theorem imax4 : IntKind.wrap .u64 (imax 40000 0) = 40000 := rfl
theorem textsL_tx {n : Nat} (hn : 10 ≤ n) (t r : ByteArray) (ht : t.size ≤ 40000) (hs : (tx t ++ r).size ≤ 100000) : F56 n (tx t ++ r) 40000 = some (t, ((tx t).size : Int), 0) := by
 have hp : pu (t.size : Int) = pt (t.size : Int) := pu_small (by omega) (by omega)
 have e : tx t ++ r = pt (t.size : Int) ++ (t ++ r) := by rw [tx, hp, ba_assoc]
 have hp1 := pt_size (t.size : Int)
 have hsz : (tx t).size = (pt (t.size : Int)).size + t.size := by rw [tx, hp, ba_size]
 rw [e] at hs ⊢
 have hss : (pt (t.size : Int) ++ (t ++ r)).size = (pt (t.size : Int)).size + (t.size + r.size) := by rw [ba_size, ba_size]
 unfold F56
 rw [get_pt n hn _ (by omega) (by omega) _ hs]
 have m1 := imax4
 have w0 : IntKind.wrap .u64 (IntKind.wrap .i64 (((pt (t.size : Int) ++ (t ++ r)).size : Int) - ((pt (t.size : Int)).size : Int))) = t.size + r.size := by
  rw [w64 (by omega) (by omega), wrap_u64]; omega
 have c1 : decide ((40000 : Int) < (t.size : Int)) = false := by rw [decide_eq_false_iff_not]; omega
 have c2 : decide (((t.size : Int) + r.size) < (t.size : Int)) = false := by rw [decide_eq_false_iff_not]; omega
 have w1 : IntKind.wrap .i64 (t.size : Int) = t.size := w64 (by omega) (by omega)
 have w2 : IntKind.wrap .i64 (((pt (t.size : Int)).size : Int) + t.size) = ((pt (t.size : Int)).size : Int) + t.size := w64 (by omega) (by omega)
 simp only [Option.bind_some, bne_self_eq_false, Bool.false_eq_true, if_false, m1, w0, c1, c2, w1, w2]
 rw [if_pos (by omega), hsz]
 have e3 : (((pt (t.size : Int)).size : Int) + (t.size : Int)).toNat = (pt (t.size : Int)).size + t.size := by omega
 have e4 : (((pt (t.size : Int)).size : Nat) : Int).toNat = (pt (t.size : Int)).size := rfl
 rw [e3, e4, ext_mid]
 push_cast
 rfl
theorem open_eq {n : Nat} (hn : 60000 ≤ n) {B T R : ByteArray} (hB : B.size ≤ 40000) (hT : T.size = 4) (hR : R.size ≤ 1000) : F27 n (tx B ++ (T ++ R)) = some (if T.toList == (toldB (sumN B)).toList then (B, ((tx B).size : Int) + 4, 0) else (ByteArray.empty, 0, 12)) := by
 have h1 := tx_size B
 have hs : (tx B ++ (T ++ R)).size = (tx B).size + (4 + R.size) := by rw [ba_size, ba_size, hT]
 unfold F27
 rw [textsL_tx (by omega) B (T ++ R) hB (by omega)]
 have w1 : IntKind.wrap .i64 (((tx B ++ (T ++ R)).size : Int) - ((tx B).size : Int)) = 4 + R.size := by rw [w64 (by omega) (by omega)]; omega
 have w2 : IntKind.wrap .i64 (((tx B).size : Int) + 4) = ((tx B).size : Int) + 4 := w64 (by omega) (by omega)
 have c1 : decide ((4 : Int) + R.size < 4) = false := by rw [decide_eq_false_iff_not]; omega
 simp only [Option.bind_some, bne_self_eq_false, Bool.false_eq_true, if_false, w1, w2, c1]
 have e3 : (((tx B).size : Int) + 4).toNat = (tx B).size + T.size := by omega
 have e4 : (((tx B).size : Nat) : Int).toNat = (tx B).size := rfl
 rw [if_pos (by omega), sum_eq (by omega) (by omega) (by omega), Option.bind_some, told_eq, Option.bind_some, e3, e4, ext_mid]
 cases (T.toList == (toldB (sumN B)).toList) <;> rfl
theorem zsuccU {i : Nat} (h : i < 100000) : IntKind.wrap .u64 ((i : Int) + 1) = ((i + 1 : Nat) : Int) := by
 simp [IntKind.wrap, IntKind.bits, IntKind.signed]; omega
section
variable {n : Nat} (hn : 10 ≤ n) (L : List Thing) (hL : L.length ≤ 200) (hT : ∀ t ∈ L, isTh t = true) (hW : ∀ t ∈ L, t.wf) (r1 : Int × Int × Int) (h1 : r1.1 = (L.length : Int))
include hn hL hT hW h1
end
theorem get_tot (n : Nat) (s : ByteArray) (hs : s.size ≤ 100000) (hn : s.size ≤ n) : ∃ r, F82 n s = some r ∧ GetR s r := by
 obtain ⟨r, q1, _, q3⟩ := get_eq n s hs hn
 exact ⟨r, q1, q3⟩
theorem texts_tot (n : Nat) (s : ByteArray) (hs : s.size ≤ 100000) (hn : s.size ≤ n) {L : Int} (hL : 0 ≤ L ∧ L ≤ 1000000) : ∃ r, F56 n s L = some r ∧ TxtR s r := by
 obtain ⟨r, q1, q3⟩ := get_tot n s hs hn
 have m1 : IntKind.wrap .u64 (imax L 0) = L := by
  have : imax L 0 = L := by unfold imax; split <;> omega
  rw [this, wrap_u64]; omega
 unfold F56
 simp only [q1, Option.bind_some, m1]
 rcases q3 with ⟨e0, k1, k2, u0, u1⟩ | ⟨e0, h1, h2⟩
 ·have hb : (r.2.2 != 0) = false := by simp [e0]
  have hz : IntKind.wrap .u64 (IntKind.wrap .i64 ((s.size : Int) - r.2.1)) = s.size - r.2.1 := by rw [w64 (by omega) (by omega), wrap_u64]; omega
  simp only [hb, Bool.false_eq_true, if_false, hz]
  by_cases c1 : L < r.1
  ·simp only [c1, decide_true, if_true]
   exact ⟨_, rfl, .inr ⟨by decide, rfl, rfl⟩⟩
  ·simp only [c1, decide_false, Bool.false_eq_true, if_false]
   by_cases c2 : (s.size : Int) - r.2.1 < r.1
   ·simp only [c2, decide_true, if_true]
    exact ⟨_, rfl, .inr ⟨by decide, rfl, rfl⟩⟩
   ·simp only [c2, decide_false, Bool.false_eq_true, if_false]
    have w1 : IntKind.wrap .i64 r.1 = r.1 := w64 (by omega) (by omega)
    have w2 : IntKind.wrap .i64 (r.2.1 + r.1) = r.2.1 + r.1 := w64 (by omega) (by omega)
    simp only [w1, w2]
    rw [if_pos (by omega)]
    exact ⟨_, rfl, .inl ⟨rfl, by simp only; omega, by simp only; omega⟩⟩
 ·have hb : (r.2.2 != 0) = true := by simp [e0]
  simp only [hb, if_true]
  exact ⟨_, rfl, .inr ⟨e0, rfl, rfl⟩⟩
theorem ints_tot (n : Nat) (s : ByteArray) (hs : s.size ≤ 100000) (hn : s.size ≤ n) : ∃ r, F85 n s = some r ∧ ((r.2.2 = 0 ∧ 1 ≤ r.2.1 ∧ r.2.1 ≤ (s.size : Int)) ∨ (r.2.2 ≠ 0 ∧ r.2.1 = 0)) := by
 obtain ⟨r, q1, q3⟩ := get_tot n s hs hn
 unfold F85 F95
 simp only [q1, Option.bind_some]
 refine ⟨_, rfl, ?_⟩
 rcases q3 with ⟨e0, k1, k2, _, _⟩ | ⟨e0, h1, h2⟩
 ·exact .inl ⟨e0, k1, k2⟩
 ·exact .inr ⟨e0, h2⟩
def At (s : ByteArray) (g : Reader_fields) : Prop := g.s = s ∧ 0 ≤ g.at_ ∧ g.at_ ≤ (s.size : Int)
def DR (s : ByteArray) (r : Delta × Int × Int) : Prop := 0 ≤ r.2.1 ∧ r.2.1 ≤ (s.size : Int)
theorem d0 {s : ByteArray} {d : Delta} {e : Int} : DR s (d, 0, e) := ⟨Int.le_refl _, by show (0 : Int) ≤ _; omega⟩
theorem t39 {n : Nat} {s : ByteArray} {r1 r2 r4 r5 : Int × Reader_fields} {g : Reader_fields} (h : At s g) (i1 : Int) (s1 : ByteArray) (i2 : Int) (s2 : ByteArray) (i3 : Int) (s3 : ByteArray) (i4 : Int) (s4 : ByteArray) : ∃ r, F98_j39 n r1 r2 r4 r5 g i1 s1 i2 s2 i3 s3 i4 s4 = some r ∧ DR s r := by
 unfold F98_j39
 split
 ·exact ⟨_, rfl, d0⟩
 ·rw [isD_eq, Option.bind_some]
  split
  ·exact ⟨_, rfl, d0⟩
  ·exact ⟨_, rfl, h.2.1, h.2.2⟩
theorem t74 {n : Nat} {s : ByteArray} {r1 r2 : Int × Reader_fields} {g : Reader_fields} (h : At s g) (i1 : Int) (s1 : ByteArray) (i2 : Int) (s2 : ByteArray) (i3 : Int) (s3 : ByteArray) (i4 : Int) (s4 : ByteArray) : ∃ r, F98_j74 n r1 r2 g i1 s1 i2 s2 i3 s3 i4 s4 = some r ∧ DR s r := by
 unfold F98_j74
 split
 ·exact ⟨_, rfl, d0⟩
 ·rw [isD_eq, Option.bind_some]
  split
  ·exact ⟨_, rfl, d0⟩
  ·exact ⟨_, rfl, h.2.1, h.2.2⟩
section
variable {n : Nat} {s : ByteArray} (hs : s.size ≤ 100000) (hn : s.size ≤ n)
include hs hn
theorem fnum_tot {g : Reader_fields} (h : At s g) : ∃ v g', F100 n g = some (v, g') ∧ At s g' := by
 obtain ⟨gs, ga, ge⟩ := g
 obtain ⟨rfl, h0, h1⟩ := h
 simp only at h0 h1 hs hn
 unfold F100 F102
 split
 ·exact ⟨_, _, rfl, rfl, h0, h1⟩
 ·dsimp only
  have z1 := ext_size gs ga h0 h1
  obtain ⟨r, q1, q3⟩ := get_tot n (gs.extract ga.toNat gs.size) (by omega) (by omega)
  rw [if_pos ⟨h0, h1⟩, q1, Option.bind_some, Option.bind_some]
  refine ⟨_, _, rfl, rfl, ?_⟩
  rcases q3 with ⟨_, k1, k2, _, _⟩ | ⟨_, _, k1⟩
  ·have w : IntKind.wrap .i64 (ga + r.2.1) = ga + r.2.1 := w64 (by omega) (by omega)
   simp only [w]; omega
  ·have w : IntKind.wrap .i64 (ga + r.2.1) = ga := by rw [k1, w64 (by omega) (by omega)]; omega
   simp only [w]; omega
theorem ffld_tot {g : Reader_fields} (h : At s g) : ∃ v g', F101 n g = some (v, g') ∧ At s g' := by
 obtain ⟨gs, ga, ge⟩ := g
 obtain ⟨rfl, h0, h1⟩ := h
 simp only at h0 h1 hs hn
 unfold F101 F102
 split
 ·exact ⟨_, _, rfl, rfl, h0, h1⟩
 ·dsimp only
  have z1 := ext_size gs ga h0 h1
  obtain ⟨r, q1, q3⟩ := texts_tot n (gs.extract ga.toNat gs.size) (by omega) (by omega) (L := 12) (by omega)
  rw [if_pos ⟨h0, h1⟩, q1, Option.bind_some, Option.bind_some]
  have hr : 0 ≤ IntKind.wrap .i64 (ga + r.2.1) ∧ IntKind.wrap .i64 (ga + r.2.1) ≤ (gs.size : Int) := by
   rcases q3 with ⟨_, k1, k2⟩ | ⟨_, _, k1⟩
   ·rw [w64 (by omega) (by omega)]; omega
   ·rw [k1, w64 (by omega) (by omega)]; omega
  generalize IntKind.wrap .i64 (ga + r.2.1) = b at hr ⊢
  dsimp only
  split
  ·split
   ·have z2 := ext_size gs b hr.1 hr.2
    obtain ⟨v, p1, p3⟩ := ints_tot n (gs.extract b.toNat gs.size) (by omega) (by omega)
    try rw [if_pos hr]
    rw [p1, Option.bind_some, Option.bind_some]
    refine ⟨_, _, rfl, rfl, ?_⟩
    rcases p3 with ⟨_, k1, k2⟩ | ⟨_, k1⟩
    ·have w : IntKind.wrap .i64 (b + v.2.1) = b + v.2.1 := w64 (by omega) (by omega)
     simp only [w]; omega
    ·have w : IntKind.wrap .i64 (b + v.2.1) = b := by rw [k1, w64 (by omega) (by omega)]; omega
     simp only [w]; omega
   ·exact ⟨_, _, rfl, rfl, hr⟩
  ·exact ⟨_, _, rfl, rfl, hr⟩
theorem fstep {g : Reader_fields} (h : At s g) (b : Bool) (G : Field × Reader_fields → Option (Delta × Int × Int)) (H : Option (Delta × Int × Int)) (hG : ∀ v g', At s g' → ∃ r, G (v, g') = some r ∧ DR s r) (hH : ∃ r, H = some r ∧ DR s r) :
  ∃ r, (if b = true then (F101 n g).bind G else H) = some r ∧ DR s r := by
 cases b with
 | false => exact hH
 | true =>
  obtain ⟨v, g', q, hg⟩ := ffld_tot hs hn h
  simp only [if_true, q, Option.bind_some]
  exact hG v g' hg
theorem t23 {r1 r2 r4 r5 : Int × Reader_fields} {g : Reader_fields} (h : At s g) (i1 : Int) (s1 : ByteArray) (i2 : Int) (s2 : ByteArray) (i3 : Int) (s3 : ByteArray) : ∃ r, F98_u23 n r1 r2 r4 r5 i1 s1 i2 s2 g i3 s3 = some r ∧ DR s r := by
 unfold F98_u23
 split
 ·exact t39 h _ _ _ _ _ _ _ _
 ·rw [has3, Option.bind_some]
  exact fstep hs hn h _ _ _ (fun v g' hg => t39 hg _ _ _ _ _ _ _ _) (t39 h _ _ _ _ _ _ _ _)
theorem t17 {r1 r2 r4 r5 : Int × Reader_fields} {g : Reader_fields} (h : At s g) (i1 : Int) (s1 : ByteArray) (i2 : Int) (s2 : ByteArray) : ∃ r, F98_u17 n r1 r2 r4 r5 i1 s1 g i2 s2 = some r ∧ DR s r := by
 unfold F98_u17
 split
 ·exact t39 h _ _ _ _ _ _ _ _
 ·rw [has2, Option.bind_some]
  exact fstep hs hn h _ _ _ (fun v g' hg => t23 hs hn hg _ _ _ _ _ _) (t23 hs hn h _ _ _ _ _ _)
theorem t11 {r1 r2 r4 r5 : Int × Reader_fields} {g : Reader_fields} (h : At s g) (i1 : Int) (s1 : ByteArray) : ∃ r, F98_u11 n r1 r2 r4 r5 g i1 s1 = some r ∧ DR s r := by
 unfold F98_u11
 split
 ·exact t39 h _ _ _ _ _ _ _ _
 ·rw [has1, Option.bind_some]
  exact fstep hs hn h _ _ _ (fun v g' hg => t17 hs hn hg _ _ _ _) (t17 hs hn h _ _ _ _)
theorem t58 {r1 r2 : Int × Reader_fields} {g : Reader_fields} (h : At s g) (i1 : Int) (s1 : ByteArray) (i2 : Int) (s2 : ByteArray) (i3 : Int) (s3 : ByteArray) : ∃ r, F98_u58 n r1 r2 i1 s1 i2 s2 g i3 s3 = some r ∧ DR s r := by
 unfold F98_u58
 split
 ·exact t74 h _ _ _ _ _ _ _ _
 ·rw [has3, Option.bind_some]
  exact fstep hs hn h _ _ _ (fun v g' hg => t74 hg _ _ _ _ _ _ _ _) (t74 h _ _ _ _ _ _ _ _)
theorem t52 {r1 r2 : Int × Reader_fields} {g : Reader_fields} (h : At s g) (i1 : Int) (s1 : ByteArray) (i2 : Int) (s2 : ByteArray) : ∃ r, F98_u52 n r1 r2 i1 s1 g i2 s2 = some r ∧ DR s r := by
 unfold F98_u52
 split
 ·exact t74 h _ _ _ _ _ _ _ _
 ·rw [has2, Option.bind_some]
  exact fstep hs hn h _ _ _ (fun v g' hg => t58 hs hn hg _ _ _ _ _ _) (t58 hs hn h _ _ _ _ _ _)
theorem t46 {r1 r2 : Int × Reader_fields} {g : Reader_fields} (h : At s g) (i1 : Int) (s1 : ByteArray) : ∃ r, F98_u46 n r1 r2 g i1 s1 = some r ∧ DR s r := by
 unfold F98_u46
 split
 ·exact t74 h _ _ _ _ _ _ _ _
 ·rw [has1, Option.bind_some]
  exact fstep hs hn h _ _ _ (fun v g' hg => t52 hs hn hg _ _ _ _) (t52 hs hn h _ _ _ _)
theorem t3 {r1 r2 : Int × Reader_fields} (h : At s r2.2) : ∃ r, F98_j3 n r1 r2 = some r ∧ DR s r := by
 unfold F98_j3
 split
 ·obtain ⟨v4, g4, q4, h4⟩ := fnum_tot hs hn h
  obtain ⟨v5, g5, q5, h5⟩ := fnum_tot hs hn h4
  rw [q4, Option.bind_some, q5, Option.bind_some]
  split
  ·exact t39 h5 _ _ _ _ _ _ _ _
  ·rw [has0, Option.bind_some]
   exact fstep hs hn h5 _ _ _ (fun v g' hg => t11 hs hn hg _ _) (t11 hs hn h5 _ _)
 ·split
  ·exact t74 h _ _ _ _ _ _ _ _
  ·rw [has0, Option.bind_some]
   exact fstep hs hn h _ _ _ (fun v g' hg => t46 hs hn hg _ _) (t46 hs hn h _ _)
theorem fread_tot : ∃ r, F98 n s = some r ∧ DR s r := by
 obtain ⟨v1, g1, q1, h1⟩ := fnum_tot hs hn (g := ⟨s, 0, 0⟩) ⟨rfl, Int.le_refl _, by show (0 : Int) ≤ _; omega⟩
 obtain ⟨v2, g2, q2, h2⟩ := fnum_tot hs hn h1
 unfold F98
 rw [q1, Option.bind_some, q2, Option.bind_some]
 split
 ·split
  ·exact ⟨_, rfl, d0⟩
  ·split
   ·exact ⟨_, rfl, d0⟩
   ·split
    ·exact ⟨_, rfl, d0⟩
    ·exact t3 hs hn h2
 ·exact t3 hs hn h2
theorem tread_tot : ∃ r, F94 n s = some r ∧ 0 ≤ r.2.1 ∧ r.2.1 ≤ (s.size : Int) := by
 obtain ⟨r, q, h⟩ := fread_tot hs hn
 unfold F94
 rw [q, Option.bind_some]
 split
 ·exact ⟨_, rfl, Int.le_refl _, by show (0 : Int) ≤ _; omega⟩
 ·split
  ·exact ⟨_, rfl, Int.le_refl _, by show (0 : Int) ≤ _; omega⟩
  ·exact ⟨_, rfl, h⟩
theorem some_tot_l (r1 : Int × Int × Int) (h0 : 0 ≤ r1.1) (h1 : r1.1 ≤ 200) : ∀ (m i : Nat) (a : Int) (l : List Thing), l.length = i → (i : Int) ≤ r1.1 → r1.1.toNat - i < m → 0 ≤ a → a ≤ (s.size : Int) →
  ∃ r, F83_l11 n s r1 m a l (i : Int) = some r ∧ r.1.length ≤ 200 ∧ 0 ≤ r.2.1 ∧ r.2.1 ≤ (s.size : Int)
 | 0, i, _, _, _, _, h, _, _ => by omega
 | m + 1, i, a, l, hl, hi, hm, ha, hb => by
  unfold F83_l11
  by_cases hlt : (i : Int) < r1.1
  ·have z1 := ext_size s a ha hb
   obtain ⟨t, q, k1, k2⟩ := tread_tot (n := n) (s := s.extract a.toNat s.size) (by omega) (by omega)
   rw [if_pos (by simpa using hlt), if_pos ⟨ha, hb⟩, q, Option.bind_some]
   have j14 : ∃ r, F83_j14 n a l (i : Int) t (F83_l11 n s r1 m) = some r ∧ r.1.length ≤ 200 ∧ 0 ≤ r.2.1 ∧ r.2.1 ≤ (s.size : Int) := by
    unfold F83_j14
    have w : IntKind.wrap .i64 (a + t.2.1) = a + t.2.1 := w64 (by omega) (by omega)
    rw [if_pos (by rw [hl]; simp only [maxCells]; omega), w, zsuccU (by omega)]
    exact some_tot_l r1 h0 h1 m (i + 1) (a + t.2.1) (l ++ [t.1]) (by simp [hl]) (by omega) (by omega) (by omega) (by omega)
   split
   ·exact ⟨_, rfl, by simp, Int.le_refl _, by show (0 : Int) ≤ _; omega⟩
   ·by_cases hl0 : (0 : Int) < (l.length : Int)
    ·rw [if_pos (by simpa using hl0)]
     have hx : ix l (IntKind.wrap .i64 ((l.length : Int) - 1)) = some (l[l.length - 1]'(by omega)) := by
      have w : IntKind.wrap .i64 ((l.length : Int) - 1) = ((l.length - 1 : Nat) : Int) := by rw [w64 (by omega) (by omega)]; omega
      rw [w, ixg]
     rw [hx, Option.bind_some]
     split
     ·exact ⟨_, rfl, by simp, Int.le_refl _, by show (0 : Int) ≤ _; omega⟩
     ·exact j14
    ·rw [if_neg (by simpa using hl0)]
     exact j14
  ·rw [if_neg (by simpa using hlt)]
   exact ⟨_, rfl, by simp only; omega, ha, hb⟩
theorem some_tot (hn2 : 300 ≤ n) : ∃ r, F83 n s = some r ∧ r.1.length ≤ 200 ∧ 0 ≤ r.2.1 ∧ r.2.1 ≤ (s.size : Int) := by
 obtain ⟨r, q, h⟩ := get_tot n s hs hn
 unfold F83
 rw [q, Option.bind_some]
 have z : ∃ x : List Thing × Int × Int, some (([] : List Thing), (0 : Int), (13 : Int)) = some x ∧ x.1.length ≤ 200 ∧ 0 ≤ x.2.1 ∧ x.2.1 ≤ (s.size : Int) := ⟨_, rfl, by simp, Int.le_refl _, by show (0 : Int) ≤ _; omega⟩
 split
 ·exact ⟨_, rfl, by simp, Int.le_refl _, by show (0 : Int) ≤ _; omega⟩
 ·rename_i hne
  split
  ·exact z
  ·rename_i hgt
   rcases h with ⟨_, k1, k2, u0, _⟩ | ⟨e0, _, _⟩
   ·have hgt' : r.1 ≤ 200 := by simpa using hgt
    exact some_tot_l hs hn r u0 hgt' (n + 8) 0 r.2.1 [] rfl (by omega) (by omega) (by omega) k2
   ·exact absurd (by simpa using e0) hne
end
def isEr (e : Int) : Prop := e = 10 ∨ e = 11 ∨ e ≠ 0
theorem isEr_ne {e : Int} (h : isEr e) : e ≠ 0 := by unfold isEr at h; omega
theorem wrap_i64' (x : Int) : IntKind.wrap .i64 x = (x + 9223372036854775808) % 18446744073709551616 - 9223372036854775808 := by
 simp [IntKind.wrap, IntKind.bits, IntKind.signed]; omega
theorem texts_ct (n : Nat) (s : ByteArray) (hs : s.size ≤ 100000) (hn : s.size ≤ n) : ∃ r, F56 n s 12 = some r ∧ ((r.2.2 = 0 ∧ 1 ≤ r.2.1 ∧ r.2.1 ≤ (s.size : Int)) ∨ (isEr r.2.2 ∧ r.1 = ByteArray.empty ∧ r.2.1 = 0)) := by
 obtain ⟨r, q, h⟩ := texts_tot n s hs hn (L := 12) (by omega)
 refine ⟨r, q, ?_⟩
 rcases h with h | ⟨h1, h2⟩
 ·exact .inl h
 ·exact .inr ⟨.inr (.inr h1), h2⟩
theorem ints_ct (n : Nat) (s : ByteArray) (hs : s.size ≤ 100000) (hn : s.size ≤ n) : ∃ r, F85 n s = some r ∧ (-9223372036854775808 ≤ r.1 ∧ r.1 < 9223372036854775808) ∧ ((r.2.2 = 0 ∧ 1 ≤ r.2.1 ∧ r.2.1 ≤ (s.size : Int)) ∨ (isEr r.2.2 ∧ r.2.1 = 0)) := by
 obtain ⟨r, q1, q3⟩ := get_tot n s hs hn
 have wi : ∀ x, -9223372036854775808 ≤ IntKind.wrap .i64 x ∧ IntKind.wrap .i64 x < 9223372036854775808 := fun x => by rw [wrap_i64']; omega
 unfold F85 F95
 simp only [q1, Option.bind_some]
 refine ⟨_, rfl, wi _, ?_⟩
 rcases q3 with ⟨e0, k1, k2, _, _⟩ | ⟨e0, h1, h2⟩
 ·exact .inl ⟨e0, k1, k2⟩
 ·exact .inr ⟨.inr (.inr e0), h2⟩
def Ends (s : ByteArray) (e a : Int) : Prop := (e = 0 ∨ isEr e) ∧ 0 ≤ a ∧ a ≤ (s.size : Int)
theorem num_tot {n : Nat} {s : ByteArray} (hs : s.size ≤ 100000) (hn : s.size ≤ n) {a : Int} (h0 : 0 ≤ a) (h1 : a ≤ (s.size : Int)) :
  ∃ r, F84s0 n s a = some r ∧ I64 r.1 ∧ Ends s r.2.1 r.2.2 := by
 have hz := ext_size s a h0 h1
 obtain ⟨r, q1, q2, q3⟩ := ints_ct n (s.extract a.toNat s.size) (by omega) (by omega)
 unfold F84s0
 rw [if_pos ⟨h0, h1⟩, q1, Option.bind_some]
 refine ⟨_, rfl, q2, ?_⟩
 rcases q3 with ⟨e0, k1, k2⟩ | ⟨e0, k1⟩
 ·have w : IntKind.wrap .i64 (a + r.2.1) = a + r.2.1 := w64 (by omega) (by omega)
  exact ⟨.inl e0, by simp only [w]; omega, by simp only [w]; omega⟩
 ·have w : IntKind.wrap .i64 (a + r.2.1) = a := by rw [k1, w64 (by omega) (by omega)]; omega
  exact ⟨.inr e0, by simp only [w]; omega, by simp only [w]; omega⟩
def WR (s : ByteArray) (c : Command) (r : Int × Command × Int) : Prop := Ends s r.1 r.2.2 ∧ r.2.1.F = c.F ∧ r.2.1.Value = c.Value
theorem whole0_tot {n : Nat} {s : ByteArray} (hs : s.size ≤ 100000) (hn : s.size ≤ n) (c : Command) {a : Int} (h0 : 0 ≤ a) (h1 : a ≤ (s.size : Int)) : ∃ r, F86s0 n c s a = some r ∧ WR s c r := by
 unfold F86s0
 obtain ⟨r0, q0, _, b0⟩ := num_tot hs hn h0 h1
 rw [q0, Option.bind_some]
 split
 ·exact ⟨_, rfl, b0, rfl, rfl⟩
 obtain ⟨r1, q1, _, b1⟩ := num_tot hs hn b0.2.1 b0.2.2
 rw [q1, Option.bind_some]
 split
 ·exact ⟨_, rfl, b1, rfl, rfl⟩
 obtain ⟨r2, q2, _, b2⟩ := num_tot hs hn b1.2.1 b1.2.2
 rw [q2, Option.bind_some]
 split
 ·exact ⟨_, rfl, b2, rfl, rfl⟩
 exact ⟨_, rfl, ⟨.inl rfl, b2.2⟩, rfl, rfl⟩
theorem whole1_tot {n : Nat} {s : ByteArray} (hs : s.size ≤ 100000) (hn : s.size ≤ n) (c : Command) {a : Int} (h0 : 0 ≤ a) (h1 : a ≤ (s.size : Int)) : ∃ r, F86s1 n c s a = some r ∧ WR s c r := by
 unfold F86s1
 obtain ⟨r0, q0, _, b0⟩ := num_tot hs hn h0 h1
 rw [q0, Option.bind_some]
 split
 ·exact ⟨_, rfl, b0, rfl, rfl⟩
 obtain ⟨r1, q1, _, b1⟩ := num_tot hs hn b0.2.1 b0.2.2
 rw [q1, Option.bind_some]
 split
 ·exact ⟨_, rfl, b1, rfl, rfl⟩
 obtain ⟨r2, q2, _, b2⟩ := num_tot hs hn b1.2.1 b1.2.2
 rw [q2, Option.bind_some]
 split
 ·exact ⟨_, rfl, b2, rfl, rfl⟩
 obtain ⟨r3, q3, _, b3⟩ := num_tot hs hn b2.2.1 b2.2.2
 rw [q3, Option.bind_some]
 split
 ·exact ⟨_, rfl, b3, rfl, rfl⟩
 exact ⟨_, rfl, ⟨.inl rfl, b3.2⟩, rfl, rfl⟩
theorem whole2_tot {n : Nat} {s : ByteArray} (hs : s.size ≤ 100000) (hn : s.size ≤ n) (c : Command) {a : Int} (h0 : 0 ≤ a) (h1 : a ≤ (s.size : Int)) : ∃ r, F86s2 n c s a = some r ∧ WR s c r := by
 unfold F86s2
 obtain ⟨r0, q0, _, b0⟩ := num_tot hs hn h0 h1
 rw [q0, Option.bind_some]
 split
 ·exact ⟨_, rfl, b0, rfl, rfl⟩
 obtain ⟨r1, q1, _, b1⟩ := num_tot hs hn b0.2.1 b0.2.2
 rw [q1, Option.bind_some]
 split
 ·exact ⟨_, rfl, b1, rfl, rfl⟩
 exact ⟨_, rfl, ⟨.inl rfl, b1.2⟩, rfl, rfl⟩
theorem whole3_tot {n : Nat} {s : ByteArray} (hs : s.size ≤ 100000) (hn : s.size ≤ n) (c : Command) {a : Int} (h0 : 0 ≤ a) (h1 : a ≤ (s.size : Int)) : ∃ r, F86s3 n c s a = some r ∧ WR s c r := by
 unfold F86s3
 obtain ⟨r0, q0, _, b0⟩ := num_tot hs hn h0 h1
 rw [q0, Option.bind_some]
 split
 ·exact ⟨_, rfl, b0, rfl, rfl⟩
 exact ⟨_, rfl, ⟨.inl rfl, b0.2⟩, rfl, rfl⟩
theorem whole4_tot {n : Nat} {s : ByteArray} (hs : s.size ≤ 100000) (hn : s.size ≤ n) (c : Command) {a : Int} (h0 : 0 ≤ a) (h1 : a ≤ (s.size : Int)) : ∃ r, F86s4 n c s a = some r ∧ WR s c r := by
 unfold F86s4
 obtain ⟨r0, q0, _, b0⟩ := num_tot hs hn h0 h1
 rw [q0, Option.bind_some]
 split
 ·exact ⟨_, rfl, b0, rfl, rfl⟩
 obtain ⟨r1, q1, _, b1⟩ := num_tot hs hn b0.2.1 b0.2.2
 rw [q1, Option.bind_some]
 split
 ·exact ⟨_, rfl, b1, rfl, rfl⟩
 exact ⟨_, rfl, ⟨.inl rfl, b1.2⟩, rfl, rfl⟩
theorem whole5_tot {n : Nat} {s : ByteArray} (hs : s.size ≤ 100000) (hn : s.size ≤ n) (c : Command) {a : Int} (h0 : 0 ≤ a) (h1 : a ≤ (s.size : Int)) : ∃ r, F86s5 n c s a = some r ∧ WR s c r := by
 unfold F86s5
 obtain ⟨r0, q0, _, b0⟩ := num_tot hs hn h0 h1
 rw [q0, Option.bind_some]
 split
 ·exact ⟨_, rfl, b0, rfl, rfl⟩
 obtain ⟨r1, q1, _, b1⟩ := num_tot hs hn b0.2.1 b0.2.2
 rw [q1, Option.bind_some]
 split
 ·exact ⟨_, rfl, b1, rfl, rfl⟩
 obtain ⟨r2, q2, _, b2⟩ := num_tot hs hn b1.2.1 b1.2.2
 rw [q2, Option.bind_some]
 split
 ·exact ⟨_, rfl, b2, rfl, rfl⟩
 exact ⟨_, rfl, ⟨.inl rfl, b2.2⟩, rfl, rfl⟩
theorem whole6_tot {n : Nat} {s : ByteArray} (hs : s.size ≤ 100000) (hn : s.size ≤ n) (c : Command) {a : Int} (h0 : 0 ≤ a) (h1 : a ≤ (s.size : Int)) : ∃ r, F86s6 n c s a = some r ∧ WR s c r := by
 unfold F86s6
 obtain ⟨r0, q0, _, b0⟩ := num_tot hs hn h0 h1
 rw [q0, Option.bind_some]
 split
 ·exact ⟨_, rfl, b0, rfl, rfl⟩
 obtain ⟨r1, q1, _, b1⟩ := num_tot hs hn b0.2.1 b0.2.2
 rw [q1, Option.bind_some]
 split
 ·exact ⟨_, rfl, b1, rfl, rfl⟩
 exact ⟨_, rfl, ⟨.inl rfl, b1.2⟩, rfl, rfl⟩
theorem zC_nr : NR zC := ⟨I64_0, I64_0, I64_0, I64_0, I64_0⟩
def RR (s : ByteArray) (r : Command × Int × Int) : Prop :=
 (isEr r.2.2 ∧ r.2.1 = 0 ∧ r.1 = zC) ∨ (r.2.2 = 0 ∧ isC r.1 = true ∧ NR r.1 ∧ r.2.1 = ((byC r.1).size : Int) ∧ (byC r.1).size ≤ s.size ∧ byC r.1 = s.extract 0 (byC r.1).size)
theorem ext0_size (s : ByteArray) (k : Nat) (h : k ≤ s.size) : (s.extract 0 k).size = k := by
 rw [ByteArray.size_extract]; omega
theorem read_j47 {n : Nat} (hn : 10 ≤ n) (s : ByteArray) (g : Command) (hg : NR g) {i : Int} (h0 : 0 ≤ i) (h1 : i ≤ (s.size : Int)) : ∃ r, F59_j47 n s g i = some r ∧ RR s r := by
 unfold F59_j47
 cases hc : isC g with
 | false =>
  rw [bytes_no hc, Option.bind_some, if_pos (by decide)]
  exact ⟨_, rfl, .inl ⟨.inr (.inl rfl), rfl, rfl⟩⟩
 | true =>
  rw [bytes_is hn hc, Option.bind_some, if_neg nz, if_pos ⟨h0, h1⟩]
  simp only
  cases e : ((byC g).toList == (s.extract 0 i.toNat).toList) with
  | false => exact ⟨_, rfl, .inl ⟨.inr (.inl rfl), rfl, rfl⟩⟩
  | true =>
   have q := (toList_eq _ _).1 e
   have hz : (byC g).size = i.toNat := by rw [q, ext0_size _ _ (by omega)]
   refine ⟨_, rfl, .inr ⟨rfl, hc, hg, by simp only; omega, by simp only; omega, ?_⟩⟩
   rw [hz]; exact q
theorem err_of {e : Int} (h : e = 0 ∨ isEr e) (hne : ¬ e = 0) : isEr e := h.resolve_left hne
theorem read_j20 {n : Nat} (hn : 10 ≤ n) (s : ByteArray) (g : Command) (hg : NR g) {e i : Int} (h : Ends s e i) : ∃ r, F59_j20 n s g e i = some r ∧ RR s r := by
 unfold F59_j20
 by_cases he : e = 0
 ·rw [if_neg (by simp [he])]; exact read_j47 hn s g hg h.2.1 h.2.2
 ·rw [if_pos (by simp [he])]; exact ⟨_, rfl, .inl ⟨err_of h.1 he, rfl, rfl⟩⟩
theorem read_j44 {n : Nat} (hn : 10 ≤ n) (s : ByteArray) (g : Command) (hg : NR g) {e i : Int} (h : Ends s e i) : ∃ r, F59_j44 n s g e i = some r ∧ RR s r := by
 unfold F59_j44
 by_cases he : e = 0
 ·rw [if_neg (by simp [he])]; exact read_j47 hn s g hg h.2.1 h.2.2
 ·rw [if_pos (by simp [he])]; exact ⟨_, rfl, .inl ⟨err_of h.1 he, rfl, rfl⟩⟩
theorem field_tot {n : Nat} {s : ByteArray} (hs : s.size ≤ 100000) (hn : s.size ≤ n) {i : Int} (h0 : 0 ≤ i) (h1 : i ≤ (s.size : Int)) (K : Field → Int → Int → Option (Command × Int × Int)) (N : Int → Int → Option (Command × Int × Int))
  (hK : ∀ f e a, I64 f.N → Ends s e a → ∃ r, K f e a = some r ∧ RR s r) (hN : ∀ e a, Ends s e a → ∃ r, N e a = some r ∧ RR s r) :
  ∃ r, (if 0 ≤ (i : Int) ∧ (i : Int) ≤ (s.size : Int) then
   (F56 n (s.extract i.toNat s.size) 12).bind fun (r39 : (ByteArray × Int × Int)) =>
   if r39.2.2 == 0 then
    (F84s0 n s (IntKind.wrap .i64 (i + r39.2.1))).bind fun (r40 : (Int × Int × Int)) => K (Field.mk r40.1 r39.1) r40.2.1 r40.2.2
   else N r39.2.2 (IntKind.wrap .i64 (i + r39.2.1))
   else none) = some r ∧ RR s r := by
 have hz := ext_size s i h0 h1
 obtain ⟨r, q1, q3⟩ := texts_ct n (s.extract i.toNat s.size) (by omega) (by omega)
 rw [if_pos ⟨h0, h1⟩, q1, Option.bind_some]
 rcases q3 with ⟨e0, k1, k2⟩ | ⟨e0, k0, k1⟩
 ·have w : IntKind.wrap .i64 (i + r.2.1) = i + r.2.1 := w64 (by omega) (by omega)
  rw [if_pos (by simp [e0]), w]
  obtain ⟨p, u1, u2, u3⟩ := num_tot hs hn (a := i + r.2.1) (by omega) (by omega)
  rw [u1, Option.bind_some]
  exact hK _ _ _ u2 u3
 ·have w : IntKind.wrap .i64 (i + r.2.1) = i := by rw [k1, w64 (by omega) (by omega)]; omega
  rw [if_neg (by simp [isEr_ne e0]), w]
  exact hN _ _ ⟨.inr e0, h0, h1⟩
theorem read_j38 {n : Nat} (hn : 10 ≤ n) {s : ByteArray} (hs : s.size ≤ 100000) (hm : s.size ≤ n) (g : Command) (hg : NR g) {e i : Int} (h : Ends s e i) : ∃ r, F59_j38 n s g e i = some r ∧ RR s r := by
 unfold F59_j38
 by_cases he : e = 0
 ·rw [if_neg (by simp [he])]
  exact field_tot hs hm h.2.1 h.2.2 (fun f e a => F59_j44 n s (Command.mk g.Kind g.ID g.Which g.To g.At (A4.mk g.F.a0 g.F.a1 g.F.a2 f) g.Value g.Client g.Session g.Rect) e a) (fun e a => F59_j44 n s g e a)
   (fun f e a hf ha => read_j44 hn s (Command.mk g.Kind g.ID g.Which g.To g.At (A4.mk g.F.a0 g.F.a1 g.F.a2 f) g.Value g.Client g.Session g.Rect) ⟨hg.n0, hg.n1, hg.n2, hf, hg.v⟩ ha) (fun e a ha => read_j44 hn s g hg ha)
 ·rw [if_pos (by simp [he])]; exact ⟨_, rfl, .inl ⟨err_of h.1 he, rfl, rfl⟩⟩
theorem read_j32 {n : Nat} (hn : 10 ≤ n) {s : ByteArray} (hs : s.size ≤ 100000) (hm : s.size ≤ n) (g : Command) (hg : NR g) {e i : Int} (h : Ends s e i) : ∃ r, F59_j32 n s g e i = some r ∧ RR s r := by
 unfold F59_j32
 by_cases he : e = 0
 ·rw [if_neg (by simp [he])]
  exact field_tot hs hm h.2.1 h.2.2 (fun f e a => F59_j38 n s (Command.mk g.Kind g.ID g.Which g.To g.At (A4.mk g.F.a0 g.F.a1 f g.F.a3) g.Value g.Client g.Session g.Rect) e a) (fun e a => F59_j38 n s g e a)
   (fun f e a hf ha => read_j38 hn hs hm (Command.mk g.Kind g.ID g.Which g.To g.At (A4.mk g.F.a0 g.F.a1 f g.F.a3) g.Value g.Client g.Session g.Rect) ⟨hg.n0, hg.n1, hf, hg.n3, hg.v⟩ ha) (fun e a ha => read_j38 hn hs hm g hg ha)
 ·rw [if_pos (by simp [he])]; exact ⟨_, rfl, .inl ⟨err_of h.1 he, rfl, rfl⟩⟩
theorem read_j26 {n : Nat} (hn : 10 ≤ n) {s : ByteArray} (hs : s.size ≤ 100000) (hm : s.size ≤ n) (g : Command) (hg : NR g) {e i : Int} (h : Ends s e i) : ∃ r, F59_j26 n s g e i = some r ∧ RR s r := by
 unfold F59_j26
 by_cases he : e = 0
 ·rw [if_neg (by simp [he])]
  exact field_tot hs hm h.2.1 h.2.2 (fun f e a => F59_j32 n s (Command.mk g.Kind g.ID g.Which g.To g.At (A4.mk g.F.a0 f g.F.a2 g.F.a3) g.Value g.Client g.Session g.Rect) e a) (fun e a => F59_j32 n s g e a)
   (fun f e a hf ha => read_j32 hn hs hm (Command.mk g.Kind g.ID g.Which g.To g.At (A4.mk g.F.a0 f g.F.a2 g.F.a3) g.Value g.Client g.Session g.Rect) ⟨hg.n0, hf, hg.n2, hg.n3, hg.v⟩ ha) (fun e a ha => read_j32 hn hs hm g hg ha)
 ·rw [if_pos (by simp [he])]; exact ⟨_, rfl, .inl ⟨err_of h.1 he, rfl, rfl⟩⟩
theorem read_j13 {n : Nat} (hn : 10 ≤ n) {s : ByteArray} (hs : s.size ≤ 100000) (hm : s.size ≤ n) (g : Command) (hg : NR g) {e i : Int} (h : Ends s e i) : ∃ r, F59_j13 n s g e i = some r ∧ RR s r := by
 unfold F59_j13
 by_cases he : e = 0
 ·rw [if_neg (by simp [he]), values_eq, Option.bind_some]
  by_cases k1 : g.Kind = 1
  ·rw [if_pos k1, if_neg (by decide), if_pos rfl]
   exact field_tot hs hm h.2.1 h.2.2 (fun f e a => F59_j26 n s (Command.mk g.Kind g.ID g.Which g.To g.At (A4.mk f g.F.a1 g.F.a2 g.F.a3) g.Value g.Client g.Session g.Rect) e a) (fun e a => F59_j26 n s g e a)
    (fun f e a hf ha => read_j26 hn hs hm (Command.mk g.Kind g.ID g.Which g.To g.At (A4.mk f g.F.a1 g.F.a2 g.F.a3) g.Value g.Client g.Session g.Rect) ⟨hf, hg.n1, hg.n2, hg.n3, hg.v⟩ ha) (fun e a ha => read_j26 hn hs hm g hg ha)
  ·rw [if_neg k1]
   by_cases k3 : g.Kind = 3
   ·rw [if_pos k3, if_neg (by decide), if_neg (by decide), if_pos rfl]
    exact field_tot hs hm h.2.1 h.2.2 (fun f e a => F59_j20 n s (Command.mk g.Kind g.ID g.Which g.To g.At g.F f g.Client g.Session g.Rect) e a) (fun e a => F59_j20 n s g e a)
     (fun f e a hf ha => read_j20 hn s (Command.mk g.Kind g.ID g.Which g.To g.At g.F f g.Client g.Session g.Rect) ⟨hg.n0, hg.n1, hg.n2, hg.n3, hf⟩ ha) (fun e a ha => read_j20 hn s g hg ha)
   ·rw [if_neg k3, if_pos rfl]
    exact read_j47 hn s g hg h.2.1 h.2.2
 ·rw [if_pos (by simp [he])]; exact ⟨_, rfl, .inl ⟨err_of h.1 he, rfl, rfl⟩⟩
theorem parts_lt (c : Command) : (if c.Kind = 1 then 1 else if c.Kind = 2 then 2 else if c.Kind = 3 then 3 else if c.Kind = 4 then 4 else if c.Kind = 5 then 5 else if c.Kind = 6 ∨ c.Kind = 7 then 6 else 0) < 7 := by
 repeat' split
 all_goals omega
theorem nr_of {g c : Command} (hg : NR g) (h1 : c.F = g.F) (h2 : c.Value = g.Value) : NR c := by
 obtain ⟨a, b, d, e, f⟩ := hg
 exact ⟨by rw [h1]; exact a, by rw [h1]; exact b, by rw [h1]; exact d, by rw [h1]; exact e, by rw [h2]; exact f⟩
theorem readC_tot {n : Nat} (hn : 10 ≤ n) {s : ByteArray} (hs : s.size ≤ 100000) (hm : s.size ≤ n) : ∃ r, F59 n s = some r ∧ RR s r := by
 unfold F59
 obtain ⟨r, q, w, wf, wv⟩ := whole0_tot hs hm zC (a := 0) (by omega) (by omega)
 refine Eq.subst (motive := fun x => ∃ r, Option.bind x _ = some r ∧ RR s r) q.symm ?_
 rw [Option.bind_some]
 by_cases he : r.1 = 0
 ·rw [if_neg (by simp [he]), parts_eq, Option.bind_some]
  have hg := nr_of zC_nr wf wv
  have hk := parts_lt r.2.1
  generalize (if r.2.1.Kind = 1 then 1 else if r.2.1.Kind = 2 then 2 else if r.2.1.Kind = 3 then 3 else if r.2.1.Kind = 4 then 4 else if r.2.1.Kind = 5 then 5 else if r.2.1.Kind = 6 ∨ r.2.1.Kind = 7 then 6 else 0) = k at hk ⊢
  by_cases k0 : k = 0
  ·rw [if_pos k0, whole7_is, Option.bind_some]
   exact read_j13 hn hs hm _ hg ⟨.inl rfl, w.2⟩
  rw [if_neg k0]
  by_cases k1 : k = 1
  ·rw [if_pos k1]
   obtain ⟨p, u, v, vf, vv⟩ := whole6_tot hs hm r.2.1 w.2.1 w.2.2
   rw [u, Option.bind_some]
   exact read_j13 hn hs hm _ (nr_of hg vf vv) v
  rw [if_neg k1]
  by_cases k2 : k = 2
  ·rw [if_pos k2]
   obtain ⟨p, u, v, vf, vv⟩ := whole5_tot hs hm r.2.1 w.2.1 w.2.2
   rw [u, Option.bind_some]
   exact read_j13 hn hs hm _ (nr_of hg vf vv) v
  rw [if_neg k2]
  by_cases k3 : k = 3
  ·rw [if_pos k3]
   obtain ⟨p, u, v, vf, vv⟩ := whole4_tot hs hm r.2.1 w.2.1 w.2.2
   rw [u, Option.bind_some]
   exact read_j13 hn hs hm _ (nr_of hg vf vv) v
  rw [if_neg k3]
  by_cases k4 : k = 4
  ·rw [if_pos k4]
   obtain ⟨p, u, v, vf, vv⟩ := whole3_tot hs hm r.2.1 w.2.1 w.2.2
   rw [u, Option.bind_some]
   exact read_j13 hn hs hm _ (nr_of hg vf vv) v
  rw [if_neg k4]
  by_cases k5 : k = 5
  ·rw [if_pos k5]
   obtain ⟨p, u, v, vf, vv⟩ := whole2_tot hs hm r.2.1 w.2.1 w.2.2
   rw [u, Option.bind_some]
   exact read_j13 hn hs hm _ (nr_of hg vf vv) v
  rw [if_neg k5]
  by_cases k6 : k = 6
  ·rw [if_pos k6]
   obtain ⟨p, u, v, vf, vv⟩ := whole1_tot hs hm r.2.1 w.2.1 w.2.2
   rw [u, Option.bind_some]
   exact read_j13 hn hs hm _ (nr_of hg vf vv) v
  rw [if_neg k6]
  omega
 ·rw [if_pos (by simp [he])]; exact ⟨_, rfl, .inl ⟨err_of w.1 he, rfl, rfl⟩⟩
theorem pred_wn {i : Nat} (h : i + 1 < maxLen) : IntKind.wrap .i64 (((i + 1 : Nat) : Int) - 1) = (i : Int) := by
 simp only [maxLen] at h
 simp [IntKind.wrap, IntKind.bits, IntKind.signed]; omega
def isCell (c : Int) : Bool := decide (0 ≤ c) && decide (c < 16)
theorem isCell_eq (n : Nat) (c : Int) : F64 n c = some (isCell c) := by
 unfold F64 isCell
 by_cases h : (0 : Int) ≤ c
 ·rw [if_pos (decide_eq_true h), decide_eq_true h]; rfl
 ·rw [if_neg (by simp; omega), decide_eq_false h]; rfl
def okH (f k : Int) (p : Option Int) (h : Hand) : Bool := isCell h.Cell && ((match p with | none => true | some q => !(decide (h.Cell ≤ q))) && (!(decide (h.To < 0)) && (!(decide (k ≤ h.To)) && !(h.To == f))))
def okHs (f k : Int) : Option Int → List Hand → Bool
 | _, [] => true
 | p, h :: l => okH f k p h && okHs f k (some h.Cell) l
def prevH (l : List Hand) (i : Nat) : Option Int := if i = 0 then none else some ((l.getD (i - 1) ⟨0, 0⟩).Cell)
theorem prevH0 (l : List Hand) : prevH l 0 = none := rfl
theorem prevHS (l : List Hand) (i : Nat) (h : i < l.length) : prevH l (i + 1) = some l[i].Cell := by
 unfold prevH
 rw [if_neg (by omega)]
 have : i + 1 - 1 = i := by omega
 rw [this, List.getD_eq_getElem?_getD, List.getElem?_eq_getElem h]; rfl
theorem ite_f (b : Bool) (x : Option Bool) (y : Bool) (h : x = some y) : (if b = true then some false else x) = some (!b && y) := by cases b <;> simp [h]
theorem hands_l (n : Nat) (l : List Hand) (f k : Int) (hl : l.length ≤ 100000) : ∀ (m i : Nat), i ≤ l.length → l.length - i < m → F33_l4 n l f k m (i : Int) = some (okHs f k (prevH l i) (l.drop i))
 | 0, i, _, h => by omega
 | m + 1, i, hi, h => by
  unfold F33_l4
  by_cases hlt : i < l.length
  ·have ih := hands_l n l f k hl m (i + 1) (by omega) (by omega)
   rw [← dsucc (by simp only [maxLen]; omega), prevHS l i hlt] at ih
   rw [if_pos (lt_dec hlt), ixg l i hlt, dropS l i hlt, okHs]
   simp only [Option.bind_some, isCell_eq, okH]
   have tail := ite_f (decide (l[i].To < 0)) _ _ (ite_f (decide (k ≤ l[i].To)) _ _ (ite_f (l[i].To == f) _ _ ih))
   cases hc : isCell l[i].Cell with
   | false => rfl
   | true =>
    simp only [Bool.not_true, Bool.false_eq_true, if_false, Bool.true_and]
    cases i with
    | zero =>
     rw [if_neg (by decide), prevH0, tail]
     simp [Bool.and_assoc]
    | succ i =>
     rw [if_pos (by simp), pred_wn (by simp only [maxLen]; omega), ixg l i (by omega), prevHS l i (by omega)]
     simp only [Option.bind_some]
     rw [ite_f _ _ _ tail]
     simp [Bool.and_assoc]
  ·rw [if_neg (by rw [ge_dec hlt]; decide), List.drop_of_length_le (by omega)]; rfl
theorem hands_eq {n : Nat} {l : List Hand} (f k : Int) (hl : l.length ≤ 100000) (hn : l.length ≤ n) : F33 n l f k = some (okHs f k none l) := by
 have := hands_l n l f k hl (n + 8) 0 (by omega) (by omega)
 exact this
def hasC (l : List Hand) (c : Int) : Bool := l.any fun h => h.Cell == c
theorem idx_l (n : Nat) (l : List Hand) (c : Int) (hl : l.length ≤ 100000) : ∀ (m i : Nat), i ≤ l.length → l.length - i < m → ∃ r : Int, F89s0_l4 n l c m (i : Int) = some r ∧ decide ((0 : Int) ≤ r) = hasC (l.drop i) c
 | 0, i, _, h => by omega
 | m + 1, i, hi, h => by
  unfold F89s0_l4
  by_cases hlt : i < l.length
  ·rw [if_pos (lt_dec hlt), ixg l i hlt, dropS l i hlt]
   unfold F67s0 hasC
   simp only [Option.bind_some, List.any_cons]
   cases hc : (l[i].Cell == c) with
   | true => exact ⟨_, rfl, by simp⟩
   | false =>
    simp only [Bool.false_eq_true, if_false, Bool.false_or]
    rw [dsucc (by simp only [maxLen]; omega)]
    exact idx_l n l c hl m (i + 1) (by omega) (by omega)
  ·rw [if_neg (by rw [ge_dec hlt]; decide), List.drop_of_length_le (by omega)]
   exact ⟨-1, rfl, rfl⟩
theorem handed_eq {n : Nat} {l : List Hand} (c : Int) (hl : l.length ≤ 100000) (hn : l.length ≤ n) : F66s0 n l c = some (hasC l c) := by
 unfold F66s0 F89s0
 obtain ⟨r, h1, h2⟩ := idx_l n l c hl (n + 8) 0 (by omega) (by omega)
 have h1' : F89s0_l4 n l c (n + 8) 0 = some r := h1
 rw [h1', Option.bind_some, h2, List.drop_zero]
def celP (p : Point) : Int × Int := (F65 0 p).getD (0, 0)
theorem of_eq (n : Nat) (p : Point) : F65 n p = some (celP p) := by
 have h : ∀ n, F65 n p = if on p then some (IntKind.wrap .i64 ((F96 0 (IntKind.wrap .u16 (IntKind.wrap .i64 (Int.tdiv p.X 16))) (IntKind.wrap .u16 (IntKind.wrap .i64 (Int.tdiv p.Y 16)))).getD 0), 0) else some (0, 14) := by
  intro n
  unfold F65
  rw [on_eq]
  cases on p with
  | false => rfl
  | true => rfl
 unfold celP
 rw [h n, h 0]
 split <;> rfl
def okT (hs : List Hand) (b : Bool) (p : Option Int) (t : Thing) : Bool := isTh t && ((match p with | none => true | some q => !(decide (t.ID ≤ q))) && (hasC hs (celP t.At).1 == b))
def okTs (hs : List Hand) (b : Bool) : Option Int → List Thing → Bool
 | _, [] => true
 | p, t :: l => okT hs b p t && okTs hs b (some t.ID) l
def prevT (l : List Thing) (i : Nat) : Option Int := if i = 0 then none else some ((l.getD (i - 1) ⟨0, ⟨0, 0⟩, ⟨noF, noF, noF, noF⟩⟩).ID)
theorem prevT0 (l : List Thing) : prevT l 0 = none := rfl
theorem prevTS (l : List Thing) (i : Nat) (h : i < l.length) : prevT l (i + 1) = some l[i].ID := by
 unfold prevT
 rw [if_neg (by omega)]
 have : i + 1 - 1 = i := by omega
 rw [this, List.getD_eq_getElem?_getD, List.getElem?_eq_getElem h]; rfl
theorem things_l (n : Nat) (l : List Thing) (hs : List Hand) (b : Bool) (hl : l.length ≤ 100000) (hh : hs.length ≤ 100000) (hn : hs.length ≤ n) : ∀ (m i : Nat), i ≤ l.length → l.length - i < m → F34_l4 n l hs b m (i : Int) = some (okTs hs b (prevT l i) (l.drop i) && decide ((l.length : Int) ≤ 200))
 | 0, i, _, h => by omega
 | m + 1, i, hi, h => by
  unfold F34_l4
  by_cases hlt : i < l.length
  ·have ih := things_l n l hs b hl hh hn m (i + 1) (by omega) (by omega)
   rw [← dsucc (by simp only [maxLen]; omega), prevTS l i hlt] at ih
   rw [if_pos (lt_dec hlt), ixg l i hlt, dropS l i hlt, okTs]
   simp only [Option.bind_some, of_eq, handed_eq _ hh hn, is_eq, okT]
   have tail := ite_f (!(hasC hs (celP l[i].At).1 == b)) _ _ ih
   cases hc : isTh l[i] with
   | false => rfl
   | true =>
    simp only [Bool.not_true, Bool.false_eq_true, if_false, Bool.true_and]
    cases i with
    | zero =>
     rw [if_neg (by decide), prevT0, tail]
     simp [Bool.and_assoc]
    | succ i =>
     rw [if_pos (by simp), pred_wn (by simp only [maxLen]; omega), ixg l i (by omega), prevTS l i (by omega)]
     simp only [Option.bind_some]
     rw [ite_f _ _ _ tail]
     simp [Bool.and_assoc]
  ·rw [if_neg (by rw [ge_dec hlt]; decide), List.drop_of_length_le (by omega)]; rfl
theorem things_eq {n : Nat} {l : List Thing} {hs : List Hand} (b : Bool) (hl : l.length ≤ 100000) (hn : l.length ≤ n) (hh : hs.length ≤ 100000) (hn2 : hs.length ≤ n) : F34 n l hs b = some (okTs hs b none l && decide ((l.length : Int) ≤ 200)) :=
 things_l n l hs b hl hh hn2 (n + 8) 0 (by omega) (by omega)
theorem Hand.eqb_iff (x y : Hand) : Hand.eqb x y = true ↔ x = y := by
 cases x; cases y; simp [Hand.eqb]
def okC (c : Command) : Bool := isC c && watchesC c
theorem wrong_eq (n : Nat) (c : Command) : F30 n c = some (!(okC c)) := by
 unfold F30 okC
 rw [isC_eq, Option.bind_some]
 cases isC c with
 | false => rfl
 | true => simp only [Bool.not_true, Bool.false_eq_true, if_false, watches_eq, Option.bind_some, Bool.true_and]
theorem idxC_l (n : Nat) (l : List Command) (hl : l.length ≤ 100000) : ∀ (m i : Nat), i ≤ l.length → l.length - i < m → ∃ r : Int, F69s0_l4 n l m (i : Int) = some r ∧ decide ((0 : Int) ≤ r) = !((l.drop i).all okC)
 | 0, i, _, h => by omega
 | m + 1, i, hi, h => by
  unfold F69s0_l4
  by_cases hlt : i < l.length
  ·rw [if_pos (lt_dec hlt), ixg l i hlt, dropS l i hlt]
   simp only [Option.bind_some, wrong_eq, List.all_cons]
   cases hc : okC l[i] with
   | false => exact ⟨_, rfl, by simp⟩
   | true =>
    simp only [Bool.not_true, Bool.false_eq_true, if_false, Bool.true_and]
    rw [dsucc (by simp only [maxLen]; omega)]
    exact idxC_l n l hl m (i + 1) (by omega) (by omega)
  ·rw [if_neg (by rw [ge_dec hlt]; decide), List.drop_of_length_le (by omega)]
   exact ⟨-1, rfl, rfl⟩
theorem wrongs_eq {n : Nat} {l : List Command} (hl : l.length ≤ 100000) (hn : l.length ≤ n) : F35s0 n l = some (!(l.all okC)) := by
 unfold F35s0 F69s0
 obtain ⟨r, h1, h2⟩ := idxC_l n l hl (n + 8) 0 (by omega) (by omega)
 have h1' : F69s0_l4 n l (n + 8) 0 = some r := h1
 rw [h1', Option.bind_some, h2, List.drop_zero]
structure Lens (n : Nat) (x : Note) : Prop where
 m : x.Moved.length ≤ 1000
 g : x.Given.length ≤ 1000
 h : x.Hands.length ≤ 1000
 w : x.Watch.length ≤ 1000
 n : 1000 ≤ n
def thOk (l : List Thing) (hs : List Hand) (b : Bool) : Bool := okTs hs b none l && decide ((l.length : Int) ≤ 200)
def isNt (k : Int) (x : Note) : Bool := !(decide (x.From < 0)) && (!(decide (k ≤ x.From)) && (!(decide (x.Beat < 0)) && (!(decide ((1073741824 : Int) < x.Beat)) && (!(decide ((20 : Int) < (x.Watch.length : Int))) && (okHs x.From k none x.Hands && (thOk x.Moved x.Hands false && (thOk x.Given x.Hands true && x.Watch.all okC)))))))
theorem ite_t (b : Bool) (x : Option Bool) (y : Bool) (h : x = some y) : (if b = true then x else some false) = some (b && y) := by cases b <;> simp [h]
theorem is_note {n : Nat} {x : Note} (L : Lens n x) (s : Int) : F12 n x s = some (isNt (imin s 4) x) := by
 have := L.m; have := L.g; have := L.h; have := L.w; have := L.n
 unfold F12 isNt
 rw [hands_eq _ _ (by omega) (by omega), Option.bind_some, things_eq false (by omega) (by omega) (by omega) (by omega), things_eq true (by omega) (by omega) (by omega) (by omega), wrongs_eq (by omega) (by omega)]
 simp only [Option.bind_some, Bool.not_not]
 refine ite_f _ _ _ (ite_f _ _ _ (ite_f _ _ _ (ite_f _ _ _ (ite_f _ _ _ (ite_t _ _ _ (ite_t _ _ _ (ite_t _ _ _ ?_)))))))
 rfl
theorem eqT_l (n : Nat) (a b : List Thing) (hl : a.length = b.length) (ha : a.length ≤ 100000) : ∀ (m i : Nat), i ≤ a.length → a.length - i < m → ∃ r, F36_l4 n a b m (i : Int) = some r ∧ (r = true ↔ a.drop i = b.drop i)
 | 0, i, _, h => by omega
 | m + 1, i, hi, hm => by
  unfold F36_l4
  by_cases h : i < a.length
  ·rw [if_pos (lt_dec h), ixg a i h, ixg b i (by omega), dropS a i h, dropS b i (by omega)]
   simp only [Option.bind_some]
   cases hc : Thing.eqb a[i] (b[i]'(by omega)) with
   | false => exact ⟨false, rfl, ⟨fun h => (by cases h), fun h => by
     have := (List.cons.inj h).1
     rw [(Thing.eqb_iff _ _).2 this] at hc; cases hc⟩⟩
   | true =>
    simp only [Bool.not_true, Bool.false_eq_true, if_false]
    rw [dsucc (by simp only [maxLen]; omega)]
    obtain ⟨r, h1, h2⟩ := eqT_l n a b hl ha m (i + 1) (by omega) (by omega)
    refine ⟨r, h1, h2.trans ⟨fun h => ?_, fun h => (List.cons.inj h).2⟩⟩
    rw [(Thing.eqb_iff _ _).1 hc, h]
  ·rw [if_neg (by rw [ge_dec h]; decide), List.drop_of_length_le (by omega), List.drop_of_length_le (by omega)]
   exact ⟨true, rfl, by simp⟩
theorem eqT_eq {n : Nat} {a b : List Thing} (ha : a.length ≤ 100000) (hn : a.length ≤ n) : ∃ r, F36 n a b = some r ∧ (r = true ↔ a = b) := by
 unfold F36
 by_cases h : a.length = b.length
 ·have : ¬ (((a.length : Int) != (b.length : Int)) = true) := by simp [h]
  rw [if_neg this]
  exact eqT_l n a b h ha (n + 8) 0 (by omega) (by omega)
 ·have : ((a.length : Int) != (b.length : Int)) = true := by simp; omega
  rw [if_pos this]
  exact ⟨false, rfl, ⟨fun h => (by cases h), fun he => absurd (congrArg List.length he) h⟩⟩
theorem fewT_tot (n : Nat) (t : Thing) : ∃ b, F39 n t = some b := by
 unfold F39 F70
 simp only [Option.bind_some]
 repeat' split
 all_goals exact ⟨_, rfl⟩
theorem fewTs_l (n : Nat) (l : List Thing) (hl : l.length ≤ maxLen) : ∀ (m i : Nat), i ≤ l.length → l.length - i < m → ∃ b, F15_l4 n l m (i : Int) = some b ∧ (b = true → l.length ≤ 30)
 | 0, i, _, h => by omega
 | m + 1, i, hi, h => by
  unfold F15_l4
  by_cases hlt : i < l.length
  ·obtain ⟨b, hb⟩ := fewT_tot n l[i]
   rw [if_pos (lt_dec hlt), ixg l i hlt]
   simp only [Option.bind_some, hb]
   split
   ·exact ⟨false, rfl, fun h => (by cases h)⟩
   ·rw [dsucc (by omega)]
    exact fewTs_l n l hl m (i + 1) (by omega) (by omega)
  ·rw [if_neg (by rw [ge_dec hlt]; decide)]
   exact ⟨_, rfl, fun h => by simp at h; omega⟩
theorem fewTs {n : Nat} {l : List Thing} (hl : l.length ≤ maxLen) (hn : l.length ≤ n) : ∃ b, F15 n l = some b ∧ (b = true → l.length ≤ 30) :=
 fewTs_l n l hl (n + 8) 0 (by omega) (by omega)
theorem fewC_tot (n : Nat) (c : Command) : ∃ b, F14 n c = some b := by
 unfold F14
 repeat' split
 all_goals exact ⟨_, rfl⟩
theorem fewN_l (n : Nat) (x : Note) (hm : x.Moved.length ≤ maxLen ∧ x.Moved.length ≤ n) (hg : x.Given.length ≤ maxLen ∧ x.Given.length ≤ n) (hl : x.Watch.length ≤ maxLen) : ∀ (m i : Nat), i ≤ x.Watch.length → x.Watch.length - i < m →
  ∃ b, F5_l4 n x m (i : Int) = some b ∧ (b = true → x.Moved.length ≤ 30 ∧ x.Given.length ≤ 30 ∧ x.Hands.length ≤ 20 ∧ x.Watch.length ≤ 24)
 | 0, i, _, h => by omega
 | m + 1, i, hi, h => by
  unfold F5_l4
  by_cases hlt : i < x.Watch.length
  ·obtain ⟨b, hb⟩ := fewC_tot n x.Watch[i]
   rw [if_pos (lt_dec hlt), ixg x.Watch i hlt]
   simp only [Option.bind_some, hb]
   split
   ·exact ⟨false, rfl, fun h => (by cases h)⟩
   ·rw [dsucc (by omega)]
    exact fewN_l n x hm hg hl m (i + 1) (by omega) (by omega)
  ·obtain ⟨b1, e1, f1⟩ := fewTs hm.1 hm.2
   obtain ⟨b2, e2, f2⟩ := fewTs hg.1 hg.2
   rw [if_neg (by rw [ge_dec hlt]; decide), e1, Option.bind_some, e2, Option.bind_some]
   cases b1 with
   | false => exact ⟨false, rfl, fun h => (by cases h)⟩
   | true =>
    cases b2 with
    | false => exact ⟨false, rfl, fun h => (by cases h)⟩
    | true =>
     simp only [if_true]
     refine ⟨_, ite_t (decide ((x.Hands.length : Int) ≤ 20)) _ _ rfl, fun h => ?_⟩
     simp only [Bool.and_eq_true, decide_eq_true_eq] at h
     exact ⟨f1 rfl, f2 rfl, by omega, by omega⟩
theorem fewN {n : Nat} {x : Note} (hw : Note.wf x) (h1 : x.Moved.length ≤ n) (h2 : x.Given.length ≤ n) (h3 : x.Watch.length ≤ n) : ∃ b, F5 n x = some b ∧ (b = true → x.Moved.length ≤ 30 ∧ x.Given.length ≤ 30 ∧ x.Hands.length ≤ 20 ∧ x.Watch.length ≤ 24) := by
 obtain ⟨_, _, hm, _, hg, hc⟩ := hw
 exact fewN_l n x ⟨hm.2, h1⟩ ⟨hg.2, h2⟩ hc.2 (n + 8) 0 (by omega) (by omega)
theorem shape_eq (n : Nat) (c : Command) : F76 n c = some (coreC c) :=
 (show F76 n c = F62 n c from rfl).trans (core_eq n c)
theorem within_eq (n : Nat) (x a b : Int) : F75 n x a b = some (decide (a ≤ x) && decide (x ≤ b)) := by
 unfold F75
 by_cases h : a ≤ x <;> simp [h]
theorem rcisF_eq (n : Nat) (f : Field) : F79 n f = some (isF f) := by
 unfold F79 isF
 generalize (f.N == 0) = p
 generalize (f.Text.toList == ByteArray.empty.toList) = q
 cases p <;> cases q <;> simp
theorem ifand (p x y : Bool) : (if p = true then some x else some (false && y)) = some (p && x) := by cases p <;> rfl
theorem ifand' (p x : Bool) : (if p = true then some x else some false) = some (p && x) := by cases p <;> rfl
theorem rpoint_eq (n : Nat) (p : Point) : F77 n p = some (near p.X && near p.Y) := by
 unfold F77 near
 simp only [within_eq, Option.bind_some, ifand']
theorem rrect_eq (n : Nat) (r : Rect) : F78 n r = some ((near r.X0 && near r.Y0) && (near r.X1 && near r.Y1)) := by
 unfold F78
 simp only [rpoint_eq, Option.bind_some, ifand']
theorem rj12_eq (n : Nat) (c : Command) (b : Bool) : F51_j12 n c b = some (b && (isF c.F.a0 && (isF c.F.a1 && (isF c.F.a2 && isF c.F.a3)))) := by
 unfold F51_j12 F51_u15 F51_u18 F51_u21 F51_u24
 simp only [rcisF_eq, Option.bind_some]
 cases b <;> cases isF c.F.a0 <;> cases isF c.F.a1 <;> cases isF c.F.a2 <;> simp
theorem rcis_eq (n : Nat) (c : Command) : F51 n c = some (isC c) := by
 unfold F51
 simp only [rj12_eq, within_eq, shape_eq, rpoint_eq, rrect_eq, rcisF_eq, Option.bind_some, ifand]
 have e3 : decide (c.Client ≤ 3) = decide (c.Client < 4) := by
  rw [decide_eq_decide]; omega
 unfold isC boundsC
 simp only [List.all_cons, List.all_nil, Bool.and_true, e3]
 congr 1
 ac_rfl
theorem rwatches_eq (n : Nat) (c : Command) : F52 n c = some (watchesC c) := by
 unfold F52 watchesC
 simp only [within_eq, Option.bind_some]
theorem weave_up (n n' : Nat) (a b : Int) : ∀ (m k : Nat) (s i r : Int), F81_l7 n a b m s i = some r → F81_l7 n' a b (m + k) s i = some r
 | 0, k, s, i, r, h => by cases h
 | m + 1, k, s, i, r, h => by
  have e : m + 1 + k = (m + k) + 1 := by omega
  rw [e]
  unfold F81_l7 at h ⊢
  revert h
  repeat' split
  all_goals first
   | exact fun h => h
   | exact fun h => weave_up n n' a b m k _ _ _ h
   | exact fun h => nomatch h
theorem weaves_in : ∀ x y : Fin 4, F81 30 (x.val : Int) (y.val : Int) = some ((F96 0 (x.val : Int) (y.val : Int)).getD 0) := by decide +kernel
theorem weave_eq {n : Nat} (hn : 30 ≤ n) (x y : Fin 4) : F81 n (x.val : Int) (y.val : Int) = some ((F96 0 (x.val : Int) (y.val : Int)).getD 0) := by
 have := weave_up 30 n _ _ 38 (n - 30) 0 0 _ (weaves_in x y)
 have e : 38 + (n - 30) = n + 8 := by omega
 rw [e] at this
 exact this
theorem fin4 {x : Int} (h : 0 ≤ x) (h' : x < 64) : ∃ k : Fin 4, IntKind.wrap .u16 (IntKind.wrap .i64 (Int.tdiv x 16)) = (k.val : Int) := by
 refine ⟨⟨(x / 16).toNat, by omega⟩, ?_⟩
 have e : Int.tdiv x 16 = x / 16 := Int.tdiv_eq_ediv_of_nonneg h
 rw [e, d64 (by omega) (by omega)]
 simp [IntKind.wrap, IntKind.bits, IntKind.signed]; omega
theorem ron_eq' (n : Nat) (p : Point) : F80 n p = some (on p) := by
 unfold F80 on
 by_cases h1 : 0 ≤ p.X <;> by_cases h2 : p.X < 64 <;> by_cases h3 : 0 ≤ p.Y <;> simp [h1, h2, h3]
theorem on_in {p : Point} (h : on p = true) : (0 ≤ p.X ∧ p.X < 64) ∧ (0 ≤ p.Y ∧ p.Y < 64) := by
 unfold on at h
 revert h
 repeat' split
 all_goals simp_all
theorem rcel_eq {n : Nat} (hn : 30 ≤ n) (p : Point) : F53 n p = some (celP p) := by
 unfold F53
 rw [ron_eq', ← of_eq n p]
 unfold F65
 rw [on_eq]
 simp only [Option.bind_some]
 cases h : on p with
 | false => rfl
 | true =>
  obtain ⟨⟨a, b⟩, c, d⟩ := on_in h
  obtain ⟨x, hx⟩ := fin4 a b
  obtain ⟨y, hy⟩ := fin4 c d
  unfold F88
  simp only [Bool.not_true, Bool.false_eq_true, if_false, hx, hy, weave_eq hn]
  rfl
theorem rh_l (n : Nat) (l : List Hand) (c : Int) (hl : l.length ≤ 100000) : ∀ (m i : Nat), i ≤ l.length → l.length - i < m → F54_l4 n l c m (i : Int) = some (hasC (l.drop i) c)
 | 0, i, _, h => by omega
 | m + 1, i, hi, h => by
  unfold F54_l4
  by_cases hlt : i < l.length
  ·rw [if_pos (lt_dec hlt), ixg l i hlt, dropS l i hlt]
   have ih := rh_l n l c hl m (i + 1) (by omega) (by omega)
   rw [← dsucc (by simp only [maxLen]; omega)] at ih
   unfold hasC at ih ⊢
   simp only [Option.bind_some, List.any_cons, ih]
   cases hc : (l[i].Cell == c) <;> simp
  ·rw [if_neg (by rw [ge_dec hlt]; decide), List.drop_of_length_le (by omega)]; rfl
theorem rh_eq {n : Nat} {l : List Hand} (c : Int) (hl : l.length ≤ 100000) (hn : l.length ≤ n) : F54 n l c = some (hasC l c) :=
 rh_l n l c hl (n + 8) 0 (by omega) (by omega)
def okRt (p : Option Int) (t : Thing) : Bool := isTh t && (match p with | none => true | some q => !(decide (t.ID ≤ q)))
def okR : Option Int → List Thing → Bool
 | _, [] => true
 | p, t :: l => okRt p t && okR (some t.ID) l
def inC (hs : List Hand) (b : Bool) (t : Thing) : Bool := hasC hs (celP t.At).1 == b
theorem okTs_split (hs : List Hand) (b : Bool) : ∀ (l : List Thing) (p : Option Int), okTs hs b p l = (okR p l && l.all (inC hs b))
 | [], p => rfl
 | t :: l, p => by
  rw [okTs, okR, okTs_split hs b l, List.all_cons]
  unfold okT inC okRt
  ac_rfl
theorem rthF_eq (n : Nat) (t : Thing) : F74 n t = some (isTh t) := by
 unfold F74 isTh F74_j3 F74_u6 F74_u9 F74_u12 F74_u15
 simp only [rcisF_eq, ron_eq', Option.bind_some]
 by_cases h1 : 0 ≤ t.ID <;> by_cases h2 : t.ID ≤ 1000000 <;> cases on t.At <;> cases isF t.F.a0 <;> cases isF t.F.a1 <;> cases isF t.F.a2 <;> simp [h1, h2]
theorem rthings_l (n : Nat) (l : List Thing) (hl : l.length ≤ 100000) : ∀ (m i : Nat), i ≤ l.length → l.length - i < m → F49_l4 n l m (i : Int) = some (okR (prevT l i) (l.drop i) && decide ((l.length : Int) ≤ 200))
 | 0, i, _, h => by omega
 | m + 1, i, hi, h => by
  unfold F49_l4
  by_cases hlt : i < l.length
  ·have ih := rthings_l n l hl m (i + 1) (by omega) (by omega)
   rw [← dsucc (by simp only [maxLen]; omega), prevTS l i hlt] at ih
   rw [if_pos (lt_dec hlt), ixg l i hlt, dropS l i hlt, okR]
   simp only [Option.bind_some, rthF_eq, okRt]
   cases hc : isTh l[i] with
   | false => rfl
   | true =>
    simp only [Bool.not_true, Bool.false_eq_true, if_false, Bool.true_and]
    cases i with
    | zero =>
     rw [if_neg (by decide), prevT0, ih]
     simp
    | succ i =>
     rw [if_pos (by simp), pred_wn (by simp only [maxLen]; omega), ixg l i (by omega), prevTS l i (by omega)]
     simp only [Option.bind_some]
     rw [ite_f _ _ _ ih]
     simp [Bool.and_assoc]
  ·rw [if_neg (by rw [ge_dec hlt]; decide), List.drop_of_length_le (by omega)]; rfl
theorem rthings_eq {n : Nat} {l : List Thing} (hl : l.length ≤ 100000) (hn : l.length ≤ n) : F49 n l = some (okR none l && decide ((l.length : Int) ≤ 200)) :=
 rthings_l n l hl (n + 8) 0 (by omega) (by omega)
theorem okHs_few (f k : Int) : ∀ (l : List Hand) (q : Int), q ≤ 15 → okHs f k (some q) l = true → (l.length : Int) + q + 1 ≤ 16
 | [], q, h, _ => by simp; omega
 | h :: l, q, hq, hh => by
  rw [okHs, Bool.and_eq_true] at hh
  have h1 := hh.1
  simp only [okH, isCell, Bool.and_eq_true, Bool.not_eq_true', decide_eq_false_iff_not, decide_eq_true_eq] at h1
  have := okHs_few f k l h.Cell (by omega) hh.2
  simp only [List.length_cons]; omega
theorem okHs_16 {f k : Int} {l : List Hand} (h : okHs f k none l = true) : l.length ≤ 16 := by
 cases l with
 | nil => simp
 | cons h0 l =>
  rw [okHs, Bool.and_eq_true] at h
  have h1 := h.1
  simp only [okH, isCell, Bool.and_eq_true, Bool.not_eq_true', decide_eq_false_iff_not, decide_eq_true_eq] at h1
  have := okHs_few f k l h0.Cell (by omega) h.2
  simp only [List.length_cons]; omega
theorem r28 {n : Nat} (hn : 30 ≤ n) (x : Note) (hl : x.Moved.length ≤ 100000) (hh : x.Hands.length ≤ 100000) (hn2 : x.Hands.length ≤ n) : ∀ (m i : Nat), i ≤ x.Moved.length → x.Moved.length - i < m → F24_l28 n x m (i : Int) = some ((x.Moved.drop i).all (inC x.Hands false))
 | 0, i, _, h => by omega
 | m + 1, i, hi, h => by
  unfold F24_l28
  by_cases hlt : i < x.Moved.length
  ·have ih := r28 hn x hl hh hn2 m (i + 1) (by omega) (by omega)
   rw [← dsucc (by simp only [maxLen]; omega)] at ih
   rw [if_pos (lt_dec hlt), ixg x.Moved i hlt, dropS x.Moved i hlt, List.all_cons]
   simp only [Option.bind_some, rcel_eq hn, rh_eq _ hh hn2, ih, inC]
   cases hasC x.Hands (celP x.Moved[i].At).1 <;> simp
  ·rw [if_neg (by rw [ge_dec hlt]; decide), List.drop_of_length_le (by omega)]; rfl
theorem r21 {n : Nat} (hn : 30 ≤ n) (x : Note) (hm : x.Moved.length ≤ 100000) (hm2 : x.Moved.length ≤ n) (hl : x.Given.length ≤ 100000) (hh : x.Hands.length ≤ 100000) (hn2 : x.Hands.length ≤ n) : ∀ (m i : Nat), i ≤ x.Given.length → x.Given.length - i < m → F24_l21 n x m (i : Int) = some ((x.Given.drop i).all (inC x.Hands true) && x.Moved.all (inC x.Hands false))
 | 0, i, _, h => by omega
 | m + 1, i, hi, h => by
  unfold F24_l21
  by_cases hlt : i < x.Given.length
  ·have ih := r21 hn x hm hm2 hl hh hn2 m (i + 1) (by omega) (by omega)
   rw [← dsucc (by simp only [maxLen]; omega)] at ih
   rw [if_pos (lt_dec hlt), ixg x.Given i hlt, dropS x.Given i hlt, List.all_cons]
   simp only [Option.bind_some, rcel_eq hn, rh_eq _ hh hn2, ih, inC]
   cases hasC x.Hands (celP x.Given[i].At).1 <;> simp
  ·rw [if_neg (by rw [ge_dec hlt]; decide), List.drop_of_length_le (by omega)]
   have := r28 hn x hm hh hn2 (n + 8) 0 (by omega) (by omega)
   rw [List.drop_zero] at this
   exact this
theorem r13 {n : Nat} (hn : 30 ≤ n) (x : Note) (hm : x.Moved.length ≤ 100000) (hm2 : x.Moved.length ≤ n) (hg : x.Given.length ≤ 100000) (hg2 : x.Given.length ≤ n) (hh : x.Hands.length ≤ 100000) (hn2 : x.Hands.length ≤ n) (hw : x.Watch.length ≤ 100000) : ∀ (m i : Nat), i ≤ x.Watch.length → x.Watch.length - i < m → F24_l13 n x m (i : Int) = some ((x.Watch.drop i).all okC && (x.Given.all (inC x.Hands true) && x.Moved.all (inC x.Hands false)))
 | 0, i, _, h => by omega
 | m + 1, i, hi, h => by
  unfold F24_l13
  by_cases hlt : i < x.Watch.length
  ·have ih := r13 hn x hm hm2 hg hg2 hh hn2 hw m (i + 1) (by omega) (by omega)
   rw [← dsucc (by simp only [maxLen]; omega)] at ih
   rw [if_pos (lt_dec hlt), ixg x.Watch i hlt, dropS x.Watch i hlt, List.all_cons]
   simp only [Option.bind_some, rcis_eq, rwatches_eq, ih, okC]
   cases isC x.Watch[i] <;> cases watchesC x.Watch[i] <;> simp
  ·rw [if_neg (by rw [ge_dec hlt]; decide), List.drop_of_length_le (by omega)]
   have := r21 hn x hm hm2 hg hh hn2 (n + 8) 0 (by omega) (by omega)
   rw [List.drop_zero] at this
   exact this
theorem rcell_eq (n : Nat) (c : Int) : F50 n c = some (isCell c) := by
 unfold F50 isCell
 by_cases h : (0 : Int) ≤ c <;> simp [h]
theorem r6 {n : Nat} (hn : 30 ≤ n) (x : Note) (s : Int) (hm : x.Moved.length ≤ 100000) (hm2 : x.Moved.length ≤ n) (hg : x.Given.length ≤ 100000) (hg2 : x.Given.length ≤ n) (hh : x.Hands.length ≤ 100000) (hn2 : x.Hands.length ≤ n) (hw : x.Watch.length ≤ 100000) (hw2 : x.Watch.length ≤ n) : ∀ (m i : Nat), i ≤ x.Hands.length → x.Hands.length - i < m → F24_l6 n x s m (i : Int) = some (okHs x.From (imin s 4) (prevH x.Hands i) (x.Hands.drop i) && (x.Watch.all okC && (x.Given.all (inC x.Hands true) && x.Moved.all (inC x.Hands false))))
 | 0, i, _, h => by omega
 | m + 1, i, hi, h => by
  unfold F24_l6
  by_cases hlt : i < x.Hands.length
  ·have ih := r6 hn x s hm hm2 hg hg2 hh hn2 hw hw2 m (i + 1) (by omega) (by omega)
   rw [← dsucc (by simp only [maxLen]; omega), prevHS x.Hands i hlt] at ih
   rw [if_pos (lt_dec hlt), ixg x.Hands i hlt, dropS x.Hands i hlt, okHs]
   simp only [Option.bind_some, rcell_eq, okH]
   cases hc : isCell x.Hands[i].Cell with
   | false => rfl
   | true =>
    simp only [Bool.not_true, Bool.false_eq_true, if_false, Bool.true_and]
    cases i with
    | zero =>
     rw [if_neg (by decide : ¬ decide ((0 : Int) < ((0 : Nat) : Int)) = true), prevH0]
     have tail := ite_f (decide (x.Hands[0].To < 0)) _ _ (ite_f (decide (imin s 4 ≤ x.Hands[0].To)) _ _ (ite_f (x.Hands[0].To == x.From) _ _ ih))
     rw [tail]
     simp [Bool.and_assoc]
    | succ i =>
     have c : decide ((0 : Int) < ((i + 1 : Nat) : Int)) = true := by simp
     rw [if_pos c, pred_wn (by simp only [maxLen]; omega), ixg x.Hands i (by omega), prevHS x.Hands i (by omega)]
     simp only [Option.bind_some]
     have tail := ite_f (decide (x.Hands[i + 1].To < 0)) _ _ (ite_f (decide (imin s 4 ≤ x.Hands[i + 1].To)) _ _ (ite_f (x.Hands[i + 1].To == x.From) _ _ (ite_f (decide (x.Hands[i + 1].Cell ≤ x.Hands[i].Cell)) _ _ ih)))
     rw [tail]
     congr 1
     simp only [Bool.and_assoc]
     ac_rfl
  ·rw [if_neg (by rw [ge_dec hlt]; decide), List.drop_of_length_le (by omega)]
   have := r13 hn x hm hm2 hg hg2 hh hn2 hw (n + 8) 0 (by omega) (by omega)
   rw [List.drop_zero] at this
   exact this
theorem ite_n (b : Bool) (x : Option Bool) (y : Bool) (h : x = some y) : (if (!b) = true then some false else x) = some (b && y) := by cases b <;> simp [h]
theorem ris_note {n : Nat} {x : Note} (L : Lens n x) (s : Int) : F24 n x s = some (isNt (imin s 4) x) := by
 have := L.m; have := L.g; have := L.h; have := L.w; have := L.n
 have t := r6 (n := n) (by omega) x s (by omega) (by omega) (by omega) (by omega) (by omega) (by omega) (by omega) (by omega) (n + 8) 0 (by omega) (by omega)
 rw [List.drop_zero] at t
 have t' : F24_l6 n x s (n + 8) 0 = _ := t
 unfold F24
 rw [t', rthings_eq (by omega) (by omega), rthings_eq (by omega) (by omega)]
 simp only [Option.bind_some]
 rw [ite_f _ _ _ (ite_f _ _ _ (ite_f _ _ _ (ite_f _ _ _ (ite_n _ _ _ (ite_n _ _ _ (ite_f _ _ _ (ite_f _ _ _ rfl)))))))]
 unfold isNt thOk
 rw [okTs_split, okTs_split, prevH0]
 have hf : okHs x.From (imin s 4) none x.Hands = (!(decide ((16 : Int) < (x.Hands.length : Int))) && okHs x.From (imin s 4) none x.Hands) := by
  cases h : okHs x.From (imin s 4) none x.Hands with
  | false => simp
  | true => have := okHs_16 h; simp; omega
 rw [hf]
 congr 1
 ac_rfl
theorem rsameT_l (n : Nat) (a b : List Thing) : ∀ (m : Nat) (i : Int), F29_l4 n a b m i = F36_l4 n a b m i
 | 0, _ => rfl
 | m + 1, i => by
  unfold F29_l4 F36_l4
  simp only [rsameT_l n a b m]
theorem rsameT (n : Nat) (a b : List Thing) : F29 n a b = F36 n a b := by
 unfold F29 F36
 rw [rsameT_l]
theorem rs12 (n : Nat) (a b : Note) (hl : a.Watch.length = b.Watch.length) (ha : a.Watch.length ≤ 100000) : ∀ (m i : Nat), i ≤ a.Watch.length → a.Watch.length - i < m → ∃ r, F11_l12 n a b m (i : Int) = some r ∧ (r = true ↔ a.Watch.drop i = b.Watch.drop i)
 | 0, i, _, h => by omega
 | m + 1, i, hi, hm => by
  unfold F11_l12
  by_cases h : i < a.Watch.length
  ·rw [if_pos (lt_dec h), ixg a.Watch i h, ixg b.Watch i (by omega), dropS a.Watch i h, dropS b.Watch i (by omega)]
   simp only [Option.bind_some]
   cases hc : Command.eqb a.Watch[i] (b.Watch[i]'(by omega)) with
   | false => exact ⟨false, rfl, ⟨fun h => (by cases h), fun h => by
     have := (List.cons.inj h).1
     rw [(Command.eqb_iff _ _).2 this] at hc; cases hc⟩⟩
   | true =>
    simp only [Bool.not_true, Bool.false_eq_true, if_false]
    rw [dsucc (by simp only [maxLen]; omega)]
    obtain ⟨r, h1, h2⟩ := rs12 n a b hl ha m (i + 1) (by omega) (by omega)
    refine ⟨r, h1, h2.trans ⟨fun h => ?_, fun h => (List.cons.inj h).2⟩⟩
    rw [(Command.eqb_iff _ _).1 hc, h]
  ·rw [if_neg (by rw [ge_dec h]; decide), List.drop_of_length_le (by omega), List.drop_of_length_le (by omega)]
   exact ⟨true, rfl, by simp⟩
theorem rs6 (n : Nat) (a b : Note) (hl : a.Hands.length = b.Hands.length) (ha : a.Hands.length ≤ 100000) (hl2 : a.Watch.length = b.Watch.length) (ha2 : a.Watch.length ≤ 100000) (hn : a.Watch.length ≤ n) : ∀ (m i : Nat), i ≤ a.Hands.length → a.Hands.length - i < m → ∃ r, F11_l6 n a b m (i : Int) = some r ∧ (r = true ↔ a.Hands.drop i = b.Hands.drop i ∧ a.Watch = b.Watch)
 | 0, i, _, h => by omega
 | m + 1, i, hi, hm => by
  unfold F11_l6
  by_cases h : i < a.Hands.length
  ·rw [if_pos (lt_dec h), ixg a.Hands i h, ixg b.Hands i (by omega), dropS a.Hands i h, dropS b.Hands i (by omega)]
   simp only [Option.bind_some]
   cases hc : Hand.eqb a.Hands[i] (b.Hands[i]'(by omega)) with
   | false => exact ⟨false, rfl, ⟨fun h => (by cases h), fun h => by
     have := (List.cons.inj h.1).1
     rw [(Hand.eqb_iff _ _).2 this] at hc; cases hc⟩⟩
   | true =>
    simp only [Bool.not_true, Bool.false_eq_true, if_false]
    rw [dsucc (by simp only [maxLen]; omega)]
    obtain ⟨r, h1, h2⟩ := rs6 n a b hl ha hl2 ha2 hn m (i + 1) (by omega) (by omega)
    refine ⟨r, h1, h2.trans ⟨fun h => ⟨?_, h.2⟩, fun h => ⟨(List.cons.inj h.1).2, h.2⟩⟩⟩
    rw [(Hand.eqb_iff _ _).1 hc, h.1]
  ·rw [if_neg (by rw [ge_dec h]; decide), List.drop_of_length_le (by omega), List.drop_of_length_le (by omega)]
   obtain ⟨r, h1, h2⟩ := rs12 n a b hl2 ha2 (n + 8) 0 (by omega) (by omega)
   rw [List.drop_zero, List.drop_zero] at h2
   exact ⟨r, h1, h2.trans ⟨fun h => ⟨rfl, h⟩, fun h => h.2⟩⟩
theorem rsame_note {n : Nat} {a b : Note} (L : Lens n a) : ∃ r, F11 n a b = some r ∧ (r = true ↔ a = b) := by
 have := L.m; have := L.g; have := L.h; have := L.w; have := L.n
 have no : ∀ {p : Prop}, ¬ p → ((false = true) ↔ p) := fun h => ⟨fun h => (by cases h), fun hp => absurd hp h⟩
 unfold F11
 by_cases h1 : a.From = b.From
 case neg => exact ⟨false, by rw [if_pos (by simpa using h1)], no fun h => h1 (by rw [h])⟩
 rw [if_neg (by simpa using h1)]
 by_cases h2 : a.Beat = b.Beat
 case neg => exact ⟨false, by rw [if_pos (by simpa using h2)], no fun h => h2 (by rw [h])⟩
 rw [if_neg (by simpa using h2), rsameT, rsameT]
 obtain ⟨r1, e1, f1⟩ := eqT_eq (n := n) (a := a.Moved) (b := b.Moved) (by omega) (by omega)
 obtain ⟨r3, e3, f3⟩ := eqT_eq (n := n) (a := a.Given) (b := b.Given) (by omega) (by omega)
 rw [e1, e3]
 simp only [Option.bind_some]
 cases r1 with
 | false => exact ⟨false, rfl, no fun h => (by have := f1.2 (by rw [h]); cases this)⟩
 | true =>
  cases r3 with
  | false => exact ⟨false, rfl, no fun h => (by have := f3.2 (by rw [h]); cases this)⟩
  | true =>
   simp only [Bool.not_true, Bool.false_eq_true, if_false]
   by_cases h5 : a.Hands.length = b.Hands.length
   case neg => exact ⟨false, by rw [if_pos (by simp; omega)], no fun h => h5 (by rw [h])⟩
   rw [if_neg (by simp; omega)]
   by_cases h6 : a.Watch.length = b.Watch.length
   case neg => exact ⟨false, by rw [if_pos (by simp; omega)], no fun h => h6 (by rw [h])⟩
   rw [if_neg (by simp; omega)]
   obtain ⟨r, e, f⟩ := rs6 n a b h5 (by omega) h6 (by omega) (by omega) (n + 8) 0 (by omega) (by omega)
   rw [List.drop_zero, List.drop_zero] at f
   refine ⟨r, e, f.trans ⟨fun h => ?_, fun h => by rw [h]; exact ⟨rfl, rfl⟩⟩⟩
   have g1 := f1.1 rfl; have g3 := f3.1 rfl
   obtain ⟨g5, g6⟩ := h
   cases a; cases b; simp only at h1 h2 g1 g3 g5 g6; rw [h1, h2, g1, g3, g5, g6]
theorem tx_eq' {n : Nat} (hn : 10 ≤ n) {s : ByteArray} (h : s.size ≤ 100000) : F45 n s = some (tx s) := by
 unfold F45
 have := pu_size (s.size : Int)
 rw [pu_eq hn]
 simp only [Option.bind_some]
 rw [if_pos (by omega)]; rfl
theorem allR_size : ∀ (l : List Thing) (p : Option Int) (s : ByteArray), (allR p l s).1.size ≤ s.size + 280 * l.length
 | [], p, s => by simp [allR]
 | t :: l, p, s => by
  unfold allR
  cases h : isTh t with
  | false => simp only [if_true]; show 0 ≤ _; omega
  | true =>
   have h1 := (tb_size h).1
   have ih := allR_size l (some t.ID) (s ++ tb t)
   rw [ba_size] at ih
   simp only [Bool.true_eq_false, if_false, List.length_cons]
   split
   ·split
    ·show 0 ≤ _; omega
    ·omega
   ·omega
theorem allB_size (l : List Thing) : (allB l).1.size ≤ 10 + 280 * l.length := by
 unfold allB
 split
 ·show 0 ≤ _; omega
 ·have := allR_size l none (pu (l.length : Int))
  have := (pu_size (l.length : Int)).1
  omega
def wB : List Command → ByteArray
 | [] => ByteArray.empty
 | c :: l => byC c ++ wB l
def hB : List Hand → ByteArray
 | [] => ByteArray.empty
 | h :: l => (pu h.Cell ++ pu h.To) ++ hB l
def frame (B : ByteArray) : ByteArray := tx B ++ toldB (sumN B)
def bodyN (x : Note) : ByteArray := pu x.From ++ pu x.Beat ++ (allB x.Moved).1 ++ (allB x.Given).1 ++ pu (x.Hands.length : Int) ++ hB x.Hands ++ pu (x.Watch.length : Int) ++ wB x.Watch
theorem wB_size : ∀ (l : List Command), (∀ c ∈ l, isC c = true) → (wB l).size ≤ 198 * l.length
 | [], _ => Nat.le_refl _
 | c :: l, h => by
  have h1 := byC_size (isC_in (h c List.mem_cons_self))
  have h2 := wB_size l (fun d hd => h d (List.mem_cons_of_mem _ hd))
  rw [wB, ba_size, List.length_cons]; omega
theorem hB_size : ∀ (l : List Hand), (hB l).size ≤ 20 * l.length
 | [] => Nat.le_refl _
 | h :: l => by
  have h1 := pu_size h.Cell
  have h3 := pu_size h.To
  have h2 := hB_size l
  rw [hB, ba_size, ba_size, List.length_cons]; omega
theorem okC_is {l : List Command} (h : l.all okC = true) : ∀ c ∈ l, isC c = true := by
 intro c hc
 have := List.all_eq_true.1 h c hc
 unfold okC at this
 rw [Bool.and_eq_true] at this
 exact this.1
theorem nx_w {n : Nat} (hn : 60000 ≤ n) (x : Note) (hl : x.Watch.length ≤ 30) (hw : x.Watch.all okC = true) : ∀ (m i : Nat) (s : ByteArray), i ≤ x.Watch.length → x.Watch.length - i < m → 1 ≤ s.size → s.size + 198 * (x.Watch.length - i) ≤ 30000 →
  F6_l27 n x m (i : Int) (bytesL s) = some (frame (s ++ wB (x.Watch.drop i)), 0)
 | 0, i, _, _, h, _, _ => by omega
 | m + 1, i, s, hi, hm, h1, hs => by
  unfold F6_l27
  by_cases hlt : i < x.Watch.length
  ·have hc : isC x.Watch[i] = true := okC_is hw _ (List.getElem_mem hlt)
   have hz := byC_size (isC_in hc)
   rw [if_pos (lt_dec hlt), ixg x.Watch i hlt]
   simp only [Option.bind_some, bytes_is (by omega : 10 ≤ n) hc]
   rw [bldAdd_s (by omega)]
   simp only [Option.bind_some]
   rw [dsucc (by simp only [maxLen]; omega)]
   have hb := ba_size s (byC x.Watch[i])
   have ih := nx_w hn x hl hw m (i + 1) (s ++ byC x.Watch[i]) (by omega) (by omega) (by omega) (by omega)
   rw [ih, dropS x.Watch i hlt, wB, ba_assoc]
  ·rw [if_neg (by rw [ge_dec hlt]; decide), List.drop_of_length_le (by omega), wB, ba_nil_r]
   unfold bldLen
   rw [bytesL_len, bldStr_s h1]
   simp only [Option.bind_some]
   rw [if_neg (by simp; omega), wrapB_eq (by omega) (by omega) (by omega) (tx_eq' (by omega) (by omega))]
   rfl
theorem nx_h {n : Nat} (hn : 60000 ≤ n) (x : Note) (hl : x.Watch.length ≤ 30) (hw : x.Watch.all okC = true) (hh : x.Hands.length ≤ 30) : ∀ (m i : Nat) (s : ByteArray), i ≤ x.Hands.length → x.Hands.length - i < m → 1 ≤ s.size → s.size + 20 * (x.Hands.length - i) ≤ 20000 →
  F6_l14 n x m (i : Int) (bytesL s) = some (frame (s ++ hB (x.Hands.drop i) ++ pu (x.Watch.length : Int) ++ wB x.Watch), 0)
 | 0, i, _, _, h, _, _ => by omega
 | m + 1, i, s, hi, hm, h1, hs => by
  unfold F6_l14
  by_cases hlt : i < x.Hands.length
  ·have p1 := pu_size x.Hands[i].Cell
   have p2 := pu_size x.Hands[i].To
   have hb := ba_size (pu x.Hands[i].Cell) (pu x.Hands[i].To)
   have hb2 := ba_size s (pu x.Hands[i].Cell ++ pu x.Hands[i].To)
   rw [if_pos (lt_dec hlt), ixg x.Hands i hlt]
   simp only [Option.bind_some, pu_eq (by omega : 10 ≤ n)]
   rw [if_pos (by omega), bldAdd_s (by omega)]
   simp only [Option.bind_some]
   rw [dsucc (by simp only [maxLen]; omega)]
   have ih := nx_h hn x hl hw hh m (i + 1) (s ++ (pu x.Hands[i].Cell ++ pu x.Hands[i].To)) (by omega) (by omega) (by omega) (by omega)
   rw [ih, dropS x.Hands i hlt, hB]
   simp only [ba_assoc]
  ·have p1 := pu_size (x.Watch.length : Int)
   have hb := ba_size s (pu (x.Watch.length : Int))
   rw [if_neg (by rw [ge_dec hlt]; decide), List.drop_of_length_le (by omega), hB, ba_nil_r]
   simp only [Option.bind_some, pu_eq (by omega : 10 ≤ n)]
   rw [bldAdd_s (by omega)]
   simp only [Option.bind_some]
   have := nx_w hn x hl hw (n + 8) 0 (s ++ pu (x.Watch.length : Int)) (by omega) (by omega) (by omega) (by omega)
   rw [List.drop_zero] at this
   exact this
structure Small (x : Note) : Prop where
 m : x.Moved.length ≤ 30
 g : x.Given.length ≤ 30
 h : x.Hands.length ≤ 20
 w : x.Watch.length ≤ 24
theorem nx_eq {n : Nat} (hn : 60000 ≤ n) {x : Note} (S : Small x) (hi : isNt 4 x = true) : F6 n x = some (frame (bodyN x), 0) := by
 obtain ⟨h1, h2, h3, h4⟩ := S
 have L : Lens n x := ⟨by omega, by omega, by omega, by omega, by omega⟩
 unfold F6
 have e4 : imin 4 4 = 4 := by decide
 rw [is_note L, e4, Option.bind_some, hi]
 have hw : x.Watch.all okC = true := by
  simp only [isNt, Bool.and_eq_true] at hi
  exact hi.2.2.2.2.2.2.2.2
 simp only [Bool.not_true, Bool.false_eq_true, if_false, all_eq (by omega : 300 ≤ n), pu_eq (by omega : 10 ≤ n), Option.bind_some]
 have a1 := allB_size x.Moved
 have a2 := allB_size x.Given
 have p1 := pu_size x.From
 have p2 := pu_size x.Beat
 have p3 := pu_size (x.Hands.length : Int)
 have s1 := ba_size (pu x.From) (pu x.Beat)
 have s2 := ba_size (pu x.From ++ pu x.Beat) (allB x.Moved).1
 have s3 := ba_size (pu x.From ++ pu x.Beat ++ (allB x.Moved).1) (allB x.Given).1
 have s4 := ba_size (pu x.From ++ pu x.Beat ++ (allB x.Moved).1 ++ (allB x.Given).1) (pu (x.Hands.length : Int))
 rw [if_pos (by omega), if_pos (by omega), if_pos (by omega), if_pos (by omega)]
 have hb := bldAdd_s (a := ByteArray.empty) (b := pu x.From ++ pu x.Beat ++ (allB x.Moved).1 ++ (allB x.Given).1 ++ pu (x.Hands.length : Int)) (by show 0 + _ ≤ _; omega)
 have he : bytesL ByteArray.empty = [] := rfl
 rw [he, ba_nil] at hb
 rw [hb, Option.bind_some]
 have := nx_h hn x (by omega) hw (by omega) (n + 8) 0 _ (by omega) (by omega) (by omega) (by omega : (pu x.From ++ pu x.Beat ++ (allB x.Moved).1 ++ (allB x.Given).1 ++ pu (x.Hands.length : Int)).size + 20 * (x.Hands.length - 0) ≤ 20000)
 rw [List.drop_zero] at this
 exact this
theorem bodyN_size {x : Note} (S : Small x) (hw : x.Watch.all okC = true) : (bodyN x).size ≤ 22500 := by
 obtain ⟨h1, h2, h3, h4⟩ := S
 have a1 := allB_size x.Moved
 have a2 := allB_size x.Given
 have p1 := pu_size x.From
 have p2 := pu_size x.Beat
 have p3 := pu_size (x.Hands.length : Int)
 have p4 := pu_size (x.Watch.length : Int)
 have b1 := hB_size x.Hands
 have b2 := wB_size x.Watch (okC_is hw)
 unfold bodyN
 simp only [ba_size]
 omega
def zNt : Note := ⟨0, 0, [], [], [], []⟩
theorem texts_len {n : Nat} {s : ByteArray} {L : Int} {r : ByteArray × Int × Int} (h : F56 n s L = some r) : r.1.size ≤ s.size := by
 unfold F56 at h
 cases hg : F82 n s with
 | none => rw [hg] at h; cases h
 | some g =>
  rw [hg, Option.bind_some] at h
  have z : (ByteArray.empty).size = 0 := rfl
  revert h
  repeat' split
  all_goals intro h
  all_goals first
   | (cases h; simp only [z]; omega)
   | (cases h; simp only [ByteArray.size_extract]; omega)
   | cases h
theorem open_tot {n : Nat} {s : ByteArray} (hs : s.size ≤ 90000) (hn : 100000 ≤ n) : ∃ o, F27 n s = some o ∧ (o.2.2 ≠ 0 ∧ o.1 = ByteArray.empty ∧ o.2.1 = 0 ∨ o.2.2 = 0 ∧ 0 ≤ o.2.1 ∧ o.2.1 ≤ (s.size : Int) ∧ o.1.size ≤ s.size) := by
 obtain ⟨r, q, h⟩ := texts_tot n s (by omega) (by omega) (L := 40000) (by omega)
 have hl := texts_len q
 unfold F27
 rw [q, Option.bind_some]
 rcases h with ⟨e0, k1, k2⟩ | ⟨e0, _, _⟩
 ·rw [if_neg (by simp [e0])]
  have w1 : IntKind.wrap .i64 ((s.size : Int) - r.2.1) = s.size - r.2.1 := w64 (by omega) (by omega)
  have w2 : IntKind.wrap .i64 (r.2.1 + 4) = r.2.1 + 4 := w64 (by omega) (by omega)
  rw [w1, w2]
  by_cases hc : (s.size : Int) - r.2.1 < 4
  ·rw [if_pos (by simpa using hc)]
   exact ⟨_, rfl, .inl ⟨by decide, rfl, rfl⟩⟩
  ·rw [if_neg (by simpa using hc), if_pos (by omega), sum_eq (by omega) (by omega) (by omega), Option.bind_some, told_eq, Option.bind_some]
   split
   ·exact ⟨_, rfl, .inl ⟨by decide, rfl, rfl⟩⟩
   ·exact ⟨_, rfl, .inr ⟨rfl, by simp only; omega, by simp only; omega, hl⟩⟩
 ·rw [if_pos (by simp [e0])]
  exact ⟨_, rfl, .inl ⟨e0, rfl, rfl⟩⟩
def AtN (s : ByteArray) (g : Reader) : Prop := g.s = s ∧ 0 ≤ g.at_ ∧ g.at_ ≤ (s.size : Int)
theorem took_tot (n : Nat) {s : ByteArray} {g : Reader} (h : AtN s g) (hs : s.size ≤ 90000) {k e : Int} (h0 : 0 ≤ g.at_ + k) (h1 : g.at_ + k ≤ (s.size : Int)) : ∃ g', F60 n g k e = some g' ∧ AtN s g' := by
 obtain ⟨gs, ga, gf⟩ := g
 obtain ⟨rfl, a0, a1⟩ := h
 simp only at h0 h1 hs
 unfold F60
 have w : IntKind.wrap .i64 (ga + k) = ga + k := w64 (by omega) (by omega)
 split
 ·exact ⟨_, rfl, rfl, by simp only [w]; omega, by simp only [w]; omega⟩
 ·exact ⟨_, rfl, rfl, by simp only [w]; omega, by simp only [w]; omega⟩
section
variable {n : Nat} {s : ByteArray} (hs : s.size ≤ 90000) (hn : 100000 ≤ n)
include hs hn
theorem nnum_tot {g : Reader} (h : AtN s g) {most : Int} (hm : 0 ≤ most ∧ most ≤ 2000000000) : ∃ v g', F57 n g most = some (v, g') ∧ AtN s g' ∧ 0 ≤ v ∧ v ≤ most := by
 have h' := h
 obtain ⟨gs, ga, gf⟩ := g
 obtain ⟨rfl, h0, h1⟩ := h
 simp only at h0 h1 hs hn
 unfold F57
 split
 ·exact ⟨_, _, rfl, h', by omega, by omega⟩
 ·dsimp only
  have z1 := ext_size gs ga h0 h1
  obtain ⟨r, q1, q3⟩ := get_tot n (gs.extract ga.toNat gs.size) (by omega) (by omega)
  rw [if_pos ⟨h0, h1⟩, q1, Option.bind_some]
  have hr : 0 ≤ ga + r.2.1 ∧ ga + r.2.1 ≤ (gs.size : Int) ∧ 0 ≤ r.1 := by
   rcases q3 with ⟨_, k1, k2, k3, _⟩ | ⟨_, k0, k1⟩
   ·exact ⟨by omega, by omega, k3⟩
   ·exact ⟨by omega, by omega, by omega⟩
  obtain ⟨g2, q2, h2⟩ := took_tot n h' (by omega) (k := r.2.1) (e := r.2.2) hr.1 hr.2.1
  rw [q2, Option.bind_some]
  split
  ·exact ⟨_, _, rfl, ⟨h2.1, h2.2⟩, by omega, by omega⟩
  ·rename_i hc
   have hc' : r.1 ≤ most := by simpa using hc
   have w : IntKind.wrap .i64 r.1 = r.1 := w64 (by omega) (by omega)
   exact ⟨_, _, rfl, h2, by rw [w]; omega, by rw [w]; omega⟩
theorem nths_tot {g : Reader} (h : AtN s g) : ∃ l g', F58 n g = some (l, g') ∧ AtN s g' ∧ l.length ≤ 200 := by
 have h' := h
 obtain ⟨gs, ga, gf⟩ := g
 obtain ⟨rfl, h0, h1⟩ := h
 simp only at h0 h1 hs hn
 unfold F58
 split
 ·exact ⟨_, _, rfl, h', by simp⟩
 ·dsimp only
  have z1 := ext_size gs ga h0 h1
  obtain ⟨r, q1, q3, q4, q5⟩ := some_tot (n := n) (s := gs.extract ga.toNat gs.size) (by omega) (by omega) (by omega)
  rw [if_pos ⟨h0, h1⟩, q1, Option.bind_some]
  obtain ⟨g2, q2, h2⟩ := took_tot n h' (by omega) (k := r.2.1) (e := r.2.2) (by simp only; omega) (by simp only; omega)
  rw [q2, Option.bind_some]
  exact ⟨_, _, rfl, h2, q3⟩
structure Mid (x : Note) : Prop where
 m : x.Moved.length ≤ 200
 g : x.Given.length ≤ 200
 h : x.Hands.length ≤ 16
 w : x.Watch.length ≤ 20
theorem w41_tot (r1 r2 : Int × Reader) (r3 r4 : List Thing × Reader) (h3 : r3.1.length ≤ 200) (h4 : r4.1.length ≤ 200) (H : List Hand) (hH : H.length ≤ 16) (r31 : Int × Reader) (h31 : 0 ≤ r31.1 ∧ r31.1 ≤ 20) : ∀ (m i : Nat) (g : Reader) (W : List Command), W.length = i → (i : Int) ≤ r31.1 → r31.1.toNat - i < m → AtN s g →
  ∃ x g', F28_l41 n r1 r2 r3 r4 H r31 m g (i : Int) W = some (x, g') ∧ Mid x
 | 0, i, _, _, _, _, h, _ => by omega
 | m + 1, i, g, W, hW, hi, hm, hg => by
  unfold F28_l41
  by_cases hlt : (i : Int) < r31.1
  ·rw [if_pos (by simpa using hlt)]
   split
   ·exact ⟨_, _, rfl, h3, h4, hH, by simp only; omega⟩
   ·have hg' := hg
    obtain ⟨gs, ga, gf⟩ := g
    obtain ⟨e, h0, h1⟩ := hg
    simp only at e h0 h1
    have e' := e.symm
    subst e'
    dsimp only
    have z1 := ext_size s ga h0 h1
    obtain ⟨r, q1, q3⟩ := readC_tot (n := n) (by omega) (s := s.extract ga.toNat s.size) (by omega) (by omega)
    have hr : 0 ≤ r.2.1 ∧ r.2.1 ≤ ((s.extract ga.toNat s.size).size : Int) := by
     rcases q3 with ⟨_, k, _⟩ | ⟨_, _, _, k, k2, _⟩
     ·omega
     ·omega
    rw [if_pos ⟨h0, h1⟩, q1, Option.bind_some]
    obtain ⟨g2, q2, h2⟩ := took_tot n hg' (by omega) (k := r.2.1) (e := r.2.2) (by simp only; omega) (by simp only; omega)
    rw [q2, Option.bind_some, if_pos (by rw [hW]; simp only [maxCells]; omega), dsucc (by simp only [maxLen]; omega)]
    exact w41_tot r1 r2 r3 r4 h3 h4 H hH r31 h31 m (i + 1) g2 (W ++ [r.1]) (by simp [hW]) (by omega) (by omega) h2
  ·rw [if_neg (by simpa using hlt)]
   exact ⟨_, _, rfl, h3, h4, hH, by simp only; omega⟩
theorem w28_tot (r1 r2 : Int × Reader) (r3 r4 : List Thing × Reader) (h3 : r3.1.length ≤ 200) (h4 : r4.1.length ≤ 200) (H : List Hand) (hH : H.length ≤ 16) (r31 : Int × Reader) (h31 : 0 ≤ r31.1 ∧ r31.1 ≤ 20) : ∀ (m i : Nat) (g : Reader) (W : List Command), W.length = i → (i : Int) ≤ r31.1 → r31.1.toNat - i < m → AtN s g →
  ∃ x g', F28_l28 n r1 r2 r3 r4 H r31 m g (i : Int) W = some (x, g') ∧ Mid x
 | 0, i, _, _, _, _, h, _ => by omega
 | m + 1, i, g, W, hW, hi, hm, hg => by
  unfold F28_l28
  by_cases hlt : (i : Int) < r31.1
  ·rw [if_pos (by simpa using hlt)]
   split
   ·exact ⟨_, _, rfl, h3, h4, hH, by simp only; omega⟩
   ·have hg' := hg
    obtain ⟨gs, ga, gf⟩ := g
    obtain ⟨e, h0, h1⟩ := hg
    simp only at e h0 h1
    have e' := e.symm
    subst e'
    dsimp only
    have z1 := ext_size s ga h0 h1
    obtain ⟨r, q1, q3⟩ := readC_tot (n := n) (by omega) (s := s.extract ga.toNat s.size) (by omega) (by omega)
    have hr : 0 ≤ r.2.1 ∧ r.2.1 ≤ ((s.extract ga.toNat s.size).size : Int) := by
     rcases q3 with ⟨_, k, _⟩ | ⟨_, _, _, k, k2, _⟩
     ·omega
     ·omega
    rw [if_pos ⟨h0, h1⟩, q1, Option.bind_some]
    obtain ⟨g2, q2, h2⟩ := took_tot n hg' (by omega) (k := r.2.1) (e := r.2.2) (by simp only; omega) (by simp only; omega)
    rw [q2, Option.bind_some, if_pos (by rw [hW]; simp only [maxCells]; omega), dsucc (by simp only [maxLen]; omega)]
    exact w28_tot r1 r2 r3 r4 h3 h4 H hH r31 h31 m (i + 1) g2 (W ++ [r.1]) (by simp [hW]) (by omega) (by omega) h2
  ·rw [if_neg (by simpa using hlt)]
   exact ⟨_, _, rfl, h3, h4, hH, by simp only; omega⟩
theorem h15_tot (r1 r2 : Int × Reader) (r3 r4 : List Thing × Reader) (h3 : r3.1.length ≤ 200) (h4 : r4.1.length ≤ 200) (r5 : Int × Reader) (h5 : 0 ≤ r5.1 ∧ r5.1 ≤ 16) : ∀ (m i : Nat) (g : Reader) (H : List Hand), H.length = i → (i : Int) ≤ r5.1 → r5.1.toNat - i < m → AtN s g →
  ∃ x g', F28_l15 n r1 r2 r3 r4 r5 m g (i : Int) H = some (x, g') ∧ Mid x
 | 0, i, _, _, _, _, h, _ => by omega
 | m + 1, i, g, H, hH, hi, hm, hg => by
  unfold F28_l15
  by_cases hlt : (i : Int) < r5.1
  ·rw [if_pos (by simpa using hlt)]
   split
   ·obtain ⟨v, g2, q, h2, b0, b1⟩ := nnum_tot hs hn hg (most := 20) (by omega)
    rw [q, Option.bind_some]
    exact w28_tot hs hn r1 r2 r3 r4 h3 h4 H (by omega) (v, g2) ⟨b0, b1⟩ (n + 8) 0 g2 [] rfl (by simp only; omega) (by simp only; omega) h2
   ·obtain ⟨v, g2, q, h2, b0, b1⟩ := nnum_tot hs hn hg (most := 16) (by omega)
    obtain ⟨v', g3, q', h2', c0, c1⟩ := nnum_tot hs hn h2 (most := 4) (by omega)
    rw [q, Option.bind_some]
    dsimp only
    rw [q', Option.bind_some, if_pos (by rw [hH]; simp only [maxCells]; omega), dsucc (by simp only [maxLen]; omega)]
    exact h15_tot r1 r2 r3 r4 h3 h4 r5 h5 m (i + 1) g3 _ (by simp [hH]) (by omega) (by omega) h2'
  ·rw [if_neg (by simpa using hlt)]
   obtain ⟨v, g2, q, h2, b0, b1⟩ := nnum_tot hs hn hg (most := 20) (by omega)
   rw [q, Option.bind_some]
   exact w41_tot hs hn r1 r2 r3 r4 h3 h4 H (by omega) (v, g2) ⟨b0, b1⟩ (n + 8) 0 g2 [] rfl (by simp only; omega) (by simp only; omega) h2
theorem nnote_tot : ∃ x g, F28 n ⟨s, 0, false⟩ = some (x, g) ∧ Mid x := by
 unfold F28
 obtain ⟨v1, g1, q1, h1, _, _⟩ := nnum_tot hs hn (g := ⟨s, 0, false⟩) ⟨rfl, Int.le_refl _, by show (0 : Int) ≤ _; omega⟩ (most := 4) (by omega)
 obtain ⟨v2, g2, q2, h2, _, _⟩ := nnum_tot hs hn h1 (most := 1073741824) (by omega)
 obtain ⟨l3, g3, q3, h3, m3⟩ := nths_tot hs hn h2
 obtain ⟨l4, g4, q4, h4, m4⟩ := nths_tot hs hn h3
 obtain ⟨v5, g5, q5, h5, b0, b1⟩ := nnum_tot hs hn h4 (most := 16) (by omega)
 rw [q1, Option.bind_some]; dsimp only
 rw [q2, Option.bind_some]; dsimp only
 rw [q3, Option.bind_some]; dsimp only
 rw [q4, Option.bind_some]; dsimp only
 rw [q5, Option.bind_some]
 exact h15_tot hs hn (v1, g1) (v2, g2) (l3, g3) (l4, g4) m3 m4 (v5, g5) ⟨b0, b1⟩ (n + 8) 0 g5 [] rfl (by simp only; omega) (by simp only; omega) h5
end
theorem mx_w {n : Nat} (hn : 100000 ≤ n) (x : Note) (hl : x.Watch.length ≤ 30) (hw : x.Watch.all okC = true) : ∀ (m i : Nat) (s : ByteArray), i ≤ x.Watch.length → x.Watch.length - i < m → 1 ≤ s.size → s.size + 198 * (x.Watch.length - i) ≤ 200000 →
  ∃ b e, F6_l27 n x m (i : Int) (bytesL s) = some (b, e)
 | 0, i, _, _, h, _, _ => by omega
 | m + 1, i, s, hi, hm, h1, hs => by
  unfold F6_l27
  by_cases hlt : i < x.Watch.length
  ·have hc : isC x.Watch[i] = true := okC_is hw _ (List.getElem_mem hlt)
   have hz := byC_size (isC_in hc)
   rw [if_pos (lt_dec hlt), ixg x.Watch i hlt]
   simp only [Option.bind_some, bytes_is (by omega : 10 ≤ n) hc]
   rw [bldAdd_s (by omega)]
   simp only [Option.bind_some]
   rw [dsucc (by simp only [maxLen]; omega)]
   have hb := ba_size s (byC x.Watch[i])
   exact mx_w hn x hl hw m (i + 1) (s ++ byC x.Watch[i]) (by omega) (by omega) (by omega) (by omega)
  ·rw [if_neg (by rw [ge_dec hlt]; decide)]
   unfold bldLen
   rw [bytesL_len, bldStr_s h1]
   simp only [Option.bind_some]
   by_cases h4 : (40000 : Int) < (s.size : Int)
   ·rw [if_pos (by simpa using h4)]; exact ⟨_, _, rfl⟩
   ·rw [if_neg (by simpa using h4), wrapB_eq (by omega) (by omega) (by omega) (tx_eq' (by omega) (by omega))]
    exact ⟨_, _, rfl⟩
theorem mx_h {n : Nat} (hn : 100000 ≤ n) (x : Note) (hl : x.Watch.length ≤ 30) (hw : x.Watch.all okC = true) (hh : x.Hands.length ≤ 30) : ∀ (m i : Nat) (s : ByteArray), i ≤ x.Hands.length → x.Hands.length - i < m → 1 ≤ s.size → s.size + 20 * (x.Hands.length - i) ≤ 190000 →
  ∃ b e, F6_l14 n x m (i : Int) (bytesL s) = some (b, e)
 | 0, i, _, _, h, _, _ => by omega
 | m + 1, i, s, hi, hm, h1, hs => by
  unfold F6_l14
  by_cases hlt : i < x.Hands.length
  ·have p1 := pu_size x.Hands[i].Cell
   have p2 := pu_size x.Hands[i].To
   have hb := ba_size (pu x.Hands[i].Cell) (pu x.Hands[i].To)
   have hb2 := ba_size s (pu x.Hands[i].Cell ++ pu x.Hands[i].To)
   rw [if_pos (lt_dec hlt), ixg x.Hands i hlt]
   simp only [Option.bind_some, pu_eq (by omega : 10 ≤ n)]
   rw [if_pos (by omega), bldAdd_s (by omega)]
   simp only [Option.bind_some]
   rw [dsucc (by simp only [maxLen]; omega)]
   exact mx_h hn x hl hw hh m (i + 1) (s ++ (pu x.Hands[i].Cell ++ pu x.Hands[i].To)) (by omega) (by omega) (by omega) (by omega)
  ·have p1 := pu_size (x.Watch.length : Int)
   have hb := ba_size s (pu (x.Watch.length : Int))
   rw [if_neg (by rw [ge_dec hlt]; decide)]
   simp only [Option.bind_some, pu_eq (by omega : 10 ≤ n)]
   rw [bldAdd_s (by omega)]
   simp only [Option.bind_some]
   exact mx_w hn x hl hw (n + 8) 0 (s ++ pu (x.Watch.length : Int)) (by omega) (by omega) (by omega) (by omega)
theorem mx_eq {n : Nat} (hn : 100000 ≤ n) {x : Note} (S : Mid x) : ∃ b e, F6 n x = some (b, e) ∧ (e = 0 → isNt 4 x = true) := by
 obtain ⟨h1, h2, h3, h4⟩ := S
 have L : Lens n x := ⟨by omega, by omega, by omega, by omega, by omega⟩
 unfold F6
 have e4 : imin 4 4 = 4 := by decide
 rw [is_note L, e4, Option.bind_some]
 cases hi : isNt 4 x with
 | false => exact ⟨_, _, rfl, fun h => (by cases h)⟩
 | true =>
  have hw : x.Watch.all okC = true := by
   simp only [isNt, Bool.and_eq_true] at hi
   exact hi.2.2.2.2.2.2.2.2
  simp only [Bool.not_true, Bool.false_eq_true, if_false, all_eq (by omega : 300 ≤ n), pu_eq (by omega : 10 ≤ n), Option.bind_some]
  have a1 := allB_size x.Moved
  have a2 := allB_size x.Given
  have p1 := pu_size x.From
  have p2 := pu_size x.Beat
  have p3 := pu_size (x.Hands.length : Int)
  have s1 := ba_size (pu x.From) (pu x.Beat)
  have s2 := ba_size (pu x.From ++ pu x.Beat) (allB x.Moved).1
  have s3 := ba_size (pu x.From ++ pu x.Beat ++ (allB x.Moved).1) (allB x.Given).1
  have s4 := ba_size (pu x.From ++ pu x.Beat ++ (allB x.Moved).1 ++ (allB x.Given).1) (pu (x.Hands.length : Int))
  rw [if_pos (by omega), if_pos (by omega), if_pos (by omega), if_pos (by omega)]
  have hb := bldAdd_s (a := ByteArray.empty) (b := pu x.From ++ pu x.Beat ++ (allB x.Moved).1 ++ (allB x.Given).1 ++ pu (x.Hands.length : Int)) (by show 0 + _ ≤ _; omega)
  have he : bytesL ByteArray.empty = [] := rfl
  rw [he, ba_nil] at hb
  rw [hb, Option.bind_some]
  obtain ⟨b, e, q⟩ := mx_h hn x (by omega) hw (by omega) (n + 8) 0 (pu x.From ++ pu x.Beat ++ (allB x.Moved).1 ++ (allB x.Given).1 ++ pu (x.Hands.length : Int)) (by omega) (by omega) (by omega) (by omega)
  exact ⟨b, e, q, fun _ => by trivial⟩
theorem nread_tot {n : Nat} {s : ByteArray} (hs : s.size ≤ 90000) (hn : 100000 ≤ n) : ∃ r o, F10 n s = some r ∧ F27 n s = some o ∧
  ((o.2.2 ≠ 0 ∧ r = (zNt, 0, o.2.2)) ∨ (o.2.2 = 0 ∧ (r = (zNt, 0, 11) ∨ (r.2.1 = o.2.1 ∧ r.2.2 = 0 ∧ Mid r.1 ∧ isNt 4 r.1 = true ∧ (0 ≤ o.2.1 ∧ o.2.1 ≤ (s.size : Int)) ∧ F6 n r.1 = some (s.extract 0 o.2.1.toNat, 0))))) := by
 obtain ⟨o, q, h⟩ := open_tot hs hn
 unfold F10
 rw [q, Option.bind_some]
 rcases h with ⟨e0, _, _⟩ | ⟨e0, k1, k2, hl⟩
 ·rw [if_pos (by simp [e0])]
  exact ⟨_, o, rfl, rfl, .inl ⟨e0, rfl⟩⟩
 ·rw [if_neg (by simp [e0])]
  obtain ⟨x, g, qx, hx⟩ := nnote_tot (n := n) (s := o.1) (by omega) hn
  obtain ⟨b, e, qb, hb⟩ := mx_eq (n := n) hn hx
  rw [qx, Option.bind_some]
  dsimp only
  rw [qb, Option.bind_some]
  dsimp only
  split
  ·exact ⟨_, o, rfl, rfl, .inr ⟨e0, .inl rfl⟩⟩
  ·split
   ·exact ⟨_, o, rfl, rfl, .inr ⟨e0, .inl rfl⟩⟩
   ·rename_i he
    have he' : e = 0 := by simpa using he
    rw [if_pos ⟨k1, k2⟩]
    split
    ·exact ⟨_, o, rfl, rfl, .inr ⟨e0, .inl rfl⟩⟩
    ·rename_i hc
     have hc' : (b.toList == (s.extract 0 o.2.1.toNat).toList) = true := by simpa using hc
     have := (toList_eq _ _).1 hc'
     subst he'
     exact ⟨_, o, rfl, rfl, .inr ⟨e0, .inr ⟨rfl, rfl, hx, hb rfl, ⟨k1, k2⟩, by rw [← this]; exact qb⟩⟩⟩
theorem drop_at {l : List Int} {i : Nat} (h : i < l.length) : l.drop i = l[i] :: l.drop (i + 1) := List.drop_eq_getElem_cons h
theorem sev {i : Nat} (h : i ≤ 9) : IntKind.wrap .i64 (7 * (i : Int)) = ((7 * i : Nat) : Int) := by rw [w64 (by omega) (by omega)]; push_cast; rfl
theorem and_not {x : Int} (h : 128 ≤ x ∧ x < 256) : bitsI .andNot .u8 x 128 = x - 128 := by
 have := (ch_is (y := x - 128) (by omega)).2
 have e : 128 + (x - 128) % 128 = x := by omega
 rw [e] at this
 rw [this]; omega
theorem get_can_l (n : Nat) (s : ByteArray) (hs : s.size ≤ 100000) : ∀ (m i : Nat) (acc u k : Int), i ≤ 9 → 0 ≤ acc → acc < 2 ^ (7 * i) → F82_l7 n s m acc (i : Int) = some (u, k, 0) →
  ∃ y rest, 0 ≤ y ∧ u = acc + y * 2 ^ (7 * i) ∧ (bytesL s).drop i = putL (10 - i) y ++ rest ∧ k = ((i + (putL (10 - i) y).length : Nat) : Int) ∧ (0 < i → 1 ≤ y)
 | 0, i, acc, u, k, _, _, _, h => by cases h
 | m + 1, i, acc, u, k, hi9, ha0, ha, h => by
  have hl : (bytesL s).length = s.size := bytesL_len s
  unfold F82_l7 at h
  by_cases hi : i < (bytesL s).length
  ·have hdd : decide ((i : Int) < ((bytesL s).length : Int)) = true := by rw [decide_eq_true_eq]; omega
   obtain ⟨q, hq⟩ := byte_in s i hi
   have ex := ixb s i hi
   rw [hq] at ex
   have hd := drop_at hi
   rw [hq] at hd
   have hx : 0 ≤ (q.val : Int) ∧ (q.val : Int) < 256 := by have := q.isLt; omega
   generalize (q.val : Int) = x at ex hd hx h
   simp only [hdd, if_true, ex, Option.bind_some] at h
   have w1 : IntKind.wrap .i64 ((i : Int) + 1) = ((i + 1 : Nat) : Int) := by rw [w64 (by omega) (by omega)]; push_cast; rfl
   have g7 : ¬ (((7 * i : Nat) : Int) < 0) := by omega
   have ne : (((i + 1 : Nat) : Int) == 0) = false := by rw [beq_eq_false_iff_ne]; omega
   have pp : (0 : Int) < 2 ^ (7 * i) := Int.pow_pos (by decide)
   have key : F82_j9 n acc (i : Int) x (F82_l7 n s m) = some (u, k, 0) ∧ (i = 9 → x ≤ 1) := by
    by_cases h9 : i = 9
    ·subst h9
     have h9' : (((9 : Nat) : Int) == 9) = true := rfl
     rw [if_pos h9'] at h
     by_cases hx1 : (1 : Int) < x
     ·rw [if_pos (by simpa using hx1), if_pos (by simpa using hx1)] at h; cases h
     ·rw [if_neg (by simpa using hx1)] at h; exact ⟨h, fun _ => by omega⟩
    ·rw [if_neg (by rw [beq_iff_eq]; omega)] at h
     exact ⟨h, fun e => absurd e h9⟩
   obtain ⟨key, hx9⟩ := key
   have pw : x ≤ 1 ∨ i ≤ 8 := by omega
   have bd : ∀ z : Int, 0 ≤ z → z ≤ 127 → (i = 9 → z ≤ 1) → z * 2 ^ (7 * i) + 2 ^ (7 * i) ≤ 18446744073709551616 := by
    intro z z0 z1 z9
    by_cases h9 : i = 9
    ·subst h9
     have : (2 : Int) ^ (7 * 9) = 9223372036854775808 := by decide
     rw [this]; have := z9 rfl; omega
    ·have h0 : (2 : Nat) ^ (7 * i) ≤ 2 ^ 56 := Nat.pow_le_pow_right (by decide) (by omega)
     have h1 : (2 : Int) ^ (7 * i) ≤ 2 ^ 56 := by exact_mod_cast h0
     have h2 : (2 : Int) ^ 56 = 72057594037927936 := by decide
     have h3 : z * 2 ^ (7 * i) ≤ 127 * 2 ^ (7 * i) := Int.mul_le_mul_of_nonneg_right z1 (by omega)
     omega
   have add : ∀ z : Int, 0 ≤ z → z ≤ 127 → (i = 9 → z ≤ 1) → bitsI .or .u64 acc (shlI .u64 (IntKind.wrap .u64 z) (IntKind.wrap .i64 (7 * (i : Int)))) = acc + z * 2 ^ (7 * i) := by
    intro z z0 z1 z9
    have hb := bd z z0 z1 z9
    have wz : IntKind.wrap .u64 z = z := by rw [wrap_u64]; omega
    have nz : 0 ≤ z * 2 ^ (7 * i) := Int.mul_nonneg z0 (by omega)
    rw [sev hi9, wz, shlI_mul (by omega) z0 (by omega), orI ha0 ha z0 (by omega)]
   have core : F82_j10 n acc (i : Int) x (F82_l7 n s m) = some (u, k, 0) ∧ (0 < i → x ≠ 0) := by
    unfold F82_j9 at key
    by_cases h0 : 0 < i
    ·rw [if_pos (by rw [decide_eq_true_eq]; omega)] at key
     by_cases hz : x = 0
     ·rw [if_pos (by simpa using hz)] at key; cases key
     ·rw [if_neg (by simpa using hz)] at key; exact ⟨key, fun _ => hz⟩
    ·rw [if_neg (by rw [decide_eq_true_eq]; omega)] at key; exact ⟨key, fun h => absurd h h0⟩
   obtain ⟨core, hx0⟩ := core
   unfold F82_j10 F82_j13 at core
   by_cases hlt : x < 128
   ·rw [if_pos (by simpa using hlt), if_pos (by rw [sev hi9]; exact g7), w1, if_neg (by rw [ne]; decide), add x hx.1 (by omega) hx9] at core
    have c1 := congrArg Prod.fst (Option.some.inj core)
    have c2 := congrArg (fun p => p.2.1) (Option.some.inj core)
    simp only at c1 c2
    have e10 : 10 - i = (9 - i) + 1 := by omega
    have w8 : IntKind.wrap .u8 x = x := by rw [wrap_u8]; omega
    have hp : putL (10 - i) x = [x] := by rw [e10, putL, if_neg (by omega), w8]
    refine ⟨x, (bytesL s).drop (i + 1), hx.1, c1.symm, by rw [hd, hp]; rfl, by rw [hp, List.length_singleton]; exact c2.symm, fun h => by have := hx0 h; omega⟩
   ·have hi8 : i ≤ 8 := by omega
    have an := and_not (x := x) (by omega)
    rw [if_neg (by simpa using hlt), if_pos (by rw [sev hi9]; exact g7), w1, an, add (x - 128) (by omega) (by omega) (by omega)] at core
    have pow : (2 : Int) ^ (7 * (i + 1)) = 2 ^ (7 * i) * 128 := by
     rw [show 7 * (i + 1) = 7 * i + 7 by omega, Int.pow_add]; rfl
    have nz : 0 ≤ (x - 128) * 2 ^ (7 * i) := Int.mul_nonneg (by omega) (by omega)
    have lt2 : (x - 128) * 2 ^ (7 * i) ≤ 127 * 2 ^ (7 * i) := Int.mul_le_mul_of_nonneg_right (by omega) (by omega)
    obtain ⟨y, rest, y0, e1, e2, e3, e4⟩ := get_can_l n s hs m (i + 1) (acc + (x - 128) * 2 ^ (7 * i)) u k (by omega) (by omega) (by rw [pow]; omega) core
    have y1 := e4 (by omega)
    have e10 : 10 - i = (10 - (i + 1)) + 1 := by omega
    have hy : (x - 128 + 128 * y) / 128 = y := by omega
    have hch : ch (x - 128 + 128 * y) = x := by
     rw [(ch_is (by omega)).1]; omega
    have hp : putL (10 - i) (x - 128 + 128 * y) = x :: putL (10 - (i + 1)) y := by
     rw [e10, putL, if_pos (by omega), hy, hch]
    refine ⟨x - 128 + 128 * y, rest, by omega, ?_, by rw [hd, hp, e2]; rfl, by rw [hp, e3, List.length_cons]; push_cast; omega, fun _ => by omega⟩
    rw [e1, pow, Int.add_mul, Int.add_assoc]
    congr 1
    congr 1
    rw [Int.mul_comm (2 ^ (7 * i)) 128, ← Int.mul_assoc, Int.mul_comm y 128]
  ·have hdd : decide ((i : Int) < ((bytesL s).length : Int)) = false := by rw [decide_eq_false_iff_not]; omega
   simp only [hdd, Bool.false_eq_true, if_false] at h
   unfold F82_j13 at h
   rw [if_pos (by decide)] at h
   cases h
theorem get_can {n : Nat} {s : ByteArray} (hs : s.size ≤ 100000) {u k : Int} (h : F82 n s = some (u, k, 0)) : ∃ R, s = pt u ++ R ∧ k = ((pt u).size : Int) := by
 unfold F82 at h
 obtain ⟨y, rest, y0, e1, e2, e3, _⟩ := get_can_l n s hs (n + 8) 0 0 u k (by omega) (by omega) (by decide) h
 have eu : u = y := by rw [e1]; simp
 subst eu
 rw [List.drop_zero] at e2
 refine ⟨mkStr rest, ?_, by rw [e3, pt, mkStr_size]; simp⟩
 have := congrArg mkStr e2
 rw [mk_bytes, mkStr_app] at this
 exact this
theorem rOf8 (n : Nat) (i6 : Int) (f g : Int → Int → Option Int) (hfg : ∀ x i, f x i = g x i) : ∀ (m : Nat) (x i : Int), F25_l15 n i6 f m x i = F47_l15 n i6 g m x i
 | 0, _, _ => rfl
 | m + 1, x, i => by
  unfold F25_l15 F47_l15
  simp only [rOf8 n i6 f g hfg m, hfg]
theorem rOf_l (n : Nat) (s : ByteArray) : ∀ (m : Nat) (x i : Int), F25_l7 n s m x i = F47_l7 n s m x i
 | 0, _, _ => rfl
 | m + 1, x, i => by
  unfold F25_l7 F47_l7
  rw [bytesL_len]
  simp only [rOf8 n i _ _ (rOf_l n s m)]
theorem rOf_eq (n : Nat) (s : ByteArray) : F25 n s = F47 n s := rOf_l n s _ _ _
theorem rText_eq {n : Nat} (hn : 10 ≤ n) {s : ByteArray} (h : s.size ≤ 100000) : F26 n s = some (tx s) := by
 unfold F26
 have := pu_size (s.size : Int)
 rw [rpu_eq hn]
 simp only [Option.bind_some]
 rw [if_pos (by omega)]; rfl
theorem rWrap_eq {n : Nat} {s : ByteArray} (hn : 10 ≤ n) (hs : s.size ≤ 100000) (hn2 : s.size ≤ n) : F9 n s = some (frame s) := by
 have h8 := shr_nat (sumN s) 8 (by omega)
 have h16 := shr_nat (sumN s) 16 (by omega)
 have h24 := shr_nat (sumN s) 24 (by omega)
 have e8 : ((8 : Nat) : Int) = 8 := rfl
 have e16 : ((16 : Nat) : Int) = 16 := rfl
 have e24 : ((24 : Nat) : Int) = 24 := rfl
 rw [e8] at h8; rw [e16] at h16; rw [e24] at h24
 have ht : mkStr [IntKind.wrap .u8 ((sumN s : Nat) : Int), IntKind.wrap .u8 (shrI .u32 ((sumN s : Nat) : Int) 8), IntKind.wrap .u8 (shrI .u32 ((sumN s : Nat) : Int) 16), IntKind.wrap .u8 (shrI .u32 ((sumN s : Nat) : Int) 24)] = toldB (sumN s) := by
  rw [h8, h16, h24]
  simp only [wrap_u8]
  unfold toldB
  norm_cast
 unfold F9
 rw [rOf_eq, sum_eq hs hn2 (by omega), Option.bind_some, rText_eq hn hs, Option.bind_some, ht]
 have h1 := (tx_size s).1
 rw [if_pos (by rw [toldB_size]; omega)]
 rfl
theorem rTexts_eq (n : Nat) (s : ByteArray) (hs : s.size ≤ 100000) (hn : s.size ≤ n) : F23 n s 40000 = F56 n s 40000 := by
 obtain ⟨r, q1, q2, _⟩ := get_eq n s hs hn
 have m1 : IntKind.wrap .u64 (imax 40000 0) = 40000 := rfl
 have m2 : IntKind.wrap .u64 (imax 0 40000) = 40000 := rfl
 unfold F23 F56
 rw [q1, q2, m1, m2]
theorem split_at' (s : ByteArray) (m : Nat) (h : m ≤ s.size) : s = s.extract 0 m ++ s.extract m s.size := by
 apply ba_ext
 rw [ByteArray.data_append, ByteArray.data_extract, ByteArray.data_extract]
 show s.data = s.data.extract 0 m ++ s.data.extract m s.data.size
 have h' : m ≤ s.data.size := h
 rw [Array.extract_append_extract, Nat.zero_min, Nat.max_eq_right h', Array.extract_size]
theorem ext_pre' (a b : ByteArray) : (a ++ b).extract 0 a.size = a := by
 have := ext_mid ByteArray.empty a b
 rw [ba_nil] at this
 simpa using this
theorem texts_can {n : Nat} {s : ByteArray} (hs : s.size ≤ 90000) (hn : 100000 ≤ n) {r : ByteArray × Int × Int} (h : F56 n s 40000 = some r) (e0 : r.2.2 = 0) : ∃ R, s = tx r.1 ++ R ∧ r.2.1 = ((tx r.1).size : Int) := by
 obtain ⟨g, q1, q3⟩ := get_tot n s (by omega) (by omega)
 unfold F56 at h
 rw [q1, Option.bind_some] at h
 rcases q3 with ⟨f0, k1, k2, u0, u1⟩ | ⟨f0, _, _⟩
 ·have hg : F82 n s = some (g.1, g.2.1, 0) := by rw [q1, ← f0]
  obtain ⟨R, e1, e2⟩ := get_can (by omega) hg
  have m1 : IntKind.wrap .u64 (imax 40000 0) = 40000 := rfl
  have hz : IntKind.wrap .u64 (IntKind.wrap .i64 ((s.size : Int) - g.2.1)) = s.size - g.2.1 := by rw [w64 (by omega) (by omega), wrap_u64]; omega
  rw [if_neg (by simp [f0]), m1, hz] at h
  by_cases c1 : 40000 < g.1
  ·rw [if_pos (by simpa using c1)] at h
   have := Option.some.inj h; subst this; exact absurd e0 (by decide)
  rw [if_neg (by simpa using c1)] at h
  by_cases c2 : (s.size : Int) - g.2.1 < g.1
  ·rw [if_pos (by simpa using c2)] at h
   have := Option.some.inj h; subst this; exact absurd e0 (by decide)
  rw [if_neg (by simpa using c2)] at h
  have w1 : IntKind.wrap .i64 g.1 = g.1 := w64 (by omega) (by omega)
  have w2 : IntKind.wrap .i64 (g.2.1 + g.1) = g.2.1 + g.1 := w64 (by omega) (by omega)
  rw [w1, w2, if_pos (by omega)] at h
  have hr := Option.some.inj h
  subst hr
  dsimp only
  have hs2 : s.size = (pt g.1).size + R.size := by rw [e1, ba_size]
  have hR : R = R.extract 0 g.1.toNat ++ R.extract g.1.toNat R.size := split_at' R _ (by omega)
  have hz1 : (R.extract 0 g.1.toNat).size = g.1.toNat := by rw [ByteArray.size_extract]; omega
  have hx : s.extract g.2.1.toNat (g.2.1 + g.1).toNat = R.extract 0 g.1.toNat := by
   have e3 : (g.2.1 + g.1).toNat = (pt g.1).size + (R.extract 0 g.1.toNat).size := by omega
   have e4 : g.2.1.toNat = (pt g.1).size := by omega
   have e5 : s = pt g.1 ++ (R.extract 0 g.1.toNat ++ R.extract g.1.toNat R.size) := by rw [← hR]; exact e1
   have := ext_mid (pt g.1) (R.extract 0 g.1.toNat) (R.extract g.1.toNat R.size)
   rw [← e5] at this
   rw [e3, e4]; exact this
  have hp : pu ((R.extract 0 g.1.toNat).size : Int) = pt g.1 := by
   rw [pu_small (by omega) (by omega), hz1]
   congr 1; omega
  rw [hx]
  refine ⟨R.extract g.1.toNat R.size, ?_, ?_⟩
  ·rw [tx, hp, ba_assoc, ← hR]; exact e1
  ·rw [tx, hp, ba_size, hz1]; push_cast; omega
 ·rw [if_pos (by simp [f0])] at h
  have := Option.some.inj h; subst this; exact absurd e0 f0
theorem ropen_eq {n : Nat} {s : ByteArray} (hs : s.size ≤ 90000) (hn : 100000 ≤ n) : F7 n s = F27 n s := by
 obtain ⟨r, q, h⟩ := texts_tot n s (by omega) (by omega) (L := 40000) (by omega)
 have hl := texts_len q
 unfold F7 F27
 rw [rTexts_eq n s (by omega) (by omega), q, Option.bind_some, Option.bind_some]
 rcases h with ⟨e0, k1, k2⟩ | ⟨e0, _, _⟩
 ·obtain ⟨R, e1, e2⟩ := texts_can hs hn q e0
  have ne : ¬ ((r.2.2 != 0) = true) := by simp [e0]
  rw [if_neg ne, if_neg ne]
  have w1 : IntKind.wrap .i64 ((s.size : Int) - r.2.1) = s.size - r.2.1 := w64 (by omega) (by omega)
  have w2 : IntKind.wrap .i64 (r.2.1 + 4) = r.2.1 + 4 := w64 (by omega) (by omega)
  rw [w1, w2]
  by_cases hc : (s.size : Int) - r.2.1 < 4
  ·rw [if_pos (by rw [decide_eq_true_eq]; omega), if_pos (by simpa using hc)]
  ·have g1 : 0 ≤ r.2.1 + 4 ∧ r.2.1 + 4 ≤ (s.size : Int) := by omega
   have g2 : 0 ≤ r.2.1 ∧ r.2.1 ≤ r.2.1 + 4 ∧ r.2.1 + 4 ≤ (s.size : Int) := by omega
   rw [if_neg (by rw [decide_eq_true_eq]; omega), if_neg (by simpa using hc), rWrap_eq (by omega) (by omega) (by omega), Option.bind_some, if_pos g1, if_pos g2, sum_eq (by omega) (by omega) (by omega), Option.bind_some, told_eq, Option.bind_some]
   have hss : s.size = (tx r.1).size + R.size := by rw [e1, ba_size]
   have key : ((frame r.1).toList == (s.extract 0 (r.2.1 + 4).toNat).toList) = ((s.extract r.2.1.toNat (r.2.1 + 4).toNat).toList == (toldB (sumN r.1)).toList) := by
    have hR : R = R.extract 0 4 ++ R.extract 4 R.size := split_at' R _ (by omega)
    have hz1 : (R.extract 0 4).size = 4 := by rw [ByteArray.size_extract]; omega
    have t1 : (r.2.1 + 4).toNat = (tx r.1 ++ R.extract 0 4).size := by rw [ba_size, hz1]; omega
    have t2 : r.2.1.toNat = (tx r.1).size := by omega
    have t3 : (r.2.1 + 4).toNat = (tx r.1).size + (R.extract 0 4).size := by rw [hz1]; omega
    have x1 : s.extract 0 (r.2.1 + 4).toNat = tx r.1 ++ R.extract 0 4 := by
     have := ext_pre' (tx r.1 ++ R.extract 0 4) (R.extract 4 R.size)
     rw [ba_assoc, ← hR, ← e1] at this
     rw [t1]; exact this
    have x2 : s.extract r.2.1.toNat (r.2.1 + 4).toNat = R.extract 0 4 := by
     have := ext_mid (tx r.1) (R.extract 0 4) (R.extract 4 R.size)
     rw [← hR, ← e1] at this
     rw [t3, t2]; exact this
    rw [x1, x2, Bool.eq_iff_iff, toList_eq, toList_eq, frame]
    constructor
    ·intro h
     have h2 := congrArg (fun b => b.extract (tx r.1).size b.size) h
     simp only [ext_app] at h2
     exact h2.symm
    ·rintro h; rw [h]
   rw [key]
 ·have ne : (r.2.2 != 0) = true := by simp [e0]
  rw [if_pos ne, if_pos ne]
theorem zN_same {n : Nat} (hn : 1000 ≤ n) : F11 n zNt ⟨0, 0, [], [], [], []⟩ = some true := by
 have L : Lens n zNt := ⟨by decide, by decide, by decide, by decide, hn⟩
 obtain ⟨r, e1, e2⟩ := rsame_note (b := zNt) L
 have : r = true := e2.2 rfl
 rw [this] at e1
 exact e1
theorem reads_ok {n : Nat} {s : ByteArray} (hs : s.size ≤ 90000) (hn : 100000 ≤ n) : F8 n s = some true := by
 obtain ⟨r, o, q1, q2, h⟩ := nread_tot hs hn
 unfold F8
 rw [q1, Option.bind_some, ropen_eq hs hn, q2, Option.bind_some]
 rcases h with ⟨e0, rfl⟩ | ⟨e0, h⟩
 ·dsimp only
  rw [if_pos (by simpa using e0), if_neg (by simpa using e0)]
  unfold F8_j4
  dsimp only
  rw [if_pos (by simp), if_pos (by decide), zN_same (by omega)]
  rfl
 ·rcases h with rfl | ⟨k1, k2, hm, hi, hk, hb⟩
  ·dsimp only
   rw [if_pos (by decide), if_pos (by simpa using e0)]
   unfold F8_j4
   dsimp only
   rw [if_pos (by decide), if_pos (by decide), zN_same (by omega)]
   rfl
  ·rw [if_neg (by simp [k2]), hb, Option.bind_some, if_pos (by simpa using e0), if_pos (by simp [k1])]
   have L : Lens n r.1 := ⟨by have := hm.m; omega, by have := hm.g; omega, by have := hm.h; omega, by have := hm.w; omega, by omega⟩
   dsimp only
   have i4 : imin 4 4 = 4 := by decide
   rw [if_pos (by decide), k1, if_pos hk, if_pos ((toList_eq _ _).2 rfl), ris_note L, i4, hi]
   rfl
theorem frame_le {B : ByteArray} (h : B.size ≤ 50000) : (frame B).size ≤ 90000 := by
 have h1 := (tx_size B).1
 rw [frame, ba_size, toldB_size]; omega
theorem j11_ok {n : Nat} {s : ByteArray} (hs : s.size ≤ 400) (hn : 100000 ≤ n) : F3_j11 n s = some true := by
 unfold F3_j11
 rw [reads_ok (by omega) hn, Option.bind_some, if_pos rfl, rWrap_eq (by omega) (by omega) (by omega), Option.bind_some, reads_ok (frame_le (by omega)) hn]
 rfl
theorem j8_ok {n : Nat} {s : ByteArray} (hs : s.size ≤ 400) (hn : 100000 ≤ n) {l : List Int} (hl : l.length ≤ 50000) : F3_j8 n s l = some true := by
 unfold F3_j8
 have : (mkStr l).size ≤ 50000 := by rw [mkStr_size]; exact hl
 rw [rWrap_eq (by omega) (by omega) (by omega), Option.bind_some, reads_ok (frame_le this) hn, Option.bind_some, if_neg (by decide)]
 exact j11_ok hs hn
theorem watch_all' {x : Note} (hi : isNt 4 x = true) : x.Watch.all okC = true := by
 simp only [isNt, Bool.and_eq_true] at hi
 exact hi.2.2.2.2.2.2.2.2
theorem nb_no' {n : Nat} {x : Note} (S : Small x) (hn : 60000 ≤ n) (hi : isNt 4 x = false) : F6 n x = some (ByteArray.empty, 11) := by
 obtain ⟨h1, h2, h3, h4⟩ := S
 have L : Lens n x := ⟨by omega, by omega, by omega, by omega, by omega⟩
 have e4 : imin 4 4 = 4 := by decide
 unfold F6
 rw [is_note L, e4, Option.bind_some, hi]
 rfl
theorem noteReads_pure (a0 : Note) (a1 a2 : Int) (a3 : ByteArray) (h0 : Note.wf a0) (_ : (Lit.int .u8 a1).wf = true) (h2 : (Lit.int .u16 a2).wf = true) (_ : a3.size ≤ maxLen) : ∃ n, F3 n a0 a1 a2 a3 = some true := by
 refine ⟨(a0.Moved.length + a0.Given.length + a0.Watch.length) + 100000, ?_⟩
 obtain ⟨b, hb, hl⟩ := fewN (n := (a0.Moved.length + a0.Given.length + a0.Watch.length) + 100000) h0 (by omega) (by omega) (by omega)
 have hn : 100000 ≤ (a0.Moved.length + a0.Given.length + a0.Watch.length) + 100000 := by omega
 generalize (a0.Moved.length + a0.Given.length + a0.Watch.length) + 100000 = n at *
 have b2 : 0 ≤ a2 ∧ a2 < 65536 := by
  simp [Lit.wf, IntKind.min, IntKind.max, IntKind.bits, IntKind.signed] at h2; omega
 unfold F3
 simp only [Option.bind_some, Bool.not_true, Bool.false_eq_true, if_false, hb]
 cases b with
 | false => rfl
 | true =>
  simp only [Bool.not_true, Bool.false_eq_true, if_false]
  by_cases ht : 400 < (a3.size : Int)
  ·rw [if_pos (by simpa using ht)]
  rw [if_neg (by simpa using ht)]
  obtain ⟨q1, q2, q3, q4⟩ := hl rfl
  have S : Small a0 := ⟨q1, q2, q3, q4⟩
  cases hi : isNt 4 a0 with
  | false =>
   rw [nb_no' S (by omega) hi, Option.bind_some, if_neg (by decide)]
   exact j11_ok (by omega) hn
  | true =>
   have hz := bodyN_size S (watch_all' hi)
   rw [nx_eq (by omega) S hi, Option.bind_some]
   dsimp only
   rw [if_pos (by decide)]
   have e : frame (bodyN a0) = tx (bodyN a0) ++ (toldB (sumN (bodyN a0)) ++ ByteArray.empty) := by rw [ba_nil_r, frame]
   have hf := frame_le (B := bodyN a0) (by omega)
   rw [ropen_eq hf hn, e, open_eq (by omega) (by omega) (toldB_size _) (by decide), if_pos ((toList_eq _ _).2 rfl), Option.bind_some]
   dsimp only
   rw [if_neg (by decide)]
   have hbl := bytesL_len (bodyN a0)
   by_cases hp : (0 : Int) < ((bytesL (bodyN a0)).length : Int)
   ·rw [if_pos (by simpa using hp), if_pos (by omega), if_pos (by omega)]
    have w2 : IntKind.wrap .i64 a2 = a2 := w64 (by omega) (by omega)
    have tm : Int.tmod a2 ((bytesL (bodyN a0)).length : Int) = a2 % ((bytesL (bodyN a0)).length : Int) := Int.tmod_eq_emod_of_nonneg (by omega)
    have m1 := Int.emod_nonneg a2 (show ((bytesL (bodyN a0)).length : Int) ≠ 0 by omega)
    have m2 := Int.emod_lt_of_pos a2 hp
    rw [w2, tm]
    obtain ⟨i, hi'⟩ : ∃ i : Nat, a2 % ((bytesL (bodyN a0)).length : Int) = (i : Int) := ⟨(a2 % ((bytesL (bodyN a0)).length : Int)).toNat, by omega⟩
    rw [hi'] at m2 ⊢
    rw [ixg _ i (by omega), Option.bind_some, Option.bind_some]
    exact j8_ok (by omega) hn (by rw [List.length_set]; omega)
   ·rw [if_neg (by simpa using hp)]
    exact j8_ok (by omega) hn (by omega)
end Go.Proofs.YtpjejnefegdoeaaGreat
