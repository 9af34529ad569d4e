/-
  What the law says, in plain Lean. No condition.
-/
import Derived.Test.YtobeamaaifgllaaEventBackV
import Derived.Test.YtobeamaaifgllaaEventBackP1
namespace Go.Proofs.Ytobeamaaifgllaa
open Go Go.Rx
set_option maxRecDepth 100000
set_option linter.unusedVariables false
set_option linter.unusedSimpArgs false
set_option linter.unnecessarySimpa false
theorem Point.eqb_iff (x y : Point) : Point.eqb x y = true ↔ x = y := by
  cases x; cases y; simp [Point.eqb]
theorem Field.eqb_iff (x y : Field) : Field.eqb x y = true ↔ x = y := by
  cases x; cases y; simp [Field.eqb, ba_beq]
theorem A4_Field.eqb_iff (x y : A4 Field) : A4_Field.eqb x y = true ↔ x = y := by
  cases x; cases y; simp [A4_Field.eqb, Field.eqb_iff]
theorem Thing.eqb_iff (x y : Thing) : Thing.eqb x y = true ↔ x = y := by
  cases x; cases y; simp [Thing.eqb, Point.eqb_iff, A4_Field.eqb_iff]
theorem Delta.eqb_iff (x y : Delta) : Delta.eqb x y = true ↔ x = y := by
  cases x; cases y; simp [Delta.eqb, Point.eqb_iff, A4_Field.eqb_iff]
theorem Thing.eqb_refl (x : Thing) : Thing.eqb x x = true := (Thing.eqb_iff x x).2 rfl
def noP : Point := ⟨0, 0⟩
def noF : Field := ⟨0, ByteArray.empty⟩
def hs (m i : Int) : Bool := bitsI .and .u8 (shrI .u8 m i) 1 == 1
theorem has0 (n : Nat) (m : Int) : F99 n m 0 = some (hs m 1) := rfl
theorem has1 (n : Nat) (m : Int) : F99 n m 1 = some (hs m 2) := rfl
theorem has2 (n : Nat) (m : Int) : F99 n m 2 = some (hs m 3) := rfl
theorem has3 (n : Nat) (m : Int) : F99 n m 3 = some (hs m 4) := rfl
def isF (f : Field) : Bool := if f.N == 0 then decide ((f.Text.size : Int) ≤ 12) else if f.Text.toList == ByteArray.empty.toList then decide ((f.Text.size : Int) ≤ 12) else false
theorem isF_eq (n : Nat) (f : Field) : F70 n f = some (isF f) := by
  unfold F70 isF
  split
  · rfl
  · split <;> rfl
theorem risF_eq (n : Nat) (f : Field) : F59 n f = some (isF f) := by
  rw [← isF_eq n f]; rfl
def okF (f : Field) (e : Bool) : Bool := isF f && (e || Field.eqb f noF)
def on (p : Point) : Bool := if decide ((0 : Int) ≤ p.X) then if decide (p.X < 64) then if decide ((0 : Int) ≤ p.Y) then decide (p.Y < 64) else false else false else false
theorem on_eq (n : Nat) (p : Point) : F67 n p = some (on p) := by
  unfold F67 on
  split
  · split
    · split <;> rfl
    · rfl
  · rfl
theorem ron_eq (n : Nat) (p : Point) : F58 n p = some (on p) := by
  rw [← on_eq n p]; rfl
def a1 (d : Delta) : Bool := (bitsI .and .u8 d.Mask 1) != 0
def fl4 (d : Delta) : Bool := okF d.F.a0 (hs d.Mask 1) && (okF d.F.a1 (hs d.Mask 2) && (okF d.F.a2 (hs d.Mask 3) && okF d.F.a3 (hs d.Mask 4)))
def isD (d : Delta) : Bool := !(decide (d.ID < 0)) && (!(decide ((1000000 : Int) < d.ID)) && (!(d.Mask == 0) && (!(decide ((31 : Int) < d.Mask)) && ((a1 d || Point.eqb d.At noP) && (on d.At && fl4 d)))))
theorem isd_fin (f : Field) (e : Bool) (o : Option Bool) (b : Bool) (ho : o = some b) : (if (!(isF f)) = true then some false else if (!e) = true then if (!(Field.eqb f ⟨0, ByteArray.empty⟩)) = true then some false else o else o) = some (okF f e && b) := by
  subst ho
  have : Field.eqb f ⟨0, ByteArray.empty⟩ = Field.eqb f noF := rfl
  rw [this]
  unfold okF
  cases isF f <;> cases e <;> cases Field.eqb f noF <;> simp
theorem isd_l (n : Nat) (d : Delta) : F77_j3 n d = some (fl4 d) := by
  have s3 : F77_u12 n d = some (okF d.F.a3 (hs d.Mask 4) && true) := by
    unfold F77_u12
    simp only [isF_eq, has3, Option.bind_some]
    exact isd_fin _ _ _ _ rfl
  have s2 : F77_u9 n d = some (okF d.F.a2 (hs d.Mask 3) && (okF d.F.a3 (hs d.Mask 4) && true)) := by
    unfold F77_u9
    simp only [isF_eq, has2, Option.bind_some]
    exact isd_fin _ _ _ _ s3
  have s1 : F77_u6 n d = some (okF d.F.a1 (hs d.Mask 2) && (okF d.F.a2 (hs d.Mask 3) && (okF d.F.a3 (hs d.Mask 4) && true))) := by
    unfold F77_u6
    simp only [isF_eq, has1, Option.bind_some]
    exact isd_fin _ _ _ _ s2
  have s0 : F77_j3 n d = some (okF d.F.a0 (hs d.Mask 1) && (okF d.F.a1 (hs d.Mask 2) && (okF d.F.a2 (hs d.Mask 3) && (okF d.F.a3 (hs d.Mask 4) && true)))) := by
    unfold F77_j3
    simp only [isF_eq, has0, Option.bind_some]
    exact isd_fin _ _ _ _ s1
  rw [s0]
  simp [fl4]
theorem isD_eq (n : Nat) (d : Delta) : F77 n d = some (isD d) := by
  unfold F77
  have hl := isd_l n d
  have ep : Point.eqb d.At (Point.mk 0 0) = Point.eqb d.At noP := rfl
  simp only [on_eq, Option.bind_some, hl, isD, a1, ep, bne]
  by_cases h1 : d.ID < 0
  · simp [h1]
  · by_cases h2 : 1000000 < d.ID
    · simp [h1, h2]
    · by_cases h3 : d.Mask = 0
      · simp [h1, h2, h3]
      · by_cases h4 : 31 < d.Mask
        · simp [h1, h2, h3, h4]
        · cases h5 : (bitsI .and .u8 d.Mask 1 == 0) <;> cases h6 : Point.eqb d.At noP <;> cases h7 : on d.At <;> simp [h1, h2, h3, h4, h5, h6, h7]
theorem shr7 (x : Int) : shrI .u64 x 7 = x / 128 := by
  show Int.fdiv x 128 = x / 128
  exact Int.fdiv_eq_ediv_of_nonneg x (by decide)
theorem wrap_u64 (x : Int) : IntKind.wrap .u64 x = x % 18446744073709551616 := by simp [IntKind.wrap, IntKind.bits, IntKind.signed]
theorem wrap_u8 (x : Int) : IntKind.wrap .u8 x = x % 256 := by simp [IntKind.wrap, IntKind.bits, IntKind.signed]
def ch (x : Int) : Int := bitsI .or .u8 (IntKind.wrap .u8 x) 128
theorem push_data (l : List Int) : ∀ s : ByteArray, (l.foldl (fun r n => r.push (UInt8.ofNat n.toNat)) s).data = s.data ++ (l.map fun n => UInt8.ofNat n.toNat).toArray := by
  induction l with
  | nil => intro s; simp
  | cons a l ih => intro s; simp only [List.foldl_cons, ih, List.map_cons]; cases s; simp [ByteArray.push]
theorem mkStr_data (l : List Int) : (mkStr l).data = (l.map fun n => UInt8.ofNat n.toNat).toArray := by
  unfold mkStr
  rw [push_data]
  show (#[] : Array UInt8) ++ _ = _
  simp
theorem mkStr_size (l : List Int) : (mkStr l).size = l.length := by
  show (mkStr l).data.size = _
  rw [mkStr_data]; simp
theorem ba_ext {a b : ByteArray} (h : a.data = b.data) : a = b := by cases a; cases b; simp only at h; rw [h]
theorem ba_assoc (a b c : ByteArray) : a ++ b ++ c = a ++ (b ++ c) := by
  apply ba_ext
  simp [ByteArray.data_append, Array.append_assoc]
theorem ba_size (a b : ByteArray) : (a ++ b).size = a.size + b.size := by
  show (a ++ b).data.size = _
  rw [ByteArray.data_append, Array.size_append]
  rfl
theorem ba_nil (a : ByteArray) : ByteArray.empty ++ a = a := by
  apply ba_ext
  rw [ByteArray.data_append]
  show (#[] : Array UInt8) ++ _ = _
  simp
def putL : Nat → Int → List Int
  | 0, _ => []
  | k + 1, x => if 128 ≤ x then ch x :: putL k (x / 128) else [IntKind.wrap .u8 x]
theorem putL_len : ∀ (k : Nat) (x : Int), (putL (k + 1) x).length ≤ k + 1 ∧ 1 ≤ (putL (k + 1) x).length
  | 0, x => by unfold putL; split <;> simp [putL]
  | k + 1, x => by
    have := putL_len k (x / 128)
    unfold putL
    split
    · simp only [List.length_cons]; omega
    · simp
theorem putL_one {k : Nat} {x : Int} (h : x < 128) : (putL (k + 1) x).length = 1 := by
  unfold putL; rw [if_neg (by omega)]; rfl
theorem pow10 {x : Int} (h : x < 18446744073709551616) : x < 128 ^ 10 := by
  have : (128 : Int) ^ 10 = 1180591620717411303424 := by decide
  rw [this]; omega
def pt (x : Int) : ByteArray := mkStr (putL 10 x)
theorem pt_size (x : Int) : (pt x).size ≤ 10 ∧ 1 ≤ (pt x).size := by
  rw [pt, mkStr_size]; exact putL_len 9 x
theorem pt_one {x : Int} (h : x < 128) : (pt x).size = 1 := by rw [pt, mkStr_size]; exact putL_one h
theorem u64_in (x : Int) : 0 ≤ IntKind.wrap .u64 x ∧ IntKind.wrap .u64 x < 18446744073709551616 := by rw [wrap_u64]; omega
def pu (x : Int) : ByteArray := pt (IntKind.wrap .u64 x)
theorem pu_size (x : Int) : (pu x).size ≤ 10 ∧ 1 ≤ (pu x).size := pt_size _
def tx (s : ByteArray) : ByteArray := pu (s.size : Int) ++ s
theorem tx_size (s : ByteArray) : (tx s).size ≤ 10 + s.size ∧ 1 + s.size ≤ (tx s).size := by
  have := pu_size (s.size : Int)
  rw [tx, ba_size]; omega
theorem xor_in (a b : Int) : 0 ≤ bitsI .xor .u64 a b ∧ bitsI .xor .u64 a b < 18446744073709551616 := u64_in _
def zg (x : Int) : ByteArray := pt (bitsI .xor .u64 (shlI .u64 (IntKind.wrap .u64 x) 1) (IntKind.wrap .u64 (shrI .i64 x 63)))
def isE (s : ByteArray) : Bool := s.toList == ByteArray.empty.toList
def stage (s : ByteArray) (f : Field) (e : Bool) : ByteArray := if e then (if isE f.Text then s ++ tx f.Text ++ zg f.N else s ++ tx f.Text) else s
theorem stage_size (s : ByteArray) (f : Field) (e : Bool) (h : f.Text.size ≤ 40) : (stage s f e).size ≤ s.size + 60 := by
  have := tx_size f.Text
  have := pt_size (bitsI .xor .u64 (shlI .u64 (IntKind.wrap .u64 f.N) 1) (IntKind.wrap .u64 (shrI .i64 f.N 63)))
  have hz : (zg f.N).size ≤ 10 := this.1
  unfold stage
  split
  · split
    · rw [ba_size, ba_size]; omega
    · rw [ba_size]; omega
  · omega
def head (d : Delta) : ByteArray := if a1 d then (pu d.ID ++ pu d.Mask) ++ (pu d.At.X ++ pu d.At.Y) else pu d.ID ++ pu d.Mask
def body (s : ByteArray) (d : Delta) : ByteArray := stage (stage (stage (stage s d.F.a0 (hs d.Mask 1)) d.F.a1 (hs d.Mask 2)) d.F.a2 (hs d.Mask 3)) d.F.a3 (hs d.Mask 4)
def Few (d : Delta) : Prop := d.F.a0.Text.size ≤ 40 ∧ d.F.a1.Text.size ≤ 40 ∧ d.F.a2.Text.size ≤ 40 ∧ d.F.a3.Text.size ≤ 40
theorem head_size (d : Delta) : (head d).size ≤ 40 := by
  have p1 := pu_size d.ID; have p2 := pu_size d.Mask; have p3 := pu_size d.At.X; have p4 := pu_size d.At.Y
  unfold head
  split
  · rw [ba_size, ba_size, ba_size]; omega
  · rw [ba_size]; omega
theorem put_l (n : Nat) : ∀ (k m : Nat) (x : Int) (l : List Int), 1 ≤ k → 0 ≤ x → x < 128 ^ k → k < m → l.length + k ≤ 1000 → F65_l7 n m x l = some (mkStr (l ++ putL k x))
  | 0, m, x, l, hk, h0, h1, _, _ => by omega
  | k + 1, 0, x, l, _, _, _, h, _ => by omega
  | k + 1, m + 1, x, l, _, h0, h1, h2, h3 => by
    have hc : (l.length + 1) * 1 ≤ maxCells ∧ l.length + 1 ≤ maxCells := by simp only [maxCells]; omega
    unfold F65_l7 putL
    by_cases h : 128 ≤ x
    · have hx : x / 128 < 128 ^ k := by
        rw [Int.pow_succ] at h1
        exact Int.ediv_lt_of_lt_mul (by decide) h1
      simp only [h, decide_true, if_true, if_pos hc, shr7]
      have hk : 1 ≤ k := by
        cases k with
        | zero => simp at h1; omega
        | succ k => omega
      rw [put_l n k m (x / 128) _ hk (by omega) hx (by omega) (by simp only [List.length_append, List.length_cons, List.length_nil]; omega)]
      simp only [List.append_assoc, List.cons_append, List.nil_append]
      rfl
    · simp only [h, decide_false, Bool.false_eq_true, if_false]
      rw [if_pos hc]
theorem put_eq {n : Nat} (hn : 10 ≤ n) {x : Int} (h0 : 0 ≤ x) (h1 : x < 18446744073709551616) : F65 n x = some (pt x) := by
  unfold F65
  rw [put_l n 10 (n + 8) x [] (by omega) h0 (pow10 h1) (by omega) (by simp)]
  rfl
theorem pu_eq {n : Nat} (hn : 10 ≤ n) (x : Int) : F65 n (IntKind.wrap .u64 x) = some (pu x) := put_eq hn (u64_in x).1 (u64_in x).2
theorem tx_eq {n : Nat} (hn : 10 ≤ n) {s : ByteArray} (h : s.size ≤ 1000) : F100 n s = some (tx s) := by
  unfold F100
  have := pu_size (s.size : Int)
  rw [pu_eq hn]
  simp only [Option.bind_some]
  rw [if_pos (by omega)]; rfl
theorem zg_eq {n : Nat} (hn : 10 ≤ n) (x : Int) : F101 n x = some (zg x) := by
  unfold F101 F114
  simp only [Option.bind_some]
  rw [put_eq hn (xor_in _ _).1 (xor_in _ _).2]
  rfl
theorem stg {α : Type} {n : Nat} (hn : 10 ≤ n) (s : ByteArray) (f : Field) (e : Bool) (h1 : s.size ≤ 1000) (h2 : f.Text.size ≤ 40) (K : ByteArray → Option α) :
    (if (!e) = true then K s else (F100 n f.Text).bind fun r => if s.size + r.size ≤ 9223372036854775807 then if (f.Text.toList == ByteArray.empty.toList) = true then (F101 n f.N).bind fun r2 => if (s ++ r).size + r2.size ≤ 9223372036854775807 then K ((s ++ r) ++ r2) else none else K (s ++ r) else none) = K (stage s f e) := by
  have a1 := tx_size f.Text
  have hz : (zg f.N).size ≤ 10 := (pt_size _).1
  cases e with
  | false => rfl
  | true =>
    simp only [Bool.not_true, Bool.false_eq_true, if_false, tx_eq hn (show f.Text.size ≤ 1000 by omega), zg_eq hn, Option.bind_some]
    rw [if_pos (by omega)]
    unfold stage isE
    cases f.Text.toList == ByteArray.empty.toList with
    | false => rfl
    | true =>
      simp only [if_true]
      rw [if_pos (by rw [ba_size]; omega)]
theorem body_eq {n : Nat} (hn : 10 ≤ n) (d : Delta) (hf : Few d) (s : ByteArray) (h : s.size ≤ 100) : F63_j7 n d s = some (body s d, 0) := by
  obtain ⟨f0, f1, f2, f3⟩ := hf
  have z1 := stage_size s d.F.a0 (hs d.Mask 1) f0
  have z2 := stage_size (stage s d.F.a0 (hs d.Mask 1)) d.F.a1 (hs d.Mask 2) f1
  have z3 := stage_size (stage (stage s d.F.a0 (hs d.Mask 1)) d.F.a1 (hs d.Mask 2)) d.F.a2 (hs d.Mask 3) f2
  unfold F63_j7
  simp only [has0, Option.bind_some]
  rw [stg hn s d.F.a0 _ (by omega) f0 (fun s => F63_u12 n d s)]
  unfold F63_u12
  simp only [has1, Option.bind_some]
  rw [stg hn _ d.F.a1 _ (by omega) f1 (fun s => F63_u17 n d s)]
  unfold F63_u17
  simp only [has2, Option.bind_some]
  rw [stg hn _ d.F.a2 _ (by omega) f2 (fun s => F63_u22 n d s)]
  unfold F63_u22
  simp only [has3, Option.bind_some]
  rw [stg hn _ d.F.a3 _ (by omega) f3 (fun s => F63_u27 n s)]
  rfl
theorem bytes_eq {n : Nat} (hn : 10 ≤ n) (d : Delta) (hf : Few d) : F63 n d = some (if isD d then (body (head d) d, 0) else (ByteArray.empty, 11)) := by
  have p1 := pu_size d.ID; have p2 := pu_size d.Mask; have p3 := pu_size d.At.X; have p4 := pu_size d.At.Y
  have hh := head_size d
  unfold F63
  simp only [isD_eq, Option.bind_some, pu_eq hn]
  cases hd : isD d with
  | false => simp
  | true =>
    simp only [Bool.not_true, Bool.false_eq_true, if_false, if_true]
    rw [if_pos (by omega)]
    unfold head at hh ⊢
    cases h1 : a1 d with
    | false =>
      have h1' : (bitsI .and .u8 d.Mask 1 != 0) = false := h1
      rw [h1] at hh
      simp only [h1', Bool.false_eq_true, if_false] at hh ⊢
      exact body_eq hn d hf _ (by omega)
    | true =>
      have h1' : (bitsI .and .u8 d.Mask 1 != 0) = true := h1
      rw [h1] at hh
      simp only [h1', if_true] at hh ⊢
      rw [if_pos (by omega), if_pos (by rw [ba_size, ba_size]; omega)]
      exact body_eq hn d hf _ (by omega)
theorem ixb (s : ByteArray) (i : Nat) (h : i < (bytesL s).length) : ix (bytesL s) (i : Int) = some (bytesL s)[i] := by
  unfold ix; rw [if_neg (by omega)]; simp [h]
theorem w64 {n : Int} (h : -9223372036854775808 ≤ n) (h' : n ≤ 9223372036854775807) : IntKind.wrap .i64 n = n := by
  simp [IntKind.wrap, IntKind.bits, IntKind.signed]; omega
theorem bytesL_app (a b : ByteArray) : bytesL (a ++ b) = bytesL a ++ bytesL b := by
  simp [bytesL, ByteArray.data_append]
theorem bytesL_mk (l : List Int) (h : ∀ x ∈ l, 0 ≤ x ∧ x < 256) : bytesL (mkStr l) = l := by
  simp only [bytesL, mkStr_data, List.map_map]
  conv => rhs; rw [← List.map_id l]
  apply List.map_congr_left
  intro x hx
  have := h x hx
  simp; omega
theorem or_add (a b i : Nat) (h : a < 2 ^ i) : a ||| (b * 2 ^ i) = a + b * 2 ^ i := by
  have := Nat.shiftLeft_add_eq_or_of_lt h b
  rw [Nat.shiftLeft_eq] at this
  rw [Nat.or_comm, ← this, Nat.add_comm]
theorem orI {a b : Int} {i : Nat} (h0 : 0 ≤ a) (h1 : a < 2 ^ i) (h2 : 0 ≤ b) (h3 : a + b * 2 ^ i < 18446744073709551616) : bitsI .or .u64 a (b * 2 ^ i) = a + b * 2 ^ i := by
  obtain ⟨m, rfl⟩ := Int.eq_ofNat_of_zero_le h0
  obtain ⟨k, rfl⟩ := Int.eq_ofNat_of_zero_le h2
  have e : ((k : Int) * 2 ^ i) = ((k * 2 ^ i : Nat) : Int) := by push_cast; rfl
  rw [e] at h3 ⊢
  have hm : m < 2 ^ i := by exact_mod_cast h1
  have h3' : m + k * 2 ^ i < 18446744073709551616 := by omega
  have e1 : (BitVec.ofInt 64 (m : Int)).toNat = m := by rw [BitVec.toNat_ofInt]; omega
  have e2 : (BitVec.ofInt 64 ((k * 2 ^ i : Nat) : Int)).toNat = k * 2 ^ i := by
    rw [BitVec.toNat_ofInt]; omega
  show IntKind.wrap .u64 (((BitVec.ofInt 64 (m : Int) ||| BitVec.ofInt 64 ((k * 2 ^ i : Nat) : Int)).toNat : Nat) : Int) = _
  rw [BitVec.toNat_or, e1, e2, or_add m k i hm, wrap_u64]
  omega
theorem shlI_mul {b : Int} {i : Nat} (hi : i ≤ 63) (h0 : 0 ≤ b) (h1 : b * 2 ^ i < 18446744073709551616) : shlI .u64 b (i : Int) = b * 2 ^ i := by
  have e : min ((i : Int).toNat) (IntKind.u64.bits) = i := by simp [IntKind.bits]; omega
  unfold shlI
  rw [e, wrap_u64]
  have : 0 ≤ b * 2 ^ i := Int.mul_nonneg h0 (Int.pow_nonneg (by decide))
  omega
theorem ch_val : ∀ k : Fin 256, bitsI .or .u8 k.val 128 = 128 + (k.val : Int) % 128 ∧ bitsI .andNot .u8 (128 + (k.val : Int) % 128) 128 = (k.val : Int) % 128 := by decide +kernel
theorem ch_is {y : Int} (h : 0 ≤ y) : ch y = 128 + y % 128 ∧ bitsI .andNot .u8 (128 + y % 128) 128 = y % 128 := by
  obtain ⟨h1, h2⟩ := ch_val ⟨(y % 256).toNat, by omega⟩
  have e : (((y % 256).toNat : Nat) : Int) = y % 256 := by omega
  simp only [e] at h1 h2
  have e2 : y % 256 % 128 = y % 128 := by omega
  rw [e2] at h1 h2
  refine ⟨?_, h2⟩
  rw [ch, wrap_u8, h1]
theorem get_pt_l (n : Nat) (s : ByteArray) (hs : s.size ≤ 100000) : ∀ (k m i : Nat) (acc y : Int) (rest : List Int), (bytesL s).drop i = putL k y ++ rest → 1 ≤ k → y < 128 ^ k → 0 ≤ y → 0 ≤ acc → acc < 2 ^ (7 * i) → acc + y * 2 ^ (7 * i) < 18446744073709551616 → (0 < i → 1 ≤ y) → i + k ≤ 10 → k < m →
    F73_l7 n s m acc (i : Int) = some (acc + y * 2 ^ (7 * i), ((i + (putL k y).length : Nat) : Int), 0)
  | 0, _, _, _, _, _, _, h, _, _, _, _, _, _, _, _ => by omega
  | k + 1, 0, _, _, _, _, _, _, _, _, _, _, _, _, _, h => by omega
  | k + 1, m + 1, i, acc, y, rest, hd, _, hy, hy0, ha0, ha, hb, hp, hk, hm => by
    have hl : (bytesL s).length = s.size := bytesL_len s
    have hne : (bytesL s).drop i ≠ [] := by
      rw [hd]; intro h
      have := putL_len k y
      have h2 := congrArg List.length h
      simp only [List.length_append, List.length_nil] at h2
      omega
    have hi : i < (bytesL s).length := by
      apply Nat.lt_of_not_le; intro h; exact hne (List.drop_eq_nil_of_le h)
    have hdr := List.drop_eq_getElem_cons hi
    have ex := ixb s i hi
    have w7 : IntKind.wrap .i64 (7 * (i : Int)) = ((7 * i : Nat) : Int) := by rw [w64 (by omega) (by omega)]; push_cast; rfl
    have w1 : IntKind.wrap .i64 ((i : Int) + 1) = ((i + 1 : Nat) : Int) := by rw [w64 (by omega) (by omega)]; push_cast; rfl
    have g7 : ¬ (((7 * i : Nat) : Int) < 0) := by omega
    have ne : (((i + 1 : Nat) : Int) == 0) = false := by simp; omega
    have hdd : decide ((i : Int) < ((bytesL s).length : Int)) = true := by simp; omega
    have pp : (0 : Int) < 2 ^ (7 * i) := Int.pow_pos (by decide)
    unfold F73_l7
    simp only [hdd, if_true, ex, Option.bind_some]
    by_cases h : 128 ≤ y
    · obtain ⟨c1, c2⟩ := ch_is hy0
      have hk1 : 1 ≤ k := by
        cases k with
        | zero => simp at hy; omega
        | succ k => omega
      have hpl : putL (k + 1) y = ch y :: putL k (y / 128) := by rw [putL, if_pos h]
      rw [hpl, hdr] at hd
      simp only [List.cons_append, List.cons.injEq] at hd
      have h9 : ((i : Int) == 9) = false := by simp; omega
      have hz : ((128 + y % 128) == 0) = false := by simp; omega
      have hlt : decide (128 + y % 128 < 128) = false := by simp; omega
      have hmod : 0 ≤ y % 128 ∧ y % 128 < 128 := by omega
      have pow : (2 : Int) ^ (7 * (i + 1)) = 2 ^ (7 * i) * 128 := by
        rw [show 7 * (i + 1) = 7 * i + 7 by omega, Int.pow_add]; rfl
      have split : y * 2 ^ (7 * i) = (y % 128) * 2 ^ (7 * i) + y / 128 * 2 ^ (7 * (i + 1)) := by
        rw [pow, ← Int.mul_assoc, Int.mul_right_comm, ← Int.add_mul]
        congr 1; omega
      have hq0 : 0 ≤ y / 128 * 2 ^ (7 * (i + 1)) := Int.mul_nonneg (by omega) (Int.le_of_lt (Int.pow_pos (by decide)))
      have hr0 : 0 ≤ (y % 128) * 2 ^ (7 * i) := Int.mul_nonneg hmod.1 (Int.le_of_lt pp)
      have ws : IntKind.wrap .u64 (y % 128) = y % 128 := by rw [wrap_u64]; omega
      have sh : shlI .u64 (y % 128) ((7 * i : Nat) : Int) = (y % 128) * 2 ^ (7 * i) := shlI_mul (by omega) hmod.1 (by omega)
      have orr : bitsI .or .u64 acc ((y % 128) * 2 ^ (7 * i)) = acc + (y % 128) * 2 ^ (7 * i) := orI ha0 ha hmod.1 (by omega)
      have step : F73_j9 n acc (i : Int) (ch y) (F73_l7 n s m) = F73_l7 n s m (acc + (y % 128) * 2 ^ (7 * i)) ((i + 1 : Nat) : Int) := by
        unfold F73_j9 F73_j10
        simp only [c1, c2, hz, hlt, w7, w1, g7, not_false_eq_true, if_true, Bool.false_eq_true, if_false, ws, sh, orr, ite_self]
      have hrec := get_pt_l n s hs k m (i + 1) (acc + (y % 128) * 2 ^ (7 * i)) (y / 128) rest hd.2 hk1 (by rw [Int.pow_succ] at hy; exact Int.ediv_lt_of_lt_mul (by decide) hy) (by omega) (by omega) (by
        rw [pow]
        have : (y % 128) * 2 ^ (7 * i) ≤ 127 * 2 ^ (7 * i) := Int.mul_le_mul_of_nonneg_right (by omega) (Int.le_of_lt pp)
        omega) (by omega) (by omega) (by omega) (by omega)
      simp only [h9, Bool.false_eq_true, if_false, hd.1]
      rw [step, hrec, hpl, split]
      simp only [List.length_cons, Int.add_assoc]
      congr 3
      omega
    · have hpl : putL (k + 1) y = [IntKind.wrap .u8 y] := by rw [putL, if_neg h]
      have wy : IntKind.wrap .u8 y = y := by rw [wrap_u8]; omega
      rw [hpl, hdr, wy] at hd
      simp only [List.cons_append, List.cons.injEq, List.nil_append] at hd
      have hlt : decide (y < 128) = true := by simp; omega
      have ws : IntKind.wrap .u64 y = y := by rw [wrap_u64]; omega
      have hr0 : 0 ≤ y * 2 ^ (7 * i) := Int.mul_nonneg hy0 (Int.le_of_lt pp)
      have sh : shlI .u64 y ((7 * i : Nat) : Int) = y * 2 ^ (7 * i) := shlI_mul (by omega) hy0 (by omega)
      have orr : bitsI .or .u64 acc (y * 2 ^ (7 * i)) = acc + y * 2 ^ (7 * i) := orI ha0 ha hy0 hb
      have last : F73_j9 n acc (i : Int) y (F73_l7 n s m) = some (acc + y * 2 ^ (7 * i), ((i + 1 : Nat) : Int), 0) := by
        unfold F73_j9 F73_j10 F73_j13
        simp only [hlt, w7, w1, g7, not_false_eq_true, if_true, ne, Bool.false_eq_true, if_false, ws, sh, orr]
        by_cases h0 : (0 : Int) < i
        · have hz : (y == 0) = false := by have := hp (by omega); simp; omega
          simp only [h0, decide_true, if_true, hz, Bool.false_eq_true, if_false]
        · simp only [h0, decide_false, Bool.false_eq_true, if_false]
      rw [hpl, hd.1]
      simp only [List.length_cons, List.length_nil, Nat.zero_add]
      by_cases h9 : ((i : Int) == 9) = true
      · have hi9 : i = 9 := by simp at h9; omega
        have hy1 : y ≤ 1 := by
          subst hi9
          have : (2 : Int) ^ (7 * 9) = 9223372036854775808 := by decide
          rw [this] at hb
          omega
        have : decide ((1 : Int) < y) = false := by simp; omega
        simp only [h9, if_true, this, Bool.false_eq_true, if_false, last]
      · simp only [h9, Bool.false_eq_true, if_false, last]
theorem get_pt (n : Nat) (hn : 10 ≤ n) (x : Int) (h0 : 0 ≤ x) (h1 : x < 18446744073709551616) (t : ByteArray) (hs : (pt x ++ t).size ≤ 100000) : F73 n (pt x ++ t) = some (x, ((pt x).size : Int), 0) := by
  unfold F73
  have hb : ∀ (k : Nat) (y : Int), 0 ≤ y → ∀ z ∈ putL k y, 0 ≤ z ∧ z < 256 := by
    intro k
    induction k with
    | zero => intro y _ z hz; simp [putL] at hz
    | succ k ih =>
      intro y hy z hz
      rw [putL] at hz
      split at hz
      · simp only [List.mem_cons] at hz
        rcases hz with rfl | hz
        · rw [(ch_is hy).1]; omega
        · exact ih _ (by omega) z hz
      · simp only [List.mem_singleton] at hz
        subst hz
        rw [wrap_u8]; omega
  have hd : (bytesL (pt x ++ t)).drop 0 = putL 10 x ++ bytesL t := by
    rw [List.drop_zero, bytesL_app, pt, bytesL_mk _ (hb 10 x h0)]
  have := get_pt_l n (pt x ++ t) hs 10 (n + 8) 0 0 x (bytesL t) hd (by omega) (pow10 h1) h0 (by omega) (by decide) (by simpa using h1) (by omega) (by omega) (by omega)
  rw [show ((0 : Nat) : Int) = 0 from rfl] at this
  rw [this, pt, mkStr_size]
  simp
theorem arr_ext (a b : Array UInt8) : (a ++ b).extract a.size (a.size + b.size) = b := by simp
theorem arr_mid (a b c : Array UInt8) : (a ++ (b ++ c)).extract a.size (a.size + b.size) = b := by simp [Array.extract_append]
theorem ext_app (a b : ByteArray) : (a ++ b).extract a.size (a ++ b).size = b := by
  apply ba_ext
  rw [ByteArray.data_extract, ByteArray.data_append, ba_size]
  exact arr_ext a.data b.data
theorem ext_mid (a b c : ByteArray) : (a ++ (b ++ c)).extract a.size (a.size + b.size) = b := by
  apply ba_ext
  rw [ByteArray.data_extract, ByteArray.data_append, ByteArray.data_append]
  exact arr_mid a.data b.data c.data
theorem pu_small {x : Int} (h0 : 0 ≤ x) (h : x < 18446744073709551616) : pu x = pt x := by
  unfold pu; rw [wrap_u64]; congr 1; omega
theorem texts_tx (n : Nat) (hn : 10 ≤ n) (t r : ByteArray) (ht : t.size ≤ 12) (hs : (tx t ++ r).size ≤ 100000) : F117 n (tx t ++ r) 12 = some (t, ((tx t).size : Int), 0) := by
  have hp : pu (t.size : Int) = pt (t.size : Int) := pu_small (by omega) (by omega)
  have e : tx t ++ r = pt (t.size : Int) ++ (t ++ r) := by rw [tx, hp, ba_assoc]
  have hp1 : (pt (t.size : Int)).size = 1 := pt_one (by omega)
  have hsz : (tx t).size = 1 + t.size := by rw [tx, hp, ba_size, hp1]
  rw [e] at hs ⊢
  have hss : (pt (t.size : Int) ++ (t ++ r)).size = 1 + (t.size + r.size) := by rw [ba_size, ba_size, hp1]
  unfold F117
  rw [get_pt n hn _ (by omega) (by omega) _ hs]
  have m1 : IntKind.wrap .u64 (imax 12 0) = 12 := rfl
  have w0 : IntKind.wrap .u64 (IntKind.wrap .i64 (((pt (t.size : Int) ++ (t ++ r)).size : Int) - ((pt (t.size : Int)).size : Int))) = t.size + r.size := by
    rw [hss, hp1, w64 (by omega) (by omega), wrap_u64]; omega
  have c1 : decide ((12 : Int) < (t.size : Int)) = false := by simp; omega
  have c2 : decide (((t.size : Int) + r.size) < (t.size : Int)) = false := by simp; omega
  have w1 : IntKind.wrap .i64 (t.size : Int) = t.size := w64 (by omega) (by omega)
  have w2 : IntKind.wrap .i64 (((pt (t.size : Int)).size : Int) + t.size) = 1 + t.size := by rw [hp1, w64 (by omega) (by omega)]; rfl
  simp only [Option.bind_some, bne_self_eq_false, Bool.false_eq_true, if_false, m1, w0, c1, c2, w1, w2]
  rw [if_pos (by rw [hss, hp1]; omega), hsz]
  have e3 : ((1 : Int) + (t.size : Int)).toNat = (pt (t.size : Int)).size + t.size := by rw [hp1]; omega
  have e4 : (((pt (t.size : Int)).size : Nat) : Int).toNat = (pt (t.size : Int)).size := rfl
  rw [e3, e4, ext_mid]
  push_cast
  rfl
theorem zig_pos {v : Int} (h0 : 0 ≤ v) (h1 : v < 9223372036854775808) : bitsI .xor .u64 (shlI .u64 (IntKind.wrap .u64 v) 1) (IntKind.wrap .u64 (shrI .i64 v 63)) = 2 * v := by
  have e1 : shrI .i64 v 63 = 0 := by
    show Int.fdiv v 9223372036854775808 = 0
    rw [Int.fdiv_eq_ediv_of_nonneg v (by decide)]; omega
  have e2 : shlI .u64 (IntKind.wrap .u64 v) 1 = 2 * v := by
    rw [wrap_u64]
    show IntKind.wrap .u64 (v % 18446744073709551616 * 2) = _
    rw [wrap_u64]; omega
  rw [e1, e2]
  show IntKind.wrap .u64 (((BitVec.ofInt 64 (2 * v) ^^^ BitVec.ofInt 64 (0 : Int)).toNat : Nat) : Int) = _
  have : BitVec.ofInt 64 (0 : Int) = 0#64 := rfl
  rw [this, BitVec.xor_zero, BitVec.toNat_ofInt, wrap_u64]
  omega
theorem zig_neg {v : Int} (h0 : v < 0) (h1 : -9223372036854775808 ≤ v) : bitsI .xor .u64 (shlI .u64 (IntKind.wrap .u64 v) 1) (IntKind.wrap .u64 (shrI .i64 v 63)) = -2 * v - 1 := by
  have e1 : shrI .i64 v 63 = -1 := by
    show Int.fdiv v 9223372036854775808 = -1
    rw [Int.fdiv_eq_ediv_of_nonneg v (by decide)]; omega
  have e2 : shlI .u64 (IntKind.wrap .u64 v) 1 = 18446744073709551616 + 2 * v ∨ shlI .u64 (IntKind.wrap .u64 v) 1 = 2 * v + 18446744073709551616 := by
    left
    rw [wrap_u64]
    show IntKind.wrap .u64 (v % 18446744073709551616 * 2) = _
    rw [wrap_u64]; omega
  have e2 : shlI .u64 (IntKind.wrap .u64 v) 1 = 18446744073709551616 + 2 * v := by omega
  rw [e1, e2]
  show IntKind.wrap .u64 (((BitVec.ofInt 64 (18446744073709551616 + 2 * v) ^^^ BitVec.ofInt 64 (IntKind.wrap .u64 (-1))).toNat : Nat) : Int) = _
  have : BitVec.ofInt 64 (IntKind.wrap .u64 (-1)) = BitVec.allOnes 64 := by decide +kernel
  rw [this, BitVec.xor_allOnes, BitVec.toNat_not, BitVec.toNat_ofInt, wrap_u64]
  omega
theorem and1 {u : Int} (h0 : 0 ≤ u) (h1 : u < 18446744073709551616) : bitsI .and .u64 u 1 = u % 2 := by
  obtain ⟨k, rfl⟩ := Int.eq_ofNat_of_zero_le h0
  have e1 : (BitVec.ofInt 64 (k : Int)).toNat = k := by rw [BitVec.toNat_ofInt]; omega
  have e2 : (BitVec.ofInt 64 (1 : Int)).toNat = 1 := rfl
  have e3 : k &&& 1 = k % 2 := Nat.and_two_pow_sub_one_eq_mod k 1
  show IntKind.wrap .u64 (((BitVec.ofInt 64 (k : Int) &&& BitVec.ofInt 64 (1 : Int)).toNat : Nat) : Int) = _
  rw [BitVec.toNat_and, e1, e2, e3, wrap_u64]
  omega
theorem shr1 (x : Int) : shrI .u64 x 1 = x / 2 := by
  show Int.fdiv x 2 = x / 2
  exact Int.fdiv_eq_ediv_of_nonneg x (by decide)
theorem wrap_i64 (x : Int) : IntKind.wrap .i64 x = (x + 9223372036854775808) % 18446744073709551616 - 9223372036854775808 := by
  simp [IntKind.wrap, IntKind.bits, IntKind.signed]; omega
theorem zag_even {v : Int} (h0 : 0 ≤ v) (h1 : v < 9223372036854775808) (n : Nat) : F121 n (2 * v) = some v := by
  unfold F121
  have a : bitsI .and .u64 (2 * v) 1 = 0 := by rw [and1 (by omega) (by omega)]; omega
  have b : IntKind.wrap .i64 (shrI .u64 (2 * v) 1) = v := by rw [shr1, w64 (by omega) (by omega)]; omega
  have z : IntKind.wrap .i64 (0 - IntKind.wrap .i64 0) = 0 := rfl
  rw [a, b, z]
  refine congrArg some ?_
  show IntKind.wrap .i64 (((BitVec.ofInt 64 v ^^^ BitVec.ofInt 64 (0 : Int)).toNat : Nat) : Int) = _
  have : BitVec.ofInt 64 (0 : Int) = 0#64 := rfl
  rw [this, BitVec.xor_zero, BitVec.toNat_ofInt, wrap_i64]
  omega
theorem zag_odd {v : Int} (h0 : v < 0) (h1 : -9223372036854775808 ≤ v) (n : Nat) : F121 n (-2 * v - 1) = some v := by
  unfold F121
  have a : bitsI .and .u64 (-2 * v - 1) 1 = 1 := by rw [and1 (by omega) (by omega)]; omega
  have b : IntKind.wrap .i64 (shrI .u64 (-2 * v - 1) 1) = -v - 1 := by rw [shr1, w64 (by omega) (by omega)]; omega
  have z : IntKind.wrap .i64 (0 - IntKind.wrap .i64 1) = -1 := rfl
  rw [a, b, z]
  refine congrArg some ?_
  show IntKind.wrap .i64 (((BitVec.ofInt 64 (-v - 1) ^^^ BitVec.ofInt 64 (-1 : Int)).toNat : Nat) : Int) = _
  have : BitVec.ofInt 64 (-1 : Int) = BitVec.allOnes 64 := by decide +kernel
  rw [this, BitVec.xor_allOnes, BitVec.toNat_not, BitVec.toNat_ofInt, wrap_i64]
  omega
theorem ints_zg (n : Nat) (hn : 10 ≤ n) (v : Int) (h0 : -9223372036854775808 ≤ v) (h1 : v < 9223372036854775808) (r : ByteArray) (hs : (zg v ++ r).size ≤ 100000) : F118 n (zg v ++ r) = some (v, ((zg v).size : Int), 0) := by
  unfold F118
  unfold zg at hs ⊢
  rw [get_pt n hn _ (xor_in _ _).1 (xor_in _ _).2 _ hs]
  simp only [Option.bind_some]
  by_cases h : 0 ≤ v
  · rw [zig_pos h h1, zag_even h h1]; rfl
  · rw [zig_neg (by omega) h0, zag_odd (by omega) h0]; rfl
theorem numr (n : Nat) (hn : 10 ≤ n) (A R : ByteArray) (x : Int) (h0 : 0 ≤ x) (h1 : x ≤ 1000000) (hs : (A ++ (pu x ++ R)).size ≤ 100000) : F104 n ⟨A ++ (pu x ++ R), A.size, 0⟩ = some (x, ⟨A ++ (pu x ++ R), ((A ++ pu x).size : Nat), 0⟩) := by
  have hp : pu x = pt x := pu_small h0 (by omega)
  rw [hp] at hs ⊢
  have hz : (A ++ (pt x ++ R)).size = A.size + ((pt x).size + R.size) := by rw [ba_size, ba_size]
  have e00 : ((0 : Int) != 0) = false := rfl
  have hc : 0 ≤ ((A.size : Nat) : Int) ∧ ((A.size : Nat) : Int) ≤ ((A ++ (pt x ++ R)).size : Int) := by rw [hz]; omega
  have et : (((A.size : Nat) : Int)).toNat = A.size := rfl
  unfold F104 F116
  simp only [e00, Bool.false_eq_true, if_false, if_pos hc, et, ext_app]
  rw [get_pt n hn x h0 (by omega) R (by rw [ba_size]; omega)]
  have wi : IntKind.wrap .i64 (imin x 1000001) = x := by unfold imin; split <;> rw [w64 (by omega) (by omega)]; omega
  have w1 : IntKind.wrap .i64 ((A.size : Int) + (pt x).size) = ((A ++ pt x).size : Nat) := by rw [ba_size, w64 (by omega) (by omega)]; push_cast; rfl
  simp only [Option.bind_some, wi, w1]
def fb (f : Field) : ByteArray := if isE f.Text then tx f.Text ++ zg f.N else tx f.Text
theorem fieldr (n : Nat) (hn : 10 ≤ n) (A R : ByteArray) (f : Field) (hf : isF f = true) (h0 : -9223372036854775808 ≤ f.N) (h1 : f.N < 9223372036854775808) (hs : (A ++ (fb f ++ R)).size ≤ 100000) : F105 n ⟨A ++ (fb f ++ R), A.size, 0⟩ = some (f, ⟨A ++ (fb f ++ R), ((A ++ fb f).size : Nat), 0⟩) := by
  have h12 : f.Text.size ≤ 12 := by
    unfold isF at hf
    split at hf
    · simp at hf; omega
    · split at hf
      · simp at hf; omega
      · cases hf
  have e00 : ((0 : Int) != 0) = false := rfl
  have hz : (A ++ (fb f ++ R)).size = A.size + ((fb f).size + R.size) := by rw [ba_size, ba_size]
  have hc : 0 ≤ ((A.size : Nat) : Int) ∧ ((A.size : Nat) : Int) ≤ ((A ++ (fb f ++ R)).size : Int) := by rw [hz]; omega
  have et : (((A.size : Nat) : Int)).toNat = A.size := rfl
  unfold F105 F116
  simp only [e00, Bool.false_eq_true, if_false, if_pos hc, et, ext_app]
  unfold fb at hs hz hc ⊢
  cases hE : isE f.Text with
  | true =>
    simp only [hE, if_true] at hs hz hc ⊢
    have hE' : (f.Text.toList == ByteArray.empty.toList) = true := hE
    have a1 : tx f.Text ++ zg f.N ++ R = tx f.Text ++ (zg f.N ++ R) := ba_assoc _ _ _
    have a2 : A ++ (tx f.Text ++ zg f.N ++ R) = (A ++ tx f.Text) ++ (zg f.N ++ R) := by rw [a1, ba_assoc]
    rw [a1, texts_tx n hn f.Text _ h12 (by rw [← a1]; rw [ba_size] at hs; omega)]
    have w1 : IntKind.wrap .i64 ((A.size : Int) + (tx f.Text).size) = ((A ++ tx f.Text).size : Nat) := by
      have := tx_size f.Text
      rw [ba_size, w64 (by omega) (by omega)]; push_cast; rfl
    rw [← a1]
    have hc2 : 0 ≤ (((A ++ tx f.Text).size : Nat) : Int) ∧ (((A ++ tx f.Text).size : Nat) : Int) ≤ ((A ++ (tx f.Text ++ zg f.N ++ R)).size : Int) := by rw [a2, ba_size (A ++ tx f.Text)]; omega
    have et2 : ((((A ++ tx f.Text).size : Nat) : Int)).toNat = (A ++ tx f.Text).size := rfl
    simp only [Option.bind_some, hE', if_true, beq_self_eq_true, w1, if_pos hc2, et2]
    have hext : (A ++ (tx f.Text ++ zg f.N ++ R)).extract (A ++ tx f.Text).size (A ++ (tx f.Text ++ zg f.N ++ R)).size = zg f.N ++ R := by rw [a2]; exact ext_app _ _
    rw [hext, ints_zg n hn f.N h0 h1 R (by rw [a2, ba_size] at hs; omega)]
    have w2 : IntKind.wrap .i64 ((((A ++ tx f.Text).size : Nat) : Int) + (zg f.N).size) = ((A ++ (tx f.Text ++ zg f.N)).size : Nat) := by
      rw [a2, ba_size, ba_size (zg f.N)] at hs
      rw [← ba_assoc, ba_size (A ++ tx f.Text), w64 (by omega) (by omega)]; push_cast; rfl
    simp only [Option.bind_some, w2]
  | false =>
    simp only [hE, Bool.false_eq_true, if_false] at hs hz hc ⊢
    have hE' : (f.Text.toList == ByteArray.empty.toList) = false := hE
    rw [texts_tx n hn f.Text R h12 (by rw [ba_size] at hs; omega)]
    have w1 : IntKind.wrap .i64 ((A.size : Int) + (tx f.Text).size) = ((A ++ tx f.Text).size : Nat) := by
      have := tx_size f.Text
      rw [ba_size, w64 (by omega) (by omega)]; push_cast; rfl
    have hN : f.N = 0 := by
      unfold isF at hf
      split at hf
      · rename_i h; simpa using h
      · rw [hE'] at hf; cases hf
    simp only [Option.bind_some, hE', Bool.false_eq_true, if_false, w1]
    cases f; simp only at hN; subst hN; rfl
def gb (f : Field) (e : Bool) : ByteArray := if e then fb f else ByteArray.empty
theorem ba_nil_r (a : ByteArray) : a ++ ByteArray.empty = a := by
  apply ba_ext
  rw [ByteArray.data_append]
  show a.data ++ (#[] : Array UInt8) = a.data
  simp
theorem stage_gb (s : ByteArray) (f : Field) (e : Bool) : stage s f e = s ++ gb f e := by
  unfold stage gb fb
  cases e with
  | false => simp only [Bool.false_eq_true, if_false, ba_nil_r]
  | true =>
    simp only [if_true]
    cases isE f.Text with
    | true => simp only [if_true]; rw [ba_assoc]
    | false => simp only [Bool.false_eq_true, if_false]
theorem back1 {β : Type} (n : Nat) (hn : 10 ≤ n) (A R : ByteArray) (f : Field) (e : Bool) (he : e = false → f = noF) (hf : isF f = true) (h0 : -9223372036854775808 ≤ f.N) (h1 : f.N < 9223372036854775808) (hs : (A ++ (gb f e ++ R)).size ≤ 100000) (G : Int → ByteArray → ByteArray → Int → Int → Option β) :
    (if e = true then (F105 n ⟨A ++ (gb f e ++ R), A.size, 0⟩).bind (fun r => G r.1.N r.1.Text r.2.s r.2.at_ r.2.e) else G 0 ByteArray.empty (A ++ (gb f e ++ R)) A.size 0) = G f.N f.Text (A ++ gb f e ++ R) ((A ++ gb f e).size : Nat) 0 := by
  rw [ba_assoc]
  cases e with
  | false =>
    have := he rfl
    subst this
    simp only [Bool.false_eq_true, if_false, gb, ba_nil_r]
    rfl
  | true =>
    have hg : gb f true = fb f := rfl
    rw [hg] at hs ⊢
    simp only [if_true, fieldr n hn A R f hf h0 h1 hs, Option.bind_some]
set_option maxHeartbeats 1000000
structure Fld (d : Delta) : Prop where
  m : 0 ≤ d.Mask
  is : isD d = true
  n0 : -9223372036854775808 ≤ d.F.a0.N ∧ d.F.a0.N < 9223372036854775808
  n1 : -9223372036854775808 ≤ d.F.a1.N ∧ d.F.a1.N < 9223372036854775808
  n2 : -9223372036854775808 ≤ d.F.a2.N ∧ d.F.a2.N < 9223372036854775808
  n3 : -9223372036854775808 ≤ d.F.a3.N ∧ d.F.a3.N < 9223372036854775808
theorem okF_is {f : Field} {e : Bool} (h : okF f e = true) : isF f = true ∧ (e = false → f = noF) := by
  unfold okF at h
  simp only [Bool.and_eq_true, Bool.or_eq_true] at h
  refine ⟨h.1, fun he => ?_⟩
  subst he
  rcases h.2 with h2 | h2
  · cases h2
  · exact (Field.eqb_iff _ _).1 h2
theorem fl_is {d : Delta} (h : isD d = true) : okF d.F.a0 (hs d.Mask 1) = true ∧ okF d.F.a1 (hs d.Mask 2) = true ∧ okF d.F.a2 (hs d.Mask 3) = true ∧ okF d.F.a3 (hs d.Mask 4) = true := by
  unfold isD fl4 at h
  simp only [Bool.and_eq_true] at h
  exact ⟨h.2.2.2.2.2.2.1, h.2.2.2.2.2.2.2.1, h.2.2.2.2.2.2.2.2.1, h.2.2.2.2.2.2.2.2.2⟩
def g0 (d : Delta) : ByteArray := gb d.F.a0 (hs d.Mask 1)
def g1 (d : Delta) : ByteArray := gb d.F.a1 (hs d.Mask 2)
def g2 (d : Delta) : ByteArray := gb d.F.a2 (hs d.Mask 3)
def g3 (d : Delta) : ByteArray := gb d.F.a3 (hs d.Mask 4)
theorem backP (n : Nat) (hn : 10 ≤ n) (d : Delta) (H : Fld d) (r1 r2 r4 r5 : Int × Reader) (A t : ByteArray) (h1 : r1.1 = d.ID) (h2 : IntKind.wrap .u8 r2.1 = d.Mask) (h4 : r4.1 = d.At.X) (h5 : r5.1 = d.At.Y)
    (hz : A.size + (g0 d).size + (g1 d).size + (g2 d).size + (g3 d).size + t.size ≤ 100000) :
    (if hs d.Mask 1 = true then (F105 n ⟨A ++ (g0 d ++ (g1 d ++ (g2 d ++ (g3 d ++ t)))), A.size, 0⟩).bind (fun r7 => F71_u11 n r1 r2 r4 r5 r7.2 r7.1.N r7.1.Text) else F71_u11 n r1 r2 r4 r5 ⟨(A ++ (g0 d ++ (g1 d ++ (g2 d ++ (g3 d ++ t))))), A.size, 0⟩ 0 ByteArray.empty) = some (d, (((A ++ g0 d ++ g1 d ++ g2 d ++ g3 d).size : Nat) : Int), 0) := by
  obtain ⟨o0, o1, o2, o3⟩ := fl_is H.is
  have e00 : ((0 : Int) != 0) = false := rfl
  have b0 := back1 n hn A (g1 d ++ (g2 d ++ (g3 d ++ t))) d.F.a0 (hs d.Mask 1) (okF_is o0).2 (okF_is o0).1 H.n0.1 H.n0.2 (by simp only [ba_size]; unfold g0 at hz; omega) (fun N T s c e => F71_u11 n r1 r2 r4 r5 ⟨s, c, e⟩ N T)
  have b1 := back1 n hn (A ++ g0 d) (g2 d ++ (g3 d ++ t)) d.F.a1 (hs d.Mask 2) (okF_is o1).2 (okF_is o1).1 H.n1.1 H.n1.2 (by simp only [ba_size]; unfold g1 at hz; omega) (fun N T s c e => F71_u17 n r1 r2 r4 r5 d.F.a0.N d.F.a0.Text ⟨s, c, e⟩ N T)
  have b2 := back1 n hn (A ++ g0 d ++ g1 d) (g3 d ++ t) d.F.a2 (hs d.Mask 3) (okF_is o2).2 (okF_is o2).1 H.n2.1 H.n2.2 (by simp only [ba_size]; unfold g2 at hz; omega) (fun N T s c e => F71_u23 n r1 r2 r4 r5 d.F.a0.N d.F.a0.Text d.F.a1.N d.F.a1.Text ⟨s, c, e⟩ N T)
  have b3 := back1 n hn (A ++ g0 d ++ g1 d ++ g2 d) t d.F.a3 (hs d.Mask 4) (okF_is o3).2 (okF_is o3).1 H.n3.1 H.n3.2 (by simp only [ba_size]; unfold g3 at hz; omega) (fun N T s c e => F71_u29 n r1 r2 r4 r5 d.F.a0.N d.F.a0.Text d.F.a1.N d.F.a1.Text d.F.a2.N d.F.a2.Text ⟨s, c, e⟩ N T)
  refine Eq.trans b0 ?_
  show F71_u11 n r1 r2 r4 r5 ⟨(A ++ g0 d ++ (g1 d ++ (g2 d ++ (g3 d ++ t)))), ((A ++ g0 d).size : Nat), 0⟩ d.F.a0.N d.F.a0.Text = _
  unfold F71_u11
  simp only [e00, Bool.false_eq_true, if_false, h2, has1, Option.bind_some]
  refine Eq.trans b1 ?_
  show F71_u17 n r1 r2 r4 r5 d.F.a0.N d.F.a0.Text ⟨(A ++ g0 d ++ g1 d ++ (g2 d ++ (g3 d ++ t))), ((A ++ g0 d ++ g1 d).size : Nat), 0⟩ d.F.a1.N d.F.a1.Text = _
  unfold F71_u17
  simp only [e00, Bool.false_eq_true, if_false, h2, has2, Option.bind_some]
  refine Eq.trans b2 ?_
  show F71_u23 n r1 r2 r4 r5 d.F.a0.N d.F.a0.Text d.F.a1.N d.F.a1.Text ⟨(A ++ g0 d ++ g1 d ++ g2 d ++ (g3 d ++ t)), ((A ++ g0 d ++ g1 d ++ g2 d).size : Nat), 0⟩ d.F.a2.N d.F.a2.Text = _
  unfold F71_u23
  simp only [e00, Bool.false_eq_true, if_false, h2, has3, Option.bind_some]
  refine Eq.trans b3 ?_
  show F71_j39 n r1 r2 r4 r5 ⟨(A ++ g0 d ++ g1 d ++ g2 d ++ g3 d ++ t), ((A ++ g0 d ++ g1 d ++ g2 d ++ g3 d).size : Nat), 0⟩ d.F.a0.N d.F.a0.Text d.F.a1.N d.F.a1.Text d.F.a2.N d.F.a2.Text d.F.a3.N d.F.a3.Text = _
  unfold F71_j39
  simp only [e00, Bool.false_eq_true, if_false, h1, h2, h4, h5]
  have hd : Delta.mk d.ID d.Mask (Point.mk d.At.X d.At.Y) (A4.mk (Field.mk d.F.a0.N d.F.a0.Text) (Field.mk d.F.a1.N d.F.a1.Text) (Field.mk d.F.a2.N d.F.a2.Text) (Field.mk d.F.a3.N d.F.a3.Text)) = d := rfl
  simp only [hd, isD_eq, H.is, Option.bind_some, Bool.not_true, Bool.false_eq_true, if_false]
theorem backN (n : Nat) (hn : 10 ≤ n) (d : Delta) (H : Fld d) (r1 r2 : Int × Reader) (A t : ByteArray) (h1 : r1.1 = d.ID) (h2 : IntKind.wrap .u8 r2.1 = d.Mask) (h4 : d.At = noP)
    (hz : A.size + (g0 d).size + (g1 d).size + (g2 d).size + (g3 d).size + t.size ≤ 100000) :
    (if hs d.Mask 1 = true then (F105 n ⟨A ++ (g0 d ++ (g1 d ++ (g2 d ++ (g3 d ++ t)))), A.size, 0⟩).bind (fun r7 => F71_u46 n r1 r2 r7.2 r7.1.N r7.1.Text) else F71_u46 n r1 r2 ⟨(A ++ (g0 d ++ (g1 d ++ (g2 d ++ (g3 d ++ t))))), A.size, 0⟩ 0 ByteArray.empty) = some (d, (((A ++ g0 d ++ g1 d ++ g2 d ++ g3 d).size : Nat) : Int), 0) := by
  obtain ⟨o0, o1, o2, o3⟩ := fl_is H.is
  have e00 : ((0 : Int) != 0) = false := rfl
  have b0 := back1 n hn A (g1 d ++ (g2 d ++ (g3 d ++ t))) d.F.a0 (hs d.Mask 1) (okF_is o0).2 (okF_is o0).1 H.n0.1 H.n0.2 (by simp only [ba_size]; unfold g0 at hz; omega) (fun N T s c e => F71_u46 n r1 r2 ⟨s, c, e⟩ N T)
  have b1 := back1 n hn (A ++ g0 d) (g2 d ++ (g3 d ++ t)) d.F.a1 (hs d.Mask 2) (okF_is o1).2 (okF_is o1).1 H.n1.1 H.n1.2 (by simp only [ba_size]; unfold g1 at hz; omega) (fun N T s c e => F71_u52 n r1 r2 d.F.a0.N d.F.a0.Text ⟨s, c, e⟩ N T)
  have b2 := back1 n hn (A ++ g0 d ++ g1 d) (g3 d ++ t) d.F.a2 (hs d.Mask 3) (okF_is o2).2 (okF_is o2).1 H.n2.1 H.n2.2 (by simp only [ba_size]; unfold g2 at hz; omega) (fun N T s c e => F71_u58 n r1 r2 d.F.a0.N d.F.a0.Text d.F.a1.N d.F.a1.Text ⟨s, c, e⟩ N T)
  have b3 := back1 n hn (A ++ g0 d ++ g1 d ++ g2 d) t d.F.a3 (hs d.Mask 4) (okF_is o3).2 (okF_is o3).1 H.n3.1 H.n3.2 (by simp only [ba_size]; unfold g3 at hz; omega) (fun N T s c e => F71_u64 n r1 r2 d.F.a0.N d.F.a0.Text d.F.a1.N d.F.a1.Text d.F.a2.N d.F.a2.Text ⟨s, c, e⟩ N T)
  refine Eq.trans b0 ?_
  show F71_u46 n r1 r2 ⟨(A ++ g0 d ++ (g1 d ++ (g2 d ++ (g3 d ++ t)))), ((A ++ g0 d).size : Nat), 0⟩ d.F.a0.N d.F.a0.Text = _
  unfold F71_u46
  simp only [e00, Bool.false_eq_true, if_false, h2, has1, Option.bind_some]
  refine Eq.trans b1 ?_
  show F71_u52 n r1 r2 d.F.a0.N d.F.a0.Text ⟨(A ++ g0 d ++ g1 d ++ (g2 d ++ (g3 d ++ t))), ((A ++ g0 d ++ g1 d).size : Nat), 0⟩ d.F.a1.N d.F.a1.Text = _
  unfold F71_u52
  simp only [e00, Bool.false_eq_true, if_false, h2, has2, Option.bind_some]
  refine Eq.trans b2 ?_
  show F71_u58 n r1 r2 d.F.a0.N d.F.a0.Text d.F.a1.N d.F.a1.Text ⟨(A ++ g0 d ++ g1 d ++ g2 d ++ (g3 d ++ t)), ((A ++ g0 d ++ g1 d ++ g2 d).size : Nat), 0⟩ d.F.a2.N d.F.a2.Text = _
  unfold F71_u58
  simp only [e00, Bool.false_eq_true, if_false, h2, has3, Option.bind_some]
  refine Eq.trans b3 ?_
  show F71_j74 n r1 r2 ⟨(A ++ g0 d ++ g1 d ++ g2 d ++ g3 d ++ t), ((A ++ g0 d ++ g1 d ++ g2 d ++ g3 d).size : Nat), 0⟩ d.F.a0.N d.F.a0.Text d.F.a1.N d.F.a1.Text d.F.a2.N d.F.a2.Text d.F.a3.N d.F.a3.Text = _
  unfold F71_j74
  simp only [e00, Bool.false_eq_true, if_false, h1, h2]
  have hd : Delta.mk d.ID d.Mask (Point.mk 0 0) (A4.mk (Field.mk d.F.a0.N d.F.a0.Text) (Field.mk d.F.a1.N d.F.a1.Text) (Field.mk d.F.a2.N d.F.a2.Text) (Field.mk d.F.a3.N d.F.a3.Text)) = d := by
    have : d.At = Point.mk 0 0 := h4
    rw [← this]
  simp only [hd, isD_eq, H.is, Option.bind_some, Bool.not_true, Bool.false_eq_true, if_false]
theorem body_is (d : Delta) (s : ByteArray) : body s d = s ++ g0 d ++ g1 d ++ g2 d ++ g3 d := by
  unfold body g0 g1 g2 g3
  rw [stage_gb, stage_gb, stage_gb, stage_gb]
theorem gb_size (f : Field) (e : Bool) (h : f.Text.size ≤ 40) : (gb f e).size ≤ 60 := by
  have := stage_size ByteArray.empty f e h
  rw [stage_gb, ba_nil] at this
  have z : ByteArray.empty.size = 0 := rfl
  omega
theorem text12 {f : Field} (hf : isF f = true) : f.Text.size ≤ 12 := by
  unfold isF at hf
  split at hf
  · simp at hf; omega
  · split at hf
    · simp at hf; omega
    · cases hf
theorem read_back (n : Nat) (hn : 10 ≤ n) (d : Delta) (H : Fld d) (t : ByteArray) (ht : t.size ≤ 90000) : F71 n (body (head d) d ++ t) = some (d, ((body (head d) d).size : Int), 0) := by
  obtain ⟨o0, o1, o2, o3⟩ := fl_is H.is
  have k0 := gb_size d.F.a0 (hs d.Mask 1) (by have := text12 (okF_is o0).1; omega)
  have k1 := gb_size d.F.a1 (hs d.Mask 2) (by have := text12 (okF_is o1).1; omega)
  have k2 := gb_size d.F.a2 (hs d.Mask 3) (by have := text12 (okF_is o2).1; omega)
  have k3 := gb_size d.F.a3 (hs d.Mask 4) (by have := text12 (okF_is o3).1; omega)
  have kh := head_size d
  have e00 : ((0 : Int) != 0) = false := rfl
  have hd := H.is
  unfold isD at hd
  simp only [Bool.and_eq_true, Bool.not_eq_true', decide_eq_false_iff_not, beq_eq_false_iff_ne, ne_eq] at hd
  obtain ⟨i0, i1, m0, m1, pl, on1, _⟩ := hd
  have hss : body (head d) d ++ t = head d ++ (g0 d ++ (g1 d ++ (g2 d ++ (g3 d ++ t)))) := by
    rw [body_is]; simp only [ba_assoc]
  have hz : (head d).size + (g0 d).size + (g1 d).size + (g2 d).size + (g3 d).size + t.size ≤ 100000 := by
    unfold g0 g1 g2 g3; omega
  have wm : IntKind.wrap .u8 d.Mask = d.Mask := by rw [wrap_u8]; have := H.m; omega
  have hon : 0 ≤ d.At.X ∧ d.At.X < 64 ∧ 0 ≤ d.At.Y ∧ d.At.Y < 64 := by
    unfold on at on1
    by_cases h1 : 0 ≤ d.At.X <;> by_cases h2 : d.At.X < 64 <;> by_cases h3 : 0 ≤ d.At.Y <;> by_cases h4 : d.At.Y < 64 <;> simp [h1, h2, h3, h4] at on1 ⊢
  have z0 : ((ByteArray.empty.size : Nat) : Int) = 0 := rfl
  have hm := H.m
  have c1 : decide ((1000000 : Int) < d.ID) = false := by simp; omega
  have c2 : (d.Mask == 0) = false := by simp [m0]
  have c3 : decide ((31 : Int) < d.Mask) = false := by simp; omega
  rw [hss]
  unfold F71
  cases hA : a1 d with
  | true =>
    have hA' : (bitsI .and .u8 d.Mask 1 != 0) = true := hA
    have hh : head d = pu d.ID ++ pu d.Mask ++ pu d.At.X ++ pu d.At.Y := by
      unfold head; rw [hA]; simp only [if_true, ba_assoc]
    rw [hh] at hz
    simp only [ba_size] at hz
    rw [body_is, hh]
    have s1 : pu d.ID ++ pu d.Mask ++ pu d.At.X ++ pu d.At.Y ++ (g0 d ++ (g1 d ++ (g2 d ++ (g3 d ++ t)))) = ByteArray.empty ++ (pu d.ID ++ (pu d.Mask ++ (pu d.At.X ++ (pu d.At.Y ++ (g0 d ++ (g1 d ++ (g2 d ++ (g3 d ++ t)))))))) := by simp only [ba_nil, ba_assoc]
    have s2 : pu d.ID ++ pu d.Mask ++ pu d.At.X ++ pu d.At.Y ++ (g0 d ++ (g1 d ++ (g2 d ++ (g3 d ++ t)))) = pu d.ID ++ (pu d.Mask ++ (pu d.At.X ++ (pu d.At.Y ++ (g0 d ++ (g1 d ++ (g2 d ++ (g3 d ++ t))))))) := by simp only [ba_assoc]
    have s3 : pu d.ID ++ pu d.Mask ++ pu d.At.X ++ pu d.At.Y ++ (g0 d ++ (g1 d ++ (g2 d ++ (g3 d ++ t)))) = (pu d.ID ++ pu d.Mask) ++ (pu d.At.X ++ (pu d.At.Y ++ (g0 d ++ (g1 d ++ (g2 d ++ (g3 d ++ t)))))) := by simp only [ba_assoc]
    have s4 : pu d.ID ++ pu d.Mask ++ pu d.At.X ++ pu d.At.Y ++ (g0 d ++ (g1 d ++ (g2 d ++ (g3 d ++ t)))) = (pu d.ID ++ pu d.Mask ++ pu d.At.X) ++ (pu d.At.Y ++ (g0 d ++ (g1 d ++ (g2 d ++ (g3 d ++ t))))) := by simp only [ba_assoc]
    have q1 := numr n hn ByteArray.empty (pu d.Mask ++ (pu d.At.X ++ (pu d.At.Y ++ (g0 d ++ (g1 d ++ (g2 d ++ (g3 d ++ t))))))) d.ID (by omega) (by omega) (by rw [← s1]; simp only [ba_size]; omega)
    have q2 := numr n hn (pu d.ID) (pu d.At.X ++ (pu d.At.Y ++ (g0 d ++ (g1 d ++ (g2 d ++ (g3 d ++ t)))))) d.Mask (by omega) (by omega) (by rw [← s2]; simp only [ba_size]; omega)
    have q3 := numr n hn (pu d.ID ++ pu d.Mask) (pu d.At.Y ++ (g0 d ++ (g1 d ++ (g2 d ++ (g3 d ++ t))))) d.At.X (by omega) (by omega) (by rw [← s3]; simp only [ba_size]; omega)
    have q4 := numr n hn (pu d.ID ++ pu d.Mask ++ pu d.At.X) (g0 d ++ (g1 d ++ (g2 d ++ (g3 d ++ t)))) d.At.Y (by omega) (by omega) (by rw [← s4]; simp only [ba_size]; omega)
    rw [← s1, z0, ba_nil] at q1
    rw [← s2] at q2
    rw [← s3] at q3
    rw [← s4] at q4
    simp only [q1, q2, Option.bind_some, beq_self_eq_true, if_true, c1, c2, c3, Bool.false_eq_true, if_false]
    unfold F71_j3
    simp only [wm, hA', if_true, q3, q4, Option.bind_some, e00, Bool.false_eq_true, if_false, has0]
    exact backP n hn d H _ _ _ _ (pu d.ID ++ pu d.Mask ++ pu d.At.X ++ pu d.At.Y) t rfl wm rfl rfl (by simp only [ba_size]; omega)
  | false =>
    have hA' : (bitsI .and .u8 d.Mask 1 != 0) = false := hA
    have hat : d.At = noP := by
      rw [hA] at pl
      simp only [Bool.false_or] at pl
      exact (Point.eqb_iff _ _).1 pl
    have hh : head d = pu d.ID ++ pu d.Mask := by
      unfold head; rw [hA]; rfl
    rw [hh] at hz
    simp only [ba_size] at hz
    rw [body_is, hh]
    have s1 : pu d.ID ++ pu d.Mask ++ (g0 d ++ (g1 d ++ (g2 d ++ (g3 d ++ t)))) = ByteArray.empty ++ (pu d.ID ++ (pu d.Mask ++ (g0 d ++ (g1 d ++ (g2 d ++ (g3 d ++ t)))))) := by simp only [ba_nil, ba_assoc]
    have s2 : pu d.ID ++ pu d.Mask ++ (g0 d ++ (g1 d ++ (g2 d ++ (g3 d ++ t)))) = pu d.ID ++ (pu d.Mask ++ (g0 d ++ (g1 d ++ (g2 d ++ (g3 d ++ t))))) := by simp only [ba_assoc]
    have q1 := numr n hn ByteArray.empty (pu d.Mask ++ (g0 d ++ (g1 d ++ (g2 d ++ (g3 d ++ t))))) d.ID (by omega) (by omega) (by rw [← s1]; simp only [ba_size]; omega)
    have q2 := numr n hn (pu d.ID) (g0 d ++ (g1 d ++ (g2 d ++ (g3 d ++ t)))) d.Mask (by omega) (by omega) (by rw [← s2]; simp only [ba_size]; omega)
    rw [← s1, z0, ba_nil] at q1
    rw [← s2] at q2
    simp only [q1, q2, Option.bind_some, beq_self_eq_true, if_true, c1, c2, c3, Bool.false_eq_true, if_false]
    unfold F71_j3
    simp only [wm, hA', Bool.false_eq_true, if_false, Option.bind_some, e00, has0]
    exact backN n hn d H _ _ (pu d.ID ++ pu d.Mask) t rfl wm hat (by simp only [ba_size]; omega)
theorem ixg {α : Type} (l : List α) (i : Nat) (h : i < l.length) : ix l (i : Int) = some l[i] := by
  simp [ix, h]
theorem dsucc {i : Nat} (h : i < maxLen) : IntKind.wrap .i64 ((i : Int) + 1) = ((i + 1 : Nat) : Int) := by
  simp only [maxLen] at h
  simp [IntKind.wrap, IntKind.bits, IntKind.signed]; omega
theorem lt_dec {i n : Nat} (h : i < n) : decide ((i : Int) < (n : Int)) = true := by simp; omega
theorem ge_dec {i n : Nat} (h : ¬ i < n) : decide ((i : Int) < (n : Int)) = false := by simp; omega
theorem dropS {α : Type} (l : List α) (i : Nat) (h : i < l.length) : l.drop i = l[i] :: l.drop (i + 1) := (List.getElem_cons_drop (h := h)).symm
def isTh (t : Thing) : Bool := decide (0 ≤ t.ID) && (decide (t.ID ≤ 1000000) && (on t.At && (isF t.F.a0 && (isF t.F.a1 && (isF t.F.a2 && isF t.F.a3)))))
theorem not_eq (n : Nat) (f : Field) : F69 n f = some (!(isF f)) := by
  unfold F69
  simp only [isF_eq, Option.bind_some]
theorem is_eq (n : Nat) (t : Thing) : F24 n t = some (isTh t) := by
  have hz : ∀ a b c d : Field, F68s0 n [a, b, c, d] = some (!(isF a && (isF b && (isF c && isF d)))) := by
    intro a b c d
    unfold F68s0 F103s0
    unfold F103s0_l4
    have w1 : IntKind.wrap .i64 ((0 : Int) + 1) = 1 := by decide
    have w2 : IntKind.wrap .i64 ((1 : Int) + 1) = 2 := by decide
    have w3 : IntKind.wrap .i64 ((2 : Int) + 1) = 3 := by decide
    have w4 : IntKind.wrap .i64 ((3 : Int) + 1) = 4 := by decide
    have x0 : ix [a, b, c, d] 0 = some a := rfl
    have x1 : ix [a, b, c, d] 1 = some b := rfl
    have x2 : ix [a, b, c, d] 2 = some c := rfl
    have x3 : ix [a, b, c, d] 3 = some d := rfl
    have l0 : decide ((0 : Int) < (([a, b, c, d] : List Field).length : Int)) = true := rfl
    have l1 : decide ((1 : Int) < (([a, b, c, d] : List Field).length : Int)) = true := rfl
    have l2 : decide ((2 : Int) < (([a, b, c, d] : List Field).length : Int)) = true := rfl
    have l3 : decide ((3 : Int) < (([a, b, c, d] : List Field).length : Int)) = true := rfl
    have l4 : decide ((4 : Int) < (([a, b, c, d] : List Field).length : Int)) = false := rfl
    rw [if_pos l0, x0]
    simp only [Option.bind_some, not_eq]
    cases isF a with
    | false => rfl
    | true =>
      simp only [Bool.not_true, Bool.false_eq_true, if_false, Bool.true_and]
      rw [w1]
      unfold F103s0_l4
      rw [if_pos l1, x1]
      simp only [Option.bind_some, not_eq]
      cases isF b with
      | false => rfl
      | true =>
        simp only [Bool.not_true, Bool.false_eq_true, if_false, Bool.true_and]
        rw [w2]
        unfold F103s0_l4
        rw [if_pos l2, x2]
        simp only [Option.bind_some, not_eq]
        cases isF c with
        | false => rfl
        | true =>
          simp only [Bool.not_true, Bool.false_eq_true, if_false, Bool.true_and]
          rw [w3]
          unfold F103s0_l4
          rw [if_pos l3, x3]
          simp only [Option.bind_some, not_eq]
          cases isF d with
          | false => rfl
          | true =>
            simp only [Bool.not_true, Bool.false_eq_true, if_false]
            rw [w4]
            unfold F103s0_l4
            rw [if_neg (by rw [l4]; decide)]
            rfl
  unfold F24 isTh
  rw [hz]
  simp only [on_eq, Option.bind_some, Bool.not_not]
  by_cases h1 : 0 ≤ t.ID
  · by_cases h2 : t.ID ≤ 1000000
    · cases h3 : on t.At <;> simp [h1, h2]
    · simp [h1, h2]
  · simp [h1]
theorem ris_eq (n : Nat) (t : Thing) : F18 n t = some (isTh t) := by
  have k15 : ∀ b, F18_u15 n b = some b := fun b => rfl
  have k12 : ∀ b, F18_u12 n t b = some (b && isF t.F.a3) := fun b => by
    unfold F18_u12; cases b <;> simp only [risF_eq, Option.bind_some, k15, if_true, if_false, Bool.false_eq_true, Bool.true_and, Bool.false_and]
  have k9 : ∀ b, F18_u9 n t b = some (b && (isF t.F.a2 && isF t.F.a3)) := fun b => by
    unfold F18_u9; cases b <;> simp only [risF_eq, Option.bind_some, k12, if_true, if_false, Bool.false_eq_true, Bool.true_and, Bool.false_and]
  have k6 : ∀ b, F18_u6 n t b = some (b && (isF t.F.a1 && (isF t.F.a2 && isF t.F.a3))) := fun b => by
    unfold F18_u6; cases b <;> simp only [risF_eq, Option.bind_some, k9, if_true, if_false, Bool.false_eq_true, Bool.true_and, Bool.false_and]
  have k3 : ∀ b, F18_j3 n t b = some (b && (isF t.F.a0 && (isF t.F.a1 && (isF t.F.a2 && isF t.F.a3)))) := fun b => by
    unfold F18_j3; cases b <;> simp only [risF_eq, Option.bind_some, k6, if_true, if_false, Bool.false_eq_true, Bool.true_and, Bool.false_and]
  unfold F18 isTh
  simp only [ron_eq, Option.bind_some, k3]
  by_cases h1 : 0 ≤ t.ID
  · by_cases h2 : t.ID ≤ 1000000
    · simp [h1, h2]
    · simp [h1, h2]
  · simp [h1]
def full (t : Thing) : Delta := ⟨t.ID, 31, t.At, t.F⟩
theorem text_few {f : Field} (h : isF f = true) : f.Text.size ≤ 12 := by
  unfold isF at h
  split at h
  · simp at h; omega
  · split at h
    · simp at h; omega
    · cases h
theorem isTh_F {t : Thing} (h : isTh t = true) : isF t.F.a0 = true ∧ isF t.F.a1 = true ∧ isF t.F.a2 = true ∧ isF t.F.a3 = true := by
  unfold isTh at h
  simp only [Bool.and_eq_true] at h
  exact ⟨h.2.2.2.1, h.2.2.2.2.1, h.2.2.2.2.2.1, h.2.2.2.2.2.2⟩
theorem isTh_few {t : Thing} (h : isTh t = true) : Few (full t) := by
  obtain ⟨h0, h1, h2, h3⟩ := isTh_F h
  have := text_few h0; have := text_few h1; have := text_few h2; have := text_few h3
  refine ⟨?_, ?_, ?_, ?_⟩ <;> (unfold full; simp only; omega)
theorem full_is (t : Thing) : isD (full t) = isTh t := by
  have b1 : hs 31 1 = true := by decide +kernel
  have b2 : hs 31 2 = true := by decide +kernel
  have b3 : hs 31 3 = true := by decide +kernel
  have b4 : hs 31 4 = true := by decide +kernel
  have c1 : a1 (full t) = true := by show ((bitsI .and .u8 31 1) != 0) = true; decide +kernel
  unfold isD isTh fl4 okF
  have e : (full t).Mask = 31 := rfl
  rw [c1, e, b1, b2, b3, b4]
  have f1 : (!((31 : Int) == 0)) = true := rfl
  have f2 : (!(decide ((31 : Int) < 31))) = true := rfl
  rw [f1, f2]
  simp only [Bool.true_and, Bool.true_or, Bool.and_true]
  show (!(decide (t.ID < 0)) && (!(decide (1000000 < t.ID)) && (on t.At && (isF t.F.a0 && (isF t.F.a1 && (isF t.F.a2 && isF t.F.a3)))))) = _
  have g1 : (!(decide (t.ID < 0))) = decide (0 ≤ t.ID) := by by_cases h : t.ID < 0 <;> simp [h] <;> omega
  have g2 : (!(decide (1000000 < t.ID))) = decide (t.ID ≤ 1000000) := by by_cases h : 1000000 < t.ID <;> simp [h] <;> omega
  rw [g1, g2]
def tb (t : Thing) : ByteArray := body (head (full t)) (full t)
theorem tb_size {t : Thing} (h : isTh t = true) : (tb t).size ≤ 280 ∧ 1 ≤ (tb t).size := by
  obtain ⟨f0, f1, f2, f3⟩ := isTh_few h
  have hh := head_size (full t)
  have h1 : 1 ≤ (head (full t)).size := by
    have := pu_size (full t).ID; have := pu_size (full t).Mask
    unfold head
    split <;> simp only [ba_size] <;> omega
  have g : ∀ (s : ByteArray) (f : Field) (e : Bool), s.size ≤ (stage s f e).size := fun s f e => by
    unfold stage
    split
    · split <;> simp only [ba_size] <;> omega
    · omega
  unfold tb body
  have z1 := stage_size (head (full t)) (full t).F.a0 (hs (full t).Mask 1) f0
  have z2 := stage_size (stage (head (full t)) (full t).F.a0 (hs (full t).Mask 1)) (full t).F.a1 (hs (full t).Mask 2) f1
  have z3 := stage_size (stage (stage (head (full t)) (full t).F.a0 (hs (full t).Mask 1)) (full t).F.a1 (hs (full t).Mask 2)) (full t).F.a2 (hs (full t).Mask 3) f2
  have z4 := stage_size (stage (stage (stage (head (full t)) (full t).F.a0 (hs (full t).Mask 1)) (full t).F.a1 (hs (full t).Mask 2)) (full t).F.a2 (hs (full t).Mask 3)) (full t).F.a3 (hs (full t).Mask 4) f3
  have y1 := g (head (full t)) (full t).F.a0 (hs (full t).Mask 1)
  have y2 := g (stage (head (full t)) (full t).F.a0 (hs (full t).Mask 1)) (full t).F.a1 (hs (full t).Mask 2)
  have y3 := g (stage (stage (head (full t)) (full t).F.a0 (hs (full t).Mask 1)) (full t).F.a1 (hs (full t).Mask 2)) (full t).F.a2 (hs (full t).Mask 3)
  have y4 := g (stage (stage (stage (head (full t)) (full t).F.a0 (hs (full t).Mask 1)) (full t).F.a1 (hs (full t).Mask 2)) (full t).F.a2 (hs (full t).Mask 3)) (full t).F.a3 (hs (full t).Mask 4)
  omega
theorem tbytes_eq {n : Nat} (hn : 10 ≤ n) (t : Thing) : F21 n t = some (if isTh t then (tb t, 0) else (ByteArray.empty, 11)) := by
  unfold F21
  simp only [is_eq, Option.bind_some]
  cases h : isTh t with
  | false => rfl
  | true =>
    simp only [Bool.not_true, Bool.false_eq_true, if_false, if_true]
    have := bytes_eq hn (full t) (isTh_few h)
    rw [full_is, h] at this
    have e : Delta.mk t.ID 31 t.At t.F = full t := rfl
    rw [e, this]
    rfl
theorem mk_bytes (s : ByteArray) : mkStr (bytesL s) = s := by
  apply ba_ext
  rw [mkStr_data]
  apply Array.ext'
  simp only [bytesL, List.map_map]
  have : ((fun n : Int => UInt8.ofNat n.toNat) ∘ fun b : UInt8 => (b.toNat : Int)) = id := by
    funext b; simp
  rw [this, List.map_id]
theorem bytes_add (a b : ByteArray) : bytesL (a ++ b) = bytesL a ++ bytesL b := by
  simp [bytesL, ByteArray.data_append]
theorem bytes_byteB (s : ByteArray) : (bytesL s).all byteB = true := by
  rw [List.all_eq_true]
  intro x hx
  simp only [bytesL, List.mem_map] at hx
  obtain ⟨b, _, rfl⟩ := hx
  have := b.toNat_lt
  simp only [byteB, Bool.and_eq_true, decide_eq_true_eq]
  omega
theorem bldAdd_s {a b : ByteArray} (h : a.size + b.size ≤ 1000000) : bldAdd (bytesL a) b = some (bytesL (a ++ b)) := by
  unfold bldAdd
  rw [if_pos (by rw [bytesL_len, Nat.ble_eq]; omega), bytes_add]
theorem bldStr_s {a : ByteArray} (h : 1 ≤ a.size) : bldStr (bytesL a) = some a := by
  unfold bldStr
  rw [if_pos (by rw [bytes_byteB, bytesL_len]; simp [Nat.blt_eq]; omega), mk_bytes]
theorem i64_in {x : Int} (h : (Lit.int .i64 x).wf = true) : -9223372036854775808 ≤ x ∧ x < 9223372036854775808 := by
  have := bounds_i64 h; omega
theorem wf_N {t : Thing} (h : t.wf) : (-9223372036854775808 ≤ t.F.a0.N ∧ t.F.a0.N < 9223372036854775808) ∧ (-9223372036854775808 ≤ t.F.a1.N ∧ t.F.a1.N < 9223372036854775808) ∧ (-9223372036854775808 ≤ t.F.a2.N ∧ t.F.a2.N < 9223372036854775808) ∧ (-9223372036854775808 ≤ t.F.a3.N ∧ t.F.a3.N < 9223372036854775808) := by
  obtain ⟨_, _, h0, h1, h2, h3⟩ := h
  exact ⟨i64_in h0.1, i64_in h1.1, i64_in h2.1, i64_in h3.1⟩
theorem full_fld {t : Thing} (h : isTh t = true) (hw : t.wf) : Fld (full t) := by
  obtain ⟨n0, n1, n2, n3⟩ := wf_N hw
  exact ⟨by show (0 : Int) ≤ 31; decide, by rw [full_is]; exact h, n0, n1, n2, n3⟩
theorem read_tb {n : Nat} (hn : 10 ≤ n) {t : Thing} (h : isTh t = true) (hw : t.wf) (r : ByteArray) (hr : r.size ≤ 90000) : F30 n (tb t ++ r) = some (t, ((tb t).size : Int), 0) := by
  unfold F30 tb
  rw [read_back n hn (full t) (full_fld h hw) r hr]
  rfl
def noT : Thing := ⟨0, ⟨0, 0⟩, ⟨noF, noF, noF, noF⟩⟩
def noD : Delta := ⟨0, 0, ⟨0, 0⟩, ⟨noF, noF, noF, noF⟩⟩
theorem Event.eqb_iff (x y : Event) : Event.eqb x y = true ↔ x = y := by
  cases x; cases y; simp [Event.eqb, Thing.eqb_iff, Delta.eqb_iff]
theorem Event.eqb_refl (x : Event) : Event.eqb x x = true := (Event.eqb_iff x x).2 rfl
theorem Delta.eqb_refl (x : Delta) : Delta.eqb x x = true := (Delta.eqb_iff x x).2 rfl
def isEv (e : Event) : Bool :=
  if e.Kind == 1 then isTh e.Thing && (e.ID == e.Thing.ID && Delta.eqb e.Delta noD)
  else if e.Kind == 2 then isD e.Delta && (e.ID == e.Delta.ID && Thing.eqb e.Thing noT)
  else if e.Kind == 3 then decide (0 ≤ e.ID) && (decide (e.ID ≤ 1000000) && (Thing.eqb e.Thing noT && Delta.eqb e.Delta noD))
  else false
theorem ite_bool (a b : Bool) : (if a = true then some b else some false) = some (a && b) := by cases a <;> rfl
theorem ev_is (n : Nat) (e : Event) : F39 n e = some (isEv e) := by
  unfold F39 isEv
  simp only [is_eq, isD_eq, Option.bind_some, ite_bool]
  by_cases h1 : (e.Kind == 1) = true
  · rw [if_pos h1, if_pos h1]; rfl
  · rw [if_neg h1, if_neg h1]
    by_cases h2 : (e.Kind == 2) = true
    · rw [if_pos h2, if_pos h2]; rfl
    · rw [if_neg h2, if_neg h2]
      by_cases h3 : (e.Kind == 3) = true
      · rw [if_pos h3, h3, Bool.true_and]; rfl
      · have h4 : (e.Kind == 3) = false := by simpa using h3
        rw [if_neg h3, h4, Bool.false_and]
def db (d : Delta) : ByteArray := body (head d) d
theorem isD_few {d : Delta} (h : isD d = true) : Few d := by
  simp only [isD, fl4, okF, Bool.and_eq_true] at h
  obtain ⟨_, _, _, _, _, _, h0, h1, h2, h3⟩ := h
  have t0 := text_few h0.1; have t1 := text_few h1.1; have t2 := text_few h2.1; have t3 := text_few h3.1
  exact ⟨by omega, by omega, by omega, by omega⟩
theorem db_size {d : Delta} (h : Few d) : (db d).size ≤ 280 := by
  obtain ⟨f0, f1, f2, f3⟩ := h
  have hh := head_size d
  unfold db body
  have z1 := stage_size (head d) d.F.a0 (hs d.Mask 1) f0
  have z2 := stage_size (stage (head d) d.F.a0 (hs d.Mask 1)) d.F.a1 (hs d.Mask 2) f1
  have z3 := stage_size (stage (stage (head d) d.F.a0 (hs d.Mask 1)) d.F.a1 (hs d.Mask 2)) d.F.a2 (hs d.Mask 3) f2
  have z4 := stage_size (stage (stage (stage (head d) d.F.a0 (hs d.Mask 1)) d.F.a1 (hs d.Mask 2)) d.F.a2 (hs d.Mask 3)) d.F.a3 (hs d.Mask 4) f3
  omega
def evr (e : Event) : ByteArray := if e.Kind == 1 then tb e.Thing else if e.Kind == 2 then db e.Delta else pu e.ID
def evb (e : Event) : ByteArray := pu e.Kind ++ evr e
theorem evr_size {e : Event} (h : isEv e = true) : (evr e).size ≤ 280 := by
  unfold isEv at h
  unfold evr
  by_cases h1 : (e.Kind == 1) = true
  · rw [if_pos h1] at h ⊢
    simp only [Bool.and_eq_true] at h
    exact (tb_size h.1).1
  · rw [if_neg h1] at h ⊢
    by_cases h2 : (e.Kind == 2) = true
    · rw [if_pos h2] at h ⊢
      simp only [Bool.and_eq_true] at h
      exact db_size (isD_few h.1)
    · rw [if_neg h2]
      have := pu_size e.ID
      omega
theorem evb_size {e : Event} (h : isEv e = true) : (evb e).size ≤ 290 := by
  have := evr_size h; have := pu_size e.Kind
  unfold evb; rw [ba_size]; omega
theorem one_eq' {n : Nat} (hn : 10 ≤ n) {e : Event} (h : isEv e = true) : F82 n e = some (evb e) := by
  have hz := evr_size h
  have hp := pu_size e.Kind
  have hj : F82_j5 n e (evr e) = some (evb e) := by
    unfold F82_j5
    rw [pu_eq hn, Option.bind_some, if_pos (by omega)]
    rfl
  unfold F82
  unfold evr at hj
  unfold isEv at h
  by_cases h1 : (e.Kind == 1) = true
  · rw [if_pos h1] at h hj ⊢
    simp only [Bool.and_eq_true] at h
    rw [tbytes_eq hn, h.1]
    exact hj
  · rw [if_neg h1] at h hj ⊢
    by_cases h2 : (e.Kind == 2) = true
    · rw [if_pos h2] at h hj ⊢
      simp only [Bool.and_eq_true] at h
      rw [bytes_eq hn _ (isD_few h.1), h.1]
      exact hj
    · rw [if_neg h2] at hj ⊢
      rw [pu_eq hn]
      exact hj
theorem anyE_l (n : Nat) (l : List Event) (hl : l.length ≤ 100000) : ∀ (m i : Nat), i ≤ l.length → l.length - i < m →
    ∃ r : Int, F110s0_l4 n l m (i : Int) = some r ∧ decide (0 ≤ r) = !((l.drop i).all isEv)
  | 0, i, _, h => by omega
  | m + 1, i, hi, hm => by
    unfold F110s0_l4
    by_cases h : i < l.length
    · rw [if_pos (lt_dec h), ixg l i h, dropS l i h]
      unfold F81
      simp only [Option.bind_some, ev_is, List.all_cons]
      cases hE : isEv l[i] with
      | false => exact ⟨(i : Int), rfl, by simp⟩
      | true =>
        simp only [Bool.not_true, Bool.false_eq_true, if_false, Bool.true_and]
        rw [dsucc (by simp only [maxLen]; omega)]
        exact anyE_l n l hl m (i + 1) (by omega) (by omega)
    · rw [if_neg (by rw [ge_dec h]; decide), List.drop_of_length_le (by omega)]
      exact ⟨-1, rfl, rfl⟩
theorem anyE {n : Nat} {l : List Event} (hl : l.length ≤ 100000) (hn : l.length ≤ n) : F80s0 n l = some (!(l.all isEv)) := by
  unfold F80s0 F110s0
  obtain ⟨r, h1, h2⟩ := anyE_l n l hl (n + 8) 0 (by omega) (by omega)
  rw [List.drop_zero] at h2
  have h1' : F110s0_l4 n l (n + 8) 0 = some r := h1
  rw [h1', Option.bind_some, h2]
def catE : List Event → ByteArray
  | [] => ByteArray.empty
  | e :: l => evb e ++ catE l
theorem catE_size (l : List Event) (h : ∀ e ∈ l, isEv e = true) : (catE l).size ≤ 290 * l.length := by
  induction l with
  | nil => simp [catE]
  | cons e l ih =>
    have h1 := evb_size (h e List.mem_cons_self)
    have h2 := ih fun x hx => h x (List.mem_cons_of_mem _ hx)
    simp only [catE, ba_size, List.length_cons]; omega
theorem evs_l {n : Nat} (hn : 10 ≤ n) (l : List Event) (hl : l.length ≤ 400) (hE : ∀ e ∈ l, isEv e = true) : ∀ (m i : Nat) (s : ByteArray), i ≤ l.length → l.length - i < m → 1 ≤ s.size → s.size + 290 * (l.length - i) ≤ 200000 →
    F46_l10 n l m (i : Int) (bytesL s) = some (s ++ catE (l.drop i), 0)
  | 0, i, _, _, h, _, _ => by omega
  | m + 1, i, s, hi, hm, h1, hs => by
    unfold F46_l10
    by_cases h : i < l.length
    · have he := hE l[i] (List.getElem_mem h)
      have hz := evb_size he
      rw [if_pos (lt_dec h), ixg l i h, Option.bind_some, one_eq' hn he, Option.bind_some, bldAdd_s (by omega), Option.bind_some, dsucc (by simp only [maxLen]; omega)]
      rw [evs_l hn l hl hE m (i + 1) _ (by omega) (by omega) (by rw [ba_size]; omega) (by rw [ba_size]; omega), dropS l i h, catE, ba_assoc]
    · rw [if_neg (by rw [ge_dec h]; decide), bldStr_s h1, List.drop_of_length_le (by omega), catE]
      simp only [Option.bind_some]
      congr 2
      apply ba_ext; simp [ByteArray.data_append]
def evsB (l : List Event) : ByteArray × Int := if l.all isEv = false then (ByteArray.empty, 11) else if 400 < l.length then (ByteArray.empty, 13) else (pu (l.length : Int) ++ catE l, 0)
theorem evs_bytes {n : Nat} (hn : 10 ≤ n) {l : List Event} (hl : l.length ≤ 100000) (hn2 : l.length ≤ n) : F46 n l = some (evsB l) := by
  unfold F46 evsB
  rw [anyE hl hn2]
  simp only [Option.bind_some]
  cases hA : l.all isEv with
  | false => rfl
  | true =>
    simp only [Bool.not_true, Bool.false_eq_true, Bool.true_eq_false, if_false]
    by_cases h : 400 < l.length
    · rw [if_pos (by simp; omega), if_pos h]
    · have hp := pu_size (l.length : Int)
      have hA' : ∀ e ∈ l, isEv e = true := List.all_eq_true.1 hA
      have h0 : bldAdd ([] : List Int) (pu (l.length : Int)) = some (bytesL (pu (l.length : Int))) := by
        have := bldAdd_s (a := ByteArray.empty) (b := pu (l.length : Int)) (by have : ByteArray.empty.size = 0 := rfl; omega)
        rw [ba_nil] at this
        exact this
      rw [if_neg (by simp; omega), if_neg h, pu_eq hn, Option.bind_some, h0, Option.bind_some]
      have := evs_l hn l (by omega) hA' (n + 8) 0 (pu (l.length : Int)) (by omega) (by omega) hp.2 (by omega)
      rw [List.drop_zero] at this
      exact this
def app (t : Thing) (d : Delta) : Thing := ⟨t.ID, if a1 d then d.At else t.At, ⟨if hs d.Mask 1 then d.F.a0 else t.F.a0, if hs d.Mask 2 then d.F.a1 else t.F.a1, if hs d.Mask 3 then d.F.a2 else t.F.a2, if hs d.Mask 4 then d.F.a3 else t.F.a3⟩⟩
theorem app_eq (n : Nat) (t : Thing) (d : Delta) : F88 n t d = some (app t d) := by
  unfold F88 F88_j2 F88_u5 F88_u8 F88_u11 F88_u14 app a1
  simp only [has0, has1, has2, has3, Option.bind_some]
  generalize ((bitsI .and .u8 d.Mask 1) != 0) = eA
  generalize hs d.Mask 1 = e0
  generalize hs d.Mask 2 = e1
  generalize hs d.Mask 3 = e2
  generalize hs d.Mask 4 = e3
  cases eA <;> cases e0 <;> cases e1 <;> cases e2 <;> cases e3 <;> rfl
theorem app_is {t : Thing} {d : Delta} (ht : isTh t = true) (hd : isD d = true) : isTh (app t d) = true := by
  have okf : ∀ (f g : Field) (e : Bool), isF g = true → okF f e = true → isF (if e = true then f else g) = true := by
    intro f g e h h'
    cases e with
    | false => exact h
    | true => simp only [okF, Bool.and_eq_true] at h'; exact h'.1
  simp only [isD, fl4, Bool.and_eq_true] at hd
  simp only [isTh, Bool.and_eq_true] at ht ⊢
  obtain ⟨_, _, _, _, _, hon, h0, h1, h2, h3⟩ := hd
  obtain ⟨t0, t1, t2, t3, t4, t5, t6⟩ := ht
  refine ⟨t0, t1, ?_, okf _ _ _ t3 h0, okf _ _ _ t4 h1, okf _ _ _ t5 h2, okf _ _ _ t6 h3⟩
  show on (if a1 d = true then d.At else t.At) = true
  split
  · exact hon
  · exact t2
def Ris (l : List Thing) : Prop := l.Pairwise fun a b => a.ID < b.ID
def lo (l : List Thing) (x : Int) : List Thing := l.takeWhile fun t => decide (t.ID < x)
def hi (l : List Thing) (x : Int) : List Thing := l.dropWhile fun t => decide (t.ID < x)
def has (b : List Thing) (x : Int) : Bool := match b with
  | [] => false
  | t :: _ => t.ID == x
theorem lohi (l : List Thing) (x : Int) : lo l x ++ hi l x = l := List.takeWhile_append_dropWhile
theorem lo_lt (l : List Thing) (x : Int) : ∀ t ∈ lo l x, t.ID < x := by
  induction l with
  | nil => intro t h; cases h
  | cons u l ih =>
    intro t h
    simp only [lo, List.takeWhile_cons] at h
    split at h
    · rename_i hu
      cases h with
      | head => exact of_decide_eq_true hu
      | tail _ h' => exact ih t h'
    · cases h
theorem hi_ge {l : List Thing} (hl : Ris l) (x : Int) : ∀ t ∈ hi l x, x ≤ t.ID := by
  induction l with
  | nil => intro t h; cases h
  | cons u l ih =>
    intro t h
    cases hl with
    | cons hu hr =>
      simp only [hi, List.dropWhile_cons] at h
      split at h
      · exact ih hr t h
      · rename_i hx
        have hx' : x ≤ u.ID := by simp at hx; exact hx
        cases h with
        | head => exact hx'
        | tail _ h' => have := hu t h'; omega
def stp (l : List Thing) (e : Event) : List Thing × Bool :=
  if isEv e = false then (l, false)
  else if has (hi l e.ID) e.ID == (e.Kind == 1) then (l, false)
  else if e.Kind == 1 then (lo l e.ID ++ e.Thing :: hi l e.ID, true)
  else if e.Kind == 2 then (lo l e.ID ++ (match hi l e.ID with | [] => [] | u :: b => app u e.Delta :: b), true)
  else (lo l e.ID ++ (hi l e.ID).tail, true)
theorem ris_ins {a b : List Thing} {t : Thing} (h : Ris (a ++ b)) (ha : ∀ u ∈ a, u.ID < t.ID) (hb : ∀ u ∈ b, t.ID < u.ID) : Ris (a ++ t :: b) := by
  unfold Ris at *
  rw [List.pairwise_append] at h ⊢
  refine ⟨h.1, List.pairwise_cons.2 ⟨hb, h.2.1⟩, ?_⟩
  intro u hu v hv
  cases hv with
  | head => exact ha u hu
  | tail _ hv' => exact h.2.2 u hu v hv'
theorem ris_del {a b : List Thing} {t : Thing} (h : Ris (a ++ t :: b)) : Ris (a ++ b) := by
  unfold Ris at *
  rw [List.pairwise_append] at h ⊢
  exact ⟨h.1, (List.pairwise_cons.1 h.2.1).2, fun u hu v hv => h.2.2 u hu v (List.mem_cons_of_mem _ hv)⟩
theorem ris_set {a b : List Thing} {t u : Thing} (h : Ris (a ++ t :: b)) (hi : u.ID = t.ID) : Ris (a ++ u :: b) := by
  unfold Ris at *
  rw [List.pairwise_append] at h ⊢
  refine ⟨h.1, List.pairwise_cons.2 ⟨fun v hv => ?_, (List.pairwise_cons.1 h.2.1).2⟩, ?_⟩
  · rw [hi]; exact (List.pairwise_cons.1 h.2.1).1 v hv
  · intro v hv w hw
    cases hw with
    | head => rw [hi]; exact h.2.2 v hv t List.mem_cons_self
    | tail _ hw' => exact h.2.2 v hv w (List.mem_cons_of_mem _ hw')
theorem has_no {b : List Thing} {x : Int} (hr : Ris b) (hg : ∀ t ∈ b, x ≤ t.ID) (h : has b x = false) : ∀ t ∈ b, x < t.ID := by
  cases b with
  | nil => intro t h; cases h
  | cons u b =>
    have hu : u.ID ≠ x := by simpa [has] using h
    have h1 := hg u List.mem_cons_self
    intro t ht
    cases ht with
    | head => omega
    | tail _ ht' => have := (List.pairwise_cons.1 hr).1 t ht'; omega
theorem has_yes {b : List Thing} {x : Int} (h : has b x = true) : ∃ u b', b = u :: b' ∧ u.ID = x := by
  cases b with
  | nil => cases h
  | cons u b => exact ⟨u, b, rfl, by simpa [has] using h⟩
theorem ris_hi {l : List Thing} (h : Ris l) (x : Int) : Ris (hi l x) := by
  have := h; rw [← lohi l x] at this; exact (List.pairwise_append.1 this).2.1
theorem isEv_id {e : Event} (h : isEv e = true) (h1 : (e.Kind == 1) = true) : isTh e.Thing = true ∧ e.ID = e.Thing.ID := by
  unfold isEv at h
  rw [if_pos h1] at h
  simp only [Bool.and_eq_true, beq_iff_eq] at h
  exact ⟨h.1, h.2.1⟩
theorem isEv_d {e : Event} (h : isEv e = true) (h1 : (e.Kind == 1) = false) (h2 : (e.Kind == 2) = true) : isD e.Delta = true := by
  unfold isEv at h
  rw [h1, h2] at h
  simp only [Bool.false_eq_true, if_false, if_true, Bool.and_eq_true] at h
  exact h.1
theorem stp_good {l : List Thing} (h : Ris l) (e : Event) : Ris (stp l e).1 ∧ (stp l e).1.length ≤ l.length + 1 ∧ ((∀ t ∈ l, isTh t = true) → ∀ t ∈ (stp l e).1, isTh t = true) := by
  have hl := lohi l e.ID
  have hlo := lo_lt l e.ID
  have hge := hi_ge h e.ID
  have hrh := ris_hi h e.ID
  have hlen : l.length = (lo l e.ID).length + (hi l e.ID).length := by rw [← List.length_append, hl]
  unfold stp
  cases hE : isEv e with
  | false => exact ⟨h, by simp, fun q => q⟩
  | true =>
    simp only [Bool.true_eq_false, if_false]
    cases hh : has (hi l e.ID) e.ID with
    | false =>
      cases h1 : (e.Kind == 1) with
      | false => exact ⟨h, by simp, fun q => q⟩
      | true =>
        obtain ⟨hT, hid⟩ := isEv_id hE h1
        simp only [Bool.false_beq, Bool.not_true, Bool.false_eq_true, if_false, if_true]
        refine ⟨ris_ins (by rw [hl]; exact h) (by rw [← hid]; exact hlo) (by rw [← hid]; exact has_no hrh hge hh), by simp only [List.length_append, List.length_cons]; omega, fun q t ht => ?_⟩
        rw [List.mem_append, List.mem_cons] at ht
        rcases ht with ht | rfl | ht
        · exact q t (by rw [← hl]; exact List.mem_append_left _ ht)
        · exact hT
        · exact q t (by rw [← hl]; exact List.mem_append_right _ ht)
    | true =>
      cases h1 : (e.Kind == 1) with
      | true => exact ⟨h, by simp, fun q => q⟩
      | false =>
        simp only [Bool.true_beq, Bool.false_eq_true, if_false]
        obtain ⟨u, b, hb, hu⟩ := has_yes hh
        rw [hb] at hlen hl ⊢
        have hR : Ris (lo l e.ID ++ u :: b) := by rw [hl]; exact h
        have hin : ∀ t, t ∈ lo l e.ID ∨ t = u ∨ t ∈ b → t ∈ l := by
          intro t ht; rw [← hl, List.mem_append, List.mem_cons]; exact ht
        simp only [List.length_cons] at hlen
        cases h2 : (e.Kind == 2) with
        | true =>
          simp only [if_true]
          refine ⟨ris_set hR rfl, by simp only [List.length_append, List.length_cons]; omega, fun q t ht => ?_⟩
          rw [List.mem_append, List.mem_cons] at ht
          rcases ht with ht | rfl | ht
          · exact q t (hin t (.inl ht))
          · exact app_is (q u (hin u (.inr (.inl rfl)))) (isEv_d hE h1 h2)
          · exact q t (hin t (.inr (.inr ht)))
        | false =>
          simp only [Bool.false_eq_true, if_false, List.tail_cons]
          refine ⟨ris_del hR, by simp only [List.length_append]; omega, fun q t ht => ?_⟩
          rw [List.mem_append] at ht
          rcases ht with ht | ht
          · exact q t (hin t (.inl ht))
          · exact q t (hin t (.inr (.inr ht)))
theorem cmp_eq (n : Nat) (t : Thing) (x : Int) : F85 n t x = some (if t.ID < x then -1 else if x < t.ID then 1 else 0) := by
  unfold F85 F86 F111
  simp only [Option.bind_some, bne_self_eq_false, Bool.false_eq_true, if_false, decide_eq_true_eq]
  split
  · rfl
  · split <;> rfl
theorem shr1' (x : Int) : shrI .u64 x 1 = x / 2 := by
  unfold shrI; rw [Int.fdiv_eq_ediv_of_nonneg _ (by decide)]; rfl
theorem half {i j : Nat} (h : i + j < 1000000) : IntKind.wrap .i64 (shrI .u64 (IntKind.wrap .u64 (IntKind.wrap .i64 ((i : Int) + (j : Int)))) 1) = (((i + j) / 2 : Nat) : Int) := by
  have e1 : IntKind.wrap .i64 ((i : Int) + (j : Int)) = ((i + j : Nat) : Int) := by simp [IntKind.wrap, IntKind.bits, IntKind.signed]; omega
  have e2 : IntKind.wrap .u64 ((i + j : Nat) : Int) = ((i + j : Nat) : Int) := by simp [IntKind.wrap, IntKind.bits, IntKind.signed]; omega
  have e3 : shrI .u64 ((i + j : Nat) : Int) 1 = (((i + j) / 2 : Nat) : Int) := by
    rw [shr1']; omega
  rw [e1, e2, e3]
  simp [IntKind.wrap, IntKind.bits, IntKind.signed]; omega
theorem bs_l (n : Nat) (a b : List Thing) (x : Int) (ha : ∀ t ∈ a, t.ID < x) (hb : ∀ t ∈ b, x ≤ t.ID) (hlen : a.length + b.length ≤ 100000) : ∀ (m i j : Nat), i ≤ a.length → a.length ≤ j → j ≤ a.length + b.length → j - i < m →
    F84s0_l7 n (a ++ b) x m (i : Int) (j : Int) = some ((a.length : Int), has b x) := by
  intro m
  induction m with
  | zero => intro i j _ _ _ h; omega
  | succ m ih =>
    intro i j h1 h2 h3 hm
    unfold F84s0_l7
    have hL : (a ++ b).length = a.length + b.length := List.length_append
    by_cases hij : i < j
    · rw [if_pos (lt_dec hij), half (by omega), ixg (a ++ b) ((i + j) / 2) (by omega)]
      simp only [Option.bind_some, cmp_eq]
      by_cases hq : (i + j) / 2 < a.length
      · have hlt : ((a ++ b)[(i + j) / 2]'(by omega)).ID < x := by rw [List.getElem_append_left hq]; exact ha _ (List.getElem_mem _)
        rw [if_pos hlt, if_pos (by decide), dsucc (by simp only [maxLen]; omega)]
        exact ih ((i + j) / 2 + 1) j (by omega) h2 h3 (by omega)
      · have hge : x ≤ ((a ++ b)[(i + j) / 2]'(by omega)).ID := by rw [List.getElem_append_right (by omega)]; exact hb _ (List.getElem_mem _)
        have hno : ¬ (decide ((if ((a ++ b)[(i + j) / 2]'(by omega)).ID < x then (-1 : Int) else if x < ((a ++ b)[(i + j) / 2]'(by omega)).ID then 1 else 0) < 0) = true) := by
          rw [if_neg (by omega)]; split <;> decide
        rw [if_neg hno]
        exact ih i ((i + j) / 2) h1 (by omega) (by omega) (by omega)
    · have hi' : i = a.length := by omega
      subst hi'
      rw [if_neg (by simp; omega)]
      cases b with
      | nil =>
        simp only [List.length_nil, Nat.add_zero] at hL h3
        rw [if_neg (by rw [hL]; simp)]
        rfl
      | cons u b =>
        rw [if_pos (by rw [hL]; simp; omega), ixg (a ++ u :: b) a.length (by rw [hL]; simp)]
        simp only [Option.bind_some, cmp_eq]
        have hg : (a ++ u :: b)[a.length]'(by rw [hL]; simp) = u := by simp
        rw [hg]
        have hu := hb u List.mem_cons_self
        rw [if_neg (by omega)]
        simp only [has]
        by_cases he : u.ID = x
        · rw [he, if_neg (by omega)]; simp
        · rw [if_pos (by omega)]
          simp [he]
theorem bs_eq {n : Nat} {l : List Thing} (hr : Ris l) (hl : l.length ≤ 100000) (hn : l.length ≤ n) (x : Int) : F84s0 n l x = some (((lo l x).length : Int), has (hi l x) x) := by
  have h := bs_l n (lo l x) (hi l x) x (lo_lt l x) (hi_ge hr x) (by rw [← List.length_append, lohi]; exact hl) (n + 8) 0 l.length (by omega) (by have := congrArg List.length (lohi l x); rw [List.length_append] at this; omega) (by rw [← List.length_append, lohi]; exact Nat.le_refl _) (by omega)
  rw [lohi] at h
  exact h
theorem clone_eq {l : List Thing} (hl : l.length ≤ 100000) : cloneL l = some l := by
  unfold cloneL; rw [if_pos (by omega)]
theorem step_eq {n : Nat} {l : List Thing} (hr : Ris l) (hl : l.length ≤ 100000) (hn : l.length ≤ n) (e : Event) : F51 n l e = some (stp l e) := by
  unfold F51 stp
  rw [bs_eq hr hl hn, ev_is, clone_eq hl]
  have hL := lohi l e.ID
  have hlen : l.length = (lo l e.ID).length + (hi l e.ID).length := by rw [← List.length_append, hL]
  have htk : l.take (lo l e.ID).length = lo l e.ID := by
    have := List.take_left' (l₁ := lo l e.ID) (l₂ := hi l e.ID) rfl
    rw [hL] at this; exact this
  have hdk : l.drop (lo l e.ID).length = hi l e.ID := by
    have := List.drop_left' (l₁ := lo l e.ID) (l₂ := hi l e.ID) rfl
    rw [hL] at this; exact this
  simp only [Option.bind_some]
  cases hE : isEv e with
  | false => rfl
  | true =>
    simp only [Bool.not_true, Bool.false_eq_true, Bool.true_eq_false, if_false]
    cases hh : has (hi l e.ID) e.ID with
    | false =>
      cases h1 : (e.Kind == 1) with
      | false => rfl
      | true =>
        simp only [Bool.false_beq, Bool.not_true, Bool.false_eq_true, if_false, if_true]
        unfold insL
        rw [if_pos ⟨by omega, by omega, by omega⟩]
        simp only [Int.toNat_natCast, Option.bind_some, htk, hdk]
    | true =>
      cases h1 : (e.Kind == 1) with
      | true => rfl
      | false =>
        simp only [Bool.true_beq, Bool.false_eq_true, if_false]
        obtain ⟨u, b, hb, hu⟩ := has_yes hh
        rw [hb] at hlen hL hdk ⊢
        simp only [List.length_cons] at hlen
        have hk : (lo l e.ID).length < l.length := by omega
        have hget : l[(lo l e.ID).length]'hk = u := by
          have h0 := congrArg List.head? hdk
          rw [List.head?_drop, List.head?_cons, List.getElem?_eq_getElem hk] at h0
          exact Option.some.inj h0
        cases h2 : (e.Kind == 2) with
        | true =>
          simp only [if_true]
          rw [ixg l _ hk, hget]
          simp only [Option.bind_some, app_eq, Int.toNat_natCast]
          have hset : l.set (lo l e.ID).length (app u e.Delta) = lo l e.ID ++ app u e.Delta :: b := by
            conv => lhs; arg 1; rw [← hL]
            rw [List.set_append_right _ _ (Nat.le_refl _), Nat.sub_self]
            rfl
          rw [hset]
        | false =>
          simp only [Bool.false_eq_true, if_false]
          rw [dsucc (by simp only [maxLen]; omega)]
          unfold delL
          rw [if_pos ⟨by omega, by omega, by omega, by omega⟩]
          simp only [Int.toNat_natCast, Option.bind_some, htk]
          have hd1 : l.drop ((lo l e.ID).length + 1) = b := by rw [← List.drop_drop, hdk]; rfl
          rw [hd1]
          rfl
def fld (l0 : List Thing) : List Thing → List Event → List Thing × Bool
  | l, [] => (l, true)
  | l, e :: es => if (stp l e).2 then fld l0 (stp l e).1 es else (l0, false)
theorem fold_l {n : Nat} {a0 : List Thing} (h0 : a0.length ≤ 1000) (es : List Event) (hes : es.length ≤ 5000) (hn : 10000 ≤ n) : ∀ (m i : Nat) (l : List Thing), i ≤ es.length → es.length - i < m → Ris l → l.length + (es.length - i) ≤ 10000 →
    F40_l11 n a0 es m l true (i : Int) = some (fld a0 l (es.drop i)) := by
  intro m
  induction m with
  | zero => intro i l _ h; omega
  | succ m ih =>
    intro i l hi hm hr hl
    unfold F40_l11
    by_cases h : i < es.length
    · rw [if_pos (lt_dec h), ixg es i h, Option.bind_some, step_eq hr (by omega) (by omega), Option.bind_some, dropS es i h, fld]
      obtain ⟨g1, g2, _⟩ := stp_good hr es[i]
      cases hb : (stp l es[i]).2 with
      | true =>
        simp only [Bool.not_true, Bool.false_eq_true, if_false, if_true]
        rw [dsucc (by simp only [maxLen]; omega)]
        exact ih (i + 1) _ (by omega) (by omega) g1 (by omega)
      | false =>
        simp only [Bool.not_false, if_true, Bool.false_eq_true, if_false]
        unfold F40_j16
        simp only [Bool.not_false, if_true]
        rw [clone_eq (by omega)]
        rfl
    · rw [if_neg (by rw [ge_dec h]; decide), List.drop_of_length_le (by omega), fld]
      rfl
theorem fold_eq {n : Nat} {l : List Thing} (es : List Event) (h0 : l.length ≤ 1000) (hes : es.length ≤ 5000) (hn : 10000 ≤ n) (hr : Ris l) : F40 n l es = some (fld l l es) := by
  unfold F40
  rw [clone_eq (by omega)]
  exact fold_l h0 es hes hn (n + 8) 0 l (by omega) (by omega) hr (by omega)
theorem fld_good (l0 : List Thing) (h0 : Ris l0) (h0' : ∀ t ∈ l0, isTh t = true) (k : Nat) (hk : l0.length ≤ k) : ∀ (es : List Event) (l : List Thing), Ris l → (∀ t ∈ l, isTh t = true) → l.length + es.length ≤ k →
    Ris (fld l0 l es).1 ∧ (∀ t ∈ (fld l0 l es).1, isTh t = true) ∧ (fld l0 l es).1.length ≤ k := by
  intro es
  induction es with
  | nil => intro l hr ht hl; exact ⟨hr, ht, by simpa [fld] using hl⟩
  | cons e es ih =>
    intro l hr ht hl
    obtain ⟨g1, g2, g3⟩ := stp_good hr e
    simp only [List.length_cons] at hl
    unfold fld
    split
    · exact ih _ g1 (g3 ht) (by omega)
    · exact ⟨h0, h0', hk⟩
def fewG (f : Field) : Bool := decide ((f.Text.size : Int) ≤ 40)
def fewU (t : Thing) : Bool := fewG t.F.a0 && (fewG t.F.a1 && (fewG t.F.a2 && fewG t.F.a3))
theorem fewU_eq (n : Nat) (t : Thing) : F56 n t = some (fewU t) := by
  unfold F56 F97 fewU
  simp only [Option.bind_some]
  change (if (!(fewG t.F.a0)) = true then some false else if (!(fewG t.F.a1)) = true then some false else if (!(fewG t.F.a2)) = true then some false else if (!(fewG t.F.a3)) = true then some false else some true) = _
  cases fewG t.F.a0 <;> cases fewG t.F.a1 <;> cases fewG t.F.a2 <;> cases fewG t.F.a3 <;> rfl
theorem fewsU_l (n : Nat) (l : List Thing) (hl : l.length ≤ maxLen) : ∀ (m i : Nat), i ≤ l.length → l.length - i < m → F43_l4 n l m (i : Int) = some ((l.drop i).all fewU && decide ((l.length : Int) ≤ 30))
  | 0, i, _, h => by omega
  | m + 1, i, hi, h => by
    unfold F43_l4
    by_cases hlt : i < l.length
    · rw [if_pos (lt_dec hlt), ixg l i hlt, dropS l i hlt, List.all_cons]
      simp only [Option.bind_some, fewU_eq]
      cases fewU l[i] with
      | false => simp
      | true =>
        simp only [Bool.not_true, Bool.false_eq_true, if_false, Bool.true_and]
        rw [dsucc (by omega)]
        exact fewsU_l n l hl m (i + 1) (by omega) (by omega)
    · have : i = l.length := by omega
      subst this
      rw [if_neg (by rw [ge_dec (by omega)]; decide), List.drop_length]
      rfl
theorem fewsU {n : Nat} {l : List Thing} (hl : l.length ≤ maxLen) (hn : l.length ≤ n) : ∃ b, F43 n l = some b ∧ (b = true → l.length ≤ 30) := by
  have := fewsU_l n l hl (n + 8) 0 (by omega) (by omega)
  refine ⟨_, this, fun h => ?_⟩
  simp only [Bool.and_eq_true, decide_eq_true_eq] at h
  omega
theorem pred_w' {i : Nat} (h : i + 1 < maxLen) : IntKind.wrap .i64 (((i + 1 : Nat) : Int) - 1) = (i : Int) := by
  simp only [maxLen] at h
  simp [IntKind.wrap, IntKind.bits, IntKind.signed]; omega
theorem rising_l (n : Nat) (l : List Thing) (hl : l.length ≤ maxLen) : ∀ (m i : Nat), i ≤ l.length → l.length - i < m → (∀ t ∈ l.take i, isTh t = true) → Ris (l.take i) →
    ∃ b, F45_l4 n l m (i : Int) = some b ∧ (b = true ↔ (∀ t ∈ l, isTh t = true) ∧ Ris l)
  | 0, i, _, h, _, _ => by omega
  | m + 1, i, hi, h, hT, hR => by
    unfold F45_l4
    by_cases hlt : i < l.length
    · rw [if_pos (lt_dec hlt), ixg l i hlt]
      simp only [Option.bind_some, ris_eq]
      have hmem : l[i] ∈ l := List.getElem_mem hlt
      have htk : l.take (i + 1) = l.take i ++ [l[i]] := (List.take_append_getElem hlt).symm
      cases hE : isTh l[i] with
      | false => exact ⟨false, rfl, by simp; intro h0; have := h0 _ hmem; rw [hE] at this; cases this⟩
      | true =>
        have hT' : ∀ t ∈ l.take (i + 1), isTh t = true := by
          intro t ht
          rw [htk, List.mem_append, List.mem_singleton] at ht
          rcases ht with ht | rfl
          · exact hT t ht
          · exact hE
        simp only [Bool.not_true, Bool.false_eq_true, if_false]
        cases i with
        | zero =>
          rw [if_neg (by decide), dsucc (by simp only [maxLen]; decide)]
          exact rising_l n l hl m 1 (by omega) (by omega) hT' (by rw [htk, List.take_zero]; exact List.pairwise_singleton _ _)
        | succ i =>
          rw [if_pos (by simp), pred_w' (by omega), ixg l i (by omega)]
          simp only [Option.bind_some]
          by_cases hx : l[i + 1].ID ≤ l[i].ID
          · rw [if_pos (decide_eq_true hx)]
            refine ⟨false, rfl, ⟨fun h => (by cases h), fun h0 => ?_⟩⟩
            have := List.pairwise_iff_getElem.1 h0.2 i (i + 1) (by omega) hlt (by omega)
            omega
          · rw [if_neg (by simp; omega), dsucc (by omega)]
            refine rising_l n l hl m (i + 1 + 1) (by omega) (by omega) hT' ?_
            rw [htk]
            unfold Ris
            rw [List.pairwise_append]
            refine ⟨hR, List.pairwise_singleton _ _, ?_⟩
            intro a ha b hb
            rw [List.mem_singleton] at hb
            subst hb
            have hti : l.take (i + 1) = l.take i ++ [l[i]] := (List.take_append_getElem (by omega)).symm
            unfold Ris at hR
            rw [hti] at ha hR
            rw [List.mem_append, List.mem_singleton] at ha
            rcases ha with ha | rfl
            · have := (List.pairwise_append.1 hR).2.2 a ha l[i] (by simp)
              omega
            · omega
    · have : i = l.length := by omega
      subst this
      rw [if_neg (by rw [ge_dec (by omega)]; decide)]
      rw [List.take_length] at hT hR
      exact ⟨true, rfl, by simp; exact ⟨hT, hR⟩⟩
theorem rising_eq {n : Nat} {l : List Thing} (hl : l.length ≤ maxLen) (hn : l.length ≤ n) : ∃ b, F45 n l = some b ∧ (b = true ↔ (∀ t ∈ l, isTh t = true) ∧ Ris l) :=
  rising_l n l hl (n + 8) 0 (by omega) (by omega) (by simp) (by unfold Ris; simp)
theorem fewE_l (n : Nat) (l : List Event) (hl : l.length ≤ maxLen) : ∀ (m i : Nat), i ≤ l.length → l.length - i < m → ∃ b, F44_l4 n l m (i : Int) = some b ∧ (b = true → l.length ≤ 30)
  | 0, i, _, h => by omega
  | m + 1, i, hi, h => by
    unfold F44_l4
    by_cases hlt : i < l.length
    · rw [if_pos (lt_dec hlt), ixg l i hlt]
      simp only [Option.bind_some, fewU_eq]
      split
      · exact ⟨false, rfl, fun h => (by cases h)⟩
      · split
        · exact ⟨false, rfl, fun h => (by cases h)⟩
        · rw [dsucc (by omega)]
          exact fewE_l n l hl m (i + 1) (by omega) (by omega)
    · rw [if_neg (by rw [ge_dec hlt]; decide)]
      exact ⟨_, rfl, fun h => by simp at h; omega⟩
theorem fewE {n : Nat} {l : List Event} (hl : l.length ≤ maxLen) (hn : l.length ≤ n) : ∃ b, F44 n l = some b ∧ (b = true → l.length ≤ 30) :=
  fewE_l n l hl (n + 8) 0 (by omega) (by omega)
theorem sameAll_l (n : Nat) (l : List Thing) (hl : l.length ≤ 100000) : ∀ (m i : Nat), i ≤ l.length → l.length - i < m → F34_l4 n l l m (i : Int) = some true
  | 0, i, _, h => by omega
  | m + 1, i, hi, h => by
    unfold F34_l4
    by_cases hlt : i < l.length
    · rw [if_pos (lt_dec hlt), ixg l i hlt]
      simp only [Option.bind_some, Thing.eqb_refl, Bool.not_true, Bool.false_eq_true, if_false]
      rw [dsucc (by simp only [maxLen]; omega)]
      exact sameAll_l n l hl m (i + 1) (by omega) (by omega)
    · rw [if_neg (by rw [ge_dec hlt]; decide)]
theorem sameAll {n : Nat} {l : List Thing} (hl : l.length ≤ 100000) (hn : l.length ≤ n) : F34 n l l = some true := by
  unfold F34
  rw [if_neg (by simp)]
  exact sameAll_l n l hl (n + 8) 0 (by omega) (by omega)
theorem j31_ok (n : Nat) (r1 : Int × Int × Int) (e : Event) (sz : Int) (hk : IntKind.wrap .i64 (imin r1.1 4) = e.Kind) (h : isEv e = true) :
    F95_j31 n r1 0 sz e.ID e.Thing.ID e.Thing.At.X e.Thing.At.Y e.Thing.F.a0.N e.Thing.F.a0.Text e.Thing.F.a1.N e.Thing.F.a1.Text e.Thing.F.a2.N e.Thing.F.a2.Text e.Thing.F.a3.N e.Thing.F.a3.Text
      e.Delta.ID e.Delta.Mask e.Delta.At.X e.Delta.At.Y e.Delta.F.a0.N e.Delta.F.a0.Text e.Delta.F.a1.N e.Delta.F.a1.Text e.Delta.F.a2.N e.Delta.F.a2.Text e.Delta.F.a3.N e.Delta.F.a3.Text = some (e, IntKind.wrap .i64 (r1.2.1 + sz), 0) := by
  unfold F95_j31 F95_j34
  rw [hk]
  show (if ((0 : Int) == 0) = true then (F39 n e).bind fun r32 => if (!r32) = true then some (e, IntKind.wrap .i64 (r1.2.1 + sz), (11 : Int)) else some (e, IntKind.wrap .i64 (r1.2.1 + sz), 0) else some (e, IntKind.wrap .i64 (r1.2.1 + sz), 0)) = _
  rw [ev_is, h]
  rfl
theorem fld_of {d : Delta} (h : isD d = true) (hw : d.wf) : Fld d := by
  obtain ⟨_, hm, _, h0, h1, h2, h3⟩ := hw
  have := bounds_u8 hm
  exact ⟨by omega, h, i64_in h0.1, i64_in h1.1, i64_in h2.1, i64_in h3.1⟩
theorem imin4 {k : Int} (h0 : 0 ≤ k) (h : k ≤ 4) : IntKind.wrap .i64 (imin k 4) = k := by
  have : imin k 4 = k := by unfold imin; split <;> omega
  rw [this]; simp [IntKind.wrap, IntKind.bits, IntKind.signed]; omega
theorem one_back {n : Nat} (hn : 10 ≤ n) {e : Event} (h : isEv e = true) (hw : e.wf) (t : ByteArray) (ht : t.size ≤ 80000) : F95 n (evb e ++ t) = some (e, ((evb e).size : Int), 0) := by
  have hz := evr_size h
  have hkk : e.Kind = 1 ∨ e.Kind = 2 ∨ e.Kind = 3 := by
    have h' := h
    unfold isEv at h'
    by_cases h1 : e.Kind = 1
    · exact .inl h1
    · by_cases h2 : e.Kind = 2
      · exact .inr (.inl h2)
      · by_cases h3 : e.Kind = 3
        · exact .inr (.inr h3)
        · simp [h1, h2, h3] at h'
  have hp := pu_size e.Kind
  have hps : pu e.Kind = pt e.Kind := pu_small (by omega) (by omega)
  have hs : evb e ++ t = pt e.Kind ++ (evr e ++ t) := by unfold evb; rw [hps, ba_assoc]
  have hsz : (pt e.Kind ++ (evr e ++ t)).size ≤ 100000 := by rw [← hps]; simp only [ba_size]; omega
  have hw4 := imin4 (k := e.Kind) (by omega) (by omega)
  have hc : 0 ≤ ((pt e.Kind).size : Int) ∧ ((pt e.Kind).size : Int) ≤ ((pt e.Kind ++ (evr e ++ t)).size : Int) := by rw [ba_size]; omega
  have fin : IntKind.wrap .i64 (((pt e.Kind).size : Int) + ((evr e).size : Int)) = ((evb e).size : Int) := by
    unfold evb; rw [hps, ba_size, w64 (by omega) (by rw [← hps]; omega)]; omega
  unfold F95
  rw [hs, get_pt n hn e.Kind (by omega) (by omega) _ hsz]
  simp only [Option.bind_some, bne_self_eq_false, Bool.false_eq_true, if_false, hw4]
  rw [if_pos hc, if_pos hc, if_pos hc, show (((pt e.Kind).size : Int)).toNat = (pt e.Kind).size from rfl, ext_app, ← fin]
  have h' := h
  unfold isEv at h'
  rcases hkk with hk | hk | hk
  · have k1 : (e.Kind == 1) = true := by simp [hk]
    rw [if_pos k1] at h' ⊢
    simp only [Bool.and_eq_true, beq_iff_eq] at h'
    obtain ⟨hT, hid, hd⟩ := h'
    have hd' := (Delta.eqb_iff _ _).1 hd
    have er : evr e = tb e.Thing := by unfold evr; rw [if_pos k1]
    rw [er, read_tb hn hT hw.2.2.1 t (by omega), Option.bind_some]
    have := j31_ok n (e.Kind, ((pt e.Kind).size : Int), 0) e ((tb e.Thing).size : Int) hw4 h
    rw [hd', hid] at this
    exact this
  · have k1 : (e.Kind == 1) = false := by simp [hk]
    have k2 : (e.Kind == 2) = true := by simp [hk]
    rw [k1, k2] at h' ⊢
    simp only [Bool.false_eq_true, if_false, if_true, Bool.and_eq_true, beq_iff_eq] at h' ⊢
    obtain ⟨hD, hid, hT⟩ := h'
    have hT' := (Thing.eqb_iff _ _).1 hT
    have er : evr e = db e.Delta := by unfold evr; rw [k1, k2]; rfl
    rw [er]
    unfold db
    rw [read_back n hn e.Delta (fld_of hD hw.2.2.2) t (by omega), Option.bind_some]
    have := j31_ok n (e.Kind, ((pt e.Kind).size : Int), 0) e ((body (head e.Delta) e.Delta).size : Int) hw4 h
    rw [hT', hid] at this
    exact this
  · have k1 : (e.Kind == 1) = false := by simp [hk]
    have k2 : (e.Kind == 2) = false := by simp [hk]
    have k3 : (e.Kind == 3) = true := by simp [hk]
    rw [k1, k2, k3] at h' ⊢
    simp only [Bool.false_eq_true, if_false, if_true, Bool.and_eq_true, decide_eq_true_eq] at h' ⊢
    obtain ⟨i0, i1, hT, hD⟩ := h'
    have hT' := (Thing.eqb_iff _ _).1 hT
    have hD' := (Delta.eqb_iff _ _).1 hD
    have er : evr e = pt e.ID := by unfold evr; rw [k1, k2]; exact pu_small i0 (by omega)
    have hps3 : (pt e.ID ++ t).size ≤ 100000 := by have := pt_size e.ID; rw [ba_size]; omega
    rw [er, get_pt n hn e.ID i0 (by omega) t hps3, Option.bind_some]
    have hmin : IntKind.wrap .i64 (imin e.ID 1000001) = e.ID := by
      have : imin e.ID 1000001 = e.ID := by unfold imin; split <;> omega
      rw [this]; simp [IntKind.wrap, IntKind.bits, IntKind.signed]; omega
    have := j31_ok n (e.Kind, ((pt e.Kind).size : Int), 0) e ((pt e.ID).size : Int) hw4 h
    rw [hT', hD'] at this
    rw [hmin]
    exact this
theorem rd_l {n : Nat} (hn : 10 ≤ n) (l : List Event) (hl : l.length ≤ 100) (hE : ∀ e ∈ l, isEv e = true) (hW : ∀ e ∈ l, e.wf) (t : ByteArray) (ht : t.size ≤ 50) (r1 : Int × Int × Int) (h1 : r1.1 = (l.length : Int)) (s : ByteArray) : ∀ (m i : Nat) (A : ByteArray), i ≤ l.length → l.length - i < m → A.size ≤ 10 + 290 * i → s = A ++ (catE (l.drop i) ++ t) →
    F54_l11 n s r1 m (A.size : Int) (l.take i) (i : Int) = some (l, ((A ++ catE (l.drop i)).size : Int), 0)
  | 0, i, _, _, h, _, _ => by omega
  | m + 1, i, A, hi, hm, hA, hs => by
    have hmc : (100000 : Nat) * 300 ≤ maxCells := by simp only [maxCells]; decide
    unfold F54_l11
    by_cases h : i < l.length
    · have he := hE l[i] (List.getElem_mem h)
      have hcz := catE_size (l.drop (i + 1)) fun e he => hE e (List.mem_of_mem_drop he)
      have hez := evb_size he
      rw [List.length_drop] at hcz
      have hs2 : s = A ++ (evb l[i] ++ (catE (l.drop (i + 1)) ++ t)) := by rw [hs, dropS l i h, catE]; simp only [ba_assoc]
      have hc : 0 ≤ (A.size : Int) ∧ (A.size : Int) ≤ (s.size : Int) := by rw [hs2, ba_size]; omega
      have htk : (l.take i).length = i := by rw [List.length_take]; omega
      rw [h1, if_pos (lt_dec h), if_pos hc, show ((A.size : Int)).toNat = A.size from rfl]
      conv => lhs; rw [hs2]
      rw [ext_app, one_back hn he (hW _ (List.getElem_mem h)) _ (by rw [ba_size]; omega)]
      simp only [Option.bind_some, bne_self_eq_false, Bool.false_eq_true, if_false]
      rw [htk, if_pos ⟨by omega, by omega⟩, w64 (by omega) (by omega)]
      have w : IntKind.wrap .u64 ((i : Int) + 1) = ((i + 1 : Nat) : Int) := by simp [IntKind.wrap, IntKind.bits, IntKind.signed]; omega
      rw [w, List.take_append_getElem h, show (A.size : Int) + ((evb l[i]).size : Int) = ((A ++ evb l[i]).size : Int) from by rw [ba_size]; omega]
      have := rd_l hn l hl hE hW t ht r1 h1 s m (i + 1) (A ++ evb l[i]) (by omega) (by omega) (by rw [ba_size]; omega) (by rw [hs2]; simp only [ba_assoc])
      rw [hs2] at this
      rw [this, dropS l i h, catE]
      simp only [ba_assoc]
    · have : i = l.length := by omega
      subst this
      rw [h1, if_neg (by simp), List.take_length, List.drop_length, catE, show A ++ ByteArray.empty = A from by apply ba_ext; simp [ByteArray.data_append]]
theorem read_evs {n : Nat} (hn : 10 ≤ n) (hn2 : 100 ≤ n) {l : List Event} (hl : l.length ≤ 100) (hE : ∀ e ∈ l, isEv e = true) (hW : ∀ e ∈ l, e.wf) (t : ByteArray) (ht : t.size ≤ 50) : F54 n ((pu (l.length : Int) ++ catE l) ++ t) = some (l, ((pu (l.length : Int) ++ catE l).size : Int), 0) := by
  have hp := pu_size (l.length : Int)
  have hc := catE_size l hE
  have hps : pu (l.length : Int) = pt (l.length : Int) := pu_small (by omega) (by omega)
  unfold F54
  rw [ba_assoc, hps, get_pt n hn (l.length : Int) (by omega) (by omega) _ (by rw [← hps]; simp only [ba_size]; omega)]
  simp only [Option.bind_some, bne_self_eq_false, Bool.false_eq_true, if_false]
  rw [if_neg (by simp; omega)]
  have := rd_l hn l hl hE hW t ht ((l.length : Int), ((pt (l.length : Int)).size : Int), 0) rfl (pt (l.length : Int) ++ (catE l ++ t)) (n + 8) 0 (pt (l.length : Int)) (by omega) (by omega) (by rw [← hps]; omega) (by rw [List.drop_zero])
  rw [List.drop_zero, List.take_zero] at this
  exact this
theorem sameR_l (n : Nat) (l : List Event) (hl : l.length ≤ 5000) : ∀ (m i : Nat), i ≤ l.length → l.length - i < m → F50_l4 n l l m (i : Int) = some true
  | 0, i, _, h => by omega
  | m + 1, i, hi, hm => by
    unfold F50_l4
    by_cases h : i < l.length
    · rw [if_pos (lt_dec h), ixg l i h]
      simp only [Option.bind_some, Event.eqb_refl, Bool.not_true, Bool.false_eq_true, if_false]
      rw [dsucc (by simp only [maxLen]; omega)]
      exact sameR_l n l hl m (i + 1) (by omega) (by omega)
    · rw [if_neg (by rw [ge_dec h]; decide)]
theorem sameR {n : Nat} {l : List Event} (hl : l.length ≤ 5000) (hn : l.length ≤ n) : F50 n l l = some true := by
  unfold F50
  rw [if_neg (by simp)]
  exact sameR_l n l hl (n + 8) 0 (by omega) (by omega)
theorem fld_no (l0 : List Thing) : ∀ (es : List Event) (l : List Thing), (fld l0 l es).2 = false → (fld l0 l es).1 = l0
  | [], l, h => by cases h
  | e :: es, l, h => by
    unfold fld at h ⊢
    split at h
    · rename_i h2; rw [if_pos h2]; exact fld_no l0 es _ h
    · rename_i h2; rw [if_neg h2]
theorem back_j {n : Nat} (hn : 10000 ≤ n) {es : List Event} (hes : es.length ≤ 30) (hW : ∀ e ∈ es, e.wf) {t : ByteArray} (ht : t.size ≤ 50) : F12_j11 n es t = some true := by
  unfold F12_j11
  rw [evs_bytes (by omega) (by omega) (by omega)]
  unfold evsB
  rw [Option.bind_some]
  cases hA : es.all isEv with
  | false => simp
  | true =>
    have hE := List.all_eq_true.1 hA
    have hc := catE_size es hE
    have hp := pu_size (es.length : Int)
    have h4 : ¬ 400 < es.length := by omega
    simp only [Bool.true_eq_false, if_false, if_neg h4, bne_self_eq_false, Bool.false_eq_true]
    rw [if_pos (by rw [ba_size]; omega), read_evs (by omega) (by omega) (by omega) hE hW t ht]
    simp only [Option.bind_some, BEq.rfl, if_true]
    rw [sameR (by omega) (by omega)]
    rfl
theorem eventBack_pure (a0 : List Thing) (a1 : List Event) (a2 : ByteArray) (h0 : (∀ x ∈ a0, Thing.wf x) ∧ a0.length ≤ maxLen) (h1 : (∀ x ∈ a1, Event.wf x) ∧ a1.length ≤ maxLen) (_ : a2.size ≤ maxLen) : ∃ n, F12 n a0 a1 a2 = some true := by
  refine ⟨a0.length + a1.length + 10000, ?_⟩
  have hn : 10000 ≤ a0.length + a1.length + 10000 := by omega
  obtain ⟨b0, f0, g0⟩ := fewsU (n := a0.length + a1.length + 10000) h0.2 (by omega)
  obtain ⟨b1, f1, g1⟩ := fewE (n := a0.length + a1.length + 10000) h1.2 (by omega)
  obtain ⟨b3, f3, g3⟩ := rising_eq (n := a0.length + a1.length + 10000) h0.2 (by omega)
  generalize a0.length + a1.length + 10000 = n at *
  have hmc : (100000 : Nat) * 300 ≤ maxCells := by simp only [maxCells]; decide
  have hml : (100000 : Nat) ≤ maxLen := by simp only [maxLen]; decide
  unfold F12
  simp only [Option.bind_some, Bool.not_true, Bool.false_eq_true, if_false, f0, f1, f3]
  cases b0 with
  | false => rfl
  | true =>
    cases b1 with
    | false => rfl
    | true =>
      cases b3 with
      | false => rfl
      | true =>
        have l0 := g0 rfl; have l1 := g1 rfl
        obtain ⟨hT, hR⟩ := g3.1 rfl
        simp only [Bool.not_true, Bool.false_eq_true, if_false]
        by_cases ht : a2.size ≤ 50
        · rw [if_neg (by simp; omega), if_pos ⟨by omega, by omega⟩, fold_eq a1 (by omega) (by omega) hn hR]
          obtain ⟨k1, k2, k3⟩ := fld_good a0 hR hT 60 (by omega) a1 a0 hR hT (by omega)
          obtain ⟨b, r1, r2⟩ := rising_eq (n := n) (l := (fld a0 a0 a1).1) (by omega) (by omega)
          have hb : b = true := r2.2 ⟨k2, k1⟩
          subst hb
          have hj := back_j hn l1 h1.1 ht
          have hs := sameAll (n := n) (l := a0) (by omega) (by omega)
          simp only [Option.bind_some]
          cases hf : (fld a0 a0 a1).2 with
          | true =>
            simp only [Bool.not_true, Bool.false_eq_true, if_false, hs, Option.bind_some, r1]
            exact hj
          | false =>
            have hno := fld_no a0 a1 a0 hf
            rw [hno] at r1
            simp only [Bool.not_false, if_true, hno, hs, Option.bind_some, Bool.not_true, Bool.false_eq_true, if_false, r1]
            exact hj
        · rw [if_pos (by simp; omega)]

end Go.Proofs.Ytobeamaaifgllaa
