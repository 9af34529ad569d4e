/-
  The bytes of deltas. No condition.
-/
import Derived.Test.YtobeamaaifgllaaThingManyTb
import Derived.Test.YtobeamaaifgllaaThingManyP1
namespace Go.Proofs.Ytobeamaaifgllaa
open Go Go.Rx
set_option maxRecDepth 100000
set_option linter.unusedSimpArgs false
set_option linter.unnecessarySimpa false
set_option linter.unusedVariables false

theorem shr7 (x : Int) : shrI .u64 x 7 = x / 128 := by
  show Int.fdiv x 128 = x / 128
  exact Int.fdiv_eq_ediv_of_nonneg x (by decide)
theorem wrap_u64 (x : Int) : IntKind.wrap .u64 x = x % 18446744073709551616 := by simp [IntKind.wrap, IntKind.bits, IntKind.signed]
theorem wrap_u8 (x : Int) : IntKind.wrap .u8 x = x % 256 := by simp [IntKind.wrap, IntKind.bits, IntKind.signed]
theorem and127 {x : Int} (h0 : 0 ≤ x) (h1 : x < 18446744073709551616) : bitsI .and .u64 x 127 = x % 128 := by
  obtain ⟨k, rfl⟩ := Int.eq_ofNat_of_zero_le h0
  have e1 : (BitVec.ofInt 64 (k : Int)).toNat = k := by simp; omega
  have e2 : (BitVec.ofInt 64 (127 : Int)).toNat = 127 := rfl
  have e3 : k &&& 127 = k % 128 := Nat.and_two_pow_sub_one_eq_mod k 7
  show IntKind.wrap .u64 (((BitVec.ofInt 64 (k : Int) &&& BitVec.ofInt 64 (127 : Int)).toNat : Nat) : Int) = _
  rw [BitVec.toNat_and, e1, e2, e3, wrap_u64]
  omega
def ch (x : Int) : Int := bitsI .or .u8 (IntKind.wrap .u8 x) 128
theorem ch_fin : ∀ k : Fin 256, bitsI .or .u8 ((k.val : Int) % 128) 128 = bitsI .or .u8 (k.val : Int) 128 := by decide +kernel
theorem ch_ref {x : Int} (h0 : 0 ≤ x) (h1 : x < 18446744073709551616) : bitsI .or .u8 (IntKind.wrap .u8 (bitsI .and .u64 x 127)) 128 = ch x := by
  rw [and127 h0 h1, ch, wrap_u8, wrap_u8]
  have := ch_fin ⟨(x % 256).toNat, by omega⟩
  simp only at this
  have e : (((x % 256).toNat : Nat) : Int) = x % 256 := by omega
  rw [e] at this
  rw [← this]
  congr 1
  omega

theorem push_data (l : List Int) : ∀ s : ByteArray, (l.foldl (fun r n => r.push (UInt8.ofNat n.toNat)) s).data = s.data ++ (l.map fun n => UInt8.ofNat n.toNat).toArray := by
  induction l with
  | nil => intro s; simp
  | cons a l ih => intro s; simp only [List.foldl_cons, ih, List.map_cons]; cases s; simp [ByteArray.push]
theorem mkStr_data (l : List Int) : (mkStr l).data = (l.map fun n => UInt8.ofNat n.toNat).toArray := by
  unfold mkStr
  rw [push_data]
  show (#[] : Array UInt8) ++ _ = _
  simp
theorem mkStr_size (l : List Int) : (mkStr l).size = l.length := by
  show (mkStr l).data.size = _
  rw [mkStr_data]; simp
theorem ba_ext {a b : ByteArray} (h : a.data = b.data) : a = b := by cases a; cases b; simp only at h; rw [h]
theorem mkStr_app (a b : List Int) : mkStr (a ++ b) = mkStr a ++ mkStr b := by
  apply ba_ext
  rw [ByteArray.data_append, mkStr_data, mkStr_data, mkStr_data]; simp
theorem ba_assoc (a b c : ByteArray) : a ++ b ++ c = a ++ (b ++ c) := by
  apply ba_ext
  simp [ByteArray.data_append, Array.append_assoc]
theorem ba_size (a b : ByteArray) : (a ++ b).size = a.size + b.size := by
  show (a ++ b).data.size = _
  rw [ByteArray.data_append, Array.size_append]
  rfl
theorem ba_nil (a : ByteArray) : ByteArray.empty ++ a = a := by
  apply ba_ext
  rw [ByteArray.data_append]
  show (#[] : Array UInt8) ++ _ = _
  simp

def putL : Nat → Int → List Int
  | 0, _ => []
  | k + 1, x => if 128 ≤ x then ch x :: putL k (x / 128) else [IntKind.wrap .u8 x]
theorem putL_len : ∀ (k : Nat) (x : Int), (putL (k + 1) x).length ≤ k + 1 ∧ 1 ≤ (putL (k + 1) x).length
  | 0, x => by unfold putL; split <;> simp [putL]
  | k + 1, x => by
    have := putL_len k (x / 128)
    unfold putL
    split
    · simp only [List.length_cons]; omega
    · simp
theorem putL_one {k : Nat} {x : Int} (h : x < 128) : (putL (k + 1) x).length = 1 := by
  unfold putL; rw [if_neg (by omega)]; rfl
theorem put_l (n : Nat) : ∀ (k m : Nat) (x : Int) (l : List Int), 1 ≤ k → 0 ≤ x → x < 128 ^ k → k < m → l.length + k ≤ 1000 → F65_l7 n m x l = some (mkStr (l ++ putL k x))
  | 0, m, x, l, hk, h0, h1, _, _ => by omega
  | k + 1, 0, x, l, _, _, _, h, _ => by omega
  | k + 1, m + 1, x, l, _, h0, h1, h2, h3 => by
    have hc : (l.length + 1) * 1 ≤ maxCells ∧ l.length + 1 ≤ maxCells := by simp only [maxCells]; omega
    unfold F65_l7 putL
    by_cases h : 128 ≤ x
    · have hx : x / 128 < 128 ^ k := by
        rw [Int.pow_succ] at h1
        exact Int.ediv_lt_of_lt_mul (by decide) h1
      simp only [h, decide_true, if_true, if_pos hc, shr7]
      have hk : 1 ≤ k := by
        cases k with
        | zero => simp at h1; omega
        | succ k => omega
      rw [put_l n k m (x / 128) _ hk (by omega) hx (by omega) (by simp only [List.length_append, List.length_cons, List.length_nil]; omega)]
      simp only [List.append_assoc, List.cons_append, List.nil_append]
      rfl
    · simp only [h, decide_false, Bool.false_eq_true, if_false]
      rw [if_pos hc]
theorem pow10 {x : Int} (h : x < 18446744073709551616) : x < 128 ^ 10 := by
  have : (128 : Int) ^ 10 = 1180591620717411303424 := by decide
  rw [this]; omega
def pt (x : Int) : ByteArray := mkStr (putL 10 x)
theorem pt_size (x : Int) : (pt x).size ≤ 10 ∧ 1 ≤ (pt x).size := by
  rw [pt, mkStr_size]; exact putL_len 9 x
theorem pt_one {x : Int} (h : x < 128) : (pt x).size = 1 := by rw [pt, mkStr_size]; exact putL_one h
theorem put_eq {n : Nat} (hn : 10 ≤ n) {x : Int} (h0 : 0 ≤ x) (h1 : x < 18446744073709551616) : F65 n x = some (pt x) := by
  unfold F65
  rw [put_l n 10 (n + 8) x [] (by omega) h0 (pow10 h1) (by omega) (by simp)]
  rfl
theorem rput_l (n : Nat) : ∀ (k m : Nat) (x : Int) (s : ByteArray), 1 ≤ k → 0 ≤ x → x < 18446744073709551616 → x < 128 ^ k → k < m → s.size + k ≤ 1000 → F60_l7 n m x s = some (s ++ mkStr (putL k x))
  | 0, m, x, l, hk, h0, _, h1, _, _ => by omega
  | k + 1, 0, x, l, _, _, _, _, h, _ => by omega
  | k + 1, m + 1, x, s, _, h0, hx64, h1, h2, h3 => by
    unfold F60_l7 putL
    by_cases h : 128 ≤ x
    · have hx : x / 128 < 128 ^ k := by
        rw [Int.pow_succ] at h1
        exact Int.ediv_lt_of_lt_mul (by decide) h1
      have hd : decide (x < 128) = false := by simp; omega
      have hc : s.size + (mkStr [ch x]).size ≤ 9223372036854775807 := by rw [mkStr_size]; simp only [List.length_cons, List.length_nil]; omega
      simp only [hd, Bool.false_eq_true, if_false, ch_ref h0 hx64, if_pos hc, shr7, if_pos h]
      have hk : 1 ≤ k := by
        cases k with
        | zero => simp at h1; omega
        | succ k => omega
      rw [rput_l n k m (x / 128) _ hk (by omega) (by omega) hx (by omega) (by rw [ba_size, mkStr_size]; simp only [List.length_cons, List.length_nil]; omega), ba_assoc, ← mkStr_app]
      rfl
    · have hd : decide (x < 128) = true := by simp; omega
      have hc : s.size + (mkStr [IntKind.wrap .u8 x]).size ≤ 9223372036854775807 := by rw [mkStr_size]; simp only [List.length_cons, List.length_nil]; omega
      simp only [hd, if_true, if_pos hc, if_neg h]
theorem rput_eq {n : Nat} (hn : 10 ≤ n) {x : Int} (h0 : 0 ≤ x) (h1 : x < 18446744073709551616) : F60 n x = some (pt x) := by
  unfold F60
  rw [rput_l n 10 (n + 8) x ByteArray.empty (by omega) h0 h1 (pow10 h1) (by omega) (by show 0 + 10 ≤ 1000; omega), ba_nil]
  rfl
theorem u64_in (x : Int) : 0 ≤ IntKind.wrap .u64 x ∧ IntKind.wrap .u64 x < 18446744073709551616 := by rw [wrap_u64]; omega
def pu (x : Int) : ByteArray := pt (IntKind.wrap .u64 x)
theorem pu_eq {n : Nat} (hn : 10 ≤ n) (x : Int) : F65 n (IntKind.wrap .u64 x) = some (pu x) := put_eq hn (u64_in x).1 (u64_in x).2
theorem rpu_eq {n : Nat} (hn : 10 ≤ n) (x : Int) : F60 n (IntKind.wrap .u64 x) = some (pu x) := rput_eq hn (u64_in x).1 (u64_in x).2
theorem pu_size (x : Int) : (pu x).size ≤ 10 ∧ 1 ≤ (pu x).size := pt_size _
def tx (s : ByteArray) : ByteArray := pu (s.size : Int) ++ s
theorem tx_eq {n : Nat} (hn : 10 ≤ n) {s : ByteArray} (h : s.size ≤ 1000) : F100 n s = some (tx s) := by
  unfold F100
  have := pu_size (s.size : Int)
  rw [pu_eq hn]
  simp only [Option.bind_some]
  rw [if_pos (by omega)]; rfl
theorem rtx_eq {n : Nat} (hn : 10 ≤ n) {s : ByteArray} (h : s.size ≤ 1000) : F61 n s = some (tx s) := by
  unfold F61
  have := pu_size (s.size : Int)
  rw [rpu_eq hn]
  simp only [Option.bind_some]
  rw [if_pos (by omega)]; rfl
theorem tx_size (s : ByteArray) : (tx s).size ≤ 10 + s.size ∧ 1 + s.size ≤ (tx s).size := by
  have := pu_size (s.size : Int)
  rw [tx, ba_size]; omega
theorem xor_in (a b : Int) : 0 ≤ bitsI .xor .u64 a b ∧ bitsI .xor .u64 a b < 18446744073709551616 := u64_in _
def zg (x : Int) : ByteArray := pt (bitsI .xor .u64 (shlI .u64 (IntKind.wrap .u64 x) 1) (IntKind.wrap .u64 (shrI .i64 x 63)))
theorem zg_eq {n : Nat} (hn : 10 ≤ n) (x : Int) : F101 n x = some (zg x) := by
  unfold F101 F114
  simp only [Option.bind_some]
  rw [put_eq hn (xor_in _ _).1 (xor_in _ _).2]
  rfl
theorem rzg_eq {n : Nat} (hn : 10 ≤ n) (x : Int) : F62 n x = some (zg x) := by
  unfold F62 F98
  simp only [Option.bind_some]
  rw [rput_eq hn (xor_in _ _).1 (xor_in _ _).2]
  rfl

def isE (s : ByteArray) : Bool := s.toList == ByteArray.empty.toList
def stage (s : ByteArray) (f : Field) (e : Bool) : ByteArray := if e then (if isE f.Text then s ++ tx f.Text ++ zg f.N else s ++ tx f.Text) else s
theorem stage_size (s : ByteArray) (f : Field) (e : Bool) (h : f.Text.size ≤ 40) : (stage s f e).size ≤ s.size + 60 := by
  have := tx_size f.Text
  have := pt_size (bitsI .xor .u64 (shlI .u64 (IntKind.wrap .u64 f.N) 1) (IntKind.wrap .u64 (shrI .i64 f.N 63)))
  have hz : (zg f.N).size ≤ 10 := this.1
  unfold stage
  split
  · split
    · rw [ba_size, ba_size]; omega
    · rw [ba_size]; omega
  · omega
theorem stg {α : Type} {n : Nat} (hn : 10 ≤ n) (s : ByteArray) (f : Field) (e : Bool) (h1 : s.size ≤ 1000) (h2 : f.Text.size ≤ 40) (K : ByteArray → Option α) :
    (if (!e) = true then K s else (F100 n f.Text).bind fun r => if s.size + r.size ≤ 9223372036854775807 then if (f.Text.toList == ByteArray.empty.toList) = true then (F101 n f.N).bind fun r2 => if (s ++ r).size + r2.size ≤ 9223372036854775807 then K ((s ++ r) ++ r2) else none else K (s ++ r) else none) = K (stage s f e) := by
  have a1 := tx_size f.Text
  have hz : (zg f.N).size ≤ 10 := (pt_size _).1
  cases e with
  | false => rfl
  | true =>
    simp only [Bool.not_true, Bool.false_eq_true, if_false, tx_eq hn (show f.Text.size ≤ 1000 by omega), zg_eq hn, Option.bind_some]
    rw [if_pos (by omega)]
    unfold stage isE
    cases f.Text.toList == ByteArray.empty.toList with
    | false => rfl
    | true =>
      simp only [if_true]
      rw [if_pos (by rw [ba_size]; omega)]
theorem rstg {α : Type} {n : Nat} (hn : 10 ≤ n) (s : ByteArray) (f : Field) (e : Bool) (h1 : s.size ≤ 1000) (h2 : f.Text.size ≤ 40) (K : ByteArray → Option α) :
    (if e = true then (F61 n f.Text).bind fun r => if s.size + r.size ≤ 9223372036854775807 then if (f.Text.toList == ByteArray.empty.toList) = true then (F62 n f.N).bind fun r2 => if (s ++ r).size + r2.size ≤ 9223372036854775807 then K ((s ++ r) ++ r2) else none else K (s ++ r) else none else K s) = K (stage s f e) := by
  have a1 := tx_size f.Text
  have hz : (zg f.N).size ≤ 10 := (pt_size _).1
  cases e with
  | false => rfl
  | true =>
    simp only [if_true, rtx_eq hn (show f.Text.size ≤ 1000 by omega), rzg_eq hn, Option.bind_some]
    rw [if_pos (by omega)]
    unfold stage isE
    cases f.Text.toList == ByteArray.empty.toList with
    | false => rfl
    | true =>
      simp only [if_true]
      rw [if_pos (by rw [ba_size]; omega)]
def head (d : Delta) : ByteArray := if a1 d then (pu d.ID ++ pu d.Mask) ++ (pu d.At.X ++ pu d.At.Y) else pu d.ID ++ pu d.Mask
def body (s : ByteArray) (d : Delta) : ByteArray := stage (stage (stage (stage s d.F.a0 (hs d.Mask 1)) d.F.a1 (hs d.Mask 2)) d.F.a2 (hs d.Mask 3)) d.F.a3 (hs d.Mask 4)
def Few (d : Delta) : Prop := d.F.a0.Text.size ≤ 40 ∧ d.F.a1.Text.size ≤ 40 ∧ d.F.a2.Text.size ≤ 40 ∧ d.F.a3.Text.size ≤ 40
theorem body_eq {n : Nat} (hn : 10 ≤ n) (d : Delta) (hf : Few d) (s : ByteArray) (h : s.size ≤ 100) : F63_j7 n d s = some (body s d, 0) := by
  obtain ⟨f0, f1, f2, f3⟩ := hf
  have z1 := stage_size s d.F.a0 (hs d.Mask 1) f0
  have z2 := stage_size (stage s d.F.a0 (hs d.Mask 1)) d.F.a1 (hs d.Mask 2) f1
  have z3 := stage_size (stage (stage s d.F.a0 (hs d.Mask 1)) d.F.a1 (hs d.Mask 2)) d.F.a2 (hs d.Mask 3) f2
  unfold F63_j7
  simp only [has0, Option.bind_some]
  rw [stg hn s d.F.a0 _ (by omega) f0 (fun s => F63_u12 n d s)]
  unfold F63_u12
  simp only [has1, Option.bind_some]
  rw [stg hn _ d.F.a1 _ (by omega) f1 (fun s => F63_u17 n d s)]
  unfold F63_u17
  simp only [has2, Option.bind_some]
  rw [stg hn _ d.F.a2 _ (by omega) f2 (fun s => F63_u22 n d s)]
  unfold F63_u22
  simp only [has3, Option.bind_some]
  rw [stg hn _ d.F.a3 _ (by omega) f3 (fun s => F63_u27 n s)]
  rfl
theorem bne_hs {m : Int} (hw : (Lit.int .u8 m).wf = true) : (bitsI .and .u8 (shrI .u8 m 1) 1 != 0) = hs m 1 ∧ (bitsI .and .u8 (shrI .u8 m 2) 1 != 0) = hs m 2 ∧ (bitsI .and .u8 (shrI .u8 m 3) 1 != 0) = hs m 3 ∧ (bitsI .and .u8 (shrI .u8 m 4) 1 != 0) = hs m 4 := by
  obtain ⟨k1, k2, k3, k4⟩ := hs_no hw
  simp only [bne, k1, k2, k3, k4, Bool.not_not, and_self]
theorem rbody_eq {n : Nat} (hn : 10 ≤ n) (d : Delta) (hw : (Lit.int .u8 d.Mask).wf = true) (hf : Few d) (s : ByteArray) (h : s.size ≤ 100) : F19_j6 n d s = some (body s d) := by
  obtain ⟨f0, f1, f2, f3⟩ := hf
  obtain ⟨k1, k2, k3, k4⟩ := bne_hs hw
  have z1 := stage_size s d.F.a0 (hs d.Mask 1) f0
  have z2 := stage_size (stage s d.F.a0 (hs d.Mask 1)) d.F.a1 (hs d.Mask 2) f1
  have z3 := stage_size (stage (stage s d.F.a0 (hs d.Mask 1)) d.F.a1 (hs d.Mask 2)) d.F.a2 (hs d.Mask 3) f2
  unfold F19_j6
  rw [k1, rstg hn s d.F.a0 _ (by omega) f0 (fun s => F19_u10 n d s)]
  unfold F19_u10
  rw [k2, rstg hn _ d.F.a1 _ (by omega) f1 (fun s => F19_u14 n d s)]
  unfold F19_u14
  rw [k3, rstg hn _ d.F.a2 _ (by omega) f2 (fun s => F19_u18 n d s)]
  unfold F19_u18
  rw [k4, rstg hn _ d.F.a3 _ (by omega) f3 (fun s => F19_u22 n s)]
  rfl
theorem head_size (d : Delta) : (head d).size ≤ 40 := by
  have p1 := pu_size d.ID; have p2 := pu_size d.Mask; have p3 := pu_size d.At.X; have p4 := pu_size d.At.Y
  unfold head
  split
  · rw [ba_size, ba_size, ba_size]; omega
  · rw [ba_size]; omega
theorem bytes_eq {n : Nat} (hn : 10 ≤ n) (d : Delta) (hf : Few d) : F63 n d = some (if isD d then (body (head d) d, 0) else (ByteArray.empty, 11)) := by
  have p1 := pu_size d.ID; have p2 := pu_size d.Mask; have p3 := pu_size d.At.X; have p4 := pu_size d.At.Y
  have hh := head_size d
  unfold F63
  simp only [isD_eq, Option.bind_some, pu_eq hn]
  cases hd : isD d with
  | false => simp
  | true =>
    simp only [Bool.not_true, Bool.false_eq_true, if_false, if_true]
    rw [if_pos (by omega)]
    unfold head at hh ⊢
    cases h1 : a1 d with
    | false =>
      have h1' : (bitsI .and .u8 d.Mask 1 != 0) = false := h1
      rw [h1] at hh
      simp only [h1', Bool.false_eq_true, if_false] at hh ⊢
      exact body_eq hn d hf _ (by omega)
    | true =>
      have h1' : (bitsI .and .u8 d.Mask 1 != 0) = true := h1
      rw [h1] at hh
      simp only [h1', if_true] at hh ⊢
      rw [if_pos (by omega), if_pos (by rw [ba_size, ba_size]; omega)]
      exact body_eq hn d hf _ (by omega)
theorem rbytes_eq {n : Nat} (hn : 10 ≤ n) (d : Delta) (hw : (Lit.int .u8 d.Mask).wf = true) (hf : Few d) : F19 n d = some (body (head d) d) := by
  have p1 := pu_size d.ID; have p2 := pu_size d.Mask; have p3 := pu_size d.At.X; have p4 := pu_size d.At.Y
  have hh := head_size d
  unfold F19
  simp only [Option.bind_some, rpu_eq hn]
  rw [if_pos (by omega)]
  unfold head at hh ⊢
  cases h1 : a1 d with
  | false =>
    have h1' : (bitsI .and .u8 d.Mask 1 != 0) = false := h1
    rw [h1] at hh
    simp only [h1', Bool.false_eq_true, if_false] at hh ⊢
    exact rbody_eq hn d hw hf _ (by omega)
  | true =>
    have h1' : (bitsI .and .u8 d.Mask 1 != 0) = true := h1
    rw [h1] at hh
    simp only [h1', if_true] at hh ⊢
    rw [if_pos (by rw [ba_size]; omega), if_pos (by rw [ba_size, ba_size]; omega), ba_assoc]
    exact rbody_eq hn d hw hf _ (by omega)

end Go.Proofs.Ytobeamaaifgllaa
