/-
  What the law says, in plain Lean. No condition.
-/
import Derived.Test.YthmbegagkgdopaaCmdReadsV
import Derived.Test.YthmbegagkgdopaaCmdReadsP1
namespace Go.Proofs.Ythmbegagkgdopaa
open Go Go.Rx
set_option maxRecDepth 100000
set_option linter.unusedVariables false
set_option linter.unusedSimpArgs false
set_option linter.unnecessarySimpa false
theorem shr7 (x : Int) : shrI .u64 x 7 = x / 128 := by
  show Int.fdiv x 128 = x / 128
  exact Int.fdiv_eq_ediv_of_nonneg x (by decide)
theorem wrap_u64 (x : Int) : IntKind.wrap .u64 x = x % 18446744073709551616 := by simp [IntKind.wrap, IntKind.bits, IntKind.signed]
def ch (x : Int) : Int := bitsI .or .u8 (IntKind.wrap .u8 x) 128
theorem push_data (l : List Int) : ∀ s : ByteArray, (l.foldl (fun r n => r.push (UInt8.ofNat n.toNat)) s).data = s.data ++ (l.map fun n => UInt8.ofNat n.toNat).toArray := by
  induction l with
  | nil => intro s; simp
  | cons a l ih => intro s; simp only [List.foldl_cons, ih, List.map_cons]; cases s; simp [ByteArray.push]
theorem mkStr_data (l : List Int) : (mkStr l).data = (l.map fun n => UInt8.ofNat n.toNat).toArray := by
  unfold mkStr
  rw [push_data]
  show (#[] : Array UInt8) ++ _ = _
  simp
theorem mkStr_size (l : List Int) : (mkStr l).size = l.length := by
  show (mkStr l).data.size = _
  rw [mkStr_data]; simp
theorem ba_ext {a b : ByteArray} (h : a.data = b.data) : a = b := by cases a; cases b; simp only at h; rw [h]
theorem ba_assoc (a b c : ByteArray) : a ++ b ++ c = a ++ (b ++ c) := by
  apply ba_ext
  simp [ByteArray.data_append, Array.append_assoc]
theorem ba_size (a b : ByteArray) : (a ++ b).size = a.size + b.size := by
  show (a ++ b).data.size = _
  rw [ByteArray.data_append, Array.size_append]
  rfl
def putL : Nat → Int → List Int
  | 0, _ => []
  | k + 1, x => if 128 ≤ x then ch x :: putL k (x / 128) else [IntKind.wrap .u8 x]
theorem putL_len : ∀ (k : Nat) (x : Int), (putL (k + 1) x).length ≤ k + 1 ∧ 1 ≤ (putL (k + 1) x).length
  | 0, x => by unfold putL; split <;> simp [putL]
  | k + 1, x => by
    have := putL_len k (x / 128)
    unfold putL
    split
    · simp only [List.length_cons]; omega
    · simp
theorem put_l (n : Nat) : ∀ (k m : Nat) (x : Int) (l : List Int), 1 ≤ k → 0 ≤ x → x < 128 ^ k → k < m → l.length + k ≤ 1000 → F42_l7 n m x l = some (mkStr (l ++ putL k x))
  | 0, m, x, l, hk, h0, h1, _, _ => by omega
  | k + 1, 0, x, l, _, _, _, h, _ => by omega
  | k + 1, m + 1, x, l, _, h0, h1, h2, h3 => by
    have hc : (l.length + 1) * 1 ≤ maxCells ∧ l.length + 1 ≤ maxCells := by simp only [maxCells]; omega
    unfold F42_l7 putL
    by_cases h : 128 ≤ x
    · have hx : x / 128 < 128 ^ k := by
        rw [Int.pow_succ] at h1
        exact Int.ediv_lt_of_lt_mul (by decide) h1
      simp only [h, decide_true, if_true, if_pos hc, shr7]
      have hk : 1 ≤ k := by
        cases k with
        | zero => simp at h1; omega
        | succ k => omega
      rw [put_l n k m (x / 128) _ hk (by omega) hx (by omega) (by simp only [List.length_append, List.length_cons, List.length_nil]; omega)]
      simp only [List.append_assoc, List.cons_append, List.nil_append]
      rfl
    · simp only [h, decide_false, Bool.false_eq_true, if_false]
      rw [if_pos hc]
theorem pow10 {x : Int} (h : x < 18446744073709551616) : x < 128 ^ 10 := by
  have : (128 : Int) ^ 10 = 1180591620717411303424 := by decide
  rw [this]; omega
def pt (x : Int) : ByteArray := mkStr (putL 10 x)
theorem pt_size (x : Int) : (pt x).size ≤ 10 ∧ 1 ≤ (pt x).size := by
  rw [pt, mkStr_size]; exact putL_len 9 x
theorem put_eq {n : Nat} (hn : 10 ≤ n) {x : Int} (h0 : 0 ≤ x) (h1 : x < 18446744073709551616) : F42 n x = some (pt x) := by
  unfold F42
  rw [put_l n 10 (n + 8) x [] (by omega) h0 (pow10 h1) (by omega) (by simp)]
  rfl
theorem u64_in (x : Int) : 0 ≤ IntKind.wrap .u64 x ∧ IntKind.wrap .u64 x < 18446744073709551616 := by rw [wrap_u64]; omega
def pu (x : Int) : ByteArray := pt (IntKind.wrap .u64 x)
theorem pu_eq {n : Nat} (hn : 10 ≤ n) (x : Int) : F42 n (IntKind.wrap .u64 x) = some (pu x) := put_eq hn (u64_in x).1 (u64_in x).2
theorem pu_size (x : Int) : (pu x).size ≤ 10 ∧ 1 ≤ (pu x).size := pt_size _
def tx (s : ByteArray) : ByteArray := pu (s.size : Int) ++ s
theorem tx_eq {n : Nat} (hn : 10 ≤ n) {s : ByteArray} (h : s.size ≤ 100000) : F44 n s = some (tx s) := by
  unfold F44
  have := pu_size (s.size : Int)
  rw [pu_eq hn]
  simp only [Option.bind_some]
  rw [if_pos (by omega)]; rfl
theorem tx_size (s : ByteArray) : (tx s).size ≤ 10 + s.size ∧ 1 + s.size ≤ (tx s).size := by
  have := pu_size (s.size : Int)
  rw [tx, ba_size]; omega
theorem xor_in (a b : Int) : 0 ≤ bitsI .xor .u64 a b ∧ bitsI .xor .u64 a b < 18446744073709551616 := u64_in _
def zg (x : Int) : ByteArray := pt (bitsI .xor .u64 (shlI .u64 (IntKind.wrap .u64 x) 1) (IntKind.wrap .u64 (shrI .i64 x 63)))
theorem zg_eq {n : Nat} (hn : 10 ≤ n) (x : Int) : F45 n x = some (zg x) := by
  unfold F45 F68
  simp only [Option.bind_some]
  rw [put_eq hn (xor_in _ _).1 (xor_in _ _).2]
  rfl
theorem zg_size (x : Int) : (zg x).size ≤ 10 ∧ 1 ≤ (zg x).size := pt_size _
theorem and_fin : ∀ k : Fin 256, bitsI .andNot .u8 k.val 128 = bitsI .and .u8 k.val 127 ∧ (k.val < 128 → bitsI .and .u8 k.val 127 = k.val) := by decide +kernel
theorem or_in (a b : Int) : 0 ≤ bitsI .or .u64 a b ∧ bitsI .or .u64 a b < 18446744073709551616 := u64_in _
theorem byte_in (s : ByteArray) (i : Nat) (h : i < (bytesL s).length) : ∃ k : Fin 256, (bytesL s)[i] = (k.val : Int) := by
  simp only [bytesL, List.getElem_map]
  exact ⟨⟨_, UInt8.toNat_lt _⟩, rfl⟩
theorem ixb (s : ByteArray) (i : Nat) (h : i < (bytesL s).length) : ix (bytesL s) (i : Int) = some (bytesL s)[i] := by
  unfold ix; rw [if_neg (by omega)]; simp [h]
theorem w64 {n : Int} (h : -9223372036854775808 ≤ n) (h' : n ≤ 9223372036854775807) : IntKind.wrap .i64 n = n := by
  simp [IntKind.wrap, IntKind.bits, IntKind.signed]; omega
def isErr (e : Int) : Prop := e = 10 ∨ e = 11 ∨ e = 13
theorem isErr_ne {e : Int} (h : isErr e) : e ≠ 0 := by unfold isErr at h; omega
def GetR (s : ByteArray) (r : Int × Int × Int) : Prop := (r.2.2 = 0 ∧ 1 ≤ r.2.1 ∧ r.2.1 ≤ (s.size : Int) ∧ 0 ≤ r.1 ∧ r.1 < 18446744073709551616) ∨ (isErr r.2.2 ∧ r.1 = 0 ∧ r.2.1 = 0)
theorem get_l (n : Nat) (s : ByteArray) (hs : s.size ≤ 100000) : ∀ (m i : Nat) (acc : Int), i ≤ s.size → s.size - i < m → ∃ r, F70_l7 n s m acc (i : Int) = some r ∧ GetR s r
  | 0, i, acc, _, h => by omega
  | m + 1, i, acc, h1, h2 => by
    have hl : (bytesL s).length = s.size := bytesL_len s
    unfold F70_l7
    by_cases hi : i < s.size
    · have hd : decide ((i : Int) < ((bytesL s).length : Int)) = true := by rw [hl]; simp; omega
      have hd' : decide ((i : Int) < (s.size : Int)) = true := by simp; omega
      obtain ⟨k, hk⟩ := byte_in s i (by omega)
      obtain ⟨a1, a2⟩ := and_fin k
      have ex := ixb s i (by omega)
      rw [hk] at ex
      have w7 : IntKind.wrap .i64 (7 * (i : Int)) = 7 * i := w64 (by omega) (by omega)
      have w7u : IntKind.wrap .u64 (7 * (i : Int)) = 7 * i := by rw [wrap_u64]; omega
      have w1 : IntKind.wrap .i64 ((i : Int) + 1) = ((i + 1 : Nat) : Int) := by rw [w64 (by omega) (by omega)]; push_cast; rfl
      have g7 : ¬ (7 * (i : Int) < 0) := by omega
      have ne : (((i + 1 : Nat) : Int) == 0) = false := by simp; omega
      obtain ⟨r, q1, q3⟩ := get_l n s hs m (i + 1) (bitsI .or .u64 acc (shlI .u64 (IntKind.wrap .u64 (bitsI .and .u8 k.val 127)) (7 * (i : Int)))) (by omega) (by omega)
      have core : ∃ r, F70_j9 n acc (i : Int) (k.val : Int) (F70_l7 n s m) = some r ∧ GetR s r := by
        unfold F70_j9 F70_j10 F70_j13
        simp only [w7, w7u, w1, g7, not_false_eq_true, if_true, ne, Bool.false_eq_true, if_false, a1]
        by_cases hx : (k.val : Int) < 128
        · have e2 := a2 (by omega)
          simp only [hx, decide_true, if_true, e2]
          by_cases h0 : (0 : Int) < i
          · by_cases hz : (k.val : Int) = 0
            · simp only [h0, decide_true, if_true, hz, beq_self_eq_true]
              exact ⟨_, rfl, .inr ⟨by unfold isErr; decide, rfl, rfl⟩⟩
            · have hz' : ((k.val : Int) == 0) = false := by simp; omega
              simp only [h0, decide_true, if_true, hz', Bool.false_eq_true, if_false]
              exact ⟨_, rfl, .inl ⟨rfl, by simp only; omega, by simp only; omega, (or_in _ _).1, (or_in _ _).2⟩⟩
          · simp only [h0, decide_false, Bool.false_eq_true, if_false, ite_self]
            exact ⟨_, rfl, .inl ⟨rfl, by simp only; omega, by simp only; omega, (or_in _ _).1, (or_in _ _).2⟩⟩
        · have hz' : ((k.val : Int) == 0) = false := by simp; omega
          simp only [hx, decide_false, Bool.false_eq_true, if_false, hz', ite_self]
          exact ⟨r, q1, q3⟩
      simp only [hd, hd', if_true, ex, Option.bind_some]
      by_cases h9 : ((i : Int) == 9) = true
      · by_cases hx : (1 : Int) < k.val
        · simp only [h9, hx, decide_true, if_true]
          exact ⟨_, rfl, .inr ⟨by unfold isErr; decide, rfl, rfl⟩⟩
        · simp only [h9, hx, decide_false, Bool.false_eq_true, if_false, if_true]
          exact core
      · simp only [h9, Bool.false_eq_true, if_false]
        exact core
    · have hd : decide ((i : Int) < ((bytesL s).length : Int)) = false := by rw [hl]; simp; omega
      have hd' : decide ((i : Int) < (s.size : Int)) = false := by simp; omega
      simp only [hd, hd', Bool.false_eq_true, if_false]
      exact ⟨_, rfl, .inr ⟨by unfold isErr; decide, rfl, rfl⟩⟩
theorem get_eq (n : Nat) (s : ByteArray) (hs : s.size ≤ 100000) (hn : s.size ≤ n) : ∃ r, F70 n s = some r ∧ GetR s r := by
  unfold F70
  exact get_l n s hs (n + 8) 0 0 (by omega) (by omega)
def TxtR (s : ByteArray) (r : ByteArray × Int × Int) : Prop := (r.2.2 = 0 ∧ 1 ≤ r.2.1 ∧ r.2.1 ≤ (s.size : Int)) ∨ (isErr r.2.2 ∧ r.1 = ByteArray.empty ∧ r.2.1 = 0)
theorem texts_eq (n : Nat) (s : ByteArray) (hs : s.size ≤ 100000) (hn : s.size ≤ n) : ∃ r, F67 n s 12 = some r ∧ TxtR s r := by
  obtain ⟨r, q1, q3⟩ := get_eq n s hs hn
  have m1 : IntKind.wrap .u64 (imax 12 0) = 12 := rfl
  have m2 : IntKind.wrap .u64 (imax 0 12) = 12 := rfl
  unfold F67
  simp only [q1, Option.bind_some, m1, m2]
  rcases q3 with ⟨e0, k1, k2, u0, u1⟩ | ⟨e0, h1, h2⟩
  · have hb : (r.2.2 != 0) = false := by simp [e0]
    have hz : IntKind.wrap .u64 (IntKind.wrap .i64 ((s.size : Int) - r.2.1)) = s.size - r.2.1 := by rw [w64 (by omega) (by omega), wrap_u64]; omega
    simp only [hb, Bool.false_eq_true, if_false, hz]
    by_cases c1 : 12 < r.1
    · simp only [c1, decide_true, if_true]
      exact ⟨_, rfl, .inr ⟨by unfold isErr; decide, rfl, rfl⟩⟩
    · simp only [c1, decide_false, Bool.false_eq_true, if_false]
      by_cases c2 : (s.size : Int) - r.2.1 < r.1
      · simp only [c2, decide_true, if_true]
        exact ⟨_, rfl, .inr ⟨by unfold isErr; decide, rfl, rfl⟩⟩
      · simp only [c2, decide_false, Bool.false_eq_true, if_false]
        have w1 : IntKind.wrap .i64 r.1 = r.1 := w64 (by omega) (by omega)
        have w2 : IntKind.wrap .i64 (r.2.1 + r.1) = r.2.1 + r.1 := w64 (by omega) (by omega)
        simp only [w1, w2]
        rw [if_pos (by omega)]
        exact ⟨_, rfl, .inl ⟨rfl, by simp only; omega, by simp only; omega⟩⟩
  · have hb : (r.2.2 != 0) = true := by simp [isErr_ne e0]
    simp only [hb, if_true]
    exact ⟨_, rfl, .inr ⟨e0, rfl, rfl⟩⟩
theorem wrap_i64 (x : Int) : IntKind.wrap .i64 x = (x + 9223372036854775808) % 18446744073709551616 - 9223372036854775808 := by
  simp [IntKind.wrap, IntKind.bits, IntKind.signed]; omega
theorem ints_eq (n : Nat) (s : ByteArray) (hs : s.size ≤ 100000) (hn : s.size ≤ n) : ∃ r, F65 n s = some r ∧ (-9223372036854775808 ≤ r.1 ∧ r.1 < 9223372036854775808) ∧ ((r.2.2 = 0 ∧ 1 ≤ r.2.1 ∧ r.2.1 ≤ (s.size : Int)) ∨ (isErr r.2.2 ∧ r.2.1 = 0)) := by
  obtain ⟨r, q1, q3⟩ := get_eq n s hs hn
  have wi : ∀ x, -9223372036854775808 ≤ IntKind.wrap .i64 x ∧ IntKind.wrap .i64 x < 9223372036854775808 := fun x => by rw [wrap_i64]; omega
  unfold F65 F74
  simp only [q1, Option.bind_some]
  refine ⟨_, rfl, wi _, ?_⟩
  rcases q3 with ⟨e0, k1, k2, _, _⟩ | ⟨e0, h1, h2⟩
  · exact .inl ⟨e0, k1, k2⟩
  · exact .inr ⟨e0, h2⟩
theorem ext_size (s : ByteArray) (a : Int) (h0 : 0 ≤ a) (h1 : a ≤ (s.size : Int)) : ((s.extract a.toNat s.size).size : Int) = s.size - a := by
  rw [ByteArray.size_extract]; omega
theorem d64 {n : Int} (h : -9223372036854775808 ≤ n) (h' : n ≤ 9223372036854775807) : IntKind.wrap .i64 n = n := by
  simp [IntKind.wrap, IntKind.bits, IntKind.signed]; omega
theorem ixg {α : Type} (l : List α) (i : Nat) (h : i < l.length) : ix l (i : Int) = some l[i] := by
  unfold ix; rw [if_neg (by omega)]; simp [h]
theorem dsucc {i : Nat} (h : i < maxLen) : IntKind.wrap .i64 ((i : Int) + 1) = ((i + 1 : Nat) : Int) := by
  simp only [maxLen] at h
  rw [d64 (by omega) (by omega)]; push_cast; rfl
theorem lt_dec {i n : Nat} (h : i < n) : decide ((i : Int) < (n : Int)) = true := by simp; omega
theorem ge_dec {i n : Nat} (h : ¬ i < n) : decide ((i : Int) < (n : Int)) = false := by simp; omega
theorem Point.eqb_iff (x y : Point) : Point.eqb x y = true ↔ x = y := by
  cases x; cases y; simp [Point.eqb]
theorem Field.eqb_iff (x y : Field) : Field.eqb x y = true ↔ x = y := by
  cases x; cases y; simp [Field.eqb, ba_beq]
theorem A4_Field.eqb_iff (x y : A4 Field) : A4_Field.eqb x y = true ↔ x = y := by
  cases x; cases y; simp [A4_Field.eqb, Field.eqb_iff]
theorem Rect.eqb_iff (x y : Rect) : Rect.eqb x y = true ↔ x = y := by
  cases x; cases y; simp [Rect.eqb, and_assoc]
theorem Command.eqb_iff (x y : Command) : Command.eqb x y = true ↔ x = y := by
  cases x; cases y; simp [Command.eqb, Point.eqb_iff, A4_Field.eqb_iff, Field.eqb_iff, Rect.eqb_iff]
def isF (f : Field) : Bool := (f.N == 0 || f.Text.toList == ByteArray.empty.toList) && decide ((f.Text.size : Int) ≤ 12)
theorem isF_eq (n : Nat) (f : Field) : F26 n f = some (isF f) := by
  unfold F26 isF
  generalize (f.N == 0) = p
  generalize (f.Text.toList == ByteArray.empty.toList) = q
  cases p <;> cases q <;> simp
def near (x : Int) : Bool := decide (-1000 ≤ x) && decide (x ≤ 1000)
theorem near_l (n : Nat) (l : List Int) (hl : l.length ≤ 8) : ∀ (m i : Nat), i ≤ l.length → l.length - i < m → F59_l4 n l m (i : Int) = some ((l.drop i).all near)
  | 0, i, _, h => by omega
  | m + 1, i, h1, h2 => by
    unfold F59_l4
    by_cases hi : i < l.length
    · have ed : l.drop i = l[i] :: l.drop (i + 1) := by rw [List.drop_eq_getElem_cons hi]
      have ea : (l.drop i).all near = (near l[i] && (l.drop (i + 1)).all near) := by rw [ed, List.all_cons]
      simp only [lt_dec hi, if_true, ixg l i hi, Option.bind_some, dsucc (show i < maxLen by simp only [maxLen]; omega), ea, near_l n l hl m (i + 1) (by omega) (by omega)]
      generalize l[i] = x
      unfold near
      by_cases h3 : (-1000 : Int) ≤ x <;> by_cases h4 : x ≤ 1000 <;> simp [h3, h4]
    · have ed : l.drop i = [] := List.drop_eq_nil_of_le (by omega)
      simp only [ge_dec hi, Bool.false_eq_true, if_false, ed, List.all_nil]
theorem near_eq (n : Nat) (l : List Int) (hl : l.length ≤ 7) : F59 n l = some (l.all near) := by
  unfold F59
  have := near_l n l (by omega) (n + 8) 0 (by omega) (by omega)
  simpa using this
def coreC (c : Command) : Command := (F58 0 c).getD c
theorem core_eq (n : Nat) (c : Command) : F58 n c = some (coreC c) := by
  have h : ∀ m, F58 m c = F58 0 c := fun m => rfl
  rw [h n]
  unfold coreC
  have : (F58 0 c).isSome := by
    unfold F58
    repeat (split <;> try rfl)
  obtain ⟨r, hr⟩ := Option.isSome_iff_exists.1 this
  rw [hr]; rfl
def boundsC (c : Command) : Bool := (decide (0 ≤ c.Client) && (decide (c.Client < 4) && (decide (0 ≤ c.Session) && decide (c.Session ≤ 1000000)))) &&
  ((decide (0 ≤ c.ID) && (decide (c.ID ≤ 1000000) && (decide (-1 ≤ c.Which) && (decide (c.Which ≤ 100) && (decide (-1 ≤ c.To) && (decide (c.To ≤ 100) && isF c.Value)))))) &&
    [c.At.X, c.At.Y, c.Rect.X0, c.Rect.Y0, c.Rect.X1, c.Rect.Y1].all near)
def isC (c : Command) : Bool := (isF c.F.a0 && (isF c.F.a1 && (isF c.F.a2 && isF c.F.a3))) && ((decide (1 ≤ c.Kind) && (decide (c.Kind ≤ 8) && Command.eqb c (coreC c))) && boundsC c)
theorem isC_eq (n : Nat) (c : Command) : F35 n c = some (isC c) := by
  have j12 : ∀ x y z, F35_j12 n c x y z = some (x && (y && (z && [c.At.X, c.At.Y, c.Rect.X0, c.Rect.Y0, c.Rect.X1, c.Rect.Y1].all near))) := by
    intro x y z
    unfold F35_j12
    rw [near_eq n _ (by simp)]
    cases x <;> cases y <;> cases z <;> simp
  have j9 : ∀ x y, F35_j9 n c x y = some (x && (y && ((decide (0 ≤ c.ID) && (decide (c.ID ≤ 1000000) && (decide (-1 ≤ c.Which) && (decide (c.Which ≤ 100) && (decide (-1 ≤ c.To) && (decide (c.To ≤ 100) && isF c.Value)))))) && [c.At.X, c.At.Y, c.Rect.X0, c.Rect.Y0, c.Rect.X1, c.Rect.Y1].all near))) := by
    intro x y
    unfold F35_j9
    simp only [j12, isF_eq, Option.bind_some]
    by_cases h1 : (0 : Int) ≤ c.ID
    · by_cases h2 : c.ID ≤ 1000000
      · by_cases h3 : (-1 : Int) ≤ c.Which
        · by_cases h4 : c.Which ≤ 100
          · by_cases h5 : (-1 : Int) ≤ c.To
            · by_cases h6 : c.To ≤ 100 <;> simp only [h1, h2, h3, h4, h5, h6, decide_true, decide_false, if_true, Bool.false_eq_true, if_false, Bool.true_and, Bool.false_and, Bool.and_false]
            · simp only [h1, h2, h3, h4, h5, decide_true, decide_false, if_true, Bool.false_eq_true, if_false, Bool.true_and, Bool.false_and, Bool.and_false]
          · simp only [h1, h2, h3, h4, decide_true, decide_false, if_true, Bool.false_eq_true, if_false, Bool.true_and, Bool.false_and, Bool.and_false]
        · simp only [h1, h2, h3, decide_true, decide_false, if_true, Bool.false_eq_true, if_false, Bool.true_and, Bool.false_and, Bool.and_false]
      · simp only [h1, h2, decide_true, decide_false, if_true, Bool.false_eq_true, if_false, Bool.true_and, Bool.false_and, Bool.and_false]
    · simp only [h1, decide_true, decide_false, if_true, Bool.false_eq_true, if_false, Bool.true_and, Bool.false_and, Bool.and_false]
  have j7 : ∀ x, F35_j7 n c x = some (x && boundsC c) := by
    intro x
    unfold F35_j7 boundsC
    simp only [j9]
    by_cases h1 : (0 : Int) ≤ c.Client
    · by_cases h2 : c.Client < 4
      · by_cases h3 : (0 : Int) ≤ c.Session <;> simp only [h1, h2, h3, decide_true, decide_false, if_true, Bool.false_eq_true, if_false, Bool.true_and, Bool.false_and, Bool.and_false]
      · simp only [h1, h2, decide_true, decide_false, if_true, Bool.false_eq_true, if_false, Bool.true_and, Bool.false_and, Bool.and_false]
    · simp only [h1, decide_true, decide_false, if_true, Bool.false_eq_true, if_false, Bool.true_and, Bool.false_and, Bool.and_false]
  unfold F35 isC
  simp only [isF_eq, Option.bind_some, core_eq, j7]
  cases isF c.F.a0
  · rfl
  · cases isF c.F.a1
    · rfl
    · cases isF c.F.a2
      · rfl
      · cases isF c.F.a3
        · rfl
        · by_cases h1 : (1 : Int) ≤ c.Kind
          · by_cases h2 : c.Kind ≤ 8 <;> simp [h1, h2]
          · simp [h1]
structure InC (c : Command) : Prop where
  f0 : isF c.F.a0 = true
  f1 : isF c.F.a1 = true
  f2 : isF c.F.a2 = true
  f3 : isF c.F.a3 = true
  v : isF c.Value = true
  kind : 1 ≤ c.Kind ∧ c.Kind ≤ 8
  core : c = coreC c
  client : 0 ≤ c.Client ∧ c.Client < 4
  sess : 0 ≤ c.Session ∧ c.Session ≤ 1000000
  id : 0 ≤ c.ID ∧ c.ID ≤ 1000000
  which : -1 ≤ c.Which ∧ c.Which ≤ 100
  to : -1 ≤ c.To ∧ c.To ≤ 100
  atx : -1000 ≤ c.At.X ∧ c.At.X ≤ 1000
  aty : -1000 ≤ c.At.Y ∧ c.At.Y ≤ 1000
  x0 : -1000 ≤ c.Rect.X0 ∧ c.Rect.X0 ≤ 1000
  y0 : -1000 ≤ c.Rect.Y0 ∧ c.Rect.Y0 ≤ 1000
  x1 : -1000 ≤ c.Rect.X1 ∧ c.Rect.X1 ≤ 1000
  y1 : -1000 ≤ c.Rect.Y1 ∧ c.Rect.Y1 ≤ 1000
theorem isC_in {c : Command} (h : isC c = true) : InC c := by
  unfold isC boundsC near at h
  simp only [List.all_cons, List.all_nil, Bool.and_true, Bool.and_eq_true, decide_eq_true_eq, Command.eqb_iff] at h
  obtain ⟨⟨a0, a1, a2, a3⟩, ⟨k1, k2, k3⟩, ⟨h1, h2, h3, h4⟩, ⟨h5, h6, h7, h8, h9, h10, h11⟩, p1, p2, p3, p4, p5, p6⟩ := h
  exact ⟨a0, a1, a2, a3, h11, ⟨k1, k2⟩, k3, ⟨h1, h2⟩, ⟨h3, h4⟩, ⟨h5, h6⟩, ⟨h7, h8⟩, ⟨h9, h10⟩, p1, p2, p3, p4, p5, p6⟩
theorem isF_text {f : Field} (h : isF f = true) : f.Text.size ≤ 12 := by
  unfold isF at h
  simp only [Bool.and_eq_true, decide_eq_true_eq] at h
  omega
def fl (f : Field) : ByteArray := tx f.Text ++ zg f.N
theorem fl_size {f : Field} (h : isF f = true) : (fl f).size ≤ 32 ∧ 2 ≤ (fl f).size := by
  have := isF_text h
  have := tx_size f.Text
  have := zg_size f.N
  unfold fl; rw [ba_size]; omega
def hdC (c : Command) : ByteArray := zg c.Kind ++ zg c.Client ++ zg c.Session
theorem hdC_size (c : Command) : (hdC c).size ≤ 30 ∧ 3 ≤ (hdC c).size := by
  have := zg_size c.Kind
  have := zg_size c.Client
  have := zg_size c.Session
  unfold hdC; rw [ba_size, ba_size]; omega
def nums (c : Command) : List Int :=
  if c.Kind = 1 then [c.At.X, c.At.Y] else if c.Kind = 2 then [c.ID, c.At.X, c.At.Y] else if c.Kind = 3 then [c.ID, c.Which] else if c.Kind = 4 then [c.ID]
  else if c.Kind = 5 then [c.Which, c.To] else if c.Kind = 6 ∨ c.Kind = 7 then [c.Rect.X0, c.Rect.Y0, c.Rect.X1, c.Rect.Y1] else []
def vals (c : Command) : List Field :=
  if c.Kind = 1 then [c.F.a0, c.F.a1, c.F.a2, c.F.a3] else if c.Kind = 3 then [c.Value] else []
def addN (s : ByteArray) (l : List Int) : ByteArray := l.foldl (fun s x => s ++ zg x) s
def addV (s : ByteArray) (l : List Field) : ByteArray := l.foldl (fun s f => s ++ fl f) s
def byC (c : Command) : ByteArray := addV (addN (hdC c) (nums c)) (vals c)
theorem addN_size : ∀ (l : List Int) (s : ByteArray), (addN s l).size ≤ s.size + 10 * l.length ∧ s.size ≤ (addN s l).size
  | [], s => by simp [addN]
  | x :: l, s => by
    have := addN_size l (s ++ zg x)
    have := zg_size x
    rw [ba_size] at *
    simp only [addN, List.foldl_cons, List.length_cons] at *
    omega
theorem addV_size : ∀ (l : List Field) (s : ByteArray), (∀ f ∈ l, isF f = true) → (addV s l).size ≤ s.size + 32 * l.length ∧ s.size ≤ (addV s l).size
  | [], s, _ => by simp [addV]
  | x :: l, s, h => by
    have := addV_size l (s ++ fl x) (fun f hf => h f (List.mem_cons_of_mem _ hf))
    have := fl_size (h x (List.mem_cons_self ..))
    rw [ba_size] at *
    simp only [addV, List.foldl_cons, List.length_cons] at *
    omega
theorem nums_len (c : Command) : (nums c).length ≤ 4 := by
  unfold nums
  repeat (split; · simp)
  simp
theorem vals_len (c : Command) : (vals c).length ≤ 4 := by
  unfold vals
  repeat (split; · simp)
  simp
theorem vals_is {c : Command} (h : InC c) : ∀ f ∈ vals c, isF f = true := by
  unfold vals
  intro f hf
  split at hf
  · simp only [List.mem_cons, List.not_mem_nil, or_false] at hf
    rcases hf with rfl | rfl | rfl | rfl
    · exact h.f0
    · exact h.f1
    · exact h.f2
    · exact h.f3
  · split at hf
    · simp only [List.mem_cons, List.not_mem_nil, or_false] at hf
      subst hf; exact h.v
    · cases hf
theorem byC_size {c : Command} (h : InC c) : (byC c).size ≤ 198 ∧ 3 ≤ (byC c).size := by
  have h1 := hdC_size c
  have h2 := addN_size (nums c) (hdC c)
  have h3 := addV_size (vals c) (addN (hdC c) (nums c)) (vals_is h)
  have h4 := nums_len c
  have h5 := vals_len c
  unfold byC; omega
theorem values_eq (n : Nat) (c : Command) : F57s0 n c = some (if c.Kind = 1 then 1 else if c.Kind = 3 then 2 else 0) := by
  unfold F57s0
  by_cases h1 : c.Kind = 1
  · simp [h1]
  by_cases h3 : c.Kind = 3
  · simp [h3]
  simp [h1, h3]
theorem bytes_j21 {n : Nat} (hn : 10 ≤ n) {c : Command} (h : InC c) {s : ByteArray} (hs : s.size ≤ 100) : F34_j21 n c s = some (addV s (vals c), 0) := by
  unfold F34_j21 vals
  rw [values_eq, Option.bind_some]
  have z : ∀ f, isF f = true → f.Text.size ≤ 12 ∧ (tx f.Text).size ≤ 22 ∧ (zg f.N).size ≤ 10 := fun f hf => by
    have := isF_text hf
    have := tx_size f.Text
    have := zg_size f.N
    omega
  by_cases h1 : c.Kind = 1
  · rw [if_pos h1, if_pos h1, if_neg (by decide), if_pos rfl]
    obtain ⟨p1, q1, r1⟩ := z _ h.f0
    obtain ⟨p2, q2, r2⟩ := z _ h.f1
    obtain ⟨p3, q3, r3⟩ := z _ h.f2
    obtain ⟨p4, q4, r4⟩ := z _ h.f3
    rw [tx_eq hn (by omega), Option.bind_some, zg_eq hn, Option.bind_some, if_pos (by omega), if_pos (by simp only [ba_size]; omega),
      tx_eq hn (by omega), Option.bind_some, zg_eq hn, Option.bind_some, if_pos (by omega), if_pos (by simp only [ba_size]; omega),
      tx_eq hn (by omega), Option.bind_some, zg_eq hn, Option.bind_some, if_pos (by omega), if_pos (by simp only [ba_size]; omega),
      tx_eq hn (by omega), Option.bind_some, zg_eq hn, Option.bind_some, if_pos (by omega), if_pos (by simp only [ba_size]; omega)]
    rfl
  · rw [if_neg h1, if_neg h1]
    by_cases h3 : c.Kind = 3
    · rw [if_pos h3, if_pos h3, if_neg (by decide), if_neg (by decide), if_pos rfl]
      obtain ⟨p1, q1, r1⟩ := z _ h.v
      rw [tx_eq hn (by omega), Option.bind_some, zg_eq hn, Option.bind_some, if_pos (by omega), if_pos (by simp only [ba_size]; omega)]
      rfl
    · rw [if_neg h3, if_neg h3, if_pos rfl]
      rfl
theorem parts_eq (n : Nat) (c : Command) : F56s0 n c = some (if c.Kind = 1 then 1 else if c.Kind = 2 then 2 else if c.Kind = 3 then 3 else if c.Kind = 4 then 4 else if c.Kind = 5 then 5 else if c.Kind = 6 ∨ c.Kind = 7 then 6 else 0) := by
  unfold F56s0 F56s0_j1
  by_cases h1 : c.Kind = 1
  · simp [h1]
  by_cases h2 : c.Kind = 2
  · simp [h2]
  by_cases h3 : c.Kind = 3
  · simp [h3]
  by_cases h4 : c.Kind = 4
  · simp [h4]
  by_cases h5 : c.Kind = 5
  · simp [h5]
  by_cases h6 : c.Kind = 6
  · simp [h6]
  by_cases h7 : c.Kind = 7
  · simp [h7]
  simp [h1, h2, h3, h4, h5, h6, h7]
theorem kinds {c : Command} (h : InC c) : c.Kind = 1 ∨ c.Kind = 2 ∨ c.Kind = 3 ∨ c.Kind = 4 ∨ c.Kind = 5 ∨ c.Kind = 6 ∨ c.Kind = 7 ∨ c.Kind = 8 := by
  have := h.kind; omega
theorem bytes_no {n : Nat} {c : Command} (h : isC c = false) : F34 n c = some (ByteArray.empty, 11) := by
  unfold F34
  rw [isC_eq, Option.bind_some, h]
  rfl
theorem bytes_is {n : Nat} (hn : 10 ≤ n) {c : Command} (hc : isC c = true) : F34 n c = some (byC c, 0) := by
  have h := isC_in hc
  have z := fun x => (zg_size x).1
  have zh := (hdC_size c).1
  unfold F34
  rw [isC_eq, Option.bind_some, hc]
  have hk : F34_j21 n c (addN (hdC c) (nums c)) = some (byC c, 0) := by
    have := addN_size (nums c) (hdC c)
    have := nums_len c
    exact bytes_j21 hn h (by omega)
  have s1 := z c.Kind
  have s2 := z c.Client
  rw [if_neg (by decide), zg_eq hn, Option.bind_some]
  have s3 := z c.Session
  rw [zg_eq hn, Option.bind_some, if_pos (by omega), zg_eq hn, Option.bind_some, if_pos (by rw [ba_size]; omega), parts_eq, Option.bind_some, show zg c.Kind ++ zg c.Client ++ zg c.Session = hdC c from rfl]
  have fin : ∀ l s, nums c = l → addN (hdC c) l = s → F34_j21 n c s = some (byC c, 0) := by
    intro l s hl hs; rw [← hs, ← hl]; exact hk
  have b1 : ∀ x, (hdC c ++ zg x).size ≤ 40 := fun x => by have := z x; rw [ba_size]; omega
  have b2 : ∀ x y, (hdC c ++ zg x ++ zg y).size ≤ 50 := fun x y => by have := z y; have := b1 x; rw [ba_size]; omega
  have b3 : ∀ x y w, (hdC c ++ zg x ++ zg y ++ zg w).size ≤ 60 := fun x y w => by have := z w; have := b2 x y; rw [ba_size]; omega
  have sz0 : ∀ x, (hdC c).size + (zg x).size ≤ 9223372036854775807 := fun x => by have := z x; omega
  have sz1 : ∀ x y, (hdC c ++ zg x).size + (zg y).size ≤ 9223372036854775807 := fun x y => by have := z y; have := b1 x; omega
  have sz2 : ∀ x y w, (hdC c ++ zg x ++ zg y).size + (zg w).size ≤ 9223372036854775807 := fun x y w => by have := z w; have := b2 x y; omega
  have sz3 : ∀ x y w v, (hdC c ++ zg x ++ zg y ++ zg w).size + (zg v).size ≤ 9223372036854775807 := fun x y w v => by have := z v; have := b3 x y w; omega
  obtain e | e | e | e | e | e | e | e := kinds h
  · have six : (if c.Kind = 1 then 1 else if c.Kind = 2 then 2 else if c.Kind = 3 then 3 else if c.Kind = 4 then 4 else if c.Kind = 5 then 5 else if c.Kind = 6 ∨ c.Kind = 7 then 6 else 0) = 1 := by simp [e]
    rw [six]
    rw [if_neg (by decide), if_pos rfl]
    rw [zg_eq hn, Option.bind_some, if_pos (sz0 _)]
    rw [zg_eq hn, Option.bind_some, if_pos (sz1 _ _)]
    exact fin [c.At.X, c.At.Y] _ (by unfold nums; simp [e]) rfl
  · have six : (if c.Kind = 1 then 1 else if c.Kind = 2 then 2 else if c.Kind = 3 then 3 else if c.Kind = 4 then 4 else if c.Kind = 5 then 5 else if c.Kind = 6 ∨ c.Kind = 7 then 6 else 0) = 2 := by simp [e]
    rw [six]
    rw [if_neg (by decide), if_neg (by decide), if_pos rfl]
    rw [zg_eq hn, Option.bind_some, if_pos (sz0 _)]
    rw [zg_eq hn, Option.bind_some, if_pos (sz1 _ _)]
    rw [zg_eq hn, Option.bind_some, if_pos (sz2 _ _ _)]
    exact fin [c.ID, c.At.X, c.At.Y] _ (by unfold nums; simp [e]) rfl
  · have six : (if c.Kind = 1 then 1 else if c.Kind = 2 then 2 else if c.Kind = 3 then 3 else if c.Kind = 4 then 4 else if c.Kind = 5 then 5 else if c.Kind = 6 ∨ c.Kind = 7 then 6 else 0) = 3 := by simp [e]
    rw [six]
    rw [if_neg (by decide), if_neg (by decide), if_neg (by decide), if_pos rfl]
    rw [zg_eq hn, Option.bind_some, if_pos (sz0 _)]
    rw [zg_eq hn, Option.bind_some, if_pos (sz1 _ _)]
    exact fin [c.ID, c.Which] _ (by unfold nums; simp [e]) rfl
  · have six : (if c.Kind = 1 then 1 else if c.Kind = 2 then 2 else if c.Kind = 3 then 3 else if c.Kind = 4 then 4 else if c.Kind = 5 then 5 else if c.Kind = 6 ∨ c.Kind = 7 then 6 else 0) = 4 := by simp [e]
    rw [six]
    rw [if_neg (by decide), if_neg (by decide), if_neg (by decide), if_neg (by decide), if_pos rfl]
    rw [zg_eq hn, Option.bind_some, if_pos (sz0 _)]
    exact fin [c.ID] _ (by unfold nums; simp [e]) rfl
  · have six : (if c.Kind = 1 then 1 else if c.Kind = 2 then 2 else if c.Kind = 3 then 3 else if c.Kind = 4 then 4 else if c.Kind = 5 then 5 else if c.Kind = 6 ∨ c.Kind = 7 then 6 else 0) = 5 := by simp [e]
    rw [six]
    rw [if_neg (by decide), if_neg (by decide), if_neg (by decide), if_neg (by decide), if_neg (by decide), if_pos rfl]
    rw [zg_eq hn, Option.bind_some, if_pos (sz0 _)]
    rw [zg_eq hn, Option.bind_some, if_pos (sz1 _ _)]
    exact fin [c.Which, c.To] _ (by unfold nums; simp [e]) rfl
  · have six : (if c.Kind = 1 then 1 else if c.Kind = 2 then 2 else if c.Kind = 3 then 3 else if c.Kind = 4 then 4 else if c.Kind = 5 then 5 else if c.Kind = 6 ∨ c.Kind = 7 then 6 else 0) = 6 := by simp [e]
    rw [six]
    rw [if_neg (by decide), if_neg (by decide), if_neg (by decide), if_neg (by decide), if_neg (by decide), if_neg (by decide), if_pos rfl]
    rw [zg_eq hn, Option.bind_some, if_pos (sz0 _)]
    rw [zg_eq hn, Option.bind_some, if_pos (sz1 _ _)]
    rw [zg_eq hn, Option.bind_some, if_pos (sz2 _ _ _)]
    rw [zg_eq hn, Option.bind_some, if_pos (sz3 _ _ _ _)]
    exact fin [c.Rect.X0, c.Rect.Y0, c.Rect.X1, c.Rect.Y1] _ (by unfold nums; simp [e]) rfl
  · have six : (if c.Kind = 1 then 1 else if c.Kind = 2 then 2 else if c.Kind = 3 then 3 else if c.Kind = 4 then 4 else if c.Kind = 5 then 5 else if c.Kind = 6 ∨ c.Kind = 7 then 6 else 0) = 6 := by simp [e]
    rw [six]
    rw [if_neg (by decide), if_neg (by decide), if_neg (by decide), if_neg (by decide), if_neg (by decide), if_neg (by decide), if_pos rfl]
    rw [zg_eq hn, Option.bind_some, if_pos (sz0 _)]
    rw [zg_eq hn, Option.bind_some, if_pos (sz1 _ _)]
    rw [zg_eq hn, Option.bind_some, if_pos (sz2 _ _ _)]
    rw [zg_eq hn, Option.bind_some, if_pos (sz3 _ _ _ _)]
    exact fin [c.Rect.X0, c.Rect.Y0, c.Rect.X1, c.Rect.Y1] _ (by unfold nums; simp [e]) rfl
  · have nil : (if c.Kind = 1 then 1 else if c.Kind = 2 then 2 else if c.Kind = 3 then 3 else if c.Kind = 4 then 4 else if c.Kind = 5 then 5 else if c.Kind = 6 ∨ c.Kind = 7 then 6 else 0) = 0 := by simp [e]
    rw [nil]
    rw [if_pos rfl]
    exact fin [] _ (by unfold nums; simp [e]) rfl
theorem shape_eq (n : Nat) (c : Command) : F61 n c = some (coreC c) :=
  (show F61 n c = F58 n c from rfl).trans (core_eq n c)
theorem within_eq (n : Nat) (x a b : Int) : F60 n x a b = some (decide (a ≤ x) && decide (x ≤ b)) := by
  unfold F60
  by_cases h : a ≤ x <;> simp [h]
theorem risF_eq (n : Nat) (f : Field) : F27 n f = some (isF f) := by
  unfold F27 isF
  generalize (f.N == 0) = p
  generalize (f.Text.toList == ByteArray.empty.toList) = q
  cases p <;> cases q <;> simp
theorem ifand (p x y : Bool) : (if p = true then some x else some (false && y)) = some (p && x) := by cases p <;> rfl
theorem ifand' (p x : Bool) : (if p = true then some x else some false) = some (p && x) := by cases p <;> rfl
theorem rpoint_eq (n : Nat) (p : Point) : F62 n p = some (near p.X && near p.Y) := by
  unfold F62 near
  simp only [within_eq, Option.bind_some, ifand']
theorem rrect_eq (n : Nat) (r : Rect) : F63 n r = some ((near r.X0 && near r.Y0) && (near r.X1 && near r.Y1)) := by
  unfold F63
  simp only [rpoint_eq, Option.bind_some, ifand']
theorem rj12_eq (n : Nat) (c : Command) (b : Bool) : F36_j12 n c b = some (b && (isF c.F.a0 && (isF c.F.a1 && (isF c.F.a2 && isF c.F.a3)))) := by
  unfold F36_j12 F36_u15 F36_u18 F36_u21 F36_u24
  simp only [risF_eq, Option.bind_some]
  cases b <;> cases isF c.F.a0 <;> cases isF c.F.a1 <;> cases isF c.F.a2 <;> simp
theorem ris_eq (n : Nat) (c : Command) : F36 n c = some (isC c) := by
  unfold F36
  simp only [rj12_eq, within_eq, shape_eq, rpoint_eq, rrect_eq, risF_eq, Option.bind_some, ifand]
  have e3 : decide (c.Client ≤ 3) = decide (c.Client < 4) := by
    rw [decide_eq_decide]; omega
  unfold isC boundsC
  simp only [List.all_cons, List.all_nil, Bool.and_true, e3]
  congr 1
  ac_rfl
set_option maxHeartbeats 1000000
theorem toList_loop (bs : ByteArray) : ∀ (k i : Nat) (r : List UInt8), k = bs.size - i → ByteArray.toList.loop bs i r = r.reverse ++ bs.data.toList.drop i
  | 0, i, r, h => by
    rw [ByteArray.toList.loop]
    have : ¬ i < bs.size := by omega
    rw [if_neg this]
    have h2 : bs.data.toList.drop i = [] := List.drop_eq_nil_of_le (by simp only [Array.length_toList]; have : bs.data.size = bs.size := rfl; omega)
    rw [h2, List.append_nil]
  | k + 1, i, r, h => by
    rw [ByteArray.toList.loop]
    have hi : i < bs.size := by omega
    have hi' : i < bs.data.toList.length := by simp only [Array.length_toList]; exact hi
    rw [if_pos hi, toList_loop bs k (i + 1) _ (by omega), List.drop_eq_getElem_cons hi']
    have e : bs.get! i = bs.data.toList[i] := by
      rw [ByteArray.get!.eq_def]
      have hi2 : i < bs.data.size := hi
      simp [getElem!_pos bs.data i hi2]
    rw [e]
    simp
theorem toList_data (bs : ByteArray) : bs.toList = bs.data.toList := by
  unfold ByteArray.toList
  rw [toList_loop bs bs.size 0 [] (by omega)]; simp
theorem toList_eq (a b : ByteArray) : (a.toList == b.toList) = true ↔ a = b := by
  rw [toList_data, toList_data, beq_iff_eq]
  constructor
  · intro h
    have := Array.ext' h
    cases a; cases b; simp only at this; rw [this]
  · rintro rfl; rfl
def I64 (x : Int) : Prop := -9223372036854775808 ≤ x ∧ x < 9223372036854775808
def Ends (s : ByteArray) (e a : Int) : Prop := (e = 0 ∨ isErr e) ∧ 0 ≤ a ∧ a ≤ (s.size : Int)
theorem num_tot {n : Nat} {s : ByteArray} (hs : s.size ≤ 100000) (hn : s.size ≤ n) {a : Int} (h0 : 0 ≤ a) (h1 : a ≤ (s.size : Int)) :
    ∃ r, F64s0 n s a = some r ∧ I64 r.1 ∧ Ends s r.2.1 r.2.2 := by
  have hz := ext_size s a h0 h1
  obtain ⟨r, q1, q2, q3⟩ := ints_eq n (s.extract a.toNat s.size) (by omega) (by omega)
  unfold F64s0
  rw [if_pos ⟨h0, h1⟩, q1, Option.bind_some]
  refine ⟨_, rfl, q2, ?_⟩
  rcases q3 with ⟨e0, k1, k2⟩ | ⟨e0, k1⟩
  · have w : IntKind.wrap .i64 (a + r.2.1) = a + r.2.1 := w64 (by omega) (by omega)
    exact ⟨.inl e0, by simp only [w]; omega, by simp only [w]; omega⟩
  · have w : IntKind.wrap .i64 (a + r.2.1) = a := by rw [k1, w64 (by omega) (by omega)]; omega
    exact ⟨.inr e0, by simp only [w]; omega, by simp only [w]; omega⟩
def Pre (s P : ByteArray) : Prop := ∃ R, s = P ++ R
theorem Pre.of {s P X : ByteArray} (h : Pre s (P ++ X)) : Pre s P := by
  obtain ⟨R, h⟩ := h
  exact ⟨X ++ R, by rw [h, ba_assoc]⟩
theorem Pre.size {s P : ByteArray} (h : Pre s P) : P.size ≤ s.size := by
  obtain ⟨R, rfl⟩ := h
  rw [ba_size]; omega
theorem nz : ¬ (((0 : Int) != 0) = true) := by decide
def WR (s : ByteArray) (c : Command) (r : Int × Command × Int) : Prop := Ends s r.1 r.2.2 ∧ r.2.1.F = c.F ∧ r.2.1.Value = c.Value
theorem whole0_tot {n : Nat} {s : ByteArray} (hs : s.size ≤ 100000) (hn : s.size ≤ n) (c : Command) {a : Int} (h0 : 0 ≤ a) (h1 : a ≤ (s.size : Int)) : ∃ r, F66s0 n c s a = some r ∧ WR s c r := by
  unfold F66s0
  obtain ⟨r0, q0, _, b0⟩ := num_tot hs hn h0 h1
  rw [q0, Option.bind_some]
  split
  · exact ⟨_, rfl, b0, rfl, rfl⟩
  obtain ⟨r1, q1, _, b1⟩ := num_tot hs hn b0.2.1 b0.2.2
  rw [q1, Option.bind_some]
  split
  · exact ⟨_, rfl, b1, rfl, rfl⟩
  obtain ⟨r2, q2, _, b2⟩ := num_tot hs hn b1.2.1 b1.2.2
  rw [q2, Option.bind_some]
  split
  · exact ⟨_, rfl, b2, rfl, rfl⟩
  exact ⟨_, rfl, ⟨.inl rfl, b2.2⟩, rfl, rfl⟩
theorem whole1_tot {n : Nat} {s : ByteArray} (hs : s.size ≤ 100000) (hn : s.size ≤ n) (c : Command) {a : Int} (h0 : 0 ≤ a) (h1 : a ≤ (s.size : Int)) : ∃ r, F66s1 n c s a = some r ∧ WR s c r := by
  unfold F66s1
  obtain ⟨r0, q0, _, b0⟩ := num_tot hs hn h0 h1
  rw [q0, Option.bind_some]
  split
  · exact ⟨_, rfl, b0, rfl, rfl⟩
  obtain ⟨r1, q1, _, b1⟩ := num_tot hs hn b0.2.1 b0.2.2
  rw [q1, Option.bind_some]
  split
  · exact ⟨_, rfl, b1, rfl, rfl⟩
  obtain ⟨r2, q2, _, b2⟩ := num_tot hs hn b1.2.1 b1.2.2
  rw [q2, Option.bind_some]
  split
  · exact ⟨_, rfl, b2, rfl, rfl⟩
  obtain ⟨r3, q3, _, b3⟩ := num_tot hs hn b2.2.1 b2.2.2
  rw [q3, Option.bind_some]
  split
  · exact ⟨_, rfl, b3, rfl, rfl⟩
  exact ⟨_, rfl, ⟨.inl rfl, b3.2⟩, rfl, rfl⟩
theorem whole2_tot {n : Nat} {s : ByteArray} (hs : s.size ≤ 100000) (hn : s.size ≤ n) (c : Command) {a : Int} (h0 : 0 ≤ a) (h1 : a ≤ (s.size : Int)) : ∃ r, F66s2 n c s a = some r ∧ WR s c r := by
  unfold F66s2
  obtain ⟨r0, q0, _, b0⟩ := num_tot hs hn h0 h1
  rw [q0, Option.bind_some]
  split
  · exact ⟨_, rfl, b0, rfl, rfl⟩
  obtain ⟨r1, q1, _, b1⟩ := num_tot hs hn b0.2.1 b0.2.2
  rw [q1, Option.bind_some]
  split
  · exact ⟨_, rfl, b1, rfl, rfl⟩
  exact ⟨_, rfl, ⟨.inl rfl, b1.2⟩, rfl, rfl⟩
theorem whole3_tot {n : Nat} {s : ByteArray} (hs : s.size ≤ 100000) (hn : s.size ≤ n) (c : Command) {a : Int} (h0 : 0 ≤ a) (h1 : a ≤ (s.size : Int)) : ∃ r, F66s3 n c s a = some r ∧ WR s c r := by
  unfold F66s3
  obtain ⟨r0, q0, _, b0⟩ := num_tot hs hn h0 h1
  rw [q0, Option.bind_some]
  split
  · exact ⟨_, rfl, b0, rfl, rfl⟩
  exact ⟨_, rfl, ⟨.inl rfl, b0.2⟩, rfl, rfl⟩
theorem whole4_tot {n : Nat} {s : ByteArray} (hs : s.size ≤ 100000) (hn : s.size ≤ n) (c : Command) {a : Int} (h0 : 0 ≤ a) (h1 : a ≤ (s.size : Int)) : ∃ r, F66s4 n c s a = some r ∧ WR s c r := by
  unfold F66s4
  obtain ⟨r0, q0, _, b0⟩ := num_tot hs hn h0 h1
  rw [q0, Option.bind_some]
  split
  · exact ⟨_, rfl, b0, rfl, rfl⟩
  obtain ⟨r1, q1, _, b1⟩ := num_tot hs hn b0.2.1 b0.2.2
  rw [q1, Option.bind_some]
  split
  · exact ⟨_, rfl, b1, rfl, rfl⟩
  exact ⟨_, rfl, ⟨.inl rfl, b1.2⟩, rfl, rfl⟩
theorem whole5_tot {n : Nat} {s : ByteArray} (hs : s.size ≤ 100000) (hn : s.size ≤ n) (c : Command) {a : Int} (h0 : 0 ≤ a) (h1 : a ≤ (s.size : Int)) : ∃ r, F66s5 n c s a = some r ∧ WR s c r := by
  unfold F66s5
  obtain ⟨r0, q0, _, b0⟩ := num_tot hs hn h0 h1
  rw [q0, Option.bind_some]
  split
  · exact ⟨_, rfl, b0, rfl, rfl⟩
  obtain ⟨r1, q1, _, b1⟩ := num_tot hs hn b0.2.1 b0.2.2
  rw [q1, Option.bind_some]
  split
  · exact ⟨_, rfl, b1, rfl, rfl⟩
  obtain ⟨r2, q2, _, b2⟩ := num_tot hs hn b1.2.1 b1.2.2
  rw [q2, Option.bind_some]
  split
  · exact ⟨_, rfl, b2, rfl, rfl⟩
  exact ⟨_, rfl, ⟨.inl rfl, b2.2⟩, rfl, rfl⟩
theorem whole6_tot {n : Nat} {s : ByteArray} (hs : s.size ≤ 100000) (hn : s.size ≤ n) (c : Command) {a : Int} (h0 : 0 ≤ a) (h1 : a ≤ (s.size : Int)) : ∃ r, F66s6 n c s a = some r ∧ WR s c r := by
  unfold F66s6
  obtain ⟨r0, q0, _, b0⟩ := num_tot hs hn h0 h1
  rw [q0, Option.bind_some]
  split
  · exact ⟨_, rfl, b0, rfl, rfl⟩
  obtain ⟨r1, q1, _, b1⟩ := num_tot hs hn b0.2.1 b0.2.2
  rw [q1, Option.bind_some]
  split
  · exact ⟨_, rfl, b1, rfl, rfl⟩
  exact ⟨_, rfl, ⟨.inl rfl, b1.2⟩, rfl, rfl⟩
theorem whole7_is (n : Nat) (s : ByteArray) (a : Int) : F66s7 n s a = some () := rfl
def zF : A4 Field := A4.mk (Field.mk 0 ByteArray.empty) (Field.mk 0 ByteArray.empty) (Field.mk 0 ByteArray.empty) (Field.mk 0 ByteArray.empty)
def zC : Command := Command.mk 0 0 0 0 (Point.mk 0 0) zF (Field.mk 0 ByteArray.empty) 0 0 (Rect.mk 0 0 0 0)
structure NR (c : Command) : Prop where
  n0 : I64 c.F.a0.N
  n1 : I64 c.F.a1.N
  n2 : I64 c.F.a2.N
  n3 : I64 c.F.a3.N
  v : I64 c.Value.N
theorem I64_0 : I64 0 := by unfold I64; omega
theorem zC_nr : NR zC := ⟨I64_0, I64_0, I64_0, I64_0, I64_0⟩
def RR (s : ByteArray) (r : Command × Int × Int) : Prop :=
  (isErr r.2.2 ∧ r.2.1 = 0 ∧ r.1 = zC) ∨ (r.2.2 = 0 ∧ isC r.1 = true ∧ NR r.1 ∧ r.2.1 = ((byC r.1).size : Int) ∧ (byC r.1).size ≤ s.size ∧ byC r.1 = s.extract 0 (byC r.1).size)
theorem ext0_size (s : ByteArray) (k : Nat) (h : k ≤ s.size) : (s.extract 0 k).size = k := by
  rw [ByteArray.size_extract]; omega
theorem read_j47 {n : Nat} (hn : 10 ≤ n) (s : ByteArray) (g : Command) (hg : NR g) {i : Int} (h0 : 0 ≤ i) (h1 : i ≤ (s.size : Int)) : ∃ r, F40_j47 n s g i = some r ∧ RR s r := by
  unfold F40_j47
  cases hc : isC g with
  | false =>
    rw [bytes_no hc, Option.bind_some, if_pos (by decide)]
    exact ⟨_, rfl, .inl ⟨.inr (.inl rfl), rfl, rfl⟩⟩
  | true =>
    rw [bytes_is hn hc, Option.bind_some, if_neg nz, if_pos ⟨h0, h1⟩]
    simp only
    cases e : ((byC g).toList == (s.extract 0 i.toNat).toList) with
    | false => exact ⟨_, rfl, .inl ⟨.inr (.inl rfl), rfl, rfl⟩⟩
    | true =>
      have q := (toList_eq _ _).1 e
      have hz : (byC g).size = i.toNat := by rw [q, ext0_size _ _ (by omega)]
      refine ⟨_, rfl, .inr ⟨rfl, hc, hg, by simp only; omega, by simp only; omega, ?_⟩⟩
      rw [hz]; exact q
theorem err_of {e : Int} (h : e = 0 ∨ isErr e) (hne : ¬ e = 0) : isErr e := h.resolve_left hne
theorem read_j20 {n : Nat} (hn : 10 ≤ n) (s : ByteArray) (g : Command) (hg : NR g) {e i : Int} (h : Ends s e i) : ∃ r, F40_j20 n s g e i = some r ∧ RR s r := by
  unfold F40_j20
  by_cases he : e = 0
  · rw [if_neg (by simp [he])]; exact read_j47 hn s g hg h.2.1 h.2.2
  · rw [if_pos (by simp [he])]; exact ⟨_, rfl, .inl ⟨err_of h.1 he, rfl, rfl⟩⟩
theorem read_j44 {n : Nat} (hn : 10 ≤ n) (s : ByteArray) (g : Command) (hg : NR g) {e i : Int} (h : Ends s e i) : ∃ r, F40_j44 n s g e i = some r ∧ RR s r := by
  unfold F40_j44
  by_cases he : e = 0
  · rw [if_neg (by simp [he])]; exact read_j47 hn s g hg h.2.1 h.2.2
  · rw [if_pos (by simp [he])]; exact ⟨_, rfl, .inl ⟨err_of h.1 he, rfl, rfl⟩⟩
theorem field_tot {n : Nat} {s : ByteArray} (hs : s.size ≤ 100000) (hn : s.size ≤ n) {i : Int} (h0 : 0 ≤ i) (h1 : i ≤ (s.size : Int)) (K : Field → Int → Int → Option (Command × Int × Int)) (N : Int → Int → Option (Command × Int × Int))
    (hK : ∀ f e a, I64 f.N → Ends s e a → ∃ r, K f e a = some r ∧ RR s r) (hN : ∀ e a, Ends s e a → ∃ r, N e a = some r ∧ RR s r) :
    ∃ r, (if 0 ≤ (i : Int) ∧ (i : Int) ≤ (s.size : Int) then
      (F67 n (s.extract i.toNat s.size) 12).bind fun (r39 : (ByteArray × Int × Int)) =>
      if r39.2.2 == 0 then
        (F64s0 n s (IntKind.wrap .i64 (i + r39.2.1))).bind fun (r40 : (Int × Int × Int)) => K (Field.mk r40.1 r39.1) r40.2.1 r40.2.2
      else N r39.2.2 (IntKind.wrap .i64 (i + r39.2.1))
      else none) = some r ∧ RR s r := by
  have hz := ext_size s i h0 h1
  obtain ⟨r, q1, q3⟩ := texts_eq n (s.extract i.toNat s.size) (by omega) (by omega)
  rw [if_pos ⟨h0, h1⟩, q1, Option.bind_some]
  rcases q3 with ⟨e0, k1, k2⟩ | ⟨e0, k0, k1⟩
  · have w : IntKind.wrap .i64 (i + r.2.1) = i + r.2.1 := w64 (by omega) (by omega)
    rw [if_pos (by simp [e0]), w]
    obtain ⟨p, u1, u2, u3⟩ := num_tot hs hn (a := i + r.2.1) (by omega) (by omega)
    rw [u1, Option.bind_some]
    exact hK _ _ _ u2 u3
  · have w : IntKind.wrap .i64 (i + r.2.1) = i := by rw [k1, w64 (by omega) (by omega)]; omega
    rw [if_neg (by simp [isErr_ne e0]), w]
    exact hN _ _ ⟨.inr e0, h0, h1⟩
theorem read_j38 {n : Nat} (hn : 10 ≤ n) {s : ByteArray} (hs : s.size ≤ 100000) (hm : s.size ≤ n) (g : Command) (hg : NR g) {e i : Int} (h : Ends s e i) : ∃ r, F40_j38 n s g e i = some r ∧ RR s r := by
  unfold F40_j38
  by_cases he : e = 0
  · rw [if_neg (by simp [he])]
    exact field_tot hs hm h.2.1 h.2.2 (fun f e a => F40_j44 n s (Command.mk g.Kind g.ID g.Which g.To g.At (A4.mk g.F.a0 g.F.a1 g.F.a2 f) g.Value g.Client g.Session g.Rect) e a) (fun e a => F40_j44 n s g e a)
      (fun f e a hf ha => read_j44 hn s (Command.mk g.Kind g.ID g.Which g.To g.At (A4.mk g.F.a0 g.F.a1 g.F.a2 f) g.Value g.Client g.Session g.Rect) ⟨hg.n0, hg.n1, hg.n2, hf, hg.v⟩ ha) (fun e a ha => read_j44 hn s g hg ha)
  · rw [if_pos (by simp [he])]; exact ⟨_, rfl, .inl ⟨err_of h.1 he, rfl, rfl⟩⟩
theorem read_j32 {n : Nat} (hn : 10 ≤ n) {s : ByteArray} (hs : s.size ≤ 100000) (hm : s.size ≤ n) (g : Command) (hg : NR g) {e i : Int} (h : Ends s e i) : ∃ r, F40_j32 n s g e i = some r ∧ RR s r := by
  unfold F40_j32
  by_cases he : e = 0
  · rw [if_neg (by simp [he])]
    exact field_tot hs hm h.2.1 h.2.2 (fun f e a => F40_j38 n s (Command.mk g.Kind g.ID g.Which g.To g.At (A4.mk g.F.a0 g.F.a1 f g.F.a3) g.Value g.Client g.Session g.Rect) e a) (fun e a => F40_j38 n s g e a)
      (fun f e a hf ha => read_j38 hn hs hm (Command.mk g.Kind g.ID g.Which g.To g.At (A4.mk g.F.a0 g.F.a1 f g.F.a3) g.Value g.Client g.Session g.Rect) ⟨hg.n0, hg.n1, hf, hg.n3, hg.v⟩ ha) (fun e a ha => read_j38 hn hs hm g hg ha)
  · rw [if_pos (by simp [he])]; exact ⟨_, rfl, .inl ⟨err_of h.1 he, rfl, rfl⟩⟩
theorem read_j26 {n : Nat} (hn : 10 ≤ n) {s : ByteArray} (hs : s.size ≤ 100000) (hm : s.size ≤ n) (g : Command) (hg : NR g) {e i : Int} (h : Ends s e i) : ∃ r, F40_j26 n s g e i = some r ∧ RR s r := by
  unfold F40_j26
  by_cases he : e = 0
  · rw [if_neg (by simp [he])]
    exact field_tot hs hm h.2.1 h.2.2 (fun f e a => F40_j32 n s (Command.mk g.Kind g.ID g.Which g.To g.At (A4.mk g.F.a0 f g.F.a2 g.F.a3) g.Value g.Client g.Session g.Rect) e a) (fun e a => F40_j32 n s g e a)
      (fun f e a hf ha => read_j32 hn hs hm (Command.mk g.Kind g.ID g.Which g.To g.At (A4.mk g.F.a0 f g.F.a2 g.F.a3) g.Value g.Client g.Session g.Rect) ⟨hg.n0, hf, hg.n2, hg.n3, hg.v⟩ ha) (fun e a ha => read_j32 hn hs hm g hg ha)
  · rw [if_pos (by simp [he])]; exact ⟨_, rfl, .inl ⟨err_of h.1 he, rfl, rfl⟩⟩
theorem read_j13 {n : Nat} (hn : 10 ≤ n) {s : ByteArray} (hs : s.size ≤ 100000) (hm : s.size ≤ n) (g : Command) (hg : NR g) {e i : Int} (h : Ends s e i) : ∃ r, F40_j13 n s g e i = some r ∧ RR s r := by
  unfold F40_j13
  by_cases he : e = 0
  · rw [if_neg (by simp [he]), values_eq, Option.bind_some]
    by_cases k1 : g.Kind = 1
    · rw [if_pos k1, if_neg (by decide), if_pos rfl]
      exact field_tot hs hm h.2.1 h.2.2 (fun f e a => F40_j26 n s (Command.mk g.Kind g.ID g.Which g.To g.At (A4.mk f g.F.a1 g.F.a2 g.F.a3) g.Value g.Client g.Session g.Rect) e a) (fun e a => F40_j26 n s g e a)
        (fun f e a hf ha => read_j26 hn hs hm (Command.mk g.Kind g.ID g.Which g.To g.At (A4.mk f g.F.a1 g.F.a2 g.F.a3) g.Value g.Client g.Session g.Rect) ⟨hf, hg.n1, hg.n2, hg.n3, hg.v⟩ ha) (fun e a ha => read_j26 hn hs hm g hg ha)
    · rw [if_neg k1]
      by_cases k3 : g.Kind = 3
      · rw [if_pos k3, if_neg (by decide), if_neg (by decide), if_pos rfl]
        exact field_tot hs hm h.2.1 h.2.2 (fun f e a => F40_j20 n s (Command.mk g.Kind g.ID g.Which g.To g.At g.F f g.Client g.Session g.Rect) e a) (fun e a => F40_j20 n s g e a)
          (fun f e a hf ha => read_j20 hn s (Command.mk g.Kind g.ID g.Which g.To g.At g.F f g.Client g.Session g.Rect) ⟨hg.n0, hg.n1, hg.n2, hg.n3, hf⟩ ha) (fun e a ha => read_j20 hn s g hg ha)
      · rw [if_neg k3, if_pos rfl]
        exact read_j47 hn s g hg h.2.1 h.2.2
  · rw [if_pos (by simp [he])]; exact ⟨_, rfl, .inl ⟨err_of h.1 he, rfl, rfl⟩⟩
theorem parts_lt (c : Command) : (if c.Kind = 1 then 1 else if c.Kind = 2 then 2 else if c.Kind = 3 then 3 else if c.Kind = 4 then 4 else if c.Kind = 5 then 5 else if c.Kind = 6 ∨ c.Kind = 7 then 6 else 0) < 7 := by
  repeat' split
  all_goals omega
theorem nr_of {g c : Command} (hg : NR g) (h1 : c.F = g.F) (h2 : c.Value = g.Value) : NR c := by
  obtain ⟨a, b, d, e, f⟩ := hg
  exact ⟨by rw [h1]; exact a, by rw [h1]; exact b, by rw [h1]; exact d, by rw [h1]; exact e, by rw [h2]; exact f⟩
theorem read_tot {n : Nat} (hn : 10 ≤ n) {s : ByteArray} (hs : s.size ≤ 100000) (hm : s.size ≤ n) : ∃ r, F40 n s = some r ∧ RR s r := by
  unfold F40
  obtain ⟨r, q, w, wf, wv⟩ := whole0_tot hs hm zC (a := 0) (by omega) (by omega)
  refine Eq.subst (motive := fun x => ∃ r, Option.bind x _ = some r ∧ RR s r) q.symm ?_
  rw [Option.bind_some]
  by_cases he : r.1 = 0
  · rw [if_neg (by simp [he]), parts_eq, Option.bind_some]
    have hg := nr_of zC_nr wf wv
    have hk := parts_lt r.2.1
    generalize (if r.2.1.Kind = 1 then 1 else if r.2.1.Kind = 2 then 2 else if r.2.1.Kind = 3 then 3 else if r.2.1.Kind = 4 then 4 else if r.2.1.Kind = 5 then 5 else if r.2.1.Kind = 6 ∨ r.2.1.Kind = 7 then 6 else 0) = k at hk ⊢
    by_cases k0 : k = 0
    · rw [if_pos k0, whole7_is, Option.bind_some]
      exact read_j13 hn hs hm _ hg ⟨.inl rfl, w.2⟩
    rw [if_neg k0]
    by_cases k1 : k = 1
    · rw [if_pos k1]
      obtain ⟨p, u, v, vf, vv⟩ := whole6_tot hs hm r.2.1 w.2.1 w.2.2
      rw [u, Option.bind_some]
      exact read_j13 hn hs hm _ (nr_of hg vf vv) v
    rw [if_neg k1]
    by_cases k2 : k = 2
    · rw [if_pos k2]
      obtain ⟨p, u, v, vf, vv⟩ := whole5_tot hs hm r.2.1 w.2.1 w.2.2
      rw [u, Option.bind_some]
      exact read_j13 hn hs hm _ (nr_of hg vf vv) v
    rw [if_neg k2]
    by_cases k3 : k = 3
    · rw [if_pos k3]
      obtain ⟨p, u, v, vf, vv⟩ := whole4_tot hs hm r.2.1 w.2.1 w.2.2
      rw [u, Option.bind_some]
      exact read_j13 hn hs hm _ (nr_of hg vf vv) v
    rw [if_neg k3]
    by_cases k4 : k = 4
    · rw [if_pos k4]
      obtain ⟨p, u, v, vf, vv⟩ := whole3_tot hs hm r.2.1 w.2.1 w.2.2
      rw [u, Option.bind_some]
      exact read_j13 hn hs hm _ (nr_of hg vf vv) v
    rw [if_neg k4]
    by_cases k5 : k = 5
    · rw [if_pos k5]
      obtain ⟨p, u, v, vf, vv⟩ := whole2_tot hs hm r.2.1 w.2.1 w.2.2
      rw [u, Option.bind_some]
      exact read_j13 hn hs hm _ (nr_of hg vf vv) v
    rw [if_neg k5]
    by_cases k6 : k = 6
    · rw [if_pos k6]
      obtain ⟨p, u, v, vf, vv⟩ := whole1_tot hs hm r.2.1 w.2.1 w.2.2
      rw [u, Option.bind_some]
      exact read_j13 hn hs hm _ (nr_of hg vf vv) v
    rw [if_neg k6]
    omega
  · rw [if_pos (by simp [he])]; exact ⟨_, rfl, .inl ⟨err_of w.1 he, rfl, rfl⟩⟩
theorem fewR (n : Nat) (c : Command) : ∃ b, F33 n c = some b := by
  unfold F33
  repeat' split
  all_goals exact ⟨_, rfl⟩
theorem zC_eqb : Command.eqb zC (Command.mk 0 0 0 0 (Point.mk 0 0) (A4.mk (Field.mk 0 ByteArray.empty) (Field.mk 0 ByteArray.empty) (Field.mk 0 ByteArray.empty) (Field.mk 0 ByteArray.empty)) (Field.mk 0 ByteArray.empty) 0 0 (Rect.mk 0 0 0 0)) = true := (Command.eqb_iff _ _).2 rfl
theorem reads_eq {n : Nat} (hn : 500 ≤ n) {s : ByteArray} (hs : s.size ≤ 400) : F41 n s = some true := by
  obtain ⟨⟨c, k, e⟩, hr, h⟩ := read_tot (n := n) (by omega) (s := s) (by omega) (by omega)
  unfold F41
  rw [hr, Option.bind_some]
  rcases h with ⟨he, h0, hz⟩ | ⟨he, hc, hg, h1, h2, h3⟩
  · simp only at he h0 hz ⊢
    subst h0 hz
    rcases he with rfl | rfl | rfl
    · simp only [zC_eqb]; rfl
    · simp only [zC_eqb]; rfl
    · simp only [zC_eqb]; rfl
  · simp only at he hc hg h1 h2 h3 ⊢
    subst he h1
    rw [if_neg (by decide), bytes_is (by omega) hc, Option.bind_some, ris_eq, hc]
    have q : ((s.extract 0 ((byC c).size : Int).toNat).toList == (byC c).toList) = true := by
      rw [toList_eq, Int.toNat_natCast]; exact h3.symm
    simp only [beq_self_eq_true, if_true, q, Option.bind_some]
    rw [if_pos (by simp; omega), if_pos ⟨by omega, by omega⟩]
theorem cmdReads_pure (a0 : Command) (a1 a2 : Int) (a3 : ByteArray) (_ : Command.wf a0) (w1 : (Lit.int .u8 a1).wf = true) (_ : (Lit.int .u8 a2).wf = true) (_ : a3.size ≤ maxLen) : ∃ n, F11 n a0 a1 a2 a3 = some true := by
  refine ⟨500, ?_⟩
  obtain ⟨b1, h1⟩ := fewR 500 a0
  have h3 : 0 ≤ a1 ∧ a1 ≤ 255 := by simpa [Lit.wf, IntKind.min, IntKind.max, IntKind.bits, IntKind.signed] using w1
  unfold F11
  simp only [Option.bind_some, Bool.not_true, Bool.false_eq_true, if_false, h1]
  cases b1 with
  | false => rfl
  | true =>
    simp only [Bool.not_true, Bool.false_eq_true, if_false]
    by_cases g : (300 : Int) < (a3.size : Int)
    · rw [if_pos (by simpa using g)]
    rw [if_neg (by simpa using g), reads_eq (by omega) (by omega)]
    cases hc : isC a0 with
    | false => rw [bytes_no hc]; rfl
    | true =>
      have hz := byC_size (isC_in hc)
      rw [bytes_is (by omega) hc]
      simp only [Option.bind_some, beq_self_eq_true, if_true]
      have hl : (bytesL (byC a0)).length = (byC a0).size := bytesL_len _
      rw [if_pos (by simp; omega), hl, if_pos (by omega), if_pos (by omega)]
      have m : Int.tmod (IntKind.wrap .i64 a1) ((byC a0).size : Int) = ((a1 % ((byC a0).size : Int)).toNat : Int) := by
        have e : IntKind.wrap .i64 a1 = a1 := by simp [IntKind.wrap, IntKind.bits, IntKind.signed]; omega
        rw [e, Int.tmod_eq_emod_of_nonneg h3.1]
        have := Int.emod_nonneg a1 (by omega : ((byC a0).size : Int) ≠ 0)
        omega
      have m2 := Int.emod_lt_of_pos a1 (by omega : (0 : Int) < ((byC a0).size : Int))
      have m3 := Int.emod_nonneg a1 (by omega : ((byC a0).size : Int) ≠ 0)
      have hi : (a1 % ((byC a0).size : Int)).toNat < (bytesL (byC a0)).length := by omega
      rw [m]
      generalize (a1 % ((byC a0).size : Int)).toNat = i at *
      have hx : ix (bytesL (byC a0)) (i : Int) = some (bytesL (byC a0))[i] := by
        unfold ix; simp [hi]
      rw [hx, Option.bind_some, Option.bind_some, Int.toNat_natCast]
      have hm : (mkStr ((bytesL (byC a0)).set i (bitsI .xor .u8 (bytesL (byC a0))[i] a2))).size ≤ 400 := by
        rw [mkStr_size, List.length_set]; omega
      rw [reads_eq (by omega) hm]
      rfl

end Go.Proofs.Ythmbegagkgdopaa
