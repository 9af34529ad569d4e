/-
  The bytes of deltas. No condition.
-/
import Derived.Test.YtobeamaaifgllaaEventTellsTc0
import Derived.Test.YtobeamaaifgllaaEventTellsP1
namespace Go.Proofs.Ytobeamaaifgllaa
open Go Go.Rx
set_option maxRecDepth 100000
set_option linter.unusedSimpArgs false
set_option linter.unnecessarySimpa false
set_option linter.unusedVariables false
theorem put_l (n : Nat) : ∀ (k m : Nat) (x : Int) (l : List Int), 1 ≤ k → 0 ≤ x → x < 128 ^ k → k < m → l.length + k ≤ 1000 → F65_l7 n m x l = some (mkStr (l ++ putL k x))
  | 0, m, x, l, hk, h0, h1, _, _ => by omega
  | k + 1, 0, x, l, _, _, _, h, _ => by omega
  | k + 1, m + 1, x, l, _, h0, h1, h2, h3 => by
    have hc : (l.length + 1) * 1 ≤ maxCells ∧ l.length + 1 ≤ maxCells := by simp only [maxCells]; omega
    unfold F65_l7 putL
    by_cases h : 128 ≤ x
    · have hx : x / 128 < 128 ^ k := by
        rw [Int.pow_succ] at h1
        exact Int.ediv_lt_of_lt_mul (by decide) h1
      simp only [h, decide_true, if_true, if_pos hc, shr7]
      have hk : 1 ≤ k := by
        cases k with
        | zero => simp at h1; omega
        | succ k => omega
      rw [put_l n k m (x / 128) _ hk (by omega) hx (by omega) (by simp only [List.length_append, List.length_cons, List.length_nil]; omega)]
      simp only [List.append_assoc, List.cons_append, List.nil_append]
      rfl
    · simp only [h, decide_false, Bool.false_eq_true, if_false]
      rw [if_pos hc]
theorem put_eq {n : Nat} (hn : 10 ≤ n) {x : Int} (h0 : 0 ≤ x) (h1 : x < 18446744073709551616) : F65 n x = some (pt x) := by
  unfold F65
  rw [put_l n 10 (n + 8) x [] (by omega) h0 (pow10 h1) (by omega) (by simp)]
  rfl
theorem rput_l (n : Nat) : ∀ (k m : Nat) (x : Int) (s : ByteArray), 1 ≤ k → 0 ≤ x → x < 18446744073709551616 → x < 128 ^ k → k < m → s.size + k ≤ 1000 → F60_l7 n m x s = some (s ++ mkStr (putL k x))
  | 0, m, x, l, hk, h0, _, h1, _, _ => by omega
  | k + 1, 0, x, l, _, _, _, _, h, _ => by omega
  | k + 1, m + 1, x, s, _, h0, hx64, h1, h2, h3 => by
    unfold F60_l7 putL
    by_cases h : 128 ≤ x
    · have hx : x / 128 < 128 ^ k := by
        rw [Int.pow_succ] at h1
        exact Int.ediv_lt_of_lt_mul (by decide) h1
      have hd : decide (x < 128) = false := by simp; omega
      have hc : s.size + (mkStr [ch x]).size ≤ 9223372036854775807 := by rw [mkStr_size]; simp only [List.length_cons, List.length_nil]; omega
      simp only [hd, Bool.false_eq_true, if_false, ch_ref h0 hx64, if_pos hc, shr7, if_pos h]
      have hk : 1 ≤ k := by
        cases k with
        | zero => simp at h1; omega
        | succ k => omega
      rw [rput_l n k m (x / 128) _ hk (by omega) (by omega) hx (by omega) (by rw [ba_size, mkStr_size]; simp only [List.length_cons, List.length_nil]; omega), ba_assoc, ← mkStr_app]
      rfl
    · have hd : decide (x < 128) = true := by simp; omega
      have hc : s.size + (mkStr [IntKind.wrap .u8 x]).size ≤ 9223372036854775807 := by rw [mkStr_size]; simp only [List.length_cons, List.length_nil]; omega
      simp only [hd, if_true, if_pos hc, if_neg h]
theorem rput_eq {n : Nat} (hn : 10 ≤ n) {x : Int} (h0 : 0 ≤ x) (h1 : x < 18446744073709551616) : F60 n x = some (pt x) := by
  unfold F60
  rw [rput_l n 10 (n + 8) x ByteArray.empty (by omega) h0 h1 (pow10 h1) (by omega) (by show 0 + 10 ≤ 1000; omega), ba_nil]
  rfl
theorem pu_eq {n : Nat} (hn : 10 ≤ n) (x : Int) : F65 n (IntKind.wrap .u64 x) = some (pu x) := put_eq hn (u64_in x).1 (u64_in x).2
theorem rpu_eq {n : Nat} (hn : 10 ≤ n) (x : Int) : F60 n (IntKind.wrap .u64 x) = some (pu x) := rput_eq hn (u64_in x).1 (u64_in x).2
theorem tx_eq {n : Nat} (hn : 10 ≤ n) {s : ByteArray} (h : s.size ≤ 1000) : F100 n s = some (tx s) := by
  unfold F100
  have := pu_size (s.size : Int)
  rw [pu_eq hn]
  simp only [Option.bind_some]
  rw [if_pos (by omega)]; rfl
theorem rtx_eq {n : Nat} (hn : 10 ≤ n) {s : ByteArray} (h : s.size ≤ 1000) : F61 n s = some (tx s) := by
  unfold F61
  have := pu_size (s.size : Int)
  rw [rpu_eq hn]
  simp only [Option.bind_some]
  rw [if_pos (by omega)]; rfl
theorem zg_eq {n : Nat} (hn : 10 ≤ n) (x : Int) : F101 n x = some (zg x) := by
  unfold F101 F114
  simp only [Option.bind_some]
  rw [put_eq hn (xor_in _ _).1 (xor_in _ _).2]
  rfl
theorem rzg_eq {n : Nat} (hn : 10 ≤ n) (x : Int) : F62 n x = some (zg x) := by
  unfold F62 F98
  simp only [Option.bind_some]
  rw [rput_eq hn (xor_in _ _).1 (xor_in _ _).2]
  rfl
theorem stg {α : Type} {n : Nat} (hn : 10 ≤ n) (s : ByteArray) (f : Field) (e : Bool) (h1 : s.size ≤ 1000) (h2 : f.Text.size ≤ 40) (K : ByteArray → Option α) :
    (if (!e) = true then K s else (F100 n f.Text).bind fun r => if s.size + r.size ≤ 9223372036854775807 then if (f.Text.toList == ByteArray.empty.toList) = true then (F101 n f.N).bind fun r2 => if (s ++ r).size + r2.size ≤ 9223372036854775807 then K ((s ++ r) ++ r2) else none else K (s ++ r) else none) = K (stage s f e) := by
  have a1 := tx_size f.Text
  have hz : (zg f.N).size ≤ 10 := (pt_size _).1
  cases e with
  | false => rfl
  | true =>
    simp only [Bool.not_true, Bool.false_eq_true, if_false, tx_eq hn (show f.Text.size ≤ 1000 by omega), zg_eq hn, Option.bind_some]
    rw [if_pos (by omega)]
    unfold stage isE
    cases f.Text.toList == ByteArray.empty.toList with
    | false => rfl
    | true =>
      simp only [if_true]
      rw [if_pos (by rw [ba_size]; omega)]
theorem rstg {α : Type} {n : Nat} (hn : 10 ≤ n) (s : ByteArray) (f : Field) (e : Bool) (h1 : s.size ≤ 1000) (h2 : f.Text.size ≤ 40) (K : ByteArray → Option α) :
    (if e = true then (F61 n f.Text).bind fun r => if s.size + r.size ≤ 9223372036854775807 then if (f.Text.toList == ByteArray.empty.toList) = true then (F62 n f.N).bind fun r2 => if (s ++ r).size + r2.size ≤ 9223372036854775807 then K ((s ++ r) ++ r2) else none else K (s ++ r) else none else K s) = K (stage s f e) := by
  have a1 := tx_size f.Text
  have hz : (zg f.N).size ≤ 10 := (pt_size _).1
  cases e with
  | false => rfl
  | true =>
    simp only [if_true, rtx_eq hn (show f.Text.size ≤ 1000 by omega), rzg_eq hn, Option.bind_some]
    rw [if_pos (by omega)]
    unfold stage isE
    cases f.Text.toList == ByteArray.empty.toList with
    | false => rfl
    | true =>
      simp only [if_true]
      rw [if_pos (by rw [ba_size]; omega)]
theorem body_eq {n : Nat} (hn : 10 ≤ n) (d : Delta) (hf : Few d) (s : ByteArray) (h : s.size ≤ 100) : F63_j7 n d s = some (body s d, 0) := by
  obtain ⟨f0, f1, f2, f3⟩ := hf
  have z1 := stage_size s d.F.a0 (hs d.Mask 1) f0
  have z2 := stage_size (stage s d.F.a0 (hs d.Mask 1)) d.F.a1 (hs d.Mask 2) f1
  have z3 := stage_size (stage (stage s d.F.a0 (hs d.Mask 1)) d.F.a1 (hs d.Mask 2)) d.F.a2 (hs d.Mask 3) f2
  unfold F63_j7
  simp only [has0, Option.bind_some]
  rw [stg hn s d.F.a0 _ (by omega) f0 (fun s => F63_u12 n d s)]
  unfold F63_u12
  simp only [has1, Option.bind_some]
  rw [stg hn _ d.F.a1 _ (by omega) f1 (fun s => F63_u17 n d s)]
  unfold F63_u17
  simp only [has2, Option.bind_some]
  rw [stg hn _ d.F.a2 _ (by omega) f2 (fun s => F63_u22 n d s)]
  unfold F63_u22
  simp only [has3, Option.bind_some]
  rw [stg hn _ d.F.a3 _ (by omega) f3 (fun s => F63_u27 n s)]
  rfl
theorem bne_hs {m : Int} (hw : (Lit.int .u8 m).wf = true) : (bitsI .and .u8 (shrI .u8 m 1) 1 != 0) = hs m 1 ∧ (bitsI .and .u8 (shrI .u8 m 2) 1 != 0) = hs m 2 ∧ (bitsI .and .u8 (shrI .u8 m 3) 1 != 0) = hs m 3 ∧ (bitsI .and .u8 (shrI .u8 m 4) 1 != 0) = hs m 4 := by
  obtain ⟨k1, k2, k3, k4⟩ := hs_no hw
  simp only [bne, k1, k2, k3, k4, Bool.not_not, and_self]
theorem rbody_eq {n : Nat} (hn : 10 ≤ n) (d : Delta) (hw : (Lit.int .u8 d.Mask).wf = true) (hf : Few d) (s : ByteArray) (h : s.size ≤ 100) : F19_j6 n d s = some (body s d) := by
  obtain ⟨f0, f1, f2, f3⟩ := hf
  obtain ⟨k1, k2, k3, k4⟩ := bne_hs hw
  have z1 := stage_size s d.F.a0 (hs d.Mask 1) f0
  have z2 := stage_size (stage s d.F.a0 (hs d.Mask 1)) d.F.a1 (hs d.Mask 2) f1
  have z3 := stage_size (stage (stage s d.F.a0 (hs d.Mask 1)) d.F.a1 (hs d.Mask 2)) d.F.a2 (hs d.Mask 3) f2
  unfold F19_j6
  rw [k1, rstg hn s d.F.a0 _ (by omega) f0 (fun s => F19_u10 n d s)]
  unfold F19_u10
  rw [k2, rstg hn _ d.F.a1 _ (by omega) f1 (fun s => F19_u14 n d s)]
  unfold F19_u14
  rw [k3, rstg hn _ d.F.a2 _ (by omega) f2 (fun s => F19_u18 n d s)]
  unfold F19_u18
  rw [k4, rstg hn _ d.F.a3 _ (by omega) f3 (fun s => F19_u22 n s)]
  rfl
theorem bytes_eq {n : Nat} (hn : 10 ≤ n) (d : Delta) (hf : Few d) : F63 n d = some (if isD d then (body (head d) d, 0) else (ByteArray.empty, 11)) := by
  have p1 := pu_size d.ID; have p2 := pu_size d.Mask; have p3 := pu_size d.At.X; have p4 := pu_size d.At.Y
  have hh := head_size d
  unfold F63
  simp only [isD_eq, Option.bind_some, pu_eq hn]
  cases hd : isD d with
  | false => simp
  | true =>
    simp only [Bool.not_true, Bool.false_eq_true, if_false, if_true]
    rw [if_pos (by omega)]
    unfold head at hh ⊢
    cases h1 : a1 d with
    | false =>
      have h1' : (bitsI .and .u8 d.Mask 1 != 0) = false := h1
      rw [h1] at hh
      simp only [h1', Bool.false_eq_true, if_false] at hh ⊢
      exact body_eq hn d hf _ (by omega)
    | true =>
      have h1' : (bitsI .and .u8 d.Mask 1 != 0) = true := h1
      rw [h1] at hh
      simp only [h1', if_true] at hh ⊢
      rw [if_pos (by omega), if_pos (by rw [ba_size, ba_size]; omega)]
      exact body_eq hn d hf _ (by omega)
theorem rbytes_eq {n : Nat} (hn : 10 ≤ n) (d : Delta) (hw : (Lit.int .u8 d.Mask).wf = true) (hf : Few d) : F19 n d = some (body (head d) d) := by
  have p1 := pu_size d.ID; have p2 := pu_size d.Mask; have p3 := pu_size d.At.X; have p4 := pu_size d.At.Y
  have hh := head_size d
  unfold F19
  simp only [Option.bind_some, rpu_eq hn]
  rw [if_pos (by omega)]
  unfold head at hh ⊢
  cases h1 : a1 d with
  | false =>
    have h1' : (bitsI .and .u8 d.Mask 1 != 0) = false := h1
    rw [h1] at hh
    simp only [h1', Bool.false_eq_true, if_false] at hh ⊢
    exact rbody_eq hn d hw hf _ (by omega)
  | true =>
    have h1' : (bitsI .and .u8 d.Mask 1 != 0) = true := h1
    rw [h1] at hh
    simp only [h1', if_true] at hh ⊢
    rw [if_pos (by rw [ba_size]; omega), if_pos (by rw [ba_size, ba_size]; omega), ba_assoc]
    exact rbody_eq hn d hw hf _ (by omega)
end Go.Proofs.Ytobeamaaifgllaa
