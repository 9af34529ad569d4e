/-
  Things: which are any, their bytes, rows of them. No condition.
-/
import Derived.Test.YtobeamaaifgllaaThingManyTc
import Derived.Test.YtobeamaaifgllaaThingManyP1
namespace Go.Proofs.Ytobeamaaifgllaa
open Go Go.Rx
set_option maxRecDepth 100000
set_option linter.unusedSimpArgs false
set_option linter.unnecessarySimpa false
set_option linter.unusedVariables false

theorem ixg {α : Type} (l : List α) (i : Nat) (h : i < l.length) : ix l (i : Int) = some l[i] := by
  simp [ix, h]
theorem dsucc {i : Nat} (h : i < maxLen) : IntKind.wrap .i64 ((i : Int) + 1) = ((i + 1 : Nat) : Int) := by
  simp only [maxLen] at h
  simp [IntKind.wrap, IntKind.bits, IntKind.signed]; omega
theorem lt_dec {i n : Nat} (h : i < n) : decide ((i : Int) < (n : Int)) = true := by simp; omega
theorem ge_dec {i n : Nat} (h : ¬ i < n) : decide ((i : Int) < (n : Int)) = false := by simp; omega
theorem dropS {α : Type} (l : List α) (i : Nat) (h : i < l.length) : l.drop i = l[i] :: l.drop (i + 1) := (List.getElem_cons_drop (h := h)).symm

def fewF (f : Field) : Bool := decide ((f.Text.size : Int) ≤ 40)
def fewT (t : Thing) : Bool := fewF t.F.a0 && (fewF t.F.a1 && (fewF t.F.a2 && fewF t.F.a3))
theorem few_eq (n : Nat) (t : Thing) : F16 n t = some (fewT t) := by
  unfold F16 F57 fewT
  simp only [Option.bind_some]
  change (if (!(fewF t.F.a0)) = true then some false else if (!(fewF t.F.a1)) = true then some false else if (!(fewF t.F.a2)) = true then some false else if (!(fewF t.F.a3)) = true then some false else some true) = _
  cases fewF t.F.a0 <;> cases fewF t.F.a1 <;> cases fewF t.F.a2 <;> cases fewF t.F.a3 <;> rfl
theorem fews_l (n : Nat) (l : List Thing) (hl : l.length ≤ maxLen) : ∀ (m i : Nat), i ≤ l.length → l.length - i < m → F17_l4 n l m (i : Int) = some ((l.drop i).all fewT && decide ((l.length : Int) ≤ 30))
  | 0, i, _, h => by omega
  | m + 1, i, hi, h => by
    unfold F17_l4
    by_cases hlt : i < l.length
    · rw [if_pos (lt_dec hlt), ixg l i hlt, dropS l i hlt, List.all_cons]
      simp only [Option.bind_some, few_eq]
      cases fewT l[i] with
      | false => simp
      | true =>
        simp only [Bool.not_true, Bool.false_eq_true, if_false, Bool.true_and]
        rw [dsucc (by omega)]
        exact fews_l n l hl m (i + 1) (by omega) (by omega)
    · have : i = l.length := by omega
      subst this
      rw [if_neg (by rw [ge_dec (by omega)]; decide), List.drop_length]
      rfl
def few (l : List Thing) : Bool := l.all fewT && decide ((l.length : Int) ≤ 30)
theorem fews_eq {n : Nat} (l : List Thing) (hl : l.length ≤ maxLen) (hn : l.length ≤ n) : F17 n l = some (few l) := by
  unfold F17
  have := fews_l n l hl (n + 8) 0 (by omega) (by omega)
  unfold few
  simpa using this

/-! ### which are any -/

def isTh (t : Thing) : Bool := decide (0 ≤ t.ID) && (decide (t.ID ≤ 1000000) && (on t.At && (isF t.F.a0 && (isF t.F.a1 && (isF t.F.a2 && isF t.F.a3)))))
theorem not_eq (n : Nat) (f : Field) : F69 n f = some (!(isF f)) := by
  unfold F69
  simp only [isF_eq, Option.bind_some]
theorem is_eq (n : Nat) (t : Thing) : F24 n t = some (isTh t) := by
  have hz : ∀ a b c d : Field, F68s0 n [a, b, c, d] = some (!(isF a && (isF b && (isF c && isF d)))) := by
    intro a b c d
    unfold F68s0 F103s0
    unfold F103s0_l4
    have w1 : IntKind.wrap .i64 ((0 : Int) + 1) = 1 := by decide
    have w2 : IntKind.wrap .i64 ((1 : Int) + 1) = 2 := by decide
    have w3 : IntKind.wrap .i64 ((2 : Int) + 1) = 3 := by decide
    have w4 : IntKind.wrap .i64 ((3 : Int) + 1) = 4 := by decide
    have x0 : ix [a, b, c, d] 0 = some a := rfl
    have x1 : ix [a, b, c, d] 1 = some b := rfl
    have x2 : ix [a, b, c, d] 2 = some c := rfl
    have x3 : ix [a, b, c, d] 3 = some d := rfl
    have l0 : decide ((0 : Int) < (([a, b, c, d] : List Field).length : Int)) = true := rfl
    have l1 : decide ((1 : Int) < (([a, b, c, d] : List Field).length : Int)) = true := rfl
    have l2 : decide ((2 : Int) < (([a, b, c, d] : List Field).length : Int)) = true := rfl
    have l3 : decide ((3 : Int) < (([a, b, c, d] : List Field).length : Int)) = true := rfl
    have l4 : decide ((4 : Int) < (([a, b, c, d] : List Field).length : Int)) = false := rfl
    rw [if_pos l0, x0]
    simp only [Option.bind_some, not_eq]
    cases isF a with
    | false => rfl
    | true =>
      simp only [Bool.not_true, Bool.false_eq_true, if_false, Bool.true_and]
      rw [w1]
      unfold F103s0_l4
      rw [if_pos l1, x1]
      simp only [Option.bind_some, not_eq]
      cases isF b with
      | false => rfl
      | true =>
        simp only [Bool.not_true, Bool.false_eq_true, if_false, Bool.true_and]
        rw [w2]
        unfold F103s0_l4
        rw [if_pos l2, x2]
        simp only [Option.bind_some, not_eq]
        cases isF c with
        | false => rfl
        | true =>
          simp only [Bool.not_true, Bool.false_eq_true, if_false, Bool.true_and]
          rw [w3]
          unfold F103s0_l4
          rw [if_pos l3, x3]
          simp only [Option.bind_some, not_eq]
          cases isF d with
          | false => rfl
          | true =>
            simp only [Bool.not_true, Bool.false_eq_true, if_false]
            rw [w4]
            unfold F103s0_l4
            rw [if_neg (by rw [l4]; decide)]
            rfl
  unfold F24 isTh
  rw [hz]
  simp only [on_eq, Option.bind_some, Bool.not_not]
  by_cases h1 : 0 ≤ t.ID
  · by_cases h2 : t.ID ≤ 1000000
    · cases h3 : on t.At <;> simp [h1, h2]
    · simp [h1, h2]
  · simp [h1]
theorem ris_eq (n : Nat) (t : Thing) : F18 n t = some (isTh t) := by
  have k15 : ∀ b, F18_u15 n b = some b := fun b => rfl
  have k12 : ∀ b, F18_u12 n t b = some (b && isF t.F.a3) := fun b => by
    unfold F18_u12; cases b <;> simp only [risF_eq, Option.bind_some, k15, if_true, if_false, Bool.false_eq_true, Bool.true_and, Bool.false_and]
  have k9 : ∀ b, F18_u9 n t b = some (b && (isF t.F.a2 && isF t.F.a3)) := fun b => by
    unfold F18_u9; cases b <;> simp only [risF_eq, Option.bind_some, k12, if_true, if_false, Bool.false_eq_true, Bool.true_and, Bool.false_and]
  have k6 : ∀ b, F18_u6 n t b = some (b && (isF t.F.a1 && (isF t.F.a2 && isF t.F.a3))) := fun b => by
    unfold F18_u6; cases b <;> simp only [risF_eq, Option.bind_some, k9, if_true, if_false, Bool.false_eq_true, Bool.true_and, Bool.false_and]
  have k3 : ∀ b, F18_j3 n t b = some (b && (isF t.F.a0 && (isF t.F.a1 && (isF t.F.a2 && isF t.F.a3)))) := fun b => by
    unfold F18_j3; cases b <;> simp only [risF_eq, Option.bind_some, k6, if_true, if_false, Bool.false_eq_true, Bool.true_and, Bool.false_and]
  unfold F18 isTh
  simp only [ron_eq, Option.bind_some, k3]
  by_cases h1 : 0 ≤ t.ID
  · by_cases h2 : t.ID ≤ 1000000
    · simp [h1, h2]
    · simp [h1, h2]
  · simp [h1]

/-! ### the bytes of one -/

def full (t : Thing) : Delta := ⟨t.ID, 31, t.At, t.F⟩
def tb (t : Thing) : ByteArray := body (head (full t)) (full t)
theorem full_eq (n : Nat) (t : Thing) : F20 n t = some (full t) := rfl
theorem text_few {f : Field} (h : isF f = true) : f.Text.size ≤ 12 := by
  unfold isF at h
  split at h
  · simp at h; omega
  · split at h
    · simp at h; omega
    · cases h
theorem isTh_F {t : Thing} (h : isTh t = true) : isF t.F.a0 = true ∧ isF t.F.a1 = true ∧ isF t.F.a2 = true ∧ isF t.F.a3 = true := by
  unfold isTh at h
  simp only [Bool.and_eq_true] at h
  exact ⟨h.2.2.2.1, h.2.2.2.2.1, h.2.2.2.2.2.1, h.2.2.2.2.2.2⟩
theorem isTh_few {t : Thing} (h : isTh t = true) : Few (full t) := by
  obtain ⟨h0, h1, h2, h3⟩ := isTh_F h
  have := text_few h0; have := text_few h1; have := text_few h2; have := text_few h3
  refine ⟨?_, ?_, ?_, ?_⟩ <;> (unfold full; simp only; omega)
theorem full_is (t : Thing) : isD (full t) = isTh t := by
  have b1 : hs 31 1 = true := by decide +kernel
  have b2 : hs 31 2 = true := by decide +kernel
  have b3 : hs 31 3 = true := by decide +kernel
  have b4 : hs 31 4 = true := by decide +kernel
  have c1 : a1 (full t) = true := by show ((bitsI .and .u8 31 1) != 0) = true; decide +kernel
  unfold isD isTh fl4 okF
  have e : (full t).Mask = 31 := rfl
  rw [c1, e, b1, b2, b3, b4]
  have f1 : (!((31 : Int) == 0)) = true := rfl
  have f2 : (!(decide ((31 : Int) < 31))) = true := rfl
  rw [f1, f2]
  simp only [Bool.true_and, Bool.true_or, Bool.and_true]
  show (!(decide (t.ID < 0)) && (!(decide (1000000 < t.ID)) && (on t.At && (isF t.F.a0 && (isF t.F.a1 && (isF t.F.a2 && isF t.F.a3)))))) = _
  have g1 : (!(decide (t.ID < 0))) = decide (0 ≤ t.ID) := by by_cases h : t.ID < 0 <;> simp [h] <;> omega
  have g2 : (!(decide (1000000 < t.ID))) = decide (t.ID ≤ 1000000) := by by_cases h : 1000000 < t.ID <;> simp [h] <;> omega
  rw [g1, g2]
theorem tb_size {t : Thing} (h : isTh t = true) : (tb t).size ≤ 280 ∧ 1 ≤ (tb t).size := by
  obtain ⟨f0, f1, f2, f3⟩ := isTh_few h
  have hh := head_size (full t)
  have h1 : 1 ≤ (head (full t)).size := by
    have := pu_size (full t).ID; have := pu_size (full t).Mask
    unfold head
    split <;> simp only [ba_size] <;> omega
  have g : ∀ (s : ByteArray) (f : Field) (e : Bool), s.size ≤ (stage s f e).size := fun s f e => by
    unfold stage
    split
    · split <;> simp only [ba_size] <;> omega
    · omega
  unfold tb body
  have z1 := stage_size (head (full t)) (full t).F.a0 (hs (full t).Mask 1) f0
  have z2 := stage_size (stage (head (full t)) (full t).F.a0 (hs (full t).Mask 1)) (full t).F.a1 (hs (full t).Mask 2) f1
  have z3 := stage_size (stage (stage (head (full t)) (full t).F.a0 (hs (full t).Mask 1)) (full t).F.a1 (hs (full t).Mask 2)) (full t).F.a2 (hs (full t).Mask 3) f2
  have z4 := stage_size (stage (stage (stage (head (full t)) (full t).F.a0 (hs (full t).Mask 1)) (full t).F.a1 (hs (full t).Mask 2)) (full t).F.a2 (hs (full t).Mask 3)) (full t).F.a3 (hs (full t).Mask 4) f3
  have y1 := g (head (full t)) (full t).F.a0 (hs (full t).Mask 1)
  have y2 := g (stage (head (full t)) (full t).F.a0 (hs (full t).Mask 1)) (full t).F.a1 (hs (full t).Mask 2)
  have y3 := g (stage (stage (head (full t)) (full t).F.a0 (hs (full t).Mask 1)) (full t).F.a1 (hs (full t).Mask 2)) (full t).F.a2 (hs (full t).Mask 3)
  have y4 := g (stage (stage (stage (head (full t)) (full t).F.a0 (hs (full t).Mask 1)) (full t).F.a1 (hs (full t).Mask 2)) (full t).F.a2 (hs (full t).Mask 3)) (full t).F.a3 (hs (full t).Mask 4)
  omega
theorem tbytes_eq {n : Nat} (hn : 10 ≤ n) (t : Thing) : F21 n t = some (if isTh t then (tb t, 0) else (ByteArray.empty, 11)) := by
  unfold F21
  simp only [is_eq, Option.bind_some]
  cases h : isTh t with
  | false => rfl
  | true =>
    simp only [Bool.not_true, Bool.false_eq_true, if_false, if_true]
    have := bytes_eq hn (full t) (isTh_few h)
    rw [full_is, h] at this
    have e : Delta.mk t.ID 31 t.At t.F = full t := rfl
    rw [e, this]
    rfl
theorem rtb_eq {n : Nat} (hn : 10 ≤ n) {t : Thing} (h : isTh t = true) : F19 n (full t) = some (tb t) := rbytes_eq hn (full t) rfl (isTh_few h)

/-! ### rows -/

theorem mk_bytes (s : ByteArray) : mkStr (bytesL s) = s := by
  apply ba_ext
  rw [mkStr_data]
  apply Array.ext'
  simp only [bytesL, List.map_map]
  have : ((fun n : Int => UInt8.ofNat n.toNat) ∘ fun b : UInt8 => (b.toNat : Int)) = id := by
    funext b; simp
  rw [this, List.map_id]
theorem bytes_add (a b : ByteArray) : bytesL (a ++ b) = bytesL a ++ bytesL b := by
  simp [bytesL, ByteArray.data_append]
theorem bytes_byteB (s : ByteArray) : (bytesL s).all byteB = true := by
  rw [List.all_eq_true]
  intro x hx
  simp only [bytesL, List.mem_map] at hx
  obtain ⟨b, _, rfl⟩ := hx
  have := b.toNat_lt
  simp only [byteB, Bool.and_eq_true, decide_eq_true_eq]
  omega
theorem bldAdd_s {a b : ByteArray} (h : a.size + b.size ≤ 1000000) : bldAdd (bytesL a) b = some (bytesL (a ++ b)) := by
  unfold bldAdd
  rw [if_pos (by rw [bytesL_len, Nat.ble_eq]; omega), bytes_add]
theorem bldStr_s {a : ByteArray} (h : 1 ≤ a.size) : bldStr (bytesL a) = some a := by
  unfold bldStr
  rw [if_pos (by rw [bytes_byteB, bytesL_len]; simp [Nat.blt_eq]; omega), mk_bytes]

/-- The bytes of things that rise, behind some bytes. -/
def allR : Option Int → List Thing → ByteArray → ByteArray × Int
  | _, [], s => (s, 0)
  | p, t :: l, s => if isTh t = false then (ByteArray.empty, 11) else
    match p with
    | some q => if t.ID ≤ q then (ByteArray.empty, 11) else allR (some t.ID) l (s ++ tb t)
    | none => allR (some t.ID) l (s ++ tb t)
def prevI (l : List Thing) (i : Nat) : Option Int := if i = 0 then none else some ((l.getD (i - 1) ⟨0, ⟨0, 0⟩, ⟨noF, noF, noF, noF⟩⟩).ID)
theorem prev0 (l : List Thing) : prevI l 0 = none := rfl
theorem prevS (l : List Thing) (i : Nat) (h : i < l.length) : prevI l (i + 1) = some l[i].ID := by
  unfold prevI
  rw [if_neg (by omega)]
  have : i + 1 - 1 = i := by omega
  rw [this, List.getD_eq_getElem?_getD, List.getElem?_eq_getElem h]; rfl
theorem pred_w {i : Nat} (h : i + 1 < maxLen) : IntKind.wrap .i64 (((i + 1 : Nat) : Int) - 1) = (i : Int) := by
  simp only [maxLen] at h
  simp [IntKind.wrap, IntKind.bits, IntKind.signed]; omega
theorem allR_cons (l : List Thing) (i : Nat) (h : i < l.length) (s : ByteArray) (p : Option Int) : allR p (l.drop i) s = if isTh l[i] = false then (ByteArray.empty, 11) else
    match p with
    | some q => if l[i].ID ≤ q then (ByteArray.empty, 11) else allR (some l[i].ID) (l.drop (i + 1)) (s ++ tb l[i])
    | none => allR (some l[i].ID) (l.drop (i + 1)) (s ++ tb l[i]) := by
  rw [dropS l i h]; rfl

theorem all_l {n : Nat} (hn : 10 ≤ n) (l : List Thing) (hl : l.length ≤ 200) : ∀ (m i : Nat) (s : ByteArray), i ≤ l.length → l.length - i < m → 1 ≤ s.size → s.size + 280 * (l.length - i) ≤ 100000 →
    F22_l9 n l m (i : Int) (bytesL s) = some (allR (prevI l i) (l.drop i) s)
  | 0, i, _, _, h, _, _ => by omega
  | m + 1, i, s, hi, hm, h1, hs => by
    unfold F22_l9
    have hx : maxLen = 9223372036854775807 := rfl
    by_cases hlt : i < l.length
    · rw [if_pos (lt_dec hlt), ixg l i hlt, allR_cons l i hlt]
      simp only [Option.bind_some, tbytes_eq hn]
      cases ht : isTh l[i] with
      | false => simp
      | true =>
        obtain ⟨z1, z2⟩ := tb_size ht
        have hadd := bldAdd_s (a := s) (b := tb l[i]) (by omega)
        have ih := all_l hn l hl m (i + 1) (s ++ tb l[i]) (by omega) (by omega) (by rw [ba_size]; omega) (by rw [ba_size]; omega)
        rw [prevS l i hlt] at ih
        have w := dsucc (i := i) (by omega)
        have e00 : ((0 : Int) != 0) = false := rfl
        simp only [if_true, e00, Bool.false_eq_true, if_false]
        cases i with
        | zero =>
          have c : decide ((0 : Int) < ((0 : Nat) : Int)) = false := rfl
          simp only [c, Bool.false_eq_true, if_false, hadd, Option.bind_some, prev0]
          rw [w]; simpa using ih
        | succ j =>
          have c : decide ((0 : Int) < ((j + 1 : Nat) : Int)) = true := by rw [decide_eq_true_eq]; omega
          have hj : j < l.length := by omega
          rw [if_pos c, pred_w (by omega), ixg l j hj, prevS l j hj]
          simp only [Option.bind_some, hadd]
          by_cases hle : l[j + 1].ID ≤ l[j].ID
          · simp [hle]
          · simp only [hle, decide_false, Bool.false_eq_true, if_false]
            rw [w]; simpa using ih
    · have : i = l.length := by omega
      subst this
      rw [if_neg (by rw [ge_dec (by omega)]; decide), List.drop_length, bldStr_s h1]
      rfl
theorem rall_l {n : Nat} (hn : 10 ≤ n) (l : List Thing) (hl : l.length ≤ 200) : ∀ (m i : Nat) (s : ByteArray), i ≤ l.length → l.length - i < m → s.size + 280 * (l.length - i) ≤ 100000 →
    F23_l8 n l m s (i : Int) = some (allR (prevI l i) (l.drop i) s)
  | 0, i, _, _, h, _ => by omega
  | m + 1, i, s, hi, hm, hs => by
    unfold F23_l8
    have hx : maxLen = 9223372036854775807 := rfl
    by_cases hlt : i < l.length
    · rw [if_pos (lt_dec hlt), ixg l i hlt, allR_cons l i hlt]
      simp only [Option.bind_some, ris_eq]
      cases ht : isTh l[i] with
      | false => simp
      | true =>
        obtain ⟨z1, z2⟩ := tb_size ht
        have ih := rall_l hn l hl m (i + 1) (s ++ tb l[i]) (by omega) (by omega) (by rw [ba_size]; omega)
        rw [prevS l i hlt] at ih
        have w := dsucc (i := i) (by omega)
        have j13 : F23_j13 n l s (i : Int) (F23_l8 n l m) = some (allR (some l[i].ID) (l.drop (i + 1)) (s ++ tb l[i])) := by
          unfold F23_j13
          rw [ixg l i hlt]
          simp only [Option.bind_some, full_eq, rtb_eq hn ht]
          rw [if_pos (by omega), w]
          exact ih
        simp only [Bool.not_true, Bool.false_eq_true, if_false]
        cases i with
        | zero =>
          have c : decide ((0 : Int) < ((0 : Nat) : Int)) = false := rfl
          simp only [c, Bool.false_eq_true, if_false, prev0]
          simpa using j13
        | succ j =>
          have c : decide ((0 : Int) < ((j + 1 : Nat) : Int)) = true := by rw [decide_eq_true_eq]; omega
          have hj : j < l.length := by omega
          rw [if_pos c, pred_w (by omega), ixg l j hj, prevS l j hj]
          simp only [Option.bind_some]
          by_cases hle : l[j + 1].ID ≤ l[j].ID
          · simp [hle]
          · simp only [hle, decide_false, Bool.false_eq_true, if_false]
            simpa using j13
    · have : i = l.length := by omega
      subst this
      rw [if_neg (by rw [ge_dec (by omega)]; decide), List.drop_length]
      rfl
/-- The bytes of a row of things. -/
def allB (l : List Thing) : ByteArray × Int := if 200 < l.length then (ByteArray.empty, 13) else allR none l (pu (l.length : Int))
theorem all_eq {n : Nat} (hn : 300 ≤ n) (l : List Thing) : F22 n l = some (allB l) := by
  unfold F22 allB
  by_cases h : 200 < l.length
  · have c : decide ((200 : Int) < (l.length : Int)) = true := by simp; omega
    rw [if_pos c, if_pos h]
  · have c : decide ((200 : Int) < (l.length : Int)) = false := by simp; omega
    have p := pu_size (l.length : Int)
    have hb := bldAdd_s (a := ByteArray.empty) (b := pu (l.length : Int)) (by show 0 + _ ≤ _; omega)
    have he : bytesL ByteArray.empty = [] := rfl
    rw [he, ba_nil] at hb
    simp only [c, Bool.false_eq_true, if_false, pu_eq (by omega : 10 ≤ n), Option.bind_some, hb, if_neg h]
    have := all_l (by omega : 10 ≤ n) l (by omega) (n + 8) 0 (pu (l.length : Int)) (by omega) (by omega) p.2 (by omega)
    simpa [prev0] using this
theorem rall_eq {n : Nat} (hn : 300 ≤ n) (l : List Thing) : F23 n l = some (allB l) := by
  unfold F23 allB
  by_cases h : 200 < l.length
  · have c : decide ((200 : Int) < (l.length : Int)) = true := by simp; omega
    rw [if_pos c, if_pos h]
  · have c : decide ((200 : Int) < (l.length : Int)) = false := by simp; omega
    have p := pu_size (l.length : Int)
    simp only [c, Bool.false_eq_true, if_false, rpu_eq (by omega : 10 ≤ n), Option.bind_some, if_neg h]
    have := rall_l (by omega : 10 ≤ n) l (by omega) (n + 8) 0 (pu (l.length : Int)) (by omega) (by omega) (by omega)
    simpa [prev0] using this
end Go.Proofs.Ytobeamaaifgllaa
