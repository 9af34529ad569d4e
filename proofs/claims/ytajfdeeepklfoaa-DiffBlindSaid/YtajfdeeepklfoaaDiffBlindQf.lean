/-
  What changed: what its functions compute, in plain Lean. No condition.
-/
import Derived.Test.YtajfdeeepklfoaaDiffBlindV
import Derived.Test.YtajfdeeepklfoaaDiffBlindP1
namespace Go.Proofs.Ytajfdeeepklfoaa
open Go Go.Rx
set_option maxRecDepth 100000
set_option linter.unusedSimpArgs false
set_option linter.unnecessarySimpa false
set_option linter.unusedVariables false

theorem d64 {n : Int} (h : -9223372036854775808 ≤ n) (h' : n ≤ 9223372036854775807) : IntKind.wrap .i64 n = n := by
  simp [IntKind.wrap, IntKind.bits, IntKind.signed]; omega
theorem ixg {α : Type} (l : List α) (i : Nat) (h : i < l.length) : ix l (i : Int) = some l[i] := by
  unfold ix; rw [if_neg (by omega)]; simp [h]
theorem ixz {α : Type} (a : α) (l : List α) : ix (a :: l) 0 = some a := rfl
theorem dsucc {i : Nat} (h : i < maxLen) : IntKind.wrap .i64 ((i : Int) + 1) = ((i + 1 : Nat) : Int) := by
  simp only [maxLen] at h
  rw [d64 (by omega) (by omega)]; push_cast; rfl
theorem lt_dec {i n : Nat} (h : i < n) : decide ((i : Int) < (n : Int)) = true := by simp; omega
theorem ge_dec {i n : Nat} (h : ¬ i < n) : decide ((i : Int) < (n : Int)) = false := by simp; omega

theorem ba_refl (a : ByteArray) : (a == a) = true := (ba_beq a a).2 rfl
theorem Point.eqb_refl (x : Point) : Point.eqb x x = true := by simp [Point.eqb]
theorem Field.eqb_refl (x : Field) : Field.eqb x x = true := by simp [Field.eqb, ba_refl]
theorem A4_Field.eqb_refl (x : A4 Field) : A4_Field.eqb x x = true := by simp [A4_Field.eqb, Field.eqb_refl]
theorem Thing.eqb_refl (x : Thing) : Thing.eqb x x = true := by simp [Thing.eqb, Point.eqb_refl, A4_Field.eqb_refl]
theorem Delta.eqb_refl (x : Delta) : Delta.eqb x x = true := by simp [Delta.eqb, Point.eqb_refl, A4_Field.eqb_refl]
theorem Event.eqb_refl (x : Event) : Event.eqb x x = true := by simp [Event.eqb, Thing.eqb_refl, Delta.eqb_refl]

/-! ### what is seen -/

def inR (r : Rect) (t : Thing) : Bool := decide (r.X0 ≤ t.At.X) && (decide (t.At.X < r.X1) && (decide (r.Y0 ≤ t.At.Y) && decide (t.At.Y < r.Y1)))
theorem inR_eq (n : Nat) (r : Rect) (t : Thing) : F51 n r t.At = some (inR r t) := by
  unfold F51 inR
  by_cases h1 : r.X0 ≤ t.At.X <;> by_cases h2 : t.At.X < r.X1 <;> by_cases h3 : r.Y0 ≤ t.At.Y <;> simp [h1, h2, h3]
theorem inR_eq3 (n : Nat) (r : Rect) (t : Thing) : F23 n r t.At = some (inR r t) := by
  unfold F23 inR
  by_cases h1 : r.X0 ≤ t.At.X <;> by_cases h2 : t.At.X < r.X1 <;> by_cases h3 : r.Y0 ≤ t.At.Y <;> simp [h1, h2, h3]

theorem seen_l (n : Nat) (l : List Thing) (r : Rect) (hl : l.length ≤ 60) : ∀ (m i : Nat) (acc : List Thing), i ≤ l.length → l.length - i < m → acc.length ≤ i → F21_l10 n l r m acc (i : Int) = some (acc ++ (l.drop i).filter (inR r))
  | 0, i, acc, _, h, _ => by omega
  | m + 1, i, acc, h1, h2, h3 => by
    unfold F21_l10
    by_cases hi : i < l.length
    · have ed : l.drop i = l[i] :: l.drop (i + 1) := by rw [List.drop_eq_getElem_cons hi]
      have ef : (l.drop i).filter (inR r) = (if inR r l[i] then [l[i]] else []) ++ (l.drop (i + 1)).filter (inR r) := by
        rw [ed, List.filter_cons]; split <;> simp
      have hcap : (acc.length + 1) * 120 ≤ maxCells ∧ acc.length + 1 ≤ maxCells := by simp only [maxCells]; omega
      simp only [lt_dec hi, if_true, ixg l i hi, Option.bind_some, inR_eq, dsucc (show i < maxLen by simp only [maxLen]; omega), if_pos hcap, ef]
      cases hb : inR r l[i] with
      | true =>
        simp only [if_true]
        rw [seen_l n l r hl m (i + 1) _ (by omega) (by omega) (by simp; omega)]; simp
      | false =>
        simp only [Bool.false_eq_true, if_false]
        rw [seen_l n l r hl m (i + 1) _ (by omega) (by omega) (by omega)]; simp
    · have ed : l.drop i = [] := List.drop_eq_nil_of_le (by omega)
      simp only [ge_dec hi, Bool.false_eq_true, if_false, ed, List.filter_nil, List.append_nil]
theorem seen_eq (n : Nat) (l : List Thing) (r : Rect) (hl : l.length ≤ 60) (hn : l.length ≤ n) : F21 n l r = some (l.filter (inR r)) := by
  unfold F21
  have := seen_l n l r hl (n + 8) 0 [] (by omega) (by omega) (by simp)
  simpa using this
theorem rseen_l (n : Nat) (l : List Thing) (r : Rect) (hl : l.length ≤ 60) : ∀ (m i : Nat) (acc : List Thing), i ≤ l.length → l.length - i < m → acc.length ≤ i → F22_l10 n l r m acc (i : Int) = some (acc ++ (l.drop i).filter (inR r))
  | 0, i, acc, _, h, _ => by omega
  | m + 1, i, acc, h1, h2, h3 => by
    unfold F22_l10
    by_cases hi : i < l.length
    · have ed : l.drop i = l[i] :: l.drop (i + 1) := by rw [List.drop_eq_getElem_cons hi]
      have ef : (l.drop i).filter (inR r) = (if inR r l[i] then [l[i]] else []) ++ (l.drop (i + 1)).filter (inR r) := by
        rw [ed, List.filter_cons]; split <;> simp
      have hcap : (acc.length + 1) * 120 ≤ maxCells ∧ acc.length + 1 ≤ maxCells := by simp only [maxCells]; omega
      simp only [lt_dec hi, if_true, ixg l i hi, Option.bind_some, inR_eq3, dsucc (show i < maxLen by simp only [maxLen]; omega), if_pos hcap, ef]
      cases hb : inR r l[i] with
      | true =>
        simp only [if_true]
        rw [rseen_l n l r hl m (i + 1) _ (by omega) (by omega) (by simp; omega)]; simp
      | false =>
        simp only [Bool.false_eq_true, if_false]
        rw [rseen_l n l r hl m (i + 1) _ (by omega) (by omega) (by omega)]; simp
    · have ed : l.drop i = [] := List.drop_eq_nil_of_le (by omega)
      simp only [ge_dec hi, Bool.false_eq_true, if_false, ed, List.filter_nil, List.append_nil]
theorem rseen_eq (n : Nat) (l : List Thing) (r : Rect) (hl : l.length ≤ 60) (hn : l.length ≤ n) : F22 n l r = some (l.filter (inR r)) := by
  unfold F22
  have := rseen_l n l r hl (n + 8) 0 [] (by omega) (by omega) (by simp)
  simpa using this

/-! ### one thing -/

def dlt (a b : Thing) : Delta × Bool := (F49 0 a b).getD (⟨0, 0, ⟨0, 0⟩, ⟨⟨0, ByteArray.empty⟩, ⟨0, ByteArray.empty⟩, ⟨0, ByteArray.empty⟩, ⟨0, ByteArray.empty⟩⟩⟩, false)
theorem dlt_some (a b : Thing) : (F49 0 a b).isSome = true := by
  unfold F49
  split <;> unfold F49_j4 <;> split <;> unfold F49_u8 <;> split <;> unfold F49_u12 <;> split <;> unfold F49_u16 <;> split <;> rfl
theorem dlt_eq (n : Nat) (a b : Thing) : F49 n a b = some (dlt a b) := by
  have h : F49 n a b = F49 0 a b := rfl
  rw [h, dlt]
  cases hh : F49 0 a b with
  | none => have := dlt_some a b; rw [hh] at this; cases this
  | some d => rfl
theorem rdlt_eq (n : Nat) (a b : Thing) : F50 n a b = some (dlt a b) := by
  have h : F50 n a b = F49 n a b := rfl
  rw [h, dlt_eq]
theorem dlt_self (a : Thing) : (dlt a a).2 = false := by
  have h := dlt_eq 0 a a
  unfold F49 at h
  simp only [Point.eqb_refl, Bool.not_true, Bool.false_eq_true, if_false] at h
  unfold F49_j4 at h
  simp only [Field.eqb_refl, Bool.not_true, Bool.false_eq_true, if_false] at h
  unfold F49_u8 at h
  simp only [Field.eqb_refl, Bool.not_true, Bool.false_eq_true, if_false] at h
  unfold F49_u12 at h
  simp only [Field.eqb_refl, Bool.not_true, Bool.false_eq_true, if_false] at h
  unfold F49_u16 at h
  simp only [Field.eqb_refl, Bool.not_true, Bool.false_eq_true, if_false] at h
  unfold F49_u20 at h
  rw [← Option.some.inj h]
  rfl

def noF : A4 Field := ⟨⟨0, ByteArray.empty⟩, ⟨0, ByteArray.empty⟩, ⟨0, ByteArray.empty⟩, ⟨0, ByteArray.empty⟩⟩
def noT : Thing := ⟨0, ⟨0, 0⟩, noF⟩
def noD : Delta := ⟨0, 0, ⟨0, 0⟩, noF⟩
def eAdd (b : Thing) : Event := ⟨1, b.ID, b, noD⟩
def eGone (a : Thing) : Event := ⟨3, a.ID, noT, noD⟩
def eChg (a b : Thing) : List Event := if (dlt a b).2 then [⟨2, (dlt a b).1.ID, noT, (dlt a b).1⟩] else []

/-! ### two rows -/

def mg : List Thing → List Thing → List Event
  | [], [] => []
  | [], b :: bs => eAdd b :: mg [] bs
  | a :: xs, [] => eGone a :: mg xs []
  | a :: xs, b :: bs => if b.ID < a.ID then eAdd b :: mg (a :: xs) bs else if a.ID < b.ID then eGone a :: mg xs (b :: bs) else eChg a b ++ mg xs bs
termination_by xs bs => xs.length + bs.length

theorem eChg_len (a b : Thing) : (eChg a b).length ≤ 1 := by unfold eChg; split <;> simp
theorem mg_len : ∀ xs bs : List Thing, (mg xs bs).length ≤ xs.length + bs.length
  | [], [] => by simp [mg]
  | [], b :: bs => by have := mg_len [] bs; simp [mg] at *; omega
  | a :: xs, [] => by have := mg_len xs []; simp [mg] at *; omega
  | a :: xs, b :: bs => by
    rw [mg]
    split
    · have := mg_len (a :: xs) bs; simp at *; omega
    · split
      · have := mg_len xs (b :: bs); simp at *; omega
      · have := mg_len xs bs; have := eChg_len a b; simp at *; omega
termination_by xs bs => xs.length + bs.length

theorem tl_eq {α : Type} (b : α) (bs : List α) : ((b :: bs).drop 1).take ((b :: bs).length - 1) = bs := by simp
theorem tl_ok {α : Type} (b : α) (bs : List α) : 0 ≤ (1 : Int) ∧ (1 : Int) ≤ ((b :: bs).length : Int) ∧ ((b :: bs).length : Int) ≤ ((b :: bs).length : Int) := by
  simp only [List.length_cons]; omega
theorem cap_ok {k : Nat} (h : k ≤ 200) : (k + 1) * 264 ≤ maxCells ∧ k + 1 ≤ maxCells := by simp only [maxCells]; omega
theorem of_add (n : Nat) (xs : List Thing) (b : Thing) (bs : List Thing) (rec : List Thing → List Thing → List Event → Option (List Event)) (acc : List Event) (h : acc.length ≤ 200) : F18_j23 n xs (b :: bs) rec acc = rec xs bs (acc ++ [eAdd b]) := by
  unfold F18_j23
  simp only [ixz, Option.bind_some, if_pos (cap_ok h), if_pos (tl_ok b bs), tl_eq]
  rfl
theorem of_gone (n : Nat) (a : Thing) (xs bs : List Thing) (rec : List Thing → List Thing → List Event → Option (List Event)) (acc : List Event) (h : acc.length ≤ 200) : F18_j33 n (a :: xs) bs rec acc = rec xs bs (acc ++ [eGone a]) := by
  unfold F18_j33
  simp only [ixz, Option.bind_some, if_pos (cap_ok h), if_pos (tl_ok a xs), tl_eq]
  rfl
theorem of_both (n : Nat) (a : Thing) (xs : List Thing) (b : Thing) (bs : List Thing) (rec : List Thing → List Thing → List Event → Option (List Event)) (acc : List Event) : F18_j40 n (a :: xs) (b :: bs) rec acc = rec xs bs acc := by
  unfold F18_j40
  simp only [if_pos (tl_ok a xs), if_pos (tl_ok b bs), tl_eq]
theorem len_ne {α : Type} (b : α) (bs : List α) : (((b :: bs).length : Int) == 0) = false := by simp only [List.length_cons, beq_eq_false_iff_ne]; omega
theorem len_pos {α : Type} (b : α) (bs : List α) : decide ((0 : Int) < ((b :: bs).length : Int)) = true := by simp only [List.length_cons, decide_eq_true_eq]; omega
theorem len_nil {α : Type} : ((([] : List α).length : Int) == 0) = true := rfl
theorem npos_nil {α : Type} : decide ((0 : Int) < (([] : List α).length : Int)) = false := rfl
theorem of_l (n : Nat) : ∀ (m : Nat) (xs bs : List Thing) (acc : List Event), xs.length + bs.length < m → acc.length + xs.length + bs.length ≤ 200 → F18_l15 n m xs bs acc = some (acc ++ mg xs bs)
  | 0, _, _, _, h, _ => by omega
  | m + 1, [], [], acc, h, hc => by unfold F18_l15; simp [len_nil, mg]
  | m + 1, [], b :: bs, acc, h, hc => by
    simp only [List.length_cons, List.length_nil] at h hc
    unfold F18_l15
    simp only [len_nil, if_true, len_ne, Bool.false_eq_true, if_false]
    unfold F18_j18
    simp only [len_nil, if_true]
    rw [of_add n [] b bs _ acc (by omega), of_l n m [] bs _ (by simp only [List.length_nil]; omega) (by simp only [List.length_append, List.length_cons, List.length_nil]; omega)]
    simp [mg]
  | m + 1, a :: xs, [], acc, h, hc => by
    simp only [List.length_cons, List.length_nil] at h hc
    unfold F18_l15
    simp only [len_ne, Bool.false_eq_true, if_false]
    unfold F18_j18
    simp only [len_ne, npos_nil, Bool.false_eq_true, if_false]
    unfold F18_j28
    simp only [len_nil, if_true]
    rw [of_gone n a xs [] _ acc (by omega), of_l n m xs [] _ (by simp only [List.length_nil]; omega) (by simp only [List.length_append, List.length_cons, List.length_nil]; omega)]
    simp [mg]
  | m + 1, a :: xs, b :: bs, acc, h, hc => by
    simp only [List.length_cons] at h hc
    unfold F18_l15
    simp only [len_ne, Bool.false_eq_true, if_false]
    unfold F18_j18
    simp only [len_ne, len_pos, Bool.false_eq_true, if_false, if_true, ixz, Option.bind_some]
    rw [mg]
    by_cases c1 : b.ID < a.ID
    · simp only [c1, decide_true, if_true]
      rw [of_add n (a :: xs) b bs _ acc (by omega), of_l n m (a :: xs) bs _ (by simp only [List.length_cons]; omega) (by simp only [List.length_append, List.length_cons, List.length_nil]; omega)]
      simp
    · simp only [c1, decide_false, Bool.false_eq_true, if_false]
      unfold F18_j28
      simp only [len_ne, Bool.false_eq_true, if_false, ixz, Option.bind_some, dlt_eq]
      by_cases c2 : a.ID < b.ID
      · simp only [c2, decide_true, if_true]
        rw [of_gone n a xs (b :: bs) _ acc (by omega), of_l n m xs (b :: bs) _ (by simp only [List.length_cons]; omega) (by simp only [List.length_append, List.length_cons, List.length_nil]; omega)]
        simp
      · simp only [c2, decide_false, Bool.false_eq_true, if_false, if_pos (cap_ok (show acc.length ≤ 200 by omega))]
        cases hd : (dlt a b).2 with
        | true =>
          simp only [if_true, of_both]
          rw [of_l n m xs bs _ (by omega) (by simp only [List.length_append, List.length_cons, List.length_nil]; omega)]
          simp [eChg, hd, noT, noF]
        | false =>
          simp only [Bool.false_eq_true, if_false, of_both]
          rw [of_l n m xs bs _ (by omega) (by omega)]
          simp [eChg, hd]
theorem of_diff (n : Nat) (a b : List Thing) (p q : Rect) (ha : a.length ≤ 60) (hb : b.length ≤ 60) (hn : a.length + b.length ≤ n) : F18 n a p b q = some (mg (a.filter (inR p)) (b.filter (inR q))) := by
  unfold F18
  have h1 := List.length_filter_le (inR p) a
  have h2 := List.length_filter_le (inR q) b
  rw [seen_eq n a p ha (by omega), seen_eq n b q hb (by omega)]
  simp only [Option.bind_some]
  have := of_l n (n + 8) (a.filter (inR p)) (b.filter (inR q)) [] (by omega) (by simp only [List.length_nil]; omega)
  simpa using this

theorem rof_add (n : Nat) (r2 : List Thing) (i : Int) (j : Nat) (hj : j < r2.length) (hl : r2.length ≤ 60) (rec : List Event → Int → Int → Option (List Event)) (acc : List Event) (h : acc.length ≤ 200) : F19_j32 n r2 i (j : Int) rec acc = rec (acc ++ [eAdd r2[j]]) i ((j + 1 : Nat) : Int) := by
  unfold F19_j32
  simp only [ixg r2 j hj, Option.bind_some, if_pos (cap_ok h), dsucc (show j < maxLen by simp only [maxLen]; omega)]
  rfl
theorem rof_gone (n : Nat) (r1 : List Thing) (i : Nat) (j : Int) (hi : i < r1.length) (hl : r1.length ≤ 60) (rec : List Event → Int → Int → Option (List Event)) (acc : List Event) (h : acc.length ≤ 200) : F19_j23 n r1 (i : Int) j rec acc = rec (acc ++ [eGone r1[i]]) ((i + 1 : Nat) : Int) j := by
  unfold F19_j23
  simp only [ixg r1 i hi, Option.bind_some, if_pos (cap_ok h), dsucc (show i < maxLen by simp only [maxLen]; omega)]
  rfl
theorem rof_l (n : Nat) (r1 r2 : List Thing) (l1 : r1.length ≤ 60) (l2 : r2.length ≤ 60) : ∀ (m i j : Nat) (acc : List Event), i ≤ r1.length → j ≤ r2.length → (r1.length - i) + (r2.length - j) < m → acc.length + (r1.length - i) + (r2.length - j) ≤ 200 → F19_l15 n r1 r2 m acc (i : Int) (j : Int) = some (acc ++ mg (r1.drop i) (r2.drop j))
  | 0, _, _, _, _, _, h, _ => by omega
  | m + 1, i, j, acc, hi', hj', h, hc => by
    unfold F19_l15
    by_cases hi : i < r1.length
    · have ei : r1.drop i = r1[i] :: r1.drop (i + 1) := by rw [List.drop_eq_getElem_cons hi]
      have nei : ((i : Int) == (r1.length : Int)) = false := by simp only [beq_eq_false_iff_ne]; omega
      simp only [lt_dec hi, if_true]
      unfold F19_j18
      by_cases hj : j < r2.length
      · have ej : r2.drop j = r2[j] :: r2.drop (j + 1) := by rw [List.drop_eq_getElem_cons hj]
        have nej : ((j : Int) == (r2.length : Int)) = false := by simp only [beq_eq_false_iff_ne]; omega
        simp only [nej, lt_dec hi, Bool.false_eq_true, if_false, if_true, ixg r1 i hi, ixg r2 j hj, Option.bind_some]
        rw [ei, ej, mg]
        by_cases c2 : r1[i].ID < r2[j].ID
        · have c1 : ¬ r2[j].ID < r1[i].ID := by omega
          simp only [c2, decide_true, if_true, c1, if_false]
          rw [rof_gone n r1 i j hi l1 _ acc (by omega), rof_l n r1 r2 l1 l2 m (i + 1) j _ (by omega) (by omega) (by omega) (by simp only [List.length_append, List.length_cons, List.length_nil]; omega), ej]
          simp only [List.append_assoc, List.cons_append, List.nil_append]
        · simp only [c2, decide_false, Bool.false_eq_true, if_false]
          unfold F19_j27
          simp only [nei, Bool.false_eq_true, if_false, ixg r1 i hi, ixg r2 j hj, Option.bind_some, rdlt_eq]
          by_cases c1 : r2[j].ID < r1[i].ID
          · simp only [c1, decide_true, if_true]
            rw [rof_add n r2 i j hj l2 _ acc (by omega), rof_l n r1 r2 l1 l2 m i (j + 1) _ (by omega) (by omega) (by omega) (by simp only [List.length_append, List.length_cons, List.length_nil]; omega), ei]
            simp only [List.append_assoc, List.cons_append, List.nil_append]
          · simp only [c1, decide_false, Bool.false_eq_true, if_false, if_pos (cap_ok (show acc.length ≤ 200 by omega)), F19_j40, dsucc (show i < maxLen by simp only [maxLen]; omega), dsucc (show j < maxLen by simp only [maxLen]; omega)]
            cases hd : (dlt r1[i] r2[j]).2 with
            | true =>
              simp only [if_true]
              rw [rof_l n r1 r2 l1 l2 m (i + 1) (j + 1) _ (by omega) (by omega) (by omega) (by simp only [List.length_append, List.length_cons, List.length_nil]; omega)]
              simp [eChg, hd, noT, noF]
            | false =>
              simp only [Bool.false_eq_true, if_false]
              rw [rof_l n r1 r2 l1 l2 m (i + 1) (j + 1) _ (by omega) (by omega) (by omega) (by omega)]
              simp [eChg, hd]
      · have hje : j = r2.length := by omega
        subst hje
        simp only [beq_self_eq_true, if_true]
        rw [rof_gone n r1 i _ hi l1 _ acc (by omega), rof_l n r1 r2 l1 l2 m (i + 1) _ _ (by omega) (by omega) (by omega) (by simp only [List.length_append, List.length_cons, List.length_nil]; omega)]
        have em : mg (r1.drop i) [] = eGone r1[i] :: mg (r1.drop (i + 1)) [] := by rw [ei, mg]
        simp [em]
    · have hie : i = r1.length := by omega
      subst hie
      simp only [ge_dec hi, Bool.false_eq_true, if_false]
      by_cases hj : j < r2.length
      · have ej : r2.drop j = r2[j] :: r2.drop (j + 1) := by rw [List.drop_eq_getElem_cons hj]
        have nej : ((j : Int) == (r2.length : Int)) = false := by simp only [beq_eq_false_iff_ne]; omega
        simp only [lt_dec hj, if_true]
        unfold F19_j18
        simp only [nej, Bool.false_eq_true, if_false, ge_dec hi]
        unfold F19_j27
        simp only [beq_self_eq_true, if_true]
        rw [rof_add n r2 _ j hj l2 _ acc (by omega), rof_l n r1 r2 l1 l2 m _ (j + 1) _ (by omega) (by omega) (by omega) (by simp only [List.length_append, List.length_cons, List.length_nil]; omega)]
        have em : mg [] (r2.drop j) = eAdd r2[j] :: mg [] (r2.drop (j + 1)) := by rw [ej, mg]
        simp [em]
      · have hje : j = r2.length := by omega
        subst hje
        simp [ge_dec hj, mg]
theorem rof_diff (n : Nat) (a b : List Thing) (p q : Rect) (ha : a.length ≤ 60) (hb : b.length ≤ 60) (hn : a.length + b.length ≤ n) : F19 n a p b q = some (mg (a.filter (inR p)) (b.filter (inR q))) := by
  unfold F19
  have h1 := List.length_filter_le (inR p) a
  have h2 := List.length_filter_le (inR q) b
  rw [rseen_eq n a p ha (by omega), rseen_eq n b q hb (by omega)]
  simp only [Option.bind_some]
  have := rof_l n (a.filter (inR p)) (b.filter (inR q)) (by omega) (by omega) (n + 8) 0 0 [] (by omega) (by omega) (by omega) (by simp only [List.length_nil]; omega)
  simpa using this

/-! ### the same rows -/

theorem same_l (n : Nat) (l : List Event) (hl : l.length ≤ 200) : ∀ (m i : Nat), i ≤ l.length → l.length - i < m → F17_l4 n l l m (i : Int) = some true
  | 0, _, _, h => by omega
  | m + 1, i, h1, h2 => by
    unfold F17_l4
    by_cases hi : i < l.length
    · simp only [lt_dec hi, if_true, ixg l i hi, Option.bind_some, Event.eqb_refl, Bool.not_true, Bool.false_eq_true, if_false, dsucc (show i < maxLen by simp only [maxLen]; omega)]
      exact same_l n l hl m (i + 1) (by omega) (by omega)
    · simp only [ge_dec hi, Bool.false_eq_true, if_false]
theorem same_eq (n : Nat) (l : List Event) (hl : l.length ≤ 200) (hn : l.length ≤ n) : F17 n l l = some true := by
  unfold F17
  have := same_l n l hl (n + 8) 0 (by omega) (by omega)
  simpa using this
theorem all_l (n : Nat) (l : List Thing) (hl : l.length ≤ 200) : ∀ (m i : Nat), i ≤ l.length → l.length - i < m → F20_l4 n l l m (i : Int) = some true
  | 0, _, _, h => by omega
  | m + 1, i, h1, h2 => by
    unfold F20_l4
    by_cases hi : i < l.length
    · simp only [lt_dec hi, if_true, ixg l i hi, Option.bind_some, Thing.eqb_refl, Bool.not_true, Bool.false_eq_true, if_false, dsucc (show i < maxLen by simp only [maxLen]; omega)]
      exact all_l n l hl m (i + 1) (by omega) (by omega)
    · simp only [ge_dec hi, Bool.false_eq_true, if_false]
theorem all_eq (n : Nat) (l : List Thing) (hl : l.length ≤ 200) (hn : l.length ≤ n) : F20 n l l = some true := by
  unfold F20
  have := all_l n l hl (n + 8) 0 (by omega) (by omega)
  simpa using this

/-! ### what the laws ask -/

theorem few1 (n : Nat) (t : Thing) : ∃ b, F47 n t = some b := by
  unfold F47 F69
  simp only [Option.bind_some]
  split
  · exact ⟨_, rfl⟩
  · split
    · exact ⟨_, rfl⟩
    · split
      · exact ⟨_, rfl⟩
      · split <;> exact ⟨_, rfl⟩
theorem few_l (n : Nat) (l : List Thing) (hl : l.length ≤ maxLen) : ∀ (m i : Nat), i ≤ l.length → l.length - i < m → ∃ b, F15_l4 n l m (i : Int) = some b ∧ (b = true → l.length ≤ 30)
  | 0, _, _, h => by omega
  | m + 1, i, h1, h2 => by
    unfold F15_l4
    by_cases hi : i < l.length
    · obtain ⟨b, hb⟩ := few1 n l[i]
      simp only [lt_dec hi, if_true, ixg l i hi, Option.bind_some, hb, dsucc (show i < maxLen by omega)]
      cases b with
      | false => exact ⟨false, rfl, by simp⟩
      | true => simpa using few_l n l hl m (i + 1) (by omega) (by omega)
    · simp only [ge_dec hi, Bool.false_eq_true, if_false]
      exact ⟨_, rfl, fun h => by simp at h; omega⟩
theorem few_eq (n : Nat) (l : List Thing) (hl : l.length ≤ maxLen) (hn : l.length ≤ n) : ∃ b, F15 n l = some b ∧ (b = true → l.length ≤ 30) := by
  unfold F15
  exact few_l n l hl (n + 8) 0 (by omega) (by omega)

theorem isF (n : Nat) (f : Field) : ∃ b, F70 n f = some b := by
  unfold F70
  split
  · exact ⟨_, rfl⟩
  · split <;> exact ⟨_, rfl⟩
theorem on3 (n : Nat) (t : Thing) : F54 n t.At = some (inR ⟨0, 0, 64, 64⟩ t) := by
  unfold F54 inR
  by_cases h1 : 0 ≤ t.At.X <;> by_cases h2 : t.At.X < 64 <;> by_cases h3 : 0 ≤ t.At.Y <;> simp [h1, h2, h3]
theorem is1 (n : Nat) (t : Thing) : ∃ b, F48 n t = some b ∧ (b = true → inR ⟨0, 0, 64, 64⟩ t = true) := by
  have hf : F48_j3 n t false = some false := rfl
  unfold F48
  simp only [on3, Option.bind_some, hf]
  split
  · split
    · cases ho : inR ⟨0, 0, 64, 64⟩ t with
      | false => exact ⟨false, hf, by simp⟩
      | true =>
        obtain ⟨b0, e0⟩ := isF n t.F.a0
        obtain ⟨b1, e1⟩ := isF n t.F.a1
        obtain ⟨b2, e2⟩ := isF n t.F.a2
        obtain ⟨b3, e3⟩ := isF n t.F.a3
        refine ⟨b0 && (b1 && (b2 && b3)), ?_, fun _ => rfl⟩
        cases b0 <;> cases b1 <;> cases b2 <;> cases b3 <;> simp [F48_j3, F48_u6, F48_u9, F48_u12, F48_u15, e0, e1, e2, e3]
    · exact ⟨false, rfl, by simp⟩
  · exact ⟨false, rfl, by simp⟩

def okAt (l : List Thing) (j : Nat) (h : j < l.length) : Prop := inR ⟨0, 0, 64, 64⟩ l[j] = true ∧ ∀ hj : 0 < j, l[j - 1].ID < l[j].ID
theorem ris_l (n : Nat) (l : List Thing) (hl : l.length ≤ 60) : ∀ (m i : Nat), i ≤ l.length → l.length - i < m → ∃ b, F16_l4 n l m (i : Int) = some b ∧ (b = true → ∀ j (h : j < l.length), i ≤ j → okAt l j h)
  | 0, _, _, h => by omega
  | m + 1, i, h1, h2 => by
    unfold F16_l4
    by_cases hi : i < l.length
    · obtain ⟨b, hb, hon⟩ := is1 n l[i]
      simp only [lt_dec hi, if_true, ixg l i hi, Option.bind_some, hb, dsucc (show i < maxLen by simp only [maxLen]; omega)]
      cases b with
      | false => exact ⟨false, rfl, by simp⟩
      | true =>
        simp only [Bool.not_true, Bool.false_eq_true, if_false]
        obtain ⟨c, hc, hr⟩ := ris_l n l hl m (i + 1) (by omega) (by omega)
        by_cases h0 : 0 < i
        · have e0 : decide ((0 : Int) < (i : Int)) = true := by simp only [decide_eq_true_eq]; omega
          have e1 : IntKind.wrap .i64 ((i : Int) - 1) = ((i - 1 : Nat) : Int) := by rw [d64 (by omega) (by omega)]; omega
          simp only [e0, if_true, e1, ixg l (i - 1) (by omega), Option.bind_some]
          by_cases hlt : l[i].ID ≤ l[i - 1].ID
          · simp only [hlt, decide_true, if_true]; exact ⟨false, rfl, by simp⟩
          · simp only [hlt, decide_false, Bool.false_eq_true, if_false, hc]
            refine ⟨c, rfl, fun hct j hj hij => ?_⟩
            by_cases hji : i = j
            · subst hji; exact ⟨hon rfl, fun _ => by omega⟩
            · exact hr hct j hj (by omega)
        · have e0 : decide ((0 : Int) < (i : Int)) = false := by simp only [decide_eq_false_iff_not]; omega
          simp only [e0, Bool.false_eq_true, if_false, hc]
          refine ⟨c, rfl, fun hct j hj hij => ?_⟩
          by_cases hji : i = j
          · subst hji; exact ⟨hon rfl, fun h => absurd h h0⟩
          · exact hr hct j hj (by omega)
    · simp only [ge_dec hi, Bool.false_eq_true, if_false]
      exact ⟨true, rfl, fun _ j hj hij => by omega⟩
def Ris (l : List Thing) : Prop := (∀ x ∈ l, inR ⟨0, 0, 64, 64⟩ x = true) ∧ l.Pairwise (fun x y => x.ID < y.ID)
theorem chain (l : List Thing) (h : ∀ j (hj : j < l.length), 0 < j → l[j - 1].ID < l[j].ID) : ∀ (d i : Nat) (hi : i + d + 1 < l.length), l[i].ID < l[i + d + 1].ID
  | 0, i, hi => h (i + 1) hi (by omega)
  | d + 1, i, hi => Int.lt_trans (chain l h d i (by omega)) (h (i + (d + 1) + 1) hi (by omega))
theorem ris_eq (n : Nat) (l : List Thing) (hl : l.length ≤ 60) (hn : l.length ≤ n) : ∃ b, F16 n l = some b ∧ (b = true → Ris l) := by
  unfold F16
  obtain ⟨b, hb, hr⟩ := ris_l n l hl (n + 8) 0 (by omega) (by omega)
  refine ⟨b, hb, fun ht => ⟨fun x hx => ?_, ?_⟩⟩
  · obtain ⟨j, hj, rfl⟩ := List.getElem_of_mem hx
    exact (hr ht j hj (by omega)).1
  · rw [List.pairwise_iff_getElem]
    intro i j hi hj hij
    have := chain l (fun j hj h0 => (hr ht j hj (by omega)).2 h0) (j - i - 1) i (by omega)
    have e : i + (j - i - 1) + 1 = j := by omega
    simpa only [e] using this

/-! ### the laws -/

theorem diffTells_pure (a b : List Thing) (p q : Rect) (wa : (∀ x ∈ a, Thing.wf x) ∧ a.length ≤ maxLen) (wb : (∀ x ∈ b, Thing.wf x) ∧ b.length ≤ maxLen) (_ : Rect.wf p) (_ : Rect.wf q) : ∃ n, F3 n a b p q = some true := by
  refine ⟨a.length + b.length + 20, ?_⟩
  generalize hn : a.length + b.length + 20 = n
  unfold F3
  obtain ⟨x1, e1, f1⟩ := few_eq n a wa.2 (by omega)
  obtain ⟨x2, e2, f2⟩ := few_eq n b wb.2 (by omega)
  simp only [Option.bind_some, Bool.not_true, Bool.false_eq_true, if_false, e1, e2]
  cases x1 with
  | false => rfl
  | true => cases x2 with
    | false => rfl
    | true =>
      have la := f1 rfl
      have lb := f2 rfl
      obtain ⟨y1, g1, h1⟩ := ris_eq n a (by omega) (by omega)
      obtain ⟨y2, g2, h2⟩ := ris_eq n b (by omega) (by omega)
      simp only [Bool.not_true, Bool.false_eq_true, if_false, Option.bind_some, g1, g2]
      cases y1 with
      | false => rfl
      | true => cases y2 with
        | false => rfl
        | true =>
          have k1 := List.length_filter_le (inR p) a
          have k2 := List.length_filter_le (inR q) b
          have k3 := mg_len (a.filter (inR p)) (b.filter (inR q))
          simp only [Bool.not_true, Bool.false_eq_true, if_false, of_diff n a b p q (by omega) (by omega) (by omega), rof_diff n a b p q (by omega) (by omega) (by omega), Option.bind_some,
            same_eq n (mg (a.filter (inR p)) (b.filter (inR q))) (by omega) (by omega), if_true, seen_eq n a p (by omega) (by omega), rseen_eq n a p (by omega) (by omega), all_eq n (a.filter (inR p)) (by omega) (by omega)]

theorem mg_cc (a : Thing) (xs : List Thing) (b : Thing) (bs : List Thing) : mg (a :: xs) (b :: bs) = if b.ID < a.ID then eAdd b :: mg (a :: xs) bs else if a.ID < b.ID then eGone a :: mg xs (b :: bs) else eChg a b ++ mg xs bs := by rw [mg]
theorem mg_nc (b : Thing) (bs : List Thing) : mg [] (b :: bs) = eAdd b :: mg [] bs := by rw [mg]
theorem mg_cn (a : Thing) (xs : List Thing) : mg (a :: xs) [] = eGone a :: mg xs [] := by rw [mg]
theorem mg_nil_l : ∀ bs : List Thing, mg [] bs = bs.map eAdd
  | [] => by rw [mg]; rfl
  | b :: bs => by rw [mg, mg_nil_l bs]; rfl
theorem mg_nil_r : ∀ xs : List Thing, mg xs [] = xs.map eGone
  | [] => by rw [mg]; rfl
  | x :: xs => by rw [mg, mg_nil_r xs]; rfl

/-- Rows that a number parts. -/
theorem mg_parts (k : Int) (a2 b2 : List Thing) (ha : ∀ x ∈ a2, k ≤ x.ID) (hb : ∀ x ∈ b2, k ≤ x.ID) : ∀ a1 b1 : List Thing, (∀ x ∈ a1, x.ID < k) → (∀ x ∈ b1, x.ID < k) → mg (a1 ++ a2) (b1 ++ b2) = mg a1 b1 ++ mg a2 b2
  | [], [], _, _ => by simp [mg]
  | [], b :: bs, h1, h2 => by
    have hbk := h2 b (by simp)
    have hrec := mg_parts k a2 b2 ha hb [] bs h1 (fun x hx => h2 x (by simp [hx]))
    simp only [List.nil_append, List.cons_append] at hrec ⊢
    cases a2 with
    | nil => rw [mg, hrec, mg]; rfl
    | cons a a2 =>
      have := ha a (by simp)
      rw [mg_cc, if_pos (by omega), hrec, mg_nc]; rfl
  | a :: xs, [], h1, h2 => by
    have hak := h1 a (by simp)
    have hrec := mg_parts k a2 b2 ha hb xs [] (fun x hx => h1 x (by simp [hx])) h2
    simp only [List.nil_append, List.cons_append] at hrec ⊢
    cases b2 with
    | nil => rw [mg, hrec, mg]; rfl
    | cons b b2 =>
      have := hb b (by simp)
      rw [mg_cc, if_neg (by omega), if_pos (by omega), hrec, mg_cn]; rfl
  | a :: xs, b :: bs, h1, h2 => by
    have r1 := mg_parts k a2 b2 ha hb (a :: xs) bs h1 (fun x hx => h2 x (by simp [hx]))
    have r2 := mg_parts k a2 b2 ha hb xs (b :: bs) (fun x hx => h1 x (by simp [hx])) h2
    have r3 := mg_parts k a2 b2 ha hb xs bs (fun x hx => h1 x (by simp [hx])) (fun x hx => h2 x (by simp [hx]))
    simp only [List.cons_append] at r1 r2 ⊢
    rw [mg, mg]
    split
    · rw [r1]; rfl
    · split
      · rw [r2]; rfl
      · rw [r3, List.append_assoc]
termination_by xs bs => xs.length + bs.length

/-- The rows of the laws. -/
def Good (n : Nat) (l : List Thing) : Prop := l.length ≤ 30 ∧ Ris l

theorem parts_cut (k : Int) (l : List Thing) (hs : l.Pairwise (fun x y => x.ID < y.ID)) (i : Nat) (hi : i ≤ l.length) (hlt : ∀ j (h : j < l.length), j < i → l[j].ID < k) (hge : ∀ h : i < l.length, k ≤ l[i].ID) : (∀ x ∈ l.take i, x.ID < k) ∧ (∀ x ∈ l.drop i, k ≤ x.ID) := by
  constructor
  · intro x hx
    obtain ⟨j, hj, rfl⟩ := List.getElem_of_mem hx
    simp only [List.length_take] at hj
    rw [List.getElem_take]
    exact hlt j (by omega) (by omega)
  · intro x hx
    obtain ⟨j, hj, rfl⟩ := List.getElem_of_mem hx
    simp only [List.length_drop] at hj
    rw [List.getElem_drop]
    have h0 := hge (by omega)
    by_cases hj0 : j = 0
    · subst hj0; simpa using h0
    · have := List.pairwise_iff_getElem.1 hs i (i + j) (by omega) (by omega) (by omega)
      omega
theorem parts_end (n : Nat) (a b : List Thing) (p q : Rect) (k : Int) (ha : Good n a) (hb : Good n b) (hn : a.length + b.length + 20 ≤ n) (i j : Nat) (hi : i ≤ a.length) (hj : j ≤ b.length) (pa : (∀ x ∈ a.take i, x.ID < k) ∧ (∀ x ∈ a.drop i, k ≤ x.ID)) (pb : (∀ x ∈ b.take j, x.ID < k) ∧ (∀ x ∈ b.drop j, k ≤ x.ID)) : F4_j17 n a b p q (i : Int) (j : Int) = some true := by
  have la := ha.1
  have lb := hb.1
  have t1 : ((a.drop 0).take ((i : Int).toNat - 0)) = a.take i := by simp
  have t2 : ((b.drop 0).take ((j : Int).toNat - 0)) = b.take j := by simp
  have t3 : ((a.drop (i : Int).toNat).take (a.length - (i : Int).toNat)) = a.drop i := by simp [List.take_of_length_le]
  have t4 : ((b.drop (j : Int).toNat).take (b.length - (j : Int).toNat)) = b.drop j := by simp [List.take_of_length_le]
  have z1 : (a.take i).length ≤ 30 := by simp; omega
  have z2 : (b.take j).length ≤ 30 := by simp; omega
  have z3 : (a.drop i).length ≤ 30 := by simp; omega
  have z4 : (b.drop j).length ≤ 30 := by simp; omega
  have z5 : (a.take i).length + (b.take j).length ≤ n := by simp; omega
  have z6 : (a.drop i).length + (b.drop j).length ≤ n := by simp; omega
  have m1 := mg_len ((a.take i).filter (inR p)) ((b.take j).filter (inR q))
  have m2 := mg_len ((a.drop i).filter (inR p)) ((b.drop j).filter (inR q))
  have l1 := List.length_filter_le (inR p) (a.take i)
  have l2 := List.length_filter_le (inR q) (b.take j)
  have l3 := List.length_filter_le (inR p) (a.drop i)
  have l4 := List.length_filter_le (inR q) (b.drop j)
  have whole : mg (a.filter (inR p)) (b.filter (inR q)) = mg ((a.take i).filter (inR p)) ((b.take j).filter (inR q)) ++ mg ((a.drop i).filter (inR p)) ((b.drop j).filter (inR q)) := by
    rw [← mg_parts k _ _ (fun x hx => pa.2 x ((List.mem_filter.1 hx).1)) (fun x hx => pb.2 x ((List.mem_filter.1 hx).1)) _ _ (fun x hx => pa.1 x ((List.mem_filter.1 hx).1)) (fun x hx => pb.1 x ((List.mem_filter.1 hx).1)), ← List.filter_append, ← List.filter_append, List.take_append_drop, List.take_append_drop]
  unfold F4_j17
  rw [if_pos (by omega), if_pos (by omega), t1, t2, of_diff n _ _ p q (by omega) (by omega) z5]
  simp only [Option.bind_some]
  rw [if_pos (by simp only [maxCells]; omega), if_pos (by omega), if_pos (by omega), t3, t4, of_diff n _ _ p q (by omega) (by omega) z6]
  simp only [Option.bind_some]
  rw [if_pos (by simp only [maxCells]; omega)]
  unfold F4_j23
  have m3 := mg_len (a.filter (inR p)) (b.filter (inR q))
  have l5 := List.length_filter_le (inR p) a
  have l6 := List.length_filter_le (inR q) b
  rw [of_diff n a b p q (by omega) (by omega) (by omega), ← whole]
  simp only [Option.bind_some]
  rw [same_eq n _ (by omega) (by omega)]
  rfl
theorem w8 {c : Int} (h : (Lit.int .u8 c).wf = true) : IntKind.wrap .i64 c = c := by
  have := bounds_u8 h
  exact d64 (by omega) (by omega)
theorem parts_l15 (n : Nat) (a b : List Thing) (p q : Rect) (k : Int) (hk : IntKind.wrap .i64 k = k) (ha : Good n a) (hb : Good n b) (hn : a.length + b.length + 20 ≤ n) (i : Nat) (hi : i ≤ a.length) (pa : (∀ x ∈ a.take i, x.ID < k) ∧ (∀ x ∈ a.drop i, k ≤ x.ID)) : ∀ (m j : Nat), j ≤ b.length → b.length - j < m → (∀ t (h : t < b.length), t < j → b[t].ID < k) → F4_l15 n a b p q k (i : Int) m (j : Int) = some true
  | 0, _, _, h, _ => by omega
  | m + 1, j, h1, h2, h3 => by
    have lb := hb.1
    unfold F4_l15
    by_cases hj : j < b.length
    · simp only [lt_dec hj, if_true, ixg b j hj, Option.bind_some, hk, dsucc (show j < maxLen by simp only [maxLen]; omega)]
      by_cases c : b[j].ID < k
      · simp only [c, decide_true, if_true]
        exact parts_l15 n a b p q k hk ha hb hn i hi pa m (j + 1) (by omega) (by omega) (fun t h ht => by
          by_cases e : t = j
          · subst e; exact c
          · exact h3 t h (by omega))
      · simp only [c, decide_false, Bool.false_eq_true, if_false]
        exact parts_end n a b p q k ha hb hn i j hi h1 pa (parts_cut k b hb.2.2 j h1 h3 (fun _ => by omega))
    · simp only [ge_dec hj, Bool.false_eq_true, if_false]
      exact parts_end n a b p q k ha hb hn i j hi h1 pa (parts_cut k b hb.2.2 j h1 h3 (fun h => absurd h hj))
theorem parts_l9 (n : Nat) (a b : List Thing) (p q : Rect) (k : Int) (hk : IntKind.wrap .i64 k = k) (ha : Good n a) (hb : Good n b) (hn : a.length + b.length + 20 ≤ n) : ∀ (m i : Nat), i ≤ a.length → a.length - i < m → (∀ t (h : t < a.length), t < i → a[t].ID < k) → F4_l9 n a b p q k m (i : Int) = some true
  | 0, _, _, h, _ => by omega
  | m + 1, i, h1, h2, h3 => by
    have la := ha.1
    unfold F4_l9
    by_cases hi : i < a.length
    · simp only [lt_dec hi, if_true, ixg a i hi, Option.bind_some, hk, dsucc (show i < maxLen by simp only [maxLen]; omega)]
      by_cases c : a[i].ID < k
      · simp only [c, decide_true, if_true]
        exact parts_l9 n a b p q k hk ha hb hn m (i + 1) (by omega) (by omega) (fun t h ht => by
          by_cases e : t = i
          · subst e; exact c
          · exact h3 t h (by omega))
      · simp only [c, decide_false, Bool.false_eq_true, if_false]
        unfold F4_j11
        exact parts_l15 n a b p q k hk ha hb hn i h1 (parts_cut k a ha.2.2 i h1 h3 (fun _ => by omega)) (n + 8) 0 (by omega) (by omega) (fun t _ h => by omega)
    · simp only [ge_dec hi, Bool.false_eq_true, if_false]
      unfold F4_j11
      exact parts_l15 n a b p q k hk ha hb hn i h1 (parts_cut k a ha.2.2 i h1 h3 (fun h => absurd h hi)) (n + 8) 0 (by omega) (by omega) (fun t _ h => by omega)
theorem diffParts_pure (a b : List Thing) (p q : Rect) (k : Int) (wa : (∀ x ∈ a, Thing.wf x) ∧ a.length ≤ maxLen) (wb : (∀ x ∈ b, Thing.wf x) ∧ b.length ≤ maxLen) (_ : Rect.wf p) (_ : Rect.wf q) (wk : (Lit.int .u8 k).wf = true) : ∃ n, F4 n a b p q k = some true := by
  refine ⟨a.length + b.length + 20, ?_⟩
  generalize hn : a.length + b.length + 20 = n
  unfold F4
  obtain ⟨x1, e1, f1⟩ := few_eq n a wa.2 (by omega)
  obtain ⟨x2, e2, f2⟩ := few_eq n b wb.2 (by omega)
  simp only [Option.bind_some, Bool.not_true, Bool.false_eq_true, if_false, e1, e2]
  cases x1 with
  | false => rfl
  | true => cases x2 with
    | false => rfl
    | true =>
      have la := f1 rfl
      have lb := f2 rfl
      obtain ⟨y1, g1, h1⟩ := ris_eq n a (by omega) (by omega)
      obtain ⟨y2, g2, h2⟩ := ris_eq n b (by omega) (by omega)
      simp only [Bool.not_true, Bool.false_eq_true, if_false, Option.bind_some, g1, g2]
      cases y1 with
      | false => rfl
      | true => cases y2 with
        | false => rfl
        | true =>
          simp only [Bool.not_true, Bool.false_eq_true, if_false]
          exact parts_l9 n a b p q k (w8 wk) ⟨la, h1 rfl⟩ ⟨lb, h2 rfl⟩ (by omega) (n + 8) 0 (by omega) (by omega) (fun t _ h => by omega)

/-! ### things that stand still -/

def mv (p q : Rect) (x : Thing) : List Event := if inR p x then (if inR q x then [] else [eGone x]) else (if inR q x then [eAdd x] else [])
def mvs (p q : Rect) (l : List Thing) : List Event := l.flatMap (mv p q)
theorem mvs_cons (p q : Rect) (x : Thing) (l : List Thing) : mvs p q (x :: l) = mv p q x ++ mvs p q l := by simp [mvs]
theorem mg_still (p q : Rect) : ∀ l : List Thing, l.Pairwise (fun x y => x.ID < y.ID) → mg (l.filter (inR p)) (l.filter (inR q)) = mvs p q l
  | [], _ => by simp [mg, mvs]
  | x :: l, h => by
    rw [List.pairwise_cons] at h
    have hrec := mg_still p q l h.2
    have hx := h.1
    have hm : mvs p q (x :: l) = mv p q x ++ mvs p q l := by simp [mvs]
    rw [hm, ← hrec]
    cases hp : inR p x with
    | true =>
      rw [List.filter_cons_of_pos hp]
      cases hq : inR q x with
      | true =>
        rw [List.filter_cons_of_pos hq, mg, if_neg (by omega), if_neg (by omega)]
        simp [mv, hp, hq, eChg, dlt_self]
      | false =>
        rw [List.filter_cons_of_neg (by simp [hq])]
        have e : mv p q x = [eGone x] := by simp [mv, hp, hq]
        rw [e]
        cases hb : l.filter (inR q) with
        | nil => rw [mg]; rfl
        | cons b bs =>
          have hbm : b ∈ l := (List.mem_filter.1 (hb ▸ List.mem_cons_self : b ∈ l.filter (inR q))).1
          have := hx b hbm
          rw [mg, if_neg (by omega), if_pos (by omega)]; rfl
    | false =>
      rw [List.filter_cons_of_neg (by simp [hp])]
      cases hq : inR q x with
      | true =>
        rw [List.filter_cons_of_pos hq]
        have e : mv p q x = [eAdd x] := by simp [mv, hp, hq]
        rw [e]
        cases hb : l.filter (inR p) with
        | nil => rw [mg]; rfl
        | cons b bs =>
          have hbm : b ∈ l := (List.mem_filter.1 (hb ▸ List.mem_cons_self : b ∈ l.filter (inR p))).1
          have := hx b hbm
          rw [mg, if_pos (by omega)]; rfl
      | false =>
        rw [List.filter_cons_of_neg (by simp [hq])]
        simp [mv, hp, hq]
theorem mvs_len (p q : Rect) : ∀ l : List Thing, (mvs p q l).length ≤ l.length
  | [] => by simp [mvs]
  | x :: l => by
    have := mvs_len p q l
    have h1 : (mv p q x).length ≤ 1 := by unfold mv; split <;> split <;> simp
    have hm : mvs p q (x :: l) = mv p q x ++ mvs p q l := by simp [mvs]
    rw [hm, List.length_append, List.length_cons]; omega
theorem rects_l (n : Nat) (a : List Thing) (p q : Rect) (hl : a.length ≤ 30) (es : List Event) (he : es.length ≤ 30) : ∀ (m i j : Nat), i ≤ a.length → a.length - i < m → j ≤ es.length → es.drop j = mvs p q (a.drop i) → F5_l11 n a p q es m (j : Int) (i : Int) = some true
  | 0, _, _, _, h, _, _ => by omega
  | m + 1, i, j, h1, h2, h3, h4 => by
    unfold F5_l11
    by_cases hi : i < a.length
    · have ed : a.drop i = a[i] :: a.drop (i + 1) := by rw [List.drop_eq_getElem_cons hi]
      have hm : mvs p q (a.drop i) = mv p q a[i] ++ mvs p q (a.drop (i + 1)) := by rw [ed, mvs_cons]
      rw [hm] at h4
      simp only [lt_dec hi, if_true, ixg a i hi, Option.bind_some, inR_eq3, dsucc (show i < maxLen by simp only [maxLen]; omega)]
      have step : ∀ (e : Event) (w : Int), mv p q a[i] = [e] → e.ID = a[i].ID → e.Kind = w → F5_j17 n a es (j : Int) (i : Int) (F5_l11 n a p q es m) w = some true := by
        intro e w hmv hid hkind
        rw [hmv] at h4
        have hj : j < es.length := by
          apply Nat.lt_of_not_le
          intro hge
          rw [List.drop_eq_nil_of_le hge] at h4
          simp at h4
        rw [List.drop_eq_getElem_cons hj] at h4
        simp only [List.cons_append, List.nil_append, List.cons.injEq] at h4
        unfold F5_j17
        have hd : decide ((es.length : Int) ≤ (j : Int)) = false := by simp only [decide_eq_false_iff_not]; omega
        simp only [hd, Bool.false_eq_true, if_false, ixg es j hj, ixg a i hi, Option.bind_some, h4.1, hid, hkind, bne_self_eq_false, dsucc (show i < maxLen by simp only [maxLen]; omega), dsucc (show j < maxLen by simp only [maxLen]; omega)]
        exact rects_l n a p q hl es he m (i + 1) (j + 1) (by omega) (by omega) (by omega) h4.2
      cases hp : inR p a[i] with
      | true => cases hq : inR q a[i] with
        | true =>
          have e : mv p q a[i] = [] := by simp [mv, hp, hq]
          rw [e] at h4
          simpa using rects_l n a p q hl es he m (i + 1) j (by omega) (by omega) h3 h4
        | false => simpa using step (eGone a[i]) 3 (by simp [mv, hp, hq]) rfl rfl
      | false => cases hq : inR q a[i] with
        | true => simpa using step (eAdd a[i]) 1 (by simp [mv, hp, hq]) rfl rfl
        | false =>
          have e : mv p q a[i] = [] := by simp [mv, hp, hq]
          rw [e] at h4
          simpa using rects_l n a p q hl es he m (i + 1) j (by omega) (by omega) h3 h4
    · have ed : a.drop i = [] := List.drop_eq_nil_of_le (by omega)
      rw [ed] at h4
      have hje : j = es.length := by
        have := congrArg List.length h4
        simp [mvs] at this
        omega
      simp only [ge_dec hi, Bool.false_eq_true, if_false, hje, beq_self_eq_true]
theorem diffRects_pure (a : List Thing) (p q : Rect) (wa : (∀ x ∈ a, Thing.wf x) ∧ a.length ≤ maxLen) (_ : Rect.wf p) (_ : Rect.wf q) : ∃ n, F5 n a p q = some true := by
  refine ⟨a.length + a.length + 20, ?_⟩
  generalize hn : a.length + a.length + 20 = n
  unfold F5
  obtain ⟨x1, e1, f1⟩ := few_eq n a wa.2 (by omega)
  simp only [Option.bind_some, Bool.not_true, Bool.false_eq_true, if_false, e1]
  cases x1 with
  | false => rfl
  | true =>
    have la := f1 rfl
    obtain ⟨y1, g1, h1⟩ := ris_eq n a (by omega) (by omega)
    simp only [Bool.not_true, Bool.false_eq_true, if_false, Option.bind_some, g1]
    cases y1 with
    | false => rfl
    | true =>
      simp only [Bool.not_true, Bool.false_eq_true, if_false]
      split
      · rfl
      · split
        · rfl
        · rw [of_diff n a a p q (by omega) (by omega) (by omega), mg_still p q a (h1 rfl).2]
          have := mvs_len p q a
          simp only [Option.bind_some]
          exact rects_l n a p q la (mvs p q a) (by omega) (n + 8) 0 0 (by omega) (by omega) (by omega) rfl

/-! ### who sees nothing -/

theorem blind0 (x : Thing) : inR ⟨0, 0, 0, 0⟩ x = false := by
  unfold inR
  rw [Bool.eq_false_iff]
  intro h
  simp only [Bool.and_eq_true, decide_eq_true_eq] at h
  omega
theorem filt0 (l : List Thing) : l.filter (inR ⟨0, 0, 0, 0⟩) = [] := by
  rw [List.filter_eq_nil_iff]
  intro x _
  rw [blind0]; simp
theorem filtAll (l : List Thing) (h : ∀ x ∈ l, inR ⟨0, 0, 64, 64⟩ x = true) : l.filter (inR ⟨0, 0, 64, 64⟩) = l := List.filter_eq_self.2 h
theorem blind_l19 (n : Nat) (a : List Thing) (la : a.length ≤ 30) (hn : a.length ≤ n) (hon : ∀ x ∈ a, inR ⟨0, 0, 64, 64⟩ x = true) : ∀ (m i : Nat), i ≤ a.length → a.length - i < m → F6_l19 n a (a.map eGone) m (i : Int) = some true
  | 0, _, _, h => by omega
  | m + 1, i, h1, h2 => by
    unfold F6_l19
    have hl : (a.map eGone).length = a.length := List.length_map _
    by_cases hi : i < a.length
    · have hx : ix (a.map eGone) (i : Int) = some (eGone a[i]) := by rw [ixg _ i (by rw [hl]; exact hi)]; simp
      have k1 : ((eGone a[i]).Kind != 3) = false := rfl
      have k2 : ((eGone a[i]).ID != a[i].ID) = false := by simp [eGone]
      simp only [hl, lt_dec hi, if_true, hx, ixg a i hi, Option.bind_some, k1, k2, Bool.false_eq_true, if_false, dsucc (show i < maxLen by simp only [maxLen]; omega)]
      exact blind_l19 n a la hn hon m (i + 1) (by omega) (by omega)
    · simp only [hl, ge_dec hi, Bool.false_eq_true, if_false, seen_eq n a ⟨0, 0, 64, 64⟩ (by omega) hn, Option.bind_some, filtAll a hon, beq_self_eq_true]
theorem blind_l12 (n : Nat) (a b : List Thing) (la : a.length ≤ 30) (lb : b.length ≤ 30) (hn : a.length ≤ n) (hon : ∀ x ∈ a, inR ⟨0, 0, 64, 64⟩ x = true) : ∀ (m i : Nat), i ≤ b.length → b.length - i < m → F6_l12 n a b (b.map eAdd) (a.map eGone) m (i : Int) = some true
  | 0, _, _, h => by omega
  | m + 1, i, h1, h2 => by
    unfold F6_l12
    have hl : (b.map eAdd).length = b.length := List.length_map _
    by_cases hi : i < b.length
    · have hx : ix (b.map eAdd) (i : Int) = some (eAdd b[i]) := by rw [ixg _ i (by rw [hl]; exact hi)]; simp
      have k1 : ((eAdd b[i]).Kind != 1) = false := rfl
      have k2 : Thing.eqb (eAdd b[i]).Thing b[i] = true := Thing.eqb_refl _
      simp only [hl, lt_dec hi, if_true, hx, ixg b i hi, Option.bind_some, k1, k2, Bool.not_true, Bool.false_eq_true, if_false, dsucc (show i < maxLen by simp only [maxLen]; omega)]
      exact blind_l12 n a b la lb hn hon m (i + 1) (by omega) (by omega)
    · simp only [hl, ge_dec hi, Bool.false_eq_true, if_false]
      exact blind_l19 n a la hn hon (n + 8) 0 (by omega) (by omega)
theorem diffBlind_pure (a b : List Thing) (p : Rect) (wa : (∀ x ∈ a, Thing.wf x) ∧ a.length ≤ maxLen) (wb : (∀ x ∈ b, Thing.wf x) ∧ b.length ≤ maxLen) (_ : Rect.wf p) : ∃ n, F6 n a b p = some true := by
  refine ⟨a.length + b.length + 20, ?_⟩
  generalize hn : a.length + b.length + 20 = n
  unfold F6
  obtain ⟨x1, e1, f1⟩ := few_eq n a wa.2 (by omega)
  obtain ⟨x2, e2, f2⟩ := few_eq n b wb.2 (by omega)
  simp only [Option.bind_some, Bool.not_true, Bool.false_eq_true, if_false, e1, e2]
  cases x1 with
  | false => rfl
  | true => cases x2 with
    | false => rfl
    | true =>
      have la := f1 rfl
      have lb := f2 rfl
      obtain ⟨y1, g1, h1⟩ := ris_eq n a (by omega) (by omega)
      obtain ⟨y2, g2, h2⟩ := ris_eq n b (by omega) (by omega)
      simp only [Bool.not_true, Bool.false_eq_true, if_false, Option.bind_some, g1, g2]
      cases y1 with
      | false => rfl
      | true => cases y2 with
        | false => rfl
        | true =>
          have z1 : ((b.map eAdd).length : Int) = b.length := by simp
          have z2 : ((a.map eGone).length : Int) = a.length := by simp
          have z3 : ((([] : List Thing).map eAdd).length : Int) = 0 := rfl
          simp only [Bool.not_true, Bool.false_eq_true, if_false, of_diff n a b _ _ (show a.length ≤ 60 by omega) (show b.length ≤ 60 by omega) (by omega), Option.bind_some, filt0, filtAll a (h1 rfl).1, filtAll b (h2 rfl).1, mg_nil_l, mg_nil_r, z1, z2, z3, bne_self_eq_false]
          exact blind_l12 n a b la lb (by omega) (h1 rfl).1 (n + 8) 0 (by omega) (by omega)
end Go.Proofs.Ytajfdeeepklfoaa
