/-
  What the law says, in plain Lean. No condition.
-/
import Derived.Test.YtpjejnefegdoeaaNoteSpoilsV
import Derived.Test.YtpjejnefegdoeaaNoteSpoilsP0
namespace Go.Proofs.Ytpjejnefegdoeaa
open Go Go.Rx
set_option maxRecDepth 100000
set_option linter.unusedVariables false
set_option linter.unusedSimpArgs false
set_option linter.unnecessarySimpa false
theorem Point.eqb_iff (x y : Point) : Point.eqb x y = true ↔ x = y := by
  cases x; cases y; simp [Point.eqb]
theorem Field.eqb_iff (x y : Field) : Field.eqb x y = true ↔ x = y := by
  cases x; cases y; simp [Field.eqb, ba_beq]
theorem A4_Field.eqb_iff (x y : A4 Field) : A4_Field.eqb x y = true ↔ x = y := by
  cases x; cases y; simp [A4_Field.eqb, Field.eqb_iff]
theorem Thing.eqb_iff (x y : Thing) : Thing.eqb x y = true ↔ x = y := by
  cases x; cases y; simp [Thing.eqb, Point.eqb_iff, A4_Field.eqb_iff]
def noF : Field := ⟨0, ByteArray.empty⟩
def hs (m i : Int) : Bool := bitsI .and .u8 (shrI .u8 m i) 1 == 1
def isF (f : Field) : Bool := if f.N == 0 then decide ((f.Text.size : Int) ≤ 12) else if f.Text.toList == ByteArray.empty.toList then decide ((f.Text.size : Int) ≤ 12) else false
theorem isF_eq (n : Nat) (f : Field) : F60 n f = some (isF f) := by
  unfold F60 isF
  split
  · rfl
  · split <;> rfl
def on (p : Point) : Bool := if decide ((0 : Int) ≤ p.X) then if decide (p.X < 64) then if decide ((0 : Int) ≤ p.Y) then decide (p.Y < 64) else false else false else false
theorem on_eq (n : Nat) (p : Point) : F78 n p = some (on p) := by
  unfold F78 on
  split
  · split
    · split <;> rfl
    · rfl
  · rfl
def a1 (d : Delta) : Bool := (bitsI .and .u8 d.Mask 1) != 0
theorem ixg {α : Type} (l : List α) (i : Nat) (h : i < l.length) : ix l (i : Int) = some l[i] := by
  simp [ix, h]
theorem dsucc {i : Nat} (h : i < maxLen) : IntKind.wrap .i64 ((i : Int) + 1) = ((i + 1 : Nat) : Int) := by
  simp only [maxLen] at h
  simp [IntKind.wrap, IntKind.bits, IntKind.signed]; omega
theorem lt_dec {i n : Nat} (h : i < n) : decide ((i : Int) < (n : Int)) = true := by simp; omega
theorem ge_dec {i n : Nat} (h : ¬ i < n) : decide ((i : Int) < (n : Int)) = false := by simp; omega
theorem dropS {α : Type} (l : List α) (i : Nat) (h : i < l.length) : l.drop i = l[i] :: l.drop (i + 1) := (List.getElem_cons_drop (h := h)).symm
def isTh (t : Thing) : Bool := decide (0 ≤ t.ID) && (decide (t.ID ≤ 1000000) && (on t.At && (isF t.F.a0 && (isF t.F.a1 && (isF t.F.a2 && isF t.F.a3)))))
theorem not_eq (n : Nat) (f : Field) : F82 n f = some (!(isF f)) := by
  unfold F82
  simp only [isF_eq, Option.bind_some]
theorem is_eq (n : Nat) (t : Thing) : F67 n t = some (isTh t) := by
  have hz : ∀ a b c d : Field, F81s0 n [a, b, c, d] = some (!(isF a && (isF b && (isF c && isF d)))) := by
    intro a b c d
    unfold F81s0 F91s0
    unfold F91s0_l4
    have w1 : IntKind.wrap .i64 ((0 : Int) + 1) = 1 := by decide
    have w2 : IntKind.wrap .i64 ((1 : Int) + 1) = 2 := by decide
    have w3 : IntKind.wrap .i64 ((2 : Int) + 1) = 3 := by decide
    have w4 : IntKind.wrap .i64 ((3 : Int) + 1) = 4 := by decide
    have x0 : ix [a, b, c, d] 0 = some a := rfl
    have x1 : ix [a, b, c, d] 1 = some b := rfl
    have x2 : ix [a, b, c, d] 2 = some c := rfl
    have x3 : ix [a, b, c, d] 3 = some d := rfl
    have l0 : decide ((0 : Int) < (([a, b, c, d] : List Field).length : Int)) = true := rfl
    have l1 : decide ((1 : Int) < (([a, b, c, d] : List Field).length : Int)) = true := rfl
    have l2 : decide ((2 : Int) < (([a, b, c, d] : List Field).length : Int)) = true := rfl
    have l3 : decide ((3 : Int) < (([a, b, c, d] : List Field).length : Int)) = true := rfl
    have l4 : decide ((4 : Int) < (([a, b, c, d] : List Field).length : Int)) = false := rfl
    rw [if_pos l0, x0]
    simp only [Option.bind_some, not_eq]
    cases isF a with
    | false => rfl
    | true =>
      simp only [Bool.not_true, Bool.false_eq_true, if_false, Bool.true_and]
      rw [w1]
      unfold F91s0_l4
      rw [if_pos l1, x1]
      simp only [Option.bind_some, not_eq]
      cases isF b with
      | false => rfl
      | true =>
        simp only [Bool.not_true, Bool.false_eq_true, if_false, Bool.true_and]
        rw [w2]
        unfold F91s0_l4
        rw [if_pos l2, x2]
        simp only [Option.bind_some, not_eq]
        cases isF c with
        | false => rfl
        | true =>
          simp only [Bool.not_true, Bool.false_eq_true, if_false, Bool.true_and]
          rw [w3]
          unfold F91s0_l4
          rw [if_pos l3, x3]
          simp only [Option.bind_some, not_eq]
          cases isF d with
          | false => rfl
          | true =>
            simp only [Bool.not_true, Bool.false_eq_true, if_false]
            rw [w4]
            unfold F91s0_l4
            rw [if_neg (by rw [l4]; decide)]
            rfl
  unfold F67 isTh
  rw [hz]
  simp only [on_eq, Option.bind_some, Bool.not_not]
  by_cases h1 : 0 ≤ t.ID
  · by_cases h2 : t.ID ≤ 1000000
    · cases h3 : on t.At <;> simp [h1, h2]
    · simp [h1, h2]
  · simp [h1]
theorem pred_wn {i : Nat} (h : i + 1 < maxLen) : IntKind.wrap .i64 (((i + 1 : Nat) : Int) - 1) = (i : Int) := by
  simp only [maxLen] at h
  simp [IntKind.wrap, IntKind.bits, IntKind.signed]; omega
def isCell (c : Int) : Bool := decide (0 ≤ c) && decide (c < 16)
theorem isCell_eq (n : Nat) (c : Int) : F63 n c = some (isCell c) := by
  unfold F63 isCell
  by_cases h : (0 : Int) ≤ c
  · rw [if_pos (decide_eq_true h), decide_eq_true h]; rfl
  · rw [if_neg (by simp; omega), decide_eq_false h]; rfl
def okH (f k : Int) (p : Option Int) (h : Hand) : Bool := isCell h.Cell && ((match p with | none => true | some q => !(decide (h.Cell ≤ q))) && (!(decide (h.To < 0)) && (!(decide (k ≤ h.To)) && !(h.To == f))))
def okHs (f k : Int) : Option Int → List Hand → Bool
  | _, [] => true
  | p, h :: l => okH f k p h && okHs f k (some h.Cell) l
def prevH (l : List Hand) (i : Nat) : Option Int := if i = 0 then none else some ((l.getD (i - 1) ⟨0, 0⟩).Cell)
theorem prevH0 (l : List Hand) : prevH l 0 = none := rfl
theorem prevHS (l : List Hand) (i : Nat) (h : i < l.length) : prevH l (i + 1) = some l[i].Cell := by
  unfold prevH
  rw [if_neg (by omega)]
  have : i + 1 - 1 = i := by omega
  rw [this, List.getD_eq_getElem?_getD, List.getElem?_eq_getElem h]; rfl
theorem ite_f (b : Bool) (x : Option Bool) (y : Bool) (h : x = some y) : (if b = true then some false else x) = some (!b && y) := by cases b <;> simp [h]
theorem hands_l (n : Nat) (l : List Hand) (f k : Int) (hl : l.length ≤ 100000) : ∀ (m i : Nat), i ≤ l.length → l.length - i < m → F34_l4 n l f k m (i : Int) = some (okHs f k (prevH l i) (l.drop i))
  | 0, i, _, h => by omega
  | m + 1, i, hi, h => by
    unfold F34_l4
    by_cases hlt : i < l.length
    · have ih := hands_l n l f k hl m (i + 1) (by omega) (by omega)
      rw [← dsucc (by simp only [maxLen]; omega), prevHS l i hlt] at ih
      rw [if_pos (lt_dec hlt), ixg l i hlt, dropS l i hlt, okHs]
      simp only [Option.bind_some, isCell_eq, okH]
      have tail := ite_f (decide (l[i].To < 0)) _ _ (ite_f (decide (k ≤ l[i].To)) _ _ (ite_f (l[i].To == f) _ _ ih))
      cases hc : isCell l[i].Cell with
      | false => rfl
      | true =>
        simp only [Bool.not_true, Bool.false_eq_true, if_false, Bool.true_and]
        cases i with
        | zero =>
          rw [if_neg (by decide), prevH0, tail]
          simp [Bool.and_assoc]
        | succ i =>
          rw [if_pos (by simp), pred_wn (by simp only [maxLen]; omega), ixg l i (by omega), prevHS l i (by omega)]
          simp only [Option.bind_some]
          rw [ite_f _ _ _ tail]
          simp [Bool.and_assoc]
    · rw [if_neg (by rw [ge_dec hlt]; decide), List.drop_of_length_le (by omega)]; rfl
theorem hands_eq {n : Nat} {l : List Hand} (f k : Int) (hl : l.length ≤ 100000) (hn : l.length ≤ n) : F34 n l f k = some (okHs f k none l) := by
  have := hands_l n l f k hl (n + 8) 0 (by omega) (by omega)
  exact this
theorem okHs_bad (f k : Int) (x : Hand) (hx : ∀ p, okH f k p x = false) : ∀ (l : List Hand) (p : Option Int), okHs f k p (l ++ [x]) = false
  | [], p => by simp [okHs, hx]
  | h :: l, p => by rw [List.cons_append, okHs, okHs_bad f k x hx l, Bool.and_false]
theorem okHs_more (f : Int) : ∀ (l : List Hand) (p : Option Int), okHs f 3 p l = true → okHs f 4 p l = true
  | [], _, _ => rfl
  | h :: l, p, hh => by
    rw [okHs, Bool.and_eq_true] at hh ⊢
    refine ⟨?_, okHs_more f l _ hh.2⟩
    have h1 := hh.1
    simp only [okH, Bool.and_eq_true, Bool.not_eq_true', decide_eq_false_iff_not] at h1 ⊢
    exact ⟨h1.1, h1.2.1, h1.2.2.1, by omega, h1.2.2.2.2⟩
def hasC (l : List Hand) (c : Int) : Bool := l.any fun h => h.Cell == c
theorem idx_l (n : Nat) (l : List Hand) (c : Int) (hl : l.length ≤ 100000) : ∀ (m i : Nat), i ≤ l.length → l.length - i < m → ∃ r : Int, F80s0_l4 n l c m (i : Int) = some r ∧ decide ((0 : Int) ≤ r) = hasC (l.drop i) c
  | 0, i, _, h => by omega
  | m + 1, i, hi, h => by
    unfold F80s0_l4
    by_cases hlt : i < l.length
    · rw [if_pos (lt_dec hlt), ixg l i hlt, dropS l i hlt]
      unfold F66s0 hasC
      simp only [Option.bind_some, List.any_cons]
      cases hc : (l[i].Cell == c) with
      | true => exact ⟨_, rfl, by simp⟩
      | false =>
        simp only [Bool.false_eq_true, if_false, Bool.false_or]
        rw [dsucc (by simp only [maxLen]; omega)]
        exact idx_l n l c hl m (i + 1) (by omega) (by omega)
    · rw [if_neg (by rw [ge_dec hlt]; decide), List.drop_of_length_le (by omega)]
      exact ⟨-1, rfl, rfl⟩
theorem handed_eq {n : Nat} {l : List Hand} (c : Int) (hl : l.length ≤ 100000) (hn : l.length ≤ n) : F65s0 n l c = some (hasC l c) := by
  unfold F65s0 F80s0
  obtain ⟨r, h1, h2⟩ := idx_l n l c hl (n + 8) 0 (by omega) (by omega)
  have h1' : F80s0_l4 n l c (n + 8) 0 = some r := h1
  rw [h1', Option.bind_some, h2, List.drop_zero]
def celP (p : Point) : Int × Int := (F64 0 p).getD (0, 0)
theorem of_eq (n : Nat) (p : Point) : F64 n p = some (celP p) := by
  have h : ∀ n, F64 n p = if on p then some (IntKind.wrap .i64 ((F90 0 (IntKind.wrap .u16 (IntKind.wrap .i64 (Int.tdiv p.X 16))) (IntKind.wrap .u16 (IntKind.wrap .i64 (Int.tdiv p.Y 16)))).getD 0), 0) else some (0, 14) := by
    intro n
    unfold F64
    rw [on_eq]
    cases on p with
    | false => rfl
    | true => rfl
  unfold celP
  rw [h n, h 0]
  split <;> rfl
def okT (hs : List Hand) (b : Bool) (p : Option Int) (t : Thing) : Bool := isTh t && ((match p with | none => true | some q => !(decide (t.ID ≤ q))) && (hasC hs (celP t.At).1 == b))
def okTs (hs : List Hand) (b : Bool) : Option Int → List Thing → Bool
  | _, [] => true
  | p, t :: l => okT hs b p t && okTs hs b (some t.ID) l
def prevT (l : List Thing) (i : Nat) : Option Int := if i = 0 then none else some ((l.getD (i - 1) ⟨0, ⟨0, 0⟩, ⟨noF, noF, noF, noF⟩⟩).ID)
theorem prevT0 (l : List Thing) : prevT l 0 = none := rfl
theorem prevTS (l : List Thing) (i : Nat) (h : i < l.length) : prevT l (i + 1) = some l[i].ID := by
  unfold prevT
  rw [if_neg (by omega)]
  have : i + 1 - 1 = i := by omega
  rw [this, List.getD_eq_getElem?_getD, List.getElem?_eq_getElem h]; rfl
theorem things_l (n : Nat) (l : List Thing) (hs : List Hand) (b : Bool) (hl : l.length ≤ 100000) (hh : hs.length ≤ 100000) (hn : hs.length ≤ n) : ∀ (m i : Nat), i ≤ l.length → l.length - i < m → F35_l4 n l hs b m (i : Int) = some (okTs hs b (prevT l i) (l.drop i) && decide ((l.length : Int) ≤ 200))
  | 0, i, _, h => by omega
  | m + 1, i, hi, h => by
    unfold F35_l4
    by_cases hlt : i < l.length
    · have ih := things_l n l hs b hl hh hn m (i + 1) (by omega) (by omega)
      rw [← dsucc (by simp only [maxLen]; omega), prevTS l i hlt] at ih
      rw [if_pos (lt_dec hlt), ixg l i hlt, dropS l i hlt, okTs]
      simp only [Option.bind_some, of_eq, handed_eq _ hh hn, is_eq, okT]
      have tail := ite_f (!(hasC hs (celP l[i].At).1 == b)) _ _ ih
      cases hc : isTh l[i] with
      | false => rfl
      | true =>
        simp only [Bool.not_true, Bool.false_eq_true, if_false, Bool.true_and]
        cases i with
        | zero =>
          rw [if_neg (by decide), prevT0, tail]
          simp [Bool.and_assoc]
        | succ i =>
          rw [if_pos (by simp), pred_wn (by simp only [maxLen]; omega), ixg l i (by omega), prevTS l i (by omega)]
          simp only [Option.bind_some]
          rw [ite_f _ _ _ tail]
          simp [Bool.and_assoc]
    · rw [if_neg (by rw [ge_dec hlt]; decide), List.drop_of_length_le (by omega)]; rfl
theorem things_eq {n : Nat} {l : List Thing} {hs : List Hand} (b : Bool) (hl : l.length ≤ 100000) (hn : l.length ≤ n) (hh : hs.length ≤ 100000) (hn2 : hs.length ≤ n) : F35 n l hs b = some (okTs hs b none l && decide ((l.length : Int) ≤ 200)) :=
  things_l n l hs b hl hh hn2 (n + 8) 0 (by omega) (by omega)
theorem okTs_bad (hs : List Hand) (b : Bool) (x : Thing) (hx : isTh x = false) : ∀ (l : List Thing) (p : Option Int), okTs hs b p (l ++ [x]) = false
  | [], p => by simp [okTs, okT, hx]
  | h :: l, p => by rw [List.cons_append, okTs, okTs_bad hs b x hx l, Bool.and_false]
theorem Rect.eqb_iff (x y : Rect) : Rect.eqb x y = true ↔ x = y := by
  cases x; cases y; simp [Rect.eqb, and_assoc]
theorem Command.eqb_iff (x y : Command) : Command.eqb x y = true ↔ x = y := by
  cases x; cases y; simp [Command.eqb, Point.eqb_iff, A4_Field.eqb_iff, Field.eqb_iff, Rect.eqb_iff]
def near (x : Int) : Bool := decide (-1000 ≤ x) && decide (x ≤ 1000)
theorem near_l (n : Nat) (l : List Int) (hl : l.length ≤ 8) : ∀ (m i : Nat), i ≤ l.length → l.length - i < m → F62_l4 n l m (i : Int) = some ((l.drop i).all near)
  | 0, i, _, h => by omega
  | m + 1, i, h1, h2 => by
    unfold F62_l4
    by_cases hi : i < l.length
    · have ed : l.drop i = l[i] :: l.drop (i + 1) := by rw [List.drop_eq_getElem_cons hi]
      have ea : (l.drop i).all near = (near l[i] && (l.drop (i + 1)).all near) := by rw [ed, List.all_cons]
      simp only [lt_dec hi, if_true, ixg l i hi, Option.bind_some, dsucc (show i < maxLen by simp only [maxLen]; omega), ea, near_l n l hl m (i + 1) (by omega) (by omega)]
      generalize l[i] = x
      unfold near
      by_cases h3 : (-1000 : Int) ≤ x <;> by_cases h4 : x ≤ 1000 <;> simp [h3, h4]
    · have ed : l.drop i = [] := List.drop_eq_nil_of_le (by omega)
      simp only [ge_dec hi, Bool.false_eq_true, if_false, ed, List.all_nil]
theorem near_eq (n : Nat) (l : List Int) (hl : l.length ≤ 7) : F62 n l = some (l.all near) := by
  unfold F62
  have := near_l n l (by omega) (n + 8) 0 (by omega) (by omega)
  simpa using this
def coreC (c : Command) : Command := (F61 0 c).getD c
theorem core_eq (n : Nat) (c : Command) : F61 n c = some (coreC c) := by
  have h : ∀ m, F61 m c = F61 0 c := fun m => rfl
  rw [h n]
  unfold coreC
  have : (F61 0 c).isSome := by
    unfold F61
    repeat (split <;> try rfl)
  obtain ⟨r, hr⟩ := Option.isSome_iff_exists.1 this
  rw [hr]; rfl
def boundsC (c : Command) : Bool := (decide (0 ≤ c.Client) && (decide (c.Client < 4) && (decide (0 ≤ c.Session) && decide (c.Session ≤ 1000000)))) &&
  ((decide (0 ≤ c.ID) && (decide (c.ID ≤ 1000000) && (decide (-1 ≤ c.Which) && (decide (c.Which ≤ 100) && (decide (-1 ≤ c.To) && (decide (c.To ≤ 100) && isF c.Value)))))) &&
    [c.At.X, c.At.Y, c.Rect.X0, c.Rect.Y0, c.Rect.X1, c.Rect.Y1].all near)
def isC (c : Command) : Bool := (isF c.F.a0 && (isF c.F.a1 && (isF c.F.a2 && isF c.F.a3))) && ((decide (1 ≤ c.Kind) && (decide (c.Kind ≤ 8) && Command.eqb c (coreC c))) && boundsC c)
theorem isC_eq (n : Nat) (c : Command) : F32 n c = some (isC c) := by
  have j12 : ∀ x y z, F32_j12 n c x y z = some (x && (y && (z && [c.At.X, c.At.Y, c.Rect.X0, c.Rect.Y0, c.Rect.X1, c.Rect.Y1].all near))) := by
    intro x y z
    unfold F32_j12
    rw [near_eq n _ (by simp)]
    cases x <;> cases y <;> cases z <;> simp
  have j9 : ∀ x y, F32_j9 n c x y = some (x && (y && ((decide (0 ≤ c.ID) && (decide (c.ID ≤ 1000000) && (decide (-1 ≤ c.Which) && (decide (c.Which ≤ 100) && (decide (-1 ≤ c.To) && (decide (c.To ≤ 100) && isF c.Value)))))) && [c.At.X, c.At.Y, c.Rect.X0, c.Rect.Y0, c.Rect.X1, c.Rect.Y1].all near))) := by
    intro x y
    unfold F32_j9
    simp only [j12, isF_eq, Option.bind_some]
    by_cases h1 : (0 : Int) ≤ c.ID
    · by_cases h2 : c.ID ≤ 1000000
      · by_cases h3 : (-1 : Int) ≤ c.Which
        · by_cases h4 : c.Which ≤ 100
          · by_cases h5 : (-1 : Int) ≤ c.To
            · by_cases h6 : c.To ≤ 100 <;> simp only [h1, h2, h3, h4, h5, h6, decide_true, decide_false, if_true, Bool.false_eq_true, if_false, Bool.true_and, Bool.false_and, Bool.and_false]
            · simp only [h1, h2, h3, h4, h5, decide_true, decide_false, if_true, Bool.false_eq_true, if_false, Bool.true_and, Bool.false_and, Bool.and_false]
          · simp only [h1, h2, h3, h4, decide_true, decide_false, if_true, Bool.false_eq_true, if_false, Bool.true_and, Bool.false_and, Bool.and_false]
        · simp only [h1, h2, h3, decide_true, decide_false, if_true, Bool.false_eq_true, if_false, Bool.true_and, Bool.false_and, Bool.and_false]
      · simp only [h1, h2, decide_true, decide_false, if_true, Bool.false_eq_true, if_false, Bool.true_and, Bool.false_and, Bool.and_false]
    · simp only [h1, decide_true, decide_false, if_true, Bool.false_eq_true, if_false, Bool.true_and, Bool.false_and, Bool.and_false]
  have j7 : ∀ x, F32_j7 n c x = some (x && boundsC c) := by
    intro x
    unfold F32_j7 boundsC
    simp only [j9]
    by_cases h1 : (0 : Int) ≤ c.Client
    · by_cases h2 : c.Client < 4
      · by_cases h3 : (0 : Int) ≤ c.Session <;> simp only [h1, h2, h3, decide_true, decide_false, if_true, Bool.false_eq_true, if_false, Bool.true_and, Bool.false_and, Bool.and_false]
      · simp only [h1, h2, decide_true, decide_false, if_true, Bool.false_eq_true, if_false, Bool.true_and, Bool.false_and, Bool.and_false]
    · simp only [h1, decide_true, decide_false, if_true, Bool.false_eq_true, if_false, Bool.true_and, Bool.false_and, Bool.and_false]
  unfold F32 isC
  simp only [isF_eq, Option.bind_some, core_eq, j7]
  cases isF c.F.a0
  · rfl
  · cases isF c.F.a1
    · rfl
    · cases isF c.F.a2
      · rfl
      · cases isF c.F.a3
        · rfl
        · by_cases h1 : (1 : Int) ≤ c.Kind
          · by_cases h2 : c.Kind ≤ 8 <;> simp [h1, h2]
          · simp [h1]
def watchesC (c : Command) : Bool := decide (6 ≤ c.Kind) && decide (c.Kind ≤ 8)
theorem watches_eq (n : Nat) (c : Command) : F33 n c = some (watchesC c) := by
  unfold F33 watchesC
  by_cases h : (6 : Int) ≤ c.Kind <;> simp [h]
theorem Hand.eqb_iff (x y : Hand) : Hand.eqb x y = true ↔ x = y := by
  cases x; cases y; simp [Hand.eqb]
def okC (c : Command) : Bool := isC c && watchesC c
theorem wrong_eq (n : Nat) (c : Command) : F31 n c = some (!(okC c)) := by
  unfold F31 okC
  rw [isC_eq, Option.bind_some]
  cases isC c with
  | false => rfl
  | true => simp only [Bool.not_true, Bool.false_eq_true, if_false, watches_eq, Option.bind_some, Bool.true_and]
theorem idxC_l (n : Nat) (l : List Command) (hl : l.length ≤ 100000) : ∀ (m i : Nat), i ≤ l.length → l.length - i < m → ∃ r : Int, F68s0_l4 n l m (i : Int) = some r ∧ decide ((0 : Int) ≤ r) = !((l.drop i).all okC)
  | 0, i, _, h => by omega
  | m + 1, i, hi, h => by
    unfold F68s0_l4
    by_cases hlt : i < l.length
    · rw [if_pos (lt_dec hlt), ixg l i hlt, dropS l i hlt]
      simp only [Option.bind_some, wrong_eq, List.all_cons]
      cases hc : okC l[i] with
      | false => exact ⟨_, rfl, by simp⟩
      | true =>
        simp only [Bool.not_true, Bool.false_eq_true, if_false, Bool.true_and]
        rw [dsucc (by simp only [maxLen]; omega)]
        exact idxC_l n l hl m (i + 1) (by omega) (by omega)
    · rw [if_neg (by rw [ge_dec hlt]; decide), List.drop_of_length_le (by omega)]
      exact ⟨-1, rfl, rfl⟩
theorem wrongs_eq {n : Nat} {l : List Command} (hl : l.length ≤ 100000) (hn : l.length ≤ n) : F36s0 n l = some (!(l.all okC)) := by
  unfold F36s0 F68s0
  obtain ⟨r, h1, h2⟩ := idxC_l n l hl (n + 8) 0 (by omega) (by omega)
  have h1' : F68s0_l4 n l (n + 8) 0 = some r := h1
  rw [h1', Option.bind_some, h2, List.drop_zero]
structure Lens (n : Nat) (x : Note) : Prop where
  m : x.Moved.length ≤ 1000
  g : x.Given.length ≤ 1000
  h : x.Hands.length ≤ 1000
  w : x.Watch.length ≤ 1000
  n : 1000 ≤ n
def thOk (l : List Thing) (hs : List Hand) (b : Bool) : Bool := okTs hs b none l && decide ((l.length : Int) ≤ 200)
def isNt (k : Int) (x : Note) : Bool := !(decide (x.From < 0)) && (!(decide (k ≤ x.From)) && (!(decide (x.Beat < 0)) && (!(decide ((1073741824 : Int) < x.Beat)) && (!(decide ((20 : Int) < (x.Watch.length : Int))) && (okHs x.From k none x.Hands && (thOk x.Moved x.Hands false && (thOk x.Given x.Hands true && x.Watch.all okC)))))))
theorem ite_t (b : Bool) (x : Option Bool) (y : Bool) (h : x = some y) : (if b = true then x else some false) = some (b && y) := by cases b <;> simp [h]
theorem is_note {n : Nat} {x : Note} (L : Lens n x) (s : Int) : F11 n x s = some (isNt (imin s 4) x) := by
  have := L.m; have := L.g; have := L.h; have := L.w; have := L.n
  unfold F11 isNt
  rw [hands_eq _ _ (by omega) (by omega), Option.bind_some, things_eq false (by omega) (by omega) (by omega) (by omega), things_eq true (by omega) (by omega) (by omega) (by omega), wrongs_eq (by omega) (by omega)]
  simp only [Option.bind_some, Bool.not_not]
  refine ite_f _ _ _ (ite_f _ _ _ (ite_f _ _ _ (ite_f _ _ _ (ite_f _ _ _ (ite_t _ _ _ (ite_t _ _ _ (ite_t _ _ _ ?_)))))))
  rfl
theorem eqT_l (n : Nat) (a b : List Thing) (hl : a.length = b.length) (ha : a.length ≤ 100000) : ∀ (m i : Nat), i ≤ a.length → a.length - i < m → ∃ r, F37_l4 n a b m (i : Int) = some r ∧ (r = true ↔ a.drop i = b.drop i)
  | 0, i, _, h => by omega
  | m + 1, i, hi, hm => by
    unfold F37_l4
    by_cases h : i < a.length
    · rw [if_pos (lt_dec h), ixg a i h, ixg b i (by omega), dropS a i h, dropS b i (by omega)]
      simp only [Option.bind_some]
      cases hc : Thing.eqb a[i] (b[i]'(by omega)) with
      | false => exact ⟨false, rfl, ⟨fun h => (by cases h), fun h => by
          have := (List.cons.inj h).1
          rw [(Thing.eqb_iff _ _).2 this] at hc; cases hc⟩⟩
      | true =>
        simp only [Bool.not_true, Bool.false_eq_true, if_false]
        rw [dsucc (by simp only [maxLen]; omega)]
        obtain ⟨r, h1, h2⟩ := eqT_l n a b hl ha m (i + 1) (by omega) (by omega)
        refine ⟨r, h1, h2.trans ⟨fun h => ?_, fun h => (List.cons.inj h).2⟩⟩
        rw [(Thing.eqb_iff _ _).1 hc, h]
    · rw [if_neg (by rw [ge_dec h]; decide), List.drop_of_length_le (by omega), List.drop_of_length_le (by omega)]
      exact ⟨true, rfl, by simp⟩
theorem eqT_eq {n : Nat} {a b : List Thing} (ha : a.length ≤ 100000) (hn : a.length ≤ n) : ∃ r, F37 n a b = some r ∧ (r = true ↔ a = b) := by
  unfold F37
  by_cases h : a.length = b.length
  · have : ¬ (((a.length : Int) != (b.length : Int)) = true) := by simp [h]
    rw [if_neg this]
    exact eqT_l n a b h ha (n + 8) 0 (by omega) (by omega)
  · have : ((a.length : Int) != (b.length : Int)) = true := by simp; omega
    rw [if_pos this]
    exact ⟨false, rfl, ⟨fun h => (by cases h), fun he => absurd (congrArg List.length he) h⟩⟩
theorem eqH_l (n : Nat) (a b : List Hand) (hl : a.length = b.length) (ha : a.length ≤ 100000) : ∀ (m i : Nat), i ≤ a.length → a.length - i < m → ∃ r, F38_l4 n a b m (i : Int) = some r ∧ (r = true ↔ a.drop i = b.drop i)
  | 0, i, _, h => by omega
  | m + 1, i, hi, hm => by
    unfold F38_l4
    by_cases h : i < a.length
    · rw [if_pos (lt_dec h), ixg a i h, ixg b i (by omega), dropS a i h, dropS b i (by omega)]
      simp only [Option.bind_some]
      cases hc : Hand.eqb a[i] (b[i]'(by omega)) with
      | false => exact ⟨false, rfl, ⟨fun h => (by cases h), fun h => by
          have := (List.cons.inj h).1
          rw [(Hand.eqb_iff _ _).2 this] at hc; cases hc⟩⟩
      | true =>
        simp only [Bool.not_true, Bool.false_eq_true, if_false]
        rw [dsucc (by simp only [maxLen]; omega)]
        obtain ⟨r, h1, h2⟩ := eqH_l n a b hl ha m (i + 1) (by omega) (by omega)
        refine ⟨r, h1, h2.trans ⟨fun h => ?_, fun h => (List.cons.inj h).2⟩⟩
        rw [(Hand.eqb_iff _ _).1 hc, h]
    · rw [if_neg (by rw [ge_dec h]; decide), List.drop_of_length_le (by omega), List.drop_of_length_le (by omega)]
      exact ⟨true, rfl, by simp⟩
theorem eqH_eq {n : Nat} {a b : List Hand} (ha : a.length ≤ 100000) (hn : a.length ≤ n) : ∃ r, F38 n a b = some r ∧ (r = true ↔ a = b) := by
  unfold F38
  by_cases h : a.length = b.length
  · have : ¬ (((a.length : Int) != (b.length : Int)) = true) := by simp [h]
    rw [if_neg this]
    exact eqH_l n a b h ha (n + 8) 0 (by omega) (by omega)
  · have : ((a.length : Int) != (b.length : Int)) = true := by simp; omega
    rw [if_pos this]
    exact ⟨false, rfl, ⟨fun h => (by cases h), fun he => absurd (congrArg List.length he) h⟩⟩
theorem eqC_l (n : Nat) (a b : List Command) (hl : a.length = b.length) (ha : a.length ≤ 100000) : ∀ (m i : Nat), i ≤ a.length → a.length - i < m → ∃ r, F39_l4 n a b m (i : Int) = some r ∧ (r = true ↔ a.drop i = b.drop i)
  | 0, i, _, h => by omega
  | m + 1, i, hi, hm => by
    unfold F39_l4
    by_cases h : i < a.length
    · rw [if_pos (lt_dec h), ixg a i h, ixg b i (by omega), dropS a i h, dropS b i (by omega)]
      simp only [Option.bind_some]
      cases hc : Command.eqb a[i] (b[i]'(by omega)) with
      | false => exact ⟨false, rfl, ⟨fun h => (by cases h), fun h => by
          have := (List.cons.inj h).1
          rw [(Command.eqb_iff _ _).2 this] at hc; cases hc⟩⟩
      | true =>
        simp only [Bool.not_true, Bool.false_eq_true, if_false]
        rw [dsucc (by simp only [maxLen]; omega)]
        obtain ⟨r, h1, h2⟩ := eqC_l n a b hl ha m (i + 1) (by omega) (by omega)
        refine ⟨r, h1, h2.trans ⟨fun h => ?_, fun h => (List.cons.inj h).2⟩⟩
        rw [(Command.eqb_iff _ _).1 hc, h]
    · rw [if_neg (by rw [ge_dec h]; decide), List.drop_of_length_le (by omega), List.drop_of_length_le (by omega)]
      exact ⟨true, rfl, by simp⟩
theorem eqC_eq {n : Nat} {a b : List Command} (ha : a.length ≤ 100000) (hn : a.length ≤ n) : ∃ r, F39 n a b = some r ∧ (r = true ↔ a = b) := by
  unfold F39
  by_cases h : a.length = b.length
  · have : ¬ (((a.length : Int) != (b.length : Int)) = true) := by simp [h]
    rw [if_neg this]
    exact eqC_l n a b h ha (n + 8) 0 (by omega) (by omega)
  · have : ((a.length : Int) != (b.length : Int)) = true := by simp; omega
    rw [if_pos this]
    exact ⟨false, rfl, ⟨fun h => (by cases h), fun he => absurd (congrArg List.length he) h⟩⟩
theorem same_note {n : Nat} {a b : Note} (L : Lens n a) : ∃ r, F12 n a b = some r ∧ (r = true ↔ a = b) := by
  have := L.m; have := L.g; have := L.h; have := L.w; have := L.n
  obtain ⟨r1, e1, f1⟩ := eqT_eq (n := n) (a := a.Moved) (b := b.Moved) (by omega) (by omega)
  obtain ⟨r2, e2, f2⟩ := eqH_eq (n := n) (a := a.Hands) (b := b.Hands) (by omega) (by omega)
  obtain ⟨r3, e3, f3⟩ := eqT_eq (n := n) (a := a.Given) (b := b.Given) (by omega) (by omega)
  obtain ⟨r4, e4, f4⟩ := eqC_eq (n := n) (a := a.Watch) (b := b.Watch) (by omega) (by omega)
  unfold F12
  simp only [e1, e2, e3, e4, Option.bind_some]
  refine ⟨(a.From == b.From) && ((a.Beat == b.Beat) && (r1 && (r2 && (r3 && r4)))), ?_, ?_⟩
  · exact ite_t _ _ _ (ite_t _ _ _ (ite_t _ _ _ (ite_t _ _ _ (ite_t _ _ _ rfl))))
  · simp only [Bool.and_eq_true, f1, f2, f3, f4, beq_iff_eq]
    constructor
    · rintro ⟨h1, h2, h3, h4, h5, h6⟩
      cases a; cases b; simp only at h1 h2 h3 h4 h5 h6; rw [h1, h2, h3, h4, h5, h6]
    · rintro rfl; exact ⟨rfl, rfl, rfl, rfl, rfl, rfl⟩
theorem fewT_tot (n : Nat) (t : Thing) : ∃ b, F43 n t = some b := by
  unfold F43 F74
  simp only [Option.bind_some]
  repeat' split
  all_goals exact ⟨_, rfl⟩
theorem fewTs_l (n : Nat) (l : List Thing) (hl : l.length ≤ maxLen) : ∀ (m i : Nat), i ≤ l.length → l.length - i < m → ∃ b, F17_l4 n l m (i : Int) = some b ∧ (b = true → l.length ≤ 30)
  | 0, i, _, h => by omega
  | m + 1, i, hi, h => by
    unfold F17_l4
    by_cases hlt : i < l.length
    · obtain ⟨b, hb⟩ := fewT_tot n l[i]
      rw [if_pos (lt_dec hlt), ixg l i hlt]
      simp only [Option.bind_some, hb]
      split
      · exact ⟨false, rfl, fun h => (by cases h)⟩
      · rw [dsucc (by omega)]
        exact fewTs_l n l hl m (i + 1) (by omega) (by omega)
    · rw [if_neg (by rw [ge_dec hlt]; decide)]
      exact ⟨_, rfl, fun h => by simp at h; omega⟩
theorem fewTs {n : Nat} {l : List Thing} (hl : l.length ≤ maxLen) (hn : l.length ≤ n) : ∃ b, F17 n l = some b ∧ (b = true → l.length ≤ 30) :=
  fewTs_l n l hl (n + 8) 0 (by omega) (by omega)
theorem fewC_tot (n : Nat) (c : Command) : ∃ b, F16 n c = some b := by
  unfold F16
  repeat' split
  all_goals exact ⟨_, rfl⟩
theorem fewN_l (n : Nat) (x : Note) (hm : x.Moved.length ≤ maxLen ∧ x.Moved.length ≤ n) (hg : x.Given.length ≤ maxLen ∧ x.Given.length ≤ n) (hl : x.Watch.length ≤ maxLen) : ∀ (m i : Nat), i ≤ x.Watch.length → x.Watch.length - i < m →
    ∃ b, F8_l4 n x m (i : Int) = some b ∧ (b = true → x.Moved.length ≤ 30 ∧ x.Given.length ≤ 30 ∧ x.Hands.length ≤ 20 ∧ x.Watch.length ≤ 24)
  | 0, i, _, h => by omega
  | m + 1, i, hi, h => by
    unfold F8_l4
    by_cases hlt : i < x.Watch.length
    · obtain ⟨b, hb⟩ := fewC_tot n x.Watch[i]
      rw [if_pos (lt_dec hlt), ixg x.Watch i hlt]
      simp only [Option.bind_some, hb]
      split
      · exact ⟨false, rfl, fun h => (by cases h)⟩
      · rw [dsucc (by omega)]
        exact fewN_l n x hm hg hl m (i + 1) (by omega) (by omega)
    · obtain ⟨b1, e1, f1⟩ := fewTs hm.1 hm.2
      obtain ⟨b2, e2, f2⟩ := fewTs hg.1 hg.2
      rw [if_neg (by rw [ge_dec hlt]; decide), e1, Option.bind_some, e2, Option.bind_some]
      cases b1 with
      | false => exact ⟨false, rfl, fun h => (by cases h)⟩
      | true =>
        cases b2 with
        | false => exact ⟨false, rfl, fun h => (by cases h)⟩
        | true =>
          simp only [if_true]
          refine ⟨_, ite_t (decide ((x.Hands.length : Int) ≤ 20)) _ _ rfl, fun h => ?_⟩
          simp only [Bool.and_eq_true, decide_eq_true_eq] at h
          exact ⟨f1 rfl, f2 rfl, by omega, by omega⟩
theorem fewN {n : Nat} {x : Note} (hw : Note.wf x) (h1 : x.Moved.length ≤ n) (h2 : x.Given.length ≤ n) (h3 : x.Watch.length ≤ n) : ∃ b, F8 n x = some b ∧ (b = true → x.Moved.length ≤ 30 ∧ x.Given.length ≤ 30 ∧ x.Hands.length ≤ 20 ∧ x.Watch.length ≤ 24) := by
  obtain ⟨_, _, hm, _, hg, hc⟩ := hw
  exact fewN_l n x ⟨hm.2, h1⟩ ⟨hg.2, h2⟩ hc.2 (n + 8) 0 (by omega) (by omega)
theorem imin34 : imin 3 4 = 3 := by decide
theorem imin44 : imin 4 4 = 4 := by decide
theorem is_more {x : Note} (h : isNt 3 x = true) : isNt 4 x = true := by
  simp only [isNt, Bool.and_eq_true, Bool.not_eq_true', decide_eq_false_iff_not] at h ⊢
  obtain ⟨h1, h2, h3, h4, h5, h6, h7⟩ := h
  exact ⟨h1, by omega, h3, h4, h5, okHs_more _ _ _ h6, h7⟩
theorem not_same {n : Nat} {a b : Note} (L : Lens n a) (h : a ≠ b) : F12 n a b = some false := by
  obtain ⟨r, h1, h2⟩ := same_note (b := b) L
  rw [h1]
  cases r with
  | false => rfl
  | true => exact absurd (h2.1 rfl) h
theorem len_ne {α : Type} {l : List α} {x : α} : l ≠ l ++ [x] := by
  intro h; have := congrArg List.length h; simp at this
theorem noteSpoils_pure (a0 : Note) (a1 : Int) (h0 : Note.wf a0) (_ : (Lit.int .u8 a1).wf = true) : ∃ n, F5 n a0 a1 = some true := by
  refine ⟨a0.Moved.length + a0.Given.length + a0.Watch.length + 10000, ?_⟩
  have hn : 10000 ≤ a0.Moved.length + a0.Given.length + a0.Watch.length + 10000 := by omega
  obtain ⟨b, hb, hl⟩ := fewN (n := a0.Moved.length + a0.Given.length + a0.Watch.length + 10000) h0 (by omega) (by omega) (by omega)
  generalize a0.Moved.length + a0.Given.length + a0.Watch.length + 10000 = n at *
  have hmc : (100000 : Nat) * 300 ≤ maxCells := by simp only [maxCells]; decide
  unfold F5
  simp only [Option.bind_some, Bool.not_true, Bool.false_eq_true, if_false, hb]
  cases b with
  | false => rfl
  | true =>
    obtain ⟨q1, q2, q3, q4⟩ := hl rfl
    have L : Lens n a0 := ⟨by omega, by omega, by omega, by omega, by omega⟩
    simp only [Bool.not_true, Bool.false_eq_true, if_false, is_note L, imin34, imin44, Option.bind_some]
    cases hi : isNt 3 a0 with
    | false => rfl
    | true =>
      have hi4 := is_more hi
      simp only [Bool.not_true, Bool.false_eq_true, if_false]
      have hi' := hi
      simp only [isNt, Bool.and_eq_true, Bool.not_eq_true', decide_eq_false_iff_not] at hi'
      obtain ⟨g1, g2, g3, g4, g5, g6, g7⟩ := hi'
      have fin : ∀ (x : Note), isNt 3 x = false → a0 ≠ x → Lens n x → ((F11 n x 3).bind fun r7 => if (!r7) = true then (F12 n a0 x).bind fun r8 => if (!r8) = true then (F11 n a0 4).bind fun r9 => some r9 else some false else some false) = some true := by
        intro x hx hne Lx
        rw [is_note Lx, imin34, hx, Option.bind_some]
        simp only [Bool.not_false, if_true]
        rw [not_same L hne, Option.bind_some]
        simp only [Bool.not_false, if_true]
        rw [is_note L, imin44, hi4]
        rfl
      have j6 : ∀ f b : Int, isNt 3 ⟨f, b, a0.Moved, a0.Hands, a0.Given, a0.Watch⟩ = false → a0 ≠ ⟨f, b, a0.Moved, a0.Hands, a0.Given, a0.Watch⟩ → F5_j6 n a0 f b = some true := by
        intro f b h1 h2
        exact fin _ h1 h2 ⟨L.m, L.g, L.h, L.w, L.n⟩
      have fin' : ∀ (x : Note), isNt 3 x = false → a0 ≠ x → Lens n x → ((F11 n x 3).bind fun r7 => if (!r7) = true then (F12 n a0 x).bind fun r8 => if (!r8) = true then some (isNt 4 a0) else some false else some false) = some true := by
        intro x hx hne Lx
        have := fin x hx hne Lx
        simpa only [is_note L, imin44, Option.bind_some] using this
      have gd : ∀ {α : Type} (l : List α) (k : Nat), l.length ≤ 100 → k ≤ 300 → l.length * k ≤ maxCells ∧ l.length ≤ maxCells := fun l k h1 h2 => by
        have : l.length * k ≤ 100 * 300 := Nat.mul_le_mul h1 h2
        omega
      have gd1 : ∀ {α : Type} (l : List α) (k : Nat), l.length ≤ 100 → k ≤ 300 → (l.length + 1) * k ≤ maxCells ∧ l.length + 1 ≤ maxCells := fun l k h1 h2 => by
        have : (l.length + 1) * k ≤ 101 * 300 := Nat.mul_le_mul (by omega) h2
        omega
      rw [if_pos (gd a0.Hands 16 (by omega) (by omega)), if_pos (gd1 a0.Hands 16 (by omega) (by omega)), if_pos (gd1 a0.Hands 16 (by omega) (by omega)), if_pos (gd a0.Watch 216 (by omega) (by omega)), if_pos (gd1 a0.Watch 216 (by omega) (by omega)), if_pos (gd a0.Moved 120 (by omega) (by omega)), if_pos (gd1 a0.Moved 120 (by omega) (by omega)), if_pos (gd a0.Given 120 (by omega) (by omega)), if_pos (gd1 a0.Given 120 (by omega) (by omega))]
      by_cases k0 : (Int.tmod a1 7 == 0) = true
      · rw [if_pos k0]
        refine j6 3 a0.Beat ?_ ?_
        · simp [isNt]
        · intro h; have := congrArg Note.From h; simp only at this; omega
      rw [if_neg k0]
      by_cases k1 : (Int.tmod a1 7 == 1) = true
      · rw [if_pos k1]
        refine j6 a0.From (-1) ?_ ?_
        · simp [isNt]
        · intro h; have := congrArg Note.Beat h; simp only at this; omega
      rw [if_neg k1]
      generalize Int.tmod (IntKind.wrap .i64 (a0.From + 1)) 3 = z
      by_cases k2 : (Int.tmod a1 7 == 2) = true
      · rw [if_pos k2]
        refine fin' _ ?_ ?_ ?_
        · have : okHs a0.From 3 none (a0.Hands ++ [⟨16, z⟩]) = false := okHs_bad _ _ _ (fun p => by simp [okH, isCell]) _ _
          simp [isNt, this]
        · intro h; exact len_ne (congrArg Note.Hands h)
        · exact ⟨by first | omega | (simp only; omega) | (simp; omega), by first | omega | (simp only; omega) | (simp; omega), by first | omega | (simp only; omega) | (simp; omega), by first | omega | (simp only; omega) | (simp; omega), by first | omega | (simp only; omega) | (simp; omega)⟩
      rw [if_neg k2]
      by_cases k3 : (Int.tmod a1 7 == 3) = true
      · rw [if_pos k3, if_pos (gd a0.Hands 16 (by omega) (by omega))]
        refine fin' _ ?_ ?_ ?_
        · have : okHs a0.From 3 none (a0.Hands ++ [⟨15, a0.From⟩]) = false := okHs_bad _ _ _ (fun p => by simp [okH]) _ _
          simp [isNt, this]
        · intro h; exact len_ne (congrArg Note.Hands h)
        · exact ⟨by first | omega | (simp only; omega) | (simp; omega), by first | omega | (simp only; omega) | (simp; omega), by first | omega | (simp only; omega) | (simp; omega), by first | omega | (simp only; omega) | (simp; omega), by first | omega | (simp only; omega) | (simp; omega)⟩
      rw [if_neg k3]
      by_cases k4 : (Int.tmod a1 7 == 4) = true
      · rw [if_pos k4]
        refine fin' _ ?_ ?_ ?_
        · simp [isNt, okC, watchesC]
        · intro h; exact len_ne (congrArg Note.Watch h)
        · exact ⟨by first | omega | (simp only; omega) | (simp; omega), by first | omega | (simp only; omega) | (simp; omega), by first | omega | (simp only; omega) | (simp; omega), by first | omega | (simp only; omega) | (simp; omega), by first | omega | (simp only; omega) | (simp; omega)⟩
      rw [if_neg k4]
      by_cases k5 : (Int.tmod a1 7 == 5) = true
      · rw [if_pos k5]
        refine fin' _ ?_ ?_ ?_
        · have : okTs a0.Hands false none (a0.Moved ++ [⟨-1, ⟨0, 0⟩, ⟨noF, noF, noF, noF⟩⟩]) = false := okTs_bad _ _ _ (by simp [isTh]) _ _
          have this' : thOk (a0.Moved ++ [⟨-1, ⟨0, 0⟩, ⟨noF, noF, noF, noF⟩⟩]) a0.Hands false = false := by simp only [thOk, this, Bool.false_and]
          simp only [noF] at this'
          simp [isNt, this']
        · intro h; exact len_ne (congrArg Note.Moved h)
        · exact ⟨by first | omega | (simp only; omega) | (simp; omega), by first | omega | (simp only; omega) | (simp; omega), by first | omega | (simp only; omega) | (simp; omega), by first | omega | (simp only; omega) | (simp; omega), by first | omega | (simp only; omega) | (simp; omega)⟩
      · rw [if_neg k5]
        refine fin' _ ?_ ?_ ?_
        · have : okTs a0.Hands true none (a0.Given ++ [⟨1000000, ⟨64, 0⟩, ⟨noF, noF, noF, noF⟩⟩]) = false := okTs_bad _ _ _ (by simp [isTh, on]) _ _
          have this' : thOk (a0.Given ++ [⟨1000000, ⟨64, 0⟩, ⟨noF, noF, noF, noF⟩⟩]) a0.Hands true = false := by simp only [thOk, this, Bool.false_and]
          simp only [noF] at this'
          simp [isNt, this']
        · intro h; exact len_ne (congrArg Note.Given h)
        · exact ⟨by first | omega | (simp only; omega) | (simp; omega), by first | omega | (simp only; omega) | (simp; omega), by first | omega | (simp only; omega) | (simp; omega), by first | omega | (simp only; omega) | (simp; omega), by first | omega | (simp only; omega) | (simp; omega)⟩

end Go.Proofs.Ytpjejnefegdoeaa
