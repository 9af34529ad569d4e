/-
  What the law says, in plain Lean. No condition.
-/
import Derived.Test.YtpjejnefegdoeaaNoteCellsV
import Derived.Test.YtpjejnefegdoeaaNoteCellsP0
namespace Go.Proofs.Ytpjejnefegdoeaa
open Go Go.Rx
set_option maxRecDepth 100000
set_option linter.unusedVariables false
set_option linter.unusedSimpArgs false
set_option linter.unnecessarySimpa false
def noF : Field := ⟨0, ByteArray.empty⟩
def hs (m i : Int) : Bool := bitsI .and .u8 (shrI .u8 m i) 1 == 1
theorem fin_u8 {m : Int} (h : (Lit.int .u8 m).wf = true) : ∃ k : Fin 256, m = (k.val : Int) := by
  have := bounds_u8 h
  exact ⟨⟨m.toNat, by omega⟩, by simp; omega⟩
def isF (f : Field) : Bool := if f.N == 0 then decide ((f.Text.size : Int) ≤ 12) else if f.Text.toList == ByteArray.empty.toList then decide ((f.Text.size : Int) ≤ 12) else false
theorem isF_eq (n : Nat) (f : Field) : F60 n f = some (isF f) := by
  unfold F60 isF
  split
  · rfl
  · split <;> rfl
def on (p : Point) : Bool := if decide ((0 : Int) ≤ p.X) then if decide (p.X < 64) then if decide ((0 : Int) ≤ p.Y) then decide (p.Y < 64) else false else false else false
theorem on_eq (n : Nat) (p : Point) : F78 n p = some (on p) := by
  unfold F78 on
  split
  · split
    · split <;> rfl
    · rfl
  · rfl
def a1 (d : Delta) : Bool := (bitsI .and .u8 d.Mask 1) != 0
theorem ixg {α : Type} (l : List α) (i : Nat) (h : i < l.length) : ix l (i : Int) = some l[i] := by
  simp [ix, h]
theorem dsucc {i : Nat} (h : i < maxLen) : IntKind.wrap .i64 ((i : Int) + 1) = ((i + 1 : Nat) : Int) := by
  simp only [maxLen] at h
  simp [IntKind.wrap, IntKind.bits, IntKind.signed]; omega
theorem lt_dec {i n : Nat} (h : i < n) : decide ((i : Int) < (n : Int)) = true := by simp; omega
theorem ge_dec {i n : Nat} (h : ¬ i < n) : decide ((i : Int) < (n : Int)) = false := by simp; omega
theorem dropS {α : Type} (l : List α) (i : Nat) (h : i < l.length) : l.drop i = l[i] :: l.drop (i + 1) := (List.getElem_cons_drop (h := h)).symm
def isTh (t : Thing) : Bool := decide (0 ≤ t.ID) && (decide (t.ID ≤ 1000000) && (on t.At && (isF t.F.a0 && (isF t.F.a1 && (isF t.F.a2 && isF t.F.a3)))))
theorem not_eq (n : Nat) (f : Field) : F82 n f = some (!(isF f)) := by
  unfold F82
  simp only [isF_eq, Option.bind_some]
theorem is_eq (n : Nat) (t : Thing) : F67 n t = some (isTh t) := by
  have hz : ∀ a b c d : Field, F81s0 n [a, b, c, d] = some (!(isF a && (isF b && (isF c && isF d)))) := by
    intro a b c d
    unfold F81s0 F91s0
    unfold F91s0_l4
    have w1 : IntKind.wrap .i64 ((0 : Int) + 1) = 1 := by decide
    have w2 : IntKind.wrap .i64 ((1 : Int) + 1) = 2 := by decide
    have w3 : IntKind.wrap .i64 ((2 : Int) + 1) = 3 := by decide
    have w4 : IntKind.wrap .i64 ((3 : Int) + 1) = 4 := by decide
    have x0 : ix [a, b, c, d] 0 = some a := rfl
    have x1 : ix [a, b, c, d] 1 = some b := rfl
    have x2 : ix [a, b, c, d] 2 = some c := rfl
    have x3 : ix [a, b, c, d] 3 = some d := rfl
    have l0 : decide ((0 : Int) < (([a, b, c, d] : List Field).length : Int)) = true := rfl
    have l1 : decide ((1 : Int) < (([a, b, c, d] : List Field).length : Int)) = true := rfl
    have l2 : decide ((2 : Int) < (([a, b, c, d] : List Field).length : Int)) = true := rfl
    have l3 : decide ((3 : Int) < (([a, b, c, d] : List Field).length : Int)) = true := rfl
    have l4 : decide ((4 : Int) < (([a, b, c, d] : List Field).length : Int)) = false := rfl
    rw [if_pos l0, x0]
    simp only [Option.bind_some, not_eq]
    cases isF a with
    | false => rfl
    | true =>
      simp only [Bool.not_true, Bool.false_eq_true, if_false, Bool.true_and]
      rw [w1]
      unfold F91s0_l4
      rw [if_pos l1, x1]
      simp only [Option.bind_some, not_eq]
      cases isF b with
      | false => rfl
      | true =>
        simp only [Bool.not_true, Bool.false_eq_true, if_false, Bool.true_and]
        rw [w2]
        unfold F91s0_l4
        rw [if_pos l2, x2]
        simp only [Option.bind_some, not_eq]
        cases isF c with
        | false => rfl
        | true =>
          simp only [Bool.not_true, Bool.false_eq_true, if_false, Bool.true_and]
          rw [w3]
          unfold F91s0_l4
          rw [if_pos l3, x3]
          simp only [Option.bind_some, not_eq]
          cases isF d with
          | false => rfl
          | true =>
            simp only [Bool.not_true, Bool.false_eq_true, if_false]
            rw [w4]
            unfold F91s0_l4
            rw [if_neg (by rw [l4]; decide)]
            rfl
  unfold F67 isTh
  rw [hz]
  simp only [on_eq, Option.bind_some, Bool.not_not]
  by_cases h1 : 0 ≤ t.ID
  · by_cases h2 : t.ID ≤ 1000000
    · cases h3 : on t.At <;> simp [h1, h2]
    · simp [h1, h2]
  · simp [h1]
theorem pred_wn {i : Nat} (h : i + 1 < maxLen) : IntKind.wrap .i64 (((i + 1 : Nat) : Int) - 1) = (i : Int) := by
  simp only [maxLen] at h
  simp [IntKind.wrap, IntKind.bits, IntKind.signed]; omega
def isCell (c : Int) : Bool := decide (0 ≤ c) && decide (c < 16)
theorem isCell_eq (n : Nat) (c : Int) : F63 n c = some (isCell c) := by
  unfold F63 isCell
  by_cases h : (0 : Int) ≤ c
  · rw [if_pos (decide_eq_true h), decide_eq_true h]; rfl
  · rw [if_neg (by simp; omega), decide_eq_false h]; rfl
def okH (f k : Int) (p : Option Int) (h : Hand) : Bool := isCell h.Cell && ((match p with | none => true | some q => !(decide (h.Cell ≤ q))) && (!(decide (h.To < 0)) && (!(decide (k ≤ h.To)) && !(h.To == f))))
def okHs (f k : Int) : Option Int → List Hand → Bool
  | _, [] => true
  | p, h :: l => okH f k p h && okHs f k (some h.Cell) l
def prevH (l : List Hand) (i : Nat) : Option Int := if i = 0 then none else some ((l.getD (i - 1) ⟨0, 0⟩).Cell)
theorem prevH0 (l : List Hand) : prevH l 0 = none := rfl
theorem prevHS (l : List Hand) (i : Nat) (h : i < l.length) : prevH l (i + 1) = some l[i].Cell := by
  unfold prevH
  rw [if_neg (by omega)]
  have : i + 1 - 1 = i := by omega
  rw [this, List.getD_eq_getElem?_getD, List.getElem?_eq_getElem h]; rfl
theorem ite_f (b : Bool) (x : Option Bool) (y : Bool) (h : x = some y) : (if b = true then some false else x) = some (!b && y) := by cases b <;> simp [h]
theorem hands_l (n : Nat) (l : List Hand) (f k : Int) (hl : l.length ≤ 100000) : ∀ (m i : Nat), i ≤ l.length → l.length - i < m → F34_l4 n l f k m (i : Int) = some (okHs f k (prevH l i) (l.drop i))
  | 0, i, _, h => by omega
  | m + 1, i, hi, h => by
    unfold F34_l4
    by_cases hlt : i < l.length
    · have ih := hands_l n l f k hl m (i + 1) (by omega) (by omega)
      rw [← dsucc (by simp only [maxLen]; omega), prevHS l i hlt] at ih
      rw [if_pos (lt_dec hlt), ixg l i hlt, dropS l i hlt, okHs]
      simp only [Option.bind_some, isCell_eq, okH]
      have tail := ite_f (decide (l[i].To < 0)) _ _ (ite_f (decide (k ≤ l[i].To)) _ _ (ite_f (l[i].To == f) _ _ ih))
      cases hc : isCell l[i].Cell with
      | false => rfl
      | true =>
        simp only [Bool.not_true, Bool.false_eq_true, if_false, Bool.true_and]
        cases i with
        | zero =>
          rw [if_neg (by decide), prevH0, tail]
          simp [Bool.and_assoc]
        | succ i =>
          rw [if_pos (by simp), pred_wn (by simp only [maxLen]; omega), ixg l i (by omega), prevHS l i (by omega)]
          simp only [Option.bind_some]
          rw [ite_f _ _ _ tail]
          simp [Bool.and_assoc]
    · rw [if_neg (by rw [ge_dec hlt]; decide), List.drop_of_length_le (by omega)]; rfl
theorem hands_eq {n : Nat} {l : List Hand} (f k : Int) (hl : l.length ≤ 100000) (hn : l.length ≤ n) : F34 n l f k = some (okHs f k none l) := by
  have := hands_l n l f k hl (n + 8) 0 (by omega) (by omega)
  exact this
def hasC (l : List Hand) (c : Int) : Bool := l.any fun h => h.Cell == c
theorem idx_l (n : Nat) (l : List Hand) (c : Int) (hl : l.length ≤ 100000) : ∀ (m i : Nat), i ≤ l.length → l.length - i < m → ∃ r : Int, F80s0_l4 n l c m (i : Int) = some r ∧ decide ((0 : Int) ≤ r) = hasC (l.drop i) c
  | 0, i, _, h => by omega
  | m + 1, i, hi, h => by
    unfold F80s0_l4
    by_cases hlt : i < l.length
    · rw [if_pos (lt_dec hlt), ixg l i hlt, dropS l i hlt]
      unfold F66s0 hasC
      simp only [Option.bind_some, List.any_cons]
      cases hc : (l[i].Cell == c) with
      | true => exact ⟨_, rfl, by simp⟩
      | false =>
        simp only [Bool.false_eq_true, if_false, Bool.false_or]
        rw [dsucc (by simp only [maxLen]; omega)]
        exact idx_l n l c hl m (i + 1) (by omega) (by omega)
    · rw [if_neg (by rw [ge_dec hlt]; decide), List.drop_of_length_le (by omega)]
      exact ⟨-1, rfl, rfl⟩
theorem handed_eq {n : Nat} {l : List Hand} (c : Int) (hl : l.length ≤ 100000) (hn : l.length ≤ n) : F65s0 n l c = some (hasC l c) := by
  unfold F65s0 F80s0
  obtain ⟨r, h1, h2⟩ := idx_l n l c hl (n + 8) 0 (by omega) (by omega)
  have h1' : F80s0_l4 n l c (n + 8) 0 = some r := h1
  rw [h1', Option.bind_some, h2, List.drop_zero]
def celP (p : Point) : Int × Int := (F64 0 p).getD (0, 0)
theorem of_eq (n : Nat) (p : Point) : F64 n p = some (celP p) := by
  have h : ∀ n, F64 n p = if on p then some (IntKind.wrap .i64 ((F90 0 (IntKind.wrap .u16 (IntKind.wrap .i64 (Int.tdiv p.X 16))) (IntKind.wrap .u16 (IntKind.wrap .i64 (Int.tdiv p.Y 16)))).getD 0), 0) else some (0, 14) := by
    intro n
    unfold F64
    rw [on_eq]
    cases on p with
    | false => rfl
    | true => rfl
  unfold celP
  rw [h n, h 0]
  split <;> rfl
def okT (hs : List Hand) (b : Bool) (p : Option Int) (t : Thing) : Bool := isTh t && ((match p with | none => true | some q => !(decide (t.ID ≤ q))) && (hasC hs (celP t.At).1 == b))
def okTs (hs : List Hand) (b : Bool) : Option Int → List Thing → Bool
  | _, [] => true
  | p, t :: l => okT hs b p t && okTs hs b (some t.ID) l
def prevT (l : List Thing) (i : Nat) : Option Int := if i = 0 then none else some ((l.getD (i - 1) ⟨0, ⟨0, 0⟩, ⟨noF, noF, noF, noF⟩⟩).ID)
theorem prevT0 (l : List Thing) : prevT l 0 = none := rfl
theorem prevTS (l : List Thing) (i : Nat) (h : i < l.length) : prevT l (i + 1) = some l[i].ID := by
  unfold prevT
  rw [if_neg (by omega)]
  have : i + 1 - 1 = i := by omega
  rw [this, List.getD_eq_getElem?_getD, List.getElem?_eq_getElem h]; rfl
theorem things_l (n : Nat) (l : List Thing) (hs : List Hand) (b : Bool) (hl : l.length ≤ 100000) (hh : hs.length ≤ 100000) (hn : hs.length ≤ n) : ∀ (m i : Nat), i ≤ l.length → l.length - i < m → F35_l4 n l hs b m (i : Int) = some (okTs hs b (prevT l i) (l.drop i) && decide ((l.length : Int) ≤ 200))
  | 0, i, _, h => by omega
  | m + 1, i, hi, h => by
    unfold F35_l4
    by_cases hlt : i < l.length
    · have ih := things_l n l hs b hl hh hn m (i + 1) (by omega) (by omega)
      rw [← dsucc (by simp only [maxLen]; omega), prevTS l i hlt] at ih
      rw [if_pos (lt_dec hlt), ixg l i hlt, dropS l i hlt, okTs]
      simp only [Option.bind_some, of_eq, handed_eq _ hh hn, is_eq, okT]
      have tail := ite_f (!(hasC hs (celP l[i].At).1 == b)) _ _ ih
      cases hc : isTh l[i] with
      | false => rfl
      | true =>
        simp only [Bool.not_true, Bool.false_eq_true, if_false, Bool.true_and]
        cases i with
        | zero =>
          rw [if_neg (by decide), prevT0, tail]
          simp [Bool.and_assoc]
        | succ i =>
          rw [if_pos (by simp), pred_wn (by simp only [maxLen]; omega), ixg l i (by omega), prevTS l i (by omega)]
          simp only [Option.bind_some]
          rw [ite_f _ _ _ tail]
          simp [Bool.and_assoc]
    · rw [if_neg (by rw [ge_dec hlt]; decide), List.drop_of_length_le (by omega)]; rfl
theorem things_eq {n : Nat} {l : List Thing} {hs : List Hand} (b : Bool) (hl : l.length ≤ 100000) (hn : l.length ≤ n) (hh : hs.length ≤ 100000) (hn2 : hs.length ≤ n) : F35 n l hs b = some (okTs hs b none l && decide ((l.length : Int) ≤ 200)) :=
  things_l n l hs b hl hh hn2 (n + 8) 0 (by omega) (by omega)
theorem d64 {n : Int} (h : -9223372036854775808 ≤ n) (h' : n ≤ 9223372036854775807) : IntKind.wrap .i64 n = n := by
  simp [IntKind.wrap, IntKind.bits, IntKind.signed]; omega
def near (x : Int) : Bool := decide (-1000 ≤ x) && decide (x ≤ 1000)
theorem near_l (n : Nat) (l : List Int) (hl : l.length ≤ 8) : ∀ (m i : Nat), i ≤ l.length → l.length - i < m → F62_l4 n l m (i : Int) = some ((l.drop i).all near)
  | 0, i, _, h => by omega
  | m + 1, i, h1, h2 => by
    unfold F62_l4
    by_cases hi : i < l.length
    · have ed : l.drop i = l[i] :: l.drop (i + 1) := by rw [List.drop_eq_getElem_cons hi]
      have ea : (l.drop i).all near = (near l[i] && (l.drop (i + 1)).all near) := by rw [ed, List.all_cons]
      simp only [lt_dec hi, if_true, ixg l i hi, Option.bind_some, dsucc (show i < maxLen by simp only [maxLen]; omega), ea, near_l n l hl m (i + 1) (by omega) (by omega)]
      generalize l[i] = x
      unfold near
      by_cases h3 : (-1000 : Int) ≤ x <;> by_cases h4 : x ≤ 1000 <;> simp [h3, h4]
    · have ed : l.drop i = [] := List.drop_eq_nil_of_le (by omega)
      simp only [ge_dec hi, Bool.false_eq_true, if_false, ed, List.all_nil]
theorem near_eq (n : Nat) (l : List Int) (hl : l.length ≤ 7) : F62 n l = some (l.all near) := by
  unfold F62
  have := near_l n l (by omega) (n + 8) 0 (by omega) (by omega)
  simpa using this
def coreC (c : Command) : Command := (F61 0 c).getD c
theorem core_eq (n : Nat) (c : Command) : F61 n c = some (coreC c) := by
  have h : ∀ m, F61 m c = F61 0 c := fun m => rfl
  rw [h n]
  unfold coreC
  have : (F61 0 c).isSome := by
    unfold F61
    repeat (split <;> try rfl)
  obtain ⟨r, hr⟩ := Option.isSome_iff_exists.1 this
  rw [hr]; rfl
def boundsC (c : Command) : Bool := (decide (0 ≤ c.Client) && (decide (c.Client < 4) && (decide (0 ≤ c.Session) && decide (c.Session ≤ 1000000)))) &&
  ((decide (0 ≤ c.ID) && (decide (c.ID ≤ 1000000) && (decide (-1 ≤ c.Which) && (decide (c.Which ≤ 100) && (decide (-1 ≤ c.To) && (decide (c.To ≤ 100) && isF c.Value)))))) &&
    [c.At.X, c.At.Y, c.Rect.X0, c.Rect.Y0, c.Rect.X1, c.Rect.Y1].all near)
def isC (c : Command) : Bool := (isF c.F.a0 && (isF c.F.a1 && (isF c.F.a2 && isF c.F.a3))) && ((decide (1 ≤ c.Kind) && (decide (c.Kind ≤ 8) && Command.eqb c (coreC c))) && boundsC c)
theorem isC_eq (n : Nat) (c : Command) : F32 n c = some (isC c) := by
  have j12 : ∀ x y z, F32_j12 n c x y z = some (x && (y && (z && [c.At.X, c.At.Y, c.Rect.X0, c.Rect.Y0, c.Rect.X1, c.Rect.Y1].all near))) := by
    intro x y z
    unfold F32_j12
    rw [near_eq n _ (by simp)]
    cases x <;> cases y <;> cases z <;> simp
  have j9 : ∀ x y, F32_j9 n c x y = some (x && (y && ((decide (0 ≤ c.ID) && (decide (c.ID ≤ 1000000) && (decide (-1 ≤ c.Which) && (decide (c.Which ≤ 100) && (decide (-1 ≤ c.To) && (decide (c.To ≤ 100) && isF c.Value)))))) && [c.At.X, c.At.Y, c.Rect.X0, c.Rect.Y0, c.Rect.X1, c.Rect.Y1].all near))) := by
    intro x y
    unfold F32_j9
    simp only [j12, isF_eq, Option.bind_some]
    by_cases h1 : (0 : Int) ≤ c.ID
    · by_cases h2 : c.ID ≤ 1000000
      · by_cases h3 : (-1 : Int) ≤ c.Which
        · by_cases h4 : c.Which ≤ 100
          · by_cases h5 : (-1 : Int) ≤ c.To
            · by_cases h6 : c.To ≤ 100 <;> simp only [h1, h2, h3, h4, h5, h6, decide_true, decide_false, if_true, Bool.false_eq_true, if_false, Bool.true_and, Bool.false_and, Bool.and_false]
            · simp only [h1, h2, h3, h4, h5, decide_true, decide_false, if_true, Bool.false_eq_true, if_false, Bool.true_and, Bool.false_and, Bool.and_false]
          · simp only [h1, h2, h3, h4, decide_true, decide_false, if_true, Bool.false_eq_true, if_false, Bool.true_and, Bool.false_and, Bool.and_false]
        · simp only [h1, h2, h3, decide_true, decide_false, if_true, Bool.false_eq_true, if_false, Bool.true_and, Bool.false_and, Bool.and_false]
      · simp only [h1, h2, decide_true, decide_false, if_true, Bool.false_eq_true, if_false, Bool.true_and, Bool.false_and, Bool.and_false]
    · simp only [h1, decide_true, decide_false, if_true, Bool.false_eq_true, if_false, Bool.true_and, Bool.false_and, Bool.and_false]
  have j7 : ∀ x, F32_j7 n c x = some (x && boundsC c) := by
    intro x
    unfold F32_j7 boundsC
    simp only [j9]
    by_cases h1 : (0 : Int) ≤ c.Client
    · by_cases h2 : c.Client < 4
      · by_cases h3 : (0 : Int) ≤ c.Session <;> simp only [h1, h2, h3, decide_true, decide_false, if_true, Bool.false_eq_true, if_false, Bool.true_and, Bool.false_and, Bool.and_false]
      · simp only [h1, h2, decide_true, decide_false, if_true, Bool.false_eq_true, if_false, Bool.true_and, Bool.false_and, Bool.and_false]
    · simp only [h1, decide_true, decide_false, if_true, Bool.false_eq_true, if_false, Bool.true_and, Bool.false_and, Bool.and_false]
  unfold F32 isC
  simp only [isF_eq, Option.bind_some, core_eq, j7]
  cases isF c.F.a0
  · rfl
  · cases isF c.F.a1
    · rfl
    · cases isF c.F.a2
      · rfl
      · cases isF c.F.a3
        · rfl
        · by_cases h1 : (1 : Int) ≤ c.Kind
          · by_cases h2 : c.Kind ≤ 8 <;> simp [h1, h2]
          · simp [h1]
def watchesC (c : Command) : Bool := decide (6 ≤ c.Kind) && decide (c.Kind ≤ 8)
theorem watches_eq (n : Nat) (c : Command) : F33 n c = some (watchesC c) := by
  unfold F33 watchesC
  by_cases h : (6 : Int) ≤ c.Kind <;> simp [h]
def okC (c : Command) : Bool := isC c && watchesC c
theorem wrong_eq (n : Nat) (c : Command) : F31 n c = some (!(okC c)) := by
  unfold F31 okC
  rw [isC_eq, Option.bind_some]
  cases isC c with
  | false => rfl
  | true => simp only [Bool.not_true, Bool.false_eq_true, if_false, watches_eq, Option.bind_some, Bool.true_and]
theorem idxC_l (n : Nat) (l : List Command) (hl : l.length ≤ 100000) : ∀ (m i : Nat), i ≤ l.length → l.length - i < m → ∃ r : Int, F68s0_l4 n l m (i : Int) = some r ∧ decide ((0 : Int) ≤ r) = !((l.drop i).all okC)
  | 0, i, _, h => by omega
  | m + 1, i, hi, h => by
    unfold F68s0_l4
    by_cases hlt : i < l.length
    · rw [if_pos (lt_dec hlt), ixg l i hlt, dropS l i hlt]
      simp only [Option.bind_some, wrong_eq, List.all_cons]
      cases hc : okC l[i] with
      | false => exact ⟨_, rfl, by simp⟩
      | true =>
        simp only [Bool.not_true, Bool.false_eq_true, if_false, Bool.true_and]
        rw [dsucc (by simp only [maxLen]; omega)]
        exact idxC_l n l hl m (i + 1) (by omega) (by omega)
    · rw [if_neg (by rw [ge_dec hlt]; decide), List.drop_of_length_le (by omega)]
      exact ⟨-1, rfl, rfl⟩
theorem wrongs_eq {n : Nat} {l : List Command} (hl : l.length ≤ 100000) (hn : l.length ≤ n) : F36s0 n l = some (!(l.all okC)) := by
  unfold F36s0 F68s0
  obtain ⟨r, h1, h2⟩ := idxC_l n l hl (n + 8) 0 (by omega) (by omega)
  have h1' : F68s0_l4 n l (n + 8) 0 = some r := h1
  rw [h1', Option.bind_some, h2, List.drop_zero]
structure Lens (n : Nat) (x : Note) : Prop where
  m : x.Moved.length ≤ 1000
  g : x.Given.length ≤ 1000
  h : x.Hands.length ≤ 1000
  w : x.Watch.length ≤ 1000
  n : 1000 ≤ n
def thOk (l : List Thing) (hs : List Hand) (b : Bool) : Bool := okTs hs b none l && decide ((l.length : Int) ≤ 200)
def isNt (k : Int) (x : Note) : Bool := !(decide (x.From < 0)) && (!(decide (k ≤ x.From)) && (!(decide (x.Beat < 0)) && (!(decide ((1073741824 : Int) < x.Beat)) && (!(decide ((20 : Int) < (x.Watch.length : Int))) && (okHs x.From k none x.Hands && (thOk x.Moved x.Hands false && (thOk x.Given x.Hands true && x.Watch.all okC)))))))
theorem ite_t (b : Bool) (x : Option Bool) (y : Bool) (h : x = some y) : (if b = true then x else some false) = some (b && y) := by cases b <;> simp [h]
theorem is_note {n : Nat} {x : Note} (L : Lens n x) (s : Int) : F11 n x s = some (isNt (imin s 4) x) := by
  have := L.m; have := L.g; have := L.h; have := L.w; have := L.n
  unfold F11 isNt
  rw [hands_eq _ _ (by omega) (by omega), Option.bind_some, things_eq false (by omega) (by omega) (by omega) (by omega), things_eq true (by omega) (by omega) (by omega) (by omega), wrongs_eq (by omega) (by omega)]
  simp only [Option.bind_some, Bool.not_not]
  refine ite_f _ _ _ (ite_f _ _ _ (ite_f _ _ _ (ite_f _ _ _ (ite_f _ _ _ (ite_t _ _ _ (ite_t _ _ _ (ite_t _ _ _ ?_)))))))
  rfl
theorem shape_eq (n : Nat) (c : Command) : F54 n c = some (coreC c) :=
  (show F54 n c = F61 n c from rfl).trans (core_eq n c)
theorem within_eq (n : Nat) (x a b : Int) : F53 n x a b = some (decide (a ≤ x) && decide (x ≤ b)) := by
  unfold F53
  by_cases h : a ≤ x <;> simp [h]
theorem rcisF_eq (n : Nat) (f : Field) : F57 n f = some (isF f) := by
  unfold F57 isF
  generalize (f.N == 0) = p
  generalize (f.Text.toList == ByteArray.empty.toList) = q
  cases p <;> cases q <;> simp
theorem ifand (p x y : Bool) : (if p = true then some x else some (false && y)) = some (p && x) := by cases p <;> rfl
theorem ifand' (p x : Bool) : (if p = true then some x else some false) = some (p && x) := by cases p <;> rfl
theorem rpoint_eq (n : Nat) (p : Point) : F55 n p = some (near p.X && near p.Y) := by
  unfold F55 near
  simp only [within_eq, Option.bind_some, ifand']
theorem rrect_eq (n : Nat) (r : Rect) : F56 n r = some ((near r.X0 && near r.Y0) && (near r.X1 && near r.Y1)) := by
  unfold F56
  simp only [rpoint_eq, Option.bind_some, ifand']
theorem rj12_eq (n : Nat) (c : Command) (b : Bool) : F27_j12 n c b = some (b && (isF c.F.a0 && (isF c.F.a1 && (isF c.F.a2 && isF c.F.a3)))) := by
  unfold F27_j12 F27_u15 F27_u18 F27_u21 F27_u24
  simp only [rcisF_eq, Option.bind_some]
  cases b <;> cases isF c.F.a0 <;> cases isF c.F.a1 <;> cases isF c.F.a2 <;> simp
theorem rcis_eq (n : Nat) (c : Command) : F27 n c = some (isC c) := by
  unfold F27
  simp only [rj12_eq, within_eq, shape_eq, rpoint_eq, rrect_eq, rcisF_eq, Option.bind_some, ifand]
  have e3 : decide (c.Client ≤ 3) = decide (c.Client < 4) := by
    rw [decide_eq_decide]; omega
  unfold isC boundsC
  simp only [List.all_cons, List.all_nil, Bool.and_true, e3]
  congr 1
  ac_rfl
theorem rwatches_eq (n : Nat) (c : Command) : F28 n c = some (watchesC c) := by
  unfold F28 watchesC
  simp only [within_eq, Option.bind_some]
theorem weave_up (n n' : Nat) (a b : Int) : ∀ (m k : Nat) (s i r : Int), F59_l7 n a b m s i = some r → F59_l7 n' a b (m + k) s i = some r
  | 0, k, s, i, r, h => by cases h
  | m + 1, k, s, i, r, h => by
    have e : m + 1 + k = (m + k) + 1 := by omega
    rw [e]
    unfold F59_l7 at h ⊢
    revert h
    repeat' split
    all_goals first
      | exact fun h => h
      | exact fun h => weave_up n n' a b m k _ _ _ h
      | exact fun h => nomatch h
theorem weaves_in : ∀ x y : Fin 4, F59 30 (x.val : Int) (y.val : Int) = some ((F90 0 (x.val : Int) (y.val : Int)).getD 0) := by decide +kernel
theorem weave_eq {n : Nat} (hn : 30 ≤ n) (x y : Fin 4) : F59 n (x.val : Int) (y.val : Int) = some ((F90 0 (x.val : Int) (y.val : Int)).getD 0) := by
  have := weave_up 30 n _ _ 38 (n - 30) 0 0 _ (weaves_in x y)
  have e : 38 + (n - 30) = n + 8 := by omega
  rw [e] at this
  exact this
theorem fin4 {x : Int} (h : 0 ≤ x) (h' : x < 64) : ∃ k : Fin 4, IntKind.wrap .u16 (IntKind.wrap .i64 (Int.tdiv x 16)) = (k.val : Int) := by
  refine ⟨⟨(x / 16).toNat, by omega⟩, ?_⟩
  have e : Int.tdiv x 16 = x / 16 := Int.tdiv_eq_ediv_of_nonneg h
  rw [e, d64 (by omega) (by omega)]
  simp [IntKind.wrap, IntKind.bits, IntKind.signed]; omega
theorem ron_eq' (n : Nat) (p : Point) : F58 n p = some (on p) := by
  unfold F58 on
  by_cases h1 : 0 ≤ p.X <;> by_cases h2 : p.X < 64 <;> by_cases h3 : 0 ≤ p.Y <;> simp [h1, h2, h3]
theorem on_in {p : Point} (h : on p = true) : (0 ≤ p.X ∧ p.X < 64) ∧ (0 ≤ p.Y ∧ p.Y < 64) := by
  unfold on at h
  revert h
  repeat' split
  all_goals simp_all
theorem rcel_eq {n : Nat} (hn : 30 ≤ n) (p : Point) : F29 n p = some (celP p) := by
  unfold F29
  rw [ron_eq', ← of_eq n p]
  unfold F64
  rw [on_eq]
  simp only [Option.bind_some]
  cases h : on p with
  | false => rfl
  | true =>
    obtain ⟨⟨a, b⟩, c, d⟩ := on_in h
    obtain ⟨x, hx⟩ := fin4 a b
    obtain ⟨y, hy⟩ := fin4 c d
    unfold F79
    simp only [Bool.not_true, Bool.false_eq_true, if_false, hx, hy, weave_eq hn]
    rfl
theorem rh_l (n : Nat) (l : List Hand) (c : Int) (hl : l.length ≤ 100000) : ∀ (m i : Nat), i ≤ l.length → l.length - i < m → F30_l4 n l c m (i : Int) = some (hasC (l.drop i) c)
  | 0, i, _, h => by omega
  | m + 1, i, hi, h => by
    unfold F30_l4
    by_cases hlt : i < l.length
    · rw [if_pos (lt_dec hlt), ixg l i hlt, dropS l i hlt]
      have ih := rh_l n l c hl m (i + 1) (by omega) (by omega)
      rw [← dsucc (by simp only [maxLen]; omega)] at ih
      unfold hasC at ih ⊢
      simp only [Option.bind_some, List.any_cons, ih]
      cases hc : (l[i].Cell == c) <;> simp
    · rw [if_neg (by rw [ge_dec hlt]; decide), List.drop_of_length_le (by omega)]; rfl
theorem rh_eq {n : Nat} {l : List Hand} (c : Int) (hl : l.length ≤ 100000) (hn : l.length ≤ n) : F30 n l c = some (hasC l c) :=
  rh_l n l c hl (n + 8) 0 (by omega) (by omega)
def inC (hs : List Hand) (b : Bool) (t : Thing) : Bool := hasC hs (celP t.At).1 == b
theorem r28 {n : Nat} (hn : 30 ≤ n) (x : Note) (hl : x.Moved.length ≤ 100000) (hh : x.Hands.length ≤ 100000) (hn2 : x.Hands.length ≤ n) : ∀ (m i : Nat), i ≤ x.Moved.length → x.Moved.length - i < m → F10_l28 n x m (i : Int) = some ((x.Moved.drop i).all (inC x.Hands false))
  | 0, i, _, h => by omega
  | m + 1, i, hi, h => by
    unfold F10_l28
    by_cases hlt : i < x.Moved.length
    · have ih := r28 hn x hl hh hn2 m (i + 1) (by omega) (by omega)
      rw [← dsucc (by simp only [maxLen]; omega)] at ih
      rw [if_pos (lt_dec hlt), ixg x.Moved i hlt, dropS x.Moved i hlt, List.all_cons]
      simp only [Option.bind_some, rcel_eq hn, rh_eq _ hh hn2, ih, inC]
      cases hasC x.Hands (celP x.Moved[i].At).1 <;> simp
    · rw [if_neg (by rw [ge_dec hlt]; decide), List.drop_of_length_le (by omega)]; rfl
theorem r21 {n : Nat} (hn : 30 ≤ n) (x : Note) (hm : x.Moved.length ≤ 100000) (hm2 : x.Moved.length ≤ n) (hl : x.Given.length ≤ 100000) (hh : x.Hands.length ≤ 100000) (hn2 : x.Hands.length ≤ n) : ∀ (m i : Nat), i ≤ x.Given.length → x.Given.length - i < m → F10_l21 n x m (i : Int) = some ((x.Given.drop i).all (inC x.Hands true) && x.Moved.all (inC x.Hands false))
  | 0, i, _, h => by omega
  | m + 1, i, hi, h => by
    unfold F10_l21
    by_cases hlt : i < x.Given.length
    · have ih := r21 hn x hm hm2 hl hh hn2 m (i + 1) (by omega) (by omega)
      rw [← dsucc (by simp only [maxLen]; omega)] at ih
      rw [if_pos (lt_dec hlt), ixg x.Given i hlt, dropS x.Given i hlt, List.all_cons]
      simp only [Option.bind_some, rcel_eq hn, rh_eq _ hh hn2, ih, inC]
      cases hasC x.Hands (celP x.Given[i].At).1 <;> simp
    · rw [if_neg (by rw [ge_dec hlt]; decide), List.drop_of_length_le (by omega)]
      have := r28 hn x hm hh hn2 (n + 8) 0 (by omega) (by omega)
      rw [List.drop_zero] at this
      exact this
theorem r13 {n : Nat} (hn : 30 ≤ n) (x : Note) (hm : x.Moved.length ≤ 100000) (hm2 : x.Moved.length ≤ n) (hg : x.Given.length ≤ 100000) (hg2 : x.Given.length ≤ n) (hh : x.Hands.length ≤ 100000) (hn2 : x.Hands.length ≤ n) (hw : x.Watch.length ≤ 100000) : ∀ (m i : Nat), i ≤ x.Watch.length → x.Watch.length - i < m → F10_l13 n x m (i : Int) = some ((x.Watch.drop i).all okC && (x.Given.all (inC x.Hands true) && x.Moved.all (inC x.Hands false)))
  | 0, i, _, h => by omega
  | m + 1, i, hi, h => by
    unfold F10_l13
    by_cases hlt : i < x.Watch.length
    · have ih := r13 hn x hm hm2 hg hg2 hh hn2 hw m (i + 1) (by omega) (by omega)
      rw [← dsucc (by simp only [maxLen]; omega)] at ih
      rw [if_pos (lt_dec hlt), ixg x.Watch i hlt, dropS x.Watch i hlt, List.all_cons]
      simp only [Option.bind_some, rcis_eq, rwatches_eq, ih, okC]
      cases isC x.Watch[i] <;> cases watchesC x.Watch[i] <;> simp
    · rw [if_neg (by rw [ge_dec hlt]; decide), List.drop_of_length_le (by omega)]
      have := r21 hn x hm hm2 hg hh hn2 (n + 8) 0 (by omega) (by omega)
      rw [List.drop_zero] at this
      exact this
theorem rcell_eq (n : Nat) (c : Int) : F26 n c = some (isCell c) := by
  unfold F26 isCell
  by_cases h : (0 : Int) ≤ c <;> simp [h]
theorem r6 {n : Nat} (hn : 30 ≤ n) (x : Note) (s : Int) (hm : x.Moved.length ≤ 100000) (hm2 : x.Moved.length ≤ n) (hg : x.Given.length ≤ 100000) (hg2 : x.Given.length ≤ n) (hh : x.Hands.length ≤ 100000) (hn2 : x.Hands.length ≤ n) (hw : x.Watch.length ≤ 100000) (hw2 : x.Watch.length ≤ n) : ∀ (m i : Nat), i ≤ x.Hands.length → x.Hands.length - i < m → F10_l6 n x s m (i : Int) = some (okHs x.From (imin s 4) (prevH x.Hands i) (x.Hands.drop i) && (x.Watch.all okC && (x.Given.all (inC x.Hands true) && x.Moved.all (inC x.Hands false))))
  | 0, i, _, h => by omega
  | m + 1, i, hi, h => by
    unfold F10_l6
    by_cases hlt : i < x.Hands.length
    · have ih := r6 hn x s hm hm2 hg hg2 hh hn2 hw hw2 m (i + 1) (by omega) (by omega)
      rw [← dsucc (by simp only [maxLen]; omega), prevHS x.Hands i hlt] at ih
      rw [if_pos (lt_dec hlt), ixg x.Hands i hlt, dropS x.Hands i hlt, okHs]
      simp only [Option.bind_some, rcell_eq, okH]
      cases hc : isCell x.Hands[i].Cell with
      | false => rfl
      | true =>
        simp only [Bool.not_true, Bool.false_eq_true, if_false, Bool.true_and]
        cases i with
        | zero =>
          rw [if_neg (by decide : ¬ decide ((0 : Int) < ((0 : Nat) : Int)) = true), prevH0]
          have tail := ite_f (decide (x.Hands[0].To < 0)) _ _ (ite_f (decide (imin s 4 ≤ x.Hands[0].To)) _ _ (ite_f (x.Hands[0].To == x.From) _ _ ih))
          rw [tail]
          simp [Bool.and_assoc]
        | succ i =>
          have c : decide ((0 : Int) < ((i + 1 : Nat) : Int)) = true := by simp
          rw [if_pos c, pred_wn (by simp only [maxLen]; omega), ixg x.Hands i (by omega), prevHS x.Hands i (by omega)]
          simp only [Option.bind_some]
          have tail := ite_f (decide (x.Hands[i + 1].To < 0)) _ _ (ite_f (decide (imin s 4 ≤ x.Hands[i + 1].To)) _ _ (ite_f (x.Hands[i + 1].To == x.From) _ _ (ite_f (decide (x.Hands[i + 1].Cell ≤ x.Hands[i].Cell)) _ _ ih)))
          rw [tail]
          congr 1
          simp only [Bool.and_assoc]
          ac_rfl
    · rw [if_neg (by rw [ge_dec hlt]; decide), List.drop_of_length_le (by omega)]
      have := r13 hn x hm hm2 hg hg2 hh hn2 hw (n + 8) 0 (by omega) (by omega)
      rw [List.drop_zero] at this
      exact this
def fm (cx cy : Int) : Int := bitsI .or .i64 (bitsI .or .i64 (bitsI .or .i64 (bitsI .and .i64 cx 1) (shlI .i64 (bitsI .and .i64 cy 1) 1)) (shlI .i64 (bitsI .and .i64 cx 2) 1)) (shlI .i64 (bitsI .and .i64 cy 2) 2)
theorem fm_in : ∀ x y : Fin 4, IntKind.wrap .i64 ((F90 0 (x.val : Int) (y.val : Int)).getD 0) = fm (x.val : Int) (y.val : Int) := by decide +kernel
theorem dv4 {x : Int} (h : 0 ≤ x) (h' : x < 64) : ∃ k : Fin 4, IntKind.wrap .i64 (Int.tdiv x 16) = (k.val : Int) ∧ IntKind.wrap .u16 (IntKind.wrap .i64 (Int.tdiv x 16)) = (k.val : Int) := by
  have e : Int.tdiv x 16 = x / 16 := Int.tdiv_eq_ediv_of_nonneg h
  refine ⟨⟨(x / 16).toNat, by omega⟩, ?_, ?_⟩
  · rw [e, d64 (by omega) (by omega)]; show x / 16 = (((x / 16).toNat : Nat) : Int); omega
  · rw [e, d64 (by omega) (by omega)]
    simp [IntKind.wrap, IntKind.bits, IntKind.signed]; omega
theorem on_of {x y : Int} (h : 0 ≤ x ∧ x < 64) (h' : 0 ≤ y ∧ y < 64) : on ⟨x, y⟩ = true := by
  unfold on; simp [h.1, h.2, h'.1, h'.2]
theorem cel_fm {x y : Int} (h : 0 ≤ x ∧ x < 64) (h' : 0 ≤ y ∧ y < 64) : (celP ⟨x, y⟩).1 = fm (IntKind.wrap .i64 (Int.tdiv x 16)) (IntKind.wrap .i64 (Int.tdiv y 16)) := by
  obtain ⟨i, e1, e2⟩ := dv4 h.1 h.2
  obtain ⟨j, e3, e4⟩ := dv4 h'.1 h'.2
  rw [e1, e3, ← fm_in]
  unfold celP F64 F79
  rw [on_eq, on_of h h']
  simp only [Option.bind_some, Bool.not_true, Bool.false_eq_true, if_false, e2, e4]
  rfl
def tA (x y : Int) : Thing := ⟨5, ⟨x, y⟩, ⟨⟨0, ByteArray.empty⟩, ⟨0, ByteArray.empty⟩, ⟨0, ByteArray.empty⟩, ⟨0, ByteArray.empty⟩⟩⟩
theorem isF0 : isF ⟨0, ByteArray.empty⟩ = true := by decide +kernel
theorem isTh_A {x y : Int} (h : 0 ≤ x ∧ x < 64) (h' : 0 ≤ y ∧ y < 64) : isTh (tA x y) = true := by
  unfold isTh tA
  simp only [on_of h h', isF0]; rfl
theorem j5_eq {n : Nat} (hn : 1000 ≤ n) {a2 a3 : Int} {l : List Hand} {b : Bool} (hl : l.length ≤ 2) (ok : okHs 0 2 none l = true)
    (h : 0 ≤ IntKind.wrap .i64 (Int.tmod a2 64) ∧ IntKind.wrap .i64 (Int.tmod a2 64) < 64) (h' : 0 ≤ IntKind.wrap .i64 (Int.tmod a3 64) ∧ IntKind.wrap .i64 (Int.tmod a3 64) < 64)
    (hc : hasC l (celP ⟨IntKind.wrap .i64 (Int.tmod a2 64), IntKind.wrap .i64 (Int.tmod a3 64)⟩).1 = b) : F6_j5 n a2 a3 l b = some true := by
  unfold F6_j5
  revert hc h h'
  generalize IntKind.wrap .i64 (Int.tmod a2 64) = x
  generalize IntKind.wrap .i64 (Int.tmod a3 64) = y
  intro h h' hc
  have hT := isTh_A h h'
  have i2 : imin 2 4 = 2 := by decide
  show ((F11 n ⟨0, 2, [], l, [], []⟩ 2).bind fun r6 => if r6 = true then (F11 n ⟨0, 2, [], l, [tA x y], []⟩ 2).bind fun r7 => if (r7 == b) = true then (F11 n ⟨0, 2, [tA x y], l, [], []⟩ 2).bind fun r8 => some (r8 == !b) else some false else some false) = some true
  have L1 : Lens n ⟨0, 2, [], l, [], []⟩ := ⟨by simp, by simp, by simp only; omega, by simp, hn⟩
  have L2 : Lens n ⟨0, 2, [], l, [tA x y], []⟩ := ⟨by simp, by simp, by simp only; omega, by simp, hn⟩
  have L3 : Lens n ⟨0, 2, [tA x y], l, [], []⟩ := ⟨by simp, by simp, by simp only; omega, by simp, hn⟩
  rw [is_note L1, is_note L2, is_note L3, i2]
  have q1 : isNt 2 ⟨0, 2, [], l, [], []⟩ = true := by unfold isNt; simp only [ok]; rfl
  have hc' : hasC l (celP (tA x y).At).1 = b := hc
  have q2 : isNt 2 ⟨0, 2, [], l, [tA x y], []⟩ = b := by
    have : thOk [tA x y] l true = b := by
      unfold thOk okTs okTs okT
      simp only [hT, hc']
      cases b <;> rfl
    unfold isNt
    simp only [ok, this]
    cases b <;> rfl
  have q3 : isNt 2 ⟨0, 2, [tA x y], l, [], []⟩ = !b := by
    have : thOk [tA x y] l false = !b := by
      unfold thOk okTs okTs okT
      simp only [hT, hc']
      cases b <;> rfl
    unfold isNt
    simp only [ok, this]
    cases b <;> rfl
  rw [q1, q2, q3]
  cases b <;> rfl
theorem u8_in {a : Int} (h : (Lit.int .u8 a).wf = true) : 0 ≤ a ∧ a < 256 := by
  obtain ⟨k, rfl⟩ := fin_u8 h
  have := k.isLt
  omega
theorem md {a : Int} (h : (Lit.int .u8 a).wf = true) (k : Int) (hk : 0 < k) (hk' : k ≤ 256) : 0 ≤ IntKind.wrap .i64 (Int.tmod a k) ∧ IntKind.wrap .i64 (Int.tmod a k) < k := by
  have h1 := u8_in h
  have e : Int.tmod a k = a % k := Int.tmod_eq_emod_of_nonneg h1.1
  have h2 := Int.emod_nonneg a (by omega : k ≠ 0)
  have h3 := Int.emod_lt_of_pos a hk
  rw [e, d64 (by omega) (by omega)]
  omega
theorem noteCells_pure (a0 a1 a2 a3 : Int) (h0 : (Lit.int .u8 a0).wf = true) (h1 : (Lit.int .u8 a1).wf = true) (h2 : (Lit.int .u8 a2).wf = true) (h3 : (Lit.int .u8 a3).wf = true) : ∃ n, F6 n a0 a1 a2 a3 = some true := by
  refine ⟨1000, ?_⟩
  have b0 := md h0 16 (by omega) (by omega)
  have b1 := md h1 16 (by omega) (by omega)
  have b2 := md h2 64 (by omega) (by omega)
  have b3 := md h3 64 (by omega) (by omega)
  unfold F6 F6_j3
  have ce := cel_fm b2 b3
  revert b0 b1
  generalize IntKind.wrap .i64 (Int.tmod a0 16) = A
  generalize IntKind.wrap .i64 (Int.tmod a1 16) = B
  intro b0 b1
  have key : ∀ l : List Hand, l.length ≤ 2 → okHs 0 2 none l = true → hasC l (celP ⟨IntKind.wrap .i64 (Int.tmod a2 64), IntKind.wrap .i64 (Int.tmod a3 64)⟩).1 = ((celP ⟨IntKind.wrap .i64 (Int.tmod a2 64), IntKind.wrap .i64 (Int.tmod a3 64)⟩).1 == A || (celP ⟨IntKind.wrap .i64 (Int.tmod a2 64), IntKind.wrap .i64 (Int.tmod a3 64)⟩).1 == B) →
      (if (fm (IntKind.wrap .i64 (Int.tdiv (IntKind.wrap .i64 (Int.tmod a2 64)) 16)) (IntKind.wrap .i64 (Int.tdiv (IntKind.wrap .i64 (Int.tmod a3 64)) 16)) == A) = true then F6_j5 1000 a2 a3 l true else F6_j5 1000 a2 a3 l (fm (IntKind.wrap .i64 (Int.tdiv (IntKind.wrap .i64 (Int.tmod a2 64)) 16)) (IntKind.wrap .i64 (Int.tdiv (IntKind.wrap .i64 (Int.tmod a3 64)) 16)) == B)) = some true := by
    intro l hl ok hc
    rw [← ce]
    split
    · rename_i hA
      exact j5_eq (by omega) hl ok b2 b3 (by rw [hc, hA]; rfl)
    · rename_i hA
      have hA' := Bool.eq_false_iff.2 hA
      exact j5_eq (by omega) hl ok b2 b3 (by rw [hc, hA', Bool.false_or])
  generalize (celP ⟨IntKind.wrap .i64 (Int.tmod a2 64), IntKind.wrap .i64 (Int.tmod a3 64)⟩).1 = c at key ce
  simp only [Option.bind_some, Bool.not_true, Bool.false_eq_true, if_false]
  have mn : (imin A B ≤ A ∧ imin A B ≤ B) ∧ (imin A B = A ∨ imin A B = B) := by unfold imin; split <;> omega
  have mx : (A ≤ imax A B ∧ B ≤ imax A B) ∧ (imax A B = A ∨ imax A B = B) := by unfold imax; split <;> omega
  by_cases hab : A = B
  · rw [if_neg (by simp [hab])]
    refine key [⟨imin A B, 1⟩] (by simp) ?_ ?_
    · have m : 0 ≤ imin A B ∧ imin A B < 16 := by omega
      simp [okHs, okH, isCell, m.1, m.2]
    · have m : imin A B = A := by omega
      rw [m, ← hab]
      unfold hasC
      simp only [List.any_cons, List.any_nil, Bool.or_false, Bool.or_self]
      rw [Bool.eq_iff_iff]; simp only [beq_iff_eq]; omega
  · rw [if_pos (by simpa using hab)]
    rw [if_pos (by simp [maxCells])]
    refine key [⟨imin A B, 1⟩, ⟨imax A B, 1⟩] (by simp) ?_ ?_
    · have m : (0 ≤ imin A B ∧ imin A B < 16) ∧ (0 ≤ imax A B ∧ imax A B < 16) ∧ imin A B < imax A B := by omega
      simp [okHs, okH, isCell, m.1.1, m.1.2, m.2.1.1, m.2.1.2]; omega
    · unfold hasC
      simp only [List.any_cons, List.any_nil, Bool.or_false]
      rw [Bool.eq_iff_iff]; simp only [Bool.or_eq_true, beq_iff_eq]; omega

end Go.Proofs.Ytpjejnefegdoeaa
