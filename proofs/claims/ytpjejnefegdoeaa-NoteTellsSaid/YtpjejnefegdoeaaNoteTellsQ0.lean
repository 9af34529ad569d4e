/-
  What the law says, in plain Lean. No condition.
-/
import Derived.Test.YtpjejnefegdoeaaNoteTellsV
import Derived.Test.YtpjejnefegdoeaaNoteTellsP1
namespace Go.Proofs.Ytpjejnefegdoeaa
open Go Go.Rx
set_option maxRecDepth 100000
set_option linter.unusedVariables false
set_option linter.unusedSimpArgs false
set_option linter.unnecessarySimpa false
theorem Point.eqb_iff (x y : Point) : Point.eqb x y = true ↔ x = y := by
  cases x; cases y; simp [Point.eqb]
theorem Field.eqb_iff (x y : Field) : Field.eqb x y = true ↔ x = y := by
  cases x; cases y; simp [Field.eqb, ba_beq]
theorem A4_Field.eqb_iff (x y : A4 Field) : A4_Field.eqb x y = true ↔ x = y := by
  cases x; cases y; simp [A4_Field.eqb, Field.eqb_iff]
theorem Thing.eqb_iff (x y : Thing) : Thing.eqb x y = true ↔ x = y := by
  cases x; cases y; simp [Thing.eqb, Point.eqb_iff, A4_Field.eqb_iff]
def noP : Point := ⟨0, 0⟩
def noF : Field := ⟨0, ByteArray.empty⟩
def hs (m i : Int) : Bool := bitsI .and .u8 (shrI .u8 m i) 1 == 1
theorem has0 (n : Nat) (m : Int) : F89 n m 0 = some (hs m 1) := rfl
theorem has1 (n : Nat) (m : Int) : F89 n m 1 = some (hs m 2) := rfl
theorem has2 (n : Nat) (m : Int) : F89 n m 2 = some (hs m 3) := rfl
theorem has3 (n : Nat) (m : Int) : F89 n m 3 = some (hs m 4) := rfl
def isF (f : Field) : Bool := if f.N == 0 then decide ((f.Text.size : Int) ≤ 12) else if f.Text.toList == ByteArray.empty.toList then decide ((f.Text.size : Int) ≤ 12) else false
theorem isF_eq (n : Nat) (f : Field) : F60 n f = some (isF f) := by
  unfold F60 isF
  split
  · rfl
  · split <;> rfl
def okF (f : Field) (e : Bool) : Bool := isF f && (e || Field.eqb f noF)
def on (p : Point) : Bool := if decide ((0 : Int) ≤ p.X) then if decide (p.X < 64) then if decide ((0 : Int) ≤ p.Y) then decide (p.Y < 64) else false else false else false
theorem on_eq (n : Nat) (p : Point) : F78 n p = some (on p) := by
  unfold F78 on
  split
  · split
    · split <;> rfl
    · rfl
  · rfl
def a1 (d : Delta) : Bool := (bitsI .and .u8 d.Mask 1) != 0
def fl4 (d : Delta) : Bool := okF d.F.a0 (hs d.Mask 1) && (okF d.F.a1 (hs d.Mask 2) && (okF d.F.a2 (hs d.Mask 3) && okF d.F.a3 (hs d.Mask 4)))
def isD (d : Delta) : Bool := !(decide (d.ID < 0)) && (!(decide ((1000000 : Int) < d.ID)) && (!(d.Mask == 0) && (!(decide ((31 : Int) < d.Mask)) && ((a1 d || Point.eqb d.At noP) && (on d.At && fl4 d)))))
theorem isd_fin (f : Field) (e : Bool) (o : Option Bool) (b : Bool) (ho : o = some b) : (if (!(isF f)) = true then some false else if (!e) = true then if (!(Field.eqb f ⟨0, ByteArray.empty⟩)) = true then some false else o else o) = some (okF f e && b) := by
  subst ho
  have : Field.eqb f ⟨0, ByteArray.empty⟩ = Field.eqb f noF := rfl
  rw [this]
  unfold okF
  cases isF f <;> cases e <;> cases Field.eqb f noF <;> simp
theorem isd_l (n : Nat) (d : Delta) : F88_j3 n d = some (fl4 d) := by
  have s3 : F88_u12 n d = some (okF d.F.a3 (hs d.Mask 4) && true) := by
    unfold F88_u12
    simp only [isF_eq, has3, Option.bind_some]
    exact isd_fin _ _ _ _ rfl
  have s2 : F88_u9 n d = some (okF d.F.a2 (hs d.Mask 3) && (okF d.F.a3 (hs d.Mask 4) && true)) := by
    unfold F88_u9
    simp only [isF_eq, has2, Option.bind_some]
    exact isd_fin _ _ _ _ s3
  have s1 : F88_u6 n d = some (okF d.F.a1 (hs d.Mask 2) && (okF d.F.a2 (hs d.Mask 3) && (okF d.F.a3 (hs d.Mask 4) && true))) := by
    unfold F88_u6
    simp only [isF_eq, has1, Option.bind_some]
    exact isd_fin _ _ _ _ s2
  have s0 : F88_j3 n d = some (okF d.F.a0 (hs d.Mask 1) && (okF d.F.a1 (hs d.Mask 2) && (okF d.F.a2 (hs d.Mask 3) && (okF d.F.a3 (hs d.Mask 4) && true)))) := by
    unfold F88_j3
    simp only [isF_eq, has0, Option.bind_some]
    exact isd_fin _ _ _ _ s1
  rw [s0]
  simp [fl4]
theorem isD_eq (n : Nat) (d : Delta) : F88 n d = some (isD d) := by
  unfold F88
  have hl := isd_l n d
  have ep : Point.eqb d.At (Point.mk 0 0) = Point.eqb d.At noP := rfl
  simp only [on_eq, Option.bind_some, hl, isD, a1, ep, bne]
  by_cases h1 : d.ID < 0
  · simp [h1]
  · by_cases h2 : 1000000 < d.ID
    · simp [h1, h2]
    · by_cases h3 : d.Mask = 0
      · simp [h1, h2, h3]
      · by_cases h4 : 31 < d.Mask
        · simp [h1, h2, h3, h4]
        · cases h5 : (bitsI .and .u8 d.Mask 1 == 0) <;> cases h6 : Point.eqb d.At noP <;> cases h7 : on d.At <;> simp [h1, h2, h3, h4, h5, h6, h7]
theorem shr7 (x : Int) : shrI .u64 x 7 = x / 128 := by
  show Int.fdiv x 128 = x / 128
  exact Int.fdiv_eq_ediv_of_nonneg x (by decide)
theorem wrap_u64 (x : Int) : IntKind.wrap .u64 x = x % 18446744073709551616 := by simp [IntKind.wrap, IntKind.bits, IntKind.signed]
def ch (x : Int) : Int := bitsI .or .u8 (IntKind.wrap .u8 x) 128
theorem push_data (l : List Int) : ∀ s : ByteArray, (l.foldl (fun r n => r.push (UInt8.ofNat n.toNat)) s).data = s.data ++ (l.map fun n => UInt8.ofNat n.toNat).toArray := by
  induction l with
  | nil => intro s; simp
  | cons a l ih => intro s; simp only [List.foldl_cons, ih, List.map_cons]; cases s; simp [ByteArray.push]
theorem mkStr_data (l : List Int) : (mkStr l).data = (l.map fun n => UInt8.ofNat n.toNat).toArray := by
  unfold mkStr
  rw [push_data]
  show (#[] : Array UInt8) ++ _ = _
  simp
theorem mkStr_size (l : List Int) : (mkStr l).size = l.length := by
  show (mkStr l).data.size = _
  rw [mkStr_data]; simp
theorem ba_ext {a b : ByteArray} (h : a.data = b.data) : a = b := by cases a; cases b; simp only at h; rw [h]
theorem ba_size (a b : ByteArray) : (a ++ b).size = a.size + b.size := by
  show (a ++ b).data.size = _
  rw [ByteArray.data_append, Array.size_append]
  rfl
theorem ba_nil (a : ByteArray) : ByteArray.empty ++ a = a := by
  apply ba_ext
  rw [ByteArray.data_append]
  show (#[] : Array UInt8) ++ _ = _
  simp
def putL : Nat → Int → List Int
  | 0, _ => []
  | k + 1, x => if 128 ≤ x then ch x :: putL k (x / 128) else [IntKind.wrap .u8 x]
theorem putL_len : ∀ (k : Nat) (x : Int), (putL (k + 1) x).length ≤ k + 1 ∧ 1 ≤ (putL (k + 1) x).length
  | 0, x => by unfold putL; split <;> simp [putL]
  | k + 1, x => by
    have := putL_len k (x / 128)
    unfold putL
    split
    · simp only [List.length_cons]; omega
    · simp
theorem pow10 {x : Int} (h : x < 18446744073709551616) : x < 128 ^ 10 := by
  have : (128 : Int) ^ 10 = 1180591620717411303424 := by decide
  rw [this]; omega
def pt (x : Int) : ByteArray := mkStr (putL 10 x)
theorem pt_size (x : Int) : (pt x).size ≤ 10 ∧ 1 ≤ (pt x).size := by
  rw [pt, mkStr_size]; exact putL_len 9 x
theorem u64_in (x : Int) : 0 ≤ IntKind.wrap .u64 x ∧ IntKind.wrap .u64 x < 18446744073709551616 := by rw [wrap_u64]; omega
def pu (x : Int) : ByteArray := pt (IntKind.wrap .u64 x)
theorem pu_size (x : Int) : (pu x).size ≤ 10 ∧ 1 ≤ (pu x).size := pt_size _
def tx (s : ByteArray) : ByteArray := pu (s.size : Int) ++ s
theorem tx_size (s : ByteArray) : (tx s).size ≤ 10 + s.size ∧ 1 + s.size ≤ (tx s).size := by
  have := pu_size (s.size : Int)
  rw [tx, ba_size]; omega
theorem xor_in (a b : Int) : 0 ≤ bitsI .xor .u64 a b ∧ bitsI .xor .u64 a b < 18446744073709551616 := u64_in _
def zg (x : Int) : ByteArray := pt (bitsI .xor .u64 (shlI .u64 (IntKind.wrap .u64 x) 1) (IntKind.wrap .u64 (shrI .i64 x 63)))
def isE (s : ByteArray) : Bool := s.toList == ByteArray.empty.toList
def stage (s : ByteArray) (f : Field) (e : Bool) : ByteArray := if e then (if isE f.Text then s ++ tx f.Text ++ zg f.N else s ++ tx f.Text) else s
theorem stage_size (s : ByteArray) (f : Field) (e : Bool) (h : f.Text.size ≤ 40) : (stage s f e).size ≤ s.size + 60 := by
  have := tx_size f.Text
  have := pt_size (bitsI .xor .u64 (shlI .u64 (IntKind.wrap .u64 f.N) 1) (IntKind.wrap .u64 (shrI .i64 f.N 63)))
  have hz : (zg f.N).size ≤ 10 := this.1
  unfold stage
  split
  · split
    · rw [ba_size, ba_size]; omega
    · rw [ba_size]; omega
  · omega
def head (d : Delta) : ByteArray := if a1 d then (pu d.ID ++ pu d.Mask) ++ (pu d.At.X ++ pu d.At.Y) else pu d.ID ++ pu d.Mask
def body (s : ByteArray) (d : Delta) : ByteArray := stage (stage (stage (stage s d.F.a0 (hs d.Mask 1)) d.F.a1 (hs d.Mask 2)) d.F.a2 (hs d.Mask 3)) d.F.a3 (hs d.Mask 4)
def Few (d : Delta) : Prop := d.F.a0.Text.size ≤ 40 ∧ d.F.a1.Text.size ≤ 40 ∧ d.F.a2.Text.size ≤ 40 ∧ d.F.a3.Text.size ≤ 40
theorem head_size (d : Delta) : (head d).size ≤ 40 := by
  have p1 := pu_size d.ID; have p2 := pu_size d.Mask; have p3 := pu_size d.At.X; have p4 := pu_size d.At.Y
  unfold head
  split
  · rw [ba_size, ba_size, ba_size]; omega
  · rw [ba_size]; omega
theorem ixg {α : Type} (l : List α) (i : Nat) (h : i < l.length) : ix l (i : Int) = some l[i] := by
  simp [ix, h]
theorem dsucc {i : Nat} (h : i < maxLen) : IntKind.wrap .i64 ((i : Int) + 1) = ((i + 1 : Nat) : Int) := by
  simp only [maxLen] at h
  simp [IntKind.wrap, IntKind.bits, IntKind.signed]; omega
theorem lt_dec {i n : Nat} (h : i < n) : decide ((i : Int) < (n : Int)) = true := by simp; omega
theorem ge_dec {i n : Nat} (h : ¬ i < n) : decide ((i : Int) < (n : Int)) = false := by simp; omega
theorem dropS {α : Type} (l : List α) (i : Nat) (h : i < l.length) : l.drop i = l[i] :: l.drop (i + 1) := (List.getElem_cons_drop (h := h)).symm
def isTh (t : Thing) : Bool := decide (0 ≤ t.ID) && (decide (t.ID ≤ 1000000) && (on t.At && (isF t.F.a0 && (isF t.F.a1 && (isF t.F.a2 && isF t.F.a3)))))
theorem not_eq (n : Nat) (f : Field) : F82 n f = some (!(isF f)) := by
  unfold F82
  simp only [isF_eq, Option.bind_some]
theorem is_eq (n : Nat) (t : Thing) : F67 n t = some (isTh t) := by
  have hz : ∀ a b c d : Field, F81s0 n [a, b, c, d] = some (!(isF a && (isF b && (isF c && isF d)))) := by
    intro a b c d
    unfold F81s0 F91s0
    unfold F91s0_l4
    have w1 : IntKind.wrap .i64 ((0 : Int) + 1) = 1 := by decide
    have w2 : IntKind.wrap .i64 ((1 : Int) + 1) = 2 := by decide
    have w3 : IntKind.wrap .i64 ((2 : Int) + 1) = 3 := by decide
    have w4 : IntKind.wrap .i64 ((3 : Int) + 1) = 4 := by decide
    have x0 : ix [a, b, c, d] 0 = some a := rfl
    have x1 : ix [a, b, c, d] 1 = some b := rfl
    have x2 : ix [a, b, c, d] 2 = some c := rfl
    have x3 : ix [a, b, c, d] 3 = some d := rfl
    have l0 : decide ((0 : Int) < (([a, b, c, d] : List Field).length : Int)) = true := rfl
    have l1 : decide ((1 : Int) < (([a, b, c, d] : List Field).length : Int)) = true := rfl
    have l2 : decide ((2 : Int) < (([a, b, c, d] : List Field).length : Int)) = true := rfl
    have l3 : decide ((3 : Int) < (([a, b, c, d] : List Field).length : Int)) = true := rfl
    have l4 : decide ((4 : Int) < (([a, b, c, d] : List Field).length : Int)) = false := rfl
    rw [if_pos l0, x0]
    simp only [Option.bind_some, not_eq]
    cases isF a with
    | false => rfl
    | true =>
      simp only [Bool.not_true, Bool.false_eq_true, if_false, Bool.true_and]
      rw [w1]
      unfold F91s0_l4
      rw [if_pos l1, x1]
      simp only [Option.bind_some, not_eq]
      cases isF b with
      | false => rfl
      | true =>
        simp only [Bool.not_true, Bool.false_eq_true, if_false, Bool.true_and]
        rw [w2]
        unfold F91s0_l4
        rw [if_pos l2, x2]
        simp only [Option.bind_some, not_eq]
        cases isF c with
        | false => rfl
        | true =>
          simp only [Bool.not_true, Bool.false_eq_true, if_false, Bool.true_and]
          rw [w3]
          unfold F91s0_l4
          rw [if_pos l3, x3]
          simp only [Option.bind_some, not_eq]
          cases isF d with
          | false => rfl
          | true =>
            simp only [Bool.not_true, Bool.false_eq_true, if_false]
            rw [w4]
            unfold F91s0_l4
            rw [if_neg (by rw [l4]; decide)]
            rfl
  unfold F67 isTh
  rw [hz]
  simp only [on_eq, Option.bind_some, Bool.not_not]
  by_cases h1 : 0 ≤ t.ID
  · by_cases h2 : t.ID ≤ 1000000
    · cases h3 : on t.At <;> simp [h1, h2]
    · simp [h1, h2]
  · simp [h1]
def full (t : Thing) : Delta := ⟨t.ID, 31, t.At, t.F⟩
theorem text_few {f : Field} (h : isF f = true) : f.Text.size ≤ 12 := by
  unfold isF at h
  split at h
  · simp at h; omega
  · split at h
    · simp at h; omega
    · cases h
theorem isTh_F {t : Thing} (h : isTh t = true) : isF t.F.a0 = true ∧ isF t.F.a1 = true ∧ isF t.F.a2 = true ∧ isF t.F.a3 = true := by
  unfold isTh at h
  simp only [Bool.and_eq_true] at h
  exact ⟨h.2.2.2.1, h.2.2.2.2.1, h.2.2.2.2.2.1, h.2.2.2.2.2.2⟩
theorem isTh_few {t : Thing} (h : isTh t = true) : Few (full t) := by
  obtain ⟨h0, h1, h2, h3⟩ := isTh_F h
  have := text_few h0; have := text_few h1; have := text_few h2; have := text_few h3
  refine ⟨?_, ?_, ?_, ?_⟩ <;> (unfold full; simp only; omega)
theorem full_is (t : Thing) : isD (full t) = isTh t := by
  have b1 : hs 31 1 = true := by decide +kernel
  have b2 : hs 31 2 = true := by decide +kernel
  have b3 : hs 31 3 = true := by decide +kernel
  have b4 : hs 31 4 = true := by decide +kernel
  have c1 : a1 (full t) = true := by show ((bitsI .and .u8 31 1) != 0) = true; decide +kernel
  unfold isD isTh fl4 okF
  have e : (full t).Mask = 31 := rfl
  rw [c1, e, b1, b2, b3, b4]
  have f1 : (!((31 : Int) == 0)) = true := rfl
  have f2 : (!(decide ((31 : Int) < 31))) = true := rfl
  rw [f1, f2]
  simp only [Bool.true_and, Bool.true_or, Bool.and_true]
  show (!(decide (t.ID < 0)) && (!(decide (1000000 < t.ID)) && (on t.At && (isF t.F.a0 && (isF t.F.a1 && (isF t.F.a2 && isF t.F.a3)))))) = _
  have g1 : (!(decide (t.ID < 0))) = decide (0 ≤ t.ID) := by by_cases h : t.ID < 0 <;> simp [h] <;> omega
  have g2 : (!(decide (1000000 < t.ID))) = decide (t.ID ≤ 1000000) := by by_cases h : 1000000 < t.ID <;> simp [h] <;> omega
  rw [g1, g2]
theorem pred_wn {i : Nat} (h : i + 1 < maxLen) : IntKind.wrap .i64 (((i + 1 : Nat) : Int) - 1) = (i : Int) := by
  simp only [maxLen] at h
  simp [IntKind.wrap, IntKind.bits, IntKind.signed]; omega
def isCell (c : Int) : Bool := decide (0 ≤ c) && decide (c < 16)
theorem isCell_eq (n : Nat) (c : Int) : F63 n c = some (isCell c) := by
  unfold F63 isCell
  by_cases h : (0 : Int) ≤ c
  · rw [if_pos (decide_eq_true h), decide_eq_true h]; rfl
  · rw [if_neg (by simp; omega), decide_eq_false h]; rfl
def okH (f k : Int) (p : Option Int) (h : Hand) : Bool := isCell h.Cell && ((match p with | none => true | some q => !(decide (h.Cell ≤ q))) && (!(decide (h.To < 0)) && (!(decide (k ≤ h.To)) && !(h.To == f))))
def okHs (f k : Int) : Option Int → List Hand → Bool
  | _, [] => true
  | p, h :: l => okH f k p h && okHs f k (some h.Cell) l
def prevH (l : List Hand) (i : Nat) : Option Int := if i = 0 then none else some ((l.getD (i - 1) ⟨0, 0⟩).Cell)
theorem prevH0 (l : List Hand) : prevH l 0 = none := rfl
theorem prevHS (l : List Hand) (i : Nat) (h : i < l.length) : prevH l (i + 1) = some l[i].Cell := by
  unfold prevH
  rw [if_neg (by omega)]
  have : i + 1 - 1 = i := by omega
  rw [this, List.getD_eq_getElem?_getD, List.getElem?_eq_getElem h]; rfl
theorem ite_f (b : Bool) (x : Option Bool) (y : Bool) (h : x = some y) : (if b = true then some false else x) = some (!b && y) := by cases b <;> simp [h]
theorem hands_l (n : Nat) (l : List Hand) (f k : Int) (hl : l.length ≤ 100000) : ∀ (m i : Nat), i ≤ l.length → l.length - i < m → F34_l4 n l f k m (i : Int) = some (okHs f k (prevH l i) (l.drop i))
  | 0, i, _, h => by omega
  | m + 1, i, hi, h => by
    unfold F34_l4
    by_cases hlt : i < l.length
    · have ih := hands_l n l f k hl m (i + 1) (by omega) (by omega)
      rw [← dsucc (by simp only [maxLen]; omega), prevHS l i hlt] at ih
      rw [if_pos (lt_dec hlt), ixg l i hlt, dropS l i hlt, okHs]
      simp only [Option.bind_some, isCell_eq, okH]
      have tail := ite_f (decide (l[i].To < 0)) _ _ (ite_f (decide (k ≤ l[i].To)) _ _ (ite_f (l[i].To == f) _ _ ih))
      cases hc : isCell l[i].Cell with
      | false => rfl
      | true =>
        simp only [Bool.not_true, Bool.false_eq_true, if_false, Bool.true_and]
        cases i with
        | zero =>
          rw [if_neg (by decide), prevH0, tail]
          simp [Bool.and_assoc]
        | succ i =>
          rw [if_pos (by simp), pred_wn (by simp only [maxLen]; omega), ixg l i (by omega), prevHS l i (by omega)]
          simp only [Option.bind_some]
          rw [ite_f _ _ _ tail]
          simp [Bool.and_assoc]
    · rw [if_neg (by rw [ge_dec hlt]; decide), List.drop_of_length_le (by omega)]; rfl
theorem hands_eq {n : Nat} {l : List Hand} (f k : Int) (hl : l.length ≤ 100000) (hn : l.length ≤ n) : F34 n l f k = some (okHs f k none l) := by
  have := hands_l n l f k hl (n + 8) 0 (by omega) (by omega)
  exact this
def hasC (l : List Hand) (c : Int) : Bool := l.any fun h => h.Cell == c
theorem idx_l (n : Nat) (l : List Hand) (c : Int) (hl : l.length ≤ 100000) : ∀ (m i : Nat), i ≤ l.length → l.length - i < m → ∃ r : Int, F80s0_l4 n l c m (i : Int) = some r ∧ decide ((0 : Int) ≤ r) = hasC (l.drop i) c
  | 0, i, _, h => by omega
  | m + 1, i, hi, h => by
    unfold F80s0_l4
    by_cases hlt : i < l.length
    · rw [if_pos (lt_dec hlt), ixg l i hlt, dropS l i hlt]
      unfold F66s0 hasC
      simp only [Option.bind_some, List.any_cons]
      cases hc : (l[i].Cell == c) with
      | true => exact ⟨_, rfl, by simp⟩
      | false =>
        simp only [Bool.false_eq_true, if_false, Bool.false_or]
        rw [dsucc (by simp only [maxLen]; omega)]
        exact idx_l n l c hl m (i + 1) (by omega) (by omega)
    · rw [if_neg (by rw [ge_dec hlt]; decide), List.drop_of_length_le (by omega)]
      exact ⟨-1, rfl, rfl⟩
theorem handed_eq {n : Nat} {l : List Hand} (c : Int) (hl : l.length ≤ 100000) (hn : l.length ≤ n) : F65s0 n l c = some (hasC l c) := by
  unfold F65s0 F80s0
  obtain ⟨r, h1, h2⟩ := idx_l n l c hl (n + 8) 0 (by omega) (by omega)
  have h1' : F80s0_l4 n l c (n + 8) 0 = some r := h1
  rw [h1', Option.bind_some, h2, List.drop_zero]
def celP (p : Point) : Int × Int := (F64 0 p).getD (0, 0)
theorem of_eq (n : Nat) (p : Point) : F64 n p = some (celP p) := by
  have h : ∀ n, F64 n p = if on p then some (IntKind.wrap .i64 ((F90 0 (IntKind.wrap .u16 (IntKind.wrap .i64 (Int.tdiv p.X 16))) (IntKind.wrap .u16 (IntKind.wrap .i64 (Int.tdiv p.Y 16)))).getD 0), 0) else some (0, 14) := by
    intro n
    unfold F64
    rw [on_eq]
    cases on p with
    | false => rfl
    | true => rfl
  unfold celP
  rw [h n, h 0]
  split <;> rfl
def okT (hs : List Hand) (b : Bool) (p : Option Int) (t : Thing) : Bool := isTh t && ((match p with | none => true | some q => !(decide (t.ID ≤ q))) && (hasC hs (celP t.At).1 == b))
def okTs (hs : List Hand) (b : Bool) : Option Int → List Thing → Bool
  | _, [] => true
  | p, t :: l => okT hs b p t && okTs hs b (some t.ID) l
def prevT (l : List Thing) (i : Nat) : Option Int := if i = 0 then none else some ((l.getD (i - 1) ⟨0, ⟨0, 0⟩, ⟨noF, noF, noF, noF⟩⟩).ID)
theorem prevT0 (l : List Thing) : prevT l 0 = none := rfl
theorem prevTS (l : List Thing) (i : Nat) (h : i < l.length) : prevT l (i + 1) = some l[i].ID := by
  unfold prevT
  rw [if_neg (by omega)]
  have : i + 1 - 1 = i := by omega
  rw [this, List.getD_eq_getElem?_getD, List.getElem?_eq_getElem h]; rfl
theorem things_l (n : Nat) (l : List Thing) (hs : List Hand) (b : Bool) (hl : l.length ≤ 100000) (hh : hs.length ≤ 100000) (hn : hs.length ≤ n) : ∀ (m i : Nat), i ≤ l.length → l.length - i < m → F35_l4 n l hs b m (i : Int) = some (okTs hs b (prevT l i) (l.drop i) && decide ((l.length : Int) ≤ 200))
  | 0, i, _, h => by omega
  | m + 1, i, hi, h => by
    unfold F35_l4
    by_cases hlt : i < l.length
    · have ih := things_l n l hs b hl hh hn m (i + 1) (by omega) (by omega)
      rw [← dsucc (by simp only [maxLen]; omega), prevTS l i hlt] at ih
      rw [if_pos (lt_dec hlt), ixg l i hlt, dropS l i hlt, okTs]
      simp only [Option.bind_some, of_eq, handed_eq _ hh hn, is_eq, okT]
      have tail := ite_f (!(hasC hs (celP l[i].At).1 == b)) _ _ ih
      cases hc : isTh l[i] with
      | false => rfl
      | true =>
        simp only [Bool.not_true, Bool.false_eq_true, if_false, Bool.true_and]
        cases i with
        | zero =>
          rw [if_neg (by decide), prevT0, tail]
          simp [Bool.and_assoc]
        | succ i =>
          rw [if_pos (by simp), pred_wn (by simp only [maxLen]; omega), ixg l i (by omega), prevTS l i (by omega)]
          simp only [Option.bind_some]
          rw [ite_f _ _ _ tail]
          simp [Bool.and_assoc]
    · rw [if_neg (by rw [ge_dec hlt]; decide), List.drop_of_length_le (by omega)]; rfl
theorem things_eq {n : Nat} {l : List Thing} {hs : List Hand} (b : Bool) (hl : l.length ≤ 100000) (hn : l.length ≤ n) (hh : hs.length ≤ 100000) (hn2 : hs.length ≤ n) : F35 n l hs b = some (okTs hs b none l && decide ((l.length : Int) ≤ 200)) :=
  things_l n l hs b hl hh hn2 (n + 8) 0 (by omega) (by omega)
theorem put_l (n : Nat) : ∀ (k m : Nat) (x : Int) (l : List Int), 1 ≤ k → 0 ≤ x → x < 128 ^ k → k < m → l.length + k ≤ 1000 → F20_l7 n m x l = some (mkStr (l ++ putL k x))
  | 0, m, x, l, hk, h0, h1, _, _ => by omega
  | k + 1, 0, x, l, _, _, _, h, _ => by omega
  | k + 1, m + 1, x, l, _, h0, h1, h2, h3 => by
    have hc : (l.length + 1) * 1 ≤ maxCells ∧ l.length + 1 ≤ maxCells := by simp only [maxCells]; omega
    unfold F20_l7 putL
    by_cases h : 128 ≤ x
    · have hx : x / 128 < 128 ^ k := by
        rw [Int.pow_succ] at h1
        exact Int.ediv_lt_of_lt_mul (by decide) h1
      simp only [h, decide_true, if_true, if_pos hc, shr7]
      have hk : 1 ≤ k := by
        cases k with
        | zero => simp at h1; omega
        | succ k => omega
      rw [put_l n k m (x / 128) _ hk (by omega) hx (by omega) (by simp only [List.length_append, List.length_cons, List.length_nil]; omega)]
      simp only [List.append_assoc, List.cons_append, List.nil_append]
      rfl
    · simp only [h, decide_false, Bool.false_eq_true, if_false]
      rw [if_pos hc]
theorem put_eq {n : Nat} (hn : 10 ≤ n) {x : Int} (h0 : 0 ≤ x) (h1 : x < 18446744073709551616) : F20 n x = some (pt x) := by
  unfold F20
  rw [put_l n 10 (n + 8) x [] (by omega) h0 (pow10 h1) (by omega) (by simp)]
  rfl
theorem pu_eq {n : Nat} (hn : 10 ≤ n) (x : Int) : F20 n (IntKind.wrap .u64 x) = some (pu x) := put_eq hn (u64_in x).1 (u64_in x).2
theorem tx_eq {n : Nat} (hn : 10 ≤ n) {s : ByteArray} (h : s.size ≤ 1000) : F49 n s = some (tx s) := by
  unfold F49
  have := pu_size (s.size : Int)
  rw [pu_eq hn]
  simp only [Option.bind_some]
  rw [if_pos (by omega)]; rfl
theorem zg_eq {n : Nat} (hn : 10 ≤ n) (x : Int) : F46 n x = some (zg x) := by
  unfold F46 F77
  simp only [Option.bind_some]
  rw [put_eq hn (xor_in _ _).1 (xor_in _ _).2]
  rfl
theorem stg {α : Type} {n : Nat} (hn : 10 ≤ n) (s : ByteArray) (f : Field) (e : Bool) (h1 : s.size ≤ 1000) (h2 : f.Text.size ≤ 40) (K : ByteArray → Option α) :
    (if (!e) = true then K s else (F49 n f.Text).bind fun r => if s.size + r.size ≤ 9223372036854775807 then if (f.Text.toList == ByteArray.empty.toList) = true then (F46 n f.N).bind fun r2 => if (s ++ r).size + r2.size ≤ 9223372036854775807 then K ((s ++ r) ++ r2) else none else K (s ++ r) else none) = K (stage s f e) := by
  have a1 := tx_size f.Text
  have hz : (zg f.N).size ≤ 10 := (pt_size _).1
  cases e with
  | false => rfl
  | true =>
    simp only [Bool.not_true, Bool.false_eq_true, if_false, tx_eq hn (show f.Text.size ≤ 1000 by omega), zg_eq hn, Option.bind_some]
    rw [if_pos (by omega)]
    unfold stage isE
    cases f.Text.toList == ByteArray.empty.toList with
    | false => rfl
    | true =>
      simp only [if_true]
      rw [if_pos (by rw [ba_size]; omega)]
theorem body_eq {n : Nat} (hn : 10 ≤ n) (d : Delta) (hf : Few d) (s : ByteArray) (h : s.size ≤ 100) : F75_j7 n d s = some (body s d, 0) := by
  obtain ⟨f0, f1, f2, f3⟩ := hf
  have z1 := stage_size s d.F.a0 (hs d.Mask 1) f0
  have z2 := stage_size (stage s d.F.a0 (hs d.Mask 1)) d.F.a1 (hs d.Mask 2) f1
  have z3 := stage_size (stage (stage s d.F.a0 (hs d.Mask 1)) d.F.a1 (hs d.Mask 2)) d.F.a2 (hs d.Mask 3) f2
  unfold F75_j7
  simp only [has0, Option.bind_some]
  rw [stg hn s d.F.a0 _ (by omega) f0 (fun s => F75_u12 n d s)]
  unfold F75_u12
  simp only [has1, Option.bind_some]
  rw [stg hn _ d.F.a1 _ (by omega) f1 (fun s => F75_u17 n d s)]
  unfold F75_u17
  simp only [has2, Option.bind_some]
  rw [stg hn _ d.F.a2 _ (by omega) f2 (fun s => F75_u22 n d s)]
  unfold F75_u22
  simp only [has3, Option.bind_some]
  rw [stg hn _ d.F.a3 _ (by omega) f3 (fun s => F75_u27 n s)]
  rfl
theorem bytes_eq {n : Nat} (hn : 10 ≤ n) (d : Delta) (hf : Few d) : F75 n d = some (if isD d then (body (head d) d, 0) else (ByteArray.empty, 11)) := by
  have p1 := pu_size d.ID; have p2 := pu_size d.Mask; have p3 := pu_size d.At.X; have p4 := pu_size d.At.Y
  have hh := head_size d
  unfold F75
  simp only [isD_eq, Option.bind_some, pu_eq hn]
  cases hd : isD d with
  | false => simp
  | true =>
    simp only [Bool.not_true, Bool.false_eq_true, if_false, if_true]
    rw [if_pos (by omega)]
    unfold head at hh ⊢
    cases h1 : a1 d with
    | false =>
      have h1' : (bitsI .and .u8 d.Mask 1 != 0) = false := h1
      rw [h1] at hh
      simp only [h1', Bool.false_eq_true, if_false] at hh ⊢
      exact body_eq hn d hf _ (by omega)
    | true =>
      have h1' : (bitsI .and .u8 d.Mask 1 != 0) = true := h1
      rw [h1] at hh
      simp only [h1', if_true] at hh ⊢
      rw [if_pos (by omega), if_pos (by rw [ba_size, ba_size]; omega)]
      exact body_eq hn d hf _ (by omega)
def tb (t : Thing) : ByteArray := body (head (full t)) (full t)
theorem tb_size {t : Thing} (h : isTh t = true) : (tb t).size ≤ 280 ∧ 1 ≤ (tb t).size := by
  obtain ⟨f0, f1, f2, f3⟩ := isTh_few h
  have hh := head_size (full t)
  have h1 : 1 ≤ (head (full t)).size := by
    have := pu_size (full t).ID; have := pu_size (full t).Mask
    unfold head
    split <;> simp only [ba_size] <;> omega
  have g : ∀ (s : ByteArray) (f : Field) (e : Bool), s.size ≤ (stage s f e).size := fun s f e => by
    unfold stage
    split
    · split <;> simp only [ba_size] <;> omega
    · omega
  unfold tb body
  have z1 := stage_size (head (full t)) (full t).F.a0 (hs (full t).Mask 1) f0
  have z2 := stage_size (stage (head (full t)) (full t).F.a0 (hs (full t).Mask 1)) (full t).F.a1 (hs (full t).Mask 2) f1
  have z3 := stage_size (stage (stage (head (full t)) (full t).F.a0 (hs (full t).Mask 1)) (full t).F.a1 (hs (full t).Mask 2)) (full t).F.a2 (hs (full t).Mask 3) f2
  have z4 := stage_size (stage (stage (stage (head (full t)) (full t).F.a0 (hs (full t).Mask 1)) (full t).F.a1 (hs (full t).Mask 2)) (full t).F.a2 (hs (full t).Mask 3)) (full t).F.a3 (hs (full t).Mask 4) f3
  have y1 := g (head (full t)) (full t).F.a0 (hs (full t).Mask 1)
  have y2 := g (stage (head (full t)) (full t).F.a0 (hs (full t).Mask 1)) (full t).F.a1 (hs (full t).Mask 2)
  have y3 := g (stage (stage (head (full t)) (full t).F.a0 (hs (full t).Mask 1)) (full t).F.a1 (hs (full t).Mask 2)) (full t).F.a2 (hs (full t).Mask 3)
  have y4 := g (stage (stage (stage (head (full t)) (full t).F.a0 (hs (full t).Mask 1)) (full t).F.a1 (hs (full t).Mask 2)) (full t).F.a2 (hs (full t).Mask 3)) (full t).F.a3 (hs (full t).Mask 4)
  omega
theorem tbytes_eq {n : Nat} (hn : 10 ≤ n) (t : Thing) : F44 n t = some (if isTh t then (tb t, 0) else (ByteArray.empty, 11)) := by
  unfold F44
  simp only [is_eq, Option.bind_some]
  cases h : isTh t with
  | false => rfl
  | true =>
    simp only [Bool.not_true, Bool.false_eq_true, if_false, if_true]
    have := bytes_eq hn (full t) (isTh_few h)
    rw [full_is, h] at this
    have e : Delta.mk t.ID 31 t.At t.F = full t := rfl
    rw [e, this]
    rfl
theorem mk_bytes (s : ByteArray) : mkStr (bytesL s) = s := by
  apply ba_ext
  rw [mkStr_data]
  apply Array.ext'
  simp only [bytesL, List.map_map]
  have : ((fun n : Int => UInt8.ofNat n.toNat) ∘ fun b : UInt8 => (b.toNat : Int)) = id := by
    funext b; simp
  rw [this, List.map_id]
theorem bytes_add (a b : ByteArray) : bytesL (a ++ b) = bytesL a ++ bytesL b := by
  simp [bytesL, ByteArray.data_append]
theorem bytes_byteB (s : ByteArray) : (bytesL s).all byteB = true := by
  rw [List.all_eq_true]
  intro x hx
  simp only [bytesL, List.mem_map] at hx
  obtain ⟨b, _, rfl⟩ := hx
  have := b.toNat_lt
  simp only [byteB, Bool.and_eq_true, decide_eq_true_eq]
  omega
theorem bldAdd_s {a b : ByteArray} (h : a.size + b.size ≤ 1000000) : bldAdd (bytesL a) b = some (bytesL (a ++ b)) := by
  unfold bldAdd
  rw [if_pos (by rw [bytesL_len, Nat.ble_eq]; omega), bytes_add]
theorem bldStr_s {a : ByteArray} (h : 1 ≤ a.size) : bldStr (bytesL a) = some a := by
  unfold bldStr
  rw [if_pos (by rw [bytes_byteB, bytesL_len]; simp [Nat.blt_eq]; omega), mk_bytes]
def prevI (l : List Thing) (i : Nat) : Option Int := if i = 0 then none else some ((l.getD (i - 1) ⟨0, ⟨0, 0⟩, ⟨noF, noF, noF, noF⟩⟩).ID)
theorem prev0 (l : List Thing) : prevI l 0 = none := rfl
theorem prevS (l : List Thing) (i : Nat) (h : i < l.length) : prevI l (i + 1) = some l[i].ID := by
  unfold prevI
  rw [if_neg (by omega)]
  have : i + 1 - 1 = i := by omega
  rw [this, List.getD_eq_getElem?_getD, List.getElem?_eq_getElem h]; rfl
theorem pred_w {i : Nat} (h : i + 1 < maxLen) : IntKind.wrap .i64 (((i + 1 : Nat) : Int) - 1) = (i : Int) := by
  simp only [maxLen] at h
  simp [IntKind.wrap, IntKind.bits, IntKind.signed]; omega
theorem d64 {n : Int} (h : -9223372036854775808 ≤ n) (h' : n ≤ 9223372036854775807) : IntKind.wrap .i64 n = n := by
  simp [IntKind.wrap, IntKind.bits, IntKind.signed]; omega
theorem Rect.eqb_iff (x y : Rect) : Rect.eqb x y = true ↔ x = y := by
  cases x; cases y; simp [Rect.eqb, and_assoc]
theorem Command.eqb_iff (x y : Command) : Command.eqb x y = true ↔ x = y := by
  cases x; cases y; simp [Command.eqb, Point.eqb_iff, A4_Field.eqb_iff, Field.eqb_iff, Rect.eqb_iff]
theorem zg_size (x : Int) : (zg x).size ≤ 10 ∧ 1 ≤ (zg x).size := pt_size _
theorem isF_text {f : Field} (h : isF f = true) : f.Text.size ≤ 12 := by have := text_few h; omega
def near (x : Int) : Bool := decide (-1000 ≤ x) && decide (x ≤ 1000)
theorem near_l (n : Nat) (l : List Int) (hl : l.length ≤ 8) : ∀ (m i : Nat), i ≤ l.length → l.length - i < m → F62_l4 n l m (i : Int) = some ((l.drop i).all near)
  | 0, i, _, h => by omega
  | m + 1, i, h1, h2 => by
    unfold F62_l4
    by_cases hi : i < l.length
    · have ed : l.drop i = l[i] :: l.drop (i + 1) := by rw [List.drop_eq_getElem_cons hi]
      have ea : (l.drop i).all near = (near l[i] && (l.drop (i + 1)).all near) := by rw [ed, List.all_cons]
      simp only [lt_dec hi, if_true, ixg l i hi, Option.bind_some, dsucc (show i < maxLen by simp only [maxLen]; omega), ea, near_l n l hl m (i + 1) (by omega) (by omega)]
      generalize l[i] = x
      unfold near
      by_cases h3 : (-1000 : Int) ≤ x <;> by_cases h4 : x ≤ 1000 <;> simp [h3, h4]
    · have ed : l.drop i = [] := List.drop_eq_nil_of_le (by omega)
      simp only [ge_dec hi, Bool.false_eq_true, if_false, ed, List.all_nil]
theorem near_eq (n : Nat) (l : List Int) (hl : l.length ≤ 7) : F62 n l = some (l.all near) := by
  unfold F62
  have := near_l n l (by omega) (n + 8) 0 (by omega) (by omega)
  simpa using this
def coreC (c : Command) : Command := (F61 0 c).getD c
theorem core_eq (n : Nat) (c : Command) : F61 n c = some (coreC c) := by
  have h : ∀ m, F61 m c = F61 0 c := fun m => rfl
  rw [h n]
  unfold coreC
  have : (F61 0 c).isSome := by
    unfold F61
    repeat (split <;> try rfl)
  obtain ⟨r, hr⟩ := Option.isSome_iff_exists.1 this
  rw [hr]; rfl
def boundsC (c : Command) : Bool := (decide (0 ≤ c.Client) && (decide (c.Client < 4) && (decide (0 ≤ c.Session) && decide (c.Session ≤ 1000000)))) &&
  ((decide (0 ≤ c.ID) && (decide (c.ID ≤ 1000000) && (decide (-1 ≤ c.Which) && (decide (c.Which ≤ 100) && (decide (-1 ≤ c.To) && (decide (c.To ≤ 100) && isF c.Value)))))) &&
    [c.At.X, c.At.Y, c.Rect.X0, c.Rect.Y0, c.Rect.X1, c.Rect.Y1].all near)
def isC (c : Command) : Bool := (isF c.F.a0 && (isF c.F.a1 && (isF c.F.a2 && isF c.F.a3))) && ((decide (1 ≤ c.Kind) && (decide (c.Kind ≤ 8) && Command.eqb c (coreC c))) && boundsC c)
theorem isC_eq (n : Nat) (c : Command) : F32 n c = some (isC c) := by
  have j12 : ∀ x y z, F32_j12 n c x y z = some (x && (y && (z && [c.At.X, c.At.Y, c.Rect.X0, c.Rect.Y0, c.Rect.X1, c.Rect.Y1].all near))) := by
    intro x y z
    unfold F32_j12
    rw [near_eq n _ (by simp)]
    cases x <;> cases y <;> cases z <;> simp
  have j9 : ∀ x y, F32_j9 n c x y = some (x && (y && ((decide (0 ≤ c.ID) && (decide (c.ID ≤ 1000000) && (decide (-1 ≤ c.Which) && (decide (c.Which ≤ 100) && (decide (-1 ≤ c.To) && (decide (c.To ≤ 100) && isF c.Value)))))) && [c.At.X, c.At.Y, c.Rect.X0, c.Rect.Y0, c.Rect.X1, c.Rect.Y1].all near))) := by
    intro x y
    unfold F32_j9
    simp only [j12, isF_eq, Option.bind_some]
    by_cases h1 : (0 : Int) ≤ c.ID
    · by_cases h2 : c.ID ≤ 1000000
      · by_cases h3 : (-1 : Int) ≤ c.Which
        · by_cases h4 : c.Which ≤ 100
          · by_cases h5 : (-1 : Int) ≤ c.To
            · by_cases h6 : c.To ≤ 100 <;> simp only [h1, h2, h3, h4, h5, h6, decide_true, decide_false, if_true, Bool.false_eq_true, if_false, Bool.true_and, Bool.false_and, Bool.and_false]
            · simp only [h1, h2, h3, h4, h5, decide_true, decide_false, if_true, Bool.false_eq_true, if_false, Bool.true_and, Bool.false_and, Bool.and_false]
          · simp only [h1, h2, h3, h4, decide_true, decide_false, if_true, Bool.false_eq_true, if_false, Bool.true_and, Bool.false_and, Bool.and_false]
        · simp only [h1, h2, h3, decide_true, decide_false, if_true, Bool.false_eq_true, if_false, Bool.true_and, Bool.false_and, Bool.and_false]
      · simp only [h1, h2, decide_true, decide_false, if_true, Bool.false_eq_true, if_false, Bool.true_and, Bool.false_and, Bool.and_false]
    · simp only [h1, decide_true, decide_false, if_true, Bool.false_eq_true, if_false, Bool.true_and, Bool.false_and, Bool.and_false]
  have j7 : ∀ x, F32_j7 n c x = some (x && boundsC c) := by
    intro x
    unfold F32_j7 boundsC
    simp only [j9]
    by_cases h1 : (0 : Int) ≤ c.Client
    · by_cases h2 : c.Client < 4
      · by_cases h3 : (0 : Int) ≤ c.Session <;> simp only [h1, h2, h3, decide_true, decide_false, if_true, Bool.false_eq_true, if_false, Bool.true_and, Bool.false_and, Bool.and_false]
      · simp only [h1, h2, decide_true, decide_false, if_true, Bool.false_eq_true, if_false, Bool.true_and, Bool.false_and, Bool.and_false]
    · simp only [h1, decide_true, decide_false, if_true, Bool.false_eq_true, if_false, Bool.true_and, Bool.false_and, Bool.and_false]
  unfold F32 isC
  simp only [isF_eq, Option.bind_some, core_eq, j7]
  cases isF c.F.a0
  · rfl
  · cases isF c.F.a1
    · rfl
    · cases isF c.F.a2
      · rfl
      · cases isF c.F.a3
        · rfl
        · by_cases h1 : (1 : Int) ≤ c.Kind
          · by_cases h2 : c.Kind ≤ 8 <;> simp [h1, h2]
          · simp [h1]
def watchesC (c : Command) : Bool := decide (6 ≤ c.Kind) && decide (c.Kind ≤ 8)
theorem watches_eq (n : Nat) (c : Command) : F33 n c = some (watchesC c) := by
  unfold F33 watchesC
  by_cases h : (6 : Int) ≤ c.Kind <;> simp [h]
structure InC (c : Command) : Prop where
  f0 : isF c.F.a0 = true
  f1 : isF c.F.a1 = true
  f2 : isF c.F.a2 = true
  f3 : isF c.F.a3 = true
  v : isF c.Value = true
  kind : 1 ≤ c.Kind ∧ c.Kind ≤ 8
  core : c = coreC c
  client : 0 ≤ c.Client ∧ c.Client < 4
  sess : 0 ≤ c.Session ∧ c.Session ≤ 1000000
  id : 0 ≤ c.ID ∧ c.ID ≤ 1000000
  which : -1 ≤ c.Which ∧ c.Which ≤ 100
  to : -1 ≤ c.To ∧ c.To ≤ 100
  atx : -1000 ≤ c.At.X ∧ c.At.X ≤ 1000
  aty : -1000 ≤ c.At.Y ∧ c.At.Y ≤ 1000
  x0 : -1000 ≤ c.Rect.X0 ∧ c.Rect.X0 ≤ 1000
  y0 : -1000 ≤ c.Rect.Y0 ∧ c.Rect.Y0 ≤ 1000
  x1 : -1000 ≤ c.Rect.X1 ∧ c.Rect.X1 ≤ 1000
  y1 : -1000 ≤ c.Rect.Y1 ∧ c.Rect.Y1 ≤ 1000
theorem isC_in {c : Command} (h : isC c = true) : InC c := by
  unfold isC boundsC near at h
  simp only [List.all_cons, List.all_nil, Bool.and_true, Bool.and_eq_true, decide_eq_true_eq, Command.eqb_iff] at h
  obtain ⟨⟨a0, a1, a2, a3⟩, ⟨k1, k2, k3⟩, ⟨h1, h2, h3, h4⟩, ⟨h5, h6, h7, h8, h9, h10, h11⟩, p1, p2, p3, p4, p5, p6⟩ := h
  exact ⟨a0, a1, a2, a3, h11, ⟨k1, k2⟩, k3, ⟨h1, h2⟩, ⟨h3, h4⟩, ⟨h5, h6⟩, ⟨h7, h8⟩, ⟨h9, h10⟩, p1, p2, p3, p4, p5, p6⟩
def fl (f : Field) : ByteArray := tx f.Text ++ zg f.N
theorem fl_size {f : Field} (h : isF f = true) : (fl f).size ≤ 32 ∧ 2 ≤ (fl f).size := by
  have := isF_text h
  have := tx_size f.Text
  have := zg_size f.N
  unfold fl; rw [ba_size]; omega
def hdC (c : Command) : ByteArray := zg c.Kind ++ zg c.Client ++ zg c.Session
theorem hdC_size (c : Command) : (hdC c).size ≤ 30 ∧ 3 ≤ (hdC c).size := by
  have := zg_size c.Kind
  have := zg_size c.Client
  have := zg_size c.Session
  unfold hdC; rw [ba_size, ba_size]; omega
def nums (c : Command) : List Int :=
  if c.Kind = 1 then [c.At.X, c.At.Y] else if c.Kind = 2 then [c.ID, c.At.X, c.At.Y] else if c.Kind = 3 then [c.ID, c.Which] else if c.Kind = 4 then [c.ID]
  else if c.Kind = 5 then [c.Which, c.To] else if c.Kind = 6 ∨ c.Kind = 7 then [c.Rect.X0, c.Rect.Y0, c.Rect.X1, c.Rect.Y1] else []
def vals (c : Command) : List Field :=
  if c.Kind = 1 then [c.F.a0, c.F.a1, c.F.a2, c.F.a3] else if c.Kind = 3 then [c.Value] else []
def addN (s : ByteArray) (l : List Int) : ByteArray := l.foldl (fun s x => s ++ zg x) s
def addV (s : ByteArray) (l : List Field) : ByteArray := l.foldl (fun s f => s ++ fl f) s
def byC (c : Command) : ByteArray := addV (addN (hdC c) (nums c)) (vals c)
theorem addN_size : ∀ (l : List Int) (s : ByteArray), (addN s l).size ≤ s.size + 10 * l.length ∧ s.size ≤ (addN s l).size
  | [], s => by simp [addN]
  | x :: l, s => by
    have := addN_size l (s ++ zg x)
    have := zg_size x
    rw [ba_size] at *
    simp only [addN, List.foldl_cons, List.length_cons] at *
    omega
theorem addV_size : ∀ (l : List Field) (s : ByteArray), (∀ f ∈ l, isF f = true) → (addV s l).size ≤ s.size + 32 * l.length ∧ s.size ≤ (addV s l).size
  | [], s, _ => by simp [addV]
  | x :: l, s, h => by
    have := addV_size l (s ++ fl x) (fun f hf => h f (List.mem_cons_of_mem _ hf))
    have := fl_size (h x (List.mem_cons_self ..))
    rw [ba_size] at *
    simp only [addV, List.foldl_cons, List.length_cons] at *
    omega
theorem nums_len (c : Command) : (nums c).length ≤ 4 := by
  unfold nums
  repeat (split; · simp)
  simp
theorem vals_len (c : Command) : (vals c).length ≤ 4 := by
  unfold vals
  repeat (split; · simp)
  simp
theorem vals_is {c : Command} (h : InC c) : ∀ f ∈ vals c, isF f = true := by
  unfold vals
  intro f hf
  split at hf
  · simp only [List.mem_cons, List.not_mem_nil, or_false] at hf
    rcases hf with rfl | rfl | rfl | rfl
    · exact h.f0
    · exact h.f1
    · exact h.f2
    · exact h.f3
  · split at hf
    · simp only [List.mem_cons, List.not_mem_nil, or_false] at hf
      subst hf; exact h.v
    · cases hf
theorem byC_size {c : Command} (h : InC c) : (byC c).size ≤ 198 ∧ 3 ≤ (byC c).size := by
  have h1 := hdC_size c
  have h2 := addN_size (nums c) (hdC c)
  have h3 := addV_size (vals c) (addN (hdC c) (nums c)) (vals_is h)
  have h4 := nums_len c
  have h5 := vals_len c
  unfold byC; omega
theorem values_eq (n : Nat) (c : Command) : F48s0 n c = some (if c.Kind = 1 then 1 else if c.Kind = 3 then 2 else 0) := by
  unfold F48s0
  by_cases h1 : c.Kind = 1
  · simp [h1]
  by_cases h3 : c.Kind = 3
  · simp [h3]
  simp [h1, h3]
theorem bytes_j21 {n : Nat} (hn : 10 ≤ n) {c : Command} (h : InC c) {s : ByteArray} (hs : s.size ≤ 100) : F21_j21 n c s = some (addV s (vals c), 0) := by
  unfold F21_j21 vals
  rw [values_eq, Option.bind_some]
  have z : ∀ f, isF f = true → f.Text.size ≤ 12 ∧ (tx f.Text).size ≤ 22 ∧ (zg f.N).size ≤ 10 := fun f hf => by
    have := isF_text hf
    have := tx_size f.Text
    have := zg_size f.N
    omega
  by_cases h1 : c.Kind = 1
  · rw [if_pos h1, if_pos h1, if_neg (by decide), if_pos rfl]
    obtain ⟨p1, q1, r1⟩ := z _ h.f0
    obtain ⟨p2, q2, r2⟩ := z _ h.f1
    obtain ⟨p3, q3, r3⟩ := z _ h.f2
    obtain ⟨p4, q4, r4⟩ := z _ h.f3
    rw [tx_eq hn (by omega), Option.bind_some, zg_eq hn, Option.bind_some, if_pos (by omega), if_pos (by simp only [ba_size]; omega),
      tx_eq hn (by omega), Option.bind_some, zg_eq hn, Option.bind_some, if_pos (by omega), if_pos (by simp only [ba_size]; omega),
      tx_eq hn (by omega), Option.bind_some, zg_eq hn, Option.bind_some, if_pos (by omega), if_pos (by simp only [ba_size]; omega),
      tx_eq hn (by omega), Option.bind_some, zg_eq hn, Option.bind_some, if_pos (by omega), if_pos (by simp only [ba_size]; omega)]
    rfl
  · rw [if_neg h1, if_neg h1]
    by_cases h3 : c.Kind = 3
    · rw [if_pos h3, if_pos h3, if_neg (by decide), if_neg (by decide), if_pos rfl]
      obtain ⟨p1, q1, r1⟩ := z _ h.v
      rw [tx_eq hn (by omega), Option.bind_some, zg_eq hn, Option.bind_some, if_pos (by omega), if_pos (by simp only [ba_size]; omega)]
      rfl
    · rw [if_neg h3, if_neg h3, if_pos rfl]
      rfl
theorem parts_eq (n : Nat) (c : Command) : F47s0 n c = some (if c.Kind = 1 then 1 else if c.Kind = 2 then 2 else if c.Kind = 3 then 3 else if c.Kind = 4 then 4 else if c.Kind = 5 then 5 else if c.Kind = 6 ∨ c.Kind = 7 then 6 else 0) := by
  unfold F47s0 F47s0_j1
  by_cases h1 : c.Kind = 1
  · simp [h1]
  by_cases h2 : c.Kind = 2
  · simp [h2]
  by_cases h3 : c.Kind = 3
  · simp [h3]
  by_cases h4 : c.Kind = 4
  · simp [h4]
  by_cases h5 : c.Kind = 5
  · simp [h5]
  by_cases h6 : c.Kind = 6
  · simp [h6]
  by_cases h7 : c.Kind = 7
  · simp [h7]
  simp [h1, h2, h3, h4, h5, h6, h7]
theorem kinds {c : Command} (h : InC c) : c.Kind = 1 ∨ c.Kind = 2 ∨ c.Kind = 3 ∨ c.Kind = 4 ∨ c.Kind = 5 ∨ c.Kind = 6 ∨ c.Kind = 7 ∨ c.Kind = 8 := by
  have := h.kind; omega
theorem bytes_is {n : Nat} (hn : 10 ≤ n) {c : Command} (hc : isC c = true) : F21 n c = some (byC c, 0) := by
  have h := isC_in hc
  have z := fun x => (zg_size x).1
  have zh := (hdC_size c).1
  unfold F21
  rw [isC_eq, Option.bind_some, hc]
  have hk : F21_j21 n c (addN (hdC c) (nums c)) = some (byC c, 0) := by
    have := addN_size (nums c) (hdC c)
    have := nums_len c
    exact bytes_j21 hn h (by omega)
  have s1 := z c.Kind
  have s2 := z c.Client
  rw [if_neg (by decide), zg_eq hn, Option.bind_some]
  have s3 := z c.Session
  rw [zg_eq hn, Option.bind_some, if_pos (by omega), zg_eq hn, Option.bind_some, if_pos (by rw [ba_size]; omega), parts_eq, Option.bind_some, show zg c.Kind ++ zg c.Client ++ zg c.Session = hdC c from rfl]
  have fin : ∀ l s, nums c = l → addN (hdC c) l = s → F21_j21 n c s = some (byC c, 0) := by
    intro l s hl hs; rw [← hs, ← hl]; exact hk
  have b1 : ∀ x, (hdC c ++ zg x).size ≤ 40 := fun x => by have := z x; rw [ba_size]; omega
  have b2 : ∀ x y, (hdC c ++ zg x ++ zg y).size ≤ 50 := fun x y => by have := z y; have := b1 x; rw [ba_size]; omega
  have b3 : ∀ x y w, (hdC c ++ zg x ++ zg y ++ zg w).size ≤ 60 := fun x y w => by have := z w; have := b2 x y; rw [ba_size]; omega
  have sz0 : ∀ x, (hdC c).size + (zg x).size ≤ 9223372036854775807 := fun x => by have := z x; omega
  have sz1 : ∀ x y, (hdC c ++ zg x).size + (zg y).size ≤ 9223372036854775807 := fun x y => by have := z y; have := b1 x; omega
  have sz2 : ∀ x y w, (hdC c ++ zg x ++ zg y).size + (zg w).size ≤ 9223372036854775807 := fun x y w => by have := z w; have := b2 x y; omega
  have sz3 : ∀ x y w v, (hdC c ++ zg x ++ zg y ++ zg w).size + (zg v).size ≤ 9223372036854775807 := fun x y w v => by have := z v; have := b3 x y w; omega
  obtain e | e | e | e | e | e | e | e := kinds h
  · have six : (if c.Kind = 1 then 1 else if c.Kind = 2 then 2 else if c.Kind = 3 then 3 else if c.Kind = 4 then 4 else if c.Kind = 5 then 5 else if c.Kind = 6 ∨ c.Kind = 7 then 6 else 0) = 1 := by simp [e]
    rw [six]
    rw [if_neg (by decide), if_pos rfl]
    rw [zg_eq hn, Option.bind_some, if_pos (sz0 _)]
    rw [zg_eq hn, Option.bind_some, if_pos (sz1 _ _)]
    exact fin [c.At.X, c.At.Y] _ (by unfold nums; simp [e]) rfl
  · have six : (if c.Kind = 1 then 1 else if c.Kind = 2 then 2 else if c.Kind = 3 then 3 else if c.Kind = 4 then 4 else if c.Kind = 5 then 5 else if c.Kind = 6 ∨ c.Kind = 7 then 6 else 0) = 2 := by simp [e]
    rw [six]
    rw [if_neg (by decide), if_neg (by decide), if_pos rfl]
    rw [zg_eq hn, Option.bind_some, if_pos (sz0 _)]
    rw [zg_eq hn, Option.bind_some, if_pos (sz1 _ _)]
    rw [zg_eq hn, Option.bind_some, if_pos (sz2 _ _ _)]
    exact fin [c.ID, c.At.X, c.At.Y] _ (by unfold nums; simp [e]) rfl
  · have six : (if c.Kind = 1 then 1 else if c.Kind = 2 then 2 else if c.Kind = 3 then 3 else if c.Kind = 4 then 4 else if c.Kind = 5 then 5 else if c.Kind = 6 ∨ c.Kind = 7 then 6 else 0) = 3 := by simp [e]
    rw [six]
    rw [if_neg (by decide), if_neg (by decide), if_neg (by decide), if_pos rfl]
    rw [zg_eq hn, Option.bind_some, if_pos (sz0 _)]
    rw [zg_eq hn, Option.bind_some, if_pos (sz1 _ _)]
    exact fin [c.ID, c.Which] _ (by unfold nums; simp [e]) rfl
  · have six : (if c.Kind = 1 then 1 else if c.Kind = 2 then 2 else if c.Kind = 3 then 3 else if c.Kind = 4 then 4 else if c.Kind = 5 then 5 else if c.Kind = 6 ∨ c.Kind = 7 then 6 else 0) = 4 := by simp [e]
    rw [six]
    rw [if_neg (by decide), if_neg (by decide), if_neg (by decide), if_neg (by decide), if_pos rfl]
    rw [zg_eq hn, Option.bind_some, if_pos (sz0 _)]
    exact fin [c.ID] _ (by unfold nums; simp [e]) rfl
  · have six : (if c.Kind = 1 then 1 else if c.Kind = 2 then 2 else if c.Kind = 3 then 3 else if c.Kind = 4 then 4 else if c.Kind = 5 then 5 else if c.Kind = 6 ∨ c.Kind = 7 then 6 else 0) = 5 := by simp [e]
    rw [six]
    rw [if_neg (by decide), if_neg (by decide), if_neg (by decide), if_neg (by decide), if_neg (by decide), if_pos rfl]
    rw [zg_eq hn, Option.bind_some, if_pos (sz0 _)]
    rw [zg_eq hn, Option.bind_some, if_pos (sz1 _ _)]
    exact fin [c.Which, c.To] _ (by unfold nums; simp [e]) rfl
  · have six : (if c.Kind = 1 then 1 else if c.Kind = 2 then 2 else if c.Kind = 3 then 3 else if c.Kind = 4 then 4 else if c.Kind = 5 then 5 else if c.Kind = 6 ∨ c.Kind = 7 then 6 else 0) = 6 := by simp [e]
    rw [six]
    rw [if_neg (by decide), if_neg (by decide), if_neg (by decide), if_neg (by decide), if_neg (by decide), if_neg (by decide), if_pos rfl]
    rw [zg_eq hn, Option.bind_some, if_pos (sz0 _)]
    rw [zg_eq hn, Option.bind_some, if_pos (sz1 _ _)]
    rw [zg_eq hn, Option.bind_some, if_pos (sz2 _ _ _)]
    rw [zg_eq hn, Option.bind_some, if_pos (sz3 _ _ _ _)]
    exact fin [c.Rect.X0, c.Rect.Y0, c.Rect.X1, c.Rect.Y1] _ (by unfold nums; simp [e]) rfl
  · have six : (if c.Kind = 1 then 1 else if c.Kind = 2 then 2 else if c.Kind = 3 then 3 else if c.Kind = 4 then 4 else if c.Kind = 5 then 5 else if c.Kind = 6 ∨ c.Kind = 7 then 6 else 0) = 6 := by simp [e]
    rw [six]
    rw [if_neg (by decide), if_neg (by decide), if_neg (by decide), if_neg (by decide), if_neg (by decide), if_neg (by decide), if_pos rfl]
    rw [zg_eq hn, Option.bind_some, if_pos (sz0 _)]
    rw [zg_eq hn, Option.bind_some, if_pos (sz1 _ _)]
    rw [zg_eq hn, Option.bind_some, if_pos (sz2 _ _ _)]
    rw [zg_eq hn, Option.bind_some, if_pos (sz3 _ _ _ _)]
    exact fin [c.Rect.X0, c.Rect.Y0, c.Rect.X1, c.Rect.Y1] _ (by unfold nums; simp [e]) rfl
  · have nil : (if c.Kind = 1 then 1 else if c.Kind = 2 then 2 else if c.Kind = 3 then 3 else if c.Kind = 4 then 4 else if c.Kind = 5 then 5 else if c.Kind = 6 ∨ c.Kind = 7 then 6 else 0) = 0 := by simp [e]
    rw [nil]
    rw [if_pos rfl]
    exact fin [] _ (by unfold nums; simp [e]) rfl
theorem Hand.eqb_iff (x y : Hand) : Hand.eqb x y = true ↔ x = y := by
  cases x; cases y; simp [Hand.eqb]
def okC (c : Command) : Bool := isC c && watchesC c
theorem wrong_eq (n : Nat) (c : Command) : F31 n c = some (!(okC c)) := by
  unfold F31 okC
  rw [isC_eq, Option.bind_some]
  cases isC c with
  | false => rfl
  | true => simp only [Bool.not_true, Bool.false_eq_true, if_false, watches_eq, Option.bind_some, Bool.true_and]
theorem idxC_l (n : Nat) (l : List Command) (hl : l.length ≤ 100000) : ∀ (m i : Nat), i ≤ l.length → l.length - i < m → ∃ r : Int, F68s0_l4 n l m (i : Int) = some r ∧ decide ((0 : Int) ≤ r) = !((l.drop i).all okC)
  | 0, i, _, h => by omega
  | m + 1, i, hi, h => by
    unfold F68s0_l4
    by_cases hlt : i < l.length
    · rw [if_pos (lt_dec hlt), ixg l i hlt, dropS l i hlt]
      simp only [Option.bind_some, wrong_eq, List.all_cons]
      cases hc : okC l[i] with
      | false => exact ⟨_, rfl, by simp⟩
      | true =>
        simp only [Bool.not_true, Bool.false_eq_true, if_false, Bool.true_and]
        rw [dsucc (by simp only [maxLen]; omega)]
        exact idxC_l n l hl m (i + 1) (by omega) (by omega)
    · rw [if_neg (by rw [ge_dec hlt]; decide), List.drop_of_length_le (by omega)]
      exact ⟨-1, rfl, rfl⟩
theorem wrongs_eq {n : Nat} {l : List Command} (hl : l.length ≤ 100000) (hn : l.length ≤ n) : F36s0 n l = some (!(l.all okC)) := by
  unfold F36s0 F68s0
  obtain ⟨r, h1, h2⟩ := idxC_l n l hl (n + 8) 0 (by omega) (by omega)
  have h1' : F68s0_l4 n l (n + 8) 0 = some r := h1
  rw [h1', Option.bind_some, h2, List.drop_zero]
structure Lens (n : Nat) (x : Note) : Prop where
  m : x.Moved.length ≤ 1000
  g : x.Given.length ≤ 1000
  h : x.Hands.length ≤ 1000
  w : x.Watch.length ≤ 1000
  n : 1000 ≤ n
def thOk (l : List Thing) (hs : List Hand) (b : Bool) : Bool := okTs hs b none l && decide ((l.length : Int) ≤ 200)
def isNt (k : Int) (x : Note) : Bool := !(decide (x.From < 0)) && (!(decide (k ≤ x.From)) && (!(decide (x.Beat < 0)) && (!(decide ((1073741824 : Int) < x.Beat)) && (!(decide ((20 : Int) < (x.Watch.length : Int))) && (okHs x.From k none x.Hands && (thOk x.Moved x.Hands false && (thOk x.Given x.Hands true && x.Watch.all okC)))))))
theorem ite_t (b : Bool) (x : Option Bool) (y : Bool) (h : x = some y) : (if b = true then x else some false) = some (b && y) := by cases b <;> simp [h]
theorem is_note {n : Nat} {x : Note} (L : Lens n x) (s : Int) : F11 n x s = some (isNt (imin s 4) x) := by
  have := L.m; have := L.g; have := L.h; have := L.w; have := L.n
  unfold F11 isNt
  rw [hands_eq _ _ (by omega) (by omega), Option.bind_some, things_eq false (by omega) (by omega) (by omega) (by omega), things_eq true (by omega) (by omega) (by omega) (by omega), wrongs_eq (by omega) (by omega)]
  simp only [Option.bind_some, Bool.not_not]
  refine ite_f _ _ _ (ite_f _ _ _ (ite_f _ _ _ (ite_f _ _ _ (ite_f _ _ _ (ite_t _ _ _ (ite_t _ _ _ (ite_t _ _ _ ?_)))))))
  rfl
theorem eqT_l (n : Nat) (a b : List Thing) (hl : a.length = b.length) (ha : a.length ≤ 100000) : ∀ (m i : Nat), i ≤ a.length → a.length - i < m → ∃ r, F37_l4 n a b m (i : Int) = some r ∧ (r = true ↔ a.drop i = b.drop i)
  | 0, i, _, h => by omega
  | m + 1, i, hi, hm => by
    unfold F37_l4
    by_cases h : i < a.length
    · rw [if_pos (lt_dec h), ixg a i h, ixg b i (by omega), dropS a i h, dropS b i (by omega)]
      simp only [Option.bind_some]
      cases hc : Thing.eqb a[i] (b[i]'(by omega)) with
      | false => exact ⟨false, rfl, ⟨fun h => (by cases h), fun h => by
          have := (List.cons.inj h).1
          rw [(Thing.eqb_iff _ _).2 this] at hc; cases hc⟩⟩
      | true =>
        simp only [Bool.not_true, Bool.false_eq_true, if_false]
        rw [dsucc (by simp only [maxLen]; omega)]
        obtain ⟨r, h1, h2⟩ := eqT_l n a b hl ha m (i + 1) (by omega) (by omega)
        refine ⟨r, h1, h2.trans ⟨fun h => ?_, fun h => (List.cons.inj h).2⟩⟩
        rw [(Thing.eqb_iff _ _).1 hc, h]
    · rw [if_neg (by rw [ge_dec h]; decide), List.drop_of_length_le (by omega), List.drop_of_length_le (by omega)]
      exact ⟨true, rfl, by simp⟩
theorem eqT_eq {n : Nat} {a b : List Thing} (ha : a.length ≤ 100000) (hn : a.length ≤ n) : ∃ r, F37 n a b = some r ∧ (r = true ↔ a = b) := by
  unfold F37
  by_cases h : a.length = b.length
  · have : ¬ (((a.length : Int) != (b.length : Int)) = true) := by simp [h]
    rw [if_neg this]
    exact eqT_l n a b h ha (n + 8) 0 (by omega) (by omega)
  · have : ((a.length : Int) != (b.length : Int)) = true := by simp; omega
    rw [if_pos this]
    exact ⟨false, rfl, ⟨fun h => (by cases h), fun he => absurd (congrArg List.length he) h⟩⟩
theorem eqH_l (n : Nat) (a b : List Hand) (hl : a.length = b.length) (ha : a.length ≤ 100000) : ∀ (m i : Nat), i ≤ a.length → a.length - i < m → ∃ r, F38_l4 n a b m (i : Int) = some r ∧ (r = true ↔ a.drop i = b.drop i)
  | 0, i, _, h => by omega
  | m + 1, i, hi, hm => by
    unfold F38_l4
    by_cases h : i < a.length
    · rw [if_pos (lt_dec h), ixg a i h, ixg b i (by omega), dropS a i h, dropS b i (by omega)]
      simp only [Option.bind_some]
      cases hc : Hand.eqb a[i] (b[i]'(by omega)) with
      | false => exact ⟨false, rfl, ⟨fun h => (by cases h), fun h => by
          have := (List.cons.inj h).1
          rw [(Hand.eqb_iff _ _).2 this] at hc; cases hc⟩⟩
      | true =>
        simp only [Bool.not_true, Bool.false_eq_true, if_false]
        rw [dsucc (by simp only [maxLen]; omega)]
        obtain ⟨r, h1, h2⟩ := eqH_l n a b hl ha m (i + 1) (by omega) (by omega)
        refine ⟨r, h1, h2.trans ⟨fun h => ?_, fun h => (List.cons.inj h).2⟩⟩
        rw [(Hand.eqb_iff _ _).1 hc, h]
    · rw [if_neg (by rw [ge_dec h]; decide), List.drop_of_length_le (by omega), List.drop_of_length_le (by omega)]
      exact ⟨true, rfl, by simp⟩
theorem eqH_eq {n : Nat} {a b : List Hand} (ha : a.length ≤ 100000) (hn : a.length ≤ n) : ∃ r, F38 n a b = some r ∧ (r = true ↔ a = b) := by
  unfold F38
  by_cases h : a.length = b.length
  · have : ¬ (((a.length : Int) != (b.length : Int)) = true) := by simp [h]
    rw [if_neg this]
    exact eqH_l n a b h ha (n + 8) 0 (by omega) (by omega)
  · have : ((a.length : Int) != (b.length : Int)) = true := by simp; omega
    rw [if_pos this]
    exact ⟨false, rfl, ⟨fun h => (by cases h), fun he => absurd (congrArg List.length he) h⟩⟩
theorem eqC_l (n : Nat) (a b : List Command) (hl : a.length = b.length) (ha : a.length ≤ 100000) : ∀ (m i : Nat), i ≤ a.length → a.length - i < m → ∃ r, F39_l4 n a b m (i : Int) = some r ∧ (r = true ↔ a.drop i = b.drop i)
  | 0, i, _, h => by omega
  | m + 1, i, hi, hm => by
    unfold F39_l4
    by_cases h : i < a.length
    · rw [if_pos (lt_dec h), ixg a i h, ixg b i (by omega), dropS a i h, dropS b i (by omega)]
      simp only [Option.bind_some]
      cases hc : Command.eqb a[i] (b[i]'(by omega)) with
      | false => exact ⟨false, rfl, ⟨fun h => (by cases h), fun h => by
          have := (List.cons.inj h).1
          rw [(Command.eqb_iff _ _).2 this] at hc; cases hc⟩⟩
      | true =>
        simp only [Bool.not_true, Bool.false_eq_true, if_false]
        rw [dsucc (by simp only [maxLen]; omega)]
        obtain ⟨r, h1, h2⟩ := eqC_l n a b hl ha m (i + 1) (by omega) (by omega)
        refine ⟨r, h1, h2.trans ⟨fun h => ?_, fun h => (List.cons.inj h).2⟩⟩
        rw [(Command.eqb_iff _ _).1 hc, h]
    · rw [if_neg (by rw [ge_dec h]; decide), List.drop_of_length_le (by omega), List.drop_of_length_le (by omega)]
      exact ⟨true, rfl, by simp⟩
theorem eqC_eq {n : Nat} {a b : List Command} (ha : a.length ≤ 100000) (hn : a.length ≤ n) : ∃ r, F39 n a b = some r ∧ (r = true ↔ a = b) := by
  unfold F39
  by_cases h : a.length = b.length
  · have : ¬ (((a.length : Int) != (b.length : Int)) = true) := by simp [h]
    rw [if_neg this]
    exact eqC_l n a b h ha (n + 8) 0 (by omega) (by omega)
  · have : ((a.length : Int) != (b.length : Int)) = true := by simp; omega
    rw [if_pos this]
    exact ⟨false, rfl, ⟨fun h => (by cases h), fun he => absurd (congrArg List.length he) h⟩⟩
theorem same_note {n : Nat} {a b : Note} (L : Lens n a) : ∃ r, F12 n a b = some r ∧ (r = true ↔ a = b) := by
  have := L.m; have := L.g; have := L.h; have := L.w; have := L.n
  obtain ⟨r1, e1, f1⟩ := eqT_eq (n := n) (a := a.Moved) (b := b.Moved) (by omega) (by omega)
  obtain ⟨r2, e2, f2⟩ := eqH_eq (n := n) (a := a.Hands) (b := b.Hands) (by omega) (by omega)
  obtain ⟨r3, e3, f3⟩ := eqT_eq (n := n) (a := a.Given) (b := b.Given) (by omega) (by omega)
  obtain ⟨r4, e4, f4⟩ := eqC_eq (n := n) (a := a.Watch) (b := b.Watch) (by omega) (by omega)
  unfold F12
  simp only [e1, e2, e3, e4, Option.bind_some]
  refine ⟨(a.From == b.From) && ((a.Beat == b.Beat) && (r1 && (r2 && (r3 && r4)))), ?_, ?_⟩
  · exact ite_t _ _ _ (ite_t _ _ _ (ite_t _ _ _ (ite_t _ _ _ (ite_t _ _ _ rfl))))
  · simp only [Bool.and_eq_true, f1, f2, f3, f4, beq_iff_eq]
    constructor
    · rintro ⟨h1, h2, h3, h4, h5, h6⟩
      cases a; cases b; simp only at h1 h2 h3 h4 h5 h6; rw [h1, h2, h3, h4, h5, h6]
    · rintro rfl; exact ⟨rfl, rfl, rfl, rfl, rfl, rfl⟩
theorem fewT_tot (n : Nat) (t : Thing) : ∃ b, F43 n t = some b := by
  unfold F43 F74
  simp only [Option.bind_some]
  repeat' split
  all_goals exact ⟨_, rfl⟩
theorem fewTs_l (n : Nat) (l : List Thing) (hl : l.length ≤ maxLen) : ∀ (m i : Nat), i ≤ l.length → l.length - i < m → ∃ b, F17_l4 n l m (i : Int) = some b ∧ (b = true → l.length ≤ 30)
  | 0, i, _, h => by omega
  | m + 1, i, hi, h => by
    unfold F17_l4
    by_cases hlt : i < l.length
    · obtain ⟨b, hb⟩ := fewT_tot n l[i]
      rw [if_pos (lt_dec hlt), ixg l i hlt]
      simp only [Option.bind_some, hb]
      split
      · exact ⟨false, rfl, fun h => (by cases h)⟩
      · rw [dsucc (by omega)]
        exact fewTs_l n l hl m (i + 1) (by omega) (by omega)
    · rw [if_neg (by rw [ge_dec hlt]; decide)]
      exact ⟨_, rfl, fun h => by simp at h; omega⟩
theorem fewTs {n : Nat} {l : List Thing} (hl : l.length ≤ maxLen) (hn : l.length ≤ n) : ∃ b, F17 n l = some b ∧ (b = true → l.length ≤ 30) :=
  fewTs_l n l hl (n + 8) 0 (by omega) (by omega)
theorem fewC_tot (n : Nat) (c : Command) : ∃ b, F16 n c = some b := by
  unfold F16
  repeat' split
  all_goals exact ⟨_, rfl⟩
theorem fewN_l (n : Nat) (x : Note) (hm : x.Moved.length ≤ maxLen ∧ x.Moved.length ≤ n) (hg : x.Given.length ≤ maxLen ∧ x.Given.length ≤ n) (hl : x.Watch.length ≤ maxLen) : ∀ (m i : Nat), i ≤ x.Watch.length → x.Watch.length - i < m →
    ∃ b, F8_l4 n x m (i : Int) = some b ∧ (b = true → x.Moved.length ≤ 30 ∧ x.Given.length ≤ 30 ∧ x.Hands.length ≤ 20 ∧ x.Watch.length ≤ 24)
  | 0, i, _, h => by omega
  | m + 1, i, hi, h => by
    unfold F8_l4
    by_cases hlt : i < x.Watch.length
    · obtain ⟨b, hb⟩ := fewC_tot n x.Watch[i]
      rw [if_pos (lt_dec hlt), ixg x.Watch i hlt]
      simp only [Option.bind_some, hb]
      split
      · exact ⟨false, rfl, fun h => (by cases h)⟩
      · rw [dsucc (by omega)]
        exact fewN_l n x hm hg hl m (i + 1) (by omega) (by omega)
    · obtain ⟨b1, e1, f1⟩ := fewTs hm.1 hm.2
      obtain ⟨b2, e2, f2⟩ := fewTs hg.1 hg.2
      rw [if_neg (by rw [ge_dec hlt]; decide), e1, Option.bind_some, e2, Option.bind_some]
      cases b1 with
      | false => exact ⟨false, rfl, fun h => (by cases h)⟩
      | true =>
        cases b2 with
        | false => exact ⟨false, rfl, fun h => (by cases h)⟩
        | true =>
          simp only [if_true]
          refine ⟨_, ite_t (decide ((x.Hands.length : Int) ≤ 20)) _ _ rfl, fun h => ?_⟩
          simp only [Bool.and_eq_true, decide_eq_true_eq] at h
          exact ⟨f1 rfl, f2 rfl, by omega, by omega⟩
theorem fewN {n : Nat} {x : Note} (hw : Note.wf x) (h1 : x.Moved.length ≤ n) (h2 : x.Given.length ≤ n) (h3 : x.Watch.length ≤ n) : ∃ b, F8 n x = some b ∧ (b = true → x.Moved.length ≤ 30 ∧ x.Given.length ≤ 30 ∧ x.Hands.length ≤ 20 ∧ x.Watch.length ≤ 24) := by
  obtain ⟨_, _, hm, _, hg, hc⟩ := hw
  exact fewN_l n x ⟨hm.2, h1⟩ ⟨hg.2, h2⟩ hc.2 (n + 8) 0 (by omega) (by omega)
theorem shape_eq (n : Nat) (c : Command) : F54 n c = some (coreC c) :=
  (show F54 n c = F61 n c from rfl).trans (core_eq n c)
theorem within_eq (n : Nat) (x a b : Int) : F53 n x a b = some (decide (a ≤ x) && decide (x ≤ b)) := by
  unfold F53
  by_cases h : a ≤ x <;> simp [h]
theorem rcisF_eq (n : Nat) (f : Field) : F57 n f = some (isF f) := by
  unfold F57 isF
  generalize (f.N == 0) = p
  generalize (f.Text.toList == ByteArray.empty.toList) = q
  cases p <;> cases q <;> simp
theorem ifand (p x y : Bool) : (if p = true then some x else some (false && y)) = some (p && x) := by cases p <;> rfl
theorem ifand' (p x : Bool) : (if p = true then some x else some false) = some (p && x) := by cases p <;> rfl
theorem rpoint_eq (n : Nat) (p : Point) : F55 n p = some (near p.X && near p.Y) := by
  unfold F55 near
  simp only [within_eq, Option.bind_some, ifand']
theorem rrect_eq (n : Nat) (r : Rect) : F56 n r = some ((near r.X0 && near r.Y0) && (near r.X1 && near r.Y1)) := by
  unfold F56
  simp only [rpoint_eq, Option.bind_some, ifand']
theorem rj12_eq (n : Nat) (c : Command) (b : Bool) : F27_j12 n c b = some (b && (isF c.F.a0 && (isF c.F.a1 && (isF c.F.a2 && isF c.F.a3)))) := by
  unfold F27_j12 F27_u15 F27_u18 F27_u21 F27_u24
  simp only [rcisF_eq, Option.bind_some]
  cases b <;> cases isF c.F.a0 <;> cases isF c.F.a1 <;> cases isF c.F.a2 <;> simp
theorem rcis_eq (n : Nat) (c : Command) : F27 n c = some (isC c) := by
  unfold F27
  simp only [rj12_eq, within_eq, shape_eq, rpoint_eq, rrect_eq, rcisF_eq, Option.bind_some, ifand]
  have e3 : decide (c.Client ≤ 3) = decide (c.Client < 4) := by
    rw [decide_eq_decide]; omega
  unfold isC boundsC
  simp only [List.all_cons, List.all_nil, Bool.and_true, e3]
  congr 1
  ac_rfl
theorem rwatches_eq (n : Nat) (c : Command) : F28 n c = some (watchesC c) := by
  unfold F28 watchesC
  simp only [within_eq, Option.bind_some]
theorem weave_up (n n' : Nat) (a b : Int) : ∀ (m k : Nat) (s i r : Int), F59_l7 n a b m s i = some r → F59_l7 n' a b (m + k) s i = some r
  | 0, k, s, i, r, h => by cases h
  | m + 1, k, s, i, r, h => by
    have e : m + 1 + k = (m + k) + 1 := by omega
    rw [e]
    unfold F59_l7 at h ⊢
    revert h
    repeat' split
    all_goals first
      | exact fun h => h
      | exact fun h => weave_up n n' a b m k _ _ _ h
      | exact fun h => nomatch h
theorem weaves_in : ∀ x y : Fin 4, F59 30 (x.val : Int) (y.val : Int) = some ((F90 0 (x.val : Int) (y.val : Int)).getD 0) := by decide +kernel
theorem weave_eq {n : Nat} (hn : 30 ≤ n) (x y : Fin 4) : F59 n (x.val : Int) (y.val : Int) = some ((F90 0 (x.val : Int) (y.val : Int)).getD 0) := by
  have := weave_up 30 n _ _ 38 (n - 30) 0 0 _ (weaves_in x y)
  have e : 38 + (n - 30) = n + 8 := by omega
  rw [e] at this
  exact this
theorem fin4 {x : Int} (h : 0 ≤ x) (h' : x < 64) : ∃ k : Fin 4, IntKind.wrap .u16 (IntKind.wrap .i64 (Int.tdiv x 16)) = (k.val : Int) := by
  refine ⟨⟨(x / 16).toNat, by omega⟩, ?_⟩
  have e : Int.tdiv x 16 = x / 16 := Int.tdiv_eq_ediv_of_nonneg h
  rw [e, d64 (by omega) (by omega)]
  simp [IntKind.wrap, IntKind.bits, IntKind.signed]; omega
theorem ron_eq' (n : Nat) (p : Point) : F58 n p = some (on p) := by
  unfold F58 on
  by_cases h1 : 0 ≤ p.X <;> by_cases h2 : p.X < 64 <;> by_cases h3 : 0 ≤ p.Y <;> simp [h1, h2, h3]
theorem on_in {p : Point} (h : on p = true) : (0 ≤ p.X ∧ p.X < 64) ∧ (0 ≤ p.Y ∧ p.Y < 64) := by
  unfold on at h
  revert h
  repeat' split
  all_goals simp_all
theorem rcel_eq {n : Nat} (hn : 30 ≤ n) (p : Point) : F29 n p = some (celP p) := by
  unfold F29
  rw [ron_eq', ← of_eq n p]
  unfold F64
  rw [on_eq]
  simp only [Option.bind_some]
  cases h : on p with
  | false => rfl
  | true =>
    obtain ⟨⟨a, b⟩, c, d⟩ := on_in h
    obtain ⟨x, hx⟩ := fin4 a b
    obtain ⟨y, hy⟩ := fin4 c d
    unfold F79
    simp only [Bool.not_true, Bool.false_eq_true, if_false, hx, hy, weave_eq hn]
    rfl
theorem rh_l (n : Nat) (l : List Hand) (c : Int) (hl : l.length ≤ 100000) : ∀ (m i : Nat), i ≤ l.length → l.length - i < m → F30_l4 n l c m (i : Int) = some (hasC (l.drop i) c)
  | 0, i, _, h => by omega
  | m + 1, i, hi, h => by
    unfold F30_l4
    by_cases hlt : i < l.length
    · rw [if_pos (lt_dec hlt), ixg l i hlt, dropS l i hlt]
      have ih := rh_l n l c hl m (i + 1) (by omega) (by omega)
      rw [← dsucc (by simp only [maxLen]; omega)] at ih
      unfold hasC at ih ⊢
      simp only [Option.bind_some, List.any_cons, ih]
      cases hc : (l[i].Cell == c) <;> simp
    · rw [if_neg (by rw [ge_dec hlt]; decide), List.drop_of_length_le (by omega)]; rfl
theorem rh_eq {n : Nat} {l : List Hand} (c : Int) (hl : l.length ≤ 100000) (hn : l.length ≤ n) : F30 n l c = some (hasC l c) :=
  rh_l n l c hl (n + 8) 0 (by omega) (by omega)
def okRt (p : Option Int) (t : Thing) : Bool := isTh t && (match p with | none => true | some q => !(decide (t.ID ≤ q)))
def okR : Option Int → List Thing → Bool
  | _, [] => true
  | p, t :: l => okRt p t && okR (some t.ID) l
def inC (hs : List Hand) (b : Bool) (t : Thing) : Bool := hasC hs (celP t.At).1 == b
theorem okTs_split (hs : List Hand) (b : Bool) : ∀ (l : List Thing) (p : Option Int), okTs hs b p l = (okR p l && l.all (inC hs b))
  | [], p => rfl
  | t :: l, p => by
    rw [okTs, okR, okTs_split hs b l, List.all_cons]
    unfold okT inC okRt
    ac_rfl
theorem rthF_eq (n : Nat) (t : Thing) : F52 n t = some (isTh t) := by
  unfold F52 isTh F52_j3 F52_u6 F52_u9 F52_u12 F52_u15
  simp only [rcisF_eq, ron_eq', Option.bind_some]
  by_cases h1 : 0 ≤ t.ID <;> by_cases h2 : t.ID ≤ 1000000 <;> cases on t.At <;> cases isF t.F.a0 <;> cases isF t.F.a1 <;> cases isF t.F.a2 <;> simp [h1, h2]
theorem rthings_l (n : Nat) (l : List Thing) (hl : l.length ≤ 100000) : ∀ (m i : Nat), i ≤ l.length → l.length - i < m → F25_l4 n l m (i : Int) = some (okR (prevT l i) (l.drop i) && decide ((l.length : Int) ≤ 200))
  | 0, i, _, h => by omega
  | m + 1, i, hi, h => by
    unfold F25_l4
    by_cases hlt : i < l.length
    · have ih := rthings_l n l hl m (i + 1) (by omega) (by omega)
      rw [← dsucc (by simp only [maxLen]; omega), prevTS l i hlt] at ih
      rw [if_pos (lt_dec hlt), ixg l i hlt, dropS l i hlt, okR]
      simp only [Option.bind_some, rthF_eq, okRt]
      cases hc : isTh l[i] with
      | false => rfl
      | true =>
        simp only [Bool.not_true, Bool.false_eq_true, if_false, Bool.true_and]
        cases i with
        | zero =>
          rw [if_neg (by decide), prevT0, ih]
          simp
        | succ i =>
          rw [if_pos (by simp), pred_wn (by simp only [maxLen]; omega), ixg l i (by omega), prevTS l i (by omega)]
          simp only [Option.bind_some]
          rw [ite_f _ _ _ ih]
          simp [Bool.and_assoc]
    · rw [if_neg (by rw [ge_dec hlt]; decide), List.drop_of_length_le (by omega)]; rfl
theorem rthings_eq {n : Nat} {l : List Thing} (hl : l.length ≤ 100000) (hn : l.length ≤ n) : F25 n l = some (okR none l && decide ((l.length : Int) ≤ 200)) :=
  rthings_l n l hl (n + 8) 0 (by omega) (by omega)
theorem okHs_few (f k : Int) : ∀ (l : List Hand) (q : Int), q ≤ 15 → okHs f k (some q) l = true → (l.length : Int) + q + 1 ≤ 16
  | [], q, h, _ => by simp; omega
  | h :: l, q, hq, hh => by
    rw [okHs, Bool.and_eq_true] at hh
    have h1 := hh.1
    simp only [okH, isCell, Bool.and_eq_true, Bool.not_eq_true', decide_eq_false_iff_not, decide_eq_true_eq] at h1
    have := okHs_few f k l h.Cell (by omega) hh.2
    simp only [List.length_cons]; omega
theorem okHs_16 {f k : Int} {l : List Hand} (h : okHs f k none l = true) : l.length ≤ 16 := by
  cases l with
  | nil => simp
  | cons h0 l =>
    rw [okHs, Bool.and_eq_true] at h
    have h1 := h.1
    simp only [okH, isCell, Bool.and_eq_true, Bool.not_eq_true', decide_eq_false_iff_not, decide_eq_true_eq] at h1
    have := okHs_few f k l h0.Cell (by omega) h.2
    simp only [List.length_cons]; omega
theorem r28 {n : Nat} (hn : 30 ≤ n) (x : Note) (hl : x.Moved.length ≤ 100000) (hh : x.Hands.length ≤ 100000) (hn2 : x.Hands.length ≤ n) : ∀ (m i : Nat), i ≤ x.Moved.length → x.Moved.length - i < m → F10_l28 n x m (i : Int) = some ((x.Moved.drop i).all (inC x.Hands false))
  | 0, i, _, h => by omega
  | m + 1, i, hi, h => by
    unfold F10_l28
    by_cases hlt : i < x.Moved.length
    · have ih := r28 hn x hl hh hn2 m (i + 1) (by omega) (by omega)
      rw [← dsucc (by simp only [maxLen]; omega)] at ih
      rw [if_pos (lt_dec hlt), ixg x.Moved i hlt, dropS x.Moved i hlt, List.all_cons]
      simp only [Option.bind_some, rcel_eq hn, rh_eq _ hh hn2, ih, inC]
      cases hasC x.Hands (celP x.Moved[i].At).1 <;> simp
    · rw [if_neg (by rw [ge_dec hlt]; decide), List.drop_of_length_le (by omega)]; rfl
theorem r21 {n : Nat} (hn : 30 ≤ n) (x : Note) (hm : x.Moved.length ≤ 100000) (hm2 : x.Moved.length ≤ n) (hl : x.Given.length ≤ 100000) (hh : x.Hands.length ≤ 100000) (hn2 : x.Hands.length ≤ n) : ∀ (m i : Nat), i ≤ x.Given.length → x.Given.length - i < m → F10_l21 n x m (i : Int) = some ((x.Given.drop i).all (inC x.Hands true) && x.Moved.all (inC x.Hands false))
  | 0, i, _, h => by omega
  | m + 1, i, hi, h => by
    unfold F10_l21
    by_cases hlt : i < x.Given.length
    · have ih := r21 hn x hm hm2 hl hh hn2 m (i + 1) (by omega) (by omega)
      rw [← dsucc (by simp only [maxLen]; omega)] at ih
      rw [if_pos (lt_dec hlt), ixg x.Given i hlt, dropS x.Given i hlt, List.all_cons]
      simp only [Option.bind_some, rcel_eq hn, rh_eq _ hh hn2, ih, inC]
      cases hasC x.Hands (celP x.Given[i].At).1 <;> simp
    · rw [if_neg (by rw [ge_dec hlt]; decide), List.drop_of_length_le (by omega)]
      have := r28 hn x hm hh hn2 (n + 8) 0 (by omega) (by omega)
      rw [List.drop_zero] at this
      exact this
theorem r13 {n : Nat} (hn : 30 ≤ n) (x : Note) (hm : x.Moved.length ≤ 100000) (hm2 : x.Moved.length ≤ n) (hg : x.Given.length ≤ 100000) (hg2 : x.Given.length ≤ n) (hh : x.Hands.length ≤ 100000) (hn2 : x.Hands.length ≤ n) (hw : x.Watch.length ≤ 100000) : ∀ (m i : Nat), i ≤ x.Watch.length → x.Watch.length - i < m → F10_l13 n x m (i : Int) = some ((x.Watch.drop i).all okC && (x.Given.all (inC x.Hands true) && x.Moved.all (inC x.Hands false)))
  | 0, i, _, h => by omega
  | m + 1, i, hi, h => by
    unfold F10_l13
    by_cases hlt : i < x.Watch.length
    · have ih := r13 hn x hm hm2 hg hg2 hh hn2 hw m (i + 1) (by omega) (by omega)
      rw [← dsucc (by simp only [maxLen]; omega)] at ih
      rw [if_pos (lt_dec hlt), ixg x.Watch i hlt, dropS x.Watch i hlt, List.all_cons]
      simp only [Option.bind_some, rcis_eq, rwatches_eq, ih, okC]
      cases isC x.Watch[i] <;> cases watchesC x.Watch[i] <;> simp
    · rw [if_neg (by rw [ge_dec hlt]; decide), List.drop_of_length_le (by omega)]
      have := r21 hn x hm hm2 hg hh hn2 (n + 8) 0 (by omega) (by omega)
      rw [List.drop_zero] at this
      exact this
theorem rcell_eq (n : Nat) (c : Int) : F26 n c = some (isCell c) := by
  unfold F26 isCell
  by_cases h : (0 : Int) ≤ c <;> simp [h]
theorem r6 {n : Nat} (hn : 30 ≤ n) (x : Note) (s : Int) (hm : x.Moved.length ≤ 100000) (hm2 : x.Moved.length ≤ n) (hg : x.Given.length ≤ 100000) (hg2 : x.Given.length ≤ n) (hh : x.Hands.length ≤ 100000) (hn2 : x.Hands.length ≤ n) (hw : x.Watch.length ≤ 100000) (hw2 : x.Watch.length ≤ n) : ∀ (m i : Nat), i ≤ x.Hands.length → x.Hands.length - i < m → F10_l6 n x s m (i : Int) = some (okHs x.From (imin s 4) (prevH x.Hands i) (x.Hands.drop i) && (x.Watch.all okC && (x.Given.all (inC x.Hands true) && x.Moved.all (inC x.Hands false))))
  | 0, i, _, h => by omega
  | m + 1, i, hi, h => by
    unfold F10_l6
    by_cases hlt : i < x.Hands.length
    · have ih := r6 hn x s hm hm2 hg hg2 hh hn2 hw hw2 m (i + 1) (by omega) (by omega)
      rw [← dsucc (by simp only [maxLen]; omega), prevHS x.Hands i hlt] at ih
      rw [if_pos (lt_dec hlt), ixg x.Hands i hlt, dropS x.Hands i hlt, okHs]
      simp only [Option.bind_some, rcell_eq, okH]
      cases hc : isCell x.Hands[i].Cell with
      | false => rfl
      | true =>
        simp only [Bool.not_true, Bool.false_eq_true, if_false, Bool.true_and]
        cases i with
        | zero =>
          rw [if_neg (by decide : ¬ decide ((0 : Int) < ((0 : Nat) : Int)) = true), prevH0]
          have tail := ite_f (decide (x.Hands[0].To < 0)) _ _ (ite_f (decide (imin s 4 ≤ x.Hands[0].To)) _ _ (ite_f (x.Hands[0].To == x.From) _ _ ih))
          rw [tail]
          simp [Bool.and_assoc]
        | succ i =>
          have c : decide ((0 : Int) < ((i + 1 : Nat) : Int)) = true := by simp
          rw [if_pos c, pred_wn (by simp only [maxLen]; omega), ixg x.Hands i (by omega), prevHS x.Hands i (by omega)]
          simp only [Option.bind_some]
          have tail := ite_f (decide (x.Hands[i + 1].To < 0)) _ _ (ite_f (decide (imin s 4 ≤ x.Hands[i + 1].To)) _ _ (ite_f (x.Hands[i + 1].To == x.From) _ _ (ite_f (decide (x.Hands[i + 1].Cell ≤ x.Hands[i].Cell)) _ _ ih)))
          rw [tail]
          congr 1
          simp only [Bool.and_assoc]
          ac_rfl
    · rw [if_neg (by rw [ge_dec hlt]; decide), List.drop_of_length_le (by omega)]
      have := r13 hn x hm hm2 hg hg2 hh hn2 hw (n + 8) 0 (by omega) (by omega)
      rw [List.drop_zero] at this
      exact this
theorem ite_n (b : Bool) (x : Option Bool) (y : Bool) (h : x = some y) : (if (!b) = true then some false else x) = some (b && y) := by cases b <;> simp [h]
theorem ris_note {n : Nat} {x : Note} (L : Lens n x) (s : Int) : F10 n x s = some (isNt (imin s 4) x) := by
  have := L.m; have := L.g; have := L.h; have := L.w; have := L.n
  have t := r6 (n := n) (by omega) x s (by omega) (by omega) (by omega) (by omega) (by omega) (by omega) (by omega) (by omega) (n + 8) 0 (by omega) (by omega)
  rw [List.drop_zero] at t
  have t' : F10_l6 n x s (n + 8) 0 = _ := t
  unfold F10
  rw [t', rthings_eq (by omega) (by omega), rthings_eq (by omega) (by omega)]
  simp only [Option.bind_some]
  rw [ite_f _ _ _ (ite_f _ _ _ (ite_f _ _ _ (ite_f _ _ _ (ite_n _ _ _ (ite_n _ _ _ (ite_f _ _ _ (ite_f _ _ _ rfl)))))))]
  unfold isNt thOk
  rw [okTs_split, okTs_split, prevH0]
  have hf : okHs x.From (imin s 4) none x.Hands = (!(decide ((16 : Int) < (x.Hands.length : Int))) && okHs x.From (imin s 4) none x.Hands) := by
    cases h : okHs x.From (imin s 4) none x.Hands with
    | false => simp
    | true => have := okHs_16 h; simp; omega
  rw [hf]
  congr 1
  ac_rfl
theorem rsameT_l (n : Nat) (a b : List Thing) : ∀ (m : Nat) (i : Int), F40_l4 n a b m i = F37_l4 n a b m i
  | 0, _ => rfl
  | m + 1, i => by
    unfold F40_l4 F37_l4
    simp only [rsameT_l n a b m]
theorem rsameT (n : Nat) (a b : List Thing) : F40 n a b = F37 n a b := by
  unfold F40 F37
  rw [rsameT_l]
theorem rs12 (n : Nat) (a b : Note) (hl : a.Watch.length = b.Watch.length) (ha : a.Watch.length ≤ 100000) : ∀ (m i : Nat), i ≤ a.Watch.length → a.Watch.length - i < m → ∃ r, F13_l12 n a b m (i : Int) = some r ∧ (r = true ↔ a.Watch.drop i = b.Watch.drop i)
  | 0, i, _, h => by omega
  | m + 1, i, hi, hm => by
    unfold F13_l12
    by_cases h : i < a.Watch.length
    · rw [if_pos (lt_dec h), ixg a.Watch i h, ixg b.Watch i (by omega), dropS a.Watch i h, dropS b.Watch i (by omega)]
      simp only [Option.bind_some]
      cases hc : Command.eqb a.Watch[i] (b.Watch[i]'(by omega)) with
      | false => exact ⟨false, rfl, ⟨fun h => (by cases h), fun h => by
          have := (List.cons.inj h).1
          rw [(Command.eqb_iff _ _).2 this] at hc; cases hc⟩⟩
      | true =>
        simp only [Bool.not_true, Bool.false_eq_true, if_false]
        rw [dsucc (by simp only [maxLen]; omega)]
        obtain ⟨r, h1, h2⟩ := rs12 n a b hl ha m (i + 1) (by omega) (by omega)
        refine ⟨r, h1, h2.trans ⟨fun h => ?_, fun h => (List.cons.inj h).2⟩⟩
        rw [(Command.eqb_iff _ _).1 hc, h]
    · rw [if_neg (by rw [ge_dec h]; decide), List.drop_of_length_le (by omega), List.drop_of_length_le (by omega)]
      exact ⟨true, rfl, by simp⟩
theorem rs6 (n : Nat) (a b : Note) (hl : a.Hands.length = b.Hands.length) (ha : a.Hands.length ≤ 100000) (hl2 : a.Watch.length = b.Watch.length) (ha2 : a.Watch.length ≤ 100000) (hn : a.Watch.length ≤ n) : ∀ (m i : Nat), i ≤ a.Hands.length → a.Hands.length - i < m → ∃ r, F13_l6 n a b m (i : Int) = some r ∧ (r = true ↔ a.Hands.drop i = b.Hands.drop i ∧ a.Watch = b.Watch)
  | 0, i, _, h => by omega
  | m + 1, i, hi, hm => by
    unfold F13_l6
    by_cases h : i < a.Hands.length
    · rw [if_pos (lt_dec h), ixg a.Hands i h, ixg b.Hands i (by omega), dropS a.Hands i h, dropS b.Hands i (by omega)]
      simp only [Option.bind_some]
      cases hc : Hand.eqb a.Hands[i] (b.Hands[i]'(by omega)) with
      | false => exact ⟨false, rfl, ⟨fun h => (by cases h), fun h => by
          have := (List.cons.inj h.1).1
          rw [(Hand.eqb_iff _ _).2 this] at hc; cases hc⟩⟩
      | true =>
        simp only [Bool.not_true, Bool.false_eq_true, if_false]
        rw [dsucc (by simp only [maxLen]; omega)]
        obtain ⟨r, h1, h2⟩ := rs6 n a b hl ha hl2 ha2 hn m (i + 1) (by omega) (by omega)
        refine ⟨r, h1, h2.trans ⟨fun h => ⟨?_, h.2⟩, fun h => ⟨(List.cons.inj h.1).2, h.2⟩⟩⟩
        rw [(Hand.eqb_iff _ _).1 hc, h.1]
    · rw [if_neg (by rw [ge_dec h]; decide), List.drop_of_length_le (by omega), List.drop_of_length_le (by omega)]
      obtain ⟨r, h1, h2⟩ := rs12 n a b hl2 ha2 (n + 8) 0 (by omega) (by omega)
      rw [List.drop_zero, List.drop_zero] at h2
      exact ⟨r, h1, h2.trans ⟨fun h => ⟨rfl, h⟩, fun h => h.2⟩⟩
theorem rsame_note {n : Nat} {a b : Note} (L : Lens n a) : ∃ r, F13 n a b = some r ∧ (r = true ↔ a = b) := by
  have := L.m; have := L.g; have := L.h; have := L.w; have := L.n
  have no : ∀ {p : Prop}, ¬ p → ((false = true) ↔ p) := fun h => ⟨fun h => (by cases h), fun hp => absurd hp h⟩
  unfold F13
  by_cases h1 : a.From = b.From
  case neg => exact ⟨false, by rw [if_pos (by simpa using h1)], no fun h => h1 (by rw [h])⟩
  rw [if_neg (by simpa using h1)]
  by_cases h2 : a.Beat = b.Beat
  case neg => exact ⟨false, by rw [if_pos (by simpa using h2)], no fun h => h2 (by rw [h])⟩
  rw [if_neg (by simpa using h2), rsameT, rsameT]
  obtain ⟨r1, e1, f1⟩ := eqT_eq (n := n) (a := a.Moved) (b := b.Moved) (by omega) (by omega)
  obtain ⟨r3, e3, f3⟩ := eqT_eq (n := n) (a := a.Given) (b := b.Given) (by omega) (by omega)
  rw [e1, e3]
  simp only [Option.bind_some]
  cases r1 with
  | false => exact ⟨false, rfl, no fun h => (by have := f1.2 (by rw [h]); cases this)⟩
  | true =>
    cases r3 with
    | false => exact ⟨false, rfl, no fun h => (by have := f3.2 (by rw [h]); cases this)⟩
    | true =>
      simp only [Bool.not_true, Bool.false_eq_true, if_false]
      by_cases h5 : a.Hands.length = b.Hands.length
      case neg => exact ⟨false, by rw [if_pos (by simp; omega)], no fun h => h5 (by rw [h])⟩
      rw [if_neg (by simp; omega)]
      by_cases h6 : a.Watch.length = b.Watch.length
      case neg => exact ⟨false, by rw [if_pos (by simp; omega)], no fun h => h6 (by rw [h])⟩
      rw [if_neg (by simp; omega)]
      obtain ⟨r, e, f⟩ := rs6 n a b h5 (by omega) h6 (by omega) (by omega) (n + 8) 0 (by omega) (by omega)
      rw [List.drop_zero, List.drop_zero] at f
      refine ⟨r, e, f.trans ⟨fun h => ?_, fun h => by rw [h]; exact ⟨rfl, rfl⟩⟩⟩
      have g1 := f1.1 rfl; have g3 := f3.1 rfl
      obtain ⟨g5, g6⟩ := h
      cases a; cases b; simp only at h1 h2 g1 g3 g5 g6; rw [h1, h2, g1, g3, g5, g6]
def allR : Option Int → List Thing → ByteArray → ByteArray × Int
  | _, [], s => (s, 0)
  | p, t :: l, s => if isTh t = false then (ByteArray.empty, 11) else
    match p with
    | some q => if t.ID ≤ q then (ByteArray.empty, 11) else allR (some t.ID) l (s ++ tb t)
    | none => allR (some t.ID) l (s ++ tb t)
theorem allR_cons (l : List Thing) (i : Nat) (h : i < l.length) (s : ByteArray) (p : Option Int) : allR p (l.drop i) s = if isTh l[i] = false then (ByteArray.empty, 11) else
    match p with
    | some q => if l[i].ID ≤ q then (ByteArray.empty, 11) else allR (some l[i].ID) (l.drop (i + 1)) (s ++ tb l[i])
    | none => allR (some l[i].ID) (l.drop (i + 1)) (s ++ tb l[i]) := by
  rw [dropS l i h]; rfl
theorem all_l {n : Nat} (hn : 10 ≤ n) (l : List Thing) (hl : l.length ≤ 200) : ∀ (m i : Nat) (s : ByteArray), i ≤ l.length → l.length - i < m → 1 ≤ s.size → s.size + 280 * (l.length - i) ≤ 100000 →
    F18_l9 n l m (i : Int) (bytesL s) = some (allR (prevI l i) (l.drop i) s)
  | 0, i, _, _, h, _, _ => by omega
  | m + 1, i, s, hi, hm, h1, hs => by
    unfold F18_l9
    have hx : maxLen = 9223372036854775807 := rfl
    by_cases hlt : i < l.length
    · rw [if_pos (lt_dec hlt), ixg l i hlt, allR_cons l i hlt]
      simp only [Option.bind_some, tbytes_eq hn]
      cases ht : isTh l[i] with
      | false => simp
      | true =>
        obtain ⟨z1, z2⟩ := tb_size ht
        have hadd := bldAdd_s (a := s) (b := tb l[i]) (by omega)
        have ih := all_l hn l hl m (i + 1) (s ++ tb l[i]) (by omega) (by omega) (by rw [ba_size]; omega) (by rw [ba_size]; omega)
        rw [prevS l i hlt] at ih
        have w := dsucc (i := i) (by omega)
        have e00 : ((0 : Int) != 0) = false := rfl
        simp only [if_true, e00, Bool.false_eq_true, if_false]
        cases i with
        | zero =>
          have c : decide ((0 : Int) < ((0 : Nat) : Int)) = false := rfl
          simp only [c, Bool.false_eq_true, if_false, hadd, Option.bind_some, prev0]
          rw [w]; simpa using ih
        | succ j =>
          have c : decide ((0 : Int) < ((j + 1 : Nat) : Int)) = true := by rw [decide_eq_true_eq]; omega
          have hj : j < l.length := by omega
          rw [if_pos c, pred_w (by omega), ixg l j hj, prevS l j hj]
          simp only [Option.bind_some, hadd]
          by_cases hle : l[j + 1].ID ≤ l[j].ID
          · simp [hle]
          · simp only [hle, decide_false, Bool.false_eq_true, if_false]
            rw [w]; simpa using ih
    · have : i = l.length := by omega
      subst this
      rw [if_neg (by rw [ge_dec (by omega)]; decide), List.drop_length, bldStr_s h1]
      rfl
def allB (l : List Thing) : ByteArray × Int := if 200 < l.length then (ByteArray.empty, 13) else allR none l (pu (l.length : Int))
theorem all_eq {n : Nat} (hn : 300 ≤ n) (l : List Thing) : F18 n l = some (allB l) := by
  unfold F18 allB
  by_cases h : 200 < l.length
  · have c : decide ((200 : Int) < (l.length : Int)) = true := by simp; omega
    rw [if_pos c, if_pos h]
  · have c : decide ((200 : Int) < (l.length : Int)) = false := by simp; omega
    have p := pu_size (l.length : Int)
    have hb := bldAdd_s (a := ByteArray.empty) (b := pu (l.length : Int)) (by show 0 + _ ≤ _; omega)
    have he : bytesL ByteArray.empty = [] := rfl
    rw [he, ba_nil] at hb
    simp only [c, Bool.false_eq_true, if_false, pu_eq (by omega : 10 ≤ n), Option.bind_some, hb, if_neg h]
    have := all_l (by omega : 10 ≤ n) l (by omega) (n + 8) 0 (pu (l.length : Int)) (by omega) (by omega) p.2 (by omega)
    simpa [prev0] using this
theorem crc8 (n : Nat) (i6 : Int) (rec : Int → Int → Option Int) (hr : ∀ x, ∃ r, rec x (IntKind.wrap .i64 (i6 + 1)) = some r) : ∀ (m i : Nat) (x : Int), i ≤ 8 → 8 - i < m → ∃ r, F51_l15 n i6 rec m x (i : Int) = some r
  | 0, i, _, _, h => by omega
  | m + 1, i, x, hi, h => by
    unfold F51_l15
    by_cases hlt : i < 8
    · rw [if_pos (by simp; omega), dsucc (by simp only [maxLen]; omega)]
      split
      · exact crc8 n i6 rec hr m (i + 1) _ (by omega) (by omega)
      · exact crc8 n i6 rec hr m (i + 1) _ (by omega) (by omega)
    · rw [if_neg (by simp; omega)]
      exact hr x
theorem crc_l (n : Nat) (hn : 1 ≤ n) (s : ByteArray) (hs : s.size ≤ 100000) : ∀ (m i : Nat) (x : Int), i ≤ (bytesL s).length → (bytesL s).length - i < m → ∃ r, F51_l7 n s m x (i : Int) = some r
  | 0, i, _, _, h => by omega
  | m + 1, i, x, hi, h => by
    unfold F51_l7
    by_cases hlt : i < (bytesL s).length
    · have hb := bytesL_len s
      rw [if_pos (lt_dec hlt), ixg (bytesL s) i hlt]
      simp only [Option.bind_some]
      refine crc8 n (i : Int) _ (fun y => ?_) (n + 8) 0 _ (by omega) (by omega)
      rw [dsucc (by simp only [maxLen]; omega)]
      exact crc_l n hn s hs m (i + 1) y (by omega) (by omega)
    · rw [if_neg (by rw [ge_dec hlt]; decide)]
      exact ⟨_, rfl⟩
theorem crc_eq {n : Nat} {s : ByteArray} (hs : s.size ≤ 100000) (hn : s.size ≤ n) (hn1 : 1 ≤ n) : ∃ r, F51 n s = some r :=
  crc_l n hn1 s hs (n + 8) 0 _ (by omega) (by rw [bytesL_len]; omega)
theorem tx_eq' {n : Nat} (hn : 10 ≤ n) {s : ByteArray} (h : s.size ≤ 100000) : F49 n s = some (tx s) := by
  unfold F49
  have := pu_size (s.size : Int)
  rw [pu_eq hn]
  simp only [Option.bind_some]
  rw [if_pos (by omega)]; rfl
theorem wrap_eq {n : Nat} {s : ByteArray} (hn : 10 ≤ n) (hs : s.size ≤ 100000) (hn2 : s.size ≤ n) : ∃ r, F23 n s = some r := by
  obtain ⟨c, hc⟩ := crc_eq hs hn2 (by omega)
  unfold F23 F50
  rw [tx_eq' hn hs, hc]
  simp only [Option.bind_some]
  have h1 := (tx_size s).1
  rw [if_pos (by rw [mkStr_size]; simp only [List.length_cons, List.length_nil]; omega)]
  exact ⟨_, rfl⟩
theorem allR_size : ∀ (l : List Thing) (p : Option Int) (s : ByteArray), (allR p l s).1.size ≤ s.size + 280 * l.length
  | [], p, s => by simp [allR]
  | t :: l, p, s => by
    unfold allR
    cases h : isTh t with
    | false => simp only [if_true]; show 0 ≤ _; omega
    | true =>
      have h1 := (tb_size h).1
      have ih := allR_size l (some t.ID) (s ++ tb t)
      rw [ba_size] at ih
      simp only [Bool.true_eq_false, if_false, List.length_cons]
      split
      · split
        · show 0 ≤ _; omega
        · omega
      · omega
theorem allB_size (l : List Thing) : (allB l).1.size ≤ 10 + 280 * l.length := by
  unfold allB
  split
  · show 0 ≤ _; omega
  · have := allR_size l none (pu (l.length : Int))
    have := (pu_size (l.length : Int)).1
    omega
theorem ny_w {n : Nat} (hn : 60000 ≤ n) (x : Note) (hl : x.Watch.length ≤ 30) (hw : x.Watch.all okC = true) : ∀ (m i : Nat) (s : ByteArray), i ≤ x.Watch.length → x.Watch.length - i < m → 1 ≤ s.size → s.size + 198 * (x.Watch.length - i) ≤ 30000 →
    ∃ b, F9_l27 n x m (i : Int) (bytesL s) = some (b, 0)
  | 0, i, _, _, h, _, _ => by omega
  | m + 1, i, s, hi, hm, h1, hs => by
    unfold F9_l27
    by_cases hlt : i < x.Watch.length
    · have hc : isC x.Watch[i] = true := by
        have := List.all_eq_true.1 hw _ (List.getElem_mem hlt)
        unfold okC at this
        rw [Bool.and_eq_true] at this
        exact this.1
      have hz := byC_size (isC_in hc)
      rw [if_pos (lt_dec hlt), ixg x.Watch i hlt]
      simp only [Option.bind_some, bytes_is (by omega : 10 ≤ n) hc]
      rw [bldAdd_s (by omega)]
      simp only [Option.bind_some]
      rw [dsucc (by simp only [maxLen]; omega)]
      have hb := ba_size s (byC x.Watch[i])
      exact ny_w hn x hl hw m (i + 1) _ (by omega) (by omega) (by omega) (by omega)
    · rw [if_neg (by rw [ge_dec hlt]; decide)]
      unfold bldLen
      rw [bytesL_len, bldStr_s h1]
      simp only [Option.bind_some]
      rw [if_neg (by simp; omega)]
      obtain ⟨r, hr⟩ := wrap_eq (n := n) (s := s) (by omega) (by omega) (by omega)
      rw [hr]
      exact ⟨r, rfl⟩
theorem ny_h {n : Nat} (hn : 60000 ≤ n) (x : Note) (hl : x.Watch.length ≤ 30) (hw : x.Watch.all okC = true) (hh : x.Hands.length ≤ 30) : ∀ (m i : Nat) (s : ByteArray), i ≤ x.Hands.length → x.Hands.length - i < m → 1 ≤ s.size → s.size + 20 * (x.Hands.length - i) ≤ 20000 →
    ∃ b, F9_l14 n x m (i : Int) (bytesL s) = some (b, 0)
  | 0, i, _, _, h, _, _ => by omega
  | m + 1, i, s, hi, hm, h1, hs => by
    unfold F9_l14
    by_cases hlt : i < x.Hands.length
    · have p1 := pu_size x.Hands[i].Cell
      have p2 := pu_size x.Hands[i].To
      have hb := ba_size (pu x.Hands[i].Cell) (pu x.Hands[i].To)
      have hb2 := ba_size s (pu x.Hands[i].Cell ++ pu x.Hands[i].To)
      rw [if_pos (lt_dec hlt), ixg x.Hands i hlt]
      simp only [Option.bind_some, pu_eq (by omega : 10 ≤ n)]
      rw [if_pos (by omega), bldAdd_s (by omega)]
      simp only [Option.bind_some]
      rw [dsucc (by simp only [maxLen]; omega)]
      exact ny_h hn x hl hw hh m (i + 1) _ (by omega) (by omega) (by omega) (by omega)
    · have p1 := pu_size (x.Watch.length : Int)
      have hb := ba_size s (pu (x.Watch.length : Int))
      rw [if_neg (by rw [ge_dec hlt]; decide)]
      simp only [Option.bind_some, pu_eq (by omega : 10 ≤ n)]
      rw [bldAdd_s (by omega)]
      simp only [Option.bind_some]
      exact ny_w hn x hl hw (n + 8) 0 _ (by omega) (by omega) (by omega) (by omega)
theorem ny_eq {n : Nat} (hn : 60000 ≤ n) {x : Note} (h1 : x.Moved.length ≤ 30) (h2 : x.Given.length ≤ 30) (h3 : x.Hands.length ≤ 20) (h4 : x.Watch.length ≤ 24) : ∃ b, F9 n x = some (b, if isNt 4 x then 0 else 11) := by
  have L : Lens n x := ⟨by omega, by omega, by omega, by omega, by omega⟩
  unfold F9
  have e4 : imin 4 4 = 4 := by decide
  rw [is_note L, e4, Option.bind_some]
  cases hi : isNt 4 x with
  | false => exact ⟨_, rfl⟩
  | true =>
    have hw : x.Watch.all okC = true := by
      simp only [isNt, Bool.and_eq_true] at hi
      exact hi.2.2.2.2.2.2.2.2
    simp only [Bool.not_true, Bool.false_eq_true, if_false, if_true, all_eq (by omega : 300 ≤ n), pu_eq (by omega : 10 ≤ n), Option.bind_some]
    have a1 := allB_size x.Moved
    have a2 := allB_size x.Given
    have p1 := pu_size x.From
    have p2 := pu_size x.Beat
    have p3 := pu_size (x.Hands.length : Int)
    have s1 := ba_size (pu x.From) (pu x.Beat)
    have s2 := ba_size (pu x.From ++ pu x.Beat) (allB x.Moved).1
    have s3 := ba_size (pu x.From ++ pu x.Beat ++ (allB x.Moved).1) (allB x.Given).1
    have s4 := ba_size (pu x.From ++ pu x.Beat ++ (allB x.Moved).1 ++ (allB x.Given).1) (pu (x.Hands.length : Int))
    rw [if_pos (by omega), if_pos (by omega), if_pos (by omega), if_pos (by omega)]
    have hb := bldAdd_s (a := ByteArray.empty) (b := pu x.From ++ pu x.Beat ++ (allB x.Moved).1 ++ (allB x.Given).1 ++ pu (x.Hands.length : Int)) (by show 0 + _ ≤ _; omega)
    have he : bytesL ByteArray.empty = [] := rfl
    rw [he, ba_nil] at hb
    rw [hb, Option.bind_some]
    exact ny_h hn x (by omega) hw (by omega) (n + 8) 0 _ (by omega) (by omega) (by omega) (by omega)
theorem noteTells_pure (a0 a1 : Note) (a2 : Int) (h0 : Note.wf a0) (h1 : Note.wf a1) (_ : (Lit.int .i64 a2).wf = true) : ∃ n, F3 n a0 a1 a2 = some true := by
  refine ⟨(a0.Moved.length + a0.Given.length + a0.Watch.length) + (a1.Moved.length + a1.Given.length + a1.Watch.length) + 100000, ?_⟩
  obtain ⟨b, hb, hl⟩ := fewN (n := (a0.Moved.length + a0.Given.length + a0.Watch.length) + (a1.Moved.length + a1.Given.length + a1.Watch.length) + 100000) h0 (by omega) (by omega) (by omega)
  obtain ⟨c, hc, _⟩ := fewN (n := (a0.Moved.length + a0.Given.length + a0.Watch.length) + (a1.Moved.length + a1.Given.length + a1.Watch.length) + 100000) h1 (by omega) (by omega) (by omega)
  have hn : 100000 ≤ (a0.Moved.length + a0.Given.length + a0.Watch.length) + (a1.Moved.length + a1.Given.length + a1.Watch.length) + 100000 := by omega
  generalize (a0.Moved.length + a0.Given.length + a0.Watch.length) + (a1.Moved.length + a1.Given.length + a1.Watch.length) + 100000 = n at *
  unfold F3
  simp only [Option.bind_some, Bool.not_true, Bool.false_eq_true, if_false, hb]
  cases b with
  | false => rfl
  | true =>
    simp only [Option.bind_some, Bool.not_true, Bool.false_eq_true, if_false, hc]
    cases c with
    | false => rfl
    | true =>
      obtain ⟨q1, q2, q3, q4⟩ := hl rfl
      have L : Lens n a0 := ⟨by omega, by omega, by omega, by omega, by omega⟩
      obtain ⟨s, hs⟩ := ny_eq (n := n) (by omega) q1 q2 q3 q4
      obtain ⟨r, e1, e2⟩ := same_note (b := a1) L
      obtain ⟨r', e3, e4⟩ := rsame_note (b := a1) L
      have e5 : r = r' := by rw [Bool.eq_iff_iff, e2, e4]
      subst e5
      have i4 : imin 4 4 = 4 := by decide
      simp only [Bool.not_true, Bool.false_eq_true, if_false, hs, ris_note L, is_note L, i4, e1, e3, Option.bind_some, beq_self_eq_true, if_true]
      cases isNt 4 a0 <;> rfl

end Go.Proofs.Ytpjejnefegdoeaa
