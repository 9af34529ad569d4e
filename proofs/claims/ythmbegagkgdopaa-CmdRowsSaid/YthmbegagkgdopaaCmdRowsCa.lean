/-
  Commands: which are any, their bytes. No condition.
-/
import Derived.Test.YthmbegagkgdopaaCmdRowsNa
import Derived.Test.YthmbegagkgdopaaCmdRowsP2
namespace Go.Proofs.Ythmbegagkgdopaa
open Go Go.Rx
set_option maxRecDepth 100000
set_option linter.unusedSimpArgs false
set_option linter.unnecessarySimpa false
set_option linter.unusedVariables false

theorem d64 {n : Int} (h : -9223372036854775808 ≤ n) (h' : n ≤ 9223372036854775807) : IntKind.wrap .i64 n = n := by
  simp [IntKind.wrap, IntKind.bits, IntKind.signed]; omega
theorem ixg {α : Type} (l : List α) (i : Nat) (h : i < l.length) : ix l (i : Int) = some l[i] := by
  unfold ix; rw [if_neg (by omega)]; simp [h]
theorem dsucc {i : Nat} (h : i < maxLen) : IntKind.wrap .i64 ((i : Int) + 1) = ((i + 1 : Nat) : Int) := by
  simp only [maxLen] at h
  rw [d64 (by omega) (by omega)]; push_cast; rfl
theorem lt_dec {i n : Nat} (h : i < n) : decide ((i : Int) < (n : Int)) = true := by simp; omega
theorem ge_dec {i n : Nat} (h : ¬ i < n) : decide ((i : Int) < (n : Int)) = false := by simp; omega
theorem ba_refl (a : ByteArray) : (a == a) = true := (ba_beq a a).2 rfl
theorem Point.eqb_iff (x y : Point) : Point.eqb x y = true ↔ x = y := by
  cases x; cases y; simp [Point.eqb]
theorem Field.eqb_iff (x y : Field) : Field.eqb x y = true ↔ x = y := by
  cases x; cases y; simp [Field.eqb, ba_beq]
theorem A4_Field.eqb_iff (x y : A4 Field) : A4_Field.eqb x y = true ↔ x = y := by
  cases x; cases y; simp [A4_Field.eqb, Field.eqb_iff]
theorem Rect.eqb_iff (x y : Rect) : Rect.eqb x y = true ↔ x = y := by
  cases x; cases y; simp [Rect.eqb, and_assoc]
theorem Command.eqb_iff (x y : Command) : Command.eqb x y = true ↔ x = y := by
  cases x; cases y; simp [Command.eqb, Point.eqb_iff, A4_Field.eqb_iff, Field.eqb_iff, Rect.eqb_iff]
theorem Command.eqb_refl (x : Command) : Command.eqb x x = true := (Command.eqb_iff x x).2 rfl

def isF (f : Field) : Bool := (f.N == 0 || f.Text.toList == ByteArray.empty.toList) && decide ((f.Text.size : Int) ≤ 12)
theorem isF_eq (n : Nat) (f : Field) : F26 n f = some (isF f) := by
  unfold F26 isF
  generalize (f.N == 0) = p
  generalize (f.Text.toList == ByteArray.empty.toList) = q
  cases p <;> cases q <;> simp
def near (x : Int) : Bool := decide (-1000 ≤ x) && decide (x ≤ 1000)
theorem near_l (n : Nat) (l : List Int) (hl : l.length ≤ 8) : ∀ (m i : Nat), i ≤ l.length → l.length - i < m → F59_l4 n l m (i : Int) = some ((l.drop i).all near)
  | 0, i, _, h => by omega
  | m + 1, i, h1, h2 => by
    unfold F59_l4
    by_cases hi : i < l.length
    · have ed : l.drop i = l[i] :: l.drop (i + 1) := by rw [List.drop_eq_getElem_cons hi]
      have ea : (l.drop i).all near = (near l[i] && (l.drop (i + 1)).all near) := by rw [ed, List.all_cons]
      simp only [lt_dec hi, if_true, ixg l i hi, Option.bind_some, dsucc (show i < maxLen by simp only [maxLen]; omega), ea, near_l n l hl m (i + 1) (by omega) (by omega)]
      generalize l[i] = x
      unfold near
      by_cases h3 : (-1000 : Int) ≤ x <;> by_cases h4 : x ≤ 1000 <;> simp [h3, h4]
    · have ed : l.drop i = [] := List.drop_eq_nil_of_le (by omega)
      simp only [ge_dec hi, Bool.false_eq_true, if_false, ed, List.all_nil]
theorem near_eq (n : Nat) (l : List Int) (hl : l.length ≤ 7) : F59 n l = some (l.all near) := by
  unfold F59
  have := near_l n l (by omega) (n + 8) 0 (by omega) (by omega)
  simpa using this
def coreC (c : Command) : Command := (F58 0 c).getD c
theorem core_eq (n : Nat) (c : Command) : F58 n c = some (coreC c) := by
  have h : ∀ m, F58 m c = F58 0 c := fun m => rfl
  rw [h n]
  unfold coreC
  have : (F58 0 c).isSome := by
    unfold F58
    repeat (split <;> try rfl)
  obtain ⟨r, hr⟩ := Option.isSome_iff_exists.1 this
  rw [hr]; rfl
def boundsC (c : Command) : Bool := (decide (0 ≤ c.Client) && (decide (c.Client < 4) && (decide (0 ≤ c.Session) && decide (c.Session ≤ 1000000)))) &&
  ((decide (0 ≤ c.ID) && (decide (c.ID ≤ 1000000) && (decide (-1 ≤ c.Which) && (decide (c.Which ≤ 100) && (decide (-1 ≤ c.To) && (decide (c.To ≤ 100) && isF c.Value)))))) &&
    [c.At.X, c.At.Y, c.Rect.X0, c.Rect.Y0, c.Rect.X1, c.Rect.Y1].all near)
def isC (c : Command) : Bool := (isF c.F.a0 && (isF c.F.a1 && (isF c.F.a2 && isF c.F.a3))) && ((decide (1 ≤ c.Kind) && (decide (c.Kind ≤ 8) && Command.eqb c (coreC c))) && boundsC c)
theorem isC_eq (n : Nat) (c : Command) : F35 n c = some (isC c) := by
  have j12 : ∀ x y z, F35_j12 n c x y z = some (x && (y && (z && [c.At.X, c.At.Y, c.Rect.X0, c.Rect.Y0, c.Rect.X1, c.Rect.Y1].all near))) := by
    intro x y z
    unfold F35_j12
    rw [near_eq n _ (by simp)]
    cases x <;> cases y <;> cases z <;> simp
  have j9 : ∀ x y, F35_j9 n c x y = some (x && (y && ((decide (0 ≤ c.ID) && (decide (c.ID ≤ 1000000) && (decide (-1 ≤ c.Which) && (decide (c.Which ≤ 100) && (decide (-1 ≤ c.To) && (decide (c.To ≤ 100) && isF c.Value)))))) && [c.At.X, c.At.Y, c.Rect.X0, c.Rect.Y0, c.Rect.X1, c.Rect.Y1].all near))) := by
    intro x y
    unfold F35_j9
    simp only [j12, isF_eq, Option.bind_some]
    by_cases h1 : (0 : Int) ≤ c.ID
    · by_cases h2 : c.ID ≤ 1000000
      · by_cases h3 : (-1 : Int) ≤ c.Which
        · by_cases h4 : c.Which ≤ 100
          · by_cases h5 : (-1 : Int) ≤ c.To
            · by_cases h6 : c.To ≤ 100 <;> simp only [h1, h2, h3, h4, h5, h6, decide_true, decide_false, if_true, Bool.false_eq_true, if_false, Bool.true_and, Bool.false_and, Bool.and_false]
            · simp only [h1, h2, h3, h4, h5, decide_true, decide_false, if_true, Bool.false_eq_true, if_false, Bool.true_and, Bool.false_and, Bool.and_false]
          · simp only [h1, h2, h3, h4, decide_true, decide_false, if_true, Bool.false_eq_true, if_false, Bool.true_and, Bool.false_and, Bool.and_false]
        · simp only [h1, h2, h3, decide_true, decide_false, if_true, Bool.false_eq_true, if_false, Bool.true_and, Bool.false_and, Bool.and_false]
      · simp only [h1, h2, decide_true, decide_false, if_true, Bool.false_eq_true, if_false, Bool.true_and, Bool.false_and, Bool.and_false]
    · simp only [h1, decide_true, decide_false, if_true, Bool.false_eq_true, if_false, Bool.true_and, Bool.false_and, Bool.and_false]
  have j7 : ∀ x, F35_j7 n c x = some (x && boundsC c) := by
    intro x
    unfold F35_j7 boundsC
    simp only [j9]
    by_cases h1 : (0 : Int) ≤ c.Client
    · by_cases h2 : c.Client < 4
      · by_cases h3 : (0 : Int) ≤ c.Session <;> simp only [h1, h2, h3, decide_true, decide_false, if_true, Bool.false_eq_true, if_false, Bool.true_and, Bool.false_and, Bool.and_false]
      · simp only [h1, h2, decide_true, decide_false, if_true, Bool.false_eq_true, if_false, Bool.true_and, Bool.false_and, Bool.and_false]
    · simp only [h1, decide_true, decide_false, if_true, Bool.false_eq_true, if_false, Bool.true_and, Bool.false_and, Bool.and_false]
  unfold F35 isC
  simp only [isF_eq, Option.bind_some, core_eq, j7]
  cases isF c.F.a0
  · rfl
  · cases isF c.F.a1
    · rfl
    · cases isF c.F.a2
      · rfl
      · cases isF c.F.a3
        · rfl
        · by_cases h1 : (1 : Int) ≤ c.Kind
          · by_cases h2 : c.Kind ≤ 8 <;> simp [h1, h2]
          · simp [h1]
def watchesC (c : Command) : Bool := decide (6 ≤ c.Kind) && decide (c.Kind ≤ 8)
theorem watches_eq (n : Nat) (c : Command) : F37 n c = some (watchesC c) := by
  unfold F37 watchesC
  by_cases h : (6 : Int) ≤ c.Kind <;> simp [h]

/-! ### bytes -/

structure InC (c : Command) : Prop where
  f0 : isF c.F.a0 = true
  f1 : isF c.F.a1 = true
  f2 : isF c.F.a2 = true
  f3 : isF c.F.a3 = true
  v : isF c.Value = true
  kind : 1 ≤ c.Kind ∧ c.Kind ≤ 8
  core : c = coreC c
  client : 0 ≤ c.Client ∧ c.Client < 4
  sess : 0 ≤ c.Session ∧ c.Session ≤ 1000000
  id : 0 ≤ c.ID ∧ c.ID ≤ 1000000
  which : -1 ≤ c.Which ∧ c.Which ≤ 100
  to : -1 ≤ c.To ∧ c.To ≤ 100
  atx : -1000 ≤ c.At.X ∧ c.At.X ≤ 1000
  aty : -1000 ≤ c.At.Y ∧ c.At.Y ≤ 1000
  x0 : -1000 ≤ c.Rect.X0 ∧ c.Rect.X0 ≤ 1000
  y0 : -1000 ≤ c.Rect.Y0 ∧ c.Rect.Y0 ≤ 1000
  x1 : -1000 ≤ c.Rect.X1 ∧ c.Rect.X1 ≤ 1000
  y1 : -1000 ≤ c.Rect.Y1 ∧ c.Rect.Y1 ≤ 1000
theorem isC_in {c : Command} (h : isC c = true) : InC c := by
  unfold isC boundsC near at h
  simp only [List.all_cons, List.all_nil, Bool.and_true, Bool.and_eq_true, decide_eq_true_eq, Command.eqb_iff] at h
  obtain ⟨⟨a0, a1, a2, a3⟩, ⟨k1, k2, k3⟩, ⟨h1, h2, h3, h4⟩, ⟨h5, h6, h7, h8, h9, h10, h11⟩, p1, p2, p3, p4, p5, p6⟩ := h
  exact ⟨a0, a1, a2, a3, h11, ⟨k1, k2⟩, k3, ⟨h1, h2⟩, ⟨h3, h4⟩, ⟨h5, h6⟩, ⟨h7, h8⟩, ⟨h9, h10⟩, p1, p2, p3, p4, p5, p6⟩
theorem isF_text {f : Field} (h : isF f = true) : f.Text.size ≤ 12 := by
  unfold isF at h
  simp only [Bool.and_eq_true, decide_eq_true_eq] at h
  omega

/-- A field's bytes. -/
def fl (f : Field) : ByteArray := tx f.Text ++ zg f.N
theorem fl_size {f : Field} (h : isF f = true) : (fl f).size ≤ 32 ∧ 2 ≤ (fl f).size := by
  have := isF_text h
  have := tx_size f.Text
  have := zg_size f.N
  unfold fl; rw [ba_size]; omega
def hdC (c : Command) : ByteArray := zg c.Kind ++ zg c.Client ++ zg c.Session
theorem hdC_size (c : Command) : (hdC c).size ≤ 30 ∧ 3 ≤ (hdC c).size := by
  have := zg_size c.Kind
  have := zg_size c.Client
  have := zg_size c.Session
  unfold hdC; rw [ba_size, ba_size]; omega
/-- The numbers that a kind has. -/
def nums (c : Command) : List Int :=
  if c.Kind = 1 then [c.At.X, c.At.Y] else if c.Kind = 2 then [c.ID, c.At.X, c.At.Y] else if c.Kind = 3 then [c.ID, c.Which] else if c.Kind = 4 then [c.ID]
  else if c.Kind = 5 then [c.Which, c.To] else if c.Kind = 6 ∨ c.Kind = 7 then [c.Rect.X0, c.Rect.Y0, c.Rect.X1, c.Rect.Y1] else []
def vals (c : Command) : List Field :=
  if c.Kind = 1 then [c.F.a0, c.F.a1, c.F.a2, c.F.a3] else if c.Kind = 3 then [c.Value] else []
def addN (s : ByteArray) (l : List Int) : ByteArray := l.foldl (fun s x => s ++ zg x) s
def addV (s : ByteArray) (l : List Field) : ByteArray := l.foldl (fun s f => s ++ fl f) s
def byC (c : Command) : ByteArray := addV (addN (hdC c) (nums c)) (vals c)

theorem addN_size : ∀ (l : List Int) (s : ByteArray), (addN s l).size ≤ s.size + 10 * l.length ∧ s.size ≤ (addN s l).size
  | [], s => by simp [addN]
  | x :: l, s => by
    have := addN_size l (s ++ zg x)
    have := zg_size x
    rw [ba_size] at *
    simp only [addN, List.foldl_cons, List.length_cons] at *
    omega
theorem addV_size : ∀ (l : List Field) (s : ByteArray), (∀ f ∈ l, isF f = true) → (addV s l).size ≤ s.size + 32 * l.length ∧ s.size ≤ (addV s l).size
  | [], s, _ => by simp [addV]
  | x :: l, s, h => by
    have := addV_size l (s ++ fl x) (fun f hf => h f (List.mem_cons_of_mem _ hf))
    have := fl_size (h x (List.mem_cons_self ..))
    rw [ba_size] at *
    simp only [addV, List.foldl_cons, List.length_cons] at *
    omega
theorem nums_len (c : Command) : (nums c).length ≤ 4 := by
  unfold nums
  repeat (split; · simp)
  simp
theorem vals_len (c : Command) : (vals c).length ≤ 4 := by
  unfold vals
  repeat (split; · simp)
  simp
theorem vals_is {c : Command} (h : InC c) : ∀ f ∈ vals c, isF f = true := by
  unfold vals
  intro f hf
  split at hf
  · simp only [List.mem_cons, List.not_mem_nil, or_false] at hf
    rcases hf with rfl | rfl | rfl | rfl
    · exact h.f0
    · exact h.f1
    · exact h.f2
    · exact h.f3
  · split at hf
    · simp only [List.mem_cons, List.not_mem_nil, or_false] at hf
      subst hf; exact h.v
    · cases hf
theorem byC_size {c : Command} (h : InC c) : (byC c).size ≤ 198 ∧ 3 ≤ (byC c).size := by
  have h1 := hdC_size c
  have h2 := addN_size (nums c) (hdC c)
  have h3 := addV_size (vals c) (addN (hdC c) (nums c)) (vals_is h)
  have h4 := nums_len c
  have h5 := vals_len c
  unfold byC; omega

theorem values_eq (n : Nat) (c : Command) : F57s0 n c = some (if c.Kind = 1 then 1 else if c.Kind = 3 then 2 else 0) := by
  unfold F57s0
  by_cases h1 : c.Kind = 1
  · simp [h1]
  by_cases h3 : c.Kind = 3
  · simp [h3]
  simp [h1, h3]
theorem bytes_j21 {n : Nat} (hn : 10 ≤ n) {c : Command} (h : InC c) {s : ByteArray} (hs : s.size ≤ 100) : F34_j21 n c s = some (addV s (vals c), 0) := by
  unfold F34_j21 vals
  rw [values_eq, Option.bind_some]
  have z : ∀ f, isF f = true → f.Text.size ≤ 12 ∧ (tx f.Text).size ≤ 22 ∧ (zg f.N).size ≤ 10 := fun f hf => by
    have := isF_text hf
    have := tx_size f.Text
    have := zg_size f.N
    omega
  by_cases h1 : c.Kind = 1
  · rw [if_pos h1, if_pos h1, if_neg (by decide), if_pos rfl]
    obtain ⟨p1, q1, r1⟩ := z _ h.f0
    obtain ⟨p2, q2, r2⟩ := z _ h.f1
    obtain ⟨p3, q3, r3⟩ := z _ h.f2
    obtain ⟨p4, q4, r4⟩ := z _ h.f3
    rw [tx_eq hn (by omega), Option.bind_some, zg_eq hn, Option.bind_some, if_pos (by omega), if_pos (by simp only [ba_size]; omega),
      tx_eq hn (by omega), Option.bind_some, zg_eq hn, Option.bind_some, if_pos (by omega), if_pos (by simp only [ba_size]; omega),
      tx_eq hn (by omega), Option.bind_some, zg_eq hn, Option.bind_some, if_pos (by omega), if_pos (by simp only [ba_size]; omega),
      tx_eq hn (by omega), Option.bind_some, zg_eq hn, Option.bind_some, if_pos (by omega), if_pos (by simp only [ba_size]; omega)]
    rfl
  · rw [if_neg h1, if_neg h1]
    by_cases h3 : c.Kind = 3
    · rw [if_pos h3, if_pos h3, if_neg (by decide), if_neg (by decide), if_pos rfl]
      obtain ⟨p1, q1, r1⟩ := z _ h.v
      rw [tx_eq hn (by omega), Option.bind_some, zg_eq hn, Option.bind_some, if_pos (by omega), if_pos (by simp only [ba_size]; omega)]
      rfl
    · rw [if_neg h3, if_neg h3, if_pos rfl]
      rfl
theorem parts_eq (n : Nat) (c : Command) : F56s0 n c = some (if c.Kind = 1 then 1 else if c.Kind = 2 then 2 else if c.Kind = 3 then 3 else if c.Kind = 4 then 4 else if c.Kind = 5 then 5 else if c.Kind = 6 ∨ c.Kind = 7 then 6 else 0) := by
  unfold F56s0 F56s0_j1
  by_cases h1 : c.Kind = 1
  · simp [h1]
  by_cases h2 : c.Kind = 2
  · simp [h2]
  by_cases h3 : c.Kind = 3
  · simp [h3]
  by_cases h4 : c.Kind = 4
  · simp [h4]
  by_cases h5 : c.Kind = 5
  · simp [h5]
  by_cases h6 : c.Kind = 6
  · simp [h6]
  by_cases h7 : c.Kind = 7
  · simp [h7]
  simp [h1, h2, h3, h4, h5, h6, h7]
theorem kinds {c : Command} (h : InC c) : c.Kind = 1 ∨ c.Kind = 2 ∨ c.Kind = 3 ∨ c.Kind = 4 ∨ c.Kind = 5 ∨ c.Kind = 6 ∨ c.Kind = 7 ∨ c.Kind = 8 := by
  have := h.kind; omega
theorem bytes_no {n : Nat} {c : Command} (h : isC c = false) : F34 n c = some (ByteArray.empty, 11) := by
  unfold F34
  rw [isC_eq, Option.bind_some, h]
  rfl
theorem bytes_is {n : Nat} (hn : 10 ≤ n) {c : Command} (hc : isC c = true) : F34 n c = some (byC c, 0) := by
  have h := isC_in hc
  have z := fun x => (zg_size x).1
  have zh := (hdC_size c).1
  unfold F34
  rw [isC_eq, Option.bind_some, hc]
  have hk : F34_j21 n c (addN (hdC c) (nums c)) = some (byC c, 0) := by
    have := addN_size (nums c) (hdC c)
    have := nums_len c
    exact bytes_j21 hn h (by omega)
  have s1 := z c.Kind
  have s2 := z c.Client
  rw [if_neg (by decide), zg_eq hn, Option.bind_some]
  have s3 := z c.Session
  rw [zg_eq hn, Option.bind_some, if_pos (by omega), zg_eq hn, Option.bind_some, if_pos (by rw [ba_size]; omega), parts_eq, Option.bind_some, show zg c.Kind ++ zg c.Client ++ zg c.Session = hdC c from rfl]
  have fin : ∀ l s, nums c = l → addN (hdC c) l = s → F34_j21 n c s = some (byC c, 0) := by
    intro l s hl hs; rw [← hs, ← hl]; exact hk
  have b1 : ∀ x, (hdC c ++ zg x).size ≤ 40 := fun x => by have := z x; rw [ba_size]; omega
  have b2 : ∀ x y, (hdC c ++ zg x ++ zg y).size ≤ 50 := fun x y => by have := z y; have := b1 x; rw [ba_size]; omega
  have b3 : ∀ x y w, (hdC c ++ zg x ++ zg y ++ zg w).size ≤ 60 := fun x y w => by have := z w; have := b2 x y; rw [ba_size]; omega
  have sz0 : ∀ x, (hdC c).size + (zg x).size ≤ 9223372036854775807 := fun x => by have := z x; omega
  have sz1 : ∀ x y, (hdC c ++ zg x).size + (zg y).size ≤ 9223372036854775807 := fun x y => by have := z y; have := b1 x; omega
  have sz2 : ∀ x y w, (hdC c ++ zg x ++ zg y).size + (zg w).size ≤ 9223372036854775807 := fun x y w => by have := z w; have := b2 x y; omega
  have sz3 : ∀ x y w v, (hdC c ++ zg x ++ zg y ++ zg w).size + (zg v).size ≤ 9223372036854775807 := fun x y w v => by have := z v; have := b3 x y w; omega
  obtain e | e | e | e | e | e | e | e := kinds h
  · have six : (if c.Kind = 1 then 1 else if c.Kind = 2 then 2 else if c.Kind = 3 then 3 else if c.Kind = 4 then 4 else if c.Kind = 5 then 5 else if c.Kind = 6 ∨ c.Kind = 7 then 6 else 0) = 1 := by simp [e]
    rw [six]
    rw [if_neg (by decide), if_pos rfl]
    rw [zg_eq hn, Option.bind_some, if_pos (sz0 _)]
    rw [zg_eq hn, Option.bind_some, if_pos (sz1 _ _)]
    exact fin [c.At.X, c.At.Y] _ (by unfold nums; simp [e]) rfl
  · have six : (if c.Kind = 1 then 1 else if c.Kind = 2 then 2 else if c.Kind = 3 then 3 else if c.Kind = 4 then 4 else if c.Kind = 5 then 5 else if c.Kind = 6 ∨ c.Kind = 7 then 6 else 0) = 2 := by simp [e]
    rw [six]
    rw [if_neg (by decide), if_neg (by decide), if_pos rfl]
    rw [zg_eq hn, Option.bind_some, if_pos (sz0 _)]
    rw [zg_eq hn, Option.bind_some, if_pos (sz1 _ _)]
    rw [zg_eq hn, Option.bind_some, if_pos (sz2 _ _ _)]
    exact fin [c.ID, c.At.X, c.At.Y] _ (by unfold nums; simp [e]) rfl
  · have six : (if c.Kind = 1 then 1 else if c.Kind = 2 then 2 else if c.Kind = 3 then 3 else if c.Kind = 4 then 4 else if c.Kind = 5 then 5 else if c.Kind = 6 ∨ c.Kind = 7 then 6 else 0) = 3 := by simp [e]
    rw [six]
    rw [if_neg (by decide), if_neg (by decide), if_neg (by decide), if_pos rfl]
    rw [zg_eq hn, Option.bind_some, if_pos (sz0 _)]
    rw [zg_eq hn, Option.bind_some, if_pos (sz1 _ _)]
    exact fin [c.ID, c.Which] _ (by unfold nums; simp [e]) rfl
  · have six : (if c.Kind = 1 then 1 else if c.Kind = 2 then 2 else if c.Kind = 3 then 3 else if c.Kind = 4 then 4 else if c.Kind = 5 then 5 else if c.Kind = 6 ∨ c.Kind = 7 then 6 else 0) = 4 := by simp [e]
    rw [six]
    rw [if_neg (by decide), if_neg (by decide), if_neg (by decide), if_neg (by decide), if_pos rfl]
    rw [zg_eq hn, Option.bind_some, if_pos (sz0 _)]
    exact fin [c.ID] _ (by unfold nums; simp [e]) rfl
  · have six : (if c.Kind = 1 then 1 else if c.Kind = 2 then 2 else if c.Kind = 3 then 3 else if c.Kind = 4 then 4 else if c.Kind = 5 then 5 else if c.Kind = 6 ∨ c.Kind = 7 then 6 else 0) = 5 := by simp [e]
    rw [six]
    rw [if_neg (by decide), if_neg (by decide), if_neg (by decide), if_neg (by decide), if_neg (by decide), if_pos rfl]
    rw [zg_eq hn, Option.bind_some, if_pos (sz0 _)]
    rw [zg_eq hn, Option.bind_some, if_pos (sz1 _ _)]
    exact fin [c.Which, c.To] _ (by unfold nums; simp [e]) rfl
  · have six : (if c.Kind = 1 then 1 else if c.Kind = 2 then 2 else if c.Kind = 3 then 3 else if c.Kind = 4 then 4 else if c.Kind = 5 then 5 else if c.Kind = 6 ∨ c.Kind = 7 then 6 else 0) = 6 := by simp [e]
    rw [six]
    rw [if_neg (by decide), if_neg (by decide), if_neg (by decide), if_neg (by decide), if_neg (by decide), if_neg (by decide), if_pos rfl]
    rw [zg_eq hn, Option.bind_some, if_pos (sz0 _)]
    rw [zg_eq hn, Option.bind_some, if_pos (sz1 _ _)]
    rw [zg_eq hn, Option.bind_some, if_pos (sz2 _ _ _)]
    rw [zg_eq hn, Option.bind_some, if_pos (sz3 _ _ _ _)]
    exact fin [c.Rect.X0, c.Rect.Y0, c.Rect.X1, c.Rect.Y1] _ (by unfold nums; simp [e]) rfl
  · have six : (if c.Kind = 1 then 1 else if c.Kind = 2 then 2 else if c.Kind = 3 then 3 else if c.Kind = 4 then 4 else if c.Kind = 5 then 5 else if c.Kind = 6 ∨ c.Kind = 7 then 6 else 0) = 6 := by simp [e]
    rw [six]
    rw [if_neg (by decide), if_neg (by decide), if_neg (by decide), if_neg (by decide), if_neg (by decide), if_neg (by decide), if_pos rfl]
    rw [zg_eq hn, Option.bind_some, if_pos (sz0 _)]
    rw [zg_eq hn, Option.bind_some, if_pos (sz1 _ _)]
    rw [zg_eq hn, Option.bind_some, if_pos (sz2 _ _ _)]
    rw [zg_eq hn, Option.bind_some, if_pos (sz3 _ _ _ _)]
    exact fin [c.Rect.X0, c.Rect.Y0, c.Rect.X1, c.Rect.Y1] _ (by unfold nums; simp [e]) rfl
  · have nil : (if c.Kind = 1 then 1 else if c.Kind = 2 then 2 else if c.Kind = 3 then 3 else if c.Kind = 4 then 4 else if c.Kind = 5 then 5 else if c.Kind = 6 ∨ c.Kind = 7 then 6 else 0) = 0 := by simp [e]
    rw [nil]
    rw [if_pos rfl]
    exact fin [] _ (by unfold nums; simp [e]) rfl

end Go.Proofs.Ythmbegagkgdopaa
