/-
  Points and rectangles: what the functions compute, in plain Lean. No condition.
-/
import Derived.Test.YtdnfamkokhgdbaaGeomMovesV
import Derived.Test.YtdnfamkokhgdbaaGeomMovesP0
namespace Go.Proofs.Ytdnfamkokhgdbaa
open Go Go.Rx
set_option maxRecDepth 100000
set_option linter.unusedSimpArgs false
set_option linter.unnecessarySimpa false
set_option linter.unusedVariables false

theorem g64 {n : Int} (h : -9223372036854775808 ≤ n) (h' : n ≤ 9223372036854775807) : IntKind.wrap .i64 n = n := by
  simp [IntKind.wrap, IntKind.bits, IntKind.signed]; omega
theorem ixg {α : Type} (l : List α) (i : Nat) (h : i < l.length) : ix l (i : Int) = some l[i] := by
  unfold ix; rw [if_neg (by omega)]; simp [h]
theorem dsucc {i : Nat} (h : i < 1000) : IntKind.wrap .i64 ((i : Int) + 1) = ((i + 1 : Nat) : Int) := by
  rw [g64 (by omega) (by omega)]; push_cast; rfl
theorem lt_dec {i n : Nat} (h : i < n) : decide ((i : Int) < (n : Int)) = true := by simp; omega
theorem ge_dec {i n : Nat} (h : ¬ i < n) : decide ((i : Int) < (n : Int)) = false := by simp; omega
theorem Rect.eqb_iff (x y : Rect) : Rect.eqb x y = true ↔ x = y := by
  cases x; cases y; simp [Rect.eqb]
theorem Rect.eqb_refl (x : Rect) : Rect.eqb x x = true := (Rect.eqb_iff x x).2 rfl
theorem imax_or (a b : Int) : (imax a b = a ∧ b ≤ a) ∨ (imax a b = b ∧ a ≤ b) := by simp only [imax]; split <;> omega
theorem imin_or (a b : Int) : (imin a b = a ∧ a ≤ b) ∨ (imin a b = b ∧ b ≤ a) := by simp only [imin]; split <;> omega

def O : Rect := ⟨0, 0, 0, 0⟩
def M : Rect := ⟨0, 0, 64, 64⟩
def emp (r : Rect) : Bool := decide (r.X1 ≤ r.X0) || decide (r.Y1 ≤ r.Y0)
theorem emp_iff {r : Rect} : emp r = true ↔ (r.X1 ≤ r.X0 ∨ r.Y1 ≤ r.Y0) := by simp [emp]
theorem emp_not {r : Rect} : emp r = false ↔ (r.X0 < r.X1 ∧ r.Y0 < r.Y1) := by
  rw [← Bool.not_eq_true, emp_iff]; omega
theorem emp_O : emp O = true := rfl
theorem empty_eq (n : Nat) (r : Rect) : F27 n r = some (emp r) := by
  unfold F27 emp
  by_cases h : r.X1 ≤ r.X0 <;> simp [h]
theorem rempty_eq (n : Nat) (r : Rect) : F28 n r = some (emp r) := by
  unfold F28 emp
  by_cases h : r.X1 ≤ r.X0 <;> simp [h]
def tidy (r : Rect) : Rect := if emp r then O else r
theorem tidy_eq (n : Nat) (r : Rect) : F40 n r = some (tidy r) := by
  unfold F40 tidy
  rw [empty_eq]
  cases h : emp r <;> simp [h, O]
def raw (a b : Rect) : Rect := ⟨imax a.X0 b.X0, imax a.Y0 b.Y0, imin a.X1 b.X1, imin a.Y1 b.Y1⟩
def meet (a b : Rect) : Rect := tidy (raw a b)
theorem meet_eq (n : Nat) (a b : Rect) : F31 n a b = some (meet a b) := by
  unfold F31 meet
  rw [tidy_eq]; rfl
theorem rmeet_eq (n : Nat) (a b : Rect) : F32 n a b = some (meet a b) := by
  unfold F32 meet tidy
  rw [rempty_eq]
  show (if emp (raw a b) then some O else some (raw a b)) = _
  cases h : emp (raw a b) <;> simp
theorem meet_O {a b : Rect} : emp (meet a b) = true ↔ meet a b = O := by
  constructor
  · intro h
    unfold meet tidy at h ⊢
    cases h2 : emp (raw a b) with
    | true => simp
    | false => rw [h2] at h; simp [h2] at h
  · intro h; rw [h]; rfl
theorem meet_raw {a b : Rect} (h : meet a b ≠ O) : meet a b = raw a b ∧ emp (meet a b) = false := by
  have h2 : emp (meet a b) = false := by
    cases h3 : emp (meet a b) with
    | true => exact absurd (meet_O.1 h3) h
    | false => rfl
  refine ⟨?_, h2⟩
  unfold meet tidy at h2 ⊢
  cases h3 : emp (raw a b) with
  | true => rw [h3] at h2; cases h2
  | false => simp
theorem meet_comm (a b : Rect) : meet a b = meet b a := by
  have h1 : ∀ x y : Int, imax x y = imax y x := fun x y => by simp only [imax]; omega
  have h2 : ∀ x y : Int, imin x y = imin y x := fun x y => by simp only [imin]; omega
  simp only [meet, raw, h1 a.X0, h1 a.Y0, h2 a.X1, h2 a.Y1]

def minusL (a b : Rect) : List Rect :=
  if emp a then [] else if meet a b = O then [a] else
    [⟨a.X0, a.Y0, a.X1, (meet a b).Y0⟩, ⟨a.X0, (meet a b).Y1, a.X1, a.Y1⟩, ⟨a.X0, (meet a b).Y0, (meet a b).X0, (meet a b).Y1⟩, ⟨(meet a b).X1, (meet a b).Y0, a.X1, (meet a b).Y1⟩].filter fun r => !emp r
theorem minus_eq (n : Nat) (a b : Rect) : F21 n a b = some (minusL a b) := by
  unfold F21 minusL
  simp only [meet_eq, empty_eq, Option.bind_some]
  cases h : emp a with
  | true => simp
  | false =>
    simp only [Bool.false_eq_true, if_false]
    by_cases h2 : meet a b = O
    · have h3 : Rect.eqb (meet a b) ⟨0, 0, 0, 0⟩ = true := (Rect.eqb_iff _ _).2 h2
      rw [if_pos h3, if_pos h2]
    · have h3 : Rect.eqb (meet a b) ⟨0, 0, 0, 0⟩ = false := by
        rw [Bool.eq_false_iff]; intro h4; exact h2 ((Rect.eqb_iff _ _).1 h4)
      simp only [h3, Bool.false_eq_true, if_false, h2]
      generalize meet a b = m
      unfold F21_u6 F21_u10 F21_u14 F21_u18
      simp only [empty_eq, Option.bind_some]
      cases e1 : emp ⟨a.X0, a.Y0, a.X1, m.Y0⟩ <;> cases e2 : emp ⟨a.X0, m.Y1, a.X1, a.Y1⟩ <;> cases e3 : emp ⟨a.X0, m.Y0, m.X0, m.Y1⟩ <;> cases e4 : emp ⟨m.X1, m.Y0, a.X1, m.Y1⟩ <;> simp [e1, e2, e3, e4, maxCells]
theorem rminus_eq (n : Nat) (a b : Rect) : F22 n a b = some (minusL a b) := by
  unfold F22 minusL
  simp only [rmeet_eq, rempty_eq, Option.bind_some]
  cases h : emp a with
  | true => simp
  | false =>
    simp only [Bool.false_eq_true, if_false]
    by_cases h2 : meet a b = O
    · have h3 : emp (meet a b) = true := meet_O.2 h2
      rw [if_pos h3, if_pos h2]
    · have h3 : emp (meet a b) = false := (meet_raw h2).2
      simp only [h3, Bool.false_eq_true, if_false, h2]
      generalize meet a b = m
      unfold F22_u7 F22_u11 F22_u15 F22_u19
      simp only [rempty_eq, Option.bind_some]
      cases e1 : emp ⟨a.X0, a.Y0, a.X1, m.Y0⟩ <;> cases e2 : emp ⟨a.X0, m.Y1, a.X1, a.Y1⟩ <;> cases e3 : emp ⟨a.X0, m.Y0, m.X0, m.Y1⟩ <;> cases e4 : emp ⟨m.X1, m.Y0, a.X1, m.Y1⟩ <;> simp [e1, e2, e3, e4, maxCells]
theorem minus_few (a b : Rect) : (minusL a b).length ≤ 4 := by
  unfold minusL
  split
  · simp
  · split
    · simp
    · exact List.length_filter_le _ _

def area (r : Rect) : Int := ((meet r M).X1 - (meet r M).X0) * ((meet r M).Y1 - (meet r M).Y0)
theorem meet_M (r : Rect) : 0 ≤ (meet r M).X1 - (meet r M).X0 ∧ (meet r M).X1 - (meet r M).X0 ≤ 64 ∧ 0 ≤ (meet r M).Y1 - (meet r M).Y0 ∧ (meet r M).Y1 - (meet r M).Y0 ≤ 64 := by
  by_cases h : meet r M = O
  · rw [h]; decide
  · obtain ⟨e, f⟩ := meet_raw h
    rw [emp_not] at f
    rw [e] at f ⊢
    simp only [raw, M] at f ⊢
    have := imax_or r.X0 0; have := imax_or r.Y0 0; have := imin_or r.X1 64; have := imin_or r.Y1 64
    omega
theorem area_bd (r : Rect) : 0 ≤ area r ∧ area r ≤ 4096 := by
  obtain ⟨h1, h2, h3, h4⟩ := meet_M r
  unfold area
  refine ⟨Int.mul_nonneg h1 h3, ?_⟩
  have := Int.mul_le_mul h2 h4 h3 (by omega)
  omega
theorem area_fn (r : Rect) : IntKind.wrap .i64 (IntKind.wrap .i64 ((meet r M).X1 - (meet r M).X0) * IntKind.wrap .i64 ((meet r M).Y1 - (meet r M).Y0)) = area r := by
  have hb := meet_M r
  have ha := area_bd r
  have e1 : IntKind.wrap .i64 ((meet r M).X1 - (meet r M).X0) = (meet r M).X1 - (meet r M).X0 := g64 (by omega) (by omega)
  have e2 : IntKind.wrap .i64 ((meet r M).Y1 - (meet r M).Y0) = (meet r M).Y1 - (meet r M).Y0 := g64 (by omega) (by omega)
  rw [e1, e2]
  exact g64 (show _ ≤ area r by omega) (show area r ≤ _ by omega)
theorem area_eq (n : Nat) (r : Rect) : F33 n r = some (area r) := by
  unfold F33
  rw [meet_eq]
  exact congrArg some (area_fn r)
theorem rarea_eq (n : Nat) (r : Rect) : F34 n r = some (area r) := by
  unfold F34 F41
  simp only [Option.bind_some, rmeet_eq]
  exact congrArg some (area_fn r)

theorem same_eq (n : Nat) (a b : Rect) : F35 n a b = F36 n a b := by
  unfold F35 F36
  simp only [tidy_eq, rempty_eq, Option.bind_some]
  have key : ∀ x y : Rect, emp x = true → emp y = false → Rect.eqb x y = false ∧ Rect.eqb y x = false := by
    intro x y hx hy
    constructor
    · rw [Bool.eq_false_iff]; intro h; rw [(Rect.eqb_iff _ _).1 h, hy] at hx; cases hx
    · rw [Bool.eq_false_iff]; intro h; rw [← (Rect.eqb_iff _ _).1 h, hy] at hx; cases hx
  cases ha : emp a with
  | true => cases hb : emp b with
    | true => simp [tidy, ha, hb, Rect.eqb_refl]
    | false => simp [tidy, ha, hb, (key a b ha hb).1, (key O b rfl hb).1]
  | false => cases hb : emp b with
    | true => simp [tidy, ha, hb, (key b a hb ha).2, (key O a rfl ha).2]
    | false => cases he : Rect.eqb a b <;> simp [tidy, ha, hb, he]

def side (a b : Int) : Bool := decide (0 ≤ a) && (decide (a ≤ b) && decide (b ≤ 64))
theorem side_eq (n : Nat) (a b : Int) : F39 n a b = some (side a b) := by
  unfold F39 side
  by_cases h1 : 0 ≤ a <;> by_cases h2 : a ≤ b <;> simp [h1, h2]
theorem is_eq (n : Nat) (r : Rect) : F25 n r = some (side r.X0 r.X1 && side r.Y0 r.Y1) := by
  unfold F25
  simp only [side_eq, Option.bind_some]
  cases side r.X0 r.X1 <;> simp
theorem ris_eq (n : Nat) (r : Rect) : F26 n r = some (side r.X0 r.X1 && side r.Y0 r.Y1) := by
  unfold F26 side
  by_cases h1 : 0 ≤ r.X0 <;> by_cases h2 : r.X0 ≤ r.X1 <;> by_cases h3 : r.X1 ≤ 64 <;> by_cases h4 : 0 ≤ r.Y0 <;> by_cases h5 : r.Y0 ≤ r.Y1 <;> simp [h1, h2, h3, h4, h5]
theorem same_on (n : Nat) (p : Point) : F23 n p = F24 n p := rfl
theorem same_in (n : Nat) (r : Rect) (p : Point) : F29 n r p = F30 n r p := rfl
theorem on_some (n : Nat) (p : Point) : ∃ b, F24 n p = some b := by
  unfold F24
  split
  · split
    · split <;> exact ⟨_, rfl⟩
    · exact ⟨_, rfl⟩
  · exact ⟨_, rfl⟩
theorem in_some (n : Nat) (r : Rect) (p : Point) : ∃ b, F30 n r p = some b := by
  unfold F30
  split
  · split
    · split <;> exact ⟨_, rfl⟩
    · exact ⟨_, rfl⟩
  · exact ⟨_, rfl⟩
theorem same_some (n : Nat) (a b : Rect) : ∃ c, F36 n a b = some c := by
  unfold F36
  simp only [rempty_eq, Option.bind_some]
  split
  · split
    · exact ⟨_, rfl⟩
    · split <;> exact ⟨_, rfl⟩
  · split <;> exact ⟨_, rfl⟩

theorem tells_l (a b : Rect) (p : Point) (l : List Rect) (hl : l.length ≤ 4) : ∀ (m i : Nat), i ≤ l.length → l.length - i < m → F6_l9 30 a b p l l m (i : Int) = some true
  | 0, _, _, h => by omega
  | m + 1, i, h1, h2 => by
    unfold F6_l9
    by_cases hi : i < l.length
    · simp only [lt_dec hi, if_true, ixg l i hi, Option.bind_some, Rect.eqb_refl, Bool.not_true, Bool.false_eq_true, if_false, dsucc (show i < 1000 by omega)]
      exact tells_l a b p l hl m (i + 1) (by omega) (by omega)
    · obtain ⟨o, ho⟩ := on_some 30 p
      obtain ⟨q, hq⟩ := in_some 30 a p
      obtain ⟨s, hs⟩ := same_some 30 a b
      simp only [ge_dec hi, Bool.false_eq_true, if_false, same_on, ho, is_eq, ris_eq, empty_eq, rempty_eq, same_in, hq, meet_eq, rmeet_eq, area_eq, rarea_eq, same_eq, hs, Option.bind_some, beq_self_eq_true, if_true, Rect.eqb_refl]
theorem geomTells_pure (a b : Rect) (p : Point) : ∃ n, F6 n a b p = some true := by
  refine ⟨30, ?_⟩
  unfold F6
  have few : ∀ r : Rect, ∃ c, F20 30 r = some c := by
    intro r; unfold F20; split <;> exact ⟨_, rfl⟩
  obtain ⟨x, hx⟩ := few a
  obtain ⟨y, hy⟩ := few b
  simp only [Option.bind_some, Bool.not_true, Bool.false_eq_true, if_false, hx, hy]
  cases x with
  | false => rfl
  | true => cases y with
    | false => rfl
    | true =>
      simp only [Bool.not_true, Bool.false_eq_true, if_false, minus_eq, rminus_eq, Option.bind_some, bne_self_eq_false]
      exact tells_l a b p (minusL a b) (minus_few a b) 38 0 (by omega) (by have := minus_few a b; omega)

/-! ### areas -/

def clen (p q : Int) : Int := if imin q 64 ≤ imax p 0 then 0 else imin q 64 - imax p 0
theorem area_is (r : Rect) : area r = clen r.X0 r.X1 * clen r.Y0 r.Y1 := by
  unfold area meet tidy
  by_cases h : emp (raw r M) = true
  · simp only [h, if_true]
    rw [emp_iff] at h
    rcases h with h | h
    · have : clen r.X0 r.X1 = 0 := by simp only [raw, M] at h; simp [clen, if_pos h]
      rw [this, Int.zero_mul]; rfl
    · have : clen r.Y0 r.Y1 = 0 := by simp only [raw, M] at h; simp [clen, if_pos h]
      rw [this, Int.mul_zero]; rfl
  · simp only [h, Bool.false_eq_true, if_false]
    rw [emp_iff] at h
    simp only [raw, M] at h ⊢
    have h1 : ¬ imin r.X1 64 ≤ imax r.X0 0 := fun e => h (.inl e)
    have h2 : ¬ imin r.Y1 64 ≤ imax r.Y0 0 := fun e => h (.inr e)
    simp [clen, if_neg h1, if_neg h2]
theorem clen_add (p q s : Int) (h : p ≤ q) (k : q ≤ s) : clen p s = clen p q + clen q s := by
  unfold clen
  rcases imax_or p 0 with ⟨e1, f1⟩ | ⟨e1, f1⟩ <;> rcases imax_or q 0 with ⟨e2, f2⟩ | ⟨e2, f2⟩ <;> rcases imin_or q 64 with ⟨e3, f3⟩ | ⟨e3, f3⟩ <;> rcases imin_or s 64 with ⟨e4, f4⟩ | ⟨e4, f4⟩ <;> rw [e1, e2, e3, e4] <;> (repeat' split) <;> omega
theorem clen_none (p q : Int) (h : q ≤ p) : clen p q = 0 := by
  unfold clen
  rw [if_pos]
  have := imax_or p 0; have := imin_or q 64; omega
theorem area_empty {r : Rect} (h : emp r = true) : area r = 0 := by
  rw [area_is]
  rw [emp_iff] at h
  rcases h with h | h
  · rw [clen_none _ _ h, Int.zero_mul]
  · rw [clen_none _ _ h, Int.mul_zero]
def sumA : List Rect → Int
  | [] => 0
  | r :: rs => area r + sumA rs
theorem sumA_filter (l : List Rect) : sumA (l.filter fun r => !emp r) = sumA l := by
  induction l with
  | nil => rfl
  | cons r rs ih =>
    rw [List.filter_cons]
    by_cases h : emp r = true
    · simp [h, sumA, ih, area_empty h]
    · simp [h, sumA, ih]
theorem meet_of_empty {a b : Rect} (h : emp a = true) : meet a b = O := by
  by_cases h2 : meet a b = O
  · exact h2
  · obtain ⟨e, f⟩ := meet_raw h2
    rw [e, emp_not] at f
    rw [emp_iff] at h
    simp only [raw] at f
    have := imax_or a.X0 b.X0; have := imax_or a.Y0 b.Y0; have := imin_or a.X1 b.X1; have := imin_or a.Y1 b.Y1
    omega
theorem minus_area (a b : Rect) : area (meet a b) + sumA (minusL a b) = area a := by
  unfold minusL
  by_cases h : emp a = true
  · rw [if_pos h, meet_of_empty h, area_empty h]; rfl
  · rw [if_neg h]
    by_cases h2 : meet a b = O
    · rw [if_pos h2, h2]
      have : area O = 0 := area_empty rfl
      simp [sumA, this]
    · rw [if_neg h2, sumA_filter]
      obtain ⟨e, f⟩ := meet_raw h2
      have l1 : a.X0 ≤ (meet a b).X0 := by rw [e]; have := imax_or a.X0 b.X0; simp only [raw]; omega
      have l2 : a.Y0 ≤ (meet a b).Y0 := by rw [e]; have := imax_or a.Y0 b.Y0; simp only [raw]; omega
      have l3 : (meet a b).X1 ≤ a.X1 := by rw [e]; have := imin_or a.X1 b.X1; simp only [raw]; omega
      have l4 : (meet a b).Y1 ≤ a.Y1 := by rw [e]; have := imin_or a.Y1 b.Y1; simp only [raw]; omega
      rw [emp_not] at f
      generalize meet a b = m at *
      simp only [sumA, area_is]
      rw [clen_add a.X0 m.X0 a.X1 l1 (by omega), clen_add m.X0 m.X1 a.X1 (by omega) l3, clen_add a.Y0 m.Y0 a.Y1 l2 (by omega), clen_add m.Y0 m.Y1 a.Y1 (by omega) l4]
      simp only [Int.mul_add, Int.add_mul]
      omega
theorem sumA_step (l : List Rect) (i : Nat) (h : i < l.length) : sumA (l.drop i) = area l[i] + sumA (l.drop (i + 1)) := by
  have ed : l.drop i = l[i] :: l.drop (i + 1) := by rw [List.drop_eq_getElem_cons h]
  rw [ed]; rfl
theorem sumA_end (l : List Rect) (i : Nat) (h : ¬ i < l.length) : sumA (l.drop i) = 0 := by
  rw [List.drop_eq_nil_of_le (by omega)]; rfl

theorem moves_l19 (x y w h dx dy g : Int) (l : List Rect) (hl : l.length ≤ 4) (T : Option Bool) (hend : ∀ (m i : Nat), ¬ i < l.length → F10_l19 30 x y w h dx dy g l (m + 1) (sumA l) (i : Int) = T) : ∀ (m i : Nat) (s : Int), i ≤ l.length → l.length - i < m → 0 ≤ s → s ≤ 4096 * i → s + sumA (l.drop i) = sumA l → F10_l19 30 x y w h dx dy g l m s (i : Int) = T
  | 0, _, _, _, hm, _, _, _ => by omega
  | m + 1, i, s, h1, h2, h3, h4, h5 => by
    by_cases hi : i < l.length
    · have hs := sumA_step l i hi
      have hb := area_bd l[i]
      have e : IntKind.wrap .i64 (s + area l[i]) = s + area l[i] := g64 (by omega) (by omega)
      unfold F10_l19
      simp only [lt_dec hi, if_true, ixg l i hi, Option.bind_some, area_eq, dsucc (show i < 1000 by omega), e]
      exact moves_l19 x y w h dx dy g l hl T hend m (i + 1) _ (by omega) (by omega) (by omega) (by push_cast; omega) (by omega)
    · have hz := sumA_end l i hi
      have : s = sumA l := by omega
      rw [this]; exact hend m i hi
theorem moves_l9 (x y w h dx dy : Int) (l : List Rect) (hl : l.length ≤ 4) (T : Option Bool) (hend : ∀ (m i : Nat), ¬ i < l.length → F10_l9 30 x y w h dx dy l (m + 1) (sumA l) (i : Int) = T) : ∀ (m i : Nat) (s : Int), i ≤ l.length → l.length - i < m → 0 ≤ s → s ≤ 4096 * i → s + sumA (l.drop i) = sumA l → F10_l9 30 x y w h dx dy l m s (i : Int) = T
  | 0, _, _, _, hm, _, _, _ => by omega
  | m + 1, i, s, h1, h2, h3, h4, h5 => by
    by_cases hi : i < l.length
    · have hs := sumA_step l i hi
      have hb := area_bd l[i]
      have e : IntKind.wrap .i64 (s + area l[i]) = s + area l[i] := g64 (by omega) (by omega)
      unfold F10_l9
      simp only [lt_dec hi, if_true, ixg l i hi, Option.bind_some, area_eq, dsucc (show i < 1000 by omega), e]
      exact moves_l9 x y w h dx dy l hl T hend m (i + 1) _ (by omega) (by omega) (by omega) (by push_cast; omega) (by omega)
    · have hz := sumA_end l i hi
      have : s = sumA l := by omega
      rw [this]; exact hend m i hi
theorem bounds_i8 {n : Int} (h : (Lit.int .i8 n).wf = true) : -128 ≤ n ∧ n ≤ 127 := by
  simp [Lit.wf, IntKind.min, IntKind.max, IntKind.bits, IntKind.signed] at h; omega
theorem geomMoves_pure (x y w h dx dy : Int) (w0 : (Lit.int .u8 x).wf = true) (w1 : (Lit.int .u8 y).wf = true) (w2 : (Lit.int .u8 w).wf = true) (w3 : (Lit.int .u8 h).wf = true) (w4 : (Lit.int .i8 dx).wf = true) (w5 : (Lit.int .i8 dy).wf = true) : ∃ n, F10 n x y w h dx dy = some true := by
  refine ⟨30, ?_⟩
  have bx := bounds_u8 w0
  have by' := bounds_u8 w1
  have bw := bounds_u8 w2
  have bh := bounds_u8 w3
  have bdx := bounds_i8 w4
  have bdy := bounds_i8 w5
  have m1 : IntKind.wrap .i64 (Int.tmod x 64) = x % 64 := by rw [Int.tmod_eq_emod_of_nonneg bx.1, g64 (by omega) (by omega)]
  have m2 : IntKind.wrap .i64 (Int.tmod y 64) = y % 64 := by rw [Int.tmod_eq_emod_of_nonneg by'.1, g64 (by omega) (by omega)]
  have m3 : IntKind.wrap .i64 (Int.tmod w 30) = w % 30 := by rw [Int.tmod_eq_emod_of_nonneg bw.1, g64 (by omega) (by omega)]
  have m4 : IntKind.wrap .i64 (Int.tmod h 30) = h % 30 := by rw [Int.tmod_eq_emod_of_nonneg bh.1, g64 (by omega) (by omega)]
  obtain ⟨X, hX, hX0, hX1⟩ : ∃ X, x % 64 = X ∧ 0 ≤ X ∧ X < 64 := ⟨_, rfl, by omega, by omega⟩
  obtain ⟨Y, hY, hY0, hY1⟩ : ∃ Y, y % 64 = Y ∧ 0 ≤ Y ∧ Y < 64 := ⟨_, rfl, by omega, by omega⟩
  obtain ⟨W, hW, hW0, hW1⟩ : ∃ W, w % 30 = W ∧ 0 ≤ W ∧ W < 30 := ⟨_, rfl, by omega, by omega⟩
  obtain ⟨H, hH, hH0, hH1⟩ : ∃ H, h % 30 = H ∧ 0 ≤ H ∧ H < 30 := ⟨_, rfl, by omega, by omega⟩
  obtain ⟨E, hE, hE0, hE1⟩ : ∃ E, imin (X + W + 1) 64 = E ∧ X < E ∧ E ≤ 64 := ⟨_, rfl, by unfold imin; split <;> omega, by unfold imin; split <;> omega⟩
  obtain ⟨G, hG, hG0, hG1⟩ : ∃ G, imin (Y + H + 1) 64 = G ∧ Y < G ∧ G ≤ 64 := ⟨_, rfl, by unfold imin; split <;> omega, by unfold imin; split <;> omega⟩
  have s1 : IntKind.wrap .i64 (X + W) = X + W := g64 (by omega) (by omega)
  have s2 : IntKind.wrap .i64 (X + W + 1) = X + W + 1 := g64 (by omega) (by omega)
  have s3 : IntKind.wrap .i64 (Y + H) = Y + H := g64 (by omega) (by omega)
  have s4 : IntKind.wrap .i64 (Y + H + 1) = Y + H + 1 := g64 (by omega) (by omega)
  have s5 : IntKind.wrap .i64 dx = dx := g64 (by omega) (by omega)
  have s6 : IntKind.wrap .i64 dy = dy := g64 (by omega) (by omega)
  have s7 : IntKind.wrap .i64 (X + dx) = X + dx := g64 (by omega) (by omega)
  have s8 : IntKind.wrap .i64 (Y + dy) = Y + dy := g64 (by omega) (by omega)
  have s9 : IntKind.wrap .i64 (E + dx) = E + dx := g64 (by omega) (by omega)
  have s10 : IntKind.wrap .i64 (G + dy) = G + dy := g64 (by omega) (by omega)
  have f1 := minus_few ⟨X + dx, Y + dy, E + dx, G + dy⟩ ⟨X, Y, E, G⟩
  have f2 := minus_few ⟨X, Y, E, G⟩ ⟨X + dx, Y + dy, E + dx, G + dy⟩
  have k1 := minus_area ⟨X + dx, Y + dy, E + dx, G + dy⟩ ⟨X, Y, E, G⟩
  have k2 := minus_area ⟨X, Y, E, G⟩ ⟨X + dx, Y + dy, E + dx, G + dy⟩
  rw [meet_comm] at k1
  have b1 := area_bd (meet ⟨X, Y, E, G⟩ ⟨X + dx, Y + dy, E + dx, G + dy⟩)
  have b2 := area_bd ⟨X, Y, E, G⟩
  have b3 := area_bd ⟨X + dx, Y + dy, E + dx, G + dy⟩
  unfold F10
  simp only [m1, m2, m3, m4, hX, hY, hW, hH, s1, s2, s3, s4, hE, hG, s5, s6, s7, s8, s9, s10, minus_eq, Option.bind_some, Bool.not_true, Bool.false_eq_true, if_false]
  refine moves_l9 x y w h dx dy _ f1 (some true) (fun m i hi => ?_) 38 0 0 (by omega) (by omega) (by omega) (by omega) (by simp)
  unfold F10_l9
  simp only [ge_dec hi, Bool.false_eq_true, if_false]
  simp only [m1, m2, m3, m4, hX, hY, hW, hH, s1, s2, s3, s4, hE, hG, s5, s6, s7, s8, s9, s10, minus_eq, Option.bind_some]
  refine moves_l19 x y w h dx dy _ _ f2 (some true) (fun m' i' hi' => ?_) 38 0 0 (by omega) (by omega) (by omega) (by omega) (by simp)
  unfold F10_l19
  simp only [ge_dec hi', Bool.false_eq_true, if_false]
  simp only [m1, m2, m3, m4, hX, hY, hW, hH, s1, s2, s3, s4, hE, hG, s5, s6, s7, s8, s9, s10, area_eq, is_eq, Option.bind_some]
  have t1 : IntKind.wrap .i64 (area ⟨X, Y, E, G⟩ - sumA (minusL ⟨X, Y, E, G⟩ ⟨X + dx, Y + dy, E + dx, G + dy⟩)) = area ⟨X, Y, E, G⟩ - sumA (minusL ⟨X, Y, E, G⟩ ⟨X + dx, Y + dy, E + dx, G + dy⟩) := g64 (by omega) (by omega)
  have t2 : IntKind.wrap .i64 (area ⟨X, Y, E, G⟩ - sumA (minusL ⟨X, Y, E, G⟩ ⟨X + dx, Y + dy, E + dx, G + dy⟩) + sumA (minusL ⟨X + dx, Y + dy, E + dx, G + dy⟩ ⟨X, Y, E, G⟩)) = area ⟨X + dx, Y + dy, E + dx, G + dy⟩ := by
    rw [g64 (by omega) (by omega)]; omega
  have t3 : side X E = true := by simp [side]; omega
  have t4 : side Y G = true := by simp [side]; omega
  have t5 : side (X + dx) (E + dx) = (decide (0 ≤ X + dx) && decide (E + dx ≤ 64)) := by
    have : decide (X + dx ≤ E + dx) = true := by simp; omega
    simp only [side, this, Bool.true_and]
  have t6 : side (Y + dy) (G + dy) = (decide (0 ≤ Y + dy) && decide (G + dy ≤ 64)) := by
    have : decide (Y + dy ≤ G + dy) = true := by simp; omega
    simp only [side, this, Bool.true_and]
  simp only [t1, t2, t3, t4, t5, t6, beq_self_eq_true, if_true, Bool.and_self]
  by_cases c1 : 0 ≤ X + dx <;> by_cases c2 : 0 ≤ Y + dy <;> by_cases c3 : E + dx ≤ 64 <;> by_cases c4 : G + dy ≤ 64 <;> simp [c1, c2, c3, c4]
end Go.Proofs.Ytdnfamkokhgdbaa
