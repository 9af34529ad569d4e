/-
  CellWhole, CellNeighbours, CellCounts: the laws, in plain Lean. No condition.
-/
import Derived.Test.YtajfdeeepklfoaaCellCountsQc
import Derived.Test.YtajfdeeepklfoaaCellCountsV
import Derived.Test.YtajfdeeepklfoaaCellCountsP0
namespace Go.Proofs.Ytajfdeeepklfoaa
open Go Go.Rx
set_option maxRecDepth 100000
set_option linter.unusedSimpArgs false
set_option linter.unusedVariables false

def inB (r : Rect) (p : Point) : Bool := decide (r.X0 ≤ p.X) && (decide (p.X < r.X1) && (decide (r.Y0 ≤ p.Y) && decide (p.Y < r.Y1)))
theorem rin_eq (n : Nat) (r : Rect) (p : Point) : F23 n r p = some (inB r p) := by
  unfold F23 inB
  by_cases h1 : r.X0 ≤ p.X <;> by_cases h2 : p.X < r.X1 <;> by_cases h3 : r.Y0 ≤ p.Y <;> simp [h1, h2, h3]
theorem cr0 (k : Nat) : (cellRect k).X0 = 16 * (cx k : Int) := rfl
theorem cr1 (k : Nat) : (cellRect k).Y0 = 16 * (cy k : Int) := rfl
theorem cr2 (k : Nat) : (cellRect k).X1 = 16 * (cx k : Int) + 16 := rfl
theorem cr3 (k : Nat) : (cellRect k).Y1 = 16 * (cy k : Int) + 16 := rfl
theorem hit_iff (r : Rect) (c : Nat) : hit r c = true ↔ ¬ (r.X1 ≤ r.X0 ∨ r.Y1 ≤ r.Y0) ∧ 16 * (cx c : Int) < r.X1 ∧ r.X0 < 16 * (cx c : Int) + 16 ∧ 16 * (cy c : Int) < r.Y1 ∧ r.Y0 < 16 * (cy c : Int) + 16 := by
  rw [← cr2, ← cr3, ← cr0, ← cr1]
  simp only [hit, emp, Bool.and_eq_true, decide_eq_true_eq, Bool.not_eq_true', Bool.or_eq_false_iff, decide_eq_false_iff_not, not_or]
theorem inB_iff (r : Rect) (p : Point) : inB r p = true ↔ r.X0 ≤ p.X ∧ p.X < r.X1 ∧ r.Y0 ≤ p.Y ∧ p.Y < r.Y1 := by
  simp only [inB, Bool.and_eq_true, decide_eq_true_eq]
theorem cxy : ∀ x y : Fin 4, cx (cellOf x y) = x.val ∧ cy (cellOf x y) = y.val ∧ cellOf x y < 16 := by decide +kernel
theorem cof : ∀ k : Fin 16, cellOf (cx k) (cy k) = k.val ∧ cx k < 4 ∧ cy k < 4 := by decide +kernel
theorem in_cell (p : Point) (k : Nat) (hk : k < 16) : inB (cellRect k) p = (onB p && decide (k = cellAt p)) := by
  obtain ⟨c1, c2, c3⟩ := cof ⟨k, hk⟩
  simp only at c1 c2 c3
  rw [Bool.eq_iff_iff]
  simp only [inB_iff, Bool.and_eq_true, on_iff, decide_eq_true_eq, cr0, cr1, cr2, cr3]
  constructor
  · rintro ⟨h1, h2, h3, h4⟩
    refine ⟨⟨by omega, by omega, by omega, by omega⟩, ?_⟩
    have e1 : (p.X / 16).toNat = cx k := by omega
    have e2 : (p.Y / 16).toNat = cy k := by omega
    rw [cellAt, e1, e2, c1]
  · rintro ⟨⟨h1, h2, h3, h4⟩, he⟩
    obtain ⟨d1, d2, _⟩ := cxy ⟨(p.X / 16).toNat, by omega⟩ ⟨(p.Y / 16).toNat, by omega⟩
    simp only at d1 d2
    rw [he, cellAt, d1, d2]
    omega
theorem cellAt_lt {p : Point} (h : onB p = true) : cellAt p < 16 := by
  obtain ⟨h1, h2, h3, h4⟩ := (on_iff p).1 h
  exact (cxy ⟨(p.X / 16).toNat, by omega⟩ ⟨(p.Y / 16).toNat, by omega⟩).2.2
theorem ix_get {α : Type} (l : List α) (i : Nat) (h : i < l.length) : ix l (i : Int) = some l[i] := by
  unfold ix; rw [if_neg (by omega)]; simp [h]

theorem whole_l19 (p : Point) (r : Rect) (e : Int) (c : Int) (l : List Int) (hl : l.length ≤ 16) : ∀ (m i : Nat) (b : Bool), i ≤ l.length → l.length - i < m → F8_l19 30 p r (c, e) 1 l m b (i : Int) = some (!inB r p || (b || (l.drop i).any (· == c)))
  | 0, i, b, _, h => by omega
  | m + 1, i, b, h1, h2 => by
    unfold F8_l19
    by_cases hi : i < l.length
    · have hd : decide ((i : Int) < (l.length : Int)) = true := by simp; omega
      have ew : IntKind.wrap .i64 ((i : Int) + 1) = ((i + 1 : Nat) : Int) := by rw [w64_id (by omega) (by omega)]; push_cast; rfl
      have ed : l.drop i = l[i] :: l.drop (i + 1) := by rw [List.drop_eq_getElem_cons hi]
      have ea : (l.drop i).any (· == c) = (l[i] == c || (l.drop (i + 1)).any (· == c)) := by rw [ed, List.any_cons]
      simp only [hd, if_true, ix_get l i hi, Option.bind_some, ew]
      cases b with
      | true =>
        simp only [if_true]
        rw [whole_l19 p r e c l hl m (i + 1) true (by omega) (by omega)]
        simp
      | false =>
        simp only [Bool.false_eq_true, if_false]
        rw [whole_l19 p r e c l hl m (i + 1) _ (by omega) (by omega)]
        rw [ea]
        simp
    · have hd : decide ((i : Int) < (l.length : Int)) = false := by simp; omega
      have ed : l.drop i = [] := List.drop_eq_nil_of_le (by omega)
      simp only [hd, Bool.false_eq_true, if_false, beq_self_eq_true, if_true, rin_eq, Option.bind_some, ed, List.any_nil, Bool.or_false]
      cases inB r p <;> simp

theorem whole_l9 (p : Point) (r : Rect) (hh : onB p = true) : ∀ (m i : Nat), i ≤ 16 → 16 - i < m → F8_l9 30 p r (((cellAt p : Nat) : Int), 0) m (if cellAt p < i then 1 else 0) (i : Int) = some true
  | 0, i, _, h => by omega
  | m + 1, i, h1, h2 => by
    unfold F8_l9
    have hc := cellAt_lt hh
    by_cases hi : i < 16
    · have hd : decide ((i : Int) < 16) = true := by simp; omega
      have ew : IntKind.wrap .i64 ((i : Int) + 1) = ((i + 1 : Nat) : Int) := by rw [w64_id (by omega) (by omega)]; push_cast; rfl
      have hR := rect_in ⟨i, hi⟩
      simp only at hR
      simp only [hd, if_true, hR, Option.bind_some, Bool.not_true, Bool.false_eq_true, if_false, rin_eq, in_cell p i hi, hh, Bool.true_and, ew]
      by_cases hic : i = cellAt p
      · have hd2 : decide (i = cellAt p) = true := by simp [hic]
        have hb : ((i : Int) != ((cellAt p : Nat) : Int)) = false := by simp [hic]
        have e0 : (if cellAt p < i then (1 : Int) else 0) = 0 := by rw [if_neg (by omega)]
        have e1 : IntKind.wrap .i64 ((0 : Int) + 1) = (if cellAt p < i + 1 then 1 else 0) := by rw [if_pos (by omega)]; rfl
        simp only [hd2, if_true, hb, Bool.false_eq_true, if_false, e0, e1]
        exact whole_l9 p r hh m (i + 1) (by omega) (by omega)
      · have hd2 : decide (i = cellAt p) = false := by simp [hic]
        have e0 : (if cellAt p < i then (1 : Int) else 0) = (if cellAt p < i + 1 then 1 else 0) := by
          by_cases h : cellAt p < i
          · rw [if_pos h, if_pos (by omega)]
          · rw [if_neg h, if_neg (by omega)]
        simp only [hd2, Bool.false_eq_true, if_false, e0]
        exact whole_l9 p r hh m (i + 1) (by omega) (by omega)
    · have hi' : i = 16 := by omega
      subst hi'
      have hd : decide (((16 : Nat) : Int) < 16) = false := by simp
      simp only [hd, Bool.false_eq_true, if_false, bne_self_eq_false, cover_eq, Option.bind_some, if_pos hc]
      have hlen : (cov r 0 16).length ≤ 16 := by
        have := List.length_filter_le (hit r) (List.range' 0 16)
        simpa [cov] using this
      have := whole_l19 p r 0 ((cellAt p : Nat) : Int) (cov r 0 16) hlen 38 0 false (by omega) (by omega)
      simp only [Int.cast_ofNat_Int] at this
      rw [this]
      cases hin : inB r p with
      | false => rfl
      | true =>
        simp only [Bool.not_true, Bool.false_or, List.drop_zero, Option.some.injEq, List.any_eq_true, beq_iff_eq]
        refine ⟨_, ?_, rfl⟩
        simp only [cov, List.mem_map, List.mem_filter, List.mem_range']
        refine ⟨cellAt p, ⟨⟨cellAt p, hc, by omega⟩, ?_⟩, rfl⟩
        obtain ⟨g1, g2, g3, g4⟩ := (on_iff p).1 hh
        obtain ⟨d1, d2, _⟩ := cxy ⟨(p.X / 16).toNat, by omega⟩ ⟨(p.Y / 16).toNat, by omega⟩
        simp only at d1 d2
        rw [inB_iff] at hin
        rw [hit_iff]
        simp only [cellAt, d1, d2]
        omega
theorem whole_off (p : Point) (r : Rect) (hh : onB p = false) : ∀ (m i : Nat), i ≤ 16 → 16 - i < m → F8_l9 30 p r (0, 14) m 0 (i : Int) = some true
  | 0, i, _, h => by omega
  | m + 1, i, h1, h2 => by
    unfold F8_l9
    by_cases hi : i < 16
    · have hd : decide ((i : Int) < 16) = true := by simp; omega
      have ew : IntKind.wrap .i64 ((i : Int) + 1) = ((i + 1 : Nat) : Int) := by rw [w64_id (by omega) (by omega)]; push_cast; rfl
      have hR := rect_in ⟨i, hi⟩
      simp only at hR
      simp only [hd, if_true, hR, Option.bind_some, Bool.not_true, Bool.false_eq_true, if_false, rin_eq, in_cell p i hi, hh, Bool.false_and, ew]
      exact whole_off p r hh m (i + 1) (by omega) (by omega)
    · have hi' : i = 16 := by omega
      subst hi'
      rfl
theorem cellWhole_pure (p : Point) (r : Rect) : ∃ n, F8 n p r = some true := by
  refine ⟨30, ?_⟩
  unfold F8
  simp only [of_eq, Option.bind_some, Bool.not_true, Bool.false_eq_true, if_false]
  cases hh : onB p with
  | true => simpa [hh] using whole_l9 p r hh 38 0 (by omega) (by omega)
  | false => simpa [hh] using whole_off p r hh 38 0 (by omega) (by omega)

/-! ### neighbours -/

def bes (a b : Nat) : Bool := decide (a ≠ b) && (decide (cx a ≤ cx b + 1) && decide (cx b ≤ cx a + 1) && (decide (cy a ≤ cy b + 1) && decide (cy b ≤ cy a + 1)))
theorem bes_in (a b : Nat) (ha : a < 16) (hb : b < 16) : F33 30 (a : Int) (b : Int) = some (bes a b) := by
  have := beside_in ⟨a, ha⟩ ⟨b, hb⟩
  simp only [ne_eq, Fin.mk.injEq] at this
  rw [this]; rfl
theorem bes_comm : ∀ a b : Fin 16, bes a b = bes b a := by decide +kernel
def cnt (x : Nat) (i : Nat) : Nat := ((List.range i).filter (bes x)).length
theorem cnt_succ (x i : Nat) : cnt x (i + 1) = cnt x i + (if bes x i then 1 else 0) := by
  simp only [cnt, List.range_succ, List.filter_append, List.length_append, List.filter_cons, List.filter_nil]
  split <;> simp
theorem cnt_le (x i : Nat) : cnt x i ≤ i := by
  have := List.length_filter_le (bes x) (List.range i)
  simpa [cnt] using this
theorem cnt_all : ∀ x : Fin 16, cnt x 16 = 3 ∨ cnt x 16 = 5 ∨ cnt x 16 = 8 := by decide +kernel

theorem near_j (a0 a1 : Int) (p : Point) (x y : Nat) (hx : x < 16) (hy : y < 16) (e0 : IntKind.wrap .i64 (Int.tmod a0 16) = x) (e1 : IntKind.wrap .i64 (Int.tmod a1 16) = y) (k : Int) (hk : k = 3 ∨ k = 5 ∨ k = 8) (q : Point)
    (hq : onB p = true → onB q = true → cellAt p ≠ cellAt q → bes (cellAt p) (cellAt q) = true) : F9_j12 30 a0 a1 p k q.X q.Y = some true := by
  unfold F9_j12
  have hqe : Point.mk q.X q.Y = q := rfl
  have hc := bes_comm ⟨x, hx⟩ ⟨y, hy⟩
  simp only at hc
  simp only [e0, e1, bes_in x y hx hy, bes_in y x hy hx, of_eq, hqe, Option.bind_some, hc, beq_self_eq_true, if_true]
  cases hp : onB p with
  | false => rcases hk with rfl | rfl | rfl <;> simp
  | true =>
    cases hqq : onB q with
    | false => rcases hk with rfl | rfl | rfl <;> simp
    | true =>
      by_cases he : cellAt p = cellAt q
      · rcases hk with rfl | rfl | rfl <;> simp [he]
      · have hb := hq hp hqq he
        have h2 := bes_in (cellAt p) (cellAt q) (cellAt_lt hp) (cellAt_lt hqq)
        have hne : (((cellAt p : Nat) : Int) == ((cellAt q : Nat) : Int)) = false := by simp; omega
        rcases hk with rfl | rfl | rfl <;> simp [h2, hb, hne]

theorem near_cells {p q : Point} (hp : onB p = true) (hq : onB q = true) (h1 : p.X ≤ q.X + 1) (h2 : q.X ≤ p.X + 1) (h3 : p.Y ≤ q.Y + 1) (h4 : q.Y ≤ p.Y + 1) (hne : cellAt p ≠ cellAt q) : bes (cellAt p) (cellAt q) = true := by
  obtain ⟨p1, p2, p3, p4⟩ := (on_iff p).1 hp
  obtain ⟨q1, q2, q3, q4⟩ := (on_iff q).1 hq
  obtain ⟨a1, a2, _⟩ := cxy ⟨(p.X / 16).toNat, by omega⟩ ⟨(p.Y / 16).toNat, by omega⟩
  obtain ⟨b1, b2, _⟩ := cxy ⟨(q.X / 16).toNat, by omega⟩ ⟨(q.Y / 16).toNat, by omega⟩
  simp only at a1 a2 b1 b2
  simp only [bes, Bool.and_eq_true, decide_eq_true_eq]
  refine ⟨hne, ?_⟩
  simp only [cellAt, a1, a2, b1, b2]
  omega

theorem near_l (a0 a1 : Int) (p : Point) (dx dy : Int) (hdx : 0 ≤ dx ∧ dx < 256) (hdy : 0 ≤ dy ∧ dy < 256) (x y : Nat) (hx : x < 16) (hy : y < 16) (e0 : IntKind.wrap .i64 (Int.tmod a0 16) = x) (e1 : IntKind.wrap .i64 (Int.tmod a1 16) = y) : ∀ (m i : Nat), i ≤ 16 → 16 - i < m →
    F9_l8 30 a0 a1 p dx dy m (cnt x i : Int) (i : Int) = some true
  | 0, i, _, h => by omega
  | m + 1, i, h1, h2 => by
    unfold F9_l8
    by_cases hi : i < 16
    · have hd : decide ((i : Int) < 16) = true := by simp; omega
      have ew : IntKind.wrap .i64 ((i : Int) + 1) = ((i + 1 : Nat) : Int) := by rw [w64_id (by omega) (by omega)]; push_cast; rfl
      have hcl := cnt_le x i
      have ec : IntKind.wrap .i64 ((cnt x i : Int) + 1) = ((cnt x i + 1 : Nat) : Int) := by rw [w64_id (by omega) (by omega)]; push_cast; rfl
      have hs := cnt_succ x i
      have hrec := near_l a0 a1 p dx dy hdx hdy x y hx hy e0 e1 m (i + 1) (by omega) (by omega)
      simp only [hd, if_true, e0, bes_in x i hx hi, Option.bind_some, ew, ec]
      cases hb : bes x i with
      | true => rw [hs, hb, if_pos rfl] at hrec; simpa using hrec
      | false => rw [hs, hb] at hrec; simpa using hrec
    · have hi' : i = 16 := by omega
      subst hi'
      have hd : decide (((16 : Nat) : Int) < 16) = false := by simp
      have hk : (cnt x 16 : Int) = 3 ∨ (cnt x 16 : Int) = 5 ∨ (cnt x 16 : Int) = 8 := by have := cnt_all ⟨x, hx⟩; simp only at this; omega
      have same : F9_j12 30 a0 a1 p (cnt x 16) p.X p.Y = some true := near_j a0 a1 p x y hx hy e0 e1 _ hk p (fun _ _ h => absurd rfl h)
      simp only [hd, Bool.false_eq_true, if_false]
      by_cases c1 : p.X < 0
      · simp [c1, same]
      · by_cases c2 : 64 ≤ p.X
        · simp [c1, c2, same]
        · by_cases c3 : p.Y < 0
          · simp [c1, c2, c3, same]
          · by_cases c4 : 64 ≤ p.Y
            · simp [c1, c2, c3, c4, same]
            · have t1 : Int.tmod dx 3 = dx % 3 := Int.tmod_eq_emod_of_nonneg hdx.1
              have t2 : Int.tmod dy 3 = dy % 3 := Int.tmod_eq_emod_of_nonneg hdy.1
              have v1 : IntKind.wrap .i64 (dx % 3) = dx % 3 := w64_id (by omega) (by omega)
              have v1' : IntKind.wrap .i64 (p.X + dx % 3) = p.X + dx % 3 := w64_id (by omega) (by omega)
              have v1'' : IntKind.wrap .i64 (p.X + dx % 3 - 1) = p.X + dx % 3 - 1 := w64_id (by omega) (by omega)
              have u1 : IntKind.wrap .i64 (IntKind.wrap .i64 (p.X + IntKind.wrap .i64 (Int.tmod dx 3)) - 1) = p.X + dx % 3 - 1 := by
                rw [t1, v1, v1', v1'']
              have v2 : IntKind.wrap .i64 (dy % 3) = dy % 3 := w64_id (by omega) (by omega)
              have v2' : IntKind.wrap .i64 (p.Y + dy % 3) = p.Y + dy % 3 := w64_id (by omega) (by omega)
              have v2'' : IntKind.wrap .i64 (p.Y + dy % 3 - 1) = p.Y + dy % 3 - 1 := w64_id (by omega) (by omega)
              have u2 : IntKind.wrap .i64 (IntKind.wrap .i64 (p.Y + IntKind.wrap .i64 (Int.tmod dy 3)) - 1) = p.Y + dy % 3 - 1 := by
                rw [t2, v2, v2', v2'']
              have := near_j a0 a1 p x y hx hy e0 e1 _ hk ⟨p.X + dx % 3 - 1, p.Y + dy % 3 - 1⟩ (fun hp hq hne => near_cells hp hq (by simp only; omega) (by simp only; omega) (by simp only; omega) (by simp only; omega) hne)
              simp only [c1, c2, c3, c4, decide_false, Bool.false_eq_true, if_false, u1, u2]
              exact this

theorem mod16 {a : Int} (h : (Lit.int .u8 a).wf = true) : ∃ x : Nat, x < 16 ∧ IntKind.wrap .i64 (Int.tmod a 16) = x := by
  have hb := bounds_u8 h
  refine ⟨(a % 16).toNat, by omega, ?_⟩
  rw [Int.tmod_eq_emod_of_nonneg hb.1, w64_id (by omega) (by omega)]; omega
theorem cellNeighbours_pure (a0 a1 : Int) (p : Point) (dx dy : Int) (w0 : (Lit.int .u8 a0).wf = true) (w1 : (Lit.int .u8 a1).wf = true) (_ : p.wf) (w3 : (Lit.int .u8 dx).wf = true) (w4 : (Lit.int .u8 dy).wf = true) : ∃ n, F9 n a0 a1 p dx dy = some true := by
  refine ⟨30, ?_⟩
  unfold F9
  obtain ⟨x, hx, e0⟩ := mod16 w0
  obtain ⟨y, hy, e1⟩ := mod16 w1
  have b3 := bounds_u8 w3
  have b4 := bounds_u8 w4
  have := near_l a0 a1 p dx dy (by omega) (by omega) x y hx hy e0 e1 38 0 (by omega) (by omega)
  simpa [cnt] using this

/-! ### counts -/

def hitG (x0 x1 y0 y1 : Nat) (c : Nat) : Bool := decide (x0 ≤ cx c) && (decide (cx c ≤ x1) && (decide (y0 ≤ cy c) && decide (cy c ≤ y1)))
theorem count_g : ∀ x0 x1 y0 y1 : Fin 4, x0 ≤ x1 → y0 ≤ y1 → ((List.range' 0 16).filter (hitG x0 x1 y0 y1)).length = (x1.val - x0.val + 1) * (y1.val - y0.val + 1) := by decide +kernel
theorem cov_sorted (r : Rect) : (cov r 0 16).Pairwise (· < ·) := by
  unfold cov
  rw [List.pairwise_map]
  refine List.Pairwise.filter _ ?_
  have := List.pairwise_lt_range' (s := 0) (n := 16) (step := 1)
  exact this.imp (fun h => by exact_mod_cast h)
theorem counts_l (a0 a1 a2 a3 : Int) (l : List Int) (hl : l.length ≤ 16) (hs : l.Pairwise (· < ·)) (T : Option Bool) (hend : ∀ m (i : Int), (l.length : Int) ≤ i → F10_l6 30 a0 a1 a2 a3 l (m + 1) i = T) : ∀ (m i : Nat), 1 ≤ i → l.length - i < m → F10_l6 30 a0 a1 a2 a3 l m (i : Int) = T
  | 0, i, _, h => by omega
  | m + 1, i, h1, h2 => by
    by_cases hi : i < l.length
    · unfold F10_l6
      have hd : decide ((i : Int) < (l.length : Int)) = true := by simp; omega
      have ew : IntKind.wrap .i64 ((i : Int) + 1) = ((i + 1 : Nat) : Int) := by rw [w64_id (by omega) (by omega)]; push_cast; rfl
      have ew2 : IntKind.wrap .i64 ((i : Int) - 1) = ((i - 1 : Nat) : Int) := by rw [w64_id (by omega) (by omega)]; omega
      have hlt : l[i - 1] < l[i] := List.pairwise_iff_getElem.1 hs (i - 1) i (by omega) hi (by omega)
      have hn : decide (l[i] ≤ l[i - 1]) = false := by simp; omega
      simp only [hd, if_true, ew, ew2, ix_get l (i - 1) (by omega), ix_get l i hi, Option.bind_some, hn, Bool.false_eq_true, if_false]
      exact counts_l a0 a1 a2 a3 l hl hs T hend m (i + 1) (by omega) (by omega)
    · exact hend m i (by omega)
theorem cellCounts_pure (x y w h : Int) (w0 : (Lit.int .u8 x).wf = true) (w1 : (Lit.int .u8 y).wf = true) (w2 : (Lit.int .u8 w).wf = true) (w3 : (Lit.int .u8 h).wf = true) : ∃ n, F10 n x y w h = some true := by
  refine ⟨30, ?_⟩
  have bx := bounds_u8 w0
  have hy := bounds_u8 w1
  have bw := bounds_u8 w2
  have bh := bounds_u8 w3
  have m1 : IntKind.wrap .i64 (Int.tmod x 64) = x % 64 := by rw [Int.tmod_eq_emod_of_nonneg bx.1, w64_id (by omega) (by omega)]
  have m2 : IntKind.wrap .i64 (Int.tmod y 64) = y % 64 := by rw [Int.tmod_eq_emod_of_nonneg hy.1, w64_id (by omega) (by omega)]
  have m3 : IntKind.wrap .i64 (Int.tmod w 64) = w % 64 := by rw [Int.tmod_eq_emod_of_nonneg bw.1, w64_id (by omega) (by omega)]
  have m4 : IntKind.wrap .i64 (Int.tmod h 64) = h % 64 := by rw [Int.tmod_eq_emod_of_nonneg bh.1, w64_id (by omega) (by omega)]
  obtain ⟨X, hX, hX0, hX1⟩ : ∃ X, x % 64 = X ∧ 0 ≤ X ∧ X < 64 := ⟨_, rfl, by omega, by omega⟩
  obtain ⟨Y, hY, hY0, hY1⟩ : ∃ Y, y % 64 = Y ∧ 0 ≤ Y ∧ Y < 64 := ⟨_, rfl, by omega, by omega⟩
  obtain ⟨W, hW, hW0, hW1⟩ : ∃ W, w % 64 = W ∧ 0 ≤ W ∧ W < 64 := ⟨_, rfl, by omega, by omega⟩
  obtain ⟨H, hH, hH0, hH1⟩ : ∃ H, h % 64 = H ∧ 0 ≤ H ∧ H < 64 := ⟨_, rfl, by omega, by omega⟩
  obtain ⟨E, hE, hE0, hE1⟩ : ∃ E, imin (X + W + 1) 64 = E ∧ X < E ∧ E ≤ 64 := ⟨_, rfl, by unfold imin; split <;> omega, by unfold imin; split <;> omega⟩
  obtain ⟨G, hG, hG0, hG1⟩ : ∃ G, imin (Y + H + 1) 64 = G ∧ Y < G ∧ G ≤ 64 := ⟨_, rfl, by unfold imin; split <;> omega, by unfold imin; split <;> omega⟩
  have s1 : IntKind.wrap .i64 (X + W) = X + W := w64_id (by omega) (by omega)
  have s2 : IntKind.wrap .i64 (X + W + 1) = X + W + 1 := w64_id (by omega) (by omega)
  have s3 : IntKind.wrap .i64 (Y + H) = Y + H := w64_id (by omega) (by omega)
  have s4 : IntKind.wrap .i64 (Y + H + 1) = Y + H + 1 := w64_id (by omega) (by omega)
  have hcount : ((cov ⟨X, Y, E, G⟩ 0 16).length : Int) = ((E - 1) / 16 - X / 16 + 1) * ((G - 1) / 16 - Y / 16 + 1) := by
    obtain ⟨x0, hx0⟩ := fin_of (c := X / 16) (by omega) (m := 4) (by omega)
    obtain ⟨x1, hx1⟩ := fin_of (c := (E - 1) / 16) (by omega) (m := 4) (by omega)
    obtain ⟨y0, hy0⟩ := fin_of (c := Y / 16) (by omega) (m := 4) (by omega)
    obtain ⟨y1, hy1⟩ := fin_of (c := (G - 1) / 16) (by omega) (m := 4) (by omega)
    have hx01 : x0.val ≤ x1.val := by omega
    have hy01 : y0.val ≤ y1.val := by omega
    have hcg := count_g x0 x1 y0 y1 hx01 hy01
    have hf : (List.range' 0 16).filter (hit ⟨X, Y, E, G⟩) = (List.range' 0 16).filter (hitG x0 x1 y0 y1) := by
      apply List.filter_congr
      intro c hc
      rw [Bool.eq_iff_iff]
      rw [hit_iff]
      simp only [hitG, Bool.and_eq_true, decide_eq_true_eq]
      omega
    simp only [cov, List.length_map, hf, hcg, hx0, hx1, hy0, hy1]
    push_cast
    rw [show ((x1.val - x0.val : Nat) : Int) = (x1.val : Int) - x0.val by omega, show ((y1.val - y0.val : Nat) : Int) = (y1.val : Int) - y0.val by omega]
  have hempty : cov ⟨X, 0, X, 64⟩ 0 16 = [] := by
    simp [cov, hit, emp]
  have hlen : (cov ⟨X, Y, E, G⟩ 0 16).length ≤ 16 := by
    have := List.length_filter_le (hit ⟨X, Y, E, G⟩) (List.range' 0 16)
    simpa [cov] using this
  unfold F10
  simp only [m1, m2, m3, m4, hX, hY, hW, hH, s1, s2, s3, s4, hE, hG, cover_eq, Option.bind_some, Bool.not_true, Bool.false_eq_true, if_false]
  refine counts_l x y w h (cov ⟨X, Y, E, G⟩ 0 16) hlen (cov_sorted _) (some true) (fun m i hi => ?_) 38 1 (by omega) (by omega)
  unfold F10_l6
  have hd : decide (i < ((cov ⟨X, Y, E, G⟩ 0 16).length : Int)) = false := by simp; omega
  have d1 : Int.tdiv (E - 1) 16 = (E - 1) / 16 := tdiv_pos _ 16 (by omega)
  have d2 : Int.tdiv X 16 = X / 16 := tdiv_pos _ 16 (by omega)
  have d3 : Int.tdiv (G - 1) 16 = (G - 1) / 16 := tdiv_pos _ 16 (by omega)
  have d4 : Int.tdiv Y 16 = Y / 16 := tdiv_pos _ 16 (by omega)
  have z1 : IntKind.wrap .i64 (E - 1) = E - 1 := w64_id (by omega) (by omega)
  have z2 : IntKind.wrap .i64 (G - 1) = G - 1 := w64_id (by omega) (by omega)
  have z3 : IntKind.wrap .i64 ((E - 1) / 16) = (E - 1) / 16 := w64_id (by omega) (by omega)
  have z4 : IntKind.wrap .i64 ((G - 1) / 16) = (G - 1) / 16 := w64_id (by omega) (by omega)
  have z5 : IntKind.wrap .i64 (X / 16) = X / 16 := w64_id (by omega) (by omega)
  have z6 : IntKind.wrap .i64 (Y / 16) = Y / 16 := w64_id (by omega) (by omega)
  have z7 : IntKind.wrap .i64 ((E - 1) / 16 - X / 16) = (E - 1) / 16 - X / 16 := w64_id (by omega) (by omega)
  have z8 : IntKind.wrap .i64 ((G - 1) / 16 - Y / 16) = (G - 1) / 16 - Y / 16 := w64_id (by omega) (by omega)
  have z9 : IntKind.wrap .i64 ((E - 1) / 16 - X / 16 + 1) = (E - 1) / 16 - X / 16 + 1 := w64_id (by omega) (by omega)
  have z10 : IntKind.wrap .i64 ((G - 1) / 16 - Y / 16 + 1) = (G - 1) / 16 - Y / 16 + 1 := w64_id (by omega) (by omega)
  have z11 : IntKind.wrap .i64 (((E - 1) / 16 - X / 16 + 1) * ((G - 1) / 16 - Y / 16 + 1)) = ((E - 1) / 16 - X / 16 + 1) * ((G - 1) / 16 - Y / 16 + 1) := by
    rw [← hcount]; exact w64_id (by omega) (by omega)
  simp only [hd, Bool.false_eq_true, if_false]
  simp only [m1, m2, m3, m4, hX, hY, hW, hH, s1, s2, s3, s4, hE, hG, z1, z2, d1, d2, d3, d4, z3, z4, z5, z6, z7, z8, z9, z10, z11, hd, Bool.false_eq_true, if_false, hcount, beq_self_eq_true, if_true, cover_eq, Option.bind_some, hempty]
  rfl
end Go.Proofs.Ytajfdeeepklfoaa
