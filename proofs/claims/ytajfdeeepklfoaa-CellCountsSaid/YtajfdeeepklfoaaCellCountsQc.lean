/-
  The grid: what its functions compute, in plain Lean. No condition.
-/
import Derived.Test.YtajfdeeepklfoaaCellCountsP0
namespace Go.Proofs.Ytajfdeeepklfoaa
open Go Go.Rx
set_option maxRecDepth 100000
set_option linter.unusedSimpArgs false
set_option linter.unusedVariables false

theorem w64_id {n : Int} (h : -9223372036854775808 ≤ n) (h' : n ≤ 9223372036854775807) : IntKind.wrap .i64 n = n := by
  simp [IntKind.wrap, IntKind.bits, IntKind.signed]; omega
theorem tdiv_pos (a : Int) (b : Nat) (h : 0 ≤ a) : Int.tdiv a b = a / b := Int.tdiv_eq_ediv_of_nonneg h

def cx (c : Nat) : Nat := c % 2 + 2 * (c / 4 % 2)
def cy (c : Nat) : Nat := c / 2 % 2 + 2 * (c / 8 % 2)
def cellOf (x y : Nat) : Nat := x % 2 + 2 * (y % 2) + 4 * (x / 2) + 8 * (y / 2)
def cellRect (c : Nat) : Rect := ⟨16 * (cx c : Int), 16 * (cy c : Int), 16 * (cx c : Int) + 16, 16 * (cy c : Int) + 16⟩

theorem rect_in : ∀ k : Fin 16, F27 30 (k.val : Int) = some (cellRect k, true) := by decide +kernel
theorem place_in : ∀ k : Fin 16, F56 30 (k.val : Int) = some ((cx k : Int), (cy k : Int)) := by decide +kernel
theorem at_in : ∀ x y : Fin 4, F53 30 (x.val : Int) (y.val : Int) = some ((cellOf x y : Nat) : Int) := by decide +kernel
theorem beside_in : ∀ a b : Fin 16, F33 30 (a.val : Int) (b.val : Int) = some (decide (a ≠ b) && (decide (cx a ≤ cx b + 1) && decide (cx b ≤ cx a + 1) && (decide (cy a ≤ cy b + 1) && decide (cy b ≤ cy a + 1)))) := by decide +kernel

theorem is_eq (n : Nat) (c : Int) : F31 n c = some (decide (0 ≤ c) && decide (c < 16)) := by
  unfold F31
  by_cases h : 0 ≤ c <;> simp [h]

theorem fin_of {c : Int} (h : 0 ≤ c) {m : Nat} (h' : c < m) : ∃ k : Fin m, c = (k.val : Int) := ⟨⟨c.toNat, by omega⟩, by simp; omega⟩

theorem rect_eq (c : Int) : F27 30 c = some (if 0 ≤ c ∧ c < 16 then (cellRect c.toNat, true) else (⟨0, 0, 0, 0⟩, false)) := by
  by_cases h : 0 ≤ c ∧ c < 16
  · obtain ⟨k, rfl⟩ := fin_of h.1 (m := 16) h.2
    rw [rect_in, if_pos h]; simp
  · rw [if_neg h]
    unfold F27
    rw [is_eq]
    have : (decide (0 ≤ c) && decide (c < 16)) = false := by simp; omega
    simp [this]

def onB (p : Point) : Bool := decide (0 ≤ p.X) && (decide (p.X < 64) && (decide (0 ≤ p.Y) && decide (p.Y < 64)))
theorem on_eq (n : Nat) (p : Point) : F52 n p = some (onB p) := by
  unfold F52 onB
  by_cases h1 : 0 ≤ p.X <;> by_cases h2 : p.X < 64 <;> by_cases h3 : 0 ≤ p.Y <;> simp [h1, h2, h3]
def cellAt (p : Point) : Nat := cellOf (p.X / 16).toNat (p.Y / 16).toNat
theorem on_iff (p : Point) : onB p = true ↔ 0 ≤ p.X ∧ p.X < 64 ∧ 0 ≤ p.Y ∧ p.Y < 64 := by simp [onB]

theorem of_eq (p : Point) : F25 30 p = some (if onB p then ((cellAt p : Nat) : Int) else 0, if onB p then 0 else 14) := by
  unfold F25
  rw [on_eq]
  by_cases h : onB p = true
  · obtain ⟨h1, h2, h3, h4⟩ := (on_iff p).1 h
    simp only [h, Option.bind_some, Bool.not_true, Bool.false_eq_true, if_false, if_true]
    have e1 : Int.tdiv p.X 16 = p.X / 16 := tdiv_pos p.X 16 h1
    have e2 : Int.tdiv p.Y 16 = p.Y / 16 := tdiv_pos p.Y 16 h3
    rw [e1, e2, w64_id (by omega) (by omega), w64_id (by omega) (by omega)]
    obtain ⟨x, hx⟩ := fin_of (c := p.X / 16) (by omega) (m := 4) (by omega)
    obtain ⟨y, hy⟩ := fin_of (c := p.Y / 16) (by omega) (m := 4) (by omega)
    rw [hx, hy, at_in]
    simp [cellAt, hx, hy]
  · have h' : onB p = false := by simpa using h
    simp [h']

def emp (r : Rect) : Bool := decide (r.X1 ≤ r.X0) || decide (r.Y1 ≤ r.Y0)
theorem empty_eq (n : Nat) (r : Rect) : F58 n r = some (emp r) := by
  unfold F58 emp
  by_cases h : r.X1 ≤ r.X0 <;> simp [h]

/-- Has the cell a point of the rectangle? -/
def hit (r : Rect) (c : Nat) : Bool := !emp r && (decide ((cellRect c).X0 < r.X1) && (decide (r.X0 < (cellRect c).X1) && (decide ((cellRect c).Y0 < r.Y1) && decide (r.Y0 < (cellRect c).Y1))))

def cov (r : Rect) (i k : Nat) : List Int := ((List.range' i k).filter (hit r)).map fun (c : Nat) => (c : Int)

theorem cov_zero (r : Rect) (i : Nat) : cov r i 0 = [] := rfl
theorem cov_succ (r : Rect) (i k : Nat) : cov r i (k + 1) = (if hit r i then [(i : Int)] else []) ++ cov r (i + 1) k := by
  simp only [cov, List.range'_succ, List.filter_cons]
  split <;> simp

theorem cover_l (r : Rect) : ∀ (m i : Nat) (l : List Int), i ≤ 16 → 16 - i < m → l.length ≤ i → F29_l10 30 r m l (i : Int) = some (l ++ cov r i (16 - i))
  | 0, i, l, _, h, _ => by omega
  | m + 1, i, l, h16, hm, hl => by
    unfold F29_l10
    by_cases hi : i < 16
    · have hd : decide ((i : Int) < 16) = true := by simp; omega
      have ew : IntKind.wrap .i64 ((i : Int) + 1) = ((i + 1 : Nat) : Int) := by rw [w64_id (by omega) (by omega)]; push_cast; rfl
      have hrec := fun l' hl' => cover_l r m (i + 1) l' (by omega) (by omega) hl'
      have hR := rect_in ⟨i, hi⟩
      simp only at hR
      have e16 : 16 - i = (16 - (i + 1)) + 1 := by omega
      rw [e16, cov_succ]
      simp only [hd, if_true, hR, Option.bind_some, empty_eq, ew]
      have hno := hrec l (by omega)
      have hcap : (l.length + 1) * 8 ≤ maxCells ∧ l.length + 1 ≤ maxCells := by simp only [maxCells]; omega
      by_cases he : emp r = true
      · have hh : hit r i = false := by simp [hit, he]
        rw [hh]
        simp only [he, if_true, hno, Bool.false_eq_true, if_false, List.nil_append]
        split <;> rfl
      · have he' : emp r = false := by simpa using he
        simp only [he', Bool.false_eq_true, if_false, hno]
        by_cases c1 : r.X1 ≤ (cellRect i).X0
        · have hh : hit r i = false := by simp [hit, he']; omega
          simp [c1, hh]
        · by_cases c2 : (cellRect i).X1 ≤ r.X0
          · have hh : hit r i = false := by simp [hit, he']; omega
            simp [c1, c2, hh]
          · by_cases c3 : r.Y1 ≤ (cellRect i).Y0
            · have hh : hit r i = false := by simp [hit, he']; omega
              simp [c1, c2, c3, hh]
            · by_cases c4 : (cellRect i).Y1 ≤ r.Y0
              · have hh : hit r i = false := by simp [hit, he']; omega
                simp [c1, c2, c3, c4, hh]
              · have hh : hit r i = true := by simp [hit, he']; omega
                have hy := hrec (l ++ [(i : Int)]) (by simp; omega)
                rw [if_pos hcap, hy]
                simp [c1, c2, c3, c4, hh]
    · have hi' : i = 16 := by omega
      subst hi'
      simp [cov_zero]

theorem cover_eq (r : Rect) : F29 30 r = some (cov r 0 16) := by
  unfold F29
  have := cover_l r 38 0 [] (by omega) (by omega) (by simp)
  simpa using this

end Go.Proofs.Ytajfdeeepklfoaa
