/-
  The document's grid: what its functions compute, in plain Lean. No condition.
-/
import Derived.Test.YtajfdeeepklfoaaCellTellsQc
import Derived.Test.YtajfdeeepklfoaaCellTellsP0
namespace Go.Proofs.Ytajfdeeepklfoaa
open Go Go.Rx
set_option maxRecDepth 100000
set_option linter.unusedSimpArgs false
set_option linter.unusedVariables false

theorem rrect_in : ∀ k : Fin 16, F28 30 (k.val : Int) = some (cellRect k, true) := by decide +kernel
theorem rweave_in : ∀ x y : Fin 4, F55 30 (x.val : Int) (y.val : Int) = some ((cellOf x y : Nat) : Int) := by decide +kernel
theorem rbeside_in : ∀ a b : Fin 16, F34 30 (a.val : Int) (b.val : Int) = some (decide (a ≠ b) && (decide (cx a ≤ cx b + 1) && decide (cx b ≤ cx a + 1) && (decide (cy a ≤ cy b + 1) && decide (cy b ≤ cy a + 1)))) := by decide +kernel
theorem ris_eq (n : Nat) (c : Int) : F32 n c = some (decide (0 ≤ c) && decide (c < 16)) := by
  unfold F32
  by_cases h : 0 ≤ c <;> simp [h]
theorem rrect_eq (c : Int) : F28 30 c = some (if 0 ≤ c ∧ c < 16 then (cellRect c.toNat, true) else (⟨0, 0, 0, 0⟩, false)) := by
  by_cases h : 0 ≤ c ∧ c < 16
  · obtain ⟨k, rfl⟩ := fin_of h.1 (m := 16) h.2
    rw [rrect_in, if_pos h]; simp
  · rw [if_neg h]
    unfold F28
    rw [ris_eq]
    have : (decide (0 ≤ c) && decide (c < 16)) = false := by simp; omega
    simp [this]
theorem ron_eq (n : Nat) (p : Point) : F54 n p = some (onB p) := by
  unfold F54 onB
  by_cases h1 : 0 ≤ p.X <;> by_cases h2 : p.X < 64 <;> by_cases h3 : 0 ≤ p.Y <;> simp [h1, h2, h3]
theorem u16_id {n : Int} (h : 0 ≤ n) (h' : n < 65536) : IntKind.wrap .u16 n = n := by
  simp [IntKind.wrap, IntKind.bits, IntKind.signed]; omega
theorem rof_eq (p : Point) : F26 30 p = some (if onB p then ((cellAt p : Nat) : Int) else 0, if onB p then 0 else 14) := by
  unfold F26
  rw [ron_eq]
  by_cases h : onB p = true
  · obtain ⟨h1, h2, h3, h4⟩ := (on_iff p).1 h
    simp only [h, Option.bind_some, Bool.not_true, Bool.false_eq_true, if_false, if_true]
    have e1 : Int.tdiv p.X 16 = p.X / 16 := tdiv_pos p.X 16 h1
    have e2 : Int.tdiv p.Y 16 = p.Y / 16 := tdiv_pos p.Y 16 h3
    rw [e1, e2, w64_id (by omega) (by omega), w64_id (by omega) (by omega), u16_id (by omega) (by omega), u16_id (by omega) (by omega)]
    obtain ⟨x, hx⟩ := fin_of (c := p.X / 16) (by omega) (m := 4) (by omega)
    obtain ⟨y, hy⟩ := fin_of (c := p.Y / 16) (by omega) (m := 4) (by omega)
    have hb : cellOf x y < 16 := by unfold cellOf; omega
    rw [hx, hy, rweave_in]
    have hc : cellAt p = cellOf x y := by simp [cellAt, hx, hy]
    rw [hc]
    simp only [Option.bind_some]
    rw [w64_id (by omega) (by omega)]
  · have h' : onB p = false := by simpa using h
    simp [h']
theorem rempty_eq (n : Nat) (r : Rect) : F59 n r = some (emp r) := by
  unfold F59 emp
  by_cases h : r.X1 ≤ r.X0 <;> simp [h]
theorem imax_sp (a b : Int) : a ≤ imax a b ∧ b ≤ imax a b ∧ (imax a b = a ∨ imax a b = b) := by unfold imax; split <;> omega
theorem imin_sp (a b : Int) : imin a b ≤ a ∧ imin a b ≤ b ∧ (imin a b = a ∨ imin a b = b) := by unfold imin; split <;> omega
theorem rmeet_emp (n : Nat) (c : Nat) (r : Rect) : ∃ q, F60 n (cellRect c) r = some q ∧ emp q = !hit r c := by
  unfold F60
  rw [rempty_eq]
  simp only [Option.bind_some]
  have key : emp ⟨imax (cellRect c).X0 r.X0, imax (cellRect c).Y0 r.Y0, imin (cellRect c).X1 r.X1, imin (cellRect c).Y1 r.Y1⟩ = !hit r c := by
    have a1 := imax_sp (cellRect c).X0 r.X0
    have a2 := imax_sp (cellRect c).Y0 r.Y0
    have a3 := imin_sp (cellRect c).X1 r.X1
    have a4 := imin_sp (cellRect c).Y1 r.Y1
    have b1 : (cellRect c).X0 < (cellRect c).X1 := by simp only [cellRect]; omega
    have b2 : (cellRect c).Y0 < (cellRect c).Y1 := by simp only [cellRect]; omega
    rw [Bool.eq_iff_iff]
    simp only [emp, hit, Bool.or_eq_true, decide_eq_true_eq, Bool.not_eq_true', Bool.and_eq_false_iff, Bool.not_eq_false', decide_eq_false_iff_not]
    generalize imax (cellRect c).X0 r.X0 = m1 at *
    generalize imax (cellRect c).Y0 r.Y0 = m2 at *
    generalize imin (cellRect c).X1 r.X1 = m3 at *
    generalize imin (cellRect c).Y1 r.Y1 = m4 at *
    omega
  cases hk : emp ⟨imax (cellRect c).X0 r.X0, imax (cellRect c).Y0 r.Y0, imin (cellRect c).X1 r.X1, imin (cellRect c).Y1 r.Y1⟩ with
  | true => exact ⟨⟨0, 0, 0, 0⟩, rfl, by rw [← key, hk]; rfl⟩
  | false => exact ⟨_, rfl, key⟩
theorem rcover_l (r : Rect) : ∀ (m i : Nat) (l : List Int), i ≤ 16 → 16 - i < m → l.length ≤ i → F30_l10 30 r m l (i : Int) = some (l ++ cov r i (16 - i))
  | 0, i, l, _, h, _ => by omega
  | m + 1, i, l, h16, hm, hl => by
    unfold F30_l10
    by_cases hi : i < 16
    · have hd : decide ((i : Int) < 16) = true := by simp; omega
      have ew : IntKind.wrap .i64 ((i : Int) + 1) = ((i + 1 : Nat) : Int) := by rw [w64_id (by omega) (by omega)]; push_cast; rfl
      have hrec := fun l' hl' => rcover_l r m (i + 1) l' (by omega) (by omega) hl'
      have hR := rrect_in ⟨i, hi⟩
      simp only at hR
      have e16 : 16 - i = (16 - (i + 1)) + 1 := by omega
      rw [e16, cov_succ]
      obtain ⟨q, hq1, hq2⟩ := rmeet_emp 30 i r
      simp only [hd, if_true, hR, Option.bind_some, hq1, rempty_eq, hq2, ew, Bool.not_not]
      have hcap : (l.length + 1) * 8 ≤ maxCells ∧ l.length + 1 ≤ maxCells := by simp only [maxCells]; omega
      cases hit r i with
      | true =>
        simp only [if_true]
        rw [if_pos hcap, hrec _ (by simp; omega)]
        simp
      | false =>
        simp only [Bool.false_eq_true, if_false]
        rw [hrec l (by omega)]
        simp
    · have hi' : i = 16 := by omega
      subst hi'
      simp [cov_zero]
theorem rcover_eq (r : Rect) : F30 30 r = some (cov r 0 16) := by
  unfold F30
  have := rcover_l r 38 0 [] (by omega) (by omega) (by simp)
  simpa using this
theorem beside_same (a b : Int) : F33 30 a b = F34 30 a b ∧ (F33 30 a b).isSome = true := by
  by_cases ha : 0 ≤ a ∧ a < 16
  · by_cases hb : 0 ≤ b ∧ b < 16
    · obtain ⟨x, rfl⟩ := fin_of ha.1 (m := 16) ha.2
      obtain ⟨y, rfl⟩ := fin_of hb.1 (m := 16) hb.2
      rw [beside_in, rbeside_in]; exact ⟨rfl, rfl⟩
    · have h1 : (decide (0 ≤ a) && decide (a < 16)) = true := by simp; omega
      have h2 : (decide (0 ≤ b) && decide (b < 16)) = false := by simp; omega
      unfold F33 F34
      simp [is_eq, ris_eq, h1, h2]
  · have h1 : (decide (0 ≤ a) && decide (a < 16)) = false := by simp; omega
    unfold F33 F34
    simp [is_eq, ris_eq, h1]
theorem cov_len (r : Rect) : (cov r 0 16).length ≤ 16 := by
  have := List.length_filter_le (hit r) (List.range' 0 16)
  simpa [cov] using this
theorem ix_get {α : Type} (l : List α) (i : Nat) (h : i < l.length) : ix l (i : Int) = some l[i] := by
  unfold ix; rw [if_neg (by omega)]; simp [h]

theorem tells_l (a b : Int) (r2 : Int × Int) (r4 : Rect × Bool) (l : List Int) (hl : l.length ≤ 16) : ∀ (m i : Nat), i ≤ l.length → l.length - i < m → F7_l11 30 a b r2 r2 r4 r4 l l m (i : Int) = some true
  | 0, i, _, h => by omega
  | m + 1, i, h1, h2 => by
    unfold F7_l11
    by_cases hi : i < l.length
    · have hd : decide ((i : Int) < (l.length : Int)) = true := by simp; omega
      have ew : IntKind.wrap .i64 ((i : Int) + 1) = ((i + 1 : Nat) : Int) := by rw [w64_id (by omega) (by omega)]; push_cast; rfl
      simp only [hd, if_true, ix_get l i hi, Option.bind_some, bne_self_eq_false, Bool.false_eq_true, if_false, ew]
      exact tells_l a b r2 r4 l hl m (i + 1) (by omega) (by omega)
    · have hd : decide ((i : Int) < (l.length : Int)) = false := by simp; omega
      obtain ⟨e, hs⟩ := beside_same a b
      obtain ⟨v, hv⟩ := Option.isSome_iff_exists.1 hs
      have hr : Rect.eqb r4.1 r4.1 = true := by simp [Rect.eqb]
      simp [hd, hr, is_eq, ris_eq, ← e, hv]
      exact fun h => absurd h hi
theorem cellTells_pure (p : Point) (r : Rect) (a b : Int) : ∃ n, F7 n p r a b = some true := by
  refine ⟨30, ?_⟩
  unfold F7
  have := tells_l a b ((if onB p then ((cellAt p : Nat) : Int) else 0), (if onB p then (0 : Int) else 14)) (if 0 ≤ a ∧ a < 16 then (cellRect a.toNat, true) else (⟨0, 0, 0, 0⟩, false)) (cov r 0 16) (cov_len r) 38 0 (by omega) (by have := cov_len r; omega)
  simp only [of_eq, rof_eq, rect_eq, rrect_eq, cover_eq, rcover_eq, Option.bind_some, Bool.not_true, Bool.false_eq_true, if_false, bne_self_eq_false]
  exact this
end Go.Proofs.Ytajfdeeepklfoaa
