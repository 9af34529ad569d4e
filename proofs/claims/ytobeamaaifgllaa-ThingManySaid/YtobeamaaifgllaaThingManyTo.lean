/-
  Things are read as they were written; ThingRows. No condition.
-/
import Derived.Test.YtobeamaaifgllaaThingManyTh
import Derived.Test.YtobeamaaifgllaaThingManyTj
import Derived.Test.YtobeamaaifgllaaThingManyP1
namespace Go.Proofs.Ytobeamaaifgllaa
open Go Go.Rx
set_option maxRecDepth 100000
set_option linter.unusedSimpArgs false
set_option linter.unnecessarySimpa false
set_option linter.unusedVariables false

theorem i64_in {x : Int} (h : (Lit.int .i64 x).wf = true) : -9223372036854775808 ≤ x ∧ x < 9223372036854775808 := by
  have := bounds_i64 h; omega
theorem wf_N {t : Thing} (h : t.wf) : (-9223372036854775808 ≤ t.F.a0.N ∧ t.F.a0.N < 9223372036854775808) ∧ (-9223372036854775808 ≤ t.F.a1.N ∧ t.F.a1.N < 9223372036854775808) ∧ (-9223372036854775808 ≤ t.F.a2.N ∧ t.F.a2.N < 9223372036854775808) ∧ (-9223372036854775808 ≤ t.F.a3.N ∧ t.F.a3.N < 9223372036854775808) := by
  obtain ⟨_, _, h0, h1, h2, h3⟩ := h
  exact ⟨i64_in h0.1, i64_in h1.1, i64_in h2.1, i64_in h3.1⟩
theorem full_fld {t : Thing} (h : isTh t = true) (hw : t.wf) : Fld (full t) := by
  obtain ⟨n0, n1, n2, n3⟩ := wf_N hw
  exact ⟨by show (0 : Int) ≤ 31; decide, by rw [full_is]; exact h, n0, n1, n2, n3⟩
theorem read_tb {n : Nat} (hn : 10 ≤ n) {t : Thing} (h : isTh t = true) (hw : t.wf) (r : ByteArray) (hr : r.size ≤ 90000) : F30 n (tb t ++ r) = some (t, ((tb t).size : Int), 0) := by
  unfold F30 tb
  rw [read_back n hn (full t) (full_fld h hw) r hr]
  rfl

/-- The bytes of things, one behind the other. -/
def catB : List Thing → ByteArray
  | [] => ByteArray.empty
  | t :: l => tb t ++ catB l
theorem catB_app (a b : List Thing) : catB (a ++ b) = catB a ++ catB b := by
  induction a with
  | nil => simp [catB, ba_nil]
  | cons t a ih => simp only [List.cons_append, catB, ih, ba_assoc]
theorem catB_size (l : List Thing) (h : ∀ t ∈ l, isTh t = true) : (catB l).size ≤ 280 * l.length := by
  induction l with
  | nil => exact Nat.le_refl _
  | cons t l ih =>
    have := ih (fun x hx => h x (List.mem_cons_of_mem _ hx))
    have := tb_size (h t List.mem_cons_self)
    simp only [catB, ba_size, List.length_cons]; omega

theorem rows_back {n : Nat} (hn : 10 ≤ n) (L : List Thing) (hL : L.length ≤ 100) (hT : ∀ t ∈ L, isTh t = true) (hW : ∀ t ∈ L, t.wf) : ∀ (m i : Nat) (A : ByteArray), i ≤ L.length → L.length - i < m → A.size + 280 * (L.length - i) ≤ 50000 →
    F7_l24 n (A ++ catB (L.drop i)) L m (A.size : Int) (i : Int) = some true
  | 0, i, A, _, h, _ => by omega
  | m + 1, i, A, hi, hm, hA => by
    unfold F7_l24
    have hx : maxLen = 9223372036854775807 := rfl
    by_cases hlt : i < L.length
    · have hmem : L[i] ∈ L := List.getElem_mem hlt
      have hd := dropS L i hlt
      have zr : (catB (L.drop (i + 1))).size ≤ 280 * (L.length - (i + 1)) := by
        have := catB_size (L.drop (i + 1)) (fun t ht => hT t (List.mem_of_mem_drop ht))
        simpa using this
      have zt := tb_size (hT _ hmem)
      have hr := read_tb hn (hT _ hmem) (hW _ hmem) (catB (L.drop (i + 1))) (by omega)
      have hc : 0 ≤ (A.size : Int) ∧ (A.size : Int) ≤ ((A ++ catB (L.drop i)).size : Int) := by rw [ba_size]; omega
      have et : ((A.size : Int)).toNat = A.size := rfl
      rw [if_pos (lt_dec hlt), if_pos hc, et, ext_app, hd]
      have same : F25 n L[i] L[i] = some true := by unfold F25; rw [Thing.eqb_refl]
      have e00 : ((0 : Int) != 0) = false := rfl
      simp only [catB, hr, Option.bind_some, e00, Bool.false_eq_true, if_false, ixg L i hlt, same, Bool.not_true]
      have ih := rows_back hn L hL hT hW m (i + 1) (A ++ tb L[i]) (by omega) (by omega) (by rw [ba_size]; omega)
      have w : IntKind.wrap .i64 ((A.size : Int) + ((tb L[i]).size : Int)) = ((A ++ tb L[i]).size : Int) := by
        rw [ba_size, w64 (by omega) (by omega)]; push_cast; rfl
      rw [w, dsucc (by omega), ← ba_assoc]
      exact ih
    · have : i = L.length := by omega
      subst this
      rw [if_neg (by rw [ge_dec (by omega)]; decide), List.drop_length]
      simp [catB, ba_nil_r]

theorem rows_on {n : Nat} (hn : 100 ≤ n) (l : List Thing) (hl : l.length ≤ 30) (hW : ∀ t ∈ l, t.wf) : ∀ (m i : Nat) (s : ByteArray) (L : List Thing), i ≤ l.length → l.length - i < m → s = catB L → (∀ t ∈ L, isTh t = true) → (∀ t ∈ L, t.wf) → L.length ≤ i →
    F7_l12 n l m s L (i : Int) = some true
  | 0, i, s, L, _, h, _, _, _, _ => by omega
  | m + 1, i, s, L, hi, hm, hs, hT, hw, hLi => by
    unfold F7_l12
    have hx : maxLen = 9223372036854775807 := rfl
    by_cases hlt : i < l.length
    · have hmem : l[i] ∈ l := List.getElem_mem hlt
      have z := catB_size L hT
      rw [if_pos (lt_dec hlt), ixg l i hlt]
      simp only [Option.bind_some, tbytes_eq (by omega : 10 ≤ n), is_eq]
      cases h : isTh l[i] with
      | false =>
        have e : ((11 : Int) == 0) = false := rfl
        simp only [Bool.false_eq_true, if_false, e, beq_self_eq_true, Bool.not_true]
        rw [dsucc (by omega)]
        exact rows_on hn l hl hW m (i + 1) s L (by omega) (by omega) hs hT hw (by omega)
      | true =>
        have zt := tb_size h
        have e : ((0 : Int) == 0) = true := rfl
        have hcell : ((L.length) + 1) * 120 ≤ maxCells ∧ (L.length) + 1 ≤ maxCells := by simp only [maxCells]; omega
        simp only [if_true, e, beq_self_eq_true, Bool.not_true, Bool.false_eq_true, if_false]
        rw [if_pos (by rw [hs]; omega), if_pos hcell, dsucc (by omega)]
        refine rows_on hn l hl hW m (i + 1) (s ++ tb l[i]) (L ++ [l[i]]) (by omega) (by omega) ?_ ?_ ?_ (by simp; omega)
        · rw [hs, catB_app]
          simp only [catB, ba_nil_r]
        · intro t ht
          rcases List.mem_append.1 ht with ht | ht
          · exact hT t ht
          · rw [List.mem_singleton.1 ht]; exact h
        · intro t ht
          rcases List.mem_append.1 ht with ht | ht
          · exact hw t ht
          · rw [List.mem_singleton.1 ht]; exact hW _ hmem
    · rw [if_neg (by rw [ge_dec hlt]; decide), hs]
      have := rows_back (n := n) (by omega) L (by omega) hT hw (n + 8) 0 ByteArray.empty (by omega) (by omega) (by show 0 + _ ≤ _; omega)
      rw [ba_nil] at this
      exact this
theorem thingRows_pure (a0 : List Thing) (h0 : (∀ x ∈ a0, Thing.wf x) ∧ a0.length ≤ maxLen) : ∃ n, F7 n a0 = some true := by
  refine ⟨a0.length + 1000, ?_⟩
  unfold F7
  simp only [Option.bind_some, Bool.not_true, Bool.false_eq_true, if_false, fews_eq a0 h0.2 (by omega : a0.length ≤ a0.length + 1000)]
  cases h : few a0 with
  | false => rfl
  | true =>
    simp only [Bool.not_true, Bool.false_eq_true, if_false]
    have hl : a0.length ≤ 30 := by
      unfold few at h
      simp only [Bool.and_eq_true, decide_eq_true_eq] at h
      omega
    exact rows_on (by omega) a0 hl h0.1 (a0.length + 1000 + 8) 0 ByteArray.empty [] (by omega) (by omega) rfl (fun t ht => by simp at ht) (fun t ht => by simp at ht) (by simp)
end Go.Proofs.Ytobeamaaifgllaa
