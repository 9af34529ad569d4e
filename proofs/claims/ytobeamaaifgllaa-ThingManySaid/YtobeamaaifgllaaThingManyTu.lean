/-
  ThingMany, in plain Lean. No condition.
-/
import Derived.Test.YtobeamaaifgllaaThingManyTs
import Derived.Test.YtobeamaaifgllaaThingManyP1
namespace Go.Proofs.Ytobeamaaifgllaa
open Go Go.Rx
set_option maxRecDepth 100000
set_option linter.unusedSimpArgs false
set_option linter.unnecessarySimpa false
set_option linter.unusedVariables false

def nth (i : Nat) : Thing := ⟨2 * (i : Int), ⟨((i % 64 : Nat) : Int), 0⟩, ⟨noF, noF, noF, noF⟩⟩
def lst (a k : Nat) : List Thing := (List.range' a k).map nth
theorem lst_len (a k : Nat) : (lst a k).length = k := by simp [lst]
theorem lst_app (k : Nat) : lst 0 k ++ [nth k] = lst 0 (k + 1) := by
  simp [lst, List.range'_concat]
theorem lst_at (k i : Nat) (h : i < k) : (lst 0 k)[i]? = some (nth i) := by
  simp [lst, h]
theorem nth_is : ∀ i : Fin 201, isTh (nth i.val) = true := by decide +kernel
theorem lst_is {k : Nat} (hk : k ≤ 200) : ∀ t ∈ lst 0 k, isTh t = true := by
  intro t ht
  simp only [lst, List.mem_map, List.mem_range'_1] at ht
  obtain ⟨i, hi, rfl⟩ := ht
  exact nth_is ⟨i, by omega⟩
theorem nth_wf : ∀ i : Fin 201, (nth i.val).wf := by
  intro i
  have hi := i.isLt
  have w : ∀ x : Int, 0 ≤ x → x ≤ 1000 → (Lit.int .i64 x).wf = true := by
    intro x h0 h1
    simp [Lit.wf, IntKind.min, IntKind.max, IntKind.bits, IntKind.signed]; omega
  have wz : Field.wf noF := ⟨w 0 (by omega) (by omega), Nat.zero_le _⟩
  refine ⟨w _ (by simp only [nth]; omega) (by simp only [nth]; omega), ⟨w _ (by simp only [nth]; omega) (by simp only [nth]; omega), w _ (by simp only [nth]; omega) (by simp only [nth]; omega)⟩, wz, wz, wz, wz⟩
theorem lst_wf {k : Nat} (hk : k ≤ 200) : ∀ t ∈ lst 0 k, t.wf := by
  intro t ht
  simp only [lst, List.mem_map, List.mem_range'_1] at ht
  obtain ⟨i, hi, rfl⟩ := ht
  exact nth_wf ⟨i, by omega⟩
theorem lst_ris : ∀ (k a : Nat) (p : Option Int), (∀ q, p = some q → q < 2 * (a : Int)) → risP p (lst a k)
  | 0, a, p, _ => trivial
  | k + 1, a, p, hp => by
    have : lst a (k + 1) = nth a :: lst (a + 1) k := rfl
    rw [this]
    refine ⟨hp, lst_ris k (a + 1) _ (fun q hq => ?_)⟩
    cases hq
    simp only [nth]; omega
theorem allR_good : ∀ (l : List Thing) (p : Option Int) (s : ByteArray), (∀ t ∈ l, isTh t = true) → risP p l → allR p l s = (s ++ catB l, 0)
  | [], p, s, _, _ => by simp [allR, catB, ba_nil_r]
  | t :: l, p, s, hT, hr => by
    obtain ⟨h1, h2⟩ := hr
    have ih := allR_good l (some t.ID) (s ++ tb t) (fun x hx => hT x (List.mem_cons_of_mem _ hx)) h2
    unfold allR
    rw [hT t List.mem_cons_self]
    simp only [Bool.true_eq_false, if_false]
    rw [catB, ← ba_assoc, ← ih]
    cases p with
    | none => rfl
    | some q =>
      have := h1 q rfl
      simp only
      rw [if_neg (by omega)]
theorem risP_at : ∀ (l : List Thing) (p : Option Int) (i : Nat) (x y : Thing), risP p l → l[i]? = some x → l[i + 1]? = some y → x.ID < y.ID
  | [], _, i, x, y, _, hx, _ => by simp at hx
  | [t], _, 0, x, y, _, _, hy => by simp at hy
  | t :: u :: l, p, 0, x, y, h, hx, hy => by
    simp only [List.getElem?_cons_zero, List.getElem?_cons_succ, Option.some.injEq] at hx hy
    subst hx; subst hy
    exact h.2.1 _ rfl
  | t :: l, p, i + 1, x, y, h, hx, hy => risP_at l (some t.ID) i x y h.2 (by simpa using hx) (by simpa using hy)

theorem many_on {n : Nat} (hn : 400 ≤ n) (a0 a1 : Int) (k : Nat) (h1 : 199 ≤ k) (h2 : k ≤ 201) (hk : IntKind.wrap .i64 (199 + IntKind.wrap .i64 (Int.tmod a0 3)) = (k : Int)) (b0 : 0 ≤ a1) (b1 : a1 ≤ 255) : ∀ (m i : Nat), i ≤ k → k - i < m →
    F8_l8 n a0 a1 m (lst 0 i) (i : Int) = some true
  | 0, i, _, h => by omega
  | m + 1, i, hi, hm => by
    unfold F8_l8
    rw [hk]
    by_cases hlt : i < k
    · have hcell : ((lst 0 i).length + 1) * 120 ≤ maxCells ∧ (lst 0 i).length + 1 ≤ maxCells := by rw [lst_len]; simp only [maxCells]; omega
      have w2 : IntKind.wrap .i64 (2 * (i : Int)) = 2 * (i : Int) := w64 (by omega) (by omega)
      have w3 : IntKind.wrap .i64 ((i : Int) + 1) = ((i + 1 : Nat) : Int) := by rw [w64 (by omega) (by omega)]; push_cast; rfl
      have e3 : Int.tmod (i : Int) 64 = ((i % 64 : Nat) : Int) := by rw [Int.tmod_eq_emod_of_nonneg (by omega)]; omega
      rw [if_pos (by rw [decide_eq_true_eq]; omega), if_pos hcell, w2, w3, e3]
      have en : Thing.mk (2 * (i : Int)) (Point.mk ((i % 64 : Nat) : Int) 0) (A4.mk (Field.mk 0 ByteArray.empty) (Field.mk 0 ByteArray.empty) (Field.mk 0 ByteArray.empty) (Field.mk 0 ByteArray.empty)) = nth i := rfl
      rw [en, lst_app]
      exact many_on hn a0 a1 k h1 h2 hk b0 b1 m (i + 1) (by omega) (by omega)
    · have : i = k := by omega
      subst this
      rw [if_neg (by rw [decide_eq_true_eq]; omega), all_eq (by omega)]
      simp only [Option.bind_some]
      by_cases hbig : i = 201
      · subst hbig
        have hb : allB (lst 0 201) = (ByteArray.empty, 13) := by unfold allB; rw [if_pos (by rw [lst_len]; omega)]
        have c : decide ((200 : Int) < ((201 : Nat) : Int)) = true := by decide
        rw [hb, if_pos c]
        simp
      · have hk200 : i ≤ 200 := by omega
        have c200 : decide ((200 : Int) < (i : Int)) = false := by rw [decide_eq_false_iff_not]; omega
        have hb : allB (lst 0 i) = (pu (i : Int) ++ catB (lst 0 i), 0) := by
          unfold allB
          rw [if_neg (by rw [lst_len]; omega), lst_len]
          exact allR_good _ _ _ (lst_is hk200) (lst_ris i 0 none (fun q e => by cases e))
        have pz := pu_size (i : Int)
        have pp : pu (i : Int) = pt (i : Int) := pu_small (by omega) (by omega)
        have cz := catB_size (lst 0 i) (lst_is hk200)
        rw [lst_len] at cz
        have gs := get_pt n (by omega) (i : Int) (by omega) (by omega) (catB (lst 0 i)) (by rw [← pp, ba_size]; omega)
        have e0 : ((0 : Int) != 0) = false := rfl
        have bk := some_back (n := n) (by omega) (lst 0 i) (by rw [lst_len]; omega) (lst_is hk200) (lst_wf hk200) ((i : Int), ((pu (i : Int)).size : Int), 0) (by rw [lst_len]) ByteArray.empty (by decide) (n + 8) 0 (pu (i : Int)) (by omega) (by rw [lst_len]; omega) (by rw [lst_len]; omega) (by rw [prev0]; exact lst_ris i 0 none (fun q e => by cases e))
        have some1 : F32 n (pu (i : Int) ++ catB (lst 0 i)) = some (lst 0 i, ((pu (i : Int) ++ catB (lst 0 i)).size : Int), 0) := by
          unfold F32
          rw [pp, gs, ← pp]
          simp only [Option.bind_some, e0, Bool.false_eq_true, if_false, c200]
          rw [ba_nil_r] at bk
          simpa using bk
        rw [hb]
        simp only [c200, Bool.false_eq_true, if_false, some1, Option.bind_some]
        have wk : IntKind.wrap .i64 ((i : Int) - 1) = (i : Int) - 1 := w64 (by omega) (by omega)
        have wa : IntKind.wrap .i64 a1 = a1 := w64 (by omega) (by omega)
        have tm : Int.tmod a1 ((i : Int) - 1) = a1 % ((i : Int) - 1) := Int.tmod_eq_emod_of_nonneg b0
        have m1 := Int.emod_nonneg a1 (show ((i : Int) - 1) ≠ 0 by omega)
        have m2 := Int.emod_lt_of_pos a1 (show (0 : Int) < ((i : Int) - 1) by omega)
        obtain ⟨j, hj⟩ := Int.eq_ofNat_of_zero_le m1
        have hji : j + 1 < i := by omega
        have wj : IntKind.wrap .i64 ((j : Int) + 1) = ((j + 1 : Nat) : Int) := by rw [w64 (by omega) (by omega)]; push_cast; rfl
        have ixl : ∀ q : Nat, q < i → ix (lst 0 i) (q : Int) = some (nth q) := by
          intro q hq
          rw [ixg _ q (by rw [lst_len]; exact hq)]
          have := lst_at i q hq
          rw [List.getElem?_eq_getElem (by rw [lst_len]; exact hq)] at this
          exact this
        rw [wk, if_pos (by omega), wa, tm, hj, wj, ixl (j + 1) hji, ixl j (by omega)]
        simp only [Option.bind_some]
        have e1 : (((j + 1 : Nat) : Int)).toNat = j + 1 := rfl
        have e2 : ((j : Nat) : Int).toNat = j := rfl
        rw [e1, e2]
        have l1 : ((lst 0 i).set j (nth (j + 1))).length = i := by rw [List.length_set, lst_len]
        have ix2 : ix ((lst 0 i).set j (nth (j + 1))) ((j + 1 : Nat) : Int) = some (nth (j + 1)) := by
          rw [ixg _ (j + 1) (by rw [l1]; exact hji)]
          have := lst_at i (j + 1) hji
          rw [List.getElem?_eq_getElem (by rw [lst_len]; exact hji)] at this
          rw [List.getElem_set_ne (by omega)]
          exact this
        rw [ix2]
        simp only [Option.bind_some]
        rw [all_eq (by omega)]
        have l2 : (((lst 0 i).set j (nth (j + 1))).set (j + 1) (nth j)).length = i := by rw [List.length_set, l1]
        have bad : (allB (((lst 0 i).set j (nth (j + 1))).set (j + 1) (nth j))).2 = 11 := by
          unfold allB
          rw [if_neg (by rw [l2]; omega)]
          rcases allR_is (((lst 0 i).set j (nth (j + 1))).set (j + 1) (nth j)) none (pu (((((lst 0 i).set j (nth (j + 1))).set (j + 1) (nth j)).length : Nat) : Int)) with ⟨_, _, _, hr⟩ | h
          · exfalso
            have hx : (((lst 0 i).set j (nth (j + 1))).set (j + 1) (nth j))[j]? = some (nth (j + 1)) := by
              rw [List.getElem?_set_ne (by omega), List.getElem?_set_self (by rw [lst_len]; omega)]
            have hy : (((lst 0 i).set j (nth (j + 1))).set (j + 1) (nth j))[j + 1]? = some (nth j) := by
              rw [List.getElem?_set_self (by rw [l1]; omega)]
            have := risP_at _ none j _ _ hr hx hy
            simp only [nth] at this
            omega
          · exact h.1
        simp only [Option.bind_some, bad, beq_self_eq_true, if_true, lst_len]
theorem thingMany_pure (a0 a1 : Int) (w0 : (Lit.int .u8 a0).wf = true) (w1 : (Lit.int .u8 a1).wf = true) : ∃ n, F8 n a0 a1 = some true := by
  refine ⟨1000, ?_⟩
  have b0 := bounds_u8 w0
  have b1 := bounds_u8 w1
  have t0 : IntKind.wrap .i64 (Int.tmod a0 3) = a0 % 3 := by rw [Int.tmod_eq_emod_of_nonneg (by omega), w64 (by omega) (by omega)]
  have hk : IntKind.wrap .i64 (199 + IntKind.wrap .i64 (Int.tmod a0 3)) = (((199 + a0 % 3).toNat : Nat) : Int) := by
    rw [t0, w64 (by omega) (by omega)]; omega
  unfold F8
  simp only [Option.bind_some, Bool.not_true, Bool.false_eq_true, if_false]
  exact many_on (by omega) a0 a1 (199 + a0 % 3).toNat (by omega) (by omega) hk b1.1 b1.2 (1000 + 8) 0 (by omega) (by omega)
end Go.Proofs.Ytobeamaaifgllaa
