/-
  The bytes of events as the reference has them; EventTells. No condition.
-/
import Derived.Test.YtobeamaaifgllaaEventTellsEb
import Derived.Test.YtobeamaaifgllaaEventTellsEd
import Derived.Test.YtobeamaaifgllaaEventTellsEx
import Derived.Test.YtobeamaaifgllaaEventTellsP1
namespace Go.Proofs.Ytobeamaaifgllaa
open Go Go.Rx
set_option maxRecDepth 100000
set_option linter.unusedSimpArgs false
set_option linter.unnecessarySimpa false
set_option linter.unusedVariables false

theorem revs_l {n : Nat} (hn : 10 ≤ n) (l : List Event) (hl : l.length ≤ 400) (hE : ∀ e ∈ l, isEv e = true) (hw : ∀ e ∈ l, (Lit.int .u8 e.Delta.Mask).wf = true) : ∀ (m i : Nat) (s : ByteArray), i ≤ l.length → l.length - i < m → s.size + 290 * (l.length - i) ≤ 200000 →
    F47_l14 n l m s (i : Int) = some (s ++ catE (l.drop i), 0)
  | 0, i, _, _, h, _ => by omega
  | m + 1, i, s, hi, hm, hs => by
    unfold F47_l14
    by_cases h : i < l.length
    · have he := hE l[i] (List.getElem_mem h)
      have hwe := hw l[i] (List.getElem_mem h)
      have hz := evr_size he
      have hp := pu_size l[i].Kind
      have go := revs_l hn l hl hE hw m (i + 1) (s ++ pu l[i].Kind ++ evr l[i]) (by omega) (by omega) (by simp only [ba_size]; omega)
      have fin : some (s ++ pu l[i].Kind ++ evr l[i] ++ catE (l.drop (i + 1)), (0 : Int)) = some (s ++ catE (l.drop i), 0) := by
        rw [dropS l i h, catE, evb]; simp only [ba_assoc]
      have big : (s ++ pu l[i].Kind).size + (evr l[i]).size ≤ 9223372036854775807 := by rw [ba_size]; omega
      rw [if_pos (lt_dec h), ixg l i h]
      simp only [Option.bind_some, rpu_eq hn]
      rw [if_pos (by omega)]
      unfold evr at go big fin
      unfold isEv at he
      by_cases h1 : (l[i].Kind == 1) = true
      · rw [if_pos h1] at he go big fin ⊢
        simp only [Bool.and_eq_true] at he
        rw [full_eq, Option.bind_some, rtb_eq hn he.1, Option.bind_some, if_pos big, dsucc (by simp only [maxLen]; omega), go, fin]
      · rw [if_neg h1] at he go big fin ⊢
        by_cases h2 : (l[i].Kind == 2) = true
        · rw [if_pos h2] at he go big fin ⊢
          simp only [Bool.and_eq_true] at he
          rw [rbytes_eq hn _ hwe (isD_few he.1), Option.bind_some, show body (head l[i].Delta) l[i].Delta = db l[i].Delta from rfl, if_pos big, dsucc (by simp only [maxLen]; omega), go, fin]
        · rw [if_neg h2] at go big fin ⊢
          rw [if_pos big, dsucc (by simp only [maxLen]; omega), go, fin]
    · rw [if_neg (by rw [ge_dec h]; decide), List.drop_of_length_le (by omega), catE, show s ++ ByteArray.empty = s from by apply ba_ext; simp [ByteArray.data_append]]
theorem rall_l4 {n : Nat} (hn : 410 ≤ n) (l : List Event) (hl : l.length ≤ 100000) (hw : ∀ e ∈ l, (Lit.int .u8 e.Delta.Mask).wf = true) : ∀ (m i : Nat), i ≤ l.length → l.length - i < m → (∀ e ∈ l.take i, isEv e = true) → F47_l4 n l m (i : Int) = some (evsB l)
  | 0, i, _, h, _ => by omega
  | m + 1, i, hi, hm, hT => by
    unfold F47_l4
    by_cases h : i < l.length
    · rw [if_pos (lt_dec h), ixg l i h]
      simp only [Option.bind_some, rev_is n l[i] (hw _ (List.getElem_mem h))]
      cases hE : isEv l[i] with
      | false =>
        have : l.all isEv = false := by
          rw [Bool.eq_false_iff]; intro hA
          have := List.all_eq_true.1 hA l[i] (List.getElem_mem h)
          rw [hE] at this; cases this
        simp only [Bool.not_false, if_true]
        unfold evsB
        rw [if_pos this]
      | true =>
        simp only [Bool.not_true, Bool.false_eq_true, if_false]
        rw [dsucc (by simp only [maxLen]; omega)]
        refine rall_l4 hn l hl hw m (i + 1) (by omega) (by omega) ?_
        intro t ht
        rw [← List.take_append_getElem h, List.mem_append, List.mem_singleton] at ht
        rcases ht with ht | rfl
        · exact hT t ht
        · exact hE
    · have : i = l.length := by omega
      subst this
      rw [List.take_length] at hT
      have hA : l.all isEv = true := List.all_eq_true.2 hT
      rw [if_neg (by rw [ge_dec h]; decide)]
      unfold evsB
      rw [hA]
      by_cases h4 : 400 < l.length
      · rw [if_pos (by simp; omega), if_neg (by decide), if_pos h4]
      · have hp := pu_size (l.length : Int)
        rw [if_neg (by simp; omega), if_neg (by decide), if_neg h4, rpu_eq (by omega), Option.bind_some]
        have := revs_l (by omega : 10 ≤ n) l (by omega) hT hw (n + 8) 0 (pu (l.length : Int)) (by omega) (by omega) (by omega)
        rw [List.drop_zero] at this
        exact this
theorem revs_bytes {n : Nat} (hn : 410 ≤ n) {l : List Event} (hl : l.length ≤ 100000) (hn2 : l.length ≤ n) (hw : ∀ e ∈ l, (Lit.int .u8 e.Delta.Mask).wf = true) : F47 n l = some (evsB l) :=
  rall_l4 hn l hl hw (n + 8) 0 (by omega) (by omega) (by simp)
theorem sameE_l (n : Nat) (a b : List Event) (hl : a.length = b.length) (ha : a.length ≤ 100000) : ∀ (m i : Nat), i ≤ a.length → a.length - i < m → ∃ r, F83_l4 n a b m (i : Int) = some r ∧ F50_l4 n a b m (i : Int) = some r
  | 0, i, _, h => by omega
  | m + 1, i, hi, hm => by
    unfold F83_l4 F50_l4
    by_cases h : i < a.length
    · rw [if_pos (lt_dec h), if_pos (lt_dec h), ixg a i h, ixg b i (by omega)]
      simp only [Option.bind_some]
      split
      · exact ⟨_, rfl, rfl⟩
      · rw [dsucc (by simp only [maxLen]; omega)]
        exact sameE_l n a b hl ha m (i + 1) (by omega) (by omega)
    · rw [if_neg (by rw [ge_dec h]; decide), if_neg (by rw [ge_dec h]; decide)]
      exact ⟨_, rfl, rfl⟩
theorem sameE {n : Nat} {a b : List Event} (ha : a.length ≤ 100000) (hn : a.length ≤ n) : ∃ r, F49 n a b = some r ∧ F50 n a b = some r := by
  unfold F49 F83 F50
  by_cases h : a.length = b.length
  · have : ¬ (((a.length : Int) != (b.length : Int)) = true) := by simp [h]
    rw [if_neg this, if_neg this]
    obtain ⟨r, h1, h2⟩ := sameE_l n a b h ha (n + 8) 0 (by omega) (by omega)
    have h1' : F83_l4 n a b (n + 8) 0 = some r := h1
    exact ⟨r, by rw [h1']; rfl, h2⟩
  · have : ((a.length : Int) != (b.length : Int)) = true := by simp; omega
    rw [if_pos this, if_pos this]
    exact ⟨false, rfl, rfl⟩
theorem tells_l {n : Nat} (hn : 10000 ≤ n) (a : List Thing) (es : List Event) (ha : a.length ≤ 30) (hr : Ris a) (hes : es.length ≤ 30) (hw : ∀ e ∈ es, (Lit.int .u8 e.Delta.Mask).wf = true) : ∀ (m i : Nat), i ≤ es.length → es.length - i < m → F10_l16 n a es m (i : Int) = some true
  | 0, i, _, h => by omega
  | m + 1, i, hi, hm => by
    unfold F10_l16
    by_cases h : i < es.length
    · have hwe := hw es[i] (List.getElem_mem h)
      rw [if_pos (lt_dec h), ixg es i h]
      simp only [Option.bind_some]
      rw [step_eq hr (by omega) (by omega), rstep_eq hr (by omega) (by omega) _ hwe, ev_is, rev_is n _ hwe]
      obtain ⟨g1, g2, _⟩ := stp_good hr es[i]
      simp only [Option.bind_some, BEq.rfl, Bool.not_true, Bool.false_eq_true, if_false]
      rw [sameAll (by omega) (by omega)]
      simp only [Option.bind_some, Bool.not_true, Bool.false_eq_true, if_false]
      rw [dsucc (by simp only [maxLen]; omega)]
      exact tells_l hn a es ha hr hes hw m (i + 1) (by omega) (by omega)
    · rw [if_neg (by rw [ge_dec h]; decide)]
theorem eventTells_pure (a0 : List Thing) (a1 a2 : List Event) (h0 : (∀ x ∈ a0, Thing.wf x) ∧ a0.length ≤ maxLen) (h1 : (∀ x ∈ a1, Event.wf x) ∧ a1.length ≤ maxLen) (h2 : (∀ x ∈ a2, Event.wf x) ∧ a2.length ≤ maxLen) : ∃ n, F10 n a0 a1 a2 = some true := by
  refine ⟨a0.length + a1.length + a2.length + 10000, ?_⟩
  have hn : 10000 ≤ a0.length + a1.length + a2.length + 10000 := by omega
  obtain ⟨b0, f0, g0⟩ := fewsU (n := a0.length + a1.length + a2.length + 10000) h0.2 (by omega)
  obtain ⟨b1, f1, g1⟩ := fewE (n := a0.length + a1.length + a2.length + 10000) h1.2 (by omega)
  obtain ⟨b2, f2, g2⟩ := fewE (n := a0.length + a1.length + a2.length + 10000) h2.2 (by omega)
  obtain ⟨b3, f3, g3⟩ := rising_eq (n := a0.length + a1.length + a2.length + 10000) h0.2 (by omega)
  generalize a0.length + a1.length + a2.length + 10000 = n at *
  have hw : ∀ e ∈ a1, (Lit.int .u8 e.Delta.Mask).wf = true := fun e he => (h1.1 e he).2.2.2.2.1
  unfold F10
  simp only [Option.bind_some, Bool.not_true, Bool.false_eq_true, if_false, f0, f1, f2, f3]
  cases b0 with
  | false => rfl
  | true =>
    cases b1 with
    | false => rfl
    | true =>
      cases b2 with
      | false => rfl
      | true =>
        cases b3 with
        | false => rfl
        | true =>
          have l0 := g0 rfl; have l1 := g1 rfl; have l2 := g2 rfl
          obtain ⟨hT, hR⟩ := g3.1 rfl
          obtain ⟨r, s1, s2⟩ := sameE (n := n) (a := a1) (b := a2) (by omega) (by omega)
          obtain ⟨k1, k2, k3⟩ := fld_good a0 hR hT 60 (by omega) a1 a0 hR hT (by omega)
          rw [evs_bytes (by omega) (by omega) (by omega), revs_bytes (by omega) (by omega) (by omega) hw, fold_eq a1 (by omega) (by omega) hn hR, rfold_eq a1 (by omega) (by omega) hw hn hR, s1, s2]
          simp only [Option.bind_some, Bool.not_true, Bool.false_eq_true, if_false, BEq.rfl, bne_self_eq_false]
          rw [sameAll (by omega) (by omega)]
          simp only [Option.bind_some, Bool.not_true, Bool.false_eq_true, if_false]
          exact tells_l hn a0 a1 l0 hR l1 hw (n + 8) 0 (by omega) (by omega)
end Go.Proofs.Ytobeamaaifgllaa
