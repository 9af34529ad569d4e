/-
  Events upon rows of things, as the reference has it. No condition.
-/
import Derived.Test.YtobeamaaifgllaaEventTellsEc
import Derived.Test.YtobeamaaifgllaaEventTellsP1
namespace Go.Proofs.Ytobeamaaifgllaa
open Go Go.Rx
set_option maxRecDepth 100000
set_option linter.unusedSimpArgs false
set_option linter.unnecessarySimpa false
set_option linter.unusedVariables false

theorem hs_ne {m : Int} (h : (Lit.int .u8 m).wf = true) : (bitsI .and .u8 (shrI .u8 m 1) 1 != 0) = hs m 1 ∧ (bitsI .and .u8 (shrI .u8 m 2) 1 != 0) = hs m 2 ∧ (bitsI .and .u8 (shrI .u8 m 3) 1 != 0) = hs m 3 ∧ (bitsI .and .u8 (shrI .u8 m 4) 1 != 0) = hs m 4 := by
  obtain ⟨h1, h2, h3, h4⟩ := hs_no h
  simp only [bne, h1, h2, h3, h4, Bool.not_not, and_self]
theorem rapp_eq (n : Nat) (t : Thing) (d : Delta) (h : (Lit.int .u8 d.Mask).wf = true) : F92 n t d = some (app t d) := by
  obtain ⟨h1, h2, h3, h4⟩ := hs_ne h
  unfold F92 F92_j2 F92_u4 F92_u6 F92_u8 F92_u10 app a1
  rw [h1, h2, h3, h4]
  generalize ((bitsI .and .u8 d.Mask 1) != 0) = eA
  generalize hs d.Mask 1 = e0
  generalize hs d.Mask 2 = e1
  generalize hs d.Mask 3 = e2
  generalize hs d.Mask 4 = e3
  cases eA <;> cases e0 <;> cases e1 <;> cases e2 <;> cases e3 <;> rfl
def atF (x : Int) : List Thing → Nat → Int
  | [], _ => -1
  | t :: l, i => if t.ID == x then (i : Int) else atF x l (i + 1)
theorem at_l (n : Nat) (l : List Thing) (x : Int) (hl : l.length ≤ 100000) : ∀ (m i : Nat), i ≤ l.length → l.length - i < m → F90_l4 n l x m (i : Int) = some (atF x (l.drop i) i)
  | 0, i, _, h => by omega
  | m + 1, i, hi, h => by
    unfold F90_l4
    by_cases hlt : i < l.length
    · rw [if_pos (lt_dec hlt), ixg l i hlt, dropS l i hlt, atF, Option.bind_some]
      split
      · rfl
      · rw [dsucc (by simp only [maxLen]; omega)]
        exact at_l n l x hl m (i + 1) (by omega) (by omega)
    · rw [if_neg (by rw [ge_dec hlt]; decide), List.drop_of_length_le (by omega)]; rfl
theorem atF_lo (x : Int) (b : List Thing) : ∀ (a : List Thing) (k : Nat), (∀ t ∈ a, t.ID < x) → atF x (a ++ b) k = atF x b (k + a.length)
  | [], k, _ => rfl
  | t :: a, k, h => by
    have ht := h t List.mem_cons_self
    rw [List.cons_append, atF, if_neg (by simp; omega), atF_lo x b a (k + 1) fun u hu => h u (List.mem_cons_of_mem _ hu), List.length_cons]
    congr 1; omega
theorem atF_no (x : Int) : ∀ (b : List Thing) (k : Nat), (∀ t ∈ b, x < t.ID) → atF x b k = -1
  | [], k, _ => rfl
  | t :: b, k, h => by
    have ht := h t List.mem_cons_self
    rw [atF, if_neg (by simp; omega), atF_no x b (k + 1) fun u hu => h u (List.mem_cons_of_mem _ hu)]
theorem at_eq {n : Nat} {l : List Thing} (hr : Ris l) (hl : l.length ≤ 100000) (hn : l.length ≤ n) (x : Int) : F90 n l x = some (if has (hi l x) x then ((lo l x).length : Int) else -1) := by
  have h : F90 n l x = some (atF x (l.drop 0) 0) := at_l n l x hl (n + 8) 0 (by omega) (by omega)
  rw [List.drop_zero] at h
  rw [h]
  conv => lhs; rw [← lohi l x]
  rw [atF_lo x _ _ 0 (lo_lt l x), Nat.zero_add]
  cases hh : has (hi l x) x with
  | false => rw [atF_no x _ _ (has_no (ris_hi hr x) (hi_ge hr x) hh)]; rfl
  | true =>
    obtain ⟨u, b, hb, hu⟩ := has_yes hh
    rw [hb, atF, if_pos (by simp [hu])]; rfl
/-! ### with, without -/
def wiF (t : Thing) : List Thing → List Thing → Bool → List Thing
  | [], out, d => if d then out else out ++ [t]
  | u :: l, out, d =>
    let o1 := if d then out else if t.ID ≤ u.ID then out ++ [t] else out
    wiF t l (if u.ID != t.ID then o1 ++ [u] else o1) (d || decide (t.ID ≤ u.ID))
theorem wi_l (n : Nat) (l : List Thing) (t : Thing) (hl : l.length ≤ 50000) : ∀ (m i : Nat) (out : List Thing) (d : Bool), i ≤ l.length → l.length - i < m → out.length ≤ i + 1 → (d = false → out.length ≤ i) → F91_l10 n l t m out d (i : Int) = some (wiF t (l.drop i) out d)
  | 0, i, _, _, _, h, _, _ => by omega
  | m + 1, i, out, d, hi, h, ho, hd => by
    have hmc : (100000 : Nat) * 200 ≤ maxCells := by simp only [maxCells]; decide
    unfold F91_l10
    by_cases hlt : i < l.length
    · have step : ∀ (o : List Thing) (dd : Bool), o.length ≤ i + 1 → (dd = false → o.length ≤ i) → F91_j14 n l t (i : Int) (F91_l10 n l t m) o dd = some (wiF t (l.drop (i + 1)) (if l[i].ID != t.ID then o ++ [l[i]] else o) dd) := by
        intro o dd h1 h2
        unfold F91_j14
        rw [ixg l i hlt]
        simp only [Option.bind_some]
        by_cases hx : (l[i].ID != t.ID) = true
        · rw [if_pos hx, if_pos hx, if_pos ⟨by omega, by omega⟩, dsucc (by simp only [maxLen]; omega)]
          exact wi_l n l t hl m (i + 1) _ dd (by omega) (by omega) (by rw [List.length_append]; simp; omega) (fun q => by rw [List.length_append]; have := h2 q; simp; omega)
        · rw [if_neg hx, if_neg hx, dsucc (by simp only [maxLen]; omega)]
          exact wi_l n l t hl m (i + 1) o dd (by omega) (by omega) (by omega) (fun q => by have := h2 q; omega)
      rw [if_pos (lt_dec hlt), dropS l i hlt, wiF, ixg l i hlt]
      cases d with
      | true =>
        simp only [Bool.not_true, Bool.false_eq_true, if_false, if_true, Bool.true_or]
        exact step out true ho (fun q => by cases q)
      | false =>
        simp only [Bool.not_false, Bool.false_eq_true, if_false, if_true, Bool.false_or, Option.bind_some]
        have := hd rfl
        by_cases hx : t.ID ≤ l[i].ID
        · rw [if_pos (decide_eq_true hx), if_pos hx, if_pos ⟨by omega, by omega⟩, decide_eq_true hx]
          exact step _ true (by rw [List.length_append]; simp; omega) (fun q => by cases q)
        · rw [if_neg (by simp; omega), if_neg hx, decide_eq_false hx]
          exact step _ false ho hd
    · rw [if_neg (by rw [ge_dec hlt]; decide), List.drop_of_length_le (by omega), wiF]
      cases d with
      | true => rfl
      | false =>
        simp only [Bool.not_false, Bool.false_eq_true, if_false, if_true]
        rw [if_pos ⟨by omega, by omega⟩]
theorem wiF_done (t : Thing) : ∀ (l out : List Thing), wiF t l out true = out ++ l.filter fun u => u.ID != t.ID
  | [], out => by simp [wiF]
  | u :: l, out => by
    rw [wiF]
    simp only [if_true, Bool.true_or]
    rw [wiF_done t l]
    cases h : (u.ID != t.ID) with
    | true => simp [h]
    | false => simp [h]
theorem wiF_is (t : Thing) (b : List Thing) (hb : ∀ u ∈ b, t.ID ≤ u.ID) : ∀ (a out : List Thing), (∀ u ∈ a, u.ID < t.ID) → wiF t (a ++ b) out false = out ++ a ++ t :: b.filter fun u => u.ID != t.ID
  | [], out, _ => by
    cases b with
    | nil => simp [wiF]
    | cons u b =>
      have hu := hb u List.mem_cons_self
      rw [List.nil_append, wiF]
      simp only [Bool.false_eq_true, if_false, if_pos hu, decide_eq_true hu, Bool.false_or]
      rw [wiF_done]
      cases h : (u.ID != t.ID) with
      | true => simp [h]
      | false => simp [h]
  | u :: a, out, h => by
    have hu := h u List.mem_cons_self
    have hne : (u.ID != t.ID) = true := by simp; omega
    have hno : ¬ t.ID ≤ u.ID := by omega
    rw [List.cons_append, wiF]
    simp only [Bool.false_eq_true, if_false, if_neg hno, decide_eq_false hno, Bool.false_or, hne, if_true]
    rw [wiF_is t b hb a _ fun v hv => h v (List.mem_cons_of_mem _ hv)]
    simp
theorem with_eq {n : Nat} {l : List Thing} (hr : Ris l) (hl : l.length ≤ 50000) (hn : l.length ≤ n) (t : Thing) : F91 n l t = some (lo l t.ID ++ t :: (hi l t.ID).filter fun u => u.ID != t.ID) := by
  have h : F91 n l t = some (wiF t (l.drop 0) [] false) := wi_l n l t hl (n + 8) 0 [] false (by omega) (by omega) (by simp) (by simp)
  rw [List.drop_zero] at h
  rw [h]
  conv => lhs; rw [← lohi l t.ID]
  rw [wiF_is t _ (hi_ge hr t.ID) _ [] (lo_lt l t.ID), List.nil_append]
theorem wo_l (n : Nat) (l : List Thing) (x : Int) (hl : l.length ≤ 50000) : ∀ (m i : Nat) (out : List Thing), i ≤ l.length → l.length - i < m → out.length ≤ i → F93_l7 n l x m out (i : Int) = some (out ++ (l.drop i).filter fun u => u.ID != x)
  | 0, i, _, _, h, _ => by omega
  | m + 1, i, out, hi, h, ho => by
    have hmc : (100000 : Nat) * 200 ≤ maxCells := by simp only [maxCells]; decide
    unfold F93_l7
    by_cases hlt : i < l.length
    · rw [if_pos (lt_dec hlt), dropS l i hlt, ixg l i hlt]
      simp only [Option.bind_some]
      cases hx : (l[i].ID != x) with
      | true =>
        simp only [if_true]
        rw [if_pos ⟨by omega, by omega⟩, dsucc (by simp only [maxLen]; omega), wo_l n l x hl m (i + 1) _ (by omega) (by omega) (by rw [List.length_append]; simp; omega), List.filter_cons_of_pos (by simpa using hx)]
        simp
      | false =>
        simp only [Bool.false_eq_true, if_false]
        rw [dsucc (by simp only [maxLen]; omega), wo_l n l x hl m (i + 1) _ (by omega) (by omega) (by omega), List.filter_cons_of_neg (by simpa using hx)]
    · rw [if_neg (by rw [ge_dec hlt]; decide), List.drop_of_length_le (by omega)]; simp
theorem without_eq {n : Nat} {l : List Thing} (hl : l.length ≤ 50000) (hn : l.length ≤ n) (x : Int) : F93 n l x = some (l.filter fun u => u.ID != x) := by
  have h : F93 n l x = some ([] ++ (l.drop 0).filter fun u => u.ID != x) := wo_l n l x hl (n + 8) 0 [] (by omega) (by omega) (by simp)
  rw [List.drop_zero, List.nil_append] at h
  exact h
theorem filter_all {l : List Thing} {x : Int} (h : ∀ t ∈ l, t.ID ≠ x) : l.filter (fun u => u.ID != x) = l := by
  rw [List.filter_eq_self]; intro t ht; simp [h t ht]
theorem rstep_eq {n : Nat} {l : List Thing} (hr : Ris l) (hl : l.length ≤ 50000) (hn : l.length ≤ n) (e : Event) (hw : (Lit.int .u8 e.Delta.Mask).wf = true) : F52 n l e = some (stp l e) := by
  unfold F52 stp
  rw [at_eq hr (by omega) hn, rev_is n e hw]
  have hL := lohi l e.ID
  have hlen : l.length = (lo l e.ID).length + (hi l e.ID).length := by rw [← List.length_append, hL]
  have hgt : ∀ {u : Thing} {b : List Thing}, hi l e.ID = u :: b → u.ID = e.ID → (b.filter fun u => u.ID != e.ID) = b := by
    intro u b hb hu
    have hrh := ris_hi hr e.ID
    rw [hb] at hrh
    exact filter_all fun t ht => by have := (List.pairwise_cons.1 hrh).1 t ht; omega
  simp only [Option.bind_some]
  cases hE : isEv e with
  | false => rfl
  | true =>
    simp only [Bool.not_true, Bool.false_eq_true, Bool.true_eq_false, if_false]
    have hd : ∀ b : Bool, decide ((0 : Int) ≤ (if b = true then ((lo l e.ID).length : Int) else -1)) = b := by
      intro b; cases b with
      | true => simp
      | false => rfl
    rw [hd]
    cases hh : has (hi l e.ID) e.ID with
    | false =>
      cases h1 : (e.Kind == 1) with
      | false => rfl
      | true =>
        simp only [Bool.false_beq, Bool.not_true, Bool.false_eq_true, if_false, if_true]
        obtain ⟨_, hid⟩ := isEv_id hE h1
        rw [with_eq hr hl hn, ← hid, filter_all fun t ht => by have := has_no (ris_hi hr e.ID) (hi_ge hr e.ID) hh t ht; omega]
        rfl
    | true =>
      cases h1 : (e.Kind == 1) with
      | true => rfl
      | false =>
        simp only [Bool.true_beq, Bool.false_eq_true, if_false, if_true]
        obtain ⟨u, b, hb, hu⟩ := has_yes hh
        have hfb := hgt hb hu
        cases h2 : (e.Kind == 2) with
        | true =>
          simp only [if_true]
          have hk : (lo l e.ID).length < l.length := by rw [hb] at hlen; simp only [List.length_cons] at hlen; omega
          have hdk : l.drop (lo l e.ID).length = hi l e.ID := by
            have := List.drop_left' (l₁ := lo l e.ID) (l₂ := hi l e.ID) rfl
            rw [hL] at this; exact this
          have hget : l[(lo l e.ID).length]'hk = u := by
            rw [hb] at hdk
            have h0 := congrArg List.head? hdk
            rw [List.head?_drop, List.head?_cons, List.getElem?_eq_getElem hk] at h0
            exact Option.some.inj h0
          rw [ixg l _ hk, hget]
          simp only [Option.bind_some, rapp_eq n u e.Delta hw]
          have hid : (app u e.Delta).ID = e.ID := hu
          rw [with_eq hr hl hn, hid, hb]
          rw [List.filter_cons_of_neg (by simp [hu]), hfb]
          rfl
        | false =>
          simp only [Bool.false_eq_true, if_false]
          rw [without_eq hl hn]
          have : (l.filter fun u => u.ID != e.ID) = lo l e.ID ++ b := by
            conv => lhs; rw [← hL]
            rw [List.filter_append, filter_all fun t ht => by have := lo_lt l e.ID t ht; omega, hb, List.filter_cons_of_neg (by simp [hu]), hfb]
          rw [this, hb]
          rfl
theorem rfold_l {n : Nat} {a0 : List Thing} (es : List Event) (hes : es.length ≤ 5000) (hw : ∀ e ∈ es, (Lit.int .u8 e.Delta.Mask).wf = true) (hn : 10000 ≤ n) : ∀ (m i : Nat) (l : List Thing), i ≤ es.length → es.length - i < m → Ris l → l.length + (es.length - i) ≤ 10000 →
    F48_l7 n a0 es m l (i : Int) = some (fld a0 l (es.drop i)) := by
  intro m
  induction m with
  | zero => intro i l _ h; omega
  | succ m ih =>
    intro i l hi hm hr hl
    unfold F48_l7
    by_cases h : i < es.length
    · rw [if_pos (lt_dec h), ixg es i h, Option.bind_some, rstep_eq hr (by omega) (by omega) _ (hw _ (List.getElem_mem h)), Option.bind_some, dropS es i h, fld]
      obtain ⟨g1, g2, _⟩ := stp_good hr es[i]
      cases hb : (stp l es[i]).2 with
      | true =>
        simp only [Bool.not_true, Bool.false_eq_true, if_false, if_true]
        rw [dsucc (by simp only [maxLen]; omega)]
        exact ih (i + 1) _ (by omega) (by omega) g1 (by omega)
      | false => rfl
    · rw [if_neg (by rw [ge_dec h]; decide), List.drop_of_length_le (by omega), fld]
theorem rfold_eq {n : Nat} {l : List Thing} (es : List Event) (h0 : l.length ≤ 1000) (hes : es.length ≤ 5000) (hw : ∀ e ∈ es, (Lit.int .u8 e.Delta.Mask).wf = true) (hn : 10000 ≤ n) (hr : Ris l) : F48 n l es = some (fld l l es) :=
  rfold_l es hes hw hn (n + 8) 0 l (by omega) (by omega) hr (by omega)
end Go.Proofs.Ytobeamaaifgllaa
