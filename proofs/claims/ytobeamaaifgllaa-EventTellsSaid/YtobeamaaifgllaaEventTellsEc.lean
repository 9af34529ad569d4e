/-
  Events upon rows of things: what Apply and Fold make. No condition.
-/
import Derived.Test.YtobeamaaifgllaaEventTellsEa
import Derived.Test.YtobeamaaifgllaaEventTellsP1
namespace Go.Proofs.Ytobeamaaifgllaa
open Go Go.Rx
set_option maxRecDepth 100000
set_option linter.unusedSimpArgs false
set_option linter.unnecessarySimpa false
set_option linter.unusedVariables false

def app (t : Thing) (d : Delta) : Thing := ⟨t.ID, if a1 d then d.At else t.At, ⟨if hs d.Mask 1 then d.F.a0 else t.F.a0, if hs d.Mask 2 then d.F.a1 else t.F.a1, if hs d.Mask 3 then d.F.a2 else t.F.a2, if hs d.Mask 4 then d.F.a3 else t.F.a3⟩⟩
theorem app_eq (n : Nat) (t : Thing) (d : Delta) : F88 n t d = some (app t d) := by
  unfold F88 F88_j2 F88_u5 F88_u8 F88_u11 F88_u14 app a1
  simp only [has0, has1, has2, has3, Option.bind_some]
  generalize ((bitsI .and .u8 d.Mask 1) != 0) = eA
  generalize hs d.Mask 1 = e0
  generalize hs d.Mask 2 = e1
  generalize hs d.Mask 3 = e2
  generalize hs d.Mask 4 = e3
  cases eA <;> cases e0 <;> cases e1 <;> cases e2 <;> cases e3 <;> rfl
theorem app_is {t : Thing} {d : Delta} (ht : isTh t = true) (hd : isD d = true) : isTh (app t d) = true := by
  have okf : ∀ (f g : Field) (e : Bool), isF g = true → okF f e = true → isF (if e = true then f else g) = true := by
    intro f g e h h'
    cases e with
    | false => exact h
    | true => simp only [okF, Bool.and_eq_true] at h'; exact h'.1
  simp only [isD, fl4, Bool.and_eq_true] at hd
  simp only [isTh, Bool.and_eq_true] at ht ⊢
  obtain ⟨_, _, _, _, _, hon, h0, h1, h2, h3⟩ := hd
  obtain ⟨t0, t1, t2, t3, t4, t5, t6⟩ := ht
  refine ⟨t0, t1, ?_, okf _ _ _ t3 h0, okf _ _ _ t4 h1, okf _ _ _ t5 h2, okf _ _ _ t6 h3⟩
  show on (if a1 d = true then d.At else t.At) = true
  split
  · exact hon
  · exact t2
def Ris (l : List Thing) : Prop := l.Pairwise fun a b => a.ID < b.ID
def lo (l : List Thing) (x : Int) : List Thing := l.takeWhile fun t => decide (t.ID < x)
def hi (l : List Thing) (x : Int) : List Thing := l.dropWhile fun t => decide (t.ID < x)
def has (b : List Thing) (x : Int) : Bool := match b with
  | [] => false
  | t :: _ => t.ID == x
theorem lohi (l : List Thing) (x : Int) : lo l x ++ hi l x = l := List.takeWhile_append_dropWhile
theorem lo_lt (l : List Thing) (x : Int) : ∀ t ∈ lo l x, t.ID < x := by
  induction l with
  | nil => intro t h; cases h
  | cons u l ih =>
    intro t h
    simp only [lo, List.takeWhile_cons] at h
    split at h
    · rename_i hu
      cases h with
      | head => exact of_decide_eq_true hu
      | tail _ h' => exact ih t h'
    · cases h
theorem hi_ge {l : List Thing} (hl : Ris l) (x : Int) : ∀ t ∈ hi l x, x ≤ t.ID := by
  induction l with
  | nil => intro t h; cases h
  | cons u l ih =>
    intro t h
    cases hl with
    | cons hu hr =>
      simp only [hi, List.dropWhile_cons] at h
      split at h
      · exact ih hr t h
      · rename_i hx
        have hx' : x ≤ u.ID := by simp at hx; exact hx
        cases h with
        | head => exact hx'
        | tail _ h' => have := hu t h'; omega
/-- What an event makes of a row. -/
def stp (l : List Thing) (e : Event) : List Thing × Bool :=
  if isEv e = false then (l, false)
  else if has (hi l e.ID) e.ID == (e.Kind == 1) then (l, false)
  else if e.Kind == 1 then (lo l e.ID ++ e.Thing :: hi l e.ID, true)
  else if e.Kind == 2 then (lo l e.ID ++ (match hi l e.ID with | [] => [] | u :: b => app u e.Delta :: b), true)
  else (lo l e.ID ++ (hi l e.ID).tail, true)
theorem ris_ins {a b : List Thing} {t : Thing} (h : Ris (a ++ b)) (ha : ∀ u ∈ a, u.ID < t.ID) (hb : ∀ u ∈ b, t.ID < u.ID) : Ris (a ++ t :: b) := by
  unfold Ris at *
  rw [List.pairwise_append] at h ⊢
  refine ⟨h.1, List.pairwise_cons.2 ⟨hb, h.2.1⟩, ?_⟩
  intro u hu v hv
  cases hv with
  | head => exact ha u hu
  | tail _ hv' => exact h.2.2 u hu v hv'
theorem ris_del {a b : List Thing} {t : Thing} (h : Ris (a ++ t :: b)) : Ris (a ++ b) := by
  unfold Ris at *
  rw [List.pairwise_append] at h ⊢
  exact ⟨h.1, (List.pairwise_cons.1 h.2.1).2, fun u hu v hv => h.2.2 u hu v (List.mem_cons_of_mem _ hv)⟩
theorem ris_set {a b : List Thing} {t u : Thing} (h : Ris (a ++ t :: b)) (hi : u.ID = t.ID) : Ris (a ++ u :: b) := by
  unfold Ris at *
  rw [List.pairwise_append] at h ⊢
  refine ⟨h.1, List.pairwise_cons.2 ⟨fun v hv => ?_, (List.pairwise_cons.1 h.2.1).2⟩, ?_⟩
  · rw [hi]; exact (List.pairwise_cons.1 h.2.1).1 v hv
  · intro v hv w hw
    cases hw with
    | head => rw [hi]; exact h.2.2 v hv t List.mem_cons_self
    | tail _ hw' => exact h.2.2 v hv w (List.mem_cons_of_mem _ hw')
theorem has_no {b : List Thing} {x : Int} (hr : Ris b) (hg : ∀ t ∈ b, x ≤ t.ID) (h : has b x = false) : ∀ t ∈ b, x < t.ID := by
  cases b with
  | nil => intro t h; cases h
  | cons u b =>
    have hu : u.ID ≠ x := by simpa [has] using h
    have h1 := hg u List.mem_cons_self
    intro t ht
    cases ht with
    | head => omega
    | tail _ ht' => have := (List.pairwise_cons.1 hr).1 t ht'; omega
theorem has_yes {b : List Thing} {x : Int} (h : has b x = true) : ∃ u b', b = u :: b' ∧ u.ID = x := by
  cases b with
  | nil => cases h
  | cons u b => exact ⟨u, b, rfl, by simpa [has] using h⟩
theorem ris_hi {l : List Thing} (h : Ris l) (x : Int) : Ris (hi l x) := by
  have := h; rw [← lohi l x] at this; exact (List.pairwise_append.1 this).2.1
theorem isEv_id {e : Event} (h : isEv e = true) (h1 : (e.Kind == 1) = true) : isTh e.Thing = true ∧ e.ID = e.Thing.ID := by
  unfold isEv at h
  rw [if_pos h1] at h
  simp only [Bool.and_eq_true, beq_iff_eq] at h
  exact ⟨h.1, h.2.1⟩
theorem isEv_d {e : Event} (h : isEv e = true) (h1 : (e.Kind == 1) = false) (h2 : (e.Kind == 2) = true) : isD e.Delta = true := by
  unfold isEv at h
  rw [h1, h2] at h
  simp only [Bool.false_eq_true, if_false, if_true, Bool.and_eq_true] at h
  exact h.1
theorem stp_good {l : List Thing} (h : Ris l) (e : Event) : Ris (stp l e).1 ∧ (stp l e).1.length ≤ l.length + 1 ∧ ((∀ t ∈ l, isTh t = true) → ∀ t ∈ (stp l e).1, isTh t = true) := by
  have hl := lohi l e.ID
  have hlo := lo_lt l e.ID
  have hge := hi_ge h e.ID
  have hrh := ris_hi h e.ID
  have hlen : l.length = (lo l e.ID).length + (hi l e.ID).length := by rw [← List.length_append, hl]
  unfold stp
  cases hE : isEv e with
  | false => exact ⟨h, by simp, fun q => q⟩
  | true =>
    simp only [Bool.true_eq_false, if_false]
    cases hh : has (hi l e.ID) e.ID with
    | false =>
      cases h1 : (e.Kind == 1) with
      | false => exact ⟨h, by simp, fun q => q⟩
      | true =>
        obtain ⟨hT, hid⟩ := isEv_id hE h1
        simp only [Bool.false_beq, Bool.not_true, Bool.false_eq_true, if_false, if_true]
        refine ⟨ris_ins (by rw [hl]; exact h) (by rw [← hid]; exact hlo) (by rw [← hid]; exact has_no hrh hge hh), by simp only [List.length_append, List.length_cons]; omega, fun q t ht => ?_⟩
        rw [List.mem_append, List.mem_cons] at ht
        rcases ht with ht | rfl | ht
        · exact q t (by rw [← hl]; exact List.mem_append_left _ ht)
        · exact hT
        · exact q t (by rw [← hl]; exact List.mem_append_right _ ht)
    | true =>
      cases h1 : (e.Kind == 1) with
      | true => exact ⟨h, by simp, fun q => q⟩
      | false =>
        simp only [Bool.true_beq, Bool.false_eq_true, if_false]
        obtain ⟨u, b, hb, hu⟩ := has_yes hh
        rw [hb] at hlen hl ⊢
        have hR : Ris (lo l e.ID ++ u :: b) := by rw [hl]; exact h
        have hin : ∀ t, t ∈ lo l e.ID ∨ t = u ∨ t ∈ b → t ∈ l := by
          intro t ht; rw [← hl, List.mem_append, List.mem_cons]; exact ht
        simp only [List.length_cons] at hlen
        cases h2 : (e.Kind == 2) with
        | true =>
          simp only [if_true]
          refine ⟨ris_set hR rfl, by simp only [List.length_append, List.length_cons]; omega, fun q t ht => ?_⟩
          rw [List.mem_append, List.mem_cons] at ht
          rcases ht with ht | rfl | ht
          · exact q t (hin t (.inl ht))
          · exact app_is (q u (hin u (.inr (.inl rfl)))) (isEv_d hE h1 h2)
          · exact q t (hin t (.inr (.inr ht)))
        | false =>
          simp only [Bool.false_eq_true, if_false, List.tail_cons]
          refine ⟨ris_del hR, by simp only [List.length_append]; omega, fun q t ht => ?_⟩
          rw [List.mem_append] at ht
          rcases ht with ht | ht
          · exact q t (hin t (.inl ht))
          · exact q t (hin t (.inr (.inr ht)))
/-! ### where a thing lies -/
theorem cmp_eq (n : Nat) (t : Thing) (x : Int) : F85 n t x = some (if t.ID < x then -1 else if x < t.ID then 1 else 0) := by
  unfold F85 F86 F111
  simp only [Option.bind_some, bne_self_eq_false, Bool.false_eq_true, if_false, decide_eq_true_eq]
  split
  · rfl
  · split <;> rfl
theorem shr1' (x : Int) : shrI .u64 x 1 = x / 2 := by
  unfold shrI; rw [Int.fdiv_eq_ediv_of_nonneg _ (by decide)]; rfl
theorem half {i j : Nat} (h : i + j < 1000000) : IntKind.wrap .i64 (shrI .u64 (IntKind.wrap .u64 (IntKind.wrap .i64 ((i : Int) + (j : Int)))) 1) = (((i + j) / 2 : Nat) : Int) := by
  have e1 : IntKind.wrap .i64 ((i : Int) + (j : Int)) = ((i + j : Nat) : Int) := by simp [IntKind.wrap, IntKind.bits, IntKind.signed]; omega
  have e2 : IntKind.wrap .u64 ((i + j : Nat) : Int) = ((i + j : Nat) : Int) := by simp [IntKind.wrap, IntKind.bits, IntKind.signed]; omega
  have e3 : shrI .u64 ((i + j : Nat) : Int) 1 = (((i + j) / 2 : Nat) : Int) := by
    rw [shr1']; omega
  rw [e1, e2, e3]
  simp [IntKind.wrap, IntKind.bits, IntKind.signed]; omega
theorem bs_l (n : Nat) (a b : List Thing) (x : Int) (ha : ∀ t ∈ a, t.ID < x) (hb : ∀ t ∈ b, x ≤ t.ID) (hlen : a.length + b.length ≤ 100000) : ∀ (m i j : Nat), i ≤ a.length → a.length ≤ j → j ≤ a.length + b.length → j - i < m →
    F84s0_l7 n (a ++ b) x m (i : Int) (j : Int) = some ((a.length : Int), has b x) := by
  intro m
  induction m with
  | zero => intro i j _ _ _ h; omega
  | succ m ih =>
    intro i j h1 h2 h3 hm
    unfold F84s0_l7
    have hL : (a ++ b).length = a.length + b.length := List.length_append
    by_cases hij : i < j
    · rw [if_pos (lt_dec hij), half (by omega), ixg (a ++ b) ((i + j) / 2) (by omega)]
      simp only [Option.bind_some, cmp_eq]
      by_cases hq : (i + j) / 2 < a.length
      · have hlt : ((a ++ b)[(i + j) / 2]'(by omega)).ID < x := by rw [List.getElem_append_left hq]; exact ha _ (List.getElem_mem _)
        rw [if_pos hlt, if_pos (by decide), dsucc (by simp only [maxLen]; omega)]
        exact ih ((i + j) / 2 + 1) j (by omega) h2 h3 (by omega)
      · have hge : x ≤ ((a ++ b)[(i + j) / 2]'(by omega)).ID := by rw [List.getElem_append_right (by omega)]; exact hb _ (List.getElem_mem _)
        have hno : ¬ (decide ((if ((a ++ b)[(i + j) / 2]'(by omega)).ID < x then (-1 : Int) else if x < ((a ++ b)[(i + j) / 2]'(by omega)).ID then 1 else 0) < 0) = true) := by
          rw [if_neg (by omega)]; split <;> decide
        rw [if_neg hno]
        exact ih i ((i + j) / 2) h1 (by omega) (by omega) (by omega)
    · have hi' : i = a.length := by omega
      subst hi'
      rw [if_neg (by simp; omega)]
      cases b with
      | nil =>
        simp only [List.length_nil, Nat.add_zero] at hL h3
        rw [if_neg (by rw [hL]; simp)]
        rfl
      | cons u b =>
        rw [if_pos (by rw [hL]; simp; omega), ixg (a ++ u :: b) a.length (by rw [hL]; simp)]
        simp only [Option.bind_some, cmp_eq]
        have hg : (a ++ u :: b)[a.length]'(by rw [hL]; simp) = u := by simp
        rw [hg]
        have hu := hb u List.mem_cons_self
        rw [if_neg (by omega)]
        simp only [has]
        by_cases he : u.ID = x
        · rw [he, if_neg (by omega)]; simp
        · rw [if_pos (by omega)]
          simp [he]
theorem bs_eq {n : Nat} {l : List Thing} (hr : Ris l) (hl : l.length ≤ 100000) (hn : l.length ≤ n) (x : Int) : F84s0 n l x = some (((lo l x).length : Int), has (hi l x) x) := by
  have h := bs_l n (lo l x) (hi l x) x (lo_lt l x) (hi_ge hr x) (by rw [← List.length_append, lohi]; exact hl) (n + 8) 0 l.length (by omega) (by have := congrArg List.length (lohi l x); rw [List.length_append] at this; omega) (by rw [← List.length_append, lohi]; exact Nat.le_refl _) (by omega)
  rw [lohi] at h
  exact h
theorem clone_eq {l : List Thing} (hl : l.length ≤ 100000) : cloneL l = some l := by
  unfold cloneL; rw [if_pos (by omega)]
theorem step_eq {n : Nat} {l : List Thing} (hr : Ris l) (hl : l.length ≤ 100000) (hn : l.length ≤ n) (e : Event) : F51 n l e = some (stp l e) := by
  unfold F51 stp
  rw [bs_eq hr hl hn, ev_is, clone_eq hl]
  have hL := lohi l e.ID
  have hlen : l.length = (lo l e.ID).length + (hi l e.ID).length := by rw [← List.length_append, hL]
  have htk : l.take (lo l e.ID).length = lo l e.ID := by
    have := List.take_left' (l₁ := lo l e.ID) (l₂ := hi l e.ID) rfl
    rw [hL] at this; exact this
  have hdk : l.drop (lo l e.ID).length = hi l e.ID := by
    have := List.drop_left' (l₁ := lo l e.ID) (l₂ := hi l e.ID) rfl
    rw [hL] at this; exact this
  simp only [Option.bind_some]
  cases hE : isEv e with
  | false => rfl
  | true =>
    simp only [Bool.not_true, Bool.false_eq_true, Bool.true_eq_false, if_false]
    cases hh : has (hi l e.ID) e.ID with
    | false =>
      cases h1 : (e.Kind == 1) with
      | false => rfl
      | true =>
        simp only [Bool.false_beq, Bool.not_true, Bool.false_eq_true, if_false, if_true]
        unfold insL
        rw [if_pos ⟨by omega, by omega, by omega⟩]
        simp only [Int.toNat_natCast, Option.bind_some, htk, hdk]
    | true =>
      cases h1 : (e.Kind == 1) with
      | true => rfl
      | false =>
        simp only [Bool.true_beq, Bool.false_eq_true, if_false]
        obtain ⟨u, b, hb, hu⟩ := has_yes hh
        rw [hb] at hlen hL hdk ⊢
        simp only [List.length_cons] at hlen
        have hk : (lo l e.ID).length < l.length := by omega
        have hget : l[(lo l e.ID).length]'hk = u := by
          have h0 := congrArg List.head? hdk
          rw [List.head?_drop, List.head?_cons, List.getElem?_eq_getElem hk] at h0
          exact Option.some.inj h0
        cases h2 : (e.Kind == 2) with
        | true =>
          simp only [if_true]
          rw [ixg l _ hk, hget]
          simp only [Option.bind_some, app_eq, Int.toNat_natCast]
          have hset : l.set (lo l e.ID).length (app u e.Delta) = lo l e.ID ++ app u e.Delta :: b := by
            conv => lhs; arg 1; rw [← hL]
            rw [List.set_append_right _ _ (Nat.le_refl _), Nat.sub_self]
            rfl
          rw [hset]
        | false =>
          simp only [Bool.false_eq_true, if_false]
          rw [dsucc (by simp only [maxLen]; omega)]
          unfold delL
          rw [if_pos ⟨by omega, by omega, by omega, by omega⟩]
          simp only [Int.toNat_natCast, Option.bind_some, htk]
          have hd1 : l.drop ((lo l e.ID).length + 1) = b := by rw [← List.drop_drop, hdk]; rfl
          rw [hd1]
          rfl
/-! ### many -/
def fld (l0 : List Thing) : List Thing → List Event → List Thing × Bool
  | l, [] => (l, true)
  | l, e :: es => if (stp l e).2 then fld l0 (stp l e).1 es else (l0, false)
theorem stp_no {l : List Thing} {e : Event} (h : (stp l e).2 = false) : (stp l e).1 = l := by
  unfold stp at h ⊢
  repeat' split
  all_goals first | rfl | (simp_all; done)
theorem fold_l {n : Nat} {a0 : List Thing} (h0 : a0.length ≤ 1000) (es : List Event) (hes : es.length ≤ 5000) (hn : 10000 ≤ n) : ∀ (m i : Nat) (l : List Thing), i ≤ es.length → es.length - i < m → Ris l → l.length + (es.length - i) ≤ 10000 →
    F40_l11 n a0 es m l true (i : Int) = some (fld a0 l (es.drop i)) := by
  intro m
  induction m with
  | zero => intro i l _ h; omega
  | succ m ih =>
    intro i l hi hm hr hl
    unfold F40_l11
    by_cases h : i < es.length
    · rw [if_pos (lt_dec h), ixg es i h, Option.bind_some, step_eq hr (by omega) (by omega), Option.bind_some, dropS es i h, fld]
      obtain ⟨g1, g2, _⟩ := stp_good hr es[i]
      cases hb : (stp l es[i]).2 with
      | true =>
        simp only [Bool.not_true, Bool.false_eq_true, if_false, if_true]
        rw [dsucc (by simp only [maxLen]; omega)]
        exact ih (i + 1) _ (by omega) (by omega) g1 (by omega)
      | false =>
        simp only [Bool.not_false, if_true, Bool.false_eq_true, if_false]
        unfold F40_j16
        simp only [Bool.not_false, if_true]
        rw [clone_eq (by omega)]
        rfl
    · rw [if_neg (by rw [ge_dec h]; decide), List.drop_of_length_le (by omega), fld]
      rfl
theorem fold_eq {n : Nat} {l : List Thing} (es : List Event) (h0 : l.length ≤ 1000) (hes : es.length ≤ 5000) (hn : 10000 ≤ n) (hr : Ris l) : F40 n l es = some (fld l l es) := by
  unfold F40
  rw [clone_eq (by omega)]
  exact fold_l h0 es hes hn (n + 8) 0 l (by omega) (by omega) hr (by omega)
theorem fld_good (l0 : List Thing) (h0 : Ris l0) (h0' : ∀ t ∈ l0, isTh t = true) (k : Nat) (hk : l0.length ≤ k) : ∀ (es : List Event) (l : List Thing), Ris l → (∀ t ∈ l, isTh t = true) → l.length + es.length ≤ k →
    Ris (fld l0 l es).1 ∧ (∀ t ∈ (fld l0 l es).1, isTh t = true) ∧ (fld l0 l es).1.length ≤ k := by
  intro es
  induction es with
  | nil => intro l hr ht hl; exact ⟨hr, ht, by simpa [fld] using hl⟩
  | cons e es ih =>
    intro l hr ht hl
    obtain ⟨g1, g2, g3⟩ := stp_good hr e
    simp only [List.length_cons] at hl
    unfold fld
    split
    · exact ih _ g1 (g3 ht) (by omega)
    · exact ⟨h0, h0', hk⟩
end Go.Proofs.Ytobeamaaifgllaa
