/-
  The bytes of events. No condition.
-/
import Derived.Test.YtobeamaaifgllaaEventTellsEa
import Derived.Test.YtobeamaaifgllaaEventTellsTj1
import Derived.Test.YtobeamaaifgllaaEventTellsP1
namespace Go.Proofs.Ytobeamaaifgllaa
open Go Go.Rx
set_option maxRecDepth 100000
set_option linter.unusedSimpArgs false
set_option linter.unnecessarySimpa false
set_option linter.unusedVariables false

def db (d : Delta) : ByteArray := body (head d) d
theorem isD_few {d : Delta} (h : isD d = true) : Few d := by
  simp only [isD, fl4, okF, Bool.and_eq_true] at h
  obtain ⟨_, _, _, _, _, _, h0, h1, h2, h3⟩ := h
  have t0 := text_few h0.1; have t1 := text_few h1.1; have t2 := text_few h2.1; have t3 := text_few h3.1
  exact ⟨by omega, by omega, by omega, by omega⟩
theorem db_size {d : Delta} (h : Few d) : (db d).size ≤ 280 := by
  obtain ⟨f0, f1, f2, f3⟩ := h
  have hh := head_size d
  unfold db body
  have z1 := stage_size (head d) d.F.a0 (hs d.Mask 1) f0
  have z2 := stage_size (stage (head d) d.F.a0 (hs d.Mask 1)) d.F.a1 (hs d.Mask 2) f1
  have z3 := stage_size (stage (stage (head d) d.F.a0 (hs d.Mask 1)) d.F.a1 (hs d.Mask 2)) d.F.a2 (hs d.Mask 3) f2
  have z4 := stage_size (stage (stage (stage (head d) d.F.a0 (hs d.Mask 1)) d.F.a1 (hs d.Mask 2)) d.F.a2 (hs d.Mask 3)) d.F.a3 (hs d.Mask 4) f3
  omega
/-- What an event has behind its kind. -/
def evr (e : Event) : ByteArray := if e.Kind == 1 then tb e.Thing else if e.Kind == 2 then db e.Delta else pu e.ID
def evb (e : Event) : ByteArray := pu e.Kind ++ evr e
theorem evr_size {e : Event} (h : isEv e = true) : (evr e).size ≤ 280 := by
  unfold isEv at h
  unfold evr
  by_cases h1 : (e.Kind == 1) = true
  · rw [if_pos h1] at h ⊢
    simp only [Bool.and_eq_true] at h
    exact (tb_size h.1).1
  · rw [if_neg h1] at h ⊢
    by_cases h2 : (e.Kind == 2) = true
    · rw [if_pos h2] at h ⊢
      simp only [Bool.and_eq_true] at h
      exact db_size (isD_few h.1)
    · rw [if_neg h2]
      have := pu_size e.ID
      omega
theorem evb_size {e : Event} (h : isEv e = true) : (evb e).size ≤ 290 := by
  have := evr_size h; have := pu_size e.Kind
  unfold evb; rw [ba_size]; omega
theorem one_eq' {n : Nat} (hn : 10 ≤ n) {e : Event} (h : isEv e = true) : F82 n e = some (evb e) := by
  have hz := evr_size h
  have hp := pu_size e.Kind
  have hj : F82_j5 n e (evr e) = some (evb e) := by
    unfold F82_j5
    rw [pu_eq hn, Option.bind_some, if_pos (by omega)]
    rfl
  unfold F82
  unfold evr at hj
  unfold isEv at h
  by_cases h1 : (e.Kind == 1) = true
  · rw [if_pos h1] at h hj ⊢
    simp only [Bool.and_eq_true] at h
    rw [tbytes_eq hn, h.1]
    exact hj
  · rw [if_neg h1] at h hj ⊢
    by_cases h2 : (e.Kind == 2) = true
    · rw [if_pos h2] at h hj ⊢
      simp only [Bool.and_eq_true] at h
      rw [bytes_eq hn _ (isD_few h.1), h.1]
      exact hj
    · rw [if_neg h2] at hj ⊢
      rw [pu_eq hn]
      exact hj
theorem anyE_l (n : Nat) (l : List Event) (hl : l.length ≤ 100000) : ∀ (m i : Nat), i ≤ l.length → l.length - i < m →
    ∃ r : Int, F110s0_l4 n l m (i : Int) = some r ∧ decide (0 ≤ r) = !((l.drop i).all isEv)
  | 0, i, _, h => by omega
  | m + 1, i, hi, hm => by
    unfold F110s0_l4
    by_cases h : i < l.length
    · rw [if_pos (lt_dec h), ixg l i h, dropS l i h]
      unfold F81
      simp only [Option.bind_some, ev_is, List.all_cons]
      cases hE : isEv l[i] with
      | false => exact ⟨(i : Int), rfl, by simp⟩
      | true =>
        simp only [Bool.not_true, Bool.false_eq_true, if_false, Bool.true_and]
        rw [dsucc (by simp only [maxLen]; omega)]
        exact anyE_l n l hl m (i + 1) (by omega) (by omega)
    · rw [if_neg (by rw [ge_dec h]; decide), List.drop_of_length_le (by omega)]
      exact ⟨-1, rfl, rfl⟩
theorem anyE {n : Nat} {l : List Event} (hl : l.length ≤ 100000) (hn : l.length ≤ n) : F80s0 n l = some (!(l.all isEv)) := by
  unfold F80s0 F110s0
  obtain ⟨r, h1, h2⟩ := anyE_l n l hl (n + 8) 0 (by omega) (by omega)
  rw [List.drop_zero] at h2
  have h1' : F110s0_l4 n l (n + 8) 0 = some r := h1
  rw [h1', Option.bind_some, h2]
def catE : List Event → ByteArray
  | [] => ByteArray.empty
  | e :: l => evb e ++ catE l
theorem catE_size (l : List Event) (h : ∀ e ∈ l, isEv e = true) : (catE l).size ≤ 290 * l.length := by
  induction l with
  | nil => simp [catE]
  | cons e l ih =>
    have h1 := evb_size (h e List.mem_cons_self)
    have h2 := ih fun x hx => h x (List.mem_cons_of_mem _ hx)
    simp only [catE, ba_size, List.length_cons]; omega
theorem evs_l {n : Nat} (hn : 10 ≤ n) (l : List Event) (hl : l.length ≤ 400) (hE : ∀ e ∈ l, isEv e = true) : ∀ (m i : Nat) (s : ByteArray), i ≤ l.length → l.length - i < m → 1 ≤ s.size → s.size + 290 * (l.length - i) ≤ 200000 →
    F46_l10 n l m (i : Int) (bytesL s) = some (s ++ catE (l.drop i), 0)
  | 0, i, _, _, h, _, _ => by omega
  | m + 1, i, s, hi, hm, h1, hs => by
    unfold F46_l10
    by_cases h : i < l.length
    · have he := hE l[i] (List.getElem_mem h)
      have hz := evb_size he
      rw [if_pos (lt_dec h), ixg l i h, Option.bind_some, one_eq' hn he, Option.bind_some, bldAdd_s (by omega), Option.bind_some, dsucc (by simp only [maxLen]; omega)]
      rw [evs_l hn l hl hE m (i + 1) _ (by omega) (by omega) (by rw [ba_size]; omega) (by rw [ba_size]; omega), dropS l i h, catE, ba_assoc]
    · rw [if_neg (by rw [ge_dec h]; decide), bldStr_s h1, List.drop_of_length_le (by omega), catE]
      simp only [Option.bind_some]
      congr 2
      apply ba_ext; simp [ByteArray.data_append]
def evsB (l : List Event) : ByteArray × Int := if l.all isEv = false then (ByteArray.empty, 11) else if 400 < l.length then (ByteArray.empty, 13) else (pu (l.length : Int) ++ catE l, 0)
theorem evs_bytes {n : Nat} (hn : 10 ≤ n) {l : List Event} (hl : l.length ≤ 100000) (hn2 : l.length ≤ n) : F46 n l = some (evsB l) := by
  unfold F46 evsB
  rw [anyE hl hn2]
  simp only [Option.bind_some]
  cases hA : l.all isEv with
  | false => rfl
  | true =>
    simp only [Bool.not_true, Bool.false_eq_true, Bool.true_eq_false, if_false]
    by_cases h : 400 < l.length
    · rw [if_pos (by simp; omega), if_pos h]
    · have hp := pu_size (l.length : Int)
      have hA' : ∀ e ∈ l, isEv e = true := List.all_eq_true.1 hA
      have h0 : bldAdd ([] : List Int) (pu (l.length : Int)) = some (bytesL (pu (l.length : Int))) := by
        have := bldAdd_s (a := ByteArray.empty) (b := pu (l.length : Int)) (by have : ByteArray.empty.size = 0 := rfl; omega)
        rw [ba_nil] at this
        exact this
      rw [if_neg (by simp; omega), if_neg h, pu_eq hn, Option.bind_some, h0, Option.bind_some]
      have := evs_l hn l (by omega) hA' (n + 8) 0 (pu (l.length : Int)) (by omega) (by omega) hp.2 (by omega)
      rw [List.drop_zero] at this
      exact this
end Go.Proofs.Ytobeamaaifgllaa
