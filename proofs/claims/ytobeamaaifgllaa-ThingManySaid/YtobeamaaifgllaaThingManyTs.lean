/-
  Rows of things that were written are read. No condition.
-/
import Derived.Test.YtobeamaaifgllaaThingManyTo
import Derived.Test.YtobeamaaifgllaaThingManyP1
namespace Go.Proofs.Ytobeamaaifgllaa
open Go Go.Rx
set_option maxRecDepth 100000
set_option linter.unusedSimpArgs false
set_option linter.unnecessarySimpa false
set_option linter.unusedVariables false

def risP : Option Int → List Thing → Prop
  | _, [] => True
  | p, t :: l => (∀ q, p = some q → q < t.ID) ∧ risP (some t.ID) l
theorem allR_is : ∀ (l : List Thing) (p : Option Int) (s : ByteArray), ((allR p l s).2 = 0 ∧ (allR p l s).1 = s ++ catB l ∧ (∀ t ∈ l, isTh t = true) ∧ risP p l) ∨ ((allR p l s).2 = 11 ∧ (allR p l s).1 = ByteArray.empty)
  | [], p, s => .inl ⟨rfl, (ba_nil_r s).symm, fun t ht => by simp at ht, trivial⟩
  | t :: l, p, s => by
    cases h : isTh t with
    | false =>
      right
      unfold allR
      rw [h]
      exact ⟨rfl, rfl⟩
    | true =>
      have ih := allR_is l (some t.ID) (s ++ tb t)
      have cons : (∀ q, p = some q → q < t.ID) → (allR p (t :: l) s = allR (some t.ID) l (s ++ tb t)) := by
        intro hq
        conv => lhs; unfold allR
        rw [h]
        cases p with
        | none => rfl
        | some q =>
          have := hq q rfl
          simp only [Bool.true_eq_false, if_false]
          rw [if_neg (by omega)]
      by_cases hq : ∀ q, p = some q → q < t.ID
      · rw [cons hq]
        rcases ih with ⟨h1, h2, h3, h4⟩ | ih
        · refine .inl ⟨h1, ?_, ?_, hq, h4⟩
          · rw [h2, catB, ba_assoc]
          · intro x hx
            rcases List.mem_cons.1 hx with rfl | hx
            · exact h
            · exact h3 x hx
        · exact .inr ih
      · right
        cases p with
        | none => exact absurd (fun q e => by cases e) hq
        | some q =>
          have : t.ID ≤ q := by
            apply Int.not_lt.1
            intro hlt
            exact hq (fun q' e => by cases e; exact hlt)
          unfold allR
          rw [h]
          simp only [Bool.true_eq_false, if_false]
          rw [if_pos this]
          exact ⟨rfl, rfl⟩

theorem zsuccU {i : Nat} (h : i < 100000) : IntKind.wrap .u64 ((i : Int) + 1) = ((i + 1 : Nat) : Int) := by
  simp [IntKind.wrap, IntKind.bits, IntKind.signed]; omega
theorem takeS {α : Type} (l : List α) (i : Nat) (h : i < l.length) : l.take i ++ [l[i]] = l.take (i + 1) := by
  rw [List.take_add_one, List.getElem?_eq_getElem h]; rfl

section
variable {n : Nat} (hn : 10 ≤ n) (L : List Thing) (hL : L.length ≤ 200) (hT : ∀ t ∈ L, isTh t = true) (hW : ∀ t ∈ L, t.wf) (r1 : Int × Int × Int) (h1 : r1.1 = (L.length : Int))
include hn hL hT hW h1

/-- One more thing is read. -/
theorem some_step (m i : Nat) (A R : ByteArray) (hlt : i < L.length) (hA : A.size + 280 * (L.length - i) ≤ 80000) (hR : R.size ≤ 80000) (hp : ∀ q, prevI L i = some q → q < L[i].ID) :
    F32_l11 n (A ++ (tb L[i] ++ R)) r1 (m + 1) (A.size : Int) (L.take i) (i : Int) = F32_l11 n (A ++ tb L[i] ++ R) r1 m ((A ++ tb L[i]).size : Int) (L.take (i + 1)) ((i + 1 : Nat) : Int) := by
  have hmem : L[i] ∈ L := List.getElem_mem hlt
  have zt := tb_size (hT _ hmem)
  have hr := read_tb hn (hT _ hmem) (hW _ hmem) R (by omega)
  have hc : 0 ≤ (A.size : Int) ∧ (A.size : Int) ≤ ((A ++ (tb L[i] ++ R)).size : Int) := by rw [ba_size]; omega
  have et : ((A.size : Int)).toNat = A.size := rfl
  have e00 : ((0 : Int) != 0) = false := rfl
  have hlen : (L.take i).length = i := by rw [List.length_take]; omega
  have hcell : ((L.take i).length + 1) * 120 ≤ maxCells ∧ (L.take i).length + 1 ≤ maxCells := by rw [hlen]; simp only [maxCells]; omega
  have w : IntKind.wrap .i64 ((A.size : Int) + ((tb L[i]).size : Int)) = ((A ++ tb L[i]).size : Int) := by
    rw [ba_size, w64 (by omega) (by omega)]; push_cast; rfl
  have j14 : F32_j14 n (A.size : Int) (L.take i) (i : Int) (L[i], ((tb L[i]).size : Int), 0) (F32_l11 n (A ++ (tb L[i] ++ R)) r1 m) = F32_l11 n (A ++ tb L[i] ++ R) r1 m ((A ++ tb L[i]).size : Int) (L.take (i + 1)) ((i + 1 : Nat) : Int) := by
    unfold F32_j14
    rw [if_pos hcell, w, zsuccU (by omega), takeS L i hlt, ba_assoc]
  conv => lhs; unfold F32_l11
  rw [if_pos (by rw [decide_eq_true_eq, h1]; omega), if_pos hc, et, ext_app, hr]
  simp only [Option.bind_some, e00, Bool.false_eq_true, if_false, hlen]
  cases i with
  | zero =>
    have c : decide ((0 : Int) < ((0 : Nat) : Int)) = false := rfl
    simp only [c, Bool.false_eq_true, if_false]
    exact j14
  | succ j =>
    have c : decide ((0 : Int) < ((j + 1 : Nat) : Int)) = true := by rw [decide_eq_true_eq]; omega
    have hj : j < L.length := by omega
    have hx : ix (L.take (j + 1)) (j : Int) = some L[j] := by
      rw [ixg _ j (by rw [hlen]; omega)]
      simp
    have hq := hp _ (prevS L j hj)
    have hle : ¬ (L[j + 1].ID ≤ L[j].ID) := by omega
    have hx9 : maxLen = 9223372036854775807 := rfl
    rw [if_pos c, pred_w (by omega), hx]
    simp only [Option.bind_some, hle, decide_false, Bool.false_eq_true, if_false]
    exact j14

theorem some_back (T : ByteArray) (hTl : T.size ≤ 50) : ∀ (m i : Nat) (A : ByteArray), i ≤ L.length → L.length - i < m → A.size + 280 * (L.length - i) ≤ 70000 → risP (prevI L i) (L.drop i) →
    F32_l11 n (A ++ (catB (L.drop i) ++ T)) r1 m (A.size : Int) (L.take i) (i : Int) = some (L, ((A ++ catB (L.drop i)).size : Int), 0)
  | 0, i, A, _, h, _, _ => by omega
  | m + 1, i, A, hi, hm, hA, hp => by
    by_cases hlt : i < L.length
    · have hd := dropS L i hlt
      have hmem : L[i] ∈ L := List.getElem_mem hlt
      have zt := tb_size (hT _ hmem)
      have zr : (catB (L.drop (i + 1))).size ≤ 280 * (L.length - (i + 1)) := by
        have := catB_size (L.drop (i + 1)) (fun t ht => hT t (List.mem_of_mem_drop ht))
        simpa using this
      rw [hd] at hp
      obtain ⟨hp1, hp2⟩ := hp
      have st := some_step hn L hL hT hW r1 h1 m i A (catB (L.drop (i + 1)) ++ T) hlt (by omega) (by rw [ba_size]; omega) hp1
      have ih := some_back T hTl m (i + 1) (A ++ tb L[i]) (by omega) (by omega) (by rw [ba_size]; omega) (by rw [prevS L i hlt]; exact hp2)
      rw [hd, catB]
      have e1 : A ++ (tb L[i] ++ catB (L.drop (i + 1)) ++ T) = A ++ (tb L[i] ++ (catB (L.drop (i + 1)) ++ T)) := by simp only [ba_assoc]
      have e2 : A ++ (tb L[i] ++ catB (L.drop (i + 1))) = A ++ tb L[i] ++ catB (L.drop (i + 1)) := by simp only [ba_assoc]
      rw [e1, st, ih, e2]
    · have : i = L.length := by omega
      subst this
      unfold F32_l11
      rw [if_neg (by rw [decide_eq_true_eq, h1]; omega), List.drop_length, List.take_length]
      simp only [catB, ba_nil_r]

end

theorem same_l (n : Nat) (l : List Thing) (hl : l.length ≤ 5000) : ∀ (m i : Nat), i ≤ l.length → l.length - i < m → F34_l4 n l l m (i : Int) = some true
  | 0, i, _, h => by omega
  | m + 1, i, hi, h => by
    unfold F34_l4
    have hx : maxLen = 9223372036854775807 := rfl
    by_cases hlt : i < l.length
    · rw [if_pos (by rw [decide_eq_true_eq]; omega), ixg l i hlt]
      simp only [Option.bind_some, Thing.eqb_refl, Bool.not_true, Bool.false_eq_true, if_false]
      rw [dsucc (by omega)]
      exact same_l n l hl m (i + 1) (by omega) (by omega)
    · rw [if_neg (by rw [decide_eq_true_eq]; omega)]
theorem same_refl {n : Nat} {l : List Thing} (hl : l.length ≤ 5000) (hn : l.length ≤ n) : F34 n l l = some true := by
  unfold F34
  have := same_l n l hl (n + 8) 0 (by omega) (by omega)
  simp only [bne_self_eq_false, Bool.false_eq_true, if_false]
  simpa using this

end Go.Proofs.Ytobeamaaifgllaa
