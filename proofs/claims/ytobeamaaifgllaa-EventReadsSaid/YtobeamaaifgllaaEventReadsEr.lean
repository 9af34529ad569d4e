/-
  Reading events: both ways alike; EventReads. No condition.
-/
import Derived.Test.YtobeamaaifgllaaEventReadsTm0
import Derived.Test.YtobeamaaifgllaaEventReadsEa
import Derived.Test.YtobeamaaifgllaaEventReadsP1
namespace Go.Proofs.Ytobeamaaifgllaa
open Go Go.Rx
set_option maxRecDepth 100000
set_option linter.unusedSimpArgs false
set_option linter.unnecessarySimpa false
set_option linter.unusedVariables false

def OneR (s : ByteArray) (r r' : Event × Int × Int) : Prop := (r.2.2 = 0 ∧ r = r' ∧ 0 ≤ r.2.1 ∧ r.2.1 ≤ (s.size : Int)) ∨ (r.2.2 ≠ 0 ∧ r.2.2 = r'.2.2)
theorem one_eq {n : Nat} {s : ByteArray} (hs : s.size ≤ 100000) (hn : s.size ≤ n) : ∃ r r', F95 n s = some r ∧ F96 n s = some r' ∧ OneR s r r' := by
  obtain ⟨k, q1, q2, q3⟩ := get_eq n s hs hn
  unfold F95 F96
  simp only [q1, q2, Option.bind_some, noT_is, noD_is]
  rcases q3 with ⟨e0, k1, k2, u0, u1⟩ | ⟨e0, t0, k0⟩
  · have hb : (k.2.2 != 0) = false := by simp [e0]
    have hc : 0 ≤ k.2.1 ∧ k.2.1 ≤ (s.size : Int) := by omega
    have z := ext_size s k.2.1 hc.1 hc.2
    have wk : IntKind.wrap .i64 (imin k.1 4) = imin k.1 4 := by unfold imin; split <;> exact w64 (by omega) (by omega)
    simp only [hb, Bool.false_eq_true, if_false, wk, if_pos hc]
    by_cases h1 : k.1 = 1
    · have i1 : imin k.1 4 = 1 := by rw [h1]; rfl
      obtain ⟨r, p1, p2, p3⟩ := readT (n := n) (s := s.extract k.2.1.toNat s.size) (by omega) (by omega)
      have c1 : (k.1 == 1) = true := by simp [h1]
      simp only [i1, c1, beq_self_eq_true, if_true, p1, p2, Option.bind_some]
      unfold F95_j31 F95_j34
      rw [wk, i1]
      by_cases he : r.2.2 = 0
      · obtain ⟨hbd, hth⟩ := p3 he
        have hev : isEv (Event.mk 1 r.1.ID r.1 noD) = true := by
          unfold isEv
          simp [hth, Delta.eqb_refl]
        have ht : Thing.mk r.1.ID (Point.mk r.1.At.X r.1.At.Y) (A4.mk (Field.mk r.1.F.a0.N r.1.F.a0.Text) (Field.mk r.1.F.a1.N r.1.F.a1.Text) (Field.mk r.1.F.a2.N r.1.F.a2.Text) (Field.mk r.1.F.a3.N r.1.F.a3.Text)) = r.1 := rfl
        simp only [ht, noD_is, ev_is, hev, Option.bind_some, he, beq_self_eq_true, if_true, Bool.not_true, Bool.false_eq_true, if_false]
        refine ⟨_, _, rfl, rfl, .inl ⟨rfl, ?_, ?_⟩⟩
        · rfl
        · have wa : IntKind.wrap .i64 (k.2.1 + r.2.1) = k.2.1 + r.2.1 := w64 (by omega) (by omega)
          simp only [wa]; omega
      · have c : (r.2.2 == 0) = false := by simp [he]
        simp only [c, Bool.false_eq_true, if_false]
        exact ⟨_, _, rfl, rfl, .inr ⟨he, rfl⟩⟩
    · by_cases h2 : k.1 = 2
      · have i1 : imin k.1 4 = 2 := by rw [h2]; rfl
        obtain ⟨r, p1, p2, p3⟩ := read_eq n (s.extract k.2.1.toNat s.size) (by omega) (by omega)
        have c1 : (k.1 == 1) = false := by simp [h1]
        have c2 : (k.1 == 2) = true := by simp [h2]
        have d1 : ((2 : Int) == 1) = false := rfl
        simp only [i1, c1, c2, d1, beq_self_eq_true, if_true, Bool.false_eq_true, if_false, p1, p2, Option.bind_some]
        unfold F95_j31 F95_j34
        rw [wk, i1]
        by_cases he : r.2.2 = 0
        · obtain ⟨hbd, hth⟩ := p3 he
          have hev : isEv (Event.mk 2 r.1.ID noT r.1) = true := by
            unfold isEv
            simp [hth, Thing.eqb_refl]
          have ht : Delta.mk r.1.ID r.1.Mask (Point.mk r.1.At.X r.1.At.Y) (A4.mk (Field.mk r.1.F.a0.N r.1.F.a0.Text) (Field.mk r.1.F.a1.N r.1.F.a1.Text) (Field.mk r.1.F.a2.N r.1.F.a2.Text) (Field.mk r.1.F.a3.N r.1.F.a3.Text)) = r.1 := rfl
          simp only [ht, noT_is, ev_is, hev, Option.bind_some, he, beq_self_eq_true, if_true, Bool.not_true, Bool.false_eq_true, if_false]
          refine ⟨_, _, rfl, rfl, .inl ⟨rfl, ?_, ?_⟩⟩
          · rfl
          · have wa : IntKind.wrap .i64 (k.2.1 + r.2.1) = k.2.1 + r.2.1 := w64 (by omega) (by omega)
            simp only [wa]; omega
        · have c : (r.2.2 == 0) = false := by simp [he]
          simp only [c, Bool.false_eq_true, if_false]
          exact ⟨_, _, rfl, rfl, .inr ⟨he, rfl⟩⟩
      · by_cases h3 : k.1 = 3
        · have i1 : imin k.1 4 = 3 := by rw [h3]; rfl
          obtain ⟨r, p1, p2, p3⟩ := get_eq n (s.extract k.2.1.toNat s.size) (by omega) (by omega)
          have c1 : (k.1 == 1) = false := by simp [h1]
          have c2 : (k.1 == 2) = false := by simp [h2]
          have c3 : (k.1 == 3) = true := by simp [h3]
          have d1 : ((3 : Int) == 1) = false := rfl
          have d2 : ((3 : Int) == 2) = false := rfl
          simp only [i1, c1, c2, c3, d1, d2, beq_self_eq_true, if_true, Bool.false_eq_true, if_false, p1, p2, Option.bind_some]
          unfold F95_j31 F95_j34 F96_j6
          rw [wk, i1]
          rcases p3 with ⟨f0, l1, l2, v0, v1⟩ | ⟨f0, s0, l0⟩
          · have wa : IntKind.wrap .i64 (k.2.1 + r.2.1) = k.2.1 + r.2.1 := w64 (by omega) (by omega)
            have wi : IntKind.wrap .i64 (imin r.1 1000001) = imin r.1 1000001 := by unfold imin; split <;> exact w64 (by omega) (by omega)
            have wj : IntKind.wrap .i64 (imin r.1 1000000) = imin r.1 1000000 := by unfold imin; split <;> exact w64 (by omega) (by omega)
            have c : (r.2.2 == 0) = true := by simp [f0]
            simp only [c, if_true, noT_is, noD_is, ev_is, wi, wj, wa, Option.bind_some]
            by_cases hid : 1000000 < r.1
            · have j1 : imin r.1 1000001 = 1000001 := by unfold imin; split <;> omega
              have hev : isEv (Event.mk 3 1000001 noT noD) = false := by
                unfold isEv
                simp
              simp only [j1, hev, hid, decide_true, if_true, Bool.not_false]
              exact ⟨_, _, rfl, rfl, .inr ⟨show (11 : Int) ≠ 0 by decide, rfl⟩⟩
            · have j1 : imin r.1 1000001 = r.1 := by unfold imin; split <;> omega
              have j2 : imin r.1 1000000 = r.1 := by unfold imin; split <;> omega
              have hev : isEv (Event.mk 3 r.1 noT noD) = true := by
                unfold isEv
                have : r.1 ≤ 1000000 := by omega
                simp [Thing.eqb_refl, Delta.eqb_refl, v0, this]
              simp only [j1, j2, hev, hid, decide_false, Bool.false_eq_true, if_false, Bool.not_true]
              exact ⟨_, _, rfl, rfl, .inl ⟨f0, rfl, by simp only; omega, by simp only; omega⟩⟩
          · have c : (r.2.2 == 0) = false := by simp [f0]
            simp only [c, Bool.false_eq_true, if_false]
            exact ⟨_, _, rfl, rfl, .inr ⟨f0, rfl⟩⟩
        · have i1 : imin k.1 4 = 0 ∨ imin k.1 4 = 4 := by unfold imin; split <;> omega
          have n1 : imin k.1 4 ≠ 1 ∧ imin k.1 4 ≠ 2 ∧ imin k.1 4 ≠ 3 := by omega
          have c1 : (k.1 == 1) = false := by simp [h1]
          have c2 : (k.1 == 2) = false := by simp [h2]
          have c3 : (k.1 == 3) = false := by simp [h3]
          have d1 : (imin k.1 4 == 1) = false := by simp [n1.1]
          have d2 : (imin k.1 4 == 2) = false := by simp [n1.2.1]
          have d3 : (imin k.1 4 == 3) = false := by simp [n1.2.2]
          simp only [c1, c2, c3, d1, d2, d3, Bool.false_eq_true, if_false]
          unfold F95_j31 F95_j34
          rw [wk]
          have hev : ∀ i t d, isEv (Event.mk (imin k.1 4) i t d) = false := by
            intro i t d
            unfold isEv
            simp only [d1, d2, d3, Bool.false_eq_true, if_false]
          have c : (k.2.2 == 0) = true := by simp [e0]
          simp only [c, if_true, ev_is, hev, Option.bind_some, Bool.not_false]
          exact ⟨_, _, rfl, rfl, .inr ⟨show (11 : Int) ≠ 0 by decide, rfl⟩⟩
  · have hb : (k.2.2 != 0) = true := by simp [e0]
    simp only [hb, if_true]
    exact ⟨_, _, rfl, rfl, .inr ⟨e0, rfl⟩⟩

theorem ev_l {n : Nat} {s : ByteArray} (hs : s.size ≤ 100000) (hn : s.size ≤ n) (r1 : Int × Int × Int) (h0 : 0 ≤ r1.1) (h1 : r1.1 ≤ 400) : ∀ (m i : Nat) (a : Int) (l : List Event), l.length = i → (i : Int) ≤ r1.1 → r1.1.toNat - i < m → 0 ≤ a → a ≤ (s.size : Int) →
    ∃ r, F54_l11 n s r1 m a l (i : Int) = some r ∧ F55_l11 n s r1 m a l (i : Int) = some r ∧ r.1.length ≤ 400
  | 0, i, a, l, _, _, h, _, _ => by omega
  | m + 1, i, a, l, hl, hi, hm, a0, a1 => by
    unfold F54_l11 F55_l11
    have w1 : IntKind.wrap .i64 r1.1 = r1.1 := w64 (by omega) (by omega)
    rw [w1]
    by_cases hlt : (i : Int) < r1.1
    · have z := ext_size s a a0 a1
      obtain ⟨r, r', q1, q2, hb⟩ := one_eq (n := n) (s := s.extract a.toNat s.size) (by omega) (by omega)
      have hc : 0 ≤ a ∧ a ≤ (s.size : Int) := ⟨a0, a1⟩
      rw [if_pos (decide_eq_true hlt), if_pos (decide_eq_true hlt), if_pos hc, if_pos hc]
      simp only [q1, q2, Option.bind_some]
      rcases hb with ⟨he, rfl, k0, k1⟩ | ⟨he, he2⟩
      · have h : (r.2.2 != 0) = false := by simp [he]
        have wa : IntKind.wrap .i64 (a + r.2.1) = a + r.2.1 := w64 (by omega) (by omega)
        have hcell : ((l.length) + 1) * 264 ≤ maxCells ∧ (l.length) + 1 ≤ maxCells := by simp only [maxCells]; omega
        simp only [h, Bool.false_eq_true, if_false]
        rw [if_pos hcell, if_pos hcell, wa, zsuccU (by omega), zsucc (by omega)]
        exact ev_l hs hn r1 h0 h1 m (i + 1) (a + r.2.1) (l ++ [r.1]) (by simp [hl]) (by omega) (by omega) (by omega) (by omega)
      · have h : (r.2.2 != 0) = true := by simp [he]
        have h' : (r'.2.2 != 0) = true := by rw [← he2]; exact h
        simp only [h, h', if_true, he2]
        exact ⟨_, rfl, rfl, by simp⟩
    · rw [if_neg (by simp [hlt]), if_neg (by simp [hlt])]
      exact ⟨_, rfl, rfl, by simp only; omega⟩
theorem evs_eq {n : Nat} {s : ByteArray} (hs : s.size ≤ 100000) (hn : s.size ≤ n) (hn2 : 500 ≤ n) : ∃ r, F54 n s = some r ∧ F55 n s = some r ∧ r.1.length ≤ 400 := by
  obtain ⟨r, q1, q2, q3⟩ := get_eq n s hs hn
  unfold F54 F55
  simp only [q1, q2, Option.bind_some]
  rcases q3 with ⟨e0, k1, k2, u0, u1⟩ | ⟨e0, t0, k0⟩
  · have hb : (r.2.2 != 0) = false := by simp [e0]
    simp only [hb, Bool.false_eq_true, if_false]
    by_cases c : 400 < r.1
    · simp only [c, decide_true, if_true]
      exact ⟨_, rfl, rfl, by simp⟩
    · simp only [c, decide_false, Bool.false_eq_true, if_false]
      have := ev_l hs hn r u0 (by omega) (n + 8) 0 r.2.1 [] rfl u0 (by omega) (by omega) k2
      simpa using this
  · have hb : (r.2.2 != 0) = true := by simp [e0]
    simp only [hb, if_true]
    exact ⟨_, rfl, rfl, by simp⟩
theorem sameEv_l (n : Nat) (l : List Event) (hl : l.length ≤ 5000) : ∀ (m i : Nat), i ≤ l.length → l.length - i < m → F50_l4 n l l m (i : Int) = some true
  | 0, i, _, h => by omega
  | m + 1, i, hi, h => by
    unfold F50_l4
    by_cases hlt : i < l.length
    · rw [if_pos (by rw [decide_eq_true_eq]; omega), zixg l i hlt]
      simp only [Option.bind_some, Event.eqb_refl, Bool.not_true, Bool.false_eq_true, if_false]
      rw [zsucc (by omega)]
      exact sameEv_l n l hl m (i + 1) (by omega) (by omega)
    · rw [if_neg (by rw [decide_eq_true_eq]; omega)]
theorem sameEv_refl {n : Nat} {l : List Event} (hl : l.length ≤ 5000) (hn : l.length ≤ n) : F50 n l l = some true := by
  unfold F50
  have := sameEv_l n l hl (n + 8) 0 (by omega) (by omega)
  simp only [bne_self_eq_false, Bool.false_eq_true, if_false]
  simpa using this
theorem eventReads_pure (a0 : ByteArray) (_ : a0.size ≤ maxLen) : ∃ n, F11 n a0 = some true := by
  refine ⟨1000, ?_⟩
  unfold F11
  simp only [Option.bind_some, Bool.not_true, Bool.false_eq_true, if_false]
  by_cases h : 800 < (a0.size : Int)
  · simp [h]
  · obtain ⟨x, x1, x2, x3⟩ := evs_eq (n := 1000) (s := a0) (by omega) (by omega) (by omega)
    simp only [h, decide_false, Bool.false_eq_true, if_false, x1, x2, Option.bind_some, if_true, beq_self_eq_true, sameEv_refl (n := 1000) (l := x.1) (by omega) (by omega)]
end Go.Proofs.Ytobeamaaifgllaa
