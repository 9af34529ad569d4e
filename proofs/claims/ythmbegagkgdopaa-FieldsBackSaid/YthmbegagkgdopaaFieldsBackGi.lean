/-
  FieldsBack, in plain Lean. No condition.
-/
import Derived.Test.YthmbegagkgdopaaFieldsBackGh
import Derived.Test.YthmbegagkgdopaaFieldsBackP2
namespace Go.Proofs.Ythmbegagkgdopaa
open Go Go.Rx
set_option maxRecDepth 100000
set_option linter.unusedSimpArgs false
set_option linter.unnecessarySimpa false
set_option linter.unusedVariables false

theorem isT (n : Nat) (t : Thing) : ∃ b, F31 n t = some b ∧ (b = true → (0 ≤ t.ID ∧ t.ID ≤ 1000000) ∧ on t.At = true ∧ isF t.F.a0 = true ∧ isF t.F.a1 = true ∧ isF t.F.a2 = true ∧ isF t.F.a3 = true) := by
  have hf : F31_j3 n t false = some false := rfl
  unfold F31
  simp only [ron_eq, Option.bind_some, hf]
  by_cases h1 : 0 ≤ t.ID
  · by_cases h2 : t.ID ≤ 1000000
    · simp only [h1, h2, decide_true, if_true]
      cases ho : on t.At with
      | false => exact ⟨false, hf, by simp⟩
      | true =>
        refine ⟨isF t.F.a0 && (isF t.F.a1 && (isF t.F.a2 && isF t.F.a3)), ?_, fun h => ?_⟩
        · unfold F31_j3 F31_u6 F31_u9 F31_u12 F31_u15
          simp only [risF_eq, Option.bind_some]
          cases isF t.F.a0 <;> cases isF t.F.a1 <;> cases isF t.F.a2 <;> cases isF t.F.a3 <;> rfl
        · simp only [Bool.and_eq_true] at h
          exact ⟨⟨trivial, trivial⟩, rfl, h⟩
    · simp only [h1, h2, decide_true, decide_false, if_true, Bool.false_eq_true, if_false]
      exact ⟨false, rfl, by simp⟩
  · simp only [h1, decide_false, Bool.false_eq_true, if_false]
    exact ⟨false, rfl, by simp⟩
theorem msk_in : ∀ a0 a1 a2 a3 a4 : Bool, decide (0 ≤ msk a0 a1 a2 a3 a4) = true ∧ decide ((31 : Int) < msk a0 a1 a2 a3 a4) = false := by decide +kernel
theorem noF_is : isF noF = true := by decide +kernel
theorem okp {f : Field} (hf : isF f = true) (e : Bool) : okF (pick e f noF) e = true := by
  have z : Field.eqb noF noF = true := (Field.eqb_iff _ _).2 rfl
  cases e with
  | false => simp [pick, okF, noF_is, z]
  | true => simp [pick, okF, hf]
theorem dl_fld (a c : Thing) (hne : (mk a c != 0) = true) (hid : 0 ≤ c.ID ∧ c.ID ≤ 1000000) (hon : on c.At = true) (f0 : isF c.F.a0 = true) (f1 : isF c.F.a1 = true) (f2 : isF c.F.a2 = true) (f3 : isF c.F.a3 = true)
    (n0 : -9223372036854775808 ≤ c.F.a0.N ∧ c.F.a0.N < 9223372036854775808) (n1 : -9223372036854775808 ≤ c.F.a1.N ∧ c.F.a1.N < 9223372036854775808) (n2 : -9223372036854775808 ≤ c.F.a2.N ∧ c.F.a2.N < 9223372036854775808) (n3 : -9223372036854775808 ≤ c.F.a3.N ∧ c.F.a3.N < 9223372036854775808) : Fld (dl a c) := by
  obtain ⟨m1, m2⟩ := msk_in (cA a c) (c0 a c) (c1 a c) (c2 a c) (c3 a c)
  obtain ⟨h0, h1, h2, h3⟩ := msk_has (cA a c) (c0 a c) (c1 a c) (c2 a c) (c3 a c)
  rw [has0] at h0; rw [has1] at h1; rw [has2] at h2; rw [has3] at h3
  have h0 := Option.some.inj h0; have h1 := Option.some.inj h1; have h2 := Option.some.inj h2; have h3 := Option.some.inj h3
  have hA : a1 (dl a c) = cA a c := msk_at _ _ _ _ _
  have pN : ∀ (f : Field) (e : Bool), (-9223372036854775808 ≤ f.N ∧ f.N < 9223372036854775808) → -9223372036854775808 ≤ (pick e f noF).N ∧ (pick e f noF).N < 9223372036854775808 := by
    intro f e h
    cases e with
    | false => exact (show -9223372036854775808 ≤ (0 : Int) ∧ (0 : Int) < 9223372036854775808 by omega)
    | true => exact h
  refine ⟨of_decide_eq_true m1, ?_, pN _ _ n0, pN _ _ n1, pN _ _ n2, pN _ _ n3⟩
  have hfl : fl4 (dl a c) = true := by
    unfold fl4
    show (okF (pick (c0 a c) c.F.a0 noF) (hs (mk a c) 1) && (okF (pick (c1 a c) c.F.a1 noF) (hs (mk a c) 2) && (okF (pick (c2 a c) c.F.a2 noF) (hs (mk a c) 3) && okF (pick (c3 a c) c.F.a3 noF) (hs (mk a c) 4)))) = true
    unfold mk
    rw [h0, h1, h2, h3, okp f0, okp f1, okp f2, okp f3]; rfl
  have hat : on (pick (cA a c) c.At noP) = true := by
    cases cA a c with
    | false => rfl
    | true => exact hon
  have hp : (cA a c || Point.eqb (pick (cA a c) c.At noP) noP) = true := by
    cases cA a c with
    | false => rfl
    | true => rfl
  unfold isD
  rw [hfl, hA]
  show (!(decide (c.ID < 0)) && (!(decide ((1000000 : Int) < c.ID)) && (!(mk a c == 0) && (!(decide ((31 : Int) < mk a c)) && ((cA a c || Point.eqb (pick (cA a c) c.At noP) noP) && (on (pick (cA a c) c.At noP) && true)))))) = true
  have z1 : decide (c.ID < 0) = false := by simp; omega
  have z2 : decide ((1000000 : Int) < c.ID) = false := by simp; omega
  have z3 : (mk a c == 0) = false := by
    have := hne
    simp only [bne, Bool.not_eq_true'] at this
    exact this
  have z4 : decide ((31 : Int) < mk a c) = false := m2
  rw [z1, z2, z3, z4, hp, hat]; rfl
theorem i64_in {x : Int} (h : (Lit.int .i64 x).wf = true) : -9223372036854775808 ≤ x ∧ x < 9223372036854775808 := by
  simp [Lit.wf, IntKind.min, IntKind.max, IntKind.bits, IntKind.signed] at h; omega
theorem fieldsBack_pure (a b : Thing) (t : ByteArray) (_ : a.wf) (wb : b.wf) (_ : t.size ≤ maxLen) : ∃ n, F5 n a b t = some true := by
  refine ⟨400, ?_⟩
  unfold F5
  obtain ⟨x1, e1⟩ := few1 400 a
  obtain ⟨x2, e2⟩ := few1 400 b
  obtain ⟨y1, g1, k1⟩ := isT 400 a
  obtain ⟨y2, g2, k2⟩ := isT 400 b
  simp only [Option.bind_some, Bool.not_true, Bool.false_eq_true, if_false, e1, e2, g1, g2]
  cases x1 with
  | false => rfl
  | true => cases x2 with
    | false => rfl
    | true =>
      by_cases ht : 50 < (t.size : Int)
      · simp [ht]
      · simp only [ht, decide_false, Bool.not_true, Bool.false_eq_true, if_false]
        cases y1 with
        | false => rfl
        | true => cases y2 with
          | false => rfl
          | true =>
            obtain ⟨ida, ona, _⟩ := k1 rfl
            obtain ⟨_, onb, f0, f1, f2, f3⟩ := k2 rfl
            simp only [Bool.not_true, Bool.false_eq_true, if_false, diff_eq, Option.bind_some]
            cases h : (mk a ⟨a.ID, b.At, b.F⟩ != 0) with
            | false =>
              obtain ⟨q1, q2⟩ := mk_no h
              simp only at q1 q2
              have : Thing.eqb a ⟨a.ID, b.At, b.F⟩ = true := by rw [Thing.eqb_iff]; cases a; simp_all
              simp only [Bool.not_false, if_true, this]
            | true =>
              have wF := wb.2.2
              have H := dl_fld a ⟨a.ID, b.At, b.F⟩ h ida onb f0 f1 f2 f3 (i64_in wF.1.1) (i64_in wF.2.1.1) (i64_in wF.2.2.1.1) (i64_in wF.2.2.2.1)
              obtain ⟨o0, o1, o2, o3⟩ := fl_is H.is
              have few : Few (dl a ⟨a.ID, b.At, b.F⟩) := ⟨by have := text12 (okF_is o0).1; omega, by have := text12 (okF_is o1).1; omega, by have := text12 (okF_is o2).1; omega, by have := text12 (okF_is o3).1; omega⟩
              have kk0 := gb_size _ (hs (dl a ⟨a.ID, b.At, b.F⟩).Mask 1) few.1
              have kk1 := gb_size _ (hs (dl a ⟨a.ID, b.At, b.F⟩).Mask 2) few.2.1
              have kk2 := gb_size _ (hs (dl a ⟨a.ID, b.At, b.F⟩).Mask 3) few.2.2.1
              have kk3 := gb_size _ (hs (dl a ⟨a.ID, b.At, b.F⟩).Mask 4) few.2.2.2
              have kh := head_size (dl a ⟨a.ID, b.At, b.F⟩)
              have hsz : (body (head (dl a ⟨a.ID, b.At, b.F⟩)) (dl a ⟨a.ID, b.At, b.F⟩)).size + t.size ≤ 9223372036854775807 := by
                rw [body_is]; simp only [ba_size]; unfold Go.Proofs.Ythmbegagkgdopaa.g0 Go.Proofs.Ythmbegagkgdopaa.g1 Go.Proofs.Ythmbegagkgdopaa.g2 Go.Proofs.Ythmbegagkgdopaa.g3; omega
              have hb : F20 400 (dl a ⟨a.ID, b.At, b.F⟩) = some (body (head (dl a ⟨a.ID, b.At, b.F⟩)) (dl a ⟨a.ID, b.At, b.F⟩), 0) := by
                rw [bytes_eq (by omega) _ few, H.is]; rfl
              have hr := read_back 400 (by omega) (dl a ⟨a.ID, b.At, b.F⟩) H t (by omega)
              have self : (mk (⟨a.ID, b.At, b.F⟩ : Thing) ⟨a.ID, b.At, b.F⟩ != 0) = false := by
                have p : ∀ x : Point, Point.eqb x x = true := fun x => (Point.eqb_iff x x).2 rfl
                have q : ∀ x : Field, Field.eqb x x = true := fun x => (Field.eqb_iff x x).2 rfl
                unfold mk cA c0 c1 c2 c3
                simp only [p, q]
                rfl
              have de : ∀ x : Delta, Delta.eqb x x = true := fun x => (Delta.eqb_iff x x).2 rfl
              have idq : ((dl a ⟨a.ID, b.At, b.F⟩).ID == a.ID) = true := by simp [dl]
              simp only [hb, Option.bind_some, Bool.not_true, Bool.false_eq_true, if_false]
              rw [if_pos hsz, hr]
              simp only [Option.bind_some, apply_eq, diff_eq, beq_self_eq_true, if_true, Thing.eqb_refl, h, de, self, Bool.not_false, idq]
end Go.Proofs.Ythmbegagkgdopaa
