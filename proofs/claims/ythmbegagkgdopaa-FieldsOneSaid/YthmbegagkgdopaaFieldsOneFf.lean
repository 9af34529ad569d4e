/-
  One field that is changed. No condition.
-/
import Derived.Test.YthmbegagkgdopaaFieldsOneFe
import Derived.Test.YthmbegagkgdopaaFieldsOneP2
namespace Go.Proofs.Ythmbegagkgdopaa
open Go Go.Rx
set_option maxRecDepth 100000
set_option linter.unusedSimpArgs false
set_option linter.unnecessarySimpa false
set_option linter.unusedVariables false

def oneA : Thing := ⟨7, ⟨1, 2⟩, ⟨noF, noF, noF, noF⟩⟩
def oneB (f : Field) (e0 e1 e2 e3 : Bool) : Thing := ⟨7, ⟨1, 2⟩, ⟨pick e0 f noF, pick e1 f noF, pick e2 f noF, pick e3 f noF⟩⟩
def oneD (f : Field) (e0 e1 e2 e3 : Bool) : Delta := ⟨7, msk false e0 e1 e2 e3, noP, ⟨pick e0 f noF, pick e1 f noF, pick e2 f noF, pick e3 f noF⟩⟩
def One (e0 e1 e2 e3 : Bool) : Prop := (e0 = true ∧ e1 = false ∧ e2 = false ∧ e3 = false) ∨ (e0 = false ∧ e1 = true ∧ e2 = false ∧ e3 = false) ∨ (e0 = false ∧ e1 = false ∧ e2 = true ∧ e3 = false) ∨ (e0 = false ∧ e1 = false ∧ e2 = false ∧ e3 = true)
theorem noF_refl : Field.eqb noF noF = true := (Field.eqb_iff _ _).2 rfl
theorem eq_pick {f : Field} (h : f ≠ noF) (e : Bool) : (!(Field.eqb noF (pick e f noF))) = e := by
  cases e with
  | false => simp [pick, noF_refl]
  | true =>
    have : Field.eqb noF f = false := by
      rw [Bool.eq_false_iff]; intro hh; exact h ((Field.eqb_iff _ _).1 hh).symm
    simp [pick, this]
theorem pick_pick {f : Field} (e : Bool) : pick e (pick e f noF) noF = pick e f noF := by cases e <;> rfl
theorem one_dl {f : Field} (h : f ≠ noF) (e0 e1 e2 e3 : Bool) : dl oneA (oneB f e0 e1 e2 e3) = oneD f e0 e1 e2 e3 ∧ mk oneA (oneB f e0 e1 e2 e3) = msk false e0 e1 e2 e3 := by
  have hA : cA oneA (oneB f e0 e1 e2 e3) = false := rfl
  have h0 : c0 oneA (oneB f e0 e1 e2 e3) = e0 := eq_pick h e0
  have h1 : c1 oneA (oneB f e0 e1 e2 e3) = e1 := eq_pick h e1
  have h2 : c2 oneA (oneB f e0 e1 e2 e3) = e2 := eq_pick h e2
  have h3 : c3 oneA (oneB f e0 e1 e2 e3) = e3 := eq_pick h e3
  have hm : mk oneA (oneB f e0 e1 e2 e3) = msk false e0 e1 e2 e3 := by unfold mk; rw [hA, h0, h1, h2, h3]
  refine ⟨?_, hm⟩
  unfold dl
  rw [hm, hA, h0, h1, h2, h3]
  simp only [oneB, oneD, pick_pick]
  rfl
theorem one_hs (e0 e1 e2 e3 : Bool) : hs (msk false e0 e1 e2 e3) 1 = e0 ∧ hs (msk false e0 e1 e2 e3) 2 = e1 ∧ hs (msk false e0 e1 e2 e3) 3 = e2 ∧ hs (msk false e0 e1 e2 e3) 4 = e3 := by
  obtain ⟨h0, h1, h2, h3⟩ := msk_has false e0 e1 e2 e3
  rw [has0] at h0; rw [has1] at h1; rw [has2] at h2; rw [has3] at h3
  exact ⟨Option.some.inj h0, Option.some.inj h1, Option.some.inj h2, Option.some.inj h3⟩
theorem one_ok {f : Field} (hf : isF f = true) (e0 e1 e2 e3 : Bool) (ho : One e0 e1 e2 e3) : isD (oneD f e0 e1 e2 e3) = true ∧ body (head (oneD f e0 e1 e2 e3)) (oneD f e0 e1 e2 e3) = stage (pu 7 ++ pu (msk false e0 e1 e2 e3)) f true ∧ 0 ≤ msk false e0 e1 e2 e3 ∧ msk false e0 e1 e2 e3 < 128 ∧ (msk false e0 e1 e2 e3 != 0) = true := by
  obtain ⟨h1, h2, h3, h4⟩ := one_hs e0 e1 e2 e3
  have hA : a1 (oneD f e0 e1 e2 e3) = false := msk_at false e0 e1 e2 e3
  have hh : head (oneD f e0 e1 e2 e3) = pu 7 ++ pu (msk false e0 e1 e2 e3) := by
    unfold head; rw [hA]; rfl
  have ho' : on noP = true := rfl
  have hp : Point.eqb noP noP = true := rfl
  have hz : isF noF = true := by decide +kernel
  have ok : ∀ e, okF (pick e f noF) e = true := by
    intro e
    cases e with
    | false => simp [pick, okF, hz, noF_refl]
    | true => simp [pick, okF, hf]
  have hfl : fl4 (oneD f e0 e1 e2 e3) = true := by
    unfold fl4
    show (okF (pick e0 f noF) (hs (msk false e0 e1 e2 e3) 1) && (okF (pick e1 f noF) (hs (msk false e0 e1 e2 e3) 2) && (okF (pick e2 f noF) (hs (msk false e0 e1 e2 e3) 3) && okF (pick e3 f noF) (hs (msk false e0 e1 e2 e3) 4)))) = true
    rw [h1, h2, h3, h4, ok, ok, ok, ok]; rfl
  have hb : ∀ s, body s (oneD f e0 e1 e2 e3) = stage (stage (stage (stage s (pick e0 f noF) e0) (pick e1 f noF) e1) (pick e2 f noF) e2) (pick e3 f noF) e3 := by
    intro s
    show stage (stage (stage (stage s (pick e0 f noF) (hs (msk false e0 e1 e2 e3) 1)) (pick e1 f noF) (hs (msk false e0 e1 e2 e3) 2)) (pick e2 f noF) (hs (msk false e0 e1 e2 e3) 3)) (pick e3 f noF) (hs (msk false e0 e1 e2 e3) 4) = _
    rw [h1, h2, h3, h4]
  have hid : isD (oneD f e0 e1 e2 e3) = (!(msk false e0 e1 e2 e3 == 0) && !(decide ((31 : Int) < msk false e0 e1 e2 e3))) := by
    unfold isD
    rw [hfl, hA]
    show (!(decide ((7 : Int) < 0)) && (!(decide ((1000000 : Int) < 7)) && (!(msk false e0 e1 e2 e3 == 0) && (!(decide ((31 : Int) < msk false e0 e1 e2 e3)) && ((false || Point.eqb noP noP) && (on noP && true)))))) = _
    rw [hp, ho']
    simp
  rw [hid, hb, hh]
  rcases ho with ⟨rfl, rfl, rfl, rfl⟩ | ⟨rfl, rfl, rfl, rfl⟩ | ⟨rfl, rfl, rfl, rfl⟩ | ⟨rfl, rfl, rfl, rfl⟩ <;> exact ⟨by decide, rfl, by decide, by decide, by decide⟩
theorem pu_one {x : Int} (h0 : 0 ≤ x) (h : x < 128) : (pu x).size = 1 := by
  unfold pu
  rw [wrap_u64]
  exact pt_one (by omega)

theorem j15 {n : Nat} (hn : 10 ≤ n) (a0 : Int) (t0 : ByteArray) (f : Field) (e0 e1 e2 e3 : Bool) (ho : One e0 e1 e2 e3) (hf : isF f = true) (hsz : t0.size ≤ 12) (hg : ¬ (IntKind.wrap .u64 (IntKind.wrap .i64 (Int.tmod a0 4)) < 0)) (hm : shlI .u8 2 (IntKind.wrap .u64 (IntKind.wrap .i64 (Int.tmod a0 4))) = msk false e0 e1 e2 e3)
    (ht : isE t0 = false → f.Text = t0) (ht' : isE t0 = true → f.Text = ByteArray.empty) :
    F7_j15 n a0 t0 (pick e0 f noF).N (pick e0 f noF).Text (pick e1 f noF).N (pick e1 f noF).Text (pick e2 f noF).N (pick e2 f noF).Text (pick e3 f noF).N (pick e3 f noF).Text = some true := by
  unfold F7_j15
  have hA : Thing.mk 7 (Point.mk 1 2) (A4.mk (Field.mk 0 ByteArray.empty) (Field.mk 0 ByteArray.empty) (Field.mk 0 ByteArray.empty) (Field.mk 0 ByteArray.empty)) = oneA := rfl
  have hB : Thing.mk 7 (Point.mk 1 2) (A4.mk (Field.mk (pick e0 f noF).N (pick e0 f noF).Text) (Field.mk (pick e1 f noF).N (pick e1 f noF).Text) (Field.mk (pick e2 f noF).N (pick e2 f noF).Text) (Field.mk (pick e3 f noF).N (pick e3 f noF).Text)) = oneB f e0 e1 e2 e3 := rfl
  have h12 : f.Text.size ≤ 12 := by
    cases hE : isE t0 with
    | false => rw [ht hE]; exact hsz
    | true => rw [ht' hE]; decide
  have hpk : ∀ e, (pick e f noF).Text.size ≤ 40 := by
    intro e
    cases e with
    | false => exact (show noF.Text.size ≤ 40 by decide)
    | true => exact (show f.Text.size ≤ 40 by omega)
  have few : ∀ c : Bool, ((pick c (pick c f noF) noF).Text.size ≤ 40) := by
    intro c
    rw [pick_pick]; exact hpk c
  simp only [hA, hB, diff_eq, Option.bind_some]
  by_cases hz : f = noF
  · subst hz
    have hp : ∀ e, pick e noF noF = noF := fun e => by cases e <;> rfl
    have hBA : oneB noF e0 e1 e2 e3 = oneA := by simp only [oneB, hp]; rfl
    have hf0 : Few (dl oneA oneA) := by
      have : ∀ c : Bool, (pick c noF noF).Text.size ≤ 40 := fun c => by rw [hp]; decide
      exact ⟨this _, this _, this _, this _⟩
    rw [hBA, bytes_eq hn _ hf0]
    have hm0 : (mk oneA oneA != 0) = false := by decide +kernel
    simp only [Option.bind_some, Thing.eqb_refl, if_true, hm0, Bool.not_false]
  · obtain ⟨hd, hk⟩ := one_dl hz e0 e1 e2 e3
    obtain ⟨q1, q2, q3, q4, q5⟩ := one_ok hf e0 e1 e2 e3 ho
    have hfd : Few (oneD f e0 e1 e2 e3) := ⟨hpk _, hpk _, hpk _, hpk _⟩
    have hne : Thing.eqb (oneB f e0 e1 e2 e3) oneA = false := by
      rw [Bool.eq_false_iff]
      intro h
      have h' := (Thing.eqb_iff _ _).1 h
      rw [h'] at hk
      rw [← hk] at q5
      have hm0 : (mk oneA oneA != 0) = false := by decide +kernel
      rw [hm0] at q5; cases q5
    have hmask : (oneD f e0 e1 e2 e3).Mask = msk false e0 e1 e2 e3 := rfl
    rw [hd, hk, bytes_eq hn _ hfd, q1, q2]
    simp only [Option.bind_some, hne, Bool.false_eq_true, if_false, if_true, q5, Bool.not_true, hg, not_false_eq_true, hm, hmask, bne_self_eq_false]
    have s1 : (pu 7).size = 1 := pu_one (by omega) (by omega)
    have s2 : (pu (msk false e0 e1 e2 e3)).size = 1 := pu_one q3 q4
    have s3 : (pu (f.Text.size : Int)).size = 1 := pu_one (by omega) (by omega)
    have s4 := pt_size (bitsI .xor .u64 (shlI .u64 (IntKind.wrap .u64 f.N) 1) (IntKind.wrap .u64 (shrI .i64 f.N 63)))
    have s5 : (tx f.Text).size = 1 + f.Text.size := by rw [tx, ba_size, s3]
    cases hE : isE t0 with
    | false =>
      have e : f.Text = t0 := ht hE
      have hE' : (t0.toList == ByteArray.empty.toList) = false := hE
      have hst : (stage (pu 7 ++ pu (msk false e0 e1 e2 e3)) f true).size = 3 + t0.size := by
        have : isE f.Text = false := by rw [e]; exact hE
        simp only [stage, this, if_true, Bool.false_eq_true, if_false]
        rw [ba_size, ba_size, s1, s2, s5, e]; omega
      have hd3 : decide (((stage (pu 7 ++ pu (msk false e0 e1 e2 e3)) f true).size : Int) < 3) = false := by rw [hst]; simp; omega
      have hw : IntKind.wrap .i64 (3 + (t0.size : Int)) = 3 + t0.size := by simp [IntKind.wrap, IntKind.bits, IntKind.signed]; omega
      simp only [hd3, hE', Bool.not_false, if_true, Bool.false_eq_true, if_false, hw, hst]
      simp
      try omega
    | true =>
      have e : f.Text = ByteArray.empty := ht' hE
      have hE' : (t0.toList == ByteArray.empty.toList) = true := hE
      have hst : 4 ≤ (stage (pu 7 ++ pu (msk false e0 e1 e2 e3)) f true).size ∧ (stage (pu 7 ++ pu (msk false e0 e1 e2 e3)) f true).size ≤ 13 := by
        have hEf : isE f.Text = true := by rw [e]; decide +kernel
        have hes : f.Text.size = 0 := by rw [e]; rfl
        have hzg : (zg f.N).size ≤ 10 ∧ 1 ≤ (zg f.N).size := s4
        simp only [stage, hEf, if_true]
        rw [ba_size, ba_size, ba_size, s1, s2, s5, hes]; omega
      have hd3 : decide (((stage (pu 7 ++ pu (msk false e0 e1 e2 e3)) f true).size : Int) < 3) = false := by simp; omega
      have hd13 : decide (((stage (pu 7 ++ pu (msk false e0 e1 e2 e3)) f true).size : Int) ≤ 13) = true := by simp; omega
      simp only [hd3, hE', Bool.not_true, Bool.false_eq_true, if_false, hd13]
theorem fieldsOne_pure (i x : Int) (t : ByteArray) (wi : (Lit.int .u8 i).wf = true) (_ : (Lit.int .i64 x).wf = true) (_ : t.size ≤ maxLen) : ∃ n, F7 n i x t = some true := by
  refine ⟨30, ?_⟩
  have bi := bounds_u8 wi
  unfold F7
  simp only [Option.bind_some, Bool.not_true, Bool.false_eq_true, if_false]
  by_cases hs : 12 < (t.size : Int)
  · simp [hs]
  · simp only [hs, decide_false, Bool.false_eq_true, if_false]
    have t1 : IntKind.wrap .i64 (Int.tmod i 4) = i % 4 := by
      rw [Int.tmod_eq_emod_of_nonneg bi.1]; simp [IntKind.wrap, IntKind.bits, IntKind.signed]; omega
    have hE1 : isE ByteArray.empty = true := by decide +kernel
    have fE : isE t = true → isF ⟨x, ByteArray.empty⟩ = true := fun _ => by
      unfold isF
      have h0 : decide (((ByteArray.empty).size : Int) ≤ 12) = true := by decide +kernel
      split
      · exact h0
      · split
        · exact h0
        · rename_i h; exact absurd hE1 h
    have fT : isF ⟨0, t⟩ = true := by
      unfold isF
      have : ((0 : Int) == 0) = true := rfl
      simp only [this, if_true]
      simp; omega
    have key : ∀ (k : Int) (e0 e1 e2 e3 : Bool), i % 4 = k → 0 ≤ k → k < 4 → One e0 e1 e2 e3 → shlI .u8 2 k = msk false e0 e1 e2 e3 →
        (F7_j15 30 i t (pick e0 ⟨0, t⟩ noF).N (pick e0 ⟨0, t⟩ noF).Text (pick e1 ⟨0, t⟩ noF).N (pick e1 ⟨0, t⟩ noF).Text (pick e2 ⟨0, t⟩ noF).N (pick e2 ⟨0, t⟩ noF).Text (pick e3 ⟨0, t⟩ noF).N (pick e3 ⟨0, t⟩ noF).Text = some true ∨ isE t = true) ∧
        (F7_j15 30 i t (pick e0 ⟨x, ByteArray.empty⟩ noF).N (pick e0 ⟨x, ByteArray.empty⟩ noF).Text (pick e1 ⟨x, ByteArray.empty⟩ noF).N (pick e1 ⟨x, ByteArray.empty⟩ noF).Text (pick e2 ⟨x, ByteArray.empty⟩ noF).N (pick e2 ⟨x, ByteArray.empty⟩ noF).Text (pick e3 ⟨x, ByteArray.empty⟩ noF).N (pick e3 ⟨x, ByteArray.empty⟩ noF).Text = some true ∨ isE t = false) := by
      intro k e0 e1 e2 e3 hk h0 h4 ho hm
      have w : IntKind.wrap .u64 (IntKind.wrap .i64 (Int.tmod i 4)) = k := by rw [t1, hk, wrap_u64]; omega
      constructor
      · cases hE : isE t with
        | true => exact .inr rfl
        | false => exact .inl (j15 (by omega) i t ⟨0, t⟩ e0 e1 e2 e3 ho fT (by omega) (by rw [w]; omega) (by rw [w]; exact hm) (fun _ => rfl) (fun h => by rw [hE] at h; cases h))
      · cases hE : isE t with
        | false => exact .inr rfl
        | true => exact .inl (j15 (by omega) i t ⟨x, ByteArray.empty⟩ e0 e1 e2 e3 ho (fE hE) (by omega) (by rw [w]; omega) (by rw [w]; exact hm) (fun h => by rw [hE] at h; cases h) (fun _ => rfl))
    have hj : ∀ (i2 i3 i4 i5 : Int) (r1 r2 : Option Bool), r1 = r1 → True := fun _ _ _ _ _ _ _ => trivial
    simp only [t1]
    have hk4 : i % 4 = 0 ∨ i % 4 = 1 ∨ i % 4 = 2 ∨ i % 4 = 3 := by omega
    rcases hk4 with hk | hk | hk | hk
    · obtain ⟨g1, g2⟩ := key 0 true false false false hk (by omega) (by omega) (.inl ⟨rfl, rfl, rfl, rfl⟩) (by decide)
      simp only [hk, if_true]
      unfold F7_j6
      cases hE : isE t with
      | true =>
        have hE' : (t.toList == ByteArray.empty.toList) = true := hE
        simp only [hE', Bool.not_true, Bool.false_eq_true, if_false]
        exact g2.resolve_right (by rw [hE]; decide)
      | false =>
        have hE' : (t.toList == ByteArray.empty.toList) = false := hE
        simp only [hE', Bool.not_false, if_true, t1, hk]
        exact g1.resolve_right (by rw [hE]; decide)
    · obtain ⟨g1, g2⟩ := key 1 false true false false hk (by omega) (by omega) (.inr (.inl ⟨rfl, rfl, rfl, rfl⟩)) (by decide)
      simp only [hk, show ¬ ((1 : Int) = 0) by decide, if_false, if_true]
      unfold F7_j6
      cases hE : isE t with
      | true =>
        have hE' : (t.toList == ByteArray.empty.toList) = true := hE
        simp only [hE', Bool.not_true, Bool.false_eq_true, if_false]
        exact g2.resolve_right (by rw [hE]; decide)
      | false =>
        have hE' : (t.toList == ByteArray.empty.toList) = false := hE
        simp only [hE', Bool.not_false, if_true, t1, hk, show ¬ ((1 : Int) = 0) by decide, if_false]
        exact g1.resolve_right (by rw [hE]; decide)
    · obtain ⟨g1, g2⟩ := key 2 false false true false hk (by omega) (by omega) (.inr (.inr (.inl ⟨rfl, rfl, rfl, rfl⟩))) (by decide)
      simp only [hk, show ¬ ((2 : Int) = 0) by decide, show ¬ ((2 : Int) = 1) by decide, if_false, if_true]
      unfold F7_j6
      cases hE : isE t with
      | true =>
        have hE' : (t.toList == ByteArray.empty.toList) = true := hE
        simp only [hE', Bool.not_true, Bool.false_eq_true, if_false]
        exact g2.resolve_right (by rw [hE]; decide)
      | false =>
        have hE' : (t.toList == ByteArray.empty.toList) = false := hE
        simp only [hE', Bool.not_false, if_true, t1, hk, show ¬ ((2 : Int) = 0) by decide, show ¬ ((2 : Int) = 1) by decide, if_false]
        exact g1.resolve_right (by rw [hE]; decide)
    · obtain ⟨g1, g2⟩ := key 3 false false false true hk (by omega) (by omega) (.inr (.inr (.inr ⟨rfl, rfl, rfl, rfl⟩))) (by decide)
      simp only [hk, show ¬ ((3 : Int) = 0) by decide, show ¬ ((3 : Int) = 1) by decide, show ¬ ((3 : Int) = 2) by decide, if_false, if_true]
      unfold F7_j6
      cases hE : isE t with
      | true =>
        have hE' : (t.toList == ByteArray.empty.toList) = true := hE
        simp only [hE', Bool.not_true, Bool.false_eq_true, if_false]
        exact g2.resolve_right (by rw [hE]; decide)
      | false =>
        have hE' : (t.toList == ByteArray.empty.toList) = false := hE
        simp only [hE', Bool.not_false, if_true, t1, hk, show ¬ ((3 : Int) = 0) by decide, show ¬ ((3 : Int) = 1) by decide, show ¬ ((3 : Int) = 2) by decide, if_false]
        exact g1.resolve_right (by rw [hE]; decide)
end Go.Proofs.Ythmbegagkgdopaa
