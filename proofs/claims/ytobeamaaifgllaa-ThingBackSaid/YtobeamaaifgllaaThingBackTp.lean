/-
  Rows of things that were written are read, and are too short where they are cut off; ThingBack. No condition.
-/
import Derived.Test.YtobeamaaifgllaaThingBackTq
import Derived.Test.YtobeamaaifgllaaThingBackTo
import Derived.Test.YtobeamaaifgllaaThingBackP1
namespace Go.Proofs.Ytobeamaaifgllaa
open Go Go.Rx
set_option maxRecDepth 100000
set_option linter.unusedSimpArgs false
set_option linter.unnecessarySimpa false
set_option linter.unusedVariables false

theorem j39_bad (n : Nat) (r1 r2 r4 r5 : Int × Reader) (s : ByteArray) (a : Int) (x0 : Int) (t0 : ByteArray) (x1 : Int) (t1 : ByteArray) (x2 : Int) (t2 : ByteArray) (x3 : Int) (t3 : ByteArray) :
    ∃ d, F71_j39 n r1 r2 r4 r5 ⟨s, a, 10⟩ x0 t0 x1 t1 x2 t2 x3 t3 = some (d, 0, 10) := by
  unfold F71_j39
  exact ⟨_, rfl⟩
theorem j3_bad (n : Nat) (r1 : Int × Reader) (s : ByteArray) (a : Int) : ∃ d, F71_j3 n r1 (0, ⟨s, a, 10⟩) = some (d, 0, 10) := by
  unfold F71_j3
  have hb : (bitsI .and .u8 (IntKind.wrap .u8 0) 1 != 0) = false := rfl
  simp only [hb, Bool.false_eq_true, if_false]
  exact ⟨_, rfl⟩

/-- A whole thing's bytes, part by part. -/
theorem tb_parts (t : Thing) : tb t = pu t.ID ++ (pu 31 ++ (pu t.At.X ++ (pu t.At.Y ++ (fb t.F.a0 ++ (fb t.F.a1 ++ (fb t.F.a2 ++ fb t.F.a3)))))) := by
  have b1 : hs 31 1 = true := by decide +kernel
  have b2 : hs 31 2 = true := by decide +kernel
  have b3 : hs 31 3 = true := by decide +kernel
  have b4 : hs 31 4 = true := by decide +kernel
  have c1 : a1 (full t) = true := by show ((bitsI .and .u8 31 1) != 0) = true; decide +kernel
  have e : (full t).Mask = 31 := rfl
  unfold tb
  rw [body_is, head, c1]
  unfold g0 g1 g2 g3 gb
  rw [e, b1, b2, b3, b4]
  simp only [if_true, ba_assoc]
  rfl
theorem fb_pos (f : Field) : 1 ≤ (fb f).size := by
  have := tx_size f.Text
  unfold fb
  split <;> (try rw [ba_size]) <;> omega

theorem read_cut {n : Nat} (hn : 10 ≤ n) {t : Thing} (h : isTh t = true) (hw : t.wf) {Q : ByteArray} (hQ : Cut Q (tb t)) : ∃ d, F71 n Q = some (d, 0, 10) := by
  obtain ⟨k0, k1, k2, k3⟩ := isTh_F h
  obtain ⟨w0, w1, w2, w3⟩ := wf_N hw
  have hon : 0 ≤ t.ID ∧ t.ID ≤ 1000000 ∧ 0 ≤ t.At.X ∧ t.At.X < 64 ∧ 0 ≤ t.At.Y ∧ t.At.Y < 64 := by
    unfold isTh on at h
    by_cases h1 : 0 ≤ t.At.X <;> by_cases h2 : t.At.X < 64 <;> by_cases h3 : 0 ≤ t.At.Y <;> by_cases h4 : t.At.Y < 64 <;> simp [h1, h2, h3, h4] at h ⊢
    exact ⟨h.1, h.2.1⟩
  have hz := (tb_size h).1
  have hs : Q.size ≤ 280 := by have := hQ.size; omega
  have q0 := fb_pos t.F.a0
  have q1 := fb_pos t.F.a1
  have q2 := fb_pos t.F.a2
  have q3 := fb_pos t.F.a3
  have p1 := pu_size t.ID
  have p2 := pu_size 31
  have p3 := pu_size t.At.X
  have p4 := pu_size t.At.Y
  have e00 : ((0 : Int) != 0) = false := rfl
  have e10 : ((10 : Int) != 0) = true := rfl
  have e10' : ((10 : Int) == 0) = false := rfl
  have z0 : ((ByteArray.empty.size : Nat) : Int) = 0 := rfl
  have g1 : decide ((1000000 : Int) < t.ID) = false := by rw [decide_eq_false_iff_not]; omega
  have g2 : ((31 : Int) == 0) = false := rfl
  have g3 : decide ((31 : Int) < 31) = false := rfl
  have g4 : (bitsI .and .u8 (IntKind.wrap .u8 31) 1 != 0) = true := by decide +kernel
  have f0 : ∀ m, F99 m (IntKind.wrap .u8 31) 0 = some true := fun m => by rw [has0]; decide +kernel
  have f1 : ∀ m, F99 m (IntKind.wrap .u8 31) 1 = some true := fun m => by rw [has1]; decide +kernel
  have f2 : ∀ m, F99 m (IntKind.wrap .u8 31) 2 = some true := fun m => by rw [has2]; decide +kernel
  have f3 : ∀ m, F99 m (IntKind.wrap .u8 31) 3 = some true := fun m => by rw [has3]; decide +kernel
  rw [tb_parts] at hQ
  -- the number
  rcases hQ.split (by simp only [ba_size]; omega) with hX | ⟨Q1, rfl, hQ1⟩
  · obtain ⟨a, hr⟩ := num_cut (A := ByteArray.empty) hn (by omega) (by omega) hX (by rw [ba_nil]; omega)
    rw [ba_nil, z0] at hr
    unfold F71
    simp only [hr, Option.bind_some, num_on, e10', Bool.false_eq_true, if_false]
    exact j3_bad _ _ _ _
  have n1 := numr n hn ByteArray.empty Q1 t.ID (by omega) (by omega) (by rw [ba_nil]; omega)
  rw [ba_nil, ba_nil, z0] at n1
  -- the mask
  rcases hQ1.split (by simp only [ba_size]; omega) with hX | ⟨Q2, rfl, hQ2⟩
  · obtain ⟨a, hr⟩ := num_cut (A := pu t.ID) hn (by omega) (by omega) hX (by omega)
    unfold F71
    simp only [n1, hr, Option.bind_some, e10', Bool.false_eq_true, if_false]
    exact j3_bad _ _ _ _
  have n2 := numr n hn (pu t.ID) Q2 31 (by omega) (by omega) (by omega)
  unfold F71
  simp only [n1, n2, Option.bind_some, beq_self_eq_true, if_true, g1, g2, g3, Bool.false_eq_true, if_false]
  unfold F71_j3
  simp only [g4, if_true]
  have s2 : pu t.ID ++ (pu 31 ++ Q2) = (pu t.ID ++ pu 31) ++ Q2 := by rw [ba_assoc]
  rw [s2] at hs ⊢
  generalize pu t.ID ++ pu 31 = A2 at hs ⊢
  -- the place
  rcases hQ2.split (by simp only [ba_size]; omega) with hX | ⟨Q3, rfl, hQ3⟩
  · obtain ⟨a, hr⟩ := num_cut (A := A2) hn (by omega) (by omega) hX (by omega)
    simp only [hr, Option.bind_some, num_on, e10, if_true]
    exact j39_bad _ _ _ _ _ _ _ _ _ _ _ _ _ _ _
  have n3 := numr n hn A2 Q3 t.At.X (by omega) (by omega) (by omega)
  simp only [n3, Option.bind_some]
  have s3 : A2 ++ (pu t.At.X ++ Q3) = (A2 ++ pu t.At.X) ++ Q3 := by rw [ba_assoc]
  rw [s3] at hs ⊢
  generalize A2 ++ pu t.At.X = A3 at hs ⊢
  rcases hQ3.split (by simp only [ba_size]; omega) with hX | ⟨Q4, rfl, hQ4⟩
  · obtain ⟨a, hr⟩ := num_cut (A := A3) hn (by omega) (by omega) hX (by omega)
    simp only [hr, Option.bind_some, e10, if_true]
    exact j39_bad _ _ _ _ _ _ _ _ _ _ _ _ _ _ _
  have n4 := numr n hn A3 Q4 t.At.Y (by omega) (by omega) (by omega)
  simp only [n4, Option.bind_some, e00, Bool.false_eq_true, if_false, f0, if_true]
  have s4 : A3 ++ (pu t.At.Y ++ Q4) = (A3 ++ pu t.At.Y) ++ Q4 := by rw [ba_assoc]
  rw [s4] at hs ⊢
  generalize A3 ++ pu t.At.Y = A4' at hs ⊢
  -- the fields
  rcases hQ4.split (by simp only [ba_size]; omega) with hX | ⟨Q5, rfl, hQ5⟩
  · obtain ⟨g, a, hr⟩ := field_cut (A := A4') hn k0 w0.1 w0.2 hX (by omega)
    simp only [hr, Option.bind_some]
    unfold F71_u11
    simp only [e10, if_true]
    exact j39_bad _ _ _ _ _ _ _ _ _ _ _ _ _ _ _
  have m0 := fieldr n hn A4' Q5 t.F.a0 k0 w0.1 w0.2 (by omega)
  simp only [m0, Option.bind_some]
  unfold F71_u11
  simp only [e00, Bool.false_eq_true, if_false, f1, Option.bind_some, if_true]
  have s5 : A4' ++ (fb t.F.a0 ++ Q5) = (A4' ++ fb t.F.a0) ++ Q5 := by rw [ba_assoc]
  rw [s5] at hs ⊢
  generalize A4' ++ fb t.F.a0 = A5 at hs ⊢
  rcases hQ5.split (by simp only [ba_size]; omega) with hX | ⟨Q6, rfl, hQ6⟩
  · obtain ⟨g, a, hr⟩ := field_cut (A := A5) hn k1 w1.1 w1.2 hX (by omega)
    simp only [hr, Option.bind_some]
    unfold F71_u17
    simp only [e10, if_true]
    exact j39_bad _ _ _ _ _ _ _ _ _ _ _ _ _ _ _
  have m1 := fieldr n hn A5 Q6 t.F.a1 k1 w1.1 w1.2 (by omega)
  simp only [m1, Option.bind_some]
  unfold F71_u17
  simp only [e00, Bool.false_eq_true, if_false, f2, Option.bind_some, if_true]
  have s6 : A5 ++ (fb t.F.a1 ++ Q6) = (A5 ++ fb t.F.a1) ++ Q6 := by rw [ba_assoc]
  rw [s6] at hs ⊢
  generalize A5 ++ fb t.F.a1 = A6 at hs ⊢
  rcases hQ6.split (by omega) with hX | ⟨Q7, rfl, hQ7⟩
  · obtain ⟨g, a, hr⟩ := field_cut (A := A6) hn k2 w2.1 w2.2 hX (by omega)
    simp only [hr, Option.bind_some]
    unfold F71_u23
    simp only [e10, if_true]
    exact j39_bad _ _ _ _ _ _ _ _ _ _ _ _ _ _ _
  have m2 := fieldr n hn A6 Q7 t.F.a2 k2 w2.1 w2.2 (by omega)
  simp only [m2, Option.bind_some]
  unfold F71_u23
  simp only [e00, Bool.false_eq_true, if_false, f3, Option.bind_some, if_true]
  have s7 : A6 ++ (fb t.F.a2 ++ Q7) = (A6 ++ fb t.F.a2) ++ Q7 := by rw [ba_assoc]
  rw [s7] at hs ⊢
  obtain ⟨g, a, hr⟩ := field_cut (A := A6 ++ fb t.F.a2) hn k3 w3.1 w3.2 hQ7 (by omega)
  simp only [hr, Option.bind_some]
  unfold F71_u29
  exact j39_bad _ _ _ _ _ _ _ _ _ _ _ _ _ _ _
theorem readT_cut {n : Nat} (hn : 10 ≤ n) {t : Thing} (h : isTh t = true) (hw : t.wf) {Q : ByteArray} (hQ : Cut Q (tb t)) : ∃ x, F30 n Q = some (x, 0, 10) := by
  obtain ⟨d, hd⟩ := read_cut hn h hw hQ
  unfold F30
  have e : ((10 : Int) != 0) = true := rfl
  simp only [hd, Option.bind_some, e, if_true]
  exact ⟨_, rfl⟩
end Go.Proofs.Ytobeamaaifgllaa
