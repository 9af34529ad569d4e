/-
  What was written is read: a whole delta. No condition.
-/
import Derived.Test.YtobeamaaifgllaaThingManyTg
import Derived.Test.YtobeamaaifgllaaThingManyP1
namespace Go.Proofs.Ytobeamaaifgllaa
open Go Go.Rx
set_option maxRecDepth 100000
set_option maxHeartbeats 1000000
set_option linter.unusedSimpArgs false
set_option linter.unnecessarySimpa false
set_option linter.unusedVariables false

/-- The fields of a delta that is one. -/
structure Fld (d : Delta) : Prop where
  m : 0 ≤ d.Mask
  is : isD d = true
  n0 : -9223372036854775808 ≤ d.F.a0.N ∧ d.F.a0.N < 9223372036854775808
  n1 : -9223372036854775808 ≤ d.F.a1.N ∧ d.F.a1.N < 9223372036854775808
  n2 : -9223372036854775808 ≤ d.F.a2.N ∧ d.F.a2.N < 9223372036854775808
  n3 : -9223372036854775808 ≤ d.F.a3.N ∧ d.F.a3.N < 9223372036854775808
theorem okF_is {f : Field} {e : Bool} (h : okF f e = true) : isF f = true ∧ (e = false → f = noF) := by
  unfold okF at h
  simp only [Bool.and_eq_true, Bool.or_eq_true] at h
  refine ⟨h.1, fun he => ?_⟩
  subst he
  rcases h.2 with h2 | h2
  · cases h2
  · exact (Field.eqb_iff _ _).1 h2
theorem fl_is {d : Delta} (h : isD d = true) : okF d.F.a0 (hs d.Mask 1) = true ∧ okF d.F.a1 (hs d.Mask 2) = true ∧ okF d.F.a2 (hs d.Mask 3) = true ∧ okF d.F.a3 (hs d.Mask 4) = true := by
  unfold isD fl4 at h
  simp only [Bool.and_eq_true] at h
  exact ⟨h.2.2.2.2.2.2.1, h.2.2.2.2.2.2.2.1, h.2.2.2.2.2.2.2.2.1, h.2.2.2.2.2.2.2.2.2⟩
def g0 (d : Delta) : ByteArray := gb d.F.a0 (hs d.Mask 1)
def g1 (d : Delta) : ByteArray := gb d.F.a1 (hs d.Mask 2)
def g2 (d : Delta) : ByteArray := gb d.F.a2 (hs d.Mask 3)
def g3 (d : Delta) : ByteArray := gb d.F.a3 (hs d.Mask 4)
theorem backP (n : Nat) (hn : 10 ≤ n) (d : Delta) (H : Fld d) (r1 r2 r4 r5 : Int × Reader) (A t : ByteArray) (h1 : r1.1 = d.ID) (h2 : IntKind.wrap .u8 r2.1 = d.Mask) (h4 : r4.1 = d.At.X) (h5 : r5.1 = d.At.Y)
    (hz : A.size + (g0 d).size + (g1 d).size + (g2 d).size + (g3 d).size + t.size ≤ 100000) :
    (if hs d.Mask 1 = true then (F105 n ⟨A ++ (g0 d ++ (g1 d ++ (g2 d ++ (g3 d ++ t)))), A.size, 0⟩).bind (fun r7 => F71_u11 n r1 r2 r4 r5 r7.2 r7.1.N r7.1.Text) else F71_u11 n r1 r2 r4 r5 ⟨(A ++ (g0 d ++ (g1 d ++ (g2 d ++ (g3 d ++ t))))), A.size, 0⟩ 0 ByteArray.empty) = some (d, (((A ++ g0 d ++ g1 d ++ g2 d ++ g3 d).size : Nat) : Int), 0) := by
  obtain ⟨o0, o1, o2, o3⟩ := fl_is H.is
  have e00 : ((0 : Int) != 0) = false := rfl
  have b0 := back1 n hn A (g1 d ++ (g2 d ++ (g3 d ++ t))) d.F.a0 (hs d.Mask 1) (okF_is o0).2 (okF_is o0).1 H.n0.1 H.n0.2 (by simp only [ba_size]; unfold g0 at hz; omega) (fun N T s c e => F71_u11 n r1 r2 r4 r5 ⟨s, c, e⟩ N T)
  have b1 := back1 n hn (A ++ g0 d) (g2 d ++ (g3 d ++ t)) d.F.a1 (hs d.Mask 2) (okF_is o1).2 (okF_is o1).1 H.n1.1 H.n1.2 (by simp only [ba_size]; unfold g1 at hz; omega) (fun N T s c e => F71_u17 n r1 r2 r4 r5 d.F.a0.N d.F.a0.Text ⟨s, c, e⟩ N T)
  have b2 := back1 n hn (A ++ g0 d ++ g1 d) (g3 d ++ t) d.F.a2 (hs d.Mask 3) (okF_is o2).2 (okF_is o2).1 H.n2.1 H.n2.2 (by simp only [ba_size]; unfold g2 at hz; omega) (fun N T s c e => F71_u23 n r1 r2 r4 r5 d.F.a0.N d.F.a0.Text d.F.a1.N d.F.a1.Text ⟨s, c, e⟩ N T)
  have b3 := back1 n hn (A ++ g0 d ++ g1 d ++ g2 d) t d.F.a3 (hs d.Mask 4) (okF_is o3).2 (okF_is o3).1 H.n3.1 H.n3.2 (by simp only [ba_size]; unfold g3 at hz; omega) (fun N T s c e => F71_u29 n r1 r2 r4 r5 d.F.a0.N d.F.a0.Text d.F.a1.N d.F.a1.Text d.F.a2.N d.F.a2.Text ⟨s, c, e⟩ N T)
  refine Eq.trans b0 ?_
  show F71_u11 n r1 r2 r4 r5 ⟨(A ++ g0 d ++ (g1 d ++ (g2 d ++ (g3 d ++ t)))), ((A ++ g0 d).size : Nat), 0⟩ d.F.a0.N d.F.a0.Text = _
  unfold F71_u11
  simp only [e00, Bool.false_eq_true, if_false, h2, has1, Option.bind_some]
  refine Eq.trans b1 ?_
  show F71_u17 n r1 r2 r4 r5 d.F.a0.N d.F.a0.Text ⟨(A ++ g0 d ++ g1 d ++ (g2 d ++ (g3 d ++ t))), ((A ++ g0 d ++ g1 d).size : Nat), 0⟩ d.F.a1.N d.F.a1.Text = _
  unfold F71_u17
  simp only [e00, Bool.false_eq_true, if_false, h2, has2, Option.bind_some]
  refine Eq.trans b2 ?_
  show F71_u23 n r1 r2 r4 r5 d.F.a0.N d.F.a0.Text d.F.a1.N d.F.a1.Text ⟨(A ++ g0 d ++ g1 d ++ g2 d ++ (g3 d ++ t)), ((A ++ g0 d ++ g1 d ++ g2 d).size : Nat), 0⟩ d.F.a2.N d.F.a2.Text = _
  unfold F71_u23
  simp only [e00, Bool.false_eq_true, if_false, h2, has3, Option.bind_some]
  refine Eq.trans b3 ?_
  show F71_j39 n r1 r2 r4 r5 ⟨(A ++ g0 d ++ g1 d ++ g2 d ++ g3 d ++ t), ((A ++ g0 d ++ g1 d ++ g2 d ++ g3 d).size : Nat), 0⟩ d.F.a0.N d.F.a0.Text d.F.a1.N d.F.a1.Text d.F.a2.N d.F.a2.Text d.F.a3.N d.F.a3.Text = _
  unfold F71_j39
  simp only [e00, Bool.false_eq_true, if_false, h1, h2, h4, h5]
  have hd : Delta.mk d.ID d.Mask (Point.mk d.At.X d.At.Y) (A4.mk (Field.mk d.F.a0.N d.F.a0.Text) (Field.mk d.F.a1.N d.F.a1.Text) (Field.mk d.F.a2.N d.F.a2.Text) (Field.mk d.F.a3.N d.F.a3.Text)) = d := rfl
  simp only [hd, isD_eq, H.is, Option.bind_some, Bool.not_true, Bool.false_eq_true, if_false]
theorem backN (n : Nat) (hn : 10 ≤ n) (d : Delta) (H : Fld d) (r1 r2 : Int × Reader) (A t : ByteArray) (h1 : r1.1 = d.ID) (h2 : IntKind.wrap .u8 r2.1 = d.Mask) (h4 : d.At = noP)
    (hz : A.size + (g0 d).size + (g1 d).size + (g2 d).size + (g3 d).size + t.size ≤ 100000) :
    (if hs d.Mask 1 = true then (F105 n ⟨A ++ (g0 d ++ (g1 d ++ (g2 d ++ (g3 d ++ t)))), A.size, 0⟩).bind (fun r7 => F71_u46 n r1 r2 r7.2 r7.1.N r7.1.Text) else F71_u46 n r1 r2 ⟨(A ++ (g0 d ++ (g1 d ++ (g2 d ++ (g3 d ++ t))))), A.size, 0⟩ 0 ByteArray.empty) = some (d, (((A ++ g0 d ++ g1 d ++ g2 d ++ g3 d).size : Nat) : Int), 0) := by
  obtain ⟨o0, o1, o2, o3⟩ := fl_is H.is
  have e00 : ((0 : Int) != 0) = false := rfl
  have b0 := back1 n hn A (g1 d ++ (g2 d ++ (g3 d ++ t))) d.F.a0 (hs d.Mask 1) (okF_is o0).2 (okF_is o0).1 H.n0.1 H.n0.2 (by simp only [ba_size]; unfold g0 at hz; omega) (fun N T s c e => F71_u46 n r1 r2 ⟨s, c, e⟩ N T)
  have b1 := back1 n hn (A ++ g0 d) (g2 d ++ (g3 d ++ t)) d.F.a1 (hs d.Mask 2) (okF_is o1).2 (okF_is o1).1 H.n1.1 H.n1.2 (by simp only [ba_size]; unfold g1 at hz; omega) (fun N T s c e => F71_u52 n r1 r2 d.F.a0.N d.F.a0.Text ⟨s, c, e⟩ N T)
  have b2 := back1 n hn (A ++ g0 d ++ g1 d) (g3 d ++ t) d.F.a2 (hs d.Mask 3) (okF_is o2).2 (okF_is o2).1 H.n2.1 H.n2.2 (by simp only [ba_size]; unfold g2 at hz; omega) (fun N T s c e => F71_u58 n r1 r2 d.F.a0.N d.F.a0.Text d.F.a1.N d.F.a1.Text ⟨s, c, e⟩ N T)
  have b3 := back1 n hn (A ++ g0 d ++ g1 d ++ g2 d) t d.F.a3 (hs d.Mask 4) (okF_is o3).2 (okF_is o3).1 H.n3.1 H.n3.2 (by simp only [ba_size]; unfold g3 at hz; omega) (fun N T s c e => F71_u64 n r1 r2 d.F.a0.N d.F.a0.Text d.F.a1.N d.F.a1.Text d.F.a2.N d.F.a2.Text ⟨s, c, e⟩ N T)
  refine Eq.trans b0 ?_
  show F71_u46 n r1 r2 ⟨(A ++ g0 d ++ (g1 d ++ (g2 d ++ (g3 d ++ t)))), ((A ++ g0 d).size : Nat), 0⟩ d.F.a0.N d.F.a0.Text = _
  unfold F71_u46
  simp only [e00, Bool.false_eq_true, if_false, h2, has1, Option.bind_some]
  refine Eq.trans b1 ?_
  show F71_u52 n r1 r2 d.F.a0.N d.F.a0.Text ⟨(A ++ g0 d ++ g1 d ++ (g2 d ++ (g3 d ++ t))), ((A ++ g0 d ++ g1 d).size : Nat), 0⟩ d.F.a1.N d.F.a1.Text = _
  unfold F71_u52
  simp only [e00, Bool.false_eq_true, if_false, h2, has2, Option.bind_some]
  refine Eq.trans b2 ?_
  show F71_u58 n r1 r2 d.F.a0.N d.F.a0.Text d.F.a1.N d.F.a1.Text ⟨(A ++ g0 d ++ g1 d ++ g2 d ++ (g3 d ++ t)), ((A ++ g0 d ++ g1 d ++ g2 d).size : Nat), 0⟩ d.F.a2.N d.F.a2.Text = _
  unfold F71_u58
  simp only [e00, Bool.false_eq_true, if_false, h2, has3, Option.bind_some]
  refine Eq.trans b3 ?_
  show F71_j74 n r1 r2 ⟨(A ++ g0 d ++ g1 d ++ g2 d ++ g3 d ++ t), ((A ++ g0 d ++ g1 d ++ g2 d ++ g3 d).size : Nat), 0⟩ d.F.a0.N d.F.a0.Text d.F.a1.N d.F.a1.Text d.F.a2.N d.F.a2.Text d.F.a3.N d.F.a3.Text = _
  unfold F71_j74
  simp only [e00, Bool.false_eq_true, if_false, h1, h2]
  have hd : Delta.mk d.ID d.Mask (Point.mk 0 0) (A4.mk (Field.mk d.F.a0.N d.F.a0.Text) (Field.mk d.F.a1.N d.F.a1.Text) (Field.mk d.F.a2.N d.F.a2.Text) (Field.mk d.F.a3.N d.F.a3.Text)) = d := by
    have : d.At = Point.mk 0 0 := h4
    rw [← this]
  simp only [hd, isD_eq, H.is, Option.bind_some, Bool.not_true, Bool.false_eq_true, if_false]
theorem body_is (d : Delta) (s : ByteArray) : body s d = s ++ g0 d ++ g1 d ++ g2 d ++ g3 d := by
  unfold body g0 g1 g2 g3
  rw [stage_gb, stage_gb, stage_gb, stage_gb]
theorem gb_size (f : Field) (e : Bool) (h : f.Text.size ≤ 40) : (gb f e).size ≤ 60 := by
  have := stage_size ByteArray.empty f e h
  rw [stage_gb, ba_nil] at this
  have z : ByteArray.empty.size = 0 := rfl
  omega
theorem text12 {f : Field} (hf : isF f = true) : f.Text.size ≤ 12 := by
  unfold isF at hf
  split at hf
  · simp at hf; omega
  · split at hf
    · simp at hf; omega
    · cases hf
theorem read_back (n : Nat) (hn : 10 ≤ n) (d : Delta) (H : Fld d) (t : ByteArray) (ht : t.size ≤ 90000) : F71 n (body (head d) d ++ t) = some (d, ((body (head d) d).size : Int), 0) := by
  obtain ⟨o0, o1, o2, o3⟩ := fl_is H.is
  have k0 := gb_size d.F.a0 (hs d.Mask 1) (by have := text12 (okF_is o0).1; omega)
  have k1 := gb_size d.F.a1 (hs d.Mask 2) (by have := text12 (okF_is o1).1; omega)
  have k2 := gb_size d.F.a2 (hs d.Mask 3) (by have := text12 (okF_is o2).1; omega)
  have k3 := gb_size d.F.a3 (hs d.Mask 4) (by have := text12 (okF_is o3).1; omega)
  have kh := head_size d
  have e00 : ((0 : Int) != 0) = false := rfl
  have hd := H.is
  unfold isD at hd
  simp only [Bool.and_eq_true, Bool.not_eq_true', decide_eq_false_iff_not, beq_eq_false_iff_ne, ne_eq] at hd
  obtain ⟨i0, i1, m0, m1, pl, on1, _⟩ := hd
  have hss : body (head d) d ++ t = head d ++ (g0 d ++ (g1 d ++ (g2 d ++ (g3 d ++ t)))) := by
    rw [body_is]; simp only [ba_assoc]
  have hz : (head d).size + (g0 d).size + (g1 d).size + (g2 d).size + (g3 d).size + t.size ≤ 100000 := by
    unfold g0 g1 g2 g3; omega
  have wm : IntKind.wrap .u8 d.Mask = d.Mask := by rw [wrap_u8]; have := H.m; omega
  have hon : 0 ≤ d.At.X ∧ d.At.X < 64 ∧ 0 ≤ d.At.Y ∧ d.At.Y < 64 := by
    unfold on at on1
    by_cases h1 : 0 ≤ d.At.X <;> by_cases h2 : d.At.X < 64 <;> by_cases h3 : 0 ≤ d.At.Y <;> by_cases h4 : d.At.Y < 64 <;> simp [h1, h2, h3, h4] at on1 ⊢
  have z0 : ((ByteArray.empty.size : Nat) : Int) = 0 := rfl
  have hm := H.m
  have c1 : decide ((1000000 : Int) < d.ID) = false := by simp; omega
  have c2 : (d.Mask == 0) = false := by simp [m0]
  have c3 : decide ((31 : Int) < d.Mask) = false := by simp; omega
  rw [hss]
  unfold F71
  cases hA : a1 d with
  | true =>
    have hA' : (bitsI .and .u8 d.Mask 1 != 0) = true := hA
    have hh : head d = pu d.ID ++ pu d.Mask ++ pu d.At.X ++ pu d.At.Y := by
      unfold head; rw [hA]; simp only [if_true, ba_assoc]
    rw [hh] at hz
    simp only [ba_size] at hz
    rw [body_is, hh]
    have s1 : pu d.ID ++ pu d.Mask ++ pu d.At.X ++ pu d.At.Y ++ (g0 d ++ (g1 d ++ (g2 d ++ (g3 d ++ t)))) = ByteArray.empty ++ (pu d.ID ++ (pu d.Mask ++ (pu d.At.X ++ (pu d.At.Y ++ (g0 d ++ (g1 d ++ (g2 d ++ (g3 d ++ t)))))))) := by simp only [ba_nil, ba_assoc]
    have s2 : pu d.ID ++ pu d.Mask ++ pu d.At.X ++ pu d.At.Y ++ (g0 d ++ (g1 d ++ (g2 d ++ (g3 d ++ t)))) = pu d.ID ++ (pu d.Mask ++ (pu d.At.X ++ (pu d.At.Y ++ (g0 d ++ (g1 d ++ (g2 d ++ (g3 d ++ t))))))) := by simp only [ba_assoc]
    have s3 : pu d.ID ++ pu d.Mask ++ pu d.At.X ++ pu d.At.Y ++ (g0 d ++ (g1 d ++ (g2 d ++ (g3 d ++ t)))) = (pu d.ID ++ pu d.Mask) ++ (pu d.At.X ++ (pu d.At.Y ++ (g0 d ++ (g1 d ++ (g2 d ++ (g3 d ++ t)))))) := by simp only [ba_assoc]
    have s4 : pu d.ID ++ pu d.Mask ++ pu d.At.X ++ pu d.At.Y ++ (g0 d ++ (g1 d ++ (g2 d ++ (g3 d ++ t)))) = (pu d.ID ++ pu d.Mask ++ pu d.At.X) ++ (pu d.At.Y ++ (g0 d ++ (g1 d ++ (g2 d ++ (g3 d ++ t))))) := by simp only [ba_assoc]
    have q1 := numr n hn ByteArray.empty (pu d.Mask ++ (pu d.At.X ++ (pu d.At.Y ++ (g0 d ++ (g1 d ++ (g2 d ++ (g3 d ++ t))))))) d.ID (by omega) (by omega) (by rw [← s1]; simp only [ba_size]; omega)
    have q2 := numr n hn (pu d.ID) (pu d.At.X ++ (pu d.At.Y ++ (g0 d ++ (g1 d ++ (g2 d ++ (g3 d ++ t)))))) d.Mask (by omega) (by omega) (by rw [← s2]; simp only [ba_size]; omega)
    have q3 := numr n hn (pu d.ID ++ pu d.Mask) (pu d.At.Y ++ (g0 d ++ (g1 d ++ (g2 d ++ (g3 d ++ t))))) d.At.X (by omega) (by omega) (by rw [← s3]; simp only [ba_size]; omega)
    have q4 := numr n hn (pu d.ID ++ pu d.Mask ++ pu d.At.X) (g0 d ++ (g1 d ++ (g2 d ++ (g3 d ++ t)))) d.At.Y (by omega) (by omega) (by rw [← s4]; simp only [ba_size]; omega)
    rw [← s1, z0, ba_nil] at q1
    rw [← s2] at q2
    rw [← s3] at q3
    rw [← s4] at q4
    simp only [q1, q2, Option.bind_some, beq_self_eq_true, if_true, c1, c2, c3, Bool.false_eq_true, if_false]
    unfold F71_j3
    simp only [wm, hA', if_true, q3, q4, Option.bind_some, e00, Bool.false_eq_true, if_false, has0]
    exact backP n hn d H _ _ _ _ (pu d.ID ++ pu d.Mask ++ pu d.At.X ++ pu d.At.Y) t rfl wm rfl rfl (by simp only [ba_size]; omega)
  | false =>
    have hA' : (bitsI .and .u8 d.Mask 1 != 0) = false := hA
    have hat : d.At = noP := by
      rw [hA] at pl
      simp only [Bool.false_or] at pl
      exact (Point.eqb_iff _ _).1 pl
    have hh : head d = pu d.ID ++ pu d.Mask := by
      unfold head; rw [hA]; rfl
    rw [hh] at hz
    simp only [ba_size] at hz
    rw [body_is, hh]
    have s1 : pu d.ID ++ pu d.Mask ++ (g0 d ++ (g1 d ++ (g2 d ++ (g3 d ++ t)))) = ByteArray.empty ++ (pu d.ID ++ (pu d.Mask ++ (g0 d ++ (g1 d ++ (g2 d ++ (g3 d ++ t)))))) := by simp only [ba_nil, ba_assoc]
    have s2 : pu d.ID ++ pu d.Mask ++ (g0 d ++ (g1 d ++ (g2 d ++ (g3 d ++ t)))) = pu d.ID ++ (pu d.Mask ++ (g0 d ++ (g1 d ++ (g2 d ++ (g3 d ++ t))))) := by simp only [ba_assoc]
    have q1 := numr n hn ByteArray.empty (pu d.Mask ++ (g0 d ++ (g1 d ++ (g2 d ++ (g3 d ++ t))))) d.ID (by omega) (by omega) (by rw [← s1]; simp only [ba_size]; omega)
    have q2 := numr n hn (pu d.ID) (g0 d ++ (g1 d ++ (g2 d ++ (g3 d ++ t)))) d.Mask (by omega) (by omega) (by rw [← s2]; simp only [ba_size]; omega)
    rw [← s1, z0, ba_nil] at q1
    rw [← s2] at q2
    simp only [q1, q2, Option.bind_some, beq_self_eq_true, if_true, c1, c2, c3, Bool.false_eq_true, if_false]
    unfold F71_j3
    simp only [wm, hA', Bool.false_eq_true, if_false, Option.bind_some, e00, has0]
    exact backN n hn d H _ _ (pu d.ID ++ pu d.Mask) t rfl wm hat (by simp only [ba_size]; omega)
end Go.Proofs.Ytobeamaaifgllaa
