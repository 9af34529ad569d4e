/-
  What the law says, in plain Lean. No condition.
-/
import Derived.Test.YtobeamaaifgllaaDiffFoldsV
import Derived.Test.YtobeamaaifgllaaDiffFoldsP0
namespace Go.Proofs.Ytobeamaaifgllaa
open Go Go.Rx
set_option maxRecDepth 100000
set_option linter.unusedVariables false
set_option linter.unusedSimpArgs false
set_option linter.unnecessarySimpa false
theorem Point.eqb_iff (x y : Point) : Point.eqb x y = true ↔ x = y := by
  cases x; cases y; simp [Point.eqb]
theorem Field.eqb_iff (x y : Field) : Field.eqb x y = true ↔ x = y := by
  cases x; cases y; simp [Field.eqb, ba_beq]
theorem A4_Field.eqb_iff (x y : A4 Field) : A4_Field.eqb x y = true ↔ x = y := by
  cases x; cases y; simp [A4_Field.eqb, Field.eqb_iff]
theorem Thing.eqb_iff (x y : Thing) : Thing.eqb x y = true ↔ x = y := by
  cases x; cases y; simp [Thing.eqb, Point.eqb_iff, A4_Field.eqb_iff]
theorem Delta.eqb_iff (x y : Delta) : Delta.eqb x y = true ↔ x = y := by
  cases x; cases y; simp [Delta.eqb, Point.eqb_iff, A4_Field.eqb_iff]
theorem Thing.eqb_refl (x : Thing) : Thing.eqb x x = true := (Thing.eqb_iff x x).2 rfl
def noP : Point := ⟨0, 0⟩
def noF : Field := ⟨0, ByteArray.empty⟩
def bit (e : Bool) (k : Int) : Int := if e then k else 0
def msk (eA e0 e1 e2 e3 : Bool) : Int := bit eA 1 + bit e0 2 + bit e1 4 + bit e2 8 + bit e3 16
theorem msk_at : ∀ a0 a1 a2 a3 a4 : Bool, ((bitsI .and .u8 (msk a0 a1 a2 a3 a4) 1) != 0) = a0 := by decide +kernel
theorem msk_has : ∀ a0 a1 a2 a3 a4 : Bool, F99 0 (msk a0 a1 a2 a3 a4) 0 = some a1 ∧ F99 0 (msk a0 a1 a2 a3 a4) 1 = some a2 ∧ F99 0 (msk a0 a1 a2 a3 a4) 2 = some a3 ∧ F99 0 (msk a0 a1 a2 a3 a4) 3 = some a4 := by decide +kernel
theorem msk_zero : ∀ a0 a1 a2 a3 a4 : Bool, (msk a0 a1 a2 a3 a4 != 0) = (a0 || (a1 || (a2 || (a3 || a4)))) := by decide +kernel
def cA (a b : Thing) : Bool := !(Point.eqb a.At b.At)
def c0 (a b : Thing) : Bool := !(Field.eqb a.F.a0 b.F.a0)
def c1 (a b : Thing) : Bool := !(Field.eqb a.F.a1 b.F.a1)
def c2 (a b : Thing) : Bool := !(Field.eqb a.F.a2 b.F.a2)
def c3 (a b : Thing) : Bool := !(Field.eqb a.F.a3 b.F.a3)
def mk (a b : Thing) : Int := msk (cA a b) (c0 a b) (c1 a b) (c2 a b) (c3 a b)
def pick {α : Type} (e : Bool) (x y : α) : α := if e then x else y
def dl (a b : Thing) : Delta := ⟨b.ID, mk a b, pick (cA a b) b.At noP, ⟨pick (c0 a b) b.F.a0 noF, pick (c1 a b) b.F.a1 noF, pick (c2 a b) b.F.a2 noF, pick (c3 a b) b.F.a3 noF⟩⟩
theorem diff_eq (n : Nat) (a b : Thing) : F76 n a b = some (dl a b, mk a b != 0) := by
  unfold F76 F76_j4 F76_u8 F76_u12 F76_u16 F76_u20 dl mk cA c0 c1 c2 c3
  cases Point.eqb a.At b.At <;> cases Field.eqb a.F.a0 b.F.a0 <;> cases Field.eqb a.F.a1 b.F.a1 <;> cases Field.eqb a.F.a2 b.F.a2 <;> cases Field.eqb a.F.a3 b.F.a3 <;> rfl
theorem cA_no {a b : Thing} (h : cA a b = false) : a.At = b.At := (Point.eqb_iff _ _).1 (by simpa [cA] using h)
theorem c0_no {a b : Thing} (h : c0 a b = false) : a.F.a0 = b.F.a0 := (Field.eqb_iff _ _).1 (by simpa [c0] using h)
theorem c1_no {a b : Thing} (h : c1 a b = false) : a.F.a1 = b.F.a1 := (Field.eqb_iff _ _).1 (by simpa [c1] using h)
theorem c2_no {a b : Thing} (h : c2 a b = false) : a.F.a2 = b.F.a2 := (Field.eqb_iff _ _).1 (by simpa [c2] using h)
theorem c3_no {a b : Thing} (h : c3 a b = false) : a.F.a3 = b.F.a3 := (Field.eqb_iff _ _).1 (by simpa [c3] using h)
def app5 (a : Thing) (d : Delta) (eA e0 e1 e2 e3 : Bool) : Thing := ⟨a.ID, pick eA d.At a.At, ⟨pick e0 d.F.a0 a.F.a0, pick e1 d.F.a1 a.F.a1, pick e2 d.F.a2 a.F.a2, pick e3 d.F.a3 a.F.a3⟩⟩
theorem apply5 (n : Nat) (a : Thing) (d : Delta) (eA e0 e1 e2 e3 : Bool) (hA : ((bitsI .and .u8 d.Mask 1) != 0) = eA) (h0 : F99 n d.Mask 0 = some e0) (h1 : F99 n d.Mask 1 = some e1) (h2 : F99 n d.Mask 2 = some e2) (h3 : F99 n d.Mask 3 = some e3) : F88 n a d = some (app5 a d eA e0 e1 e2 e3) := by
  unfold F88 F88_j2 F88_u5 F88_u8 F88_u11 F88_u14
  simp only [hA, h0, h1, h2, h3, Option.bind_some]
  cases eA <;> cases e0 <;> cases e1 <;> cases e2 <;> cases e3 <;> rfl
theorem apply_eq (n : Nat) (a b : Thing) : F88 n a (dl a b) = some ⟨a.ID, b.At, b.F⟩ := by
  obtain ⟨h0, h1, h2, h3⟩ := msk_has (cA a b) (c0 a b) (c1 a b) (c2 a b) (c3 a b)
  rw [apply5 n a (dl a b) _ _ _ _ _ (msk_at (cA a b) (c0 a b) (c1 a b) (c2 a b) (c3 a b)) h0 h1 h2 h3]
  have pA : pick (cA a b) (pick (cA a b) b.At noP) a.At = b.At := by
    cases h : cA a b with
    | true => rfl
    | false => exact cA_no h
  have p0 : pick (c0 a b) (pick (c0 a b) b.F.a0 noF) a.F.a0 = b.F.a0 := by
    cases h : c0 a b with
    | true => rfl
    | false => exact c0_no h
  have p1 : pick (c1 a b) (pick (c1 a b) b.F.a1 noF) a.F.a1 = b.F.a1 := by
    cases h : c1 a b with
    | true => rfl
    | false => exact c1_no h
  have p2 : pick (c2 a b) (pick (c2 a b) b.F.a2 noF) a.F.a2 = b.F.a2 := by
    cases h : c2 a b with
    | true => rfl
    | false => exact c2_no h
  have p3 : pick (c3 a b) (pick (c3 a b) b.F.a3 noF) a.F.a3 = b.F.a3 := by
    cases h : c3 a b with
    | true => rfl
    | false => exact c3_no h
  simp only [app5, dl, pA, p0, p1, p2, p3]
theorem mk_no {a b : Thing} (h : (mk a b != 0) = false) : a.At = b.At ∧ a.F = b.F := by
  rw [mk, msk_zero] at h
  simp only [Bool.or_eq_false_iff] at h
  obtain ⟨hA, h0, h1, h2, h3⟩ := h
  refine ⟨cA_no hA, ?_⟩
  cases ea : a.F with
  | mk x0 x1 x2 x3 =>
    cases eb : b.F with
    | mk y0 y1 y2 y3 =>
      have k0 := c0_no h0; have k1 := c1_no h1; have k2 := c2_no h2; have k3 := c3_no h3
      rw [ea, eb] at k0 k1 k2 k3
      simp only at k0 k1 k2 k3
      rw [k0, k1, k2, k3]
def hs (m i : Int) : Bool := bitsI .and .u8 (shrI .u8 m i) 1 == 1
theorem has0 (n : Nat) (m : Int) : F99 n m 0 = some (hs m 1) := rfl
theorem has1 (n : Nat) (m : Int) : F99 n m 1 = some (hs m 2) := rfl
theorem has2 (n : Nat) (m : Int) : F99 n m 2 = some (hs m 3) := rfl
theorem has3 (n : Nat) (m : Int) : F99 n m 3 = some (hs m 4) := rfl
def isF (f : Field) : Bool := if f.N == 0 then decide ((f.Text.size : Int) ≤ 12) else if f.Text.toList == ByteArray.empty.toList then decide ((f.Text.size : Int) ≤ 12) else false
theorem isF_eq (n : Nat) (f : Field) : F70 n f = some (isF f) := by
  unfold F70 isF
  split
  · rfl
  · split <;> rfl
theorem risF_eq (n : Nat) (f : Field) : F59 n f = some (isF f) := by
  rw [← isF_eq n f]; rfl
def okF (f : Field) (e : Bool) : Bool := isF f && (e || Field.eqb f noF)
def on (p : Point) : Bool := if decide ((0 : Int) ≤ p.X) then if decide (p.X < 64) then if decide ((0 : Int) ≤ p.Y) then decide (p.Y < 64) else false else false else false
theorem on_eq (n : Nat) (p : Point) : F67 n p = some (on p) := by
  unfold F67 on
  split
  · split
    · split <;> rfl
    · rfl
  · rfl
theorem ron_eq (n : Nat) (p : Point) : F58 n p = some (on p) := by
  rw [← on_eq n p]; rfl
def a1 (d : Delta) : Bool := (bitsI .and .u8 d.Mask 1) != 0
def fl4 (d : Delta) : Bool := okF d.F.a0 (hs d.Mask 1) && (okF d.F.a1 (hs d.Mask 2) && (okF d.F.a2 (hs d.Mask 3) && okF d.F.a3 (hs d.Mask 4)))
def isD (d : Delta) : Bool := !(decide (d.ID < 0)) && (!(decide ((1000000 : Int) < d.ID)) && (!(d.Mask == 0) && (!(decide ((31 : Int) < d.Mask)) && ((a1 d || Point.eqb d.At noP) && (on d.At && fl4 d)))))
theorem isd_fin (f : Field) (e : Bool) (o : Option Bool) (b : Bool) (ho : o = some b) : (if (!(isF f)) = true then some false else if (!e) = true then if (!(Field.eqb f ⟨0, ByteArray.empty⟩)) = true then some false else o else o) = some (okF f e && b) := by
  subst ho
  have : Field.eqb f ⟨0, ByteArray.empty⟩ = Field.eqb f noF := rfl
  rw [this]
  unfold okF
  cases isF f <;> cases e <;> cases Field.eqb f noF <;> simp
theorem isd_l (n : Nat) (d : Delta) : F77_j3 n d = some (fl4 d) := by
  have s3 : F77_u12 n d = some (okF d.F.a3 (hs d.Mask 4) && true) := by
    unfold F77_u12
    simp only [isF_eq, has3, Option.bind_some]
    exact isd_fin _ _ _ _ rfl
  have s2 : F77_u9 n d = some (okF d.F.a2 (hs d.Mask 3) && (okF d.F.a3 (hs d.Mask 4) && true)) := by
    unfold F77_u9
    simp only [isF_eq, has2, Option.bind_some]
    exact isd_fin _ _ _ _ s3
  have s1 : F77_u6 n d = some (okF d.F.a1 (hs d.Mask 2) && (okF d.F.a2 (hs d.Mask 3) && (okF d.F.a3 (hs d.Mask 4) && true))) := by
    unfold F77_u6
    simp only [isF_eq, has1, Option.bind_some]
    exact isd_fin _ _ _ _ s2
  have s0 : F77_j3 n d = some (okF d.F.a0 (hs d.Mask 1) && (okF d.F.a1 (hs d.Mask 2) && (okF d.F.a2 (hs d.Mask 3) && (okF d.F.a3 (hs d.Mask 4) && true)))) := by
    unfold F77_j3
    simp only [isF_eq, has0, Option.bind_some]
    exact isd_fin _ _ _ _ s1
  rw [s0]
  simp [fl4]
theorem isD_eq (n : Nat) (d : Delta) : F77 n d = some (isD d) := by
  unfold F77
  have hl := isd_l n d
  have ep : Point.eqb d.At (Point.mk 0 0) = Point.eqb d.At noP := rfl
  simp only [on_eq, Option.bind_some, hl, isD, a1, ep, bne]
  by_cases h1 : d.ID < 0
  · simp [h1]
  · by_cases h2 : 1000000 < d.ID
    · simp [h1, h2]
    · by_cases h3 : d.Mask = 0
      · simp [h1, h2, h3]
      · by_cases h4 : 31 < d.Mask
        · simp [h1, h2, h3, h4]
        · cases h5 : (bitsI .and .u8 d.Mask 1 == 0) <;> cases h6 : Point.eqb d.At noP <;> cases h7 : on d.At <;> simp [h1, h2, h3, h4, h5, h6, h7]
def ch (x : Int) : Int := bitsI .or .u8 (IntKind.wrap .u8 x) 128
def putL : Nat → Int → List Int
  | 0, _ => []
  | k + 1, x => if 128 ≤ x then ch x :: putL k (x / 128) else [IntKind.wrap .u8 x]
def pt (x : Int) : ByteArray := mkStr (putL 10 x)
def pu (x : Int) : ByteArray := pt (IntKind.wrap .u64 x)
def head (d : Delta) : ByteArray := if a1 d then (pu d.ID ++ pu d.Mask) ++ (pu d.At.X ++ pu d.At.Y) else pu d.ID ++ pu d.Mask
theorem ixg {α : Type} (l : List α) (i : Nat) (h : i < l.length) : ix l (i : Int) = some l[i] := by
  simp [ix, h]
theorem dsucc {i : Nat} (h : i < maxLen) : IntKind.wrap .i64 ((i : Int) + 1) = ((i + 1 : Nat) : Int) := by
  simp only [maxLen] at h
  simp [IntKind.wrap, IntKind.bits, IntKind.signed]; omega
theorem lt_dec {i n : Nat} (h : i < n) : decide ((i : Int) < (n : Int)) = true := by simp; omega
theorem ge_dec {i n : Nat} (h : ¬ i < n) : decide ((i : Int) < (n : Int)) = false := by simp; omega
theorem dropS {α : Type} (l : List α) (i : Nat) (h : i < l.length) : l.drop i = l[i] :: l.drop (i + 1) := (List.getElem_cons_drop (h := h)).symm
def isTh (t : Thing) : Bool := decide (0 ≤ t.ID) && (decide (t.ID ≤ 1000000) && (on t.At && (isF t.F.a0 && (isF t.F.a1 && (isF t.F.a2 && isF t.F.a3)))))
theorem not_eq (n : Nat) (f : Field) : F69 n f = some (!(isF f)) := by
  unfold F69
  simp only [isF_eq, Option.bind_some]
theorem is_eq (n : Nat) (t : Thing) : F24 n t = some (isTh t) := by
  have hz : ∀ a b c d : Field, F68s0 n [a, b, c, d] = some (!(isF a && (isF b && (isF c && isF d)))) := by
    intro a b c d
    unfold F68s0 F103s0
    unfold F103s0_l4
    have w1 : IntKind.wrap .i64 ((0 : Int) + 1) = 1 := by decide
    have w2 : IntKind.wrap .i64 ((1 : Int) + 1) = 2 := by decide
    have w3 : IntKind.wrap .i64 ((2 : Int) + 1) = 3 := by decide
    have w4 : IntKind.wrap .i64 ((3 : Int) + 1) = 4 := by decide
    have x0 : ix [a, b, c, d] 0 = some a := rfl
    have x1 : ix [a, b, c, d] 1 = some b := rfl
    have x2 : ix [a, b, c, d] 2 = some c := rfl
    have x3 : ix [a, b, c, d] 3 = some d := rfl
    have l0 : decide ((0 : Int) < (([a, b, c, d] : List Field).length : Int)) = true := rfl
    have l1 : decide ((1 : Int) < (([a, b, c, d] : List Field).length : Int)) = true := rfl
    have l2 : decide ((2 : Int) < (([a, b, c, d] : List Field).length : Int)) = true := rfl
    have l3 : decide ((3 : Int) < (([a, b, c, d] : List Field).length : Int)) = true := rfl
    have l4 : decide ((4 : Int) < (([a, b, c, d] : List Field).length : Int)) = false := rfl
    rw [if_pos l0, x0]
    simp only [Option.bind_some, not_eq]
    cases isF a with
    | false => rfl
    | true =>
      simp only [Bool.not_true, Bool.false_eq_true, if_false, Bool.true_and]
      rw [w1]
      unfold F103s0_l4
      rw [if_pos l1, x1]
      simp only [Option.bind_some, not_eq]
      cases isF b with
      | false => rfl
      | true =>
        simp only [Bool.not_true, Bool.false_eq_true, if_false, Bool.true_and]
        rw [w2]
        unfold F103s0_l4
        rw [if_pos l2, x2]
        simp only [Option.bind_some, not_eq]
        cases isF c with
        | false => rfl
        | true =>
          simp only [Bool.not_true, Bool.false_eq_true, if_false, Bool.true_and]
          rw [w3]
          unfold F103s0_l4
          rw [if_pos l3, x3]
          simp only [Option.bind_some, not_eq]
          cases isF d with
          | false => rfl
          | true =>
            simp only [Bool.not_true, Bool.false_eq_true, if_false]
            rw [w4]
            unfold F103s0_l4
            rw [if_neg (by rw [l4]; decide)]
            rfl
  unfold F24 isTh
  rw [hz]
  simp only [on_eq, Option.bind_some, Bool.not_not]
  by_cases h1 : 0 ≤ t.ID
  · by_cases h2 : t.ID ≤ 1000000
    · cases h3 : on t.At <;> simp [h1, h2]
    · simp [h1, h2]
  · simp [h1]
theorem ris_eq (n : Nat) (t : Thing) : F18 n t = some (isTh t) := by
  have k15 : ∀ b, F18_u15 n b = some b := fun b => rfl
  have k12 : ∀ b, F18_u12 n t b = some (b && isF t.F.a3) := fun b => by
    unfold F18_u12; cases b <;> simp only [risF_eq, Option.bind_some, k15, if_true, if_false, Bool.false_eq_true, Bool.true_and, Bool.false_and]
  have k9 : ∀ b, F18_u9 n t b = some (b && (isF t.F.a2 && isF t.F.a3)) := fun b => by
    unfold F18_u9; cases b <;> simp only [risF_eq, Option.bind_some, k12, if_true, if_false, Bool.false_eq_true, Bool.true_and, Bool.false_and]
  have k6 : ∀ b, F18_u6 n t b = some (b && (isF t.F.a1 && (isF t.F.a2 && isF t.F.a3))) := fun b => by
    unfold F18_u6; cases b <;> simp only [risF_eq, Option.bind_some, k9, if_true, if_false, Bool.false_eq_true, Bool.true_and, Bool.false_and]
  have k3 : ∀ b, F18_j3 n t b = some (b && (isF t.F.a0 && (isF t.F.a1 && (isF t.F.a2 && isF t.F.a3)))) := fun b => by
    unfold F18_j3; cases b <;> simp only [risF_eq, Option.bind_some, k6, if_true, if_false, Bool.false_eq_true, Bool.true_and, Bool.false_and]
  unfold F18 isTh
  simp only [ron_eq, Option.bind_some, k3]
  by_cases h1 : 0 ≤ t.ID
  · by_cases h2 : t.ID ≤ 1000000
    · simp [h1, h2]
    · simp [h1, h2]
  · simp [h1]
def noT : Thing := ⟨0, ⟨0, 0⟩, ⟨noF, noF, noF, noF⟩⟩
def noD : Delta := ⟨0, 0, ⟨0, 0⟩, ⟨noF, noF, noF, noF⟩⟩
theorem Event.eqb_iff (x y : Event) : Event.eqb x y = true ↔ x = y := by
  cases x; cases y; simp [Event.eqb, Thing.eqb_iff, Delta.eqb_iff]
theorem Event.eqb_refl (x : Event) : Event.eqb x x = true := (Event.eqb_iff x x).2 rfl
theorem Delta.eqb_refl (x : Delta) : Delta.eqb x x = true := (Delta.eqb_iff x x).2 rfl
def isEv (e : Event) : Bool :=
  if e.Kind == 1 then isTh e.Thing && (e.ID == e.Thing.ID && Delta.eqb e.Delta noD)
  else if e.Kind == 2 then isD e.Delta && (e.ID == e.Delta.ID && Thing.eqb e.Thing noT)
  else if e.Kind == 3 then decide (0 ≤ e.ID) && (decide (e.ID ≤ 1000000) && (Thing.eqb e.Thing noT && Delta.eqb e.Delta noD))
  else false
theorem ite_bool (a b : Bool) : (if a = true then some b else some false) = some (a && b) := by cases a <;> rfl
theorem ev_is (n : Nat) (e : Event) : F39 n e = some (isEv e) := by
  unfold F39 isEv
  simp only [is_eq, isD_eq, Option.bind_some, ite_bool]
  by_cases h1 : (e.Kind == 1) = true
  · rw [if_pos h1, if_pos h1]; rfl
  · rw [if_neg h1, if_neg h1]
    by_cases h2 : (e.Kind == 2) = true
    · rw [if_pos h2, if_pos h2]; rfl
    · rw [if_neg h2, if_neg h2]
      by_cases h3 : (e.Kind == 3) = true
      · rw [if_pos h3, h3, Bool.true_and]; rfl
      · have h4 : (e.Kind == 3) = false := by simpa using h3
        rw [if_neg h3, h4, Bool.false_and]
def app (t : Thing) (d : Delta) : Thing := ⟨t.ID, if a1 d then d.At else t.At, ⟨if hs d.Mask 1 then d.F.a0 else t.F.a0, if hs d.Mask 2 then d.F.a1 else t.F.a1, if hs d.Mask 3 then d.F.a2 else t.F.a2, if hs d.Mask 4 then d.F.a3 else t.F.a3⟩⟩
theorem app_eq (n : Nat) (t : Thing) (d : Delta) : F88 n t d = some (app t d) := by
  unfold F88 F88_j2 F88_u5 F88_u8 F88_u11 F88_u14 app a1
  simp only [has0, has1, has2, has3, Option.bind_some]
  generalize ((bitsI .and .u8 d.Mask 1) != 0) = eA
  generalize hs d.Mask 1 = e0
  generalize hs d.Mask 2 = e1
  generalize hs d.Mask 3 = e2
  generalize hs d.Mask 4 = e3
  cases eA <;> cases e0 <;> cases e1 <;> cases e2 <;> cases e3 <;> rfl
theorem app_is {t : Thing} {d : Delta} (ht : isTh t = true) (hd : isD d = true) : isTh (app t d) = true := by
  have okf : ∀ (f g : Field) (e : Bool), isF g = true → okF f e = true → isF (if e = true then f else g) = true := by
    intro f g e h h'
    cases e with
    | false => exact h
    | true => simp only [okF, Bool.and_eq_true] at h'; exact h'.1
  simp only [isD, fl4, Bool.and_eq_true] at hd
  simp only [isTh, Bool.and_eq_true] at ht ⊢
  obtain ⟨_, _, _, _, _, hon, h0, h1, h2, h3⟩ := hd
  obtain ⟨t0, t1, t2, t3, t4, t5, t6⟩ := ht
  refine ⟨t0, t1, ?_, okf _ _ _ t3 h0, okf _ _ _ t4 h1, okf _ _ _ t5 h2, okf _ _ _ t6 h3⟩
  show on (if a1 d = true then d.At else t.At) = true
  split
  · exact hon
  · exact t2
def Ris (l : List Thing) : Prop := l.Pairwise fun a b => a.ID < b.ID
def lo (l : List Thing) (x : Int) : List Thing := l.takeWhile fun t => decide (t.ID < x)
def hi (l : List Thing) (x : Int) : List Thing := l.dropWhile fun t => decide (t.ID < x)
def has (b : List Thing) (x : Int) : Bool := match b with
  | [] => false
  | t :: _ => t.ID == x
theorem lohi (l : List Thing) (x : Int) : lo l x ++ hi l x = l := List.takeWhile_append_dropWhile
theorem lo_lt (l : List Thing) (x : Int) : ∀ t ∈ lo l x, t.ID < x := by
  induction l with
  | nil => intro t h; cases h
  | cons u l ih =>
    intro t h
    simp only [lo, List.takeWhile_cons] at h
    split at h
    · rename_i hu
      cases h with
      | head => exact of_decide_eq_true hu
      | tail _ h' => exact ih t h'
    · cases h
theorem hi_ge {l : List Thing} (hl : Ris l) (x : Int) : ∀ t ∈ hi l x, x ≤ t.ID := by
  induction l with
  | nil => intro t h; cases h
  | cons u l ih =>
    intro t h
    cases hl with
    | cons hu hr =>
      simp only [hi, List.dropWhile_cons] at h
      split at h
      · exact ih hr t h
      · rename_i hx
        have hx' : x ≤ u.ID := by simp at hx; exact hx
        cases h with
        | head => exact hx'
        | tail _ h' => have := hu t h'; omega
def stp (l : List Thing) (e : Event) : List Thing × Bool :=
  if isEv e = false then (l, false)
  else if has (hi l e.ID) e.ID == (e.Kind == 1) then (l, false)
  else if e.Kind == 1 then (lo l e.ID ++ e.Thing :: hi l e.ID, true)
  else if e.Kind == 2 then (lo l e.ID ++ (match hi l e.ID with | [] => [] | u :: b => app u e.Delta :: b), true)
  else (lo l e.ID ++ (hi l e.ID).tail, true)
theorem ris_ins {a b : List Thing} {t : Thing} (h : Ris (a ++ b)) (ha : ∀ u ∈ a, u.ID < t.ID) (hb : ∀ u ∈ b, t.ID < u.ID) : Ris (a ++ t :: b) := by
  unfold Ris at *
  rw [List.pairwise_append] at h ⊢
  refine ⟨h.1, List.pairwise_cons.2 ⟨hb, h.2.1⟩, ?_⟩
  intro u hu v hv
  cases hv with
  | head => exact ha u hu
  | tail _ hv' => exact h.2.2 u hu v hv'
theorem ris_del {a b : List Thing} {t : Thing} (h : Ris (a ++ t :: b)) : Ris (a ++ b) := by
  unfold Ris at *
  rw [List.pairwise_append] at h ⊢
  exact ⟨h.1, (List.pairwise_cons.1 h.2.1).2, fun u hu v hv => h.2.2 u hu v (List.mem_cons_of_mem _ hv)⟩
theorem ris_set {a b : List Thing} {t u : Thing} (h : Ris (a ++ t :: b)) (hi : u.ID = t.ID) : Ris (a ++ u :: b) := by
  unfold Ris at *
  rw [List.pairwise_append] at h ⊢
  refine ⟨h.1, List.pairwise_cons.2 ⟨fun v hv => ?_, (List.pairwise_cons.1 h.2.1).2⟩, ?_⟩
  · rw [hi]; exact (List.pairwise_cons.1 h.2.1).1 v hv
  · intro v hv w hw
    cases hw with
    | head => rw [hi]; exact h.2.2 v hv t List.mem_cons_self
    | tail _ hw' => exact h.2.2 v hv w (List.mem_cons_of_mem _ hw')
theorem has_no {b : List Thing} {x : Int} (hr : Ris b) (hg : ∀ t ∈ b, x ≤ t.ID) (h : has b x = false) : ∀ t ∈ b, x < t.ID := by
  cases b with
  | nil => intro t h; cases h
  | cons u b =>
    have hu : u.ID ≠ x := by simpa [has] using h
    have h1 := hg u List.mem_cons_self
    intro t ht
    cases ht with
    | head => omega
    | tail _ ht' => have := (List.pairwise_cons.1 hr).1 t ht'; omega
theorem has_yes {b : List Thing} {x : Int} (h : has b x = true) : ∃ u b', b = u :: b' ∧ u.ID = x := by
  cases b with
  | nil => cases h
  | cons u b => exact ⟨u, b, rfl, by simpa [has] using h⟩
theorem ris_hi {l : List Thing} (h : Ris l) (x : Int) : Ris (hi l x) := by
  have := h; rw [← lohi l x] at this; exact (List.pairwise_append.1 this).2.1
theorem isEv_id {e : Event} (h : isEv e = true) (h1 : (e.Kind == 1) = true) : isTh e.Thing = true ∧ e.ID = e.Thing.ID := by
  unfold isEv at h
  rw [if_pos h1] at h
  simp only [Bool.and_eq_true, beq_iff_eq] at h
  exact ⟨h.1, h.2.1⟩
theorem isEv_d {e : Event} (h : isEv e = true) (h1 : (e.Kind == 1) = false) (h2 : (e.Kind == 2) = true) : isD e.Delta = true := by
  unfold isEv at h
  rw [h1, h2] at h
  simp only [Bool.false_eq_true, if_false, if_true, Bool.and_eq_true] at h
  exact h.1
theorem stp_good {l : List Thing} (h : Ris l) (e : Event) : Ris (stp l e).1 ∧ (stp l e).1.length ≤ l.length + 1 ∧ ((∀ t ∈ l, isTh t = true) → ∀ t ∈ (stp l e).1, isTh t = true) := by
  have hl := lohi l e.ID
  have hlo := lo_lt l e.ID
  have hge := hi_ge h e.ID
  have hrh := ris_hi h e.ID
  have hlen : l.length = (lo l e.ID).length + (hi l e.ID).length := by rw [← List.length_append, hl]
  unfold stp
  cases hE : isEv e with
  | false => exact ⟨h, by simp, fun q => q⟩
  | true =>
    simp only [Bool.true_eq_false, if_false]
    cases hh : has (hi l e.ID) e.ID with
    | false =>
      cases h1 : (e.Kind == 1) with
      | false => exact ⟨h, by simp, fun q => q⟩
      | true =>
        obtain ⟨hT, hid⟩ := isEv_id hE h1
        simp only [Bool.false_beq, Bool.not_true, Bool.false_eq_true, if_false, if_true]
        refine ⟨ris_ins (by rw [hl]; exact h) (by rw [← hid]; exact hlo) (by rw [← hid]; exact has_no hrh hge hh), by simp only [List.length_append, List.length_cons]; omega, fun q t ht => ?_⟩
        rw [List.mem_append, List.mem_cons] at ht
        rcases ht with ht | rfl | ht
        · exact q t (by rw [← hl]; exact List.mem_append_left _ ht)
        · exact hT
        · exact q t (by rw [← hl]; exact List.mem_append_right _ ht)
    | true =>
      cases h1 : (e.Kind == 1) with
      | true => exact ⟨h, by simp, fun q => q⟩
      | false =>
        simp only [Bool.true_beq, Bool.false_eq_true, if_false]
        obtain ⟨u, b, hb, hu⟩ := has_yes hh
        rw [hb] at hlen hl ⊢
        have hR : Ris (lo l e.ID ++ u :: b) := by rw [hl]; exact h
        have hin : ∀ t, t ∈ lo l e.ID ∨ t = u ∨ t ∈ b → t ∈ l := by
          intro t ht; rw [← hl, List.mem_append, List.mem_cons]; exact ht
        simp only [List.length_cons] at hlen
        cases h2 : (e.Kind == 2) with
        | true =>
          simp only [if_true]
          refine ⟨ris_set hR rfl, by simp only [List.length_append, List.length_cons]; omega, fun q t ht => ?_⟩
          rw [List.mem_append, List.mem_cons] at ht
          rcases ht with ht | rfl | ht
          · exact q t (hin t (.inl ht))
          · exact app_is (q u (hin u (.inr (.inl rfl)))) (isEv_d hE h1 h2)
          · exact q t (hin t (.inr (.inr ht)))
        | false =>
          simp only [Bool.false_eq_true, if_false, List.tail_cons]
          refine ⟨ris_del hR, by simp only [List.length_append]; omega, fun q t ht => ?_⟩
          rw [List.mem_append] at ht
          rcases ht with ht | ht
          · exact q t (hin t (.inl ht))
          · exact q t (hin t (.inr (.inr ht)))
theorem cmp_eq (n : Nat) (t : Thing) (x : Int) : F85 n t x = some (if t.ID < x then -1 else if x < t.ID then 1 else 0) := by
  unfold F85 F86 F111
  simp only [Option.bind_some, bne_self_eq_false, Bool.false_eq_true, if_false, decide_eq_true_eq]
  split
  · rfl
  · split <;> rfl
theorem shr1' (x : Int) : shrI .u64 x 1 = x / 2 := by
  unfold shrI; rw [Int.fdiv_eq_ediv_of_nonneg _ (by decide)]; rfl
theorem half {i j : Nat} (h : i + j < 1000000) : IntKind.wrap .i64 (shrI .u64 (IntKind.wrap .u64 (IntKind.wrap .i64 ((i : Int) + (j : Int)))) 1) = (((i + j) / 2 : Nat) : Int) := by
  have e1 : IntKind.wrap .i64 ((i : Int) + (j : Int)) = ((i + j : Nat) : Int) := by simp [IntKind.wrap, IntKind.bits, IntKind.signed]; omega
  have e2 : IntKind.wrap .u64 ((i + j : Nat) : Int) = ((i + j : Nat) : Int) := by simp [IntKind.wrap, IntKind.bits, IntKind.signed]; omega
  have e3 : shrI .u64 ((i + j : Nat) : Int) 1 = (((i + j) / 2 : Nat) : Int) := by
    rw [shr1']; omega
  rw [e1, e2, e3]
  simp [IntKind.wrap, IntKind.bits, IntKind.signed]; omega
theorem bs_l (n : Nat) (a b : List Thing) (x : Int) (ha : ∀ t ∈ a, t.ID < x) (hb : ∀ t ∈ b, x ≤ t.ID) (hlen : a.length + b.length ≤ 100000) : ∀ (m i j : Nat), i ≤ a.length → a.length ≤ j → j ≤ a.length + b.length → j - i < m →
    F84s0_l7 n (a ++ b) x m (i : Int) (j : Int) = some ((a.length : Int), has b x) := by
  intro m
  induction m with
  | zero => intro i j _ _ _ h; omega
  | succ m ih =>
    intro i j h1 h2 h3 hm
    unfold F84s0_l7
    have hL : (a ++ b).length = a.length + b.length := List.length_append
    by_cases hij : i < j
    · rw [if_pos (lt_dec hij), half (by omega), ixg (a ++ b) ((i + j) / 2) (by omega)]
      simp only [Option.bind_some, cmp_eq]
      by_cases hq : (i + j) / 2 < a.length
      · have hlt : ((a ++ b)[(i + j) / 2]'(by omega)).ID < x := by rw [List.getElem_append_left hq]; exact ha _ (List.getElem_mem _)
        rw [if_pos hlt, if_pos (by decide), dsucc (by simp only [maxLen]; omega)]
        exact ih ((i + j) / 2 + 1) j (by omega) h2 h3 (by omega)
      · have hge : x ≤ ((a ++ b)[(i + j) / 2]'(by omega)).ID := by rw [List.getElem_append_right (by omega)]; exact hb _ (List.getElem_mem _)
        have hno : ¬ (decide ((if ((a ++ b)[(i + j) / 2]'(by omega)).ID < x then (-1 : Int) else if x < ((a ++ b)[(i + j) / 2]'(by omega)).ID then 1 else 0) < 0) = true) := by
          rw [if_neg (by omega)]; split <;> decide
        rw [if_neg hno]
        exact ih i ((i + j) / 2) h1 (by omega) (by omega) (by omega)
    · have hi' : i = a.length := by omega
      subst hi'
      rw [if_neg (by simp; omega)]
      cases b with
      | nil =>
        simp only [List.length_nil, Nat.add_zero] at hL h3
        rw [if_neg (by rw [hL]; simp)]
        rfl
      | cons u b =>
        rw [if_pos (by rw [hL]; simp; omega), ixg (a ++ u :: b) a.length (by rw [hL]; simp)]
        simp only [Option.bind_some, cmp_eq]
        have hg : (a ++ u :: b)[a.length]'(by rw [hL]; simp) = u := by simp
        rw [hg]
        have hu := hb u List.mem_cons_self
        rw [if_neg (by omega)]
        simp only [has]
        by_cases he : u.ID = x
        · rw [he, if_neg (by omega)]; simp
        · rw [if_pos (by omega)]
          simp [he]
theorem bs_eq {n : Nat} {l : List Thing} (hr : Ris l) (hl : l.length ≤ 100000) (hn : l.length ≤ n) (x : Int) : F84s0 n l x = some (((lo l x).length : Int), has (hi l x) x) := by
  have h := bs_l n (lo l x) (hi l x) x (lo_lt l x) (hi_ge hr x) (by rw [← List.length_append, lohi]; exact hl) (n + 8) 0 l.length (by omega) (by have := congrArg List.length (lohi l x); rw [List.length_append] at this; omega) (by rw [← List.length_append, lohi]; exact Nat.le_refl _) (by omega)
  rw [lohi] at h
  exact h
theorem clone_eq {l : List Thing} (hl : l.length ≤ 100000) : cloneL l = some l := by
  unfold cloneL; rw [if_pos (by omega)]
theorem step_eq {n : Nat} {l : List Thing} (hr : Ris l) (hl : l.length ≤ 100000) (hn : l.length ≤ n) (e : Event) : F51 n l e = some (stp l e) := by
  unfold F51 stp
  rw [bs_eq hr hl hn, ev_is, clone_eq hl]
  have hL := lohi l e.ID
  have hlen : l.length = (lo l e.ID).length + (hi l e.ID).length := by rw [← List.length_append, hL]
  have htk : l.take (lo l e.ID).length = lo l e.ID := by
    have := List.take_left' (l₁ := lo l e.ID) (l₂ := hi l e.ID) rfl
    rw [hL] at this; exact this
  have hdk : l.drop (lo l e.ID).length = hi l e.ID := by
    have := List.drop_left' (l₁ := lo l e.ID) (l₂ := hi l e.ID) rfl
    rw [hL] at this; exact this
  simp only [Option.bind_some]
  cases hE : isEv e with
  | false => rfl
  | true =>
    simp only [Bool.not_true, Bool.false_eq_true, Bool.true_eq_false, if_false]
    cases hh : has (hi l e.ID) e.ID with
    | false =>
      cases h1 : (e.Kind == 1) with
      | false => rfl
      | true =>
        simp only [Bool.false_beq, Bool.not_true, Bool.false_eq_true, if_false, if_true]
        unfold insL
        rw [if_pos ⟨by omega, by omega, by omega⟩]
        simp only [Int.toNat_natCast, Option.bind_some, htk, hdk]
    | true =>
      cases h1 : (e.Kind == 1) with
      | true => rfl
      | false =>
        simp only [Bool.true_beq, Bool.false_eq_true, if_false]
        obtain ⟨u, b, hb, hu⟩ := has_yes hh
        rw [hb] at hlen hL hdk ⊢
        simp only [List.length_cons] at hlen
        have hk : (lo l e.ID).length < l.length := by omega
        have hget : l[(lo l e.ID).length]'hk = u := by
          have h0 := congrArg List.head? hdk
          rw [List.head?_drop, List.head?_cons, List.getElem?_eq_getElem hk] at h0
          exact Option.some.inj h0
        cases h2 : (e.Kind == 2) with
        | true =>
          simp only [if_true]
          rw [ixg l _ hk, hget]
          simp only [Option.bind_some, app_eq, Int.toNat_natCast]
          have hset : l.set (lo l e.ID).length (app u e.Delta) = lo l e.ID ++ app u e.Delta :: b := by
            conv => lhs; arg 1; rw [← hL]
            rw [List.set_append_right _ _ (Nat.le_refl _), Nat.sub_self]
            rfl
          rw [hset]
        | false =>
          simp only [Bool.false_eq_true, if_false]
          rw [dsucc (by simp only [maxLen]; omega)]
          unfold delL
          rw [if_pos ⟨by omega, by omega, by omega, by omega⟩]
          simp only [Int.toNat_natCast, Option.bind_some, htk]
          have hd1 : l.drop ((lo l e.ID).length + 1) = b := by rw [← List.drop_drop, hdk]; rfl
          rw [hd1]
          rfl
def fld (l0 : List Thing) : List Thing → List Event → List Thing × Bool
  | l, [] => (l, true)
  | l, e :: es => if (stp l e).2 then fld l0 (stp l e).1 es else (l0, false)
theorem fold_l {n : Nat} {a0 : List Thing} (h0 : a0.length ≤ 1000) (es : List Event) (hes : es.length ≤ 5000) (hn : 10000 ≤ n) : ∀ (m i : Nat) (l : List Thing), i ≤ es.length → es.length - i < m → Ris l → l.length + (es.length - i) ≤ 10000 →
    F40_l11 n a0 es m l true (i : Int) = some (fld a0 l (es.drop i)) := by
  intro m
  induction m with
  | zero => intro i l _ h; omega
  | succ m ih =>
    intro i l hi hm hr hl
    unfold F40_l11
    by_cases h : i < es.length
    · rw [if_pos (lt_dec h), ixg es i h, Option.bind_some, step_eq hr (by omega) (by omega), Option.bind_some, dropS es i h, fld]
      obtain ⟨g1, g2, _⟩ := stp_good hr es[i]
      cases hb : (stp l es[i]).2 with
      | true =>
        simp only [Bool.not_true, Bool.false_eq_true, if_false, if_true]
        rw [dsucc (by simp only [maxLen]; omega)]
        exact ih (i + 1) _ (by omega) (by omega) g1 (by omega)
      | false =>
        simp only [Bool.not_false, if_true, Bool.false_eq_true, if_false]
        unfold F40_j16
        simp only [Bool.not_false, if_true]
        rw [clone_eq (by omega)]
        rfl
    · rw [if_neg (by rw [ge_dec h]; decide), List.drop_of_length_le (by omega), fld]
      rfl
theorem fold_eq {n : Nat} {l : List Thing} (es : List Event) (h0 : l.length ≤ 1000) (hes : es.length ≤ 5000) (hn : 10000 ≤ n) (hr : Ris l) : F40 n l es = some (fld l l es) := by
  unfold F40
  rw [clone_eq (by omega)]
  exact fold_l h0 es hes hn (n + 8) 0 l (by omega) (by omega) hr (by omega)
def fewG (f : Field) : Bool := decide ((f.Text.size : Int) ≤ 40)
def fewU (t : Thing) : Bool := fewG t.F.a0 && (fewG t.F.a1 && (fewG t.F.a2 && fewG t.F.a3))
theorem fewU_eq (n : Nat) (t : Thing) : F75 n t = some (fewU t) := by
  unfold F75 F109 fewU
  simp only [Option.bind_some]
  change (if (!(fewG t.F.a0)) = true then some false else if (!(fewG t.F.a1)) = true then some false else if (!(fewG t.F.a2)) = true then some false else if (!(fewG t.F.a3)) = true then some false else some true) = _
  cases fewG t.F.a0 <;> cases fewG t.F.a1 <;> cases fewG t.F.a2 <;> cases fewG t.F.a3 <;> rfl
theorem fewsU_l (n : Nat) (l : List Thing) (hl : l.length ≤ maxLen) : ∀ (m i : Nat), i ≤ l.length → l.length - i < m → F36_l4 n l m (i : Int) = some ((l.drop i).all fewU && decide ((l.length : Int) ≤ 30))
  | 0, i, _, h => by omega
  | m + 1, i, hi, h => by
    unfold F36_l4
    by_cases hlt : i < l.length
    · rw [if_pos (lt_dec hlt), ixg l i hlt, dropS l i hlt, List.all_cons]
      simp only [Option.bind_some, fewU_eq]
      cases fewU l[i] with
      | false => simp
      | true =>
        simp only [Bool.not_true, Bool.false_eq_true, if_false, Bool.true_and]
        rw [dsucc (by omega)]
        exact fewsU_l n l hl m (i + 1) (by omega) (by omega)
    · have : i = l.length := by omega
      subst this
      rw [if_neg (by rw [ge_dec (by omega)]; decide), List.drop_length]
      rfl
theorem fewsU {n : Nat} {l : List Thing} (hl : l.length ≤ maxLen) (hn : l.length ≤ n) : ∃ b, F36 n l = some b ∧ (b = true → l.length ≤ 30) := by
  have := fewsU_l n l hl (n + 8) 0 (by omega) (by omega)
  refine ⟨_, this, fun h => ?_⟩
  simp only [Bool.and_eq_true, decide_eq_true_eq] at h
  omega
theorem pred_w' {i : Nat} (h : i + 1 < maxLen) : IntKind.wrap .i64 (((i + 1 : Nat) : Int) - 1) = (i : Int) := by
  simp only [maxLen] at h
  simp [IntKind.wrap, IntKind.bits, IntKind.signed]; omega
theorem rising_l (n : Nat) (l : List Thing) (hl : l.length ≤ maxLen) : ∀ (m i : Nat), i ≤ l.length → l.length - i < m → (∀ t ∈ l.take i, isTh t = true) → Ris (l.take i) →
    ∃ b, F37_l4 n l m (i : Int) = some b ∧ (b = true ↔ (∀ t ∈ l, isTh t = true) ∧ Ris l)
  | 0, i, _, h, _, _ => by omega
  | m + 1, i, hi, h, hT, hR => by
    unfold F37_l4
    by_cases hlt : i < l.length
    · rw [if_pos (lt_dec hlt), ixg l i hlt]
      simp only [Option.bind_some, ris_eq]
      have hmem : l[i] ∈ l := List.getElem_mem hlt
      have htk : l.take (i + 1) = l.take i ++ [l[i]] := (List.take_append_getElem hlt).symm
      cases hE : isTh l[i] with
      | false => exact ⟨false, rfl, by simp; intro h0; have := h0 _ hmem; rw [hE] at this; cases this⟩
      | true =>
        have hT' : ∀ t ∈ l.take (i + 1), isTh t = true := by
          intro t ht
          rw [htk, List.mem_append, List.mem_singleton] at ht
          rcases ht with ht | rfl
          · exact hT t ht
          · exact hE
        simp only [Bool.not_true, Bool.false_eq_true, if_false]
        cases i with
        | zero =>
          rw [if_neg (by decide), dsucc (by simp only [maxLen]; decide)]
          exact rising_l n l hl m 1 (by omega) (by omega) hT' (by rw [htk, List.take_zero]; exact List.pairwise_singleton _ _)
        | succ i =>
          rw [if_pos (by simp), pred_w' (by omega), ixg l i (by omega)]
          simp only [Option.bind_some]
          by_cases hx : l[i + 1].ID ≤ l[i].ID
          · rw [if_pos (decide_eq_true hx)]
            refine ⟨false, rfl, ⟨fun h => (by cases h), fun h0 => ?_⟩⟩
            have := List.pairwise_iff_getElem.1 h0.2 i (i + 1) (by omega) hlt (by omega)
            omega
          · rw [if_neg (by simp; omega), dsucc (by omega)]
            refine rising_l n l hl m (i + 1 + 1) (by omega) (by omega) hT' ?_
            rw [htk]
            unfold Ris
            rw [List.pairwise_append]
            refine ⟨hR, List.pairwise_singleton _ _, ?_⟩
            intro a ha b hb
            rw [List.mem_singleton] at hb
            subst hb
            have hti : l.take (i + 1) = l.take i ++ [l[i]] := (List.take_append_getElem (by omega)).symm
            unfold Ris at hR
            rw [hti] at ha hR
            rw [List.mem_append, List.mem_singleton] at ha
            rcases ha with ha | rfl
            · have := (List.pairwise_append.1 hR).2.2 a ha l[i] (by simp)
              omega
            · omega
    · have : i = l.length := by omega
      subst this
      rw [if_neg (by rw [ge_dec (by omega)]; decide)]
      rw [List.take_length] at hT hR
      exact ⟨true, rfl, by simp; exact ⟨hT, hR⟩⟩
theorem rising_eq {n : Nat} {l : List Thing} (hl : l.length ≤ maxLen) (hn : l.length ≤ n) : ∃ b, F37 n l = some b ∧ (b = true ↔ (∀ t ∈ l, isTh t = true) ∧ Ris l) :=
  rising_l n l hl (n + 8) 0 (by omega) (by omega) (by simp) (by unfold Ris; simp)
theorem sameAll_l (n : Nat) (l : List Thing) (hl : l.length ≤ 100000) : ∀ (m i : Nat), i ≤ l.length → l.length - i < m → F34_l4 n l l m (i : Int) = some true
  | 0, i, _, h => by omega
  | m + 1, i, hi, h => by
    unfold F34_l4
    by_cases hlt : i < l.length
    · rw [if_pos (lt_dec hlt), ixg l i hlt]
      simp only [Option.bind_some, Thing.eqb_refl, Bool.not_true, Bool.false_eq_true, if_false]
      rw [dsucc (by simp only [maxLen]; omega)]
      exact sameAll_l n l hl m (i + 1) (by omega) (by omega)
    · rw [if_neg (by rw [ge_dec hlt]; decide)]
theorem sameAll {n : Nat} {l : List Thing} (hl : l.length ≤ 100000) (hn : l.length ≤ n) : F34 n l l = some true := by
  unfold F34
  rw [if_neg (by simp)]
  exact sameAll_l n l hl (n + 8) 0 (by omega) (by omega)
def inR (r : Rect) (p : Point) : Bool := if decide (r.X0 ≤ p.X) then if decide (p.X < r.X1) then if decide (r.Y0 ≤ p.Y) then decide (p.Y < r.Y1) else false else false else false
theorem in_eq (n : Nat) (r : Rect) (p : Point) : F79 n r p = some (inR r p) := by
  unfold F79 inR
  split
  · split
    · split <;> rfl
    · rfl
  · rfl
def seen (l : List Thing) (r : Rect) : List Thing := l.filter fun t => inR r t.At
theorem seen_l (n : Nat) (l : List Thing) (r : Rect) (hl : l.length ≤ 50000) : ∀ (m i : Nat) (out : List Thing), i ≤ l.length → l.length - i < m → out.length ≤ i → F41_l7 n l r m out (i : Int) = some (out ++ seen (l.drop i) r)
  | 0, i, _, _, h, _ => by omega
  | m + 1, i, out, hi, h, ho => by
    have hmc : (100000 : Nat) * 200 ≤ maxCells := by simp only [maxCells]; decide
    unfold F41_l7
    by_cases hlt : i < l.length
    · rw [if_pos (lt_dec hlt), dropS l i hlt, ixg l i hlt]
      simp only [Option.bind_some, in_eq]
      cases hx : inR r l[i].At with
      | true =>
        simp only [if_true]
        rw [if_pos ⟨by omega, by omega⟩, dsucc (by simp only [maxLen]; omega), seen_l n l r hl m (i + 1) _ (by omega) (by omega) (by rw [List.length_append]; simp; omega)]
        unfold seen
        rw [List.filter_cons_of_pos (by simpa using hx)]
        simp
      | false =>
        simp only [Bool.false_eq_true, if_false]
        rw [dsucc (by simp only [maxLen]; omega), seen_l n l r hl m (i + 1) _ (by omega) (by omega) (by omega)]
        unfold seen
        rw [List.filter_cons_of_neg (by simpa using hx)]
    · rw [if_neg (by rw [ge_dec hlt]; decide), List.drop_of_length_le (by omega)]; simp [seen]
theorem seen_eq {n : Nat} {l : List Thing} (r : Rect) (hl : l.length ≤ 50000) (hn : l.length ≤ n) : F41 n l r = some (seen l r) := by
  have h : F41 n l r = some ([] ++ seen (l.drop 0) r) := seen_l n l r hl (n + 8) 0 [] (by omega) (by omega) (by simp)
  rw [List.drop_zero, List.nil_append] at h
  exact h
def evE (t : Thing) : Event := ⟨1, t.ID, t, noD⟩
def evL (t : Thing) : Event := ⟨3, t.ID, noT, noD⟩
def evU (x y : Thing) : Event := ⟨2, y.ID, noT, dl x y⟩
def dif : Nat → List Thing → List Thing → List Event
  | 0, _, _ => []
  | _ + 1, [], [] => []
  | k + 1, [], y :: b => evE y :: dif k [] b
  | k + 1, x :: a, [] => evL x :: dif k a []
  | k + 1, x :: a, y :: b => if y.ID < x.ID then evE y :: dif k (x :: a) b else if x.ID < y.ID then evL x :: dif k a (y :: b) else if mk x y != 0 then evU x y :: dif k a b else dif k a b
theorem cut1 {t : Thing} {l : List Thing} : ((t :: l).drop 1).take ((t :: l).length - 1) = l := by simp
theorem one_le {t : Thing} {l : List Thing} : (0 : Int) ≤ 1 ∧ (1 : Int) ≤ ((t :: l).length : Int) ∧ ((t :: l).length : Int) ≤ ((t :: l).length : Int) := by
  simp only [List.length_cons]; omega
theorem ix0 {t : Thing} {l : List Thing} : ix (t :: l) (0 : Int) = some t := rfl
theorem of_l (n : Nat) : ∀ (k m : Nat) (a b : List Thing) (acc : List Event), a.length + b.length ≤ k → k < m → acc.length + k ≤ 10000 → F38_l12 n m a b acc = some (acc ++ dif k a b) := by
  have hmc : (100000 : Nat) * 300 ≤ maxCells := by simp only [maxCells]; decide
  have c0 : ∀ {t : Thing} {l : List Thing}, (((t :: l).length : Int) == 0) = false := by intro t l; simp; omega
  intro k
  induction k with
  | zero =>
    intro m a b acc h hm _
    obtain ⟨m, rfl⟩ : ∃ q, m = q + 1 := ⟨m - 1, by omega⟩
    have ha : a = [] := List.eq_nil_of_length_eq_zero (by omega)
    have hb : b = [] := List.eq_nil_of_length_eq_zero (by omega)
    subst ha hb
    unfold F38_l12 dif
    simp
  | succ k ih =>
    intro m a b acc h hm hk
    obtain ⟨m, rfl⟩ : ∃ q, m = q + 1 := ⟨m - 1, by omega⟩
    have enter : ∀ (a b : List Thing) (y : Thing), a.length + b.length ≤ k → F38_j16 n a (y :: b) acc (F38_l12 n m) = some (acc ++ evE y :: dif k a b) := by
      intro a b y hl
      unfold F38_j16
      rw [ix0]
      simp only [Option.bind_some]
      rw [if_pos ⟨by omega, by omega⟩, if_pos one_le, cut1, ih m a b _ hl (by omega) (by rw [List.length_append]; simp; omega)]
      simp [evE, noD, noF]
    have leave : ∀ (a b : List Thing) (x : Thing), a.length + b.length ≤ k → F38_j22 n (x :: a) b acc (F38_l12 n m) = some (acc ++ evL x :: dif k a b) := by
      intro a b x hl
      unfold F38_j22
      rw [ix0]
      simp only [Option.bind_some]
      rw [if_pos ⟨by omega, by omega⟩, if_pos one_le, cut1, ih m a b _ hl (by omega) (by rw [List.length_append]; simp; omega)]
      simp [evL, noD, noT, noF]
    unfold F38_l12
    cases a with
    | nil =>
      cases b with
      | nil => simp [dif]
      | cons y b =>
        simp only [List.length_nil, List.length_cons] at h
        rw [if_pos (by rfl), c0]
        simp only [Bool.false_eq_true, if_false]
        unfold F38_j13
        rw [if_pos (by rfl), enter [] b y (by simp; omega), dif]
    | cons x a =>
      simp only [List.length_cons] at h
      rw [c0]
      simp only [Bool.false_eq_true, if_false]
      unfold F38_j13
      rw [c0]
      simp only [Bool.false_eq_true, if_false]
      cases b with
      | nil =>
        rw [if_neg (by simp)]
        unfold F38_j19
        rw [if_pos (by rfl), leave a [] x (by simp only [List.length_nil] at h ⊢; omega), dif]
      | cons y b =>
        simp only [List.length_cons] at h
        rw [if_pos (by simp only [List.length_cons]; simp), ix0, ix0]
        simp only [Option.bind_some]
        rw [dif]
        by_cases h1 : y.ID < x.ID
        · rw [if_pos (decide_eq_true h1), if_pos h1, enter (x :: a) b y (by simp; omega)]
        · rw [if_neg (by simp; omega), if_neg h1]
          unfold F38_j19
          rw [c0, ix0, ix0]
          simp only [Bool.false_eq_true, if_false, Option.bind_some]
          by_cases h2 : x.ID < y.ID
          · rw [if_pos (decide_eq_true h2), if_pos h2, leave a (y :: b) x (by simp; omega)]
          · rw [if_neg (by simp; omega), if_neg h2, diff_eq]
            simp only [Option.bind_some]
            have tails : ∀ (l : List Event), l.length ≤ acc.length + 1 → F38_j28 n (x :: a) (y :: b) (F38_l12 n m) l = some (l ++ dif k a b) := by
              intro l hl
              unfold F38_j28
              rw [if_pos one_le, if_pos one_le, cut1, cut1, ih m a b l (by omega) (by omega) (by omega)]
            cases h3 : (mk x y != 0) with
            | true =>
              simp only [if_true]
              rw [if_pos ⟨by omega, by omega⟩, tails _ (by rw [List.length_append]; simp)]
              simp [evU, noT, noF, dl]
            | false =>
              simp only [Bool.false_eq_true, if_false]
              rw [tails acc (by omega)]
theorem of_eq {n : Nat} {a b : List Thing} (r s : Rect) (ha : a.length ≤ 2000) (hb : b.length ≤ 2000) (hn : 10000 ≤ n) : F38 n a r b s = some (dif 4000 (seen a r) (seen b s)) := by
  unfold F38
  rw [seen_eq r (by omega) (by omega), seen_eq s (by omega) (by omega)]
  simp only [Option.bind_some]
  have h1 : (seen a r).length ≤ a.length := List.length_filter_le _ _
  have h2 : (seen b s).length ≤ b.length := List.length_filter_le _ _
  rw [of_l n 4000 (n + 8) _ _ [] (by omega) (by omega) (by simp)]
  rfl
theorem msk_hs : ∀ a0 a1 a2 a3 a4 : Bool, hs (msk a0 a1 a2 a3 a4) 1 = a1 ∧ hs (msk a0 a1 a2 a3 a4) 2 = a2 ∧ hs (msk a0 a1 a2 a3 a4) 3 = a3 ∧ hs (msk a0 a1 a2 a3 a4) 4 = a4 ∧ decide ((31 : Int) < msk a0 a1 a2 a3 a4) = false := by decide +kernel
theorem isD_dl {x y : Thing} (hy : isTh y = true) (h : (mk x y != 0) = true) : isD (dl x y) = true := by
  simp only [isTh, Bool.and_eq_true, decide_eq_true_eq] at hy
  obtain ⟨i0, i1, hon, f0, f1, f2, f3⟩ := hy
  obtain ⟨m1, m2, m3, m4, m5⟩ := msk_hs (cA x y) (c0 x y) (c1 x y) (c2 x y) (c3 x y)
  have mA := msk_at (cA x y) (c0 x y) (c1 x y) (c2 x y) (c3 x y)
  have hf : ∀ (c : Bool) (f : Field), isF f = true → okF (pick c f noF) c = true := by
    intro c f h
    cases c with
    | true => simp [okF, pick, h]
    | false => show okF noF false = true; decide +kernel
  have g1 : a1 (dl x y) = cA x y := mA
  have g2 : fl4 (dl x y) = true := by
    unfold fl4
    show (okF (pick (c0 x y) y.F.a0 noF) (hs (msk _ _ _ _ _) 1) && (okF (pick (c1 x y) y.F.a1 noF) (hs (msk _ _ _ _ _) 2) && (okF (pick (c2 x y) y.F.a2 noF) (hs (msk _ _ _ _ _) 3) && okF (pick (c3 x y) y.F.a3 noF) (hs (msk _ _ _ _ _) 4)))) = true
    rw [m1, m2, m3, m4, hf _ _ f0, hf _ _ f1, hf _ _ f2, hf _ _ f3]
    rfl
  have g3 : on (dl x y).At = true := by
    show on (pick (cA x y) y.At noP) = true
    cases cA x y with
    | true => exact hon
    | false => show on noP = true; decide
  have g4 : (cA x y || Point.eqb (dl x y).At noP) = true := by
    show (cA x y || Point.eqb (pick (cA x y) y.At noP) noP) = true
    cases cA x y with
    | true => rfl
    | false => show Point.eqb noP noP = true; decide
  unfold isD
  rw [g1, g2, g3, g4]
  have e1 : decide ((dl x y).ID < 0) = false := by show decide (y.ID < 0) = false; simp; omega
  have e2 : decide ((1000000 : Int) < (dl x y).ID) = false := by show decide ((1000000 : Int) < y.ID) = false; simp; omega
  have e3 : ((dl x y).Mask == 0) = false := by
    show (mk x y == 0) = false
    simpa [bne] using h
  have e4 : decide ((31 : Int) < (dl x y).Mask) = false := m5
  rw [e1, e2, e3, e4]
  rfl
theorem isEv_E {t : Thing} (h : isTh t = true) : isEv (evE t) = true := by
  unfold isEv evE
  simp [h, Delta.eqb_refl]
theorem isEv_L {t : Thing} (h : isTh t = true) : isEv (evL t) = true := by
  simp only [isTh, Bool.and_eq_true, decide_eq_true_eq] at h
  unfold isEv evL
  simp [h.1, h.2.1, Delta.eqb_refl, Thing.eqb_refl]
theorem isEv_U {x y : Thing} (h : isTh y = true) (h' : (mk x y != 0) = true) : isEv (evU x y) = true := by
  unfold isEv evU
  have : (dl x y).ID = y.ID := rfl
  simp [isD_dl h h', Thing.eqb_refl, this]
theorem dif_good : ∀ (k : Nat) (a b : List Thing), Ris a → Ris b → (∀ t ∈ a, isTh t = true) → (∀ t ∈ b, isTh t = true) →
    (∀ e ∈ dif k a b, isEv e = true) ∧ (∀ e ∈ dif k a b, ∃ t, (t ∈ a ∨ t ∈ b) ∧ e.ID = t.ID) ∧ (dif k a b).Pairwise (fun e f => e.ID < f.ID) ∧ (dif k a b).length ≤ k := by
  intro k
  induction k with
  | zero => intro a b _ _ _ _; simp [dif]
  | succ k ih =>
    intro a b ra rb ta tb
    cases a with
    | nil =>
      cases b with
      | nil => simp [dif]
      | cons y b =>
        obtain ⟨h1, h2, h3, h4⟩ := ih [] b ra (List.pairwise_cons.1 rb).2 ta fun t ht => tb t (List.mem_cons_of_mem _ ht)
        rw [dif]
        refine ⟨?_, ?_, List.pairwise_cons.2 ⟨?_, h3⟩, by simp; omega⟩
        · intro e he
          cases he with
          | head => exact isEv_E (tb y List.mem_cons_self)
          | tail _ he => exact h1 e he
        · intro e he
          cases he with
          | head => exact ⟨y, .inr List.mem_cons_self, rfl⟩
          | tail _ he => obtain ⟨t, ht, hi⟩ := h2 e he; exact ⟨t, ht.imp id (List.mem_cons_of_mem _), hi⟩
        · intro e he
          obtain ⟨t, ht, hi⟩ := h2 e he
          rw [hi]
          rcases ht with ht | ht
          · cases ht
          · exact (List.pairwise_cons.1 rb).1 t ht
    | cons x a =>
      cases b with
      | nil =>
        obtain ⟨h1, h2, h3, h4⟩ := ih a [] (List.pairwise_cons.1 ra).2 rb (fun t ht => ta t (List.mem_cons_of_mem _ ht)) tb
        rw [dif]
        refine ⟨?_, ?_, List.pairwise_cons.2 ⟨?_, h3⟩, by simp; omega⟩
        · intro e he
          cases he with
          | head => exact isEv_L (ta x List.mem_cons_self)
          | tail _ he => exact h1 e he
        · intro e he
          cases he with
          | head => exact ⟨x, .inl List.mem_cons_self, rfl⟩
          | tail _ he => obtain ⟨t, ht, hi⟩ := h2 e he; exact ⟨t, ht.imp (List.mem_cons_of_mem _) id, hi⟩
        · intro e he
          obtain ⟨t, ht, hi⟩ := h2 e he
          rw [hi]
          rcases ht with ht | ht
          · exact (List.pairwise_cons.1 ra).1 t ht
          · cases ht
      | cons y b =>
        have ra1 := (List.pairwise_cons.1 ra).1
        have rb1 := (List.pairwise_cons.1 rb).1
        have ta' : ∀ t ∈ a, isTh t = true := fun t ht => ta t (List.mem_cons_of_mem _ ht)
        have tb' : ∀ t ∈ b, isTh t = true := fun t ht => tb t (List.mem_cons_of_mem _ ht)
        rw [dif]
        by_cases c1 : y.ID < x.ID
        · rw [if_pos c1]
          obtain ⟨h1, h2, h3, h4⟩ := ih (x :: a) b ra (List.pairwise_cons.1 rb).2 ta tb'
          refine ⟨?_, ?_, List.pairwise_cons.2 ⟨?_, h3⟩, by simp; omega⟩
          · intro e he
            cases he with
            | head => exact isEv_E (tb y List.mem_cons_self)
            | tail _ he => exact h1 e he
          · intro e he
            cases he with
            | head => exact ⟨y, .inr List.mem_cons_self, rfl⟩
            | tail _ he => obtain ⟨t, ht, hi⟩ := h2 e he; exact ⟨t, ht.imp id (List.mem_cons_of_mem _), hi⟩
          · intro e he
            obtain ⟨t, ht, hi⟩ := h2 e he
            rw [hi]
            show y.ID < t.ID
            rcases ht with ht | ht
            · cases ht with
              | head => exact c1
              | tail _ ht => have := ra1 t ht; omega
            · exact rb1 t ht
        · rw [if_neg c1]
          by_cases c2 : x.ID < y.ID
          · rw [if_pos c2]
            obtain ⟨h1, h2, h3, h4⟩ := ih a (y :: b) (List.pairwise_cons.1 ra).2 rb ta' tb
            refine ⟨?_, ?_, List.pairwise_cons.2 ⟨?_, h3⟩, by simp; omega⟩
            · intro e he
              cases he with
              | head => exact isEv_L (ta x List.mem_cons_self)
              | tail _ he => exact h1 e he
            · intro e he
              cases he with
              | head => exact ⟨x, .inl List.mem_cons_self, rfl⟩
              | tail _ he => obtain ⟨t, ht, hi⟩ := h2 e he; exact ⟨t, ht.imp (List.mem_cons_of_mem _) id, hi⟩
            · intro e he
              obtain ⟨t, ht, hi⟩ := h2 e he
              rw [hi]
              show x.ID < t.ID
              rcases ht with ht | ht
              · exact ra1 t ht
              · cases ht with
                | head => exact c2
                | tail _ ht => have := rb1 t ht; omega
          · rw [if_neg c2]
            obtain ⟨h1, h2, h3, h4⟩ := ih a b (List.pairwise_cons.1 ra).2 (List.pairwise_cons.1 rb).2 ta' tb'
            cases c3 : (mk x y != 0) with
            | false =>
              simp only [Bool.false_eq_true, if_false]
              refine ⟨h1, fun e he => ?_, h3, by omega⟩
              obtain ⟨t, ht, hi⟩ := h2 e he; exact ⟨t, ht.imp (List.mem_cons_of_mem _) (List.mem_cons_of_mem _), hi⟩
            | true =>
              simp only [if_true]
              refine ⟨?_, ?_, List.pairwise_cons.2 ⟨?_, h3⟩, by simp; omega⟩
              · intro e he
                cases he with
                | head => exact isEv_U (tb y List.mem_cons_self) c3
                | tail _ he => exact h1 e he
              · intro e he
                cases he with
                | head => exact ⟨y, .inr List.mem_cons_self, rfl⟩
                | tail _ he => obtain ⟨t, ht, hi⟩ := h2 e he; exact ⟨t, ht.imp (List.mem_cons_of_mem _) (List.mem_cons_of_mem _), hi⟩
              · intro e he
                obtain ⟨t, ht, hi⟩ := h2 e he
                rw [hi]
                show y.ID < t.ID
                rcases ht with ht | ht
                · have := ra1 t ht; omega
                · exact rb1 t ht
theorem lo_is {p a : List Thing} {x : Int} (hp : ∀ t ∈ p, t.ID < x) (ha : ∀ t ∈ a, x ≤ t.ID) : lo (p ++ a) x = p ∧ hi (p ++ a) x = a := by
  induction p with
  | nil =>
    cases a with
    | nil => exact ⟨rfl, rfl⟩
    | cons u a =>
      have hu := ha u List.mem_cons_self
      have : decide (u.ID < x) = false := by simp; omega
      simp [lo, hi, List.takeWhile_cons, List.dropWhile_cons, this]
  | cons t p ih =>
    have ht : decide (t.ID < x) = true := decide_eq_true (hp t List.mem_cons_self)
    obtain ⟨h1, h2⟩ := ih fun u hu => hp u (List.mem_cons_of_mem _ hu)
    unfold lo hi at *
    simp only [List.cons_append, List.takeWhile_cons, List.dropWhile_cons, ht, if_true, h1, h2, and_self]
theorem app_dl (x y : Thing) : app x (dl x y) = ⟨x.ID, y.At, y.F⟩ := by
  have h1 := app_eq 0 x (dl x y)
  rw [apply_eq] at h1
  exact (Option.some.inj h1).symm
theorem stp_E {p a : List Thing} {y : Thing} (hy : isTh y = true) (hp : ∀ t ∈ p, t.ID < y.ID) (ha : ∀ t ∈ a, y.ID < t.ID) : stp (p ++ a) (evE y) = (p ++ y :: a, true) := by
  obtain ⟨h1, h2⟩ := lo_is (x := y.ID) hp fun t ht => by have := ha t ht; omega
  have hh : has a y.ID = false := by
    cases a with
    | nil => rfl
    | cons u a => have := ha u List.mem_cons_self; simp [has]; omega
  unfold stp
  rw [isEv_E hy]
  show (if (true = false) then _ else if (has (hi (p ++ a) y.ID) y.ID == true) = true then _ else _) = _
  rw [h2, hh]
  simp [evE, h1, h2]
theorem stp_L {p a : List Thing} {x : Thing} (hx : isTh x = true) (hp : ∀ t ∈ p, t.ID < x.ID) (ha : ∀ t ∈ a, x.ID < t.ID) : stp (p ++ x :: a) (evL x) = (p ++ a, true) := by
  obtain ⟨h1, h2⟩ := lo_is (a := x :: a) (x := x.ID) hp fun t ht => by
    cases ht with
    | head => omega
    | tail _ ht => have := ha t ht; omega
  unfold stp
  rw [isEv_L hx]
  simp [evL, h1, h2, has]
theorem stp_U {p a : List Thing} {x y : Thing} (hy : isTh y = true) (hm : (mk x y != 0) = true) (he : x.ID = y.ID) (hp : ∀ t ∈ p, t.ID < x.ID) (ha : ∀ t ∈ a, x.ID < t.ID) : stp (p ++ x :: a) (evU x y) = (p ++ y :: a, true) := by
  obtain ⟨h1, h2⟩ := lo_is (a := x :: a) (x := y.ID) (p := p) (fun t ht => by have := hp t ht; omega) fun t ht => by
    cases ht with
    | head => omega
    | tail _ ht => have := ha t ht; omega
  unfold stp
  rw [isEv_U hy hm]
  have : (⟨x.ID, y.At, y.F⟩ : Thing) = y := by rw [he]
  simp [evU, h1, h2, has, he, app_dl]
theorem fold_dif (l0 : List Thing) : ∀ (k : Nat) (p a b : List Thing), a.length + b.length ≤ k → Ris a → Ris b → (∀ t ∈ a, isTh t = true) → (∀ t ∈ b, isTh t = true) → (∀ t ∈ p, ∀ u, u ∈ a ∨ u ∈ b → t.ID < u.ID) →
    fld l0 (p ++ a) (dif k a b) = (p ++ b, true) := by
  intro k
  induction k with
  | zero =>
    intro p a b h _ _ _ _ _
    have ha : a = [] := List.eq_nil_of_length_eq_zero (by omega)
    have hb : b = [] := List.eq_nil_of_length_eq_zero (by omega)
    subst ha hb
    rfl
  | succ k ih =>
    intro p a b h ra rb ta tb hp
    have snoc : ∀ {y : Thing} {a b : List Thing}, (∀ t ∈ p, t.ID < y.ID) → (∀ t ∈ p, ∀ u, u ∈ a ∨ u ∈ b → t.ID < u.ID) → (∀ u, u ∈ a ∨ u ∈ b → y.ID < u.ID) → ∀ t ∈ p ++ [y], ∀ u, u ∈ a ∨ u ∈ b → t.ID < u.ID := by
      intro y a b h1 h2 h3 t ht u hu
      rw [List.mem_append, List.mem_singleton] at ht
      rcases ht with ht | rfl
      · exact h2 t ht u hu
      · exact h3 u hu
    cases a with
    | nil =>
      cases b with
      | nil => rfl
      | cons y b =>
        have rb1 := (List.pairwise_cons.1 rb).1
        have py : ∀ t ∈ p, t.ID < y.ID := fun t ht => hp t ht y (.inr List.mem_cons_self)
        rw [dif, fld, stp_E (tb y List.mem_cons_self) py (by simp), if_pos rfl]
        have := ih (p ++ [y]) [] b (by simp at h ⊢; omega) ra (List.pairwise_cons.1 rb).2 ta (fun t ht => tb t (List.mem_cons_of_mem _ ht)) (snoc py (fun t ht u hu => hp t ht u (hu.imp id (List.mem_cons_of_mem _))) (fun u hu => by rcases hu with hu | hu; cases hu; exact rb1 u hu))
        simp only [List.append_assoc, List.singleton_append] at this
        exact this
    | cons x a =>
      have ra1 := (List.pairwise_cons.1 ra).1
      have px : ∀ t ∈ p, t.ID < x.ID := fun t ht => hp t ht x (.inl List.mem_cons_self)
      have ta' : ∀ t ∈ a, isTh t = true := fun t ht => ta t (List.mem_cons_of_mem _ ht)
      cases b with
      | nil =>
        rw [dif, fld, stp_L (ta x List.mem_cons_self) px ra1, if_pos rfl]
        exact ih p a [] (by simp at h ⊢; omega) (List.pairwise_cons.1 ra).2 rb ta' tb fun t ht u hu => hp t ht u (hu.imp (List.mem_cons_of_mem _) id)
      | cons y b =>
        have rb1 := (List.pairwise_cons.1 rb).1
        have py : ∀ t ∈ p, t.ID < y.ID := fun t ht => hp t ht y (.inr List.mem_cons_self)
        have tb' : ∀ t ∈ b, isTh t = true := fun t ht => tb t (List.mem_cons_of_mem _ ht)
        simp only [List.length_cons] at h
        rw [dif]
        by_cases c1 : y.ID < x.ID
        · have hxa : ∀ u ∈ x :: a, y.ID < u.ID := by
            intro u hu
            cases hu with
            | head => exact c1
            | tail _ hu => have := ra1 u hu; omega
          rw [if_pos c1, fld, stp_E (tb y List.mem_cons_self) py hxa, if_pos rfl]
          have := ih (p ++ [y]) (x :: a) b (by simp; omega) ra (List.pairwise_cons.1 rb).2 ta tb' (snoc py (fun t ht u hu => hp t ht u (hu.imp id (List.mem_cons_of_mem _))) (fun u hu => by rcases hu with hu | hu; exact hxa u hu; exact rb1 u hu))
          simp only [List.append_assoc, List.singleton_append] at this
          exact this
        · rw [if_neg c1]
          by_cases c2 : x.ID < y.ID
          · rw [if_pos c2, fld, stp_L (ta x List.mem_cons_self) px ra1, if_pos rfl]
            exact ih p a (y :: b) (by simp; omega) (List.pairwise_cons.1 ra).2 rb ta' tb fun t ht u hu => hp t ht u (hu.imp (List.mem_cons_of_mem _) id)
          · have he : x.ID = y.ID := by omega
            have go := ih (p ++ [y]) a b (by omega) (List.pairwise_cons.1 ra).2 (List.pairwise_cons.1 rb).2 ta' tb' (snoc py (fun t ht u hu => hp t ht u (hu.imp (List.mem_cons_of_mem _) (List.mem_cons_of_mem _))) (fun u hu => by rcases hu with hu | hu; exact he ▸ ra1 u hu; exact rb1 u hu))
            simp only [List.append_assoc, List.singleton_append] at go
            rw [if_neg c2]
            cases c3 : (mk x y != 0) with
            | true =>
              simp only [if_true]
              rw [fld, stp_U (tb y List.mem_cons_self) c3 he px ra1, if_pos rfl]
              exact go
            | false =>
              simp only [Bool.false_eq_true, if_false]
              obtain ⟨e1, e2⟩ := mk_no c3
              have : x = y := by cases x; cases y; simp only at he e1 e2; rw [he, e1, e2]
              rw [this]
              exact go
theorem dif_self : ∀ (k : Nat) (a : List Thing), dif k a a = []
  | 0, _ => rfl
  | k + 1, [] => rfl
  | k + 1, x :: a => by
    rw [dif, if_neg (by omega), if_neg (by omega)]
    have : (mk x x != 0) = false := by
      rw [mk, msk_zero]
      simp [cA, c0, c1, c2, c3, (Point.eqb_iff x.At x.At).2 rfl, (Field.eqb_iff x.F.a0 x.F.a0).2 rfl, (Field.eqb_iff x.F.a1 x.F.a1).2 rfl, (Field.eqb_iff x.F.a2 x.F.a2).2 rfl, (Field.eqb_iff x.F.a3 x.F.a3).2 rfl]
    rw [this]
    exact dif_self k a
theorem seen_ris {l : List Thing} (r : Rect) (h : Ris l) : Ris (seen l r) := List.Pairwise.filter _ h
theorem folds_l {n : Nat} (hn : 10000 ≤ n) (a b : List Thing) (r s : Rect) (ha : a.length ≤ 30) (hb : b.length ≤ 30) (Ra : Ris a) (Rb : Ris b) (Ta : ∀ t ∈ a, isTh t = true) (Tb : ∀ t ∈ b, isTh t = true) : ∀ (m i : Nat), i ≤ (dif 4000 (seen a r) (seen b s)).length → (dif 4000 (seen a r) (seen b s)).length - i < m →
    F9_l10 n a b r s (dif 4000 (seen a r) (seen b s)) m (i : Int) = some true := by
  have ra := seen_ris r Ra; have rb := seen_ris s Rb
  have ta : ∀ t ∈ seen a r, isTh t = true := fun t ht => Ta t (List.mem_filter.1 ht).1
  have tb : ∀ t ∈ seen b s, isTh t = true := fun t ht => Tb t (List.mem_filter.1 ht).1
  have h1 : (seen a r).length ≤ a.length := List.length_filter_le _ _
  have h2 : (seen b s).length ≤ b.length := List.length_filter_le _ _
  obtain ⟨g1, g2, g3, g4⟩ := dif_good 4000 (seen a r) (seen b s) ra rb ta tb
  have gf := fold_dif (seen a r) 4000 [] (seen a r) (seen b s) (by omega) ra rb ta tb (by simp)
  rw [List.nil_append, List.nil_append] at gf
  generalize hE : dif 4000 (seen a r) (seen b s) = es at *
  intro m
  induction m with
  | zero => intro i _ h; omega
  | succ m ih =>
    intro i hi hm
    unfold F9_l10
    by_cases h : i < es.length
    · rw [if_pos (lt_dec h), ixg es i h]
      simp only [Option.bind_some, ev_is, g1 es[i] (List.getElem_mem h), Bool.not_true, Bool.false_eq_true, if_false]
      cases i with
      | zero =>
        rw [if_neg (by decide), dsucc (by simp only [maxLen]; decide)]
        exact ih 1 (by omega) (by omega)
      | succ i =>
        rw [if_pos (by simp), pred_w' (by simp only [maxLen]; omega), ixg es i (by omega)]
        simp only [Option.bind_some]
        have := List.pairwise_iff_getElem.1 g3 i (i + 1) (by omega) h (by omega)
        rw [if_neg (by simp; omega), dsucc (by simp only [maxLen]; omega)]
        exact ih (i + 1 + 1) (by omega) (by omega)
    · rw [if_neg (by rw [ge_dec h]; decide), seen_eq r (by omega) (by omega), Option.bind_some, fold_eq es (by omega) (by omega) hn ra, gf]
      simp only [Option.bind_some, if_true]
      rw [seen_eq s (by omega) (by omega), Option.bind_some, sameAll (by omega) (by omega), of_eq r r (by omega) (by omega) hn, dif_self]
      rfl
theorem diffFolds_pure (a0 a1 : List Thing) (a2 a3 : Rect) (h0 : (∀ x ∈ a0, Thing.wf x) ∧ a0.length ≤ maxLen) (h1 : (∀ x ∈ a1, Thing.wf x) ∧ a1.length ≤ maxLen) (_ : Rect.wf a2) (_ : Rect.wf a3) : ∃ n, F9 n a0 a1 a2 a3 = some true := by
  refine ⟨a0.length + a1.length + 10000, ?_⟩
  have hn : 10000 ≤ a0.length + a1.length + 10000 := by omega
  obtain ⟨b0, f0, g0⟩ := fewsU (n := a0.length + a1.length + 10000) h0.2 (by omega)
  obtain ⟨b1, f1, g1⟩ := fewsU (n := a0.length + a1.length + 10000) h1.2 (by omega)
  obtain ⟨b2, f2, g2⟩ := rising_eq (n := a0.length + a1.length + 10000) h0.2 (by omega)
  obtain ⟨b3, f3, g3⟩ := rising_eq (n := a0.length + a1.length + 10000) h1.2 (by omega)
  generalize a0.length + a1.length + 10000 = n at *
  unfold F9
  simp only [Option.bind_some, Bool.not_true, Bool.false_eq_true, if_false, f0, f1, f2, f3]
  cases b0 with
  | false => rfl
  | true =>
    cases b1 with
    | false => rfl
    | true =>
      cases b2 with
      | false => rfl
      | true =>
        cases b3 with
        | false => rfl
        | true =>
          have l0 := g0 rfl; have l1 := g1 rfl
          obtain ⟨Ta, Ra⟩ := g2.1 rfl
          obtain ⟨Tb, Rb⟩ := g3.1 rfl
          rw [of_eq a2 a3 (by omega) (by omega) hn]
          simp only [Option.bind_some, Bool.not_true, Bool.false_eq_true, if_false]
          have ra := seen_ris a2 Ra; have rb := seen_ris a3 Rb
          have ta : ∀ t ∈ seen a0 a2, isTh t = true := fun t ht => Ta t (List.mem_filter.1 ht).1
          have tb : ∀ t ∈ seen a1 a3, isTh t = true := fun t ht => Tb t (List.mem_filter.1 ht).1
          obtain ⟨_, _, _, g4⟩ := dif_good 4000 (seen a0 a2) (seen a1 a3) ra rb ta tb
          exact folds_l hn a0 a1 a2 a3 l0 l1 Ra Rb Ta Tb (n + 8) 0 (by omega) (by omega)

end Go.Proofs.Ytobeamaaifgllaa
