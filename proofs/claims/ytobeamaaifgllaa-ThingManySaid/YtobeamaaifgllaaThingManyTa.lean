/-
  Records, and what changed of them: what the functions compute, in plain Lean. No condition.
-/
import Derived.Test.YtobeamaaifgllaaThingManyV
import Derived.Test.YtobeamaaifgllaaThingManyP1
namespace Go.Proofs.Ytobeamaaifgllaa
open Go Go.Rx
set_option maxRecDepth 100000
set_option linter.unusedSimpArgs false
set_option linter.unnecessarySimpa false
set_option linter.unusedVariables false

theorem ba_refl (a : ByteArray) : (a == a) = true := (ba_beq a a).2 rfl
theorem Point.eqb_iff (x y : Point) : Point.eqb x y = true ↔ x = y := by
  cases x; cases y; simp [Point.eqb]
theorem Field.eqb_iff (x y : Field) : Field.eqb x y = true ↔ x = y := by
  cases x; cases y; simp [Field.eqb, ba_beq]
theorem A4_Field.eqb_iff (x y : A4 Field) : A4_Field.eqb x y = true ↔ x = y := by
  cases x; cases y; simp [A4_Field.eqb, Field.eqb_iff]
theorem Thing.eqb_iff (x y : Thing) : Thing.eqb x y = true ↔ x = y := by
  cases x; cases y; simp [Thing.eqb, Point.eqb_iff, A4_Field.eqb_iff]
theorem Delta.eqb_iff (x y : Delta) : Delta.eqb x y = true ↔ x = y := by
  cases x; cases y; simp [Delta.eqb, Point.eqb_iff, A4_Field.eqb_iff]
theorem Thing.eqb_refl (x : Thing) : Thing.eqb x x = true := (Thing.eqb_iff x x).2 rfl

theorem few1 (n : Nat) (t : Thing) : ∃ b, F16 n t = some b := by
  unfold F16 F57
  simp only [Option.bind_some]
  split
  · exact ⟨_, rfl⟩
  · split
    · exact ⟨_, rfl⟩
    · split
      · exact ⟨_, rfl⟩
      · split <;> exact ⟨_, rfl⟩

/-! ### the mask -/

def bit (e : Bool) (k : Int) : Int := if e then k else 0
def msk (eA e0 e1 e2 e3 : Bool) : Int := bit eA 1 + bit e0 2 + bit e1 4 + bit e2 8 + bit e3 16
theorem msk_or : ∀ a0 a1 a2 a3 a4 b0 b1 b2 b3 b4 : Bool, bitsI .or .u8 (msk a0 a1 a2 a3 a4) (msk b0 b1 b2 b3 b4) = msk (a0 || b0) (a1 || b1) (a2 || b2) (a3 || b3) (a4 || b4) := by decide +kernel
theorem msk_at : ∀ a0 a1 a2 a3 a4 : Bool, ((bitsI .and .u8 (msk a0 a1 a2 a3 a4) 1) != 0) = a0 := by decide +kernel
theorem msk_has : ∀ a0 a1 a2 a3 a4 : Bool, F99 0 (msk a0 a1 a2 a3 a4) 0 = some a1 ∧ F99 0 (msk a0 a1 a2 a3 a4) 1 = some a2 ∧ F99 0 (msk a0 a1 a2 a3 a4) 2 = some a3 ∧ F99 0 (msk a0 a1 a2 a3 a4) 3 = some a4 := by decide +kernel
theorem has_n (n : Nat) (m i : Int) : F99 n m i = F99 0 m i := rfl
theorem msk_zero : ∀ a0 a1 a2 a3 a4 : Bool, (msk a0 a1 a2 a3 a4 != 0) = (a0 || (a1 || (a2 || (a3 || a4)))) := by decide +kernel

def noP : Point := ⟨0, 0⟩
def noF : Field := ⟨0, ByteArray.empty⟩
def cA (a b : Thing) : Bool := !(Point.eqb a.At b.At)
def c0 (a b : Thing) : Bool := !(Field.eqb a.F.a0 b.F.a0)
def c1 (a b : Thing) : Bool := !(Field.eqb a.F.a1 b.F.a1)
def c2 (a b : Thing) : Bool := !(Field.eqb a.F.a2 b.F.a2)
def c3 (a b : Thing) : Bool := !(Field.eqb a.F.a3 b.F.a3)
def mk (a b : Thing) : Int := msk (cA a b) (c0 a b) (c1 a b) (c2 a b) (c3 a b)
def pick {α : Type} (e : Bool) (x y : α) : α := if e then x else y
def dl (a b : Thing) : Delta := ⟨b.ID, mk a b, pick (cA a b) b.At noP, ⟨pick (c0 a b) b.F.a0 noF, pick (c1 a b) b.F.a1 noF, pick (c2 a b) b.F.a2 noF, pick (c3 a b) b.F.a3 noF⟩⟩
theorem diff_eq (n : Nat) (a b : Thing) : F76 n a b = some (dl a b, mk a b != 0) := by
  unfold F76 F76_j4 F76_u8 F76_u12 F76_u16 F76_u20 dl mk cA c0 c1 c2 c3
  cases Point.eqb a.At b.At <;> cases Field.eqb a.F.a0 b.F.a0 <;> cases Field.eqb a.F.a1 b.F.a1 <;> cases Field.eqb a.F.a2 b.F.a2 <;> cases Field.eqb a.F.a3 b.F.a3 <;> rfl
theorem cA_no {a b : Thing} (h : cA a b = false) : a.At = b.At := (Point.eqb_iff _ _).1 (by simpa [cA] using h)
theorem c0_no {a b : Thing} (h : c0 a b = false) : a.F.a0 = b.F.a0 := (Field.eqb_iff _ _).1 (by simpa [c0] using h)
theorem c1_no {a b : Thing} (h : c1 a b = false) : a.F.a1 = b.F.a1 := (Field.eqb_iff _ _).1 (by simpa [c1] using h)
theorem c2_no {a b : Thing} (h : c2 a b = false) : a.F.a2 = b.F.a2 := (Field.eqb_iff _ _).1 (by simpa [c2] using h)
theorem c3_no {a b : Thing} (h : c3 a b = false) : a.F.a3 = b.F.a3 := (Field.eqb_iff _ _).1 (by simpa [c3] using h)

/-- What a delta makes of a thing. -/
def app5 (a : Thing) (d : Delta) (eA e0 e1 e2 e3 : Bool) : Thing := ⟨a.ID, pick eA d.At a.At, ⟨pick e0 d.F.a0 a.F.a0, pick e1 d.F.a1 a.F.a1, pick e2 d.F.a2 a.F.a2, pick e3 d.F.a3 a.F.a3⟩⟩
theorem apply5 (n : Nat) (a : Thing) (d : Delta) (eA e0 e1 e2 e3 : Bool) (hA : ((bitsI .and .u8 d.Mask 1) != 0) = eA) (h0 : F99 n d.Mask 0 = some e0) (h1 : F99 n d.Mask 1 = some e1) (h2 : F99 n d.Mask 2 = some e2) (h3 : F99 n d.Mask 3 = some e3) : F88 n a d = some (app5 a d eA e0 e1 e2 e3) := by
  unfold F88 F88_j2 F88_u5 F88_u8 F88_u11 F88_u14
  simp only [hA, h0, h1, h2, h3, Option.bind_some]
  cases eA <;> cases e0 <;> cases e1 <;> cases e2 <;> cases e3 <;> rfl
theorem apply_eq (n : Nat) (a b : Thing) : F88 n a (dl a b) = some ⟨a.ID, b.At, b.F⟩ := by
  obtain ⟨h0, h1, h2, h3⟩ := msk_has (cA a b) (c0 a b) (c1 a b) (c2 a b) (c3 a b)
  rw [apply5 n a (dl a b) _ _ _ _ _ (msk_at (cA a b) (c0 a b) (c1 a b) (c2 a b) (c3 a b)) h0 h1 h2 h3]
  have pA : pick (cA a b) (pick (cA a b) b.At noP) a.At = b.At := by
    cases h : cA a b with
    | true => rfl
    | false => exact cA_no h
  have p0 : pick (c0 a b) (pick (c0 a b) b.F.a0 noF) a.F.a0 = b.F.a0 := by
    cases h : c0 a b with
    | true => rfl
    | false => exact c0_no h
  have p1 : pick (c1 a b) (pick (c1 a b) b.F.a1 noF) a.F.a1 = b.F.a1 := by
    cases h : c1 a b with
    | true => rfl
    | false => exact c1_no h
  have p2 : pick (c2 a b) (pick (c2 a b) b.F.a2 noF) a.F.a2 = b.F.a2 := by
    cases h : c2 a b with
    | true => rfl
    | false => exact c2_no h
  have p3 : pick (c3 a b) (pick (c3 a b) b.F.a3 noF) a.F.a3 = b.F.a3 := by
    cases h : c3 a b with
    | true => rfl
    | false => exact c3_no h
  simp only [app5, dl, pA, p0, p1, p2, p3]
theorem mk_no {a b : Thing} (h : (mk a b != 0) = false) : a.At = b.At ∧ a.F = b.F := by
  rw [mk, msk_zero] at h
  simp only [Bool.or_eq_false_iff] at h
  obtain ⟨hA, h0, h1, h2, h3⟩ := h
  refine ⟨cA_no hA, ?_⟩
  cases ea : a.F with
  | mk x0 x1 x2 x3 =>
    cases eb : b.F with
    | mk y0 y1 y2 y3 =>
      have k0 := c0_no h0; have k1 := c1_no h1; have k2 := c2_no h2; have k3 := c3_no h3
      rw [ea, eb] at k0 k1 k2 k3
      simp only at k0 k1 k2 k3
      rw [k0, k1, k2, k3]

end Go.Proofs.Ytobeamaaifgllaa
