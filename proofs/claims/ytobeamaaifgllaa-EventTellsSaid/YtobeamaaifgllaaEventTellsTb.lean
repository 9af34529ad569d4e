/-
  Deltas: which are any. No condition.
-/
import Derived.Test.YtobeamaaifgllaaEventTellsTa0
import Derived.Test.YtobeamaaifgllaaEventTellsP1
namespace Go.Proofs.Ytobeamaaifgllaa
open Go Go.Rx
set_option maxRecDepth 100000
set_option linter.unusedSimpArgs false
set_option linter.unnecessarySimpa false
set_option linter.unusedVariables false

def hs (m i : Int) : Bool := bitsI .and .u8 (shrI .u8 m i) 1 == 1
theorem has0 (n : Nat) (m : Int) : F99 n m 0 = some (hs m 1) := rfl
theorem has1 (n : Nat) (m : Int) : F99 n m 1 = some (hs m 2) := rfl
theorem has2 (n : Nat) (m : Int) : F99 n m 2 = some (hs m 3) := rfl
theorem has3 (n : Nat) (m : Int) : F99 n m 3 = some (hs m 4) := rfl
theorem hs_not : ∀ k : Fin 256, (bitsI .and .u8 (shrI .u8 k.val 1) 1 == 0) = !(hs k.val 1) ∧ (bitsI .and .u8 (shrI .u8 k.val 2) 1 == 0) = !(hs k.val 2) ∧ (bitsI .and .u8 (shrI .u8 k.val 3) 1 == 0) = !(hs k.val 3) ∧ (bitsI .and .u8 (shrI .u8 k.val 4) 1 == 0) = !(hs k.val 4) := by decide +kernel
theorem fin_u8 {m : Int} (h : (Lit.int .u8 m).wf = true) : ∃ k : Fin 256, m = (k.val : Int) := by
  have := bounds_u8 h
  exact ⟨⟨m.toNat, by omega⟩, by simp; omega⟩
theorem hs_no {m : Int} (h : (Lit.int .u8 m).wf = true) : (bitsI .and .u8 (shrI .u8 m 1) 1 == 0) = !(hs m 1) ∧ (bitsI .and .u8 (shrI .u8 m 2) 1 == 0) = !(hs m 2) ∧ (bitsI .and .u8 (shrI .u8 m 3) 1 == 0) = !(hs m 3) ∧ (bitsI .and .u8 (shrI .u8 m 4) 1 == 0) = !(hs m 4) := by
  obtain ⟨k, rfl⟩ := fin_u8 h
  exact hs_not k

def isF (f : Field) : Bool := if f.N == 0 then decide ((f.Text.size : Int) ≤ 12) else if f.Text.toList == ByteArray.empty.toList then decide ((f.Text.size : Int) ≤ 12) else false
theorem isF_eq (n : Nat) (f : Field) : F70 n f = some (isF f) := by
  unfold F70 isF
  split
  · rfl
  · split <;> rfl
theorem risF_eq (n : Nat) (f : Field) : F59 n f = some (isF f) := by
  rw [← isF_eq n f]; rfl
def okF (f : Field) (e : Bool) : Bool := isF f && (e || Field.eqb f noF)
def on (p : Point) : Bool := if decide ((0 : Int) ≤ p.X) then if decide (p.X < 64) then if decide ((0 : Int) ≤ p.Y) then decide (p.Y < 64) else false else false else false
theorem on_eq (n : Nat) (p : Point) : F67 n p = some (on p) := by
  unfold F67 on
  split
  · split
    · split <;> rfl
    · rfl
  · rfl
theorem ron_eq (n : Nat) (p : Point) : F58 n p = some (on p) := by
  rw [← on_eq n p]; rfl
def a1 (d : Delta) : Bool := (bitsI .and .u8 d.Mask 1) != 0
def fl4 (d : Delta) : Bool := okF d.F.a0 (hs d.Mask 1) && (okF d.F.a1 (hs d.Mask 2) && (okF d.F.a2 (hs d.Mask 3) && okF d.F.a3 (hs d.Mask 4)))
def isD (d : Delta) : Bool := !(decide (d.ID < 0)) && (!(decide ((1000000 : Int) < d.ID)) && (!(d.Mask == 0) && (!(decide ((31 : Int) < d.Mask)) && ((a1 d || Point.eqb d.At noP) && (on d.At && fl4 d)))))

theorem isd_fin (f : Field) (e : Bool) (o : Option Bool) (b : Bool) (ho : o = some b) : (if (!(isF f)) = true then some false else if (!e) = true then if (!(Field.eqb f ⟨0, ByteArray.empty⟩)) = true then some false else o else o) = some (okF f e && b) := by
  subst ho
  have : Field.eqb f ⟨0, ByteArray.empty⟩ = Field.eqb f noF := rfl
  rw [this]
  unfold okF
  cases isF f <;> cases e <;> cases Field.eqb f noF <;> simp
theorem isd_l (n : Nat) (d : Delta) : F77_j3 n d = some (fl4 d) := by
  have s3 : F77_u12 n d = some (okF d.F.a3 (hs d.Mask 4) && true) := by
    unfold F77_u12
    simp only [isF_eq, has3, Option.bind_some]
    exact isd_fin _ _ _ _ rfl
  have s2 : F77_u9 n d = some (okF d.F.a2 (hs d.Mask 3) && (okF d.F.a3 (hs d.Mask 4) && true)) := by
    unfold F77_u9
    simp only [isF_eq, has2, Option.bind_some]
    exact isd_fin _ _ _ _ s3
  have s1 : F77_u6 n d = some (okF d.F.a1 (hs d.Mask 2) && (okF d.F.a2 (hs d.Mask 3) && (okF d.F.a3 (hs d.Mask 4) && true))) := by
    unfold F77_u6
    simp only [isF_eq, has1, Option.bind_some]
    exact isd_fin _ _ _ _ s2
  have s0 : F77_j3 n d = some (okF d.F.a0 (hs d.Mask 1) && (okF d.F.a1 (hs d.Mask 2) && (okF d.F.a2 (hs d.Mask 3) && (okF d.F.a3 (hs d.Mask 4) && true)))) := by
    unfold F77_j3
    simp only [isF_eq, has0, Option.bind_some]
    exact isd_fin _ _ _ _ s1
  rw [s0]
  simp [fl4]
theorem isD_eq (n : Nat) (d : Delta) : F77 n d = some (isD d) := by
  unfold F77
  have hl := isd_l n d
  have ep : Point.eqb d.At (Point.mk 0 0) = Point.eqb d.At noP := rfl
  simp only [on_eq, Option.bind_some, hl, isD, a1, ep, bne]
  by_cases h1 : d.ID < 0
  · simp [h1]
  · by_cases h2 : 1000000 < d.ID
    · simp [h1, h2]
    · by_cases h3 : d.Mask = 0
      · simp [h1, h2, h3]
      · by_cases h4 : 31 < d.Mask
        · simp [h1, h2, h3, h4]
        · cases h5 : (bitsI .and .u8 d.Mask 1 == 0) <;> cases h6 : Point.eqb d.At noP <;> cases h7 : on d.At <;> simp [h1, h2, h3, h4, h5, h6, h7]

theorem risd_s (n : Nat) (d : Delta) (hw : (Lit.int .u8 d.Mask).wf = true) : F94_j2 n d = some (fl4 d) := by
  obtain ⟨k1, k2, k3, k4⟩ := hs_no hw
  have s3 : F94_u8 n d = some (okF d.F.a3 (hs d.Mask 4) && true) := by
    unfold F94_u8
    simp only [risF_eq, k4, Option.bind_some]
    exact isd_fin _ _ _ _ rfl
  have s2 : F94_u6 n d = some (okF d.F.a2 (hs d.Mask 3) && (okF d.F.a3 (hs d.Mask 4) && true)) := by
    unfold F94_u6
    simp only [risF_eq, k3, Option.bind_some]
    exact isd_fin _ _ _ _ s3
  have s1 : F94_u4 n d = some (okF d.F.a1 (hs d.Mask 2) && (okF d.F.a2 (hs d.Mask 3) && (okF d.F.a3 (hs d.Mask 4) && true))) := by
    unfold F94_u4
    simp only [risF_eq, k2, Option.bind_some]
    exact isd_fin _ _ _ _ s2
  have s0 : F94_j2 n d = some (okF d.F.a0 (hs d.Mask 1) && (okF d.F.a1 (hs d.Mask 2) && (okF d.F.a2 (hs d.Mask 3) && (okF d.F.a3 (hs d.Mask 4) && true)))) := by
    unfold F94_j2
    simp only [risF_eq, k1, Option.bind_some]
    exact isd_fin _ _ _ _ s1
  rw [s0]
  simp [fl4]
theorem risD_eq (n : Nat) (d : Delta) (hw : (Lit.int .u8 d.Mask).wf = true) : F94 n d = some (isD d) := by
  have hb := bounds_u8 hw
  unfold F94
  have hl := risd_s n d hw
  have ep : Point.eqb d.At (Point.mk 0 0) = Point.eqb d.At noP := rfl
  simp only [ron_eq, Option.bind_some, hl, isD, a1, ep, bne]
  by_cases h1 : d.ID < 0
  · simp [h1]
  · by_cases h2 : 1000000 < d.ID
    · simp [h1, h2]
    · by_cases h3 : d.Mask = 0
      · simp [h1, h2, h3]
      · have h3' : ¬ d.Mask < 1 := by omega
        by_cases h4 : 31 < d.Mask
        · simp [h1, h2, h3, h3', h4]
        · cases h5 : (bitsI .and .u8 d.Mask 1 == 0) with
          | true => cases h6 : Point.eqb d.At noP with
            | false => simp [h1, h2, h3, h3', h4, h5, h6]
            | true =>
              have hat : on d.At = true := by rw [(Point.eqb_iff _ _).1 h6]; rfl
              simp [h1, h2, h3, h3', h4, h5, h6, hat]
          | false => cases h7 : on d.At <;> simp [h1, h2, h3, h3', h4, h5, h7]

end Go.Proofs.Ytobeamaaifgllaa
