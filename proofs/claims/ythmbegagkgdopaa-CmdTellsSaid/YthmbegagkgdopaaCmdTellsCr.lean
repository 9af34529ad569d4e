/-
  Commands: the reference's functions are the program's. No condition.
-/
import Derived.Test.YthmbegagkgdopaaCmdTellsCa
import Derived.Test.YthmbegagkgdopaaCmdTellsP2
namespace Go.Proofs.Ythmbegagkgdopaa
open Go Go.Rx
set_option maxRecDepth 100000
set_option linter.unusedSimpArgs false
set_option linter.unnecessarySimpa false
set_option linter.unusedVariables false

theorem shape_eq (n : Nat) (c : Command) : F61 n c = some (coreC c) :=
  (show F61 n c = F58 n c from rfl).trans (core_eq n c)
theorem within_eq (n : Nat) (x a b : Int) : F60 n x a b = some (decide (a ≤ x) && decide (x ≤ b)) := by
  unfold F60
  by_cases h : a ≤ x <;> simp [h]
theorem risF_eq (n : Nat) (f : Field) : F27 n f = some (isF f) := by
  unfold F27 isF
  generalize (f.N == 0) = p
  generalize (f.Text.toList == ByteArray.empty.toList) = q
  cases p <;> cases q <;> simp
theorem ifand (p x y : Bool) : (if p = true then some x else some (false && y)) = some (p && x) := by cases p <;> rfl
theorem ifand' (p x : Bool) : (if p = true then some x else some false) = some (p && x) := by cases p <;> rfl
theorem rpoint_eq (n : Nat) (p : Point) : F62 n p = some (near p.X && near p.Y) := by
  unfold F62 near
  simp only [within_eq, Option.bind_some, ifand']
theorem rrect_eq (n : Nat) (r : Rect) : F63 n r = some ((near r.X0 && near r.Y0) && (near r.X1 && near r.Y1)) := by
  unfold F63
  simp only [rpoint_eq, Option.bind_some, ifand']
theorem rj12_eq (n : Nat) (c : Command) (b : Bool) : F36_j12 n c b = some (b && (isF c.F.a0 && (isF c.F.a1 && (isF c.F.a2 && isF c.F.a3)))) := by
  unfold F36_j12 F36_u15 F36_u18 F36_u21 F36_u24
  simp only [risF_eq, Option.bind_some]
  cases b <;> cases isF c.F.a0 <;> cases isF c.F.a1 <;> cases isF c.F.a2 <;> simp
theorem ris_eq (n : Nat) (c : Command) : F36 n c = some (isC c) := by
  unfold F36
  simp only [rj12_eq, within_eq, shape_eq, rpoint_eq, rrect_eq, risF_eq, Option.bind_some, ifand]
  have e3 : decide (c.Client ≤ 3) = decide (c.Client < 4) := by
    rw [decide_eq_decide]; omega
  unfold isC boundsC
  simp only [List.all_cons, List.all_nil, Bool.and_true, e3]
  congr 1
  ac_rfl
theorem rwatches_eq (n : Nat) (c : Command) : F38 n c = some (watchesC c) := by
  unfold F38 watchesC
  simp only [within_eq, Option.bind_some]
end Go.Proofs.Ythmbegagkgdopaa
