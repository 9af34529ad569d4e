/-
  What the laws of events let in. No condition.
-/
import Derived.Test.YtobeamaaifgllaaEventTellsTj0
import Derived.Test.YtobeamaaifgllaaEventTellsP1
namespace Go.Proofs.Ytobeamaaifgllaa
open Go Go.Rx
set_option maxRecDepth 100000
set_option linter.unusedSimpArgs false
set_option linter.unnecessarySimpa false
set_option linter.unusedVariables false
def fewG (f : Field) : Bool := decide ((f.Text.size : Int) ≤ 40)
def fewU (t : Thing) : Bool := fewG t.F.a0 && (fewG t.F.a1 && (fewG t.F.a2 && fewG t.F.a3))
theorem fewU_eq (n : Nat) (t : Thing) : F56 n t = some (fewU t) := by
  unfold F56 F97 fewU
  simp only [Option.bind_some]
  change (if (!(fewG t.F.a0)) = true then some false else if (!(fewG t.F.a1)) = true then some false else if (!(fewG t.F.a2)) = true then some false else if (!(fewG t.F.a3)) = true then some false else some true) = _
  cases fewG t.F.a0 <;> cases fewG t.F.a1 <;> cases fewG t.F.a2 <;> cases fewG t.F.a3 <;> rfl
end Go.Proofs.Ytobeamaaifgllaa
