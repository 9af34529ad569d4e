/- No condition. -/
import Derived.Test.YtpjejnefegdoeaaGreatRxBc
set_option linter.unusedVariables false
namespace Go.Rx
open Go Go.RowKit
section
variable {α : Type}
variable {c : Cod α} {T f : Nat}
end
theorem orC_skip {A B : Oracle} {f : Nat} {args : List PV} {os : List Ob} {r : PV × List Ob} (h0 : A f args os = none) (h : B f args os = some r) : orC A B f args os = some r := by simp only [orC, h0, h]
end Go.Rx
