/- No condition. -/
import Derived.Test.YthdabpmcojmhhaaRxQ
import Derived.Deep.Slices
import Derived.OpenShut
import Derived.Lib.SmallJoins
namespace Go.Rx
open Go Go.RowKit Go.ChangeShapes Go.WideShapes
section
variable {H : Type} {enc : TypeId × Value → H} {P : Program} {W : World} {α : Type} {c : Cod α} {vals : α → List Value} {wf : α → Prop}
end
end Go.Rx
