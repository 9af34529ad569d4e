/- No condition. -/
import Derived.Test.YthdabpmcojmhhaaRxU
import Derived.Laws.Strings
namespace Go.Rx
open Go Go.RowKit
section
variable {P : Program} {C : zaf} {L : List (Nat × PV)} {M : List (Nat × Option Ob)} {d : Option Nat}
variable {α : Type} {Q : α → PEx → St → Prop}
end
end Go.Rx
