/- No condition. -/
import Derived.Test.YtpjejnefegdoeaaNoteBackBb
import Derived.Test.YtpjejnefegdoeaaNoteBackSl
import Derived.Test.YtpjejnefegdoeaaRxBd
namespace Go.Proofs.Ytpjejnefegdoeaa
open Go Go.Rx Go.Proofs
set_option maxRecDepth 100000
def B : Oracle := (orC Bb bldL)
theorem B_meets : Meets Try.prog B := (Meets.or Bb_meets bldL_meets)
theorem B_of1 {f : Nat} {args : List PV} {os : List Ob} {r : PV × List Ob} (h : Bb f args os = some r) : B f args os = some r := by
 simp only [B, orC, h]
end Go.Proofs.Ytpjejnefegdoeaa
