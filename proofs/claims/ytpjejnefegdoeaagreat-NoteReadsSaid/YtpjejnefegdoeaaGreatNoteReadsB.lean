/- No condition. -/
import Derived.Test.YtpjejnefegdoeaaGreatNoteReadsBb
import Derived.Test.YtpjejnefegdoeaaGreatNoteReadsSl
import Derived.Test.YtpjejnefegdoeaaGreatRxBd
namespace Go.Proofs.YtpjejnefegdoeaaGreat
open Go Go.Rx Go.Proofs
set_option maxRecDepth 100000
def B : Oracle := (orC Bb bldL)
theorem B_meets : Meets Tryz.prog B := (Meets.or Bb_meets bldL_meets)
theorem B_of1 {f : Nat} {args : List PV} {os : List Ob} {r : PV × List Ob} (h : Bb f args os = some r) : B f args os = some r := by
 simp only [B, orC, h]
end Go.Proofs.YtpjejnefegdoeaaGreat
