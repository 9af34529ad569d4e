/- No condition. -/
import Derived.Test.YthdabpmcojmhhaaRxZ
set_option linter.unusedVariables false
namespace Go.Rx
open Go Go.RowKit
section
variable {K V : Type} [DecidableEq K]
def mapOf (ck : K → List Lf) (c : Cod V) (l : List (K × List V)) : List (PV × PV) := l.map fun p => (.agg (ck p.1), .one (vw c p.2))
structure KeyOK (P : Program) (mt : TypeId) (ck : K → List Lf) (kv : K → Value) where
 kt : TypeId
 e : TypeId
 key : mkeyOf P mt = some (kt, e)
 val : ∀ a, (PV.agg (ck a)).toVal = some (kv a)
 chk : ∀ b a, prun P (Instr.checkKey b 10000 kt (kv a)) = some ()
 eq : ∀ a b, prun P (Op.equal kt (kv a) (kv b)) = some (decide (a = b))
 same : ∀ a, Instr.sameBits 10000 (kv a) (kv a) = true
 zero : prun P (zeroValue e) = some (.slice none 0 0)
variable {P : Program} {C : Oracle} {c : Cod V} {L : List (Nat × PV)} {M : List (Nat × Option Ob)} {d : Option Nat} {mt : TypeId} {ck : K → List Lf} {kv : K → Value}
end
end Go.Rx
