/- No condition. -/
import Derived.Test.YthdabpmcojmhhaaRxBa
namespace Go.Rx
open Go Go.RowKit Go.Shelf Go.Proofs
section
variable {T e fW fS f : Nat} {args : List PV} {os : List Ob} {r : PV × List Ob}
end
section
variable {E : Env} {I : Nat → Prop} {w : World} {T e n : Nat} {a : Lf} {get : Nat → List Lf}
structure Bld (T e : Nat) (a : Lf) (n : Nat) (get : Nat → List Lf) (E : Env) (I : Nat → Prop) (w : World) (p : Value) (xs : List Value) : Prop where
 at_ : BldAt T e (E.bl zac) p (E.hv (zac + 1)) xs w
 la : LR (zag [.tcells T [a, .osl (zac + 1) 0 0 n], .arr e 1 0 n get]) E I w a p
 len : xs.length = n
 blk : ∀ g, (E.hv (zac + 1)).ownBlock = some g → Blk (zag [.tcells T [a, .osl (zac + 1) 0 0 n], .arr e 1 0 n get]) E (zac + 1) ∧ E.bl (zac + 1) = g
 hv : E.hv (zac + 1) = .slice none 0 0 ∧ n = 0 ∨ ∃ cap, E.hv (zac + 1) = .slice (some ⟨E.bl (zac + 1), 0, none⟩) n cap
 get : ∀ i, i < n → (get i).length = 1 ∧ LRi I w ((get i).getD 0 default) (xs.getD i undef)
theorem two1 {o1 o2 : Ob} : zag [o1, o2] (zac + 1) = some o2 := by simp [zag, zac]
end
section
variable {P : Program} {ρ : Ren}
end
section
variable {P : Program} {ρ : Ren}
end
section
variable {T e fW fS : Nat}
end
end Go.Rx
