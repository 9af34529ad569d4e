/- No condition. -/
import Derived.Test.YtobeamaaifgllaaRxV
set_option linter.unusedVariables false
namespace Go.Rx
open Go Go.RowKit Go.ChangeShapes Go.WideShapes
def RelL (W : World) (cs : List Value) (ls : List Lf) : Prop := cs.length = ls.length ∧ ∀ j, j < ls.length → LRi (fun b => b < W.heap.size) W (ls.getD j default) (cs.getD j undef)
theorem RelL.nil {W : World} : RelL W [] [] := ⟨rfl, fun j hj => by simp at hj⟩
theorem RelL.cons {W : World} {c : Value} {l : Lf} {cs : List Value} {ls : List Lf} (h : LRi (fun b => b < W.heap.size) W l c) (hs : RelL W cs ls) : RelL W (c :: cs) (l :: ls) := by
 refine ⟨by simp [hs.1], fun j hj => ?_⟩
 cases j with
 | zero => exact h
 | succ j => have := hs.2 j (by simpa using hj); simpa using this
theorem RelL.vals {W : World} : ∀ (vs : List Value) {cs : List Value} {ls : List Lf}, (∀ v ∈ vs, v.oneCell' = true) → RelL W cs ls → RelL W (vs ++ cs) (vs.map Lf.val ++ ls)
 | [], _, _, _, hs => hs
 | v :: vs, _, _, h, hs => .cons (.val v (h v List.mem_cons_self)) (RelL.vals vs (fun u hu => h u (List.mem_cons_of_mem _ hu)) hs)
section
variable {H : Type} {enc : TypeId × Value → H} {P : Program} {W : World} {α : Type} {c : Cod α} {vals : α → List Value} {wf : α → Prop}
end
end Go.Rx
