/- No condition. -/
import Derived.Test.YthdabpmcojmhhaaRxZ
import Derived.Shelf.Strings.Builder1
import Derived.Lib.AppendStr
set_option linter.unusedVariables false
namespace Go.Rx
open Go Go.RowKit Go.Shelf Go.Proofs
structure Rowed (w w' : World) (v v' : Value) (n : Nat) : Prop where
 is : (v' = .slice none 0 0 ∧ v = .slice none 0 0 ∧ n = 0) ∨ ∃ g cap, v' = .slice (some ⟨g, 0, none⟩) n cap ∧ (v.ownBlock = some g ∨ (w.heap.size ≤ g ∧ g < w'.heap.size))
structure BldAt (T e : TypeId) (b : Nat) (p v : Value) (bs : List Value) (w : World) : Prop where
 blk : w.heap[b]? = some (.cells #[p, v] T (0, 0))
 ptr : p = .pointer none ∨ p = .pointer (some ⟨b, 0, none⟩)
 own : w.ownsRow 0 e 1 v bs.length bs
 ne : v.ownBlock ≠ some b
theorem heap_lt {w : World} {b : Nat} {o : Obj} (h : w.heap[b]? = some o) : b < w.heap.size := by
 rcases Nat.lt_or_ge b w.heap.size with h' | h'
 ·exact h'
 ·simp [Array.getElem?_eq_none h'] at h
variable {P : Program} {ρ : Ren}
theorem Wst.freeze (w : World) (g n : Nat) : Wst (fun k => k = g) w (w.freeze ⟨g, 0, none⟩ n) := by
 unfold World.freeze
 by_cases hn : n = 0
 ·simp only [hn, if_true]
  exact Wst.refl _ _
 ·simp only [hn, if_false]
  exact ⟨rfl, rfl, rfl, by simp, fun k _ hk => by simp [Array.getElem?_modify, Ne.symm hk]⟩
end Go.Rx
