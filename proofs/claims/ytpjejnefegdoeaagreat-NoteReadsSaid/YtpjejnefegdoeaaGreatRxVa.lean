/- No condition. -/
import Derived.Test.YtpjejnefegdoeaaGreatRxV
set_option linter.unusedVariables false
namespace Go.Rx
open Go Go.RowKit Go.ChangeShapes Go.WideShapes
def RelL (W : World) (cs : List Value) (ls : List Lf) : Prop := cs.length = ls.length ∧ ∀ j, j < ls.length → LRi (fun b => b < W.heap.size) W (ls.getD j default) (cs.getD j undef)
theorem RelL.nil {W : World} : RelL W [] [] := ⟨rfl, fun j hj => by simp at hj⟩
theorem RelL.cons {W : World} {c : Value} {l : Lf} {cs : List Value} {ls : List Lf} (h : LRi (fun b => b < W.heap.size) W l c) (hs : RelL W cs ls) : RelL W (c :: cs) (l :: ls) := by
 refine ⟨by simp [hs.1], fun j hj => ?_⟩
 cases j with
 | zero => exact h
 | succ j => have := hs.2 j (by simpa using hj); simpa using this
theorem RelL.vals {W : World} : ∀ (vs : List Value) {cs : List Value} {ls : List Lf}, (∀ v ∈ vs, v.oneCell' = true) → RelL W cs ls → RelL W (vs ++ cs) (vs.map Lf.val ++ ls)
 | [], _, _, _, hs => hs
 | v :: vs, _, _, h, hs => .cons (.val v (h v List.mem_cons_self)) (RelL.vals vs (fun u hu => h u (List.mem_cons_of_mem _ hu)) hs)
theorem argRel {W : World} {C : Array Value} {ls : List Lf} {objs : Nat → Option Ob} {E : Env} (h : RelL W C.toList ls) : VR objs E (fun b => b < W.heap.size) W (.agg ls) (.agg C) := by
 refine .agg _ _ (by simpa using h.1) (fun j hj => ?_)
 have := h.2 j hj
 have e : C.toList.getD j undef = C.getD j undef := by
  simp [List.getD_eq_getElem?_getD, Array.getD_eq_getD_getElem?]
 rw [e] at this
 exact .imm _ _ this
section
variable {H : Type} {enc : TypeId × Value → H} {P : Program} {W : World} {α : Type} {c : Cod α} {vals : α → List Value} {wf : α → Prop}
theorem open_vwc {t e : TypeId} {n : Nat} {v : Value} {x : DataW H × List MemPlace} (hu : P.underlying t = some (.slice e)) (hce : P.cellsOf e = c.sz) (hpos : 0 < c.sz)
  (hopen : ∀ (n : Nat) (cs : List Value) (x : DataW H × List MemPlace), DataW.trod enc P W 0 (fun _ => true) true n e cs = some x → ∃ a : α, cs = vals a ∧ wf a)
  (hlen : ∀ a, (vals a).length = c.sz) (henc : ∀ a, c.enc a = (vals a).map Lf.val) (hone : ∀ a, ∀ v ∈ vals a, v.oneCell' = true)
  (h : DataW.trod enc P W 0 (fun _ => true) true n t [v] = some x) :
  ∃ l : List α, LRi (fun b => b < W.heap.size) W (vw c l) v ∧ ((∀ a ∈ l, wf a) ∧ l.length ≤ maxLen) := by
 obtain ⟨d, p⟩ := x
 have hv : ∃ base len cap, v = .slice base len cap := by
  rcases Go.Deep.open_slice hu h with ⟨hcs, _⟩ | ⟨a, l, cp, m, n, D, Pl, hcs, _⟩
  ·simp only [List.cons.injEq, and_true] at hcs; exact ⟨_, _, _, hcs⟩
  ·simp only [List.cons.injEq, and_true] at hcs; exact ⟨_, _, _, hcs⟩
 obtain ⟨base, len, cap, rfl⟩ := hv
 obtain ⟨l, h1, h2, _⟩ := open_vw (c := c) (vals := vals) (wf := wf) hu hce hpos hopen hlen henc hone (d := d) (p := p) ⟨n, h⟩
 exact ⟨l, h1, h2⟩
end
end Go.Rx
