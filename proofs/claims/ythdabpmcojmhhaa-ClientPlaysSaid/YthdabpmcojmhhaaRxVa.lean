/- No condition. -/
import Derived.Test.YthdabpmcojmhhaaRxV
set_option linter.unusedVariables false
namespace Go.Rx
open Go Go.RowKit Go.ChangeShapes Go.WideShapes
def RelL (W : World) (cs : List Value) (ls : List Lf) : Prop := cs.length = ls.length ∧ ∀ j, j < ls.length → LRi (fun b => b < W.heap.size) W (ls.getD j default) (cs.getD j undef)
theorem RelL.nil {W : World} : RelL W [] [] := ⟨rfl, fun j hj => by simp at hj⟩
theorem RelL.cons {W : World} {c : Value} {l : Lf} {cs : List Value} {ls : List Lf} (h : LRi (fun b => b < W.heap.size) W l c) (hs : RelL W cs ls) : RelL W (c :: cs) (l :: ls) := by
 refine ⟨by simp [hs.1], fun j hj => ?_⟩
 cases j with
 | zero => exact h
 | succ j => have := hs.2 j (by simpa using hj); simpa using this
theorem RelL.vals {W : World} : ∀ (vs : List Value) {cs : List Value} {ls : List Lf}, (∀ v ∈ vs, v.oneCell' = true) → RelL W cs ls → RelL W (vs ++ cs) (vs.map Lf.val ++ ls)
 | [], _, _, _, hs => hs
 | v :: vs, _, _, h, hs => .cons (.val v (h v ybo)) (RelL.vals vs (fun u hu => h u (yat _ hu)) hs)
section
variable {H : Type} {enc : TypeId × Value → H} {P : Program} {W : World} {α : Type} {c : Cod α} {vals : α → List Value} {wf : α → Prop}
theorem zgc {t e : TypeId} {n : Nat} {v : Value} {x : DataW H × List MemPlace} (hu : P.underlying t = some (.slice e)) (hce : P.cellsOf e = c.sz) (hpos : 0 < c.sz)
  (hopen : ∀ (n : Nat) (cs : List Value) (x : DataW H × List MemPlace), DataW.trod enc P W 0 (fun _ => true) true n e cs = some x → ∃ a : α, cs = vals a ∧ wf a)
  (hlen : ∀ a, (vals a).length = c.sz) (henc : ∀ a, c.enc a = (vals a).map Lf.val) (hone : ∀ a, ∀ v ∈ vals a, v.oneCell' = true)
  (h : DataW.trod enc P W 0 (fun _ => true) true n t [v] = some x) :
  ∃ l : List α, LRi (fun b => b < W.heap.size) W (vw c l) v ∧ ((∀ a ∈ l, wf a) ∧ l.length ≤ maxLen) := by
 obtain ⟨d, p⟩ := x
 have hv : ∃ base len cap, v = .slice base len cap := by
  rcases Go.Deep.open_slice hu h with ⟨hcs, _⟩ | ⟨a, l, cp, m, n, D, Pl, hcs, _⟩
  ·simp only [yaf, and_true] at hcs; exact ⟨_, _, _, hcs⟩
  ·simp only [yaf, and_true] at hcs; exact ⟨_, _, _, hcs⟩
 obtain ⟨base, len, cap, rfl⟩ := hv
 obtain ⟨l, h1, h2, _⟩ := open_vw (c := c) (vals := vals) (wf := wf) hu hce hpos hopen hlen henc hone (d := d) (p := p) ⟨n, h⟩
 exact ⟨l, h1, h2⟩
theorem open_vwN {t e : TypeId} {d : DataW H} {p : List MemPlace} {base : Option Addr} {len cap : Nat} (hu : P.underlying t = some (.slice e)) (hce : P.cellsOf e = c.sz) (hpos : 0 < c.sz)
  (hopen : ∀ (n : Nat) (cs : List Value) (x : DataW H × List MemPlace), DataW.trod enc P W 0 (fun _ => true) true n e cs = some x → ∃ a : α, RelL W cs (c.enc a) ∧ wf a)
  (hlen : ∀ a, (c.enc a).length = c.sz)
  (h : DataW.Trod enc P W 0 (fun _ => true) true t (.slice base len cap) d p) :
  ∃ l : List α, LRi (fun b => b < W.heap.size) W (vw c l) (.slice base len cap) ∧ ((∀ a ∈ l, wf a) ∧ l.length ≤ maxLen) ∧ l.length = len := by
 obtain ⟨fuel, hf⟩ := h
 rcases Go.Deep.open_slice hu hf with ⟨hcs, _⟩ | ⟨a, l, cp, m, n, D, Pl, hcs, _, hl, hm, hmm, _, hx⟩
 ·simp [Value.cells] at hcs
  obtain ⟨rfl, rfl, rfl⟩ := hcs
  exact ⟨[], .view _ 0 _ none 0 (fun _ _ => undef) (yai _) (fun i hi => by omega) (.inl rfl) (fun i hi => by omega), by simp [maxLen], rfl⟩
 ·simp [Value.cells] at hcs
  obtain ⟨rfl, rfl, rfl⟩ := hcs
  have hm' : m = cap := by rw [hmm]; simp
  subst hm'
  obtain ⟨xs, hxl, hxp⟩ := choose_list (α := α × List Value) (n := len) (p := fun i y => W.cells? 0 (a.add (i * c.sz)) c.sz = some y.2 ∧ RelL W y.2 (c.enc y.1) ∧ wf y.1) (fun i hi => by
   obtain ⟨cs', h1, h2⟩ := hx i (by omega)
   rw [hce] at h1
   obtain ⟨y, hy, hw⟩ := hopen _ _ _ h2
   exact ⟨(y, cs'), h1, hy, hw⟩)
  subst hxl
  have hsz : ∀ i (hi : i < xs.length), xs[i].2.length = c.sz := fun i hi => by rw [(hxp i hi).2.1.1, hlen]
  refine ⟨xs.map (·.1), ?_, ⟨fun y hy => ?_, by rw [ybi]; exact Nat.le_trans hl hm⟩, by simp⟩
  ·have hget : ∀ i (hi : i < xs.length), zaa c (xs.map (·.1)) i = c.enc xs[i].1 := fun i hi => zgg (by simp [hi])
   have hvv : ∀ i (hi : i < xs.length), (xs.map (·.2)).getD i [] = xs[i].2 := fun i hi => by simp [hi]
   rw [show vw c (xs.map (·.1)) = .view c.sz xs.length (zaa c (xs.map (·.1))) by simp [vw]]
   refine .view c.sz xs.length _ _ m (fun i j => ((xs.map (·.2)).getD i []).getD j undef) hl (fun i hi => by rw [hget i hi, hlen]) ?_ (fun i hi j hj => ?_)
   ·by_cases h0 : xs.length = 0
    ·exact .inl h0
    ·refine .inr ?_
     have hcell : ∀ i (hi : i < xs.length), ∀ j, j < c.sz → W.cell? (a.add (i * c.sz + j)) = some (xs[i].2.getD j undef) := by
      intro i hi j hj
      obtain ⟨_, hlc, hcc⟩ := World.cells?_some (hxp i hi).1
      have := hcc j hj
      rw [Go.Deep.add_add] at this
      rw [this]
      simp [hsz i hi, hj]
     obtain ⟨b, off, spot⟩ := a
     have hspot : spot = none := by
      have := hcell 0 (by omega) 0 hpos
      simpa [Addr.add] using World.cell?_spot this
     subst hspot
     refine ⟨b, off, rfl, ?_, fun i hi j hj => ?_⟩
     ·have := hcell 0 (by omega) 0 hpos
      unfold World.cell? at this
      split at this
      ·rename_i hb
       have := (ybx.1 hb).1
       simpa [Addr.add] using this
      ·cases this
     ·have := hcell i hi j hj
      rw [Go.WideShapes.add_plain] at this
      rw [this]
      simp [hi]
   ·rw [hget i hi, hvv i hi]
    exact (hxp i hi).2.1.2 j (by rw [hlen]; exact hj)
  ·obtain ⟨z, hz, rfl⟩ := List.mem_map.1 hy
   obtain ⟨i, hi, rfl⟩ := ybj hz
   exact (hxp i hi).2.2
end
end Go.Rx
