/- No condition. -/
import Derived.Test.YthdabpmcojmhhaaRxQ
import Derived.Deep.Slices
import Derived.OpenShut
import Derived.Lib.SmallJoins
namespace Go.Rx
open Go Go.RowKit Go.ChangeShapes Go.WideShapes
theorem lri_vals {I : Nat → Prop} {w : World} (vs : List Value) (h : ∀ v ∈ vs, v.oneCell' = true) (j : Nat) (hj : j < vs.length) : LRi I w ((vs.map Lf.val).getD j default) (vs.getD j undef) := by
 have e1 : (vs.map Lf.val).getD j default = .val vs[j] := by simp [hj]
 have e2 : vs.getD j undef = vs[j] := by simp [hj]
 rw [e1, e2]
 exact .val _ (h _ (ybq hj))
section
variable {H : Type} {enc : TypeId × Value → H} {P : Program} {W : World} {α : Type} {c : Cod α} {vals : α → List Value} {wf : α → Prop}
theorem choose_list {n : Nat} {p : Nat → α → Prop} (h : ∀ i, i < n → ∃ x, p i x) : ∃ l : List α, l.length = n ∧ ∀ i (hi : i < l.length), p i l[i] := by
 induction n with
 | zero => exact ⟨[], rfl, fun i hi => by simp at hi⟩
 | succ n ih =>
  obtain ⟨l, hl, hp⟩ := ih (fun i hi => h i (by omega))
  obtain ⟨x, hx⟩ := h n (by omega)
  refine ⟨l ++ [x], by simp [hl], fun i hi => ?_⟩
  by_cases hin : i < l.length
  ·rw [List.getElem_append_left hin]; exact hp i hin
  ·have : i = n := by simp [hl] at hi; omega
   subst this
   rw [List.getElem_append_right (by omega)]
   simpa [hl] using hx
theorem open_vw {t e : TypeId} {d : DataW H} {p : List MemPlace} {base : Option Addr} {len cap : Nat} (hu : P.underlying t = some (.slice e)) (hce : P.cellsOf e = c.sz) (hpos : 0 < c.sz)
  (hopen : ∀ (n : Nat) (cs : List Value) (x : DataW H × List MemPlace), DataW.trod enc P W 0 (fun _ => true) true n e cs = some x → ∃ a : α, cs = vals a ∧ wf a)
  (hlen : ∀ a, (vals a).length = c.sz) (henc : ∀ a, c.enc a = (vals a).map Lf.val) (hone : ∀ a, ∀ v ∈ vals a, v.oneCell' = true)
  (h : DataW.Trod enc P W 0 (fun _ => true) true t (.slice base len cap) d p) :
  ∃ l : List α, LRi (fun b => b < W.heap.size) W (vw c l) (.slice base len cap) ∧ ((∀ a ∈ l, wf a) ∧ l.length ≤ maxLen) ∧ l.length = len := by
 obtain ⟨fuel, hf⟩ := h
 rcases Go.Deep.open_slice hu hf with ⟨hcs, _⟩ | ⟨a, l, cp, m, n, D, Pl, hcs, _, hl, hm, hmm, _, hx⟩
 ·simp [Value.cells] at hcs
  obtain ⟨rfl, rfl, rfl⟩ := hcs
  exact ⟨[], .view _ 0 _ none 0 (fun _ _ => undef) (yai _) (fun i hi => by omega) (.inl rfl) (fun i hi => by omega), by simp [maxLen], rfl⟩
 ·simp [Value.cells] at hcs
  obtain ⟨rfl, rfl, rfl⟩ := hcs
  have hm' : m = cap := by rw [hmm]; simp
  subst hm'
  obtain ⟨xs, hxl, hxp⟩ := choose_list (α := α) (n := len) (p := fun i y => W.cells? 0 (a.add (i * c.sz)) c.sz = some (vals y) ∧ wf y) (fun i hi => by
   obtain ⟨cs', h1, h2⟩ := hx i (by omega)
   rw [hce] at h1
   obtain ⟨y, rfl, hw⟩ := hopen _ _ _ h2
   exact ⟨y, h1, hw⟩)
  subst hxl
  refine ⟨xs, ?_, ⟨fun y hy => ?_, Nat.le_trans hl hm⟩, rfl⟩
  ·have hvv : ∀ i (hi : i < xs.length), (xs.map vals).getD i [] = vals xs[i] := fun i hi => by simp [hi]
   have hget : ∀ i (hi : i < xs.length), zaa c xs i = (vals xs[i]).map Lf.val := fun i hi => by rw [zgg (a := xs[i]) (by simp [hi]), henc]
   refine .view c.sz xs.length _ _ m (fun i j => ((xs.map vals).getD i []).getD j undef) hl (fun i hi => by rw [hget i hi, ybi, hlen]) ?_ (fun i hi j hj => ?_)
   ·by_cases h0 : xs.length = 0
    ·exact .inl h0
    ·refine .inr ?_
     have hcell : ∀ i (hi : i < xs.length), ∀ j, j < c.sz → W.cell? (a.add (i * c.sz + j)) = some ((vals xs[i]).getD j undef) := by
      intro i hi j hj
      obtain ⟨_, hlc, hcc⟩ := World.cells?_some (hxp i hi).1
      have := hcc j hj
      rw [Go.Deep.add_add] at this
      rw [this]
      simp [hlen, hj]
     obtain ⟨b, off, spot⟩ := a
     have hspot : spot = none := by
      have := hcell 0 (by omega) 0 hpos
      simpa [Addr.add] using World.cell?_spot this
     subst hspot
     refine ⟨b, off, rfl, ?_, fun i hi j hj => ?_⟩
     ·have := hcell 0 (by omega) 0 hpos
      unfold World.cell? at this
      split at this
      ·rename_i hb
       have := (ybx.1 hb).1
       simpa [Addr.add] using this
      ·cases this
     ·have := hcell i hi j hj
      rw [Go.WideShapes.add_plain] at this
      rw [this]
      simp [hi]
   ·rw [hget i hi]
    have hj' : j < (vals xs[i]).length := by rw [hlen]; exact hj
    have e : ((xs.map vals).getD i []).getD j undef = (vals xs[i]).getD j undef := by rw [hvv i hi]
    rw [e]
    exact lri_vals _ (hone _) j hj'
  ·obtain ⟨i, hi, rfl⟩ := ybj hy
   exact (hxp i hi).2
end
end Go.Rx
