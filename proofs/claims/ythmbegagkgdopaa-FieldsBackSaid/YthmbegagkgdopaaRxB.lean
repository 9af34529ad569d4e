/-
  Rx, part B: what the pure machine's state says of the model's frame and memory; how that is kept.
-/
import Derived.Test.YthmbegagkgdopaaRxA
namespace Go.Rx
open Go Go.RowKit

/-- Immutable content. -/
inductive LRi (I : Nat → Prop) (w : World) : Lf → Value → Prop
  | val (v : Value) : v.oneCell' = true → LRi I w (.val v) v
  | view (sz n : Nat) (get : Nat → List Lf) (base : Option Addr) (cap : Nat) (vv : Nat → Nat → Value) :
      n ≤ cap → (∀ i, i < n → (get i).length = sz) →
      (n = 0 ∨ ∃ b o, base = some ⟨b, o, none⟩ ∧ I b ∧ ∀ i, i < n → ∀ j, j < sz → w.cell? ⟨b, o + (i * sz + j), none⟩ = some (vv i j)) →
      (∀ i, i < n → ∀ j, j < sz → LRi I w ((get i).getD j default) (vv i j)) →
      LRi I w (.view sz n get) (.slice base n cap)

structure Env where
  bl : Nat → Nat
  hv : Nat → Value

inductive LR (objs : Nat → Option Ob) (E : Env) (I : Nat → Prop) (w : World) : Lf → Value → Prop
  | imm (l : Lf) (v : Value) : LRi I w l v → LR objs E I w l v
  | ptr (k off : Nat) (cs : List Lf) : objs k = some (.cells cs) → LR objs E I w (.ptr k off) (.pointer (some ⟨E.bl k, off, none⟩))
  | eptr (cs : List Lf) (off b o : Nat) (vv : Nat → Value) : I b →
      (∀ j, j < cs.length → w.cell? ⟨b, o + j, none⟩ = some (vv j)) → (∀ j, j < cs.length → LRi I w (cs.getD j default) (vv j)) →
      LR objs E I w (.eptr cs off) (.pointer (some ⟨b, o + off, none⟩))
  | aptr (k g i off el sz g' n : Nat) (get : Nat → List Lf) (b o : Nat) : objs k = some (.arr el sz g' n get) → g ≤ g' →
      (g = g' → i < n → b = E.bl k ∧ o = i * sz + off) → LR objs E I w (.aptr k g i off) (.pointer (some ⟨b, o, none⟩))
  | osl (k g off n el sz g' m : Nat) (get : Nat → List Lf) (base : Option Addr) (cap' : Nat) : objs k = some (.arr el sz g' m get) → g ≤ g' →
      (g = g' → off + n ≤ m → ∃ o cap, E.hv k = .slice (some ⟨E.bl k, 0, none⟩) m cap ∧ base = some ⟨E.bl k, o, none⟩ ∧ (n = 0 ∨ o = off * sz) ∧ n ≤ cap' ∧ (off = 0 → cap' = cap)) →
      LR objs E I w (.osl k g off n) (.slice base n cap')
  | fn (f : FuncId) (caps : List Lf) (C : Array Value) : C.size = caps.length → (∀ j, j < caps.length → LR objs E I w (caps.getD j default) (C.getD j undef)) →
      LR objs E I w (.fn f caps) (.func (.func f) #[] C)

inductive VR (objs : Nat → Option Ob) (E : Env) (I : Nat → Prop) (w : World) : PV → Value → Prop
  | none (v : Value) : VR objs E I w .none v
  | one (l : Lf) (v : Value) : LR objs E I w l v → VR objs E I w (.one l) v
  | agg (cs : List Lf) (C : Array Value) : C.size = cs.length → (∀ j, j < cs.length → LR objs E I w (cs.getD j default) (C.getD j undef)) → VR objs E I w (.agg cs) (.agg C)
  | tup (vs : List PV) (C : Array Value) : C.size = vs.length → (∀ j, j < vs.length → VR objs E I w (vs.getD j .none) (C.getD j undef)) → VR objs E I w (.tup vs) (.tuple C)

def ObjR (objs : Nat → Option Ob) (E : Env) (I : Nat → Prop) (w : World) (k : Nat) : Ob → Prop
  | .cells cs => ∃ C t, w.heap[E.bl k]? = some (.cells C t (0, 0)) ∧ C.size = cs.length ∧ ∀ j, j < cs.length → LR objs E I w (cs.getD j default) (C.getD j undef)
  | .arr el sz _ n get => ∃ xs cap, E.hv k = .slice (some ⟨E.bl k, 0, none⟩) n cap ∧ w.ownsRow 0 el sz (E.hv k) n xs ∧ 0 < n ∧ 0 < sz ∧
      ∀ i, i < n → (get i).length = sz ∧ ∀ j, j < sz → LRi I w ((get i).getD j default) (xs.getD (i * sz + j) undef)

/-- The world but for some blocks. -/
structure Wst (T : Nat → Prop) (w w' : World) : Prop where
  os : w'.os = w.os
  tape : w'.tape = w.tape
  output : w'.output = w.output
  size : w.heap.size ≤ w'.heap.size
  block : ∀ b, b < w.heap.size → ¬ T b → w'.heap[b]? = w.heap[b]?

theorem Wst.refl (T : Nat → Prop) (w : World) : Wst T w w := ⟨rfl, rfl, rfl, Nat.le_refl _, fun _ _ _ => rfl⟩
theorem Wst.trans {T T' T'' : Nat → Prop} {a b c : World} (h : Wst T a b) (k : Wst T' b c) (h1 : ∀ x, x < a.heap.size → ¬ T'' x → ¬ T x) (h2 : ∀ x, x < a.heap.size → ¬ T'' x → ¬ T' x) : Wst T'' a c :=
  ⟨k.os.trans h.os, k.tape.trans h.tape, k.output.trans h.output, Nat.le_trans h.size k.size, fun i hi hn => (k.block i (Nat.lt_of_lt_of_le hi h.size) (h2 i hi hn)).trans (h.block i hi (h1 i hi hn))⟩
theorem Wst.alloc (T : Nat → Prop) (w : World) (o : Obj) : Wst T w (w.alloc o) := ⟨rfl, rfl, rfl, by simp, fun k hk _ => Below.heap_alloc _ _ _ hk⟩
theorem Wst.drawn (T : Nat → Prop) (w : World) (n : Nat) : Wst T w { w with drawn := n } := ⟨rfl, rfl, rfl, Nat.le_refl _, fun _ _ _ => rfl⟩
theorem Wst.grown {w w' : World} {row : Option Nat} (h : w.grownBy w' row) : Wst (fun b => some b = row) w w' := ⟨h.os, h.tape, h.output, h.size, fun b hb hn => h.block b hb hn⟩
theorem Wst.mono {T T' : Nat → Prop} {w w' : World} (h : Wst T w w') (hT : ∀ x, T x → T' x) : Wst T' w w' := ⟨h.os, h.tape, h.output, h.size, fun b hb hn => h.block b hb (fun t => hn (hT b t))⟩
theorem Wst.below {w w' : World} (h : Wst (fun _ => False) w w') : Below w.heap.size w w' := ⟨h.os, h.tape, h.output, h.size, fun k hk => h.block k hk id⟩

theorem LRi.one {I : Nat → Prop} {w : World} {l : Lf} {v : Value} (h : LRi I w l v) : v.oneCell' = true := by cases h <;> first | assumption | rfl
theorem LR.one {objs : Nat → Option Ob} {E : Env} {I : Nat → Prop} {w : World} {l : Lf} {v : Value} (h : LR objs E I w l v) : v.oneCell' = true := by
  cases h with
  | imm _ _ h => exact h.one
  | ptr => rfl
  | eptr => rfl
  | aptr => rfl
  | osl => rfl
  | fn => rfl

theorem LRi.mono {I I' : Nat → Prop} {w w' : World} (h1 : ∀ b, I b → I' b) (h2 : ∀ b, I b → w'.heap[b]? = w.heap[b]?) {l : Lf} {v : Value} (h : LRi I w l v) : LRi I' w' l v := by
  induction h with
  | val v h => exact .val v h
  | view sz n get base cap vv hc hl hb he ih =>
    refine .view sz n get base cap vv hc hl ?_ ih
    rcases hb with hb | ⟨b, o, e, hI, hcell⟩
    · exact .inl hb
    · exact .inr ⟨b, o, e, h1 b hI, fun i hi j hj => (World.cell?_of_block (w := w) (w' := w') (a := ⟨b, o + (i * sz + j), none⟩) (h2 b hI)).trans (hcell i hi j hj)⟩

/-- What the objects of a state become. -/
def Ext (objs : Nat → Option Ob) (E : Env) (objs' : Nat → Option Ob) (E' : Env) : Prop :=
  ∀ k o, objs k = some o → match o with
    | .cells _ => (∃ cs', objs' k = some (.cells cs')) ∧ E'.bl k = E.bl k
    | .arr el sz g n _ => ∃ g' n' get', objs' k = some (.arr el sz g' n' get') ∧ g ≤ g' ∧ (g = g' → n' = n ∧ E'.hv k = E.hv k ∧ E'.bl k = E.bl k)

theorem Ext.refl (objs : Nat → Option Ob) (E : Env) : Ext objs E objs E := by
  intro k o h
  cases o with
  | cells cs => exact ⟨⟨cs, h⟩, rfl⟩
  | arr el sz g n get => exact ⟨g, n, get, h, Nat.le_refl _, fun _ => ⟨rfl, rfl, rfl⟩⟩

structure Move (objs : Nat → Option Ob) (E : Env) (I : Nat → Prop) (w : World) (objs' : Nat → Option Ob) (E' : Env) (I' : Nat → Prop) (w' : World) : Prop where
  ext : Ext objs E objs' E'
  sub : ∀ b, I b → I' b
  same : ∀ b, I b → w'.heap[b]? = w.heap[b]?

section
variable {objs objs' : Nat → Option Ob} {E E' : Env} {I I' : Nat → Prop} {w w' : World}

theorem Move.lri (m : Move objs E I w objs' E' I' w') {l : Lf} {v : Value} (h : LRi I w l v) : LRi I' w' l v := h.mono m.sub m.same

theorem Move.lr (m : Move objs E I w objs' E' I' w') {l : Lf} {v : Value} (h : LR objs E I w l v) : LR objs' E' I' w' l v := by
  induction h with
  | imm l v h => exact .imm l v (m.lri h)
  | ptr k off cs h =>
    obtain ⟨⟨cs', h'⟩, e⟩ := m.ext k _ h
    rw [← e]; exact .ptr k off cs' h'
  | eptr cs off b o vv hI hc hl =>
    exact .eptr cs off b o vv (m.sub b hI) (fun j hj => (World.cell?_of_block (w := w) (w' := w') (a := ⟨b, o + j, none⟩) (m.same b hI)).trans (hc j hj)) (fun j hj => m.lri (hl j hj))
  | aptr k g i off el sz g' n get b o h hg hv =>
    obtain ⟨g2, n2, get2, h', hle, he⟩ := m.ext k _ h
    refine .aptr k g i off el sz g2 n2 get2 b o h' (Nat.le_trans hg hle) (fun e hi => ?_)
    obtain ⟨e1, _, e3⟩ := he (by omega)
    rw [e3]; exact hv (by omega) (by omega)
  | osl k g off n el sz g' M get base cap' h hg hv =>
    obtain ⟨g2, n2, get2, h', hle, he⟩ := m.ext k _ h
    refine .osl k g off n el sz g2 n2 get2 base cap' h' (Nat.le_trans hg hle) (fun e hi => ?_)
    obtain ⟨e1, e2, e3⟩ := he (by omega)
    subst e1
    rw [e2, e3]; exact hv (by omega) (by omega)
  | fn f caps C hC _ ih => exact .fn f caps C hC ih

theorem Move.vr (m : Move objs E I w objs' E' I' w') {p : PV} {v : Value} (h : VR objs E I w p v) : VR objs' E' I' w' p v := by
  induction h with
  | none v => exact .none v
  | one l v h => exact .one l v (m.lr h)
  | agg cs C hC h => exact .agg cs C hC (fun j hj => m.lr (h j hj))
  | tup vs C hC _ ih => exact .tup vs C hC ih

theorem Move.obj (m : Move objs E I w objs' E' I' w') {k : Nat} {o : Ob} (hb : E'.bl k = E.bl k) (hh : E'.hv k = E.hv k) (hw : w'.heap[E.bl k]? = w.heap[E.bl k]?) (h : ObjR objs E I w k o) : ObjR objs' E' I' w' k o := by
  cases o with
  | cells cs =>
    obtain ⟨C, t, h1, h2, h3⟩ := h
    exact ⟨C, t, by rw [hb, hw]; exact h1, h2, fun j hj => m.lr (h3 j hj)⟩
  | arr el sz g n get =>
    obtain ⟨xs, cap, h1, h2, h3, h4, h5⟩ := h
    refine ⟨xs, cap, by rw [hb, hh]; exact h1, ?_, h3, h4, fun i hi => ⟨(h5 i hi).1, fun j hj => m.lri ((h5 i hi).2 j hj)⟩⟩
    rw [hh]
    refine ⟨h2.1, ?_⟩
    rcases h2.2 with h | ⟨g', cap', cur, e, hg, hc, rest⟩
    · exact .inl h
    · refine .inr ⟨g', cap', cur, e, hg, ?_, rest⟩
      rw [h1] at e
      injection e with e _ _
      injection e with e
      injection e with e _ _
      rw [← e, hw, e]; exact hc
end

structure Rel (w0 : World) (bl0 : List Nat) (I0 : Nat → Prop) (nt : Nat) (st : St) (E : Env) (I : Nat → Prop) (a : Act) (w : World) : Prop where
  defers : a.defers = []
  tsize : a.tmps.size = nt
  tmps : ∀ t, VR st.objs E I w (st.tmps t) (a.tmps.getD t undef)
  objs : ∀ k o, st.objs k = some o → ObjR st.objs E I w k o
  inj : ∀ k k', (st.objs k).isSome → (st.objs k').isSome → k ≠ k' → E.bl k ≠ E.bl k'
  imm : ∀ k, (st.objs k).isSome → ¬ I (E.bl k)
  lt : ∀ k, (st.objs k).isSome → E.bl k < w.heap.size
  own : ∀ k, (st.objs k).isSome → E.bl k ∈ bl0 ∨ w0.heap.size ≤ E.bl k
  Ilt : ∀ b, I b → b < w.heap.size
  Iup : ∀ b, I0 b → I b
  Inew : ∀ b, I b → I0 b ∨ w0.heap.size ≤ b
  fr : Wst (· ∈ bl0) w0 w
  arr : ∀ k el sz g n get, st.objs k = some (.arr el sz g n get) → w0.heap.size ≤ E.bl k ∧ k < pbase
  par : ∀ j, (st.objs (pbase + j)).isSome → E.bl (pbase + j) = bl0.getD j 0
  ntb : nt ≤ pbase

theorem ofVal_vr (objs : Nat → Option Ob) (E : Env) (I : Nat → Prop) (w : World) (v : Value) : VR objs E I w (PV.ofVal v) v := by
  cases v with
  | agg C =>
    simp only [PV.ofVal]
    split
    · rename_i h
      refine .agg _ _ (by simp) (fun j hj => ?_)
      have hj' : j < C.size := by simpa using hj
      have e1 : (List.map Lf.val C.toList).getD j default = .val C[j] := by simp [List.getD, hj']
      have e2 : C.getD j undef = C[j] := by simp [Array.getD, hj']
      rw [e1, e2]
      exact .imm _ _ (.val _ (List.all_eq_true.1 h _ (by simp)))
    · exact .none _
  | tuple vs => exact .none _
  | _ => exact .one _ _ (.imm _ _ (.val _ rfl))

section
variable {w0 : World} {bl0 : List Nat} {I0 : Nat → Prop} {nt : Nat} {st : St} {E : Env} {I : Nat → Prop} {a : Act} {w : World}

theorem Rel.ev (h : Rel w0 bl0 I0 nt st E I a w) (x : Operand) : VR st.objs E I w (st.ev x) (a.eval x) := by
  cases x with
  | tmp t => exact h.tmps t
  | const v => exact ofVal_vr _ _ _ _ v
  | global g => exact .none _
  | func f => exact .one _ _ (.imm _ _ (.val _ rfl))

/-- The temporaries behind a put. -/
theorem put_tmps {objs' : Nat → Option Ob} {E' : Env} {I' : Nat → Prop} {w' : World} (hs : a.tmps.size = nt) (d : Option Nat) (hd : ∀ x, d = some x → x < nt) (v : PV) (val : Value)
    (ht : ∀ t, VR objs' E' I' w' (st.tmps t) (a.tmps.getD t undef)) (hv : VR objs' E' I' w' v val) :
    ∀ t, VR objs' E' I' w' ((({ st with objs := objs' } : St).put d v).tmps t) ((a.put d val).tmps.getD t undef) := by
  intro t
  cases d with
  | none => exact ht t
  | some d =>
    simp only [St.put, upd, Act.put]
    by_cases h : t = d
    · subst h
      have := hd t rfl
      simp only [if_true]
      have e : (a.tmps.setIfInBounds t val).getD t undef = val := by simp [Array.getD, hs, this]
      rw [e]; exact hv
    · rw [if_neg h]
      have e : (a.tmps.setIfInBounds d val).getD t undef = a.tmps.getD t undef := by
        simp [Array.getElem?_setIfInBounds_ne (Ne.symm h)]
      rw [e]; exact ht t

theorem put_objs (objs' : Nat → Option Ob) (d : Option Nat) (v : PV) : (({ st with objs := objs' } : St).put d v).objs = objs' := by cases d <;> rfl

/-- An operation that leaves this frame's variables alone (the world may have new blocks). -/
theorem Rel.step (h : Rel w0 bl0 I0 nt st E I a w) {w' : World} (hw : Wst (fun _ => False) w w') (d : Option Nat) (hd : ∀ x, d = some x → x < nt) (v : PV) (val : Value)
    (hv : VR st.objs E I w' v val) : Rel w0 bl0 I0 nt (st.put d v) E I (a.put d val) w' := by
  have m : Move st.objs E I w st.objs E I w' := ⟨Ext.refl _ _, fun _ h => h, fun b hb => hw.block b (h.Ilt b hb) id⟩
  have ho : (st.put d v).objs = st.objs := by cases d <;> rfl
  refine ⟨by cases d <;> exact h.defers, by cases d <;> simp [Act.put, h.tsize], ?_, ?_, ?_, ?_, ?_, ?_, fun b hb => Nat.lt_of_lt_of_le (h.Ilt b hb) hw.size, h.Iup, h.Inew,
    h.fr.trans hw (fun _ _ h => h) (fun _ _ _ => id), by rw [ho]; exact h.arr, by rw [ho]; exact h.par, h.ntb⟩
  · rw [ho]; exact put_tmps (st := st) h.tsize d hd v val (fun t => m.vr (h.tmps t)) hv
  · rw [ho]; exact fun k o hk => m.obj rfl rfl (hw.block _ (h.lt k (by rw [hk]; rfl)) id) (h.objs k o hk)
  · rw [ho]; exact h.inj
  · rw [ho]; exact h.imm
  · rw [ho]; exact fun k hk => Nat.lt_of_lt_of_le (h.lt k hk) hw.size
  · rw [ho]; exact h.own

theorem upd_same {α : Type} (f : Nat → α) (k : Nat) (v : α) : upd f k v k = v := by simp [upd]
theorem upd_ne {α : Type} (f : Nat → α) {k j : Nat} (v : α) (h : j ≠ k) : upd f k v j = f j := by simp [upd, h]

/-- A new variable of this frame, in a new block. -/
theorem Rel.fresh (h : Rel w0 bl0 I0 nt st E I a w) {w' : World} (hw : Wst (fun _ => False) w w') (k : Nat) (hkn : k < pbase) (hk : st.objs k = none) (o : Ob) (b : Nat) (hv : Value)
    (hb1 : w.heap.size ≤ b) (hb2 : b < w'.heap.size) (d : Option Nat) (hd : ∀ x, d = some x → x < nt) (v : PV) (val : Value)
    (ho : ObjR (upd st.objs k (some o)) ⟨upd E.bl k b, upd E.hv k hv⟩ I w' k o)
    (hval : VR (upd st.objs k (some o)) ⟨upd E.bl k b, upd E.hv k hv⟩ I w' v val) :
    Rel w0 bl0 I0 nt (({ st with objs := upd st.objs k (some o) } : St).put d v) ⟨upd E.bl k b, upd E.hv k hv⟩ I (a.put d val) w' := by
  have hne : ∀ j, (st.objs j).isSome → j ≠ k := fun j hj e => by rw [e, hk] at hj; cases hj
  have m : Move st.objs E I w (upd st.objs k (some o)) ⟨upd E.bl k b, upd E.hv k hv⟩ I w' := by
    refine ⟨?_, fun _ h => h, fun b hb => hw.block b (h.Ilt b hb) id⟩
    intro j oj hj
    have hjk := hne j (by rw [hj]; rfl)
    have e1 : upd st.objs k (some o) j = some oj := by rw [upd_ne _ _ hjk]; exact hj
    have e2 : upd E.bl k b j = E.bl j := upd_ne _ _ hjk
    have e3 : upd E.hv k hv j = E.hv j := upd_ne _ _ hjk
    cases oj with
    | cells cs => exact ⟨⟨cs, e1⟩, e2⟩
    | arr el sz g n get => exact ⟨g, n, get, e1, Nat.le_refl _, fun _ => ⟨rfl, e3, e2⟩⟩
  refine ⟨by cases d <;> exact h.defers, by cases d <;> simp [Act.put, h.tsize], ?_, ?_, ?_, ?_, ?_, ?_, fun b hb => Nat.lt_of_lt_of_le (h.Ilt b hb) hw.size, h.Iup, h.Inew,
    h.fr.trans hw (fun _ _ h => h) (fun _ _ _ => id), ?_, ?_, h.ntb⟩
  · rw [put_objs]; exact put_tmps (st := st) h.tsize d hd v val (fun t => m.vr (h.tmps t)) hval
  · rw [put_objs]; intro j oj hj
    by_cases hjk : j = k
    · subst hjk; rw [upd_same] at hj; injection hj with hj; subst hj; exact ho
    · rw [upd_ne _ _ hjk] at hj
      have hs : (st.objs j).isSome := by rw [hj]; rfl
      exact m.obj (upd_ne _ _ hjk) (upd_ne _ _ hjk) (hw.block _ (h.lt j hs) id) (h.objs j oj hj)
  · rw [put_objs]; intro j j' hj hj' hne'
    have aux : ∀ j, j ≠ k → (upd st.objs k (some o) j).isSome → (st.objs j).isSome := fun j hjk hj => by rwa [upd_ne _ _ hjk] at hj
    by_cases h1 : j = k
    · subst h1
      have h2 : j' ≠ j := Ne.symm hne'
      show upd E.bl j b j ≠ upd E.bl j b j'
      rw [upd_same, upd_ne _ _ h2]
      have := h.lt j' (aux j' h2 hj'); omega
    · by_cases h2 : j' = k
      · subst h2
        show upd E.bl j' b j ≠ upd E.bl j' b j'
        rw [upd_same, upd_ne _ _ h1]
        have := h.lt j (aux j h1 hj); omega
      · show upd E.bl k b j ≠ upd E.bl k b j'
        rw [upd_ne _ _ h1, upd_ne _ _ h2]; exact h.inj j j' (aux j h1 hj) (aux j' h2 hj') hne'
  · rw [put_objs]; intro j hj
    by_cases hjk : j = k
    · subst hjk; show ¬ I (upd E.bl j b j); rw [upd_same]; exact fun hI => by have := h.Ilt b hI; omega
    · show ¬ I (upd E.bl k b j); rw [upd_ne _ _ hjk]; rw [upd_ne _ _ hjk] at hj; exact h.imm j hj
  · rw [put_objs]; intro j hj
    by_cases hjk : j = k
    · subst hjk; show upd E.bl j b j < _; rw [upd_same]; exact hb2
    · show upd E.bl k b j < _; rw [upd_ne _ _ hjk]; rw [upd_ne _ _ hjk] at hj; exact Nat.lt_of_lt_of_le (h.lt j hj) hw.size
  · rw [put_objs]; intro j hj
    have := h.fr.size
    by_cases hjk : j = k
    · subst hjk; show upd E.bl j b j ∈ bl0 ∨ _ ≤ upd E.bl j b j; rw [upd_same]; exact .inr (by omega)
    · show upd E.bl k b j ∈ bl0 ∨ _ ≤ upd E.bl k b j; rw [upd_ne _ _ hjk]; rw [upd_ne _ _ hjk] at hj; exact h.own j hj
  · rw [put_objs]; intro j el sz g n get hj
    have := h.fr.size
    by_cases hjk : j = k
    · subst hjk; show _ ≤ upd E.bl j b j ∧ _; rw [upd_same]; have := h.ntb; omega
    · show _ ≤ upd E.bl k b j ∧ _; rw [upd_ne _ _ hjk]; rw [upd_ne _ _ hjk] at hj; exact h.arr j el sz g n get hj
  · rw [put_objs]; intro j hj
    have hjk : pbase + j ≠ k := by have := h.ntb; omega
    show upd E.bl k b (pbase + j) = _
    rw [upd_ne _ _ hjk]; rw [upd_ne _ _ hjk] at hj; exact h.par j hj

/-- A variable of this frame changes: in its block, or in a new one. -/
theorem Rel.change (h : Rel w0 bl0 I0 nt st E I a w) {w' : World} (k : Nat) (o o' : Ob) (hk : st.objs k = some o) (hw : Wst (fun b => b = E.bl k) w w') (b : Nat) (hv : Value)
    (hb : b = E.bl k ∨ (w.heap.size ≤ b ∧ b < w'.heap.size)) (d : Option Nat) (hd : ∀ x, d = some x → x < nt) (v : PV) (val : Value)
    (hE : match o with
      | .cells _ => (∃ cs', o' = .cells cs') ∧ b = E.bl k
      | .arr el sz g n _ => ∃ g' n' get', o' = .arr el sz g' n' get' ∧ g ≤ g' ∧ (g = g' → n' = n ∧ hv = E.hv k ∧ b = E.bl k))
    (ho : Move st.objs E I w (upd st.objs k (some o')) ⟨upd E.bl k b, upd E.hv k hv⟩ I w' → ObjR (upd st.objs k (some o')) ⟨upd E.bl k b, upd E.hv k hv⟩ I w' k o')
    (hval : Move st.objs E I w (upd st.objs k (some o')) ⟨upd E.bl k b, upd E.hv k hv⟩ I w' → VR (upd st.objs k (some o')) ⟨upd E.bl k b, upd E.hv k hv⟩ I w' v val) :
    Rel w0 bl0 I0 nt (({ st with objs := upd st.objs k (some o') } : St).put d v) ⟨upd E.bl k b, upd E.hv k hv⟩ I (a.put d val) w' := by
  have hks : (st.objs k).isSome := by rw [hk]; rfl
  have himm := h.imm k hks
  have hlt := h.lt k hks
  have m : Move st.objs E I w (upd st.objs k (some o')) ⟨upd E.bl k b, upd E.hv k hv⟩ I w' := by
    refine ⟨?_, fun _ h => h, fun b hb => hw.block b (h.Ilt b hb) (fun e => himm (e ▸ hb))⟩
    intro j oj hj
    by_cases hjk : j = k
    · subst hjk
      rw [hk] at hj; injection hj with hj; subst hj
      cases o with
      | cells cs =>
        obtain ⟨⟨cs', e⟩, e2⟩ := hE
        exact ⟨⟨cs', by rw [upd_same, e]⟩, by show upd E.bl j b j = _; rw [upd_same, e2]⟩
      | arr el sz g n get =>
        obtain ⟨g', n', get', e, hle, he⟩ := hE
        refine ⟨g', n', get', by rw [upd_same, e], hle, fun eg => ?_⟩
        obtain ⟨e1, e2, e3⟩ := he eg
        exact ⟨e1, by show upd E.hv j hv j = _; rw [upd_same, e2], by show upd E.bl j b j = _; rw [upd_same, e3]⟩
    · have e1 : upd st.objs k (some o') j = some oj := by rw [upd_ne _ _ hjk]; exact hj
      have e2 : upd E.bl k b j = E.bl j := upd_ne _ _ hjk
      have e3 : upd E.hv k hv j = E.hv j := upd_ne _ _ hjk
      cases oj with
      | cells cs => exact ⟨⟨cs, e1⟩, e2⟩
      | arr el sz g n get => exact ⟨g, n, get, e1, Nat.le_refl _, fun _ => ⟨rfl, e3, e2⟩⟩
  have aux : ∀ j, (upd st.objs k (some o') j).isSome → (st.objs j).isSome := fun j hj => by
    by_cases hjk : j = k
    · subst hjk; exact hks
    · rwa [upd_ne _ _ hjk] at hj
  have hsz := hw.size
  have hfr := h.fr.size
  refine ⟨by cases d <;> exact h.defers, by cases d <;> simp [Act.put, h.tsize], ?_, ?_, ?_, ?_, ?_, ?_, fun b hb => Nat.lt_of_lt_of_le (h.Ilt b hb) hw.size, h.Iup, h.Inew, ?_, ?_, ?_, h.ntb⟩
  · rw [put_objs]; exact put_tmps (st := st) h.tsize d hd v val (fun t => m.vr (h.tmps t)) (hval m)
  · rw [put_objs]; intro j oj hj
    by_cases hjk : j = k
    · subst hjk; rw [upd_same] at hj; injection hj with hj; subst hj; exact ho m
    · rw [upd_ne _ _ hjk] at hj
      have hs : (st.objs j).isSome := by rw [hj]; rfl
      exact m.obj (upd_ne _ _ hjk) (upd_ne _ _ hjk) (hw.block _ (h.lt j hs) (h.inj j k hs hks hjk)) (h.objs j oj hj)
  · rw [put_objs]; intro j j' hj hj' hne'
    by_cases h1 : j = k
    · subst h1
      have h2 : j' ≠ j := Ne.symm hne'
      show upd E.bl j b j ≠ upd E.bl j b j'
      rw [upd_same, upd_ne _ _ h2]
      have h3 := h.lt j' (aux j' hj')
      rcases hb with hb | ⟨hb, _⟩
      · rw [hb]; exact h.inj j j' hks (aux j' hj') hne'
      · omega
    · by_cases h2 : j' = k
      · subst h2
        show upd E.bl j' b j ≠ upd E.bl j' b j'
        rw [upd_same, upd_ne _ _ h1]
        have h3 := h.lt j (aux j hj)
        rcases hb with hb | ⟨hb, _⟩
        · rw [hb]; exact h.inj j j' (aux j hj) hks hne'
        · omega
      · show upd E.bl k b j ≠ upd E.bl k b j'
        rw [upd_ne _ _ h1, upd_ne _ _ h2]; exact h.inj j j' (aux j hj) (aux j' hj') hne'
  · rw [put_objs]; intro j hj
    by_cases hjk : j = k
    · subst hjk; show ¬ I (upd E.bl j b j); rw [upd_same]
      rcases hb with hb | ⟨hb, _⟩
      · rw [hb]; exact himm
      · exact fun hI => by have := h.Ilt b hI; omega
    · show ¬ I (upd E.bl k b j); rw [upd_ne _ _ hjk]; exact h.imm j (aux j hj)
  · rw [put_objs]; intro j hj
    by_cases hjk : j = k
    · subst hjk; show upd E.bl j b j < _; rw [upd_same]; omega
    · show upd E.bl k b j < _; rw [upd_ne _ _ hjk]; have := h.lt j (aux j hj); omega
  · rw [put_objs]; intro j hj
    by_cases hjk : j = k
    · subst hjk; show upd E.bl j b j ∈ bl0 ∨ _ ≤ upd E.bl j b j; rw [upd_same]
      rcases hb with hb | ⟨hb, _⟩
      · rw [hb]; exact h.own j hks
      · exact .inr (by omega)
    · show upd E.bl k b j ∈ bl0 ∨ _ ≤ upd E.bl k b j; rw [upd_ne _ _ hjk]; exact h.own j (aux j hj)
  · refine h.fr.trans hw (fun _ _ h => h) (fun x hx hn e => ?_)
    rcases h.own k hks with h1 | h1
    · exact hn (e ▸ h1)
    · omega
  · rw [put_objs]; intro j el sz g n get hj
    by_cases hjk : j = k
    · subst hjk
      rw [upd_same] at hj; injection hj with hj; subst hj
      show _ ≤ upd E.bl j b j ∧ _; rw [upd_same]
      cases o with
      | cells cs => obtain ⟨⟨cs', e⟩, _⟩ := hE; cases e
      | arr el2 sz2 g2 n2 get2 =>
        have := h.arr j el2 sz2 g2 n2 get2 hk
        rcases hb with hb | ⟨hb, _⟩ <;> omega
    · show _ ≤ upd E.bl k b j ∧ _; rw [upd_ne _ _ hjk]; rw [upd_ne _ _ hjk] at hj; exact h.arr j el sz g n get hj
  · rw [put_objs]; intro j hj
    show upd E.bl k b (pbase + j) = _
    by_cases hjk : pbase + j = k
    · subst hjk
      rw [upd_same]
      have hp := h.par j hks
      cases o with
      | cells cs => obtain ⟨_, e⟩ := hE; rw [e]; exact hp
      | arr el2 sz2 g2 n2 get2 => have := (h.arr _ _ _ _ _ _ hk).2; omega
    · rw [upd_ne _ _ hjk]; rw [upd_ne _ _ hjk] at hj; exact h.par j hj
end
end Go.Rx
