/- No condition. -/
import Derived.Test.YtobeamaaifgllaaRxA
namespace Go.Rx
open Go Go.RowKit
inductive LRi (I : Nat → Prop) (w : World) : Lf → Value → Prop
 | val (v : Value) : v.oneCell' = true → LRi I w (.val v) v
 | view (sz n : Nat) (get : Nat → List Lf) (base : Option Addr) (cap : Nat) (vv : Nat → Nat → Value) :
   n ≤ cap → (∀ i, i < n → (get i).length = sz) →
   (n = 0 ∨ ∃ b o, base = some ⟨b, o, none⟩ ∧ I b ∧ ∀ i, i < n → ∀ j, j < sz → w.cell? ⟨b, o + (i * sz + j), none⟩ = some (vv i j)) →
   (∀ i, i < n → ∀ j, j < sz → LRi I w ((get i).getD j default) (vv i j)) →
   LRi I w (.view sz n get) (.slice base n cap)
structure Env where
 bl : Nat → Nat
 hv : Nat → Value
def noEnv : Env := ⟨fun _ => 0, fun _ => undef⟩
def Ob.var : Ob → Bool
 | .cells _ | .tcells .. => true
 | _ => false
inductive LR (objs : Nat → Option Ob) (E : Env) (I : Nat → Prop) (w : World) : Lf → Value → Prop
 | imm (l : Lf) (v : Value) : LRi I w l v → LR objs E I w l v
 | ptr (k off : Nat) (o : Ob) : objs k = some o → o.var = true → LR objs E I w (.ptr k off) (.pointer (some ⟨E.bl k, off, none⟩))
 | eptr (cs : List Lf) (off b o : Nat) (vv : Nat → Value) : I b →
   (∀ j, j < cs.length → w.cell? ⟨b, o + j, none⟩ = some (vv j)) → (∀ j, j < cs.length → LRi I w (cs.getD j default) (vv j)) →
   LR objs E I w (.eptr cs off) (.pointer (some ⟨b, o + off, none⟩))
 | aptr (k g i off el sz g' n : Nat) (get : Nat → List Lf) (b o : Nat) : objs k = some (.arr el sz g' n get) → g ≤ g' →
   (g = g' → i < n → b = E.bl k ∧ o = i * sz + off) → LR objs E I w (.aptr k g i off) (.pointer (some ⟨b, o, none⟩))
 | osl (k g off n el sz g' m : Nat) (get : Nat → List Lf) (base : Option Addr) (cap' : Nat) : objs k = some (.arr el sz g' m get) → g ≤ g' →
   (g = g' → off + n ≤ m → (E.hv k = .slice none 0 0 ∧ m = 0 ∧ base = none ∧ cap' = 0) ∨
    ∃ o cap, E.hv k = .slice (some ⟨E.bl k, 0, none⟩) m cap ∧ base = some ⟨E.bl k, o, none⟩ ∧ (n = 0 ∨ o = off * sz) ∧ n ≤ cap' ∧ (off = 0 → cap' = cap ∧ o = 0)) →
   LR objs E I w (.osl k g off n) (.slice base n cap')
 | csl (k sz off n cap : Nat) (o : Ob) : objs k = some o → o.var = true → n ≤ cap → LR objs E I w (.csl k sz off n) (.slice (some ⟨E.bl k, off, none⟩) n cap)
 | mp (k : Nat) (es : List (PV × PV)) : objs k = some (.map es) → LR objs E I w (.mp k) (.map (some (E.bl k)))
 | fn (f : FuncId) (caps : List Lf) (C : Array Value) : C.size = caps.length → (∀ j, j < caps.length → LR objs E I w (caps.getD j default) (C.getD j undef)) →
   LR objs E I w (.fn f caps) (.func (.func f) #[] C)
inductive VR (objs : Nat → Option Ob) (E : Env) (I : Nat → Prop) (w : World) : PV → Value → Prop
 | none (v : Value) : VR objs E I w .none v
 | one (l : Lf) (v : Value) : LR objs E I w l v → VR objs E I w (.one l) v
 | agg (cs : List Lf) (C : Array Value) : C.size = cs.length → (∀ j, j < cs.length → LR objs E I w (cs.getD j default) (C.getD j undef)) → VR objs E I w (.agg cs) (.agg C)
 | tup (vs : List PV) (C : Array Value) : C.size = vs.length → (∀ j, j < vs.length → VR objs E I w (vs.getD j .none) (C.getD j undef)) → VR objs E I w (.tup vs) (.tuple C)
def rowW (w : World) (el sz : Nat) (v : Value) (n : Nat) (xs : List Value) : Prop :=
 xs.length = n * sz ∧
 ((v = .slice none 0 0 ∧ n = 0) ∨
  ∃ g cap cur t fz, v = .slice (some ⟨g, 0, none⟩) n cap ∧ w.heap[g]? = some (.cells cur t fz) ∧ n ≤ cap ∧ n * sz ≤ cur.size ∧ (n * sz ≤ fz.1 ∨ fz.2 = 0) ∧ cur.toList.take (n * sz) = xs ∧
   (el < fixM → t = el ∧ fz = (0, 0) ∧ cap ≤ maxLen ∧ cur.size = cap * sz))
theorem rowW_of {w : World} {el sz : Nat} {v : Value} {n : Nat} {xs : List Value} (h : w.ownsRow 0 el sz v n xs) : rowW w el sz v n xs := by
 refine ⟨h.1, ?_⟩
 rcases h.2 with h | ⟨g, cap, cur, h1, _, h3, h4, h5, h6, h7⟩
 ·exact .inl h
 ·exact .inr ⟨g, cap, cur, el, (0, 0), h1, h3, h4, by rw [h6]; exact Nat.mul_le_mul_right _ h4, .inr rfl, h7, fun _ => ⟨rfl, rfl, h5, h6⟩⟩
theorem rowW.own {w : World} {el sz : Nat} {v : Value} {n : Nat} {xs : List Value} (h : rowW w el sz v n xs) (hel : el < fixM) : w.ownsRow 0 el sz v n xs := by
 refine ⟨h.1, ?_⟩
 rcases h.2 with h | ⟨g, cap, cur, t, fz, h1, h3, h4, _, _, h7, h8⟩
 ·exact .inl h
 ·obtain ⟨rfl, rfl, h5, h6⟩ := h8 hel
  exact .inr ⟨g, cap, cur, h1, Nat.zero_le _, h3, h4, h5, h6, h7⟩
def ObjR (objs : Nat → Option Ob) (E : Env) (I : Nat → Prop) (w : World) (k : Nat) : Ob → Prop
 | .cells cs => ∃ C t, w.heap[E.bl k]? = some (.cells C t (0, 0)) ∧ C.size = cs.length ∧ ∀ j, j < cs.length → LR objs E I w (cs.getD j default) (C.getD j undef)
 | .tcells t cs => ∃ C, w.heap[E.bl k]? = some (.cells C t (0, 0)) ∧ C.size = cs.length ∧ ∀ j, j < cs.length → LR objs E I w (cs.getD j default) (C.getD j undef)
 | .arr el sz _ n get => ∃ xs, rowW w el sz (E.hv k) n xs ∧ (E.hv k = .slice none 0 0 ∨ ∃ cap, E.hv k = .slice (some ⟨E.bl k, 0, none⟩) n cap) ∧ 0 < sz ∧
   ∀ i, i < n → (get i).length = sz ∧ ∀ j, j < sz → LRi I w ((get i).getD j default) (xs.getD (i * sz + j) undef)
 | .map es => ∃ (ents : Array MapEntry) (clock : Nat), w.heap[E.bl k]? = some (.map ents clock) ∧ ents.size = es.length ∧
   ∀ i (hi : i < ents.size), VR (fun _ => none) noEnv I w (es.getD i (.none, .none)).1 ents[i].key ∧ VR (fun _ => none) noEnv I w (es.getD i (.none, .none)).2 ents[i].val
structure Wst (T : Nat → Prop) (w w' : World) : Prop where
 os : w'.os = w.os
 tape : w'.tape = w.tape
 output : w'.output = w.output
 size : w.heap.size ≤ w'.heap.size
 block : ∀ b, b < w.heap.size → ¬ T b → w'.heap[b]? = w.heap[b]?
theorem Wst.refl (T : Nat → Prop) (w : World) : Wst T w w := ⟨rfl, rfl, rfl, Nat.le_refl _, fun _ _ _ => rfl⟩
theorem Wst.trans {T T' T'' : Nat → Prop} {a b c : World} (h : Wst T a b) (k : Wst T' b c) (h1 : ∀ x, x < a.heap.size → ¬ T'' x → ¬ T x) (h2 : ∀ x, x < a.heap.size → ¬ T'' x → ¬ T' x) : Wst T'' a c :=
 ⟨k.os.trans h.os, k.tape.trans h.tape, k.output.trans h.output, Nat.le_trans h.size k.size, fun i hi hn => (k.block i (Nat.lt_of_lt_of_le hi h.size) (h2 i hi hn)).trans (h.block i hi (h1 i hi hn))⟩
theorem Wst.alloc (T : Nat → Prop) (w : World) (o : Obj) : Wst T w (w.alloc o) := ⟨rfl, rfl, rfl, by simp, fun k hk _ => Below.heap_alloc _ _ _ hk⟩
theorem Wst.drawn (T : Nat → Prop) (w : World) (n : Nat) : Wst T w { w with drawn := n } := ⟨rfl, rfl, rfl, Nat.le_refl _, fun _ _ _ => rfl⟩
theorem Wst.grown {w w' : World} {row : Option Nat} (h : w.grownBy w' row) : Wst (fun b => some b = row) w w' := ⟨h.os, h.tape, h.output, h.size, fun b hb hn => h.block b hb hn⟩
theorem Wst.mono {T T' : Nat → Prop} {w w' : World} (h : Wst T w w') (hT : ∀ x, T x → T' x) : Wst T' w w' := ⟨h.os, h.tape, h.output, h.size, fun b hb hn => h.block b hb (fun t => hn (hT b t))⟩
theorem Wst.below {w w' : World} (h : Wst (fun _ => False) w w') : Below w.heap.size w w' := ⟨h.os, h.tape, h.output, h.size, fun k hk => h.block k hk id⟩
theorem LRi.one {I : Nat → Prop} {w : World} {l : Lf} {v : Value} (h : LRi I w l v) : v.oneCell' = true := by cases h <;> first | assumption | rfl
theorem LR.one {objs : Nat → Option Ob} {E : Env} {I : Nat → Prop} {w : World} {l : Lf} {v : Value} (h : LR objs E I w l v) : v.oneCell' = true := by
 cases h with
 | imm _ _ h => exact h.one
 | ptr => rfl
 | eptr => rfl
 | aptr => rfl
 | osl => rfl
 | csl => rfl
 | mp => rfl
 | fn => rfl
theorem LRi.mono {I I' : Nat → Prop} {w w' : World} (h1 : ∀ b, I b → I' b) (h2 : ∀ b, I b → w'.heap[b]? = w.heap[b]?) {l : Lf} {v : Value} (h : LRi I w l v) : LRi I' w' l v := by
 induction h with
 | val v h => exact .val v h
 | view sz n get base cap vv hc hl hb he ih =>
  refine .view sz n get base cap vv hc hl ?_ ih
  rcases hb with hb | ⟨b, o, e, hI, hcell⟩
  ·exact .inl hb
  ·exact .inr ⟨b, o, e, h1 b hI, fun i hi j hj => (World.cell?_of_block (w := w) (w' := w') (a := ⟨b, o + (i * sz + j), none⟩) (h2 b hI)).trans (hcell i hi j hj)⟩
def ExtO (E E' : Env) (k : Nat) : Ob → Ob → Prop
 | .cells _, o' => (∃ cs', o' = .cells cs') ∧ E'.bl k = E.bl k
 | .tcells t _, o' => (∃ cs', o' = .tcells t cs') ∧ E'.bl k = E.bl k
 | .arr el sz g n _, o' => ∃ g' n' get', o' = .arr el sz g' n' get' ∧ g ≤ g' ∧ (g = g' → n' = n ∧ E'.hv k = E.hv k ∧ E'.bl k = E.bl k)
 | .map _, o' => (∃ es', o' = .map es') ∧ E'.bl k = E.bl k
theorem ExtO.refl (E : Env) (k : Nat) (o : Ob) : ExtO E E k o o := by
 cases o with
 | cells cs => exact ⟨⟨cs, rfl⟩, rfl⟩
 | tcells t cs => exact ⟨⟨cs, rfl⟩, rfl⟩
 | arr el sz g n get => exact ⟨g, n, get, rfl, Nat.le_refl _, fun _ => ⟨rfl, rfl, rfl⟩⟩
 | map es => exact ⟨⟨es, rfl⟩, rfl⟩
theorem ExtO.of_eq {E E' : Env} {k : Nat} (hb : E'.bl k = E.bl k) (hh : E'.hv k = E.hv k) (o : Ob) : ExtO E E' k o o := by
 cases o with
 | cells cs => exact ⟨⟨cs, rfl⟩, hb⟩
 | tcells t cs => exact ⟨⟨cs, rfl⟩, hb⟩
 | arr el sz g n get => exact ⟨g, n, get, rfl, Nat.le_refl _, fun _ => ⟨rfl, hh, hb⟩⟩
 | map es => exact ⟨⟨es, rfl⟩, hb⟩
theorem ExtO.trans {E E' E'' : Env} {k : Nat} {a b c : Ob} (h : ExtO E E' k a b) (h' : ExtO E' E'' k b c) : ExtO E E'' k a c := by
 cases a with
 | cells cs =>
  obtain ⟨⟨cs', rfl⟩, e⟩ := h
  obtain ⟨⟨cs2, rfl⟩, e'⟩ := h'
  exact ⟨⟨cs2, rfl⟩, e'.trans e⟩
 | tcells t cs =>
  obtain ⟨⟨cs', rfl⟩, e⟩ := h
  obtain ⟨⟨cs2, rfl⟩, e'⟩ := h'
  exact ⟨⟨cs2, rfl⟩, e'.trans e⟩
 | arr el sz g n get =>
  obtain ⟨g1, n1, get1, rfl, hle, he⟩ := h
  obtain ⟨g2, n2, get2, rfl, hle', he'⟩ := h'
  refine ⟨g2, n2, get2, rfl, Nat.le_trans hle hle', fun e => ?_⟩
  obtain ⟨a1, a2, a3⟩ := he (by omega)
  obtain ⟨b1, b2, b3⟩ := he' (by omega)
  exact ⟨b1.trans a1, b2.trans a2, b3.trans a3⟩
 | map es =>
  obtain ⟨⟨cs', rfl⟩, e⟩ := h
  obtain ⟨⟨cs2, rfl⟩, e'⟩ := h'
  exact ⟨⟨cs2, rfl⟩, e'.trans e⟩
theorem ExtO.var {E E' : Env} {k : Nat} {o o' : Ob} (h : ExtO E E' k o o') (hv : o.var = true) : o'.var = true ∧ E'.bl k = E.bl k := by
 cases o with
 | cells cs => obtain ⟨⟨cs', rfl⟩, e⟩ := h; exact ⟨rfl, e⟩
 | tcells t cs => obtain ⟨⟨cs', rfl⟩, e⟩ := h; exact ⟨rfl, e⟩
 | arr => cases hv
 | map => cases hv
def Ext (objs : Nat → Option Ob) (E : Env) (objs' : Nat → Option Ob) (E' : Env) : Prop :=
 ∀ k o, objs k = some o → ∃ o', objs' k = some o' ∧ ExtO E E' k o o'
theorem Ext.refl (objs : Nat → Option Ob) (E : Env) : Ext objs E objs E := fun k o h => ⟨o, h, ExtO.refl E k o⟩
structure Move (objs : Nat → Option Ob) (E : Env) (I : Nat → Prop) (w : World) (objs' : Nat → Option Ob) (E' : Env) (I' : Nat → Prop) (w' : World) : Prop where
 ext : Ext objs E objs' E'
 sub : ∀ b, I b → I' b
 same : ∀ b, I b → w'.heap[b]? = w.heap[b]?
section
variable {objs objs' : Nat → Option Ob} {E E' : Env} {I I' : Nat → Prop} {w w' : World}
theorem Move.lri (m : Move objs E I w objs' E' I' w') {l : Lf} {v : Value} (h : LRi I w l v) : LRi I' w' l v := h.mono m.sub m.same
theorem Move.lr (m : Move objs E I w objs' E' I' w') {l : Lf} {v : Value} (h : LR objs E I w l v) : LR objs' E' I' w' l v := by
 induction h with
 | imm l v h => exact .imm l v (m.lri h)
 | ptr k off o h hv =>
  obtain ⟨o', h', hx⟩ := m.ext k _ h
  obtain ⟨h2, e⟩ := hx.var hv
  rw [← e]; exact .ptr k off o' h' h2
 | eptr cs off b o vv hI hc hl =>
  exact .eptr cs off b o vv (m.sub b hI) (fun j hj => (World.cell?_of_block (w := w) (w' := w') (a := ⟨b, o + j, none⟩) (m.same b hI)).trans (hc j hj)) (fun j hj => m.lri (hl j hj))
 | aptr k g i off el sz g' n get b o h hg hv =>
  obtain ⟨_, h', g2, n2, get2, rfl, hle, he⟩ := m.ext k _ h
  refine .aptr k g i off el sz g2 n2 get2 b o h' (Nat.le_trans hg hle) (fun e hi => ?_)
  obtain ⟨e1, _, e3⟩ := he (by omega)
  rw [e3]; exact hv (by omega) (by omega)
 | osl k g off n el sz g' M get base cap' h hg hv =>
  obtain ⟨_, h', g2, n2, get2, rfl, hle, he⟩ := m.ext k _ h
  refine .osl k g off n el sz g2 n2 get2 base cap' h' (Nat.le_trans hg hle) (fun e hi => ?_)
  obtain ⟨e1, e2, e3⟩ := he (by omega)
  subst e1
  rw [e2, e3]; exact hv (by omega) (by omega)
 | csl k sz off n cap o h hv hc =>
  obtain ⟨o', h', hx⟩ := m.ext k _ h
  obtain ⟨h2, e⟩ := hx.var hv
  rw [← e]; exact .csl k sz off n cap o' h' h2 hc
 | mp k es h =>
  obtain ⟨_, h', ⟨es', rfl⟩, e⟩ := m.ext k _ h
  rw [← e]; exact .mp k es' h'
 | fn f caps C hC _ ih => exact .fn f caps C hC ih
theorem Move.bare (m : Move objs E I w objs' E' I' w') : Move (fun _ => none) noEnv I w (fun _ => none) noEnv I' w' := ⟨fun _ _ h => (by cases h), m.sub, m.same⟩
theorem Move.ofBare (objs : Nat → Option Ob) (E : Env) (I : Nat → Prop) (w : World) : Move (fun _ => none) noEnv I w objs E I w := ⟨fun _ _ h => (by cases h), fun _ h => h, fun _ _ => rfl⟩
theorem Move.vr (m : Move objs E I w objs' E' I' w') {p : PV} {v : Value} (h : VR objs E I w p v) : VR objs' E' I' w' p v := by
 induction h with
 | none v => exact .none v
 | one l v h => exact .one l v (m.lr h)
 | agg cs C hC h => exact .agg cs C hC (fun j hj => m.lr (h j hj))
 | tup vs C hC _ ih => exact .tup vs C hC ih
theorem Move.obj (m : Move objs E I w objs' E' I' w') {k : Nat} {o : Ob} (hb : E'.bl k = E.bl k) (hh : E'.hv k = E.hv k) (hw : (∀ el sz g n get, o = .arr el sz g n get → E.hv k ≠ .slice none 0 0) → w'.heap[E.bl k]? = w.heap[E.bl k]?) (h : ObjR objs E I w k o) : ObjR objs' E' I' w' k o := by
 cases o with
 | cells cs =>
  obtain ⟨C, t, h1, h2, h3⟩ := h
  exact ⟨C, t, by rw [hb, hw (fun _ _ _ _ _ e => by cases e)]; exact h1, h2, fun j hj => m.lr (h3 j hj)⟩
 | tcells t cs =>
  obtain ⟨C, h1, h2, h3⟩ := h
  exact ⟨C, by rw [hb, hw (fun _ _ _ _ _ e => by cases e)]; exact h1, h2, fun j hj => m.lr (h3 j hj)⟩
 | arr el sz g n get =>
  obtain ⟨xs, h2, h1, h4, h5⟩ := h
  refine ⟨xs, ?_, by rw [hb, hh]; exact h1, h4, fun i hi => ⟨(h5 i hi).1, fun j hj => m.lri ((h5 i hi).2 j hj)⟩⟩
  rw [hh]
  refine ⟨h2.1, ?_⟩
  rcases h2.2 with h | ⟨g', cap', cur, tr, fz, e, hc, rest⟩
  ·exact .inl h
  ·refine .inr ⟨g', cap', cur, tr, fz, e, ?_, rest⟩
   have hne : E.hv k ≠ .slice none 0 0 := by rw [e]; intro e; cases e
   rcases h1 with h1 | ⟨cap, h1⟩
   ·exact absurd h1 hne
   ·rw [h1] at e
    injection e with e _ _
    injection e with e
    injection e with e _ _
    rw [← e, hw (fun _ _ _ _ _ _ => hne), e]; exact hc
 | map es =>
  obtain ⟨ents, clock, h1, h2, h3⟩ := h
  exact ⟨ents, clock, by rw [hb, hw (fun _ _ _ _ _ e => by cases e)]; exact h1, h2, fun i hi => ⟨m.bare.vr (h3 i hi).1, m.bare.vr (h3 i hi).2⟩⟩
end
def Blk (objs : Nat → Option Ob) (E : Env) (k : Nat) : Prop :=
 ∃ o, objs k = some o ∧ ∀ el sz g n get, o = .arr el sz g n get → E.hv k ≠ .slice none 0 0
structure Heap (ob : Nat → Option Ob) (E : Env) (I : Nat → Prop) (w : World) : Prop where
 objs : ∀ k o, ob k = some o → ObjR ob E I w k o
 inj : ∀ k k', Blk ob E k → Blk ob E k' → k ≠ k' → E.bl k ≠ E.bl k'
 imm : ∀ k, Blk ob E k → ¬ I (E.bl k)
 lt : ∀ k, Blk ob E k → E.bl k < w.heap.size
 Ilt : ∀ b, I b → b < w.heap.size
def In0 (O0 : Nat → Option Ob) (E0 : Env) (b : Nat) : Prop := ∃ k, Blk O0 E0 k ∧ b = E0.bl k
structure Rel (w0 : World) (O0 : Nat → Option Ob) (E0 : Env) (I0 : Nat → Prop) (nt : Nat) (st : St) (E : Env) (I : Nat → Prop) (a : Act) (w : World) : Prop extends Heap st.objs E I w where
 defers : a.defers = []
 tsize : a.tmps.size = nt
 tmps : ∀ t, VR st.objs E I w (st.tmps t) (a.tmps.getD t undef)
 own : ∀ k, Blk st.objs E k → (Blk O0 E0 k ∧ E.bl k = E0.bl k) ∨ w0.heap.size ≤ E.bl k
 loc : ∀ k, k < pbase → Blk st.objs E k → w0.heap.size ≤ E.bl k
 Iup : ∀ b, I0 b → I b
 Inew : ∀ b, I b → I0 b ∨ w0.heap.size ≤ b
 fr : Wst (In0 O0 E0) w0 w
 ext : ∀ k, pbase ≤ k → ∀ o', st.objs k = some o' → ∃ o, O0 k = some o ∧ ExtO E0 E k o o'
 ntb : nt ≤ pbase
 young : ∀ k el sz g n get, O0 k = some (.arr el sz g n get) → g = 0
theorem ofVal_vr (objs : Nat → Option Ob) (E : Env) (I : Nat → Prop) (w : World) (v : Value) : VR objs E I w (PV.ofVal v) v := by
 cases v with
 | agg C =>
  simp only [PV.ofVal]
  split
  ·rename_i h
   refine .agg _ _ (by simp) (fun j hj => ?_)
   have hj' : j < C.size := by simpa using hj
   have e1 : (List.map Lf.val C.toList).getD j default = .val C[j] := by simp [List.getD, hj']
   have e2 : C.getD j undef = C[j] := by simp [Array.getD, hj']
   rw [e1, e2]
   exact .imm _ _ (.val _ (List.all_eq_true.1 h _ (by simp)))
  ·exact .none _
 | tuple vs => exact .none _
 | _ => exact .one _ _ (.imm _ _ (.val _ rfl))
section
variable {w0 : World} {O0 : Nat → Option Ob} {E0 : Env} {I0 : Nat → Prop} {nt : Nat} {st : St} {E : Env} {I : Nat → Prop} {a : Act} {w : World}
theorem Rel.ev (h : Rel w0 O0 E0 I0 nt st E I a w) (x : Operand) : VR st.objs E I w (st.ev x) (a.eval x) := by
 cases x with
 | tmp t => exact h.tmps t
 | const v => exact ofVal_vr _ _ _ _ v
 | global g => exact .none _
 | func f => exact .one _ _ (.imm _ _ (.val _ rfl))
theorem Blk.tcells {objs : Nat → Option Ob} {k : Nat} {t : TypeId} {cs : List Lf} (h : objs k = some (.tcells t cs)) : Blk objs E k := ⟨_, h, fun _ _ _ _ _ e => by cases e⟩
theorem Blk.cells {objs : Nat → Option Ob} {k : Nat} {cs : List Lf} (h : objs k = some (.cells cs)) : Blk objs E k := ⟨_, h, fun _ _ _ _ _ e => by cases e⟩
theorem Blk.map {objs : Nat → Option Ob} {k : Nat} {es : List (PV × PV)} (h : objs k = some (.map es)) : Blk objs E k := ⟨_, h, fun _ _ _ _ _ e => by cases e⟩
theorem Blk.arr {objs : Nat → Option Ob} {k el sz g n : Nat} {get : Nat → List Lf} (h : objs k = some (.arr el sz g n get)) (hn : E.hv k ≠ .slice none 0 0) : Blk objs E k := ⟨_, h, fun _ _ _ _ _ _ => hn⟩
theorem Blk.same {objs objs' : Nat → Option Ob} {E E' : Env} {k : Nat} (h : Blk objs E k) (ho : objs' k = objs k) (hh : E'.hv k = E.hv k) : Blk objs' E' k := by
 obtain ⟨o, h1, h2⟩ := h
 exact ⟨o, ho.trans h1, fun el sz g n get e => by rw [hh]; exact h2 el sz g n get e⟩
theorem put_tmps {objs' : Nat → Option Ob} {E' : Env} {I' : Nat → Prop} {w' : World} (hs : a.tmps.size = nt) (d : Option Nat) (hd : ∀ x, d = some x → x < nt) (v : PV) (val : Value)
  (ht : ∀ t, VR objs' E' I' w' (st.tmps t) (a.tmps.getD t undef)) (hv : VR objs' E' I' w' v val) :
  ∀ t, VR objs' E' I' w' ((({ st with objs := objs' } : St).put d v).tmps t) ((a.put d val).tmps.getD t undef) := by
 intro t
 cases d with
 | none => exact ht t
 | some d =>
  simp only [St.put, upd, Act.put]
  by_cases h : t = d
  ·subst h
   have := hd t rfl
   simp only [if_true]
   have e : (a.tmps.setIfInBounds t val).getD t undef = val := by simp [Array.getD, hs, this]
   rw [e]; exact hv
  ·rw [if_neg h]
   have e : (a.tmps.setIfInBounds d val).getD t undef = a.tmps.getD t undef := by
    simp [Array.getElem?_setIfInBounds_ne (Ne.symm h)]
   rw [e]; exact ht t
theorem put_objs (objs' : Nat → Option Ob) (d : Option Nat) (v : PV) : (({ st with objs := objs' } : St).put d v).objs = objs' := by cases d <;> rfl
theorem Rel.go (h : Rel w0 O0 E0 I0 nt st E I a w) {objs' : Nat → Option Ob} {E' : Env} {I' : Nat → Prop} {w' : World} (hp : Heap objs' E' I' w') (m : Move st.objs E I w objs' E' I' w')
  (hI : ∀ b, I' b → I b ∨ w0.heap.size ≤ b) (hfr : Wst (In0 O0 E0) w0 w')
  (hown : ∀ k, Blk objs' E' k → (Blk O0 E0 k ∧ E'.bl k = E0.bl k) ∨ w0.heap.size ≤ E'.bl k) (hloc : ∀ k, k < pbase → Blk objs' E' k → w0.heap.size ≤ E'.bl k)
  (hext : ∀ k, pbase ≤ k → ∀ o', objs' k = some o' → ∃ o, st.objs k = some o)
  (d : Option Nat) (hd : ∀ x, d = some x → x < nt) (v : PV) (val : Value) (hv : VR objs' E' I' w' v val) :
  Rel w0 O0 E0 I0 nt (({ st with objs := objs' } : St).put d v) E' I' (a.put d val) w' := by
 have e : (({ st with objs := objs' } : St).put d v).objs = objs' := put_objs _ _ _
 refine { toHeap := by rw [e]; exact hp, defers := by cases d <;> exact h.defers, tsize := by cases d <;> simp [Act.put, h.tsize], tmps := ?_, own := by rw [e]; exact hown, loc := by rw [e]; exact hloc, Iup := fun b hb => m.sub b (h.Iup b hb), Inew := ?_, fr := hfr, ext := ?_, ntb := h.ntb, young := h.young }
 ·rw [e]; exact put_tmps (st := st) h.tsize d hd v val (fun t => m.vr (h.tmps t)) hv
 ·intro b hb
  rcases hI b hb with hb | hb
  ·exact h.Inew b hb
  ·exact .inr hb
 ·rw [e]
  intro k hk o' ho'
  obtain ⟨o1, ho1⟩ := hext k hk o' ho'
  obtain ⟨o, h1, h2⟩ := h.ext k hk o1 ho1
  obtain ⟨o2, h3, h4⟩ := m.ext k o1 ho1
  rw [ho'] at h3; injection h3 with h3; subst h3
  exact ⟨o, h1, h2.trans h4⟩
theorem Rel.step (h : Rel w0 O0 E0 I0 nt st E I a w) {w' : World} (hw : Wst (fun _ => False) w w') (d : Option Nat) (hd : ∀ x, d = some x → x < nt) (v : PV) (val : Value)
  (hv : VR st.objs E I w' v val) : Rel w0 O0 E0 I0 nt (st.put d v) E I (a.put d val) w' := by
 have m : Move st.objs E I w st.objs E I w' := ⟨Ext.refl _ _, fun _ h => h, fun b hb => hw.block b (h.Ilt b hb) id⟩
 refine h.go ⟨fun k o hk => m.obj rfl rfl (fun hb => hw.block _ (h.lt k ⟨o, hk, hb⟩) id) (h.objs k o hk), h.inj, h.imm, fun k hk => Nat.lt_of_lt_of_le (h.lt k hk) hw.size, fun b hb => Nat.lt_of_lt_of_le (h.Ilt b hb) hw.size⟩ m (fun b hb => .inl hb) (h.fr.trans hw (fun _ _ h => h) (fun _ _ _ => id)) h.own h.loc (fun k _ o' ho' => ⟨o', ho'⟩) d hd v val hv
theorem Rel.grow (h : Rel w0 O0 E0 I0 nt st E I a w) {w' : World} (hw : Wst (fun _ => False) w w') {I' : Nat → Prop} (h1 : ∀ b, I b → I' b) (h2 : ∀ b, I' b → I b ∨ (w.heap.size ≤ b ∧ b < w'.heap.size)) (d : Option Nat) (hd : ∀ x, d = some x → x < nt) (v : PV) (val : Value)
  (hv : VR st.objs E I' w' v val) : Rel w0 O0 E0 I0 nt (({ st with objs := st.objs } : St).put d v) E I' (a.put d val) w' := by
 have m : Move st.objs E I w st.objs E I' w' := ⟨Ext.refl _ _, h1, fun b hb => hw.block b (h.Ilt b hb) id⟩
 have hfr := h.fr.size
 refine h.go ⟨fun k o hk => m.obj rfl rfl (fun hb => hw.block _ (h.lt k ⟨o, hk, hb⟩) id) (h.objs k o hk), h.inj, fun k hk hI => ?_, fun k hk => Nat.lt_of_lt_of_le (h.lt k hk) hw.size, fun b hb => ?_⟩ m (fun b hb => ?_) (h.fr.trans hw (fun _ _ h => h) (fun _ _ _ => id)) h.own h.loc (fun k _ o' ho' => ⟨o', ho'⟩) d hd v val hv
 ·rcases h2 _ hI with hI | hI
  ·exact h.imm k hk hI
  ·have := h.lt k hk; omega
 ·rcases h2 _ hb with hb | hb
  ·exact Nat.lt_of_lt_of_le (h.Ilt b hb) hw.size
  ·exact hb.2
 ·rcases h2 _ hb with hb | hb
  ·exact .inl hb
  ·exact .inr (by omega)
theorem upd_same {α : Type} (f : Nat → α) (k : Nat) (v : α) : upd f k v k = v := by simp [upd]
theorem upd_ne {α : Type} (f : Nat → α) {k j : Nat} (v : α) (h : j ≠ k) : upd f k v j = f j := by simp [upd, h]
theorem Blk.of_upd {objs : Nat → Option Ob} {k j : Nat} {o : Option Ob} {b : Nat} {hv : Value} (hj : Blk (upd objs k o) ⟨upd E.bl k b, upd E.hv k hv⟩ j) (hjk : j ≠ k) : Blk objs E j :=
 hj.same (upd_ne _ _ hjk).symm (upd_ne _ _ hjk).symm
theorem Heap.fresh {objs : Nat → Option Ob} (h : Heap objs E I w) {w' : World} (hw : Wst (fun _ => False) w w') (k : Nat) (hk : objs k = none) (o : Ob) (b : Nat) (hv : Value)
  (hb : (∀ el sz g n get, o = .arr el sz g n get → hv ≠ .slice none 0 0) → w.heap.size ≤ b ∧ b < w'.heap.size)
  (ho : Move objs E I w (upd objs k (some o)) ⟨upd E.bl k b, upd E.hv k hv⟩ I w' → ObjR (upd objs k (some o)) ⟨upd E.bl k b, upd E.hv k hv⟩ I w' k o) :
  Heap (upd objs k (some o)) ⟨upd E.bl k b, upd E.hv k hv⟩ I w' ∧ Move objs E I w (upd objs k (some o)) ⟨upd E.bl k b, upd E.hv k hv⟩ I w' := by
 have hne : ∀ j oj, objs j = some oj → j ≠ k := fun j oj hj e => by rw [e, hk] at hj; cases hj
 have m : Move objs E I w (upd objs k (some o)) ⟨upd E.bl k b, upd E.hv k hv⟩ I w' := by
  refine ⟨?_, fun _ h => h, fun b hb => hw.block b (h.Ilt b hb) id⟩
  intro j oj hj
  have hjk := hne j oj hj
  exact ⟨oj, by rw [upd_ne _ _ hjk]; exact hj, ExtO.of_eq (upd_ne _ _ hjk) (upd_ne _ _ hjk) oj⟩
 have hbk : Blk (upd objs k (some o)) ⟨upd E.bl k b, upd E.hv k hv⟩ k → w.heap.size ≤ b ∧ b < w'.heap.size := by
  rintro ⟨o1, h1, h2⟩
  rw [upd_same] at h1; injection h1 with h1; subst h1
  refine hb (fun el sz g n get e => ?_)
  have := h2 el sz g n get e
  simpa [upd_same] using this
 refine ⟨⟨?_, ?_, ?_, ?_, fun b hb => Nat.lt_of_lt_of_le (h.Ilt b hb) hw.size⟩, m⟩
 ·intro j oj hj
  by_cases hjk : j = k
  ·subst hjk; rw [upd_same] at hj; injection hj with hj; subst hj; exact ho m
  ·rw [upd_ne _ _ hjk] at hj
   exact m.obj (upd_ne _ _ hjk) (upd_ne _ _ hjk) (fun hh => hw.block _ (h.lt j ⟨oj, hj, hh⟩) id) (h.objs j oj hj)
 ·intro j j' hj hj' hne'
  by_cases h1 : j = k
  ·subst h1
   have h2 : j' ≠ j := Ne.symm hne'
   show upd E.bl j b j ≠ upd E.bl j b j'
   rw [upd_same, upd_ne _ _ h2]
   have := h.lt j' (hj'.of_upd h2); have := hbk hj; omega
  ·by_cases h2 : j' = k
   ·subst h2
    show upd E.bl j' b j ≠ upd E.bl j' b j'
    rw [upd_same, upd_ne _ _ h1]
    have := h.lt j (hj.of_upd h1); have := hbk hj'; omega
   ·show upd E.bl k b j ≠ upd E.bl k b j'
    rw [upd_ne _ _ h1, upd_ne _ _ h2]; exact h.inj j j' (hj.of_upd h1) (hj'.of_upd h2) hne'
 ·intro j hj
  by_cases hjk : j = k
  ·subst hjk; show ¬ I (upd E.bl j b j); rw [upd_same]; exact fun hI => by have := h.Ilt b hI; have := hbk hj; omega
  ·show ¬ I (upd E.bl k b j); rw [upd_ne _ _ hjk]; exact h.imm j (hj.of_upd hjk)
 ·intro j hj
  by_cases hjk : j = k
  ·subst hjk; show upd E.bl j b j < _; rw [upd_same]; exact (hbk hj).2
  ·show upd E.bl k b j < _; rw [upd_ne _ _ hjk]; exact Nat.lt_of_lt_of_le (h.lt j (hj.of_upd hjk)) hw.size
theorem Rel.fresh (h : Rel w0 O0 E0 I0 nt st E I a w) {w' : World} (hw : Wst (fun _ => False) w w') (k : Nat) (hkn : k < pbase) (hk : st.objs k = none) (o : Ob) (b : Nat) (hv : Value)
  (hb : (∀ el sz g n get, o = .arr el sz g n get → hv ≠ .slice none 0 0) → w.heap.size ≤ b ∧ b < w'.heap.size) (d : Option Nat) (hd : ∀ x, d = some x → x < nt) (v : PV) (val : Value)
  (ho : Move st.objs E I w (upd st.objs k (some o)) ⟨upd E.bl k b, upd E.hv k hv⟩ I w' → ObjR (upd st.objs k (some o)) ⟨upd E.bl k b, upd E.hv k hv⟩ I w' k o)
  (hval : Move st.objs E I w (upd st.objs k (some o)) ⟨upd E.bl k b, upd E.hv k hv⟩ I w' → VR (upd st.objs k (some o)) ⟨upd E.bl k b, upd E.hv k hv⟩ I w' v val) :
  Rel w0 O0 E0 I0 nt (({ st with objs := upd st.objs k (some o) } : St).put d v) ⟨upd E.bl k b, upd E.hv k hv⟩ I (a.put d val) w' := by
 obtain ⟨hp, m⟩ := h.toHeap.fresh hw k hk o b hv hb ho
 have hbk : Blk (upd st.objs k (some o)) ⟨upd E.bl k b, upd E.hv k hv⟩ k → w.heap.size ≤ b := by
  rintro ⟨o1, h1, h2⟩
  rw [upd_same] at h1; injection h1 with h1; subst h1
  refine (hb (fun el sz g n get e => ?_)).1
  have := h2 el sz g n get e
  simpa [upd_same] using this
 have hfr := h.fr.size
 refine h.go hp m (fun b hb => .inl hb) (h.fr.trans hw (fun _ _ h => h) (fun _ _ _ => id)) (fun j hj => ?_) (fun j hjp hj => ?_) (fun j hj o' ho' => ?_) d hd v val (hval m)
 ·by_cases hjk : j = k
  ·subst hjk; show (_ ∧ upd E.bl j b j = _) ∨ _ ≤ upd E.bl j b j; rw [upd_same]; have := hbk hj; exact .inr (by omega)
  ·show (_ ∧ upd E.bl k b j = _) ∨ _ ≤ upd E.bl k b j; rw [upd_ne _ _ hjk]; exact h.own j (hj.of_upd hjk)
 ·by_cases hjk : j = k
  ·subst hjk; show _ ≤ upd E.bl j b j; rw [upd_same]; have := hbk hj; omega
  ·show _ ≤ upd E.bl k b j; rw [upd_ne _ _ hjk]; exact h.loc j hjp (hj.of_upd hjk)
 ·have hjk : j ≠ k := by omega
  rw [upd_ne _ _ hjk] at ho'; exact ⟨o', ho'⟩
theorem Rel.change (h : Rel w0 O0 E0 I0 nt st E I a w) {w' : World} (k : Nat) (o o' : Ob) (hk : st.objs k = some o) (hw : Wst (fun b => Blk st.objs E k ∧ b = E.bl k) w w') (b : Nat) (hv : Value)
  (hb : (∀ el sz g n get, o' = .arr el sz g n get → hv ≠ .slice none 0 0) → (Blk st.objs E k ∧ b = E.bl k) ∨ (w.heap.size ≤ b ∧ b < w'.heap.size)) (d : Option Nat) (hd : ∀ x, d = some x → x < nt) (v : PV) (val : Value)
  (hE : ExtO E ⟨upd E.bl k b, upd E.hv k hv⟩ k o o')
  (ho : Move st.objs E I w (upd st.objs k (some o')) ⟨upd E.bl k b, upd E.hv k hv⟩ I w' → ObjR (upd st.objs k (some o')) ⟨upd E.bl k b, upd E.hv k hv⟩ I w' k o')
  (hval : Move st.objs E I w (upd st.objs k (some o')) ⟨upd E.bl k b, upd E.hv k hv⟩ I w' → VR (upd st.objs k (some o')) ⟨upd E.bl k b, upd E.hv k hv⟩ I w' v val) :
  Rel w0 O0 E0 I0 nt (({ st with objs := upd st.objs k (some o') } : St).put d v) ⟨upd E.bl k b, upd E.hv k hv⟩ I (a.put d val) w' := by
 have m : Move st.objs E I w (upd st.objs k (some o')) ⟨upd E.bl k b, upd E.hv k hv⟩ I w' := by
  refine ⟨?_, fun _ h => h, fun b hb => hw.block b (h.Ilt b hb) (fun e => h.imm k e.1 (e.2 ▸ hb))⟩
  intro j oj hj
  by_cases hjk : j = k
  ·subst hjk
   rw [hk] at hj; injection hj with hj; subst hj
   exact ⟨o', upd_same _ _ _, hE⟩
  ·exact ⟨oj, by rw [upd_ne _ _ hjk]; exact hj, ExtO.of_eq (upd_ne _ _ hjk) (upd_ne _ _ hjk) oj⟩
 have hbk : Blk (upd st.objs k (some o')) ⟨upd E.bl k b, upd E.hv k hv⟩ k → (Blk st.objs E k ∧ b = E.bl k) ∨ (w.heap.size ≤ b ∧ b < w'.heap.size) := by
  rintro ⟨o1, h1, h2⟩
  rw [upd_same] at h1; injection h1 with h1; subst h1
  refine hb (fun el sz g n get e => ?_)
  have := h2 el sz g n get e
  simpa [upd_same] using this
 have hsz := hw.size
 have hfr := h.fr.size
 refine h.go ⟨?_, ?_, ?_, ?_, fun b hb => Nat.lt_of_lt_of_le (h.Ilt b hb) hw.size⟩ m (fun b hb => .inl hb) ?_ (fun j hj => ?_) (fun j hjp hj => ?_) (fun j hj o2 ho2 => ?_) d hd v val (hval m)
 ·intro j oj hj
  by_cases hjk : j = k
  ·subst hjk; rw [upd_same] at hj; injection hj with hj; subst hj; exact ho m
  ·rw [upd_ne _ _ hjk] at hj
   exact m.obj (upd_ne _ _ hjk) (upd_ne _ _ hjk) (fun hh => hw.block _ (h.lt j ⟨oj, hj, hh⟩) (fun e => h.inj j k ⟨oj, hj, hh⟩ e.1 hjk e.2)) (h.objs j oj hj)
 ·intro j j' hj hj' hne'
  by_cases h1 : j = k
  ·subst h1
   have h2 : j' ≠ j := Ne.symm hne'
   show upd E.bl j b j ≠ upd E.bl j b j'
   rw [upd_same, upd_ne _ _ h2]
   have h3 := h.lt j' (hj'.of_upd h2)
   rcases hbk hj with ⟨h4, hb⟩ | ⟨hb, _⟩
   ·rw [hb]; exact h.inj j j' h4 (hj'.of_upd h2) hne'
   ·omega
  ·by_cases h2 : j' = k
   ·subst h2
    show upd E.bl j' b j ≠ upd E.bl j' b j'
    rw [upd_same, upd_ne _ _ h1]
    have h3 := h.lt j (hj.of_upd h1)
    rcases hbk hj' with ⟨h4, hb⟩ | ⟨hb, _⟩
    ·rw [hb]; exact h.inj j j' (hj.of_upd h1) h4 hne'
    ·omega
   ·show upd E.bl k b j ≠ upd E.bl k b j'
    rw [upd_ne _ _ h1, upd_ne _ _ h2]; exact h.inj j j' (hj.of_upd h1) (hj'.of_upd h2) hne'
 ·intro j hj
  by_cases hjk : j = k
  ·subst hjk; show ¬ I (upd E.bl j b j); rw [upd_same]
   rcases hbk hj with ⟨h4, hb⟩ | ⟨hb, _⟩
   ·rw [hb]; exact h.imm j h4
   ·exact fun hI => by have := h.Ilt b hI; omega
  ·show ¬ I (upd E.bl k b j); rw [upd_ne _ _ hjk]; exact h.imm j (hj.of_upd hjk)
 ·intro j hj
  by_cases hjk : j = k
  ·subst hjk; show upd E.bl j b j < _; rw [upd_same]
   rcases hbk hj with ⟨h4, hb⟩ | ⟨hb, _⟩
   ·rw [hb]; have := h.lt j h4; omega
   ·omega
  ·show upd E.bl k b j < _; rw [upd_ne _ _ hjk]; have := h.lt j (hj.of_upd hjk); omega
 ·refine h.fr.trans hw (fun _ _ h => h) (fun x hx hn e => ?_)
  obtain ⟨h4, rfl⟩ := e
  rcases h.own k h4 with h1 | h1
  ·exact hn ⟨k, h1.1, h1.2⟩
  ·omega
 ·by_cases hjk : j = k
  ·subst hjk; show (_ ∧ upd E.bl j b j = _) ∨ _ ≤ upd E.bl j b j; rw [upd_same]
   rcases hbk hj with ⟨h4, hb⟩ | ⟨hb, _⟩
   ·rw [hb]; exact h.own j h4
   ·exact .inr (by omega)
  ·show (_ ∧ upd E.bl k b j = _) ∨ _ ≤ upd E.bl k b j; rw [upd_ne _ _ hjk]; exact h.own j (hj.of_upd hjk)
 ·by_cases hjk : j = k
  ·subst hjk; show _ ≤ upd E.bl j b j; rw [upd_same]
   rcases hbk hj with ⟨h4, hb⟩ | ⟨hb, _⟩
   ·rw [hb]; exact h.loc j hjp h4
   ·omega
  ·show _ ≤ upd E.bl k b j; rw [upd_ne _ _ hjk]; exact h.loc j hjp (hj.of_upd hjk)
 ·by_cases hjk : j = k
  ·subst hjk; exact ⟨o, hk⟩
  ·rw [upd_ne _ _ hjk] at ho2; exact ⟨o2, ho2⟩
end
end Go.Rx
