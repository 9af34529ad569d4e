/- No condition. -/
import Derived.Test.YtobeamaaifgllaaRxC
namespace Go.Rx
open Go Go.RowKit
theorem prun_bind {α β : Type} (P : Program) (x : Sem α) (f : α → Sem β) {a : α} (h : prun P x = some a) : prun P (x >>= f) = prun P (f a) := by
 show prun P (x.bind f) = _
 induction x with
 | pure b => simp only [prun, sj] at h; subst h; rfl
 | program k ih => simp only [prun] at h; simp only [Sem.bind, prun]; exact ih _ h
 | _ => simp [prun] at h
theorem prun_run {α : Type} {P : Program} {x : Sem α} {a : α} (h : prun P x = some a) (w : World) : x.run P w = .ok a w := by
 induction x with
 | pure b => simp only [prun, sj] at h; subst h; rfl
 | program k ih => simp only [prun] at h; simp only [Sem.run]; exact ih _ h
 | _ => simp [prun] at h
def OpOK (P : Program) (o : Oper) (a : Act) (w : World) (G : Value → World → Prop) : Prop :=
 ∀ (K : Act → World → Prop) (Q : Exit → Act → World → Prop), (∀ val w', G val w' → K (a.put o.dst val) w') → o.wp P a w K Q
theorem OpOK.value {P : Program} {o : Oper} {a : Act} {w w' : World} {G : Value → World → Prop} {val : Value} (h : (execOp a.eval o).run P w = .ok (.value val) w') (g : G val w') : OpOK P o a w G := by
 intro K Q hK
 unfold Oper.wp
 rw [h]
 exact hK _ _ g
theorem OpOK.skip {P : Program} {o : Oper} {a : Act} {w w' : World} {G : Value → World → Prop} (h : (execOp a.eval o).run P w = .ok .skip w') (g : G undef w') : OpOK P o a w G := by
 intro K Q hK
 unfold Oper.wp
 rw [h]
 exact hK _ _ g
theorem OpOK.mono {P : Program} {o : Oper} {a : Act} {w : World} {G G' : Value → World → Prop} (h : OpOK P o a w G) (hg : ∀ v w, G v w → G' v w) : OpOK P o a w G' :=
 fun K Q hK => h K Q (fun v w' g => hK v w' (hg v w' g))
def Meets (P : Program) (C : Oracle) : Prop :=
 ∀ f args os res os', C f args os = some (res, os') →
  (∃ fn, P.funcs[f]? = some fn ∧ fn.body.isNone = false ∧ (fn.name == "runtime.NumGoroutine") = false) ∧
  ∀ (I : Nat → Prop) (w : World) (E : Env) (vals : Array Value),
   Heap (objs0 os) E I w →
   (∀ t, VR (objs0 os) E I w (args.getD t .none) (vals.getD t undef)) → vals.size = args.length →
   Calls P f vals w fun e w' => ∃ v I' E', e = .returned v ∧ Heap (objs0 os') E' I' w' ∧ Ext (objs0 os) E (objs0 os') E' ∧ (∀ b, I b → I' b) ∧ (∀ b, I' b → I b ∨ w.heap.size ≤ b) ∧
    VR (objs0 os') E' I' w' res v ∧
    (∀ k, Blk (objs0 os') E' k → (Blk (objs0 os) E k ∧ E'.bl k = E.bl k) ∨ w.heap.size ≤ E'.bl k) ∧
    Wst (In0 (objs0 os) E) w w'
section
variable {P : Program} {C : Oracle} {w0 : World} {O0 : Nat → Option Ob} {E0 : Env} {I0 : Nat → Prop} {nt : Nat} {st : St} {E : Env} {I : Nat → Prop} {a : Act} {w : World}
def Left (w0 : World) (O0 : Nat → Option Ob) (E0 : Env) (I0 : Nat → Prop) (nt : Nat) (st : St) (o : Oper) (a : Act) (objs' : Nat → Option Ob) (v : PV) (val : Value) (w' : World) : Prop :=
 ∃ E' I', Rel w0 O0 E0 I0 nt (({ st with objs := objs' } : St).put o.dst v) E' I' (a.put o.dst val) w'
theorem ok_step (h : Rel w0 O0 E0 I0 nt st E I a w) {o : Oper} (hd : ∀ x, o.dst = some x → x < nt) {v : PV} {val : Value} {w' : World} (hrun : (execOp a.eval o).run P w = .ok (.value val) w')
  (hw : Wst (fun _ => False) w w') (hv : VR st.objs E I w' v val) : OpOK P o a w (Left w0 O0 E0 I0 nt st o a st.objs v) :=
 OpOK.value hrun ⟨E, I, h.step hw o.dst hd v val hv⟩
theorem toVals_vals : ∀ (ls : List Lf) (vs : List Value), Lf.toVals ls = some vs → ls = vs.map .val
 | [], vs, h => by simp only [Lf.toVals, sj] at h; subst h; rfl
 | l :: ls, vs, h => by
  simp only [Lf.toVals] at h
  split at h
  ·rename_i v vs' h1 h2
   simp only [sj] at h
   subst h
   cases l <;> simp [Lf.toVal] at h1
   subst h1
   rw [toVals_vals ls vs' h2]; rfl
  ·cases h
theorem LR.ofVal {v u : Value} (h : LR st.objs E I w (.val v) u) : u = v := by
 cases h with
 | imm _ _ h => cases h; rfl
theorem VR.toVal {p : PV} {v u : Value} (h : VR st.objs E I w p u) (hv : p.toVal = some v) : u = v := by
 cases h with
 | none => cases hv
 | one l v' h =>
  cases l <;> simp only [PV.toVal, Lf.toVal, sj] at hv <;> try (cases hv; done)
  subst hv
  exact LR.ofVal h
 | agg cs C hC h =>
  simp only [PV.toVal, mj] at hv
  obtain ⟨vs, h1, rfl⟩ := hv
  have := toVals_vals cs vs h1
  subst this
  congr 1
  apply Array.ext
  ·simpa using hC
  ·intro i h1 h2
   have hi : i < vs.length := by simpa using h2
   have := h i (by simpa using hi)
   have e : (vs.map Lf.val).getD i default = .val vs[i] := by simp [List.getD, hi]
   rw [e] at this
   have e2 := LR.ofVal this
   rw [Array.getD_eq_getD_getElem?, Array.getElem?_eq_getElem h1] at e2
   simpa using e2
 | tup => cases hv
theorem evs_vals (h : Rel w0 O0 E0 I0 nt st E I a w) : ∀ (xs : List Operand) (vs : List Value), PV.toVals (evs st xs) = some vs → xs.map a.eval = vs
 | [], vs, hv => by simp only [evs, List.map_nil, PV.toVals, sj] at hv; subst hv; rfl
 | x :: xs, vs, hv => by
  simp only [evs, List.map_cons, PV.toVals] at hv
  split at hv
  ·rename_i v vs' h1 h2
   simp only [sj] at hv
   subst hv
   rw [List.map_cons, (h.ev x).toVal h1, evs_vals h xs vs' h2]
  ·cases hv
theorem eqGuard_c (op : BinOp) (t : TypeId) (x y : Operand) (u v : Value) : eqGuardB op t (isC x) (isC y) u v = eqGuard op t x y u v := by
 unfold eqGuardB eqGuard
 cases x <;> cases y <;> cases u <;> cases v <;> rfl
theorem prim_ok (h : Rel w0 O0 E0 I0 nt st E I a w) {o : Oper} (hd : ∀ x, o.dst = some x → x < nt) {p : Prim} {xs : List Operand} {v : PV} {objs' : Nat → Option Ob}
  (hex : ∀ vs : List Value, xs.map a.eval = vs → prun P (p.sem vs) ≠ none → (execOp a.eval o).run P w = ((do pure (.value (← p.sem vs))) : Sem Next).run P w)
  (he : eff P C st o.dst (.prim p xs) = some (v, objs')) : OpOK P o a w (Left w0 O0 E0 I0 nt st o a objs' v) := by
 simp only [eff] at he
 split at he
 ·rename_i vs hvs
  split at he
  ·rename_i u hu
   simp only [sj, pj] at he
   obtain ⟨rfl, rfl⟩ := he
   have hx := evs_vals h xs vs hvs
   refine ok_step h hd (val := u) (w' := w) ?_ (Wst.refl _ _) (ofVal_vr _ _ _ _ u)
   rw [hex vs hx (by rw [hu]; simp)]
   rw [Sem.run_bind, prun_run hu w]
   rfl
  ·cases he
 ·cases he
theorem Rel.cells_at (h : Rel w0 O0 E0 I0 nt st E I a w) {k : Nat} {cs : List Lf} (hk : st.objs k = some (.cells cs)) :
  ∃ C t, w.heap[E.bl k]? = some (.cells C t (0, 0)) ∧ C.size = cs.length ∧ (∀ j, j < cs.length → w.cell? ⟨E.bl k, 0 + j, none⟩ = some (C.getD j undef)) ∧
   ∀ j, j < cs.length → LR st.objs E I w (cs.getD j default) (C.getD j undef) := by
 obtain ⟨C, t, h1, h2, h3⟩ := h.objs k _ hk
 refine ⟨C, t, h1, h2, fun j hj => ?_, h3⟩
 rw [Nat.zero_add, cell_of_row w (E.bl k) j C t (0, 0) h1, Array.getD_eq_getD_getElem?, Array.getElem?_eq_getElem (by omega)]
 rfl
theorem Rel.arr_nn (h : Rel w0 O0 E0 I0 nt st E I a w) {k el sz g n : Nat} {get : Nat → List Lf} (hk : st.objs k = some (.arr el sz g n get)) (hn : 0 < n) : E.hv k ≠ .slice none 0 0 := by
 obtain ⟨xs, h1, _⟩ := h.objs k _ hk
 intro e
 rcases h1.2 with ⟨_, h0⟩ | ⟨g', cap', cur, t, fz, e', _⟩
 ·omega
 ·rw [e] at e'; cases e'
theorem Rel.arr_at (h : Rel w0 O0 E0 I0 nt st E I a w) {k el sz g n : Nat} {get : Nat → List Lf} (hk : st.objs k = some (.arr el sz g n get)) (hn : E.hv k ≠ .slice none 0 0) :
  ∃ xs cap cur t fz, E.hv k = .slice (some ⟨E.bl k, 0, none⟩) n cap ∧ w.heap[E.bl k]? = some (.cells cur t fz) ∧ n ≤ cap ∧ n * sz ≤ cur.size ∧ ((n * sz ≤ fz.1 ∨ fz.2 = 0) ∧ (el < fixM → t = el ∧ fz = (0, 0) ∧ cap ≤ maxLen ∧ cur.size = cap * sz)) ∧ cur.toList.take (n * sz) = xs ∧ xs.length = n * sz ∧ 0 < sz ∧
   (∀ i, i < n → (get i).length = sz) ∧
   (∀ i, i < n → ∀ j, j < sz → w.cell? ⟨E.bl k, i * sz + j, none⟩ = some (xs.getD (i * sz + j) undef)) ∧
   ∀ i, i < n → ∀ j, j < sz → LRi I w ((get i).getD j default) (xs.getD (i * sz + j) undef) := by
 obtain ⟨xs, h2, h1, h4, h5⟩ := h.objs k _ hk
 rcases h1 with h1 | ⟨cap, h1⟩
 ·exact absurd h1 hn
 obtain ⟨hl, hh⟩ := h2
 rcases hh with ⟨e, _⟩ | ⟨g', cap', cur, t, fz, e, hc, hcap, hsz, hf, htk, hty⟩
 ·rw [h1] at e; cases e
 ·rw [h1] at e
  injection e with e1 e2 e3
  injection e1 with e1
  injection e1 with e1 _ _
  subst e3
  subst e1
  refine ⟨xs, cap, cur, t, fz, h1, hc, hcap, hsz, ⟨hf, hty⟩, htk, hl, h4, fun i hi => (h5 i hi).1, fun i hi j hj => ?_, fun i hi => (h5 i hi).2⟩
  have hlt : i * sz + j < n * sz := by
   calc i * sz + j < i * sz + sz := by omega
    _ = (i + 1) * sz := by rw [Nat.add_mul, Nat.one_mul]
    _ ≤ n * sz := Nat.mul_le_mul_right _ hi
  rw [cell_of_row w _ _ cur t fz hc]
  have hcur : n * sz ≤ cur.size := hsz
  rw [← htk, List.getD_eq_getElem?_getD, List.getElem?_take, if_pos hlt]
  rw [Array.getElem?_toList, Array.getElem?_eq_getElem (by omega)]
  rfl
theorem osl_at {objs : Nat → Option Ob} {k g off n el sz m cap' : Nat} {get : Nat → List Lf} {base : Option Addr} (hk : objs k = some (.arr el sz g m get)) (hot : off + n ≤ m) (h : LR objs E I w (.osl k g off n) (.slice base n cap')) :
  (E.hv k = .slice none 0 0 ∧ m = 0 ∧ base = none ∧ cap' = 0) ∨
    ∃ o cap, E.hv k = .slice (some ⟨E.bl k, 0, none⟩) m cap ∧ base = some ⟨E.bl k, o, none⟩ ∧ (n = 0 ∨ o = off * sz) ∧ n ≤ cap' ∧ (off = 0 → cap' = cap ∧ o = 0) := by
 cases h with
 | imm _ _ hi => cases hi
 | osl _ _ _ _ el2 sz2 g2 m2 get2 base2 cap2 hk2 hg2 hv2 =>
  rw [hk] at hk2
  injection hk2 with hk2
  injection hk2 with q1 q2 q3 q4 q5
  subst q1 q2 q3 q4 q5
  exact hv2 rfl hot
theorem load_ok (h : Rel w0 O0 E0 I0 nt st E I a w) {o : Oper} (hd : ∀ x, o.dst = some x → x < nt) {t : TypeId} {x : Operand} {ag : Bool} {sz : Nat} {v : PV} {objs' : Nat → Option Ob}
  (ho : o.op = .load t x) (hag : aggOf P t = some ag) (hsz : szOf P t = some sz)
  (he : eff P C st o.dst (.load ag sz x) = some (v, objs')) : OpOK P o a w (Left w0 O0 E0 I0 nt st o a objs' v) := by
 have hev := h.ev x
 simp only [eff] at he
 have fin : ∀ (b off' : Nat), a.eval x = .pointer (some ⟨b, off', none⟩) → ∀ val, (loadVar t ⟨b, off', none⟩).run P w = .ok val w → (execOp a.eval o).run P w = .ok (.value val) w := by
  intro b off' hx val hr
  unfold execOp
  simp only [ho, hx, Instr.loadAt, Instr.sureAddr, Sem.run_bind, Sem.run_pure, Result.andThen_ok, hr]
 split at he
 ·rename_i k off hx
  rw [hx] at hev
  split at he
  ·rename_i cs hk
   simp only [mj, pj] at he
   obtain ⟨u, hr, rfl, rfl⟩ := he
   obtain ⟨C', t', _, _, hc, hl⟩ := h.cells_at hk
   obtain ⟨val, h1, h2⟩ := read_ok hag hsz hc hl hr
   cases hev with
   | one _ _ hev =>
    generalize hax : a.eval x = ax at hev
    cases hev with
    | imm _ _ hi => cases hi
    | ptr _ _ cs' _ => exact ok_step h hd (fin _ _ hax val (by rw [Nat.zero_add] at h1; exact h1)) (Wst.refl _ _) h2
  ·cases he
 ·rename_i cs off hx
  rw [hx] at hev
  simp only [mj, pj] at he
  obtain ⟨u, hr, rfl, rfl⟩ := he
  cases hev with
  | one _ _ hev =>
   generalize hax : a.eval x = ax at hev
   cases hev with
   | imm _ _ hi => cases hi
   | eptr _ _ b o' vv hI hc hl =>
    obtain ⟨val, h1, h2⟩ := read_ok (objs := st.objs) (E := E) hag hsz hc (fun j hj => .imm _ _ (hl j hj)) hr
    exact ok_step h hd (fin _ _ hax val h1) (Wst.refl _ _) h2
 ·rename_i k g i off hx
  rw [hx] at hev
  split at he
  ·rename_i el sz' g' n get hk
   split at he
   ·rename_i hgi
    obtain ⟨rfl, hin⟩ := hgi
    simp only [mj, pj] at he
    obtain ⟨u, hr, rfl, rfl⟩ := he
    obtain ⟨xs, cap, cur, _, _, e1, _, _, _, _, _, _, _, hlen, hc, hl⟩ := h.arr_at hk (h.arr_nn hk (by omega))
    cases hev with
    | one _ _ hev =>
     generalize hax : a.eval x = ax at hev
     cases hev with
     | imm _ _ hi => cases hi
     | aptr _ _ _ _ el2 sz2 g2 n2 get2 b2 o2 hk2 hg2 hv2 =>
      rw [hk] at hk2
      injection hk2 with hk2
      injection hk2 with q1 q2 q3 q4 q5
      subst q1 q2 q3 q4 q5
      obtain ⟨r1, r2⟩ := hv2 rfl hin
      subst r1 r2
      obtain ⟨val, h1, h2⟩ := read_ok (objs := st.objs) (E := E) (o := i * sz') hag hsz (cs := get i) (vv := fun j => xs.getD (i * sz' + j) undef)
       (fun j hj => hc i hin j (by rw [← hlen i hin]; exact hj)) (fun j hj => .imm _ _ (hl i hin j (by rw [← hlen i hin]; exact hj))) hr
      exact ok_step h hd (fin _ _ hax val h1) (Wst.refl _ _) h2
   ·cases he
  ·cases he
 ·cases he
theorem own_ok {d : Nat} : ∀ (ow : List (Nat × TypeId × Nat)) (i : Nat) (cs cs' : List Lf) (st : St) (objs' : Nat → Option Ob) (E : Env), Rel w0 O0 E0 I0 nt st E I a w → ownAt d i ow cs st.objs = some (cs', objs') →
  ∃ E', Rel w0 O0 E0 I0 nt { st with objs := objs' } E' I a w ∧ Move st.objs E I w objs' E' I w ∧ cs'.length = cs.length ∧
   ∀ (C : Array Value), (∀ j, j < cs.length → LR st.objs E I w (cs.getD j default) (C.getD j undef)) → ∀ j, j < cs.length → LR objs' E' I w (cs'.getD j default) (C.getD j undef)
 | [], i, cs, cs', st, objs', E, h, ho => by
  simp only [ownAt, sj, pj] at ho
  obtain ⟨rfl, rfl⟩ := ho
  exact ⟨E, h, ⟨Ext.refl _ _, fun _ h => h, fun _ _ => rfl⟩, rfl, fun C hC => hC⟩
 | (off, el, sz) :: ow, i, cs, cs', st, objs', E, h, ho => by
  simp only [ownAt] at ho
  split at ho
  ·rename_i hoff
   split at ho
   ·split at ho
    ·rename_i cs1 objs1 h1
     simp only [sj, pj] at ho
     obtain ⟨rfl, rfl⟩ := ho
     obtain ⟨E1, r1, m1, l1, c1⟩ := own_ok ow (i + 1) cs cs1 st objs1 E h h1
     refine ⟨E1, r1, m1, by simp [l1], fun C hC j hj => ?_⟩
     by_cases hjo : j = off
     ·subst hjo
      have e : (cs1.set j (.view sz 0 fun _ => [])).getD j default = .view sz 0 fun _ => [] := by
       rw [List.getD_eq_getElem?_getD, List.getElem?_set_self (by omega)]; rfl
      rw [e]
      have hv := hC j hj
      rw [List.getD_eq_getElem?_getD, hoff] at hv
      have hv : C.getD j undef = .slice none 0 0 := LR.ofVal hv
      rw [hv]
      exact .imm _ _ (.view sz 0 _ none 0 (fun _ _ => undef) (Nat.le_refl _) (fun i hi => by omega) (.inl rfl) (fun i hi => by omega))
     ·have e : (cs1.set off (.view sz 0 fun _ => [])).getD j default = cs1.getD j default := by
       rw [List.getD_eq_getElem?_getD, List.getElem?_set_ne (Ne.symm hjo), List.getD_eq_getElem?_getD]
      rw [e]
      exact c1 C hC j hj
    ·cases ho
   ·split at ho
    ·rename_i hcond
     simp only [Bool.and_eq_true] at hcond
     obtain ⟨⟨_, hkey⟩, hsz⟩ := hcond
     have hkey := Nat.le_of_ble_eq_true hkey
     have hsz := Nat.le_of_ble_eq_true hsz
     split at ho
     ·rename_i cs1 objs1 h1
      split at ho
      ·rename_i hn1
       simp only [sj, pj] at ho
       obtain ⟨rfl, rfl⟩ := ho
       obtain ⟨E1, r1, m1, l1, c1⟩ := own_ok ow (i + 1) cs cs1 st objs1 E h h1
       have hn1 : objs1 (ownKey d i) = none := by simpa using hn1
       have hw : Wst (fun _ => False) w w := Wst.refl _ _
       have hob : Move objs1 E1 I w (upd objs1 (ownKey d i) (some (.arr el sz 0 0 fun _ => []))) ⟨upd E1.bl (ownKey d i) 0, upd E1.hv (ownKey d i) (.slice none 0 0)⟩ I w →
         ObjR (upd objs1 (ownKey d i) (some (.arr el sz 0 0 fun _ => []))) ⟨upd E1.bl (ownKey d i) 0, upd E1.hv (ownKey d i) (.slice none 0 0)⟩ I w (ownKey d i) (.arr el sz 0 0 fun _ => []) := fun _ => by
        refine ⟨[], ?_, .inl (upd_same _ _ _), hsz, fun i hi => by omega⟩
        show rowW w el sz (upd E1.hv (ownKey d i) _ (ownKey d i)) 0 []
        rw [upd_same]; exact rowW_of (World.ownsRow_nil w 0 el sz)
       have hbb : (∀ el' sz' g n get, (Ob.arr el sz 0 0 fun _ => []) = .arr el' sz' g n get → Value.slice none 0 0 ≠ .slice none 0 0) → w.heap.size ≤ 0 ∧ 0 < w.heap.size := fun hx => absurd rfl (hx _ _ _ _ _ rfl)
       have m2 := (r1.toHeap.fresh hw (ownKey d i) hn1 (.arr el sz 0 0 fun _ => []) 0 (.slice none 0 0) hbb hob).2
       have r2 := r1.fresh hw (ownKey d i) (by omega) hn1 (.arr el sz 0 0 fun _ => []) 0 (.slice none 0 0) hbb none (fun x hx => by cases hx) .none undef hob (fun _ => .none _)
       refine ⟨_, r2, ⟨fun k o hk => ?_, fun _ h => h, fun _ _ => rfl⟩, by simp [l1], fun C hC j hj => ?_⟩
       ·obtain ⟨o1, e1, x1⟩ := m1.ext k o hk
        obtain ⟨o2, e2, x2⟩ := m2.ext k o1 e1
        exact ⟨o2, e2, x1.trans x2⟩
       ·by_cases hjo : j = off
        ·subst hjo
         have e : (cs1.set j (.osl (ownKey d i) 0 0 0)).getD j default = .osl (ownKey d i) 0 0 0 := by
          rw [List.getD_eq_getElem?_getD, List.getElem?_set_self (by omega)]; rfl
         rw [e]
         have hv := hC j hj
         rw [List.getD_eq_getElem?_getD, hoff] at hv
         have hv : C.getD j undef = .slice none 0 0 := LR.ofVal hv
         rw [hv]
         exact .osl _ 0 0 0 el sz 0 0 _ none 0 (upd_same _ _ _) (Nat.le_refl _) (fun _ _ => .inl ⟨upd_same _ _ _, rfl, rfl, rfl⟩)
        ·have e : (cs1.set off (.osl (ownKey d i) 0 0 0)).getD j default = cs1.getD j default := by
          rw [List.getD_eq_getElem?_getD, List.getElem?_set_ne (Ne.symm hjo), List.getD_eq_getElem?_getD]
         rw [e]
         exact m2.lr (c1 C hC j hj)
      ·cases ho
     ·cases ho
    ·cases ho
  ·exact own_ok ow (i + 1) cs cs' st objs' E h ho
theorem alloc_ok (h : Rel w0 O0 E0 I0 nt st E I a w) {o : Oper} (hd : ∀ x, o.dst = some x → x < nt) {el : TypeId} {z : Value} {v : PV} {objs1 : Nat → Option Ob} {cs cs1 : List Lf} {d : Nat} {ow : List (Nat × TypeId × Nat)} {ob : Ob} (hob : ob = .cells cs1 ∨ ob = .tcells el cs1)
  (hdn : d < nt) (hz : VR st.objs E I w v z) (hcs : v.cells = some cs) (how : ownAt d 0 ow cs st.objs = some (cs1, objs1)) (hk : objs1 d = none)
  (hrun : (execOp a.eval o).run P w = .ok (.value (.pointer (some ⟨w.heap.size, 0, none⟩))) (w.alloc (.cells z.cells el))) :
  OpOK P o a w (Left w0 O0 E0 I0 nt st o a (upd objs1 d (some ob)) (.one (.ptr d 0))) := by
 obtain ⟨h1, h2⟩ := hz.cells hcs
 obtain ⟨E1, r1, m1, l1, c1⟩ := own_ok ow 0 cs cs1 st objs1 E h how
 have hw : Wst (fun _ => False) w (w.alloc (.cells z.cells el)) := Wst.alloc _ _ _
 refine OpOK.value hrun ⟨⟨upd E1.bl d w.heap.size, upd E1.hv d undef⟩, I, ?_⟩
 refine r1.fresh hw d (Nat.lt_of_lt_of_le hdn h.ntb) hk ob w.heap.size undef (fun _ => ⟨Nat.le_refl _, by simp⟩) o.dst hd _ _ (fun m => ?_) (fun m => ?_)
 ·have hb : (w.alloc (.cells z.cells el)).heap[upd E1.bl d w.heap.size d]? = some (.cells z.cells el (0, 0)) := by
   rw [upd_same]
   exact heap_alloc_new w _
  rcases hob with rfl | rfl
  ·exact ⟨z.cells, el, hb, by rw [l1]; exact h1, fun j hj => m.lr (c1 _ h2 j (by omega))⟩
  ·exact ⟨z.cells, hb, by rw [l1]; exact h1, fun j hj => m.lr (c1 _ h2 j (by omega))⟩
 ·refine .one _ _ ?_
  have hv : ob.var = true := by rcases hob with rfl | rfl <;> rfl
  have := LR.ptr (objs := upd objs1 d (some ob)) (E := ⟨upd E1.bl d w.heap.size, upd E1.hv d undef⟩) (I := I) (w := w.alloc (.cells z.cells el)) d 0 ob (upd_same _ _ _) hv
  simpa [upd_same] using this
end
end Go.Rx
