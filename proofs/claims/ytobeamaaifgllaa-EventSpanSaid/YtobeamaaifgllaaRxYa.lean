/- No condition. -/
import Derived.Test.YtobeamaaifgllaaRxY
import Derived.MapKept
import Derived.Carry
namespace Go.Rx
open Go Go.RowKit
section
variable {P : Program} {C : Oracle} {w0 : World} {O0 : Nat → Option Ob} {E0 : Env} {I0 : Nat → Prop} {nt : Nat} {st : St} {E : Env} {I : Nat → Prop} {a : Act} {w : World}
theorem findAsking_ok {kt : TypeId} {kv : Value} : ∀ (ents : List MapEntry) (es : List (PV × PV)) (i : Nat) (r : Option (Nat × PV × PV)),
  ents.length = es.length → (∀ j (h : j < ents.length), VR (fun _ => none) noEnv I w (es.getD j (.none, .none)).1 ents[j].key) → findP P kt kv es i = some r →
  (r = none ∧ (Instr.findAsking kt kv ents i).run P w = .ok none w) ∨
  (∃ j q p, r = some (i + j, p) ∧ es[j]? = some p ∧ ents[j]? = some q ∧ (Instr.findAsking kt kv ents i).run P w = .ok (some (i + j, q.val)) w)
 | [], [], i, r, _, _, hf => by
  simp only [findP, sj] at hf
  subst hf
  exact .inl ⟨rfl, rfl⟩
 | q :: ents, p :: es, i, r, hl, hk, hf => by
  simp only [findP] at hf
  split at hf
  ·rename_i k' hk'
   have h0 := hk 0 (by simp)
   have e0 : q.key = k' := by
    have : VR (fun _ => none) noEnv I w p.1 q.key := by simpa using h0
    exact VR.toVal (st := ⟨fun _ => .none, fun _ => none⟩) this hk'
   split at hf
   ·rename_i he
    simp only [sj] at hf
    subst hf
    refine .inr ⟨0, q, p, rfl, rfl, rfl, ?_⟩
    simp only [Instr.findAsking, e0, Sem.run_bind, prun_run he w, Result.andThen_ok, if_true]
    rfl
   ·rename_i he
    have hrun : (Instr.findAsking kt kv (q :: ents) i).run P w = (Instr.findAsking kt kv ents (i + 1)).run P w := by
     simp [Instr.findAsking, e0, Sem.run_bind, prun_run he w, Result.andThen_ok]
    rcases findAsking_ok ents es (i + 1) r (by simpa using hl) (fun j hj => by have := hk (j + 1) (by simpa using hj); simpa using this) hf with ⟨h1, h2⟩ | ⟨j, q', p', h1, h2, h3, h4⟩
    ·exact .inl ⟨h1, by rw [hrun]; exact h2⟩
    ·refine .inr ⟨j + 1, q', p', by rw [h1]; congr 2; omega, by simpa using h2, by simpa using h3, ?_⟩
     rw [hrun, h4]; congr 3; omega
   ·cases hf
  ·cases hf
theorem mkeyOf_is {mt kt e : TypeId} (h : mkeyOf P mt = some (kt, e)) : P.underlying mt = some (.map kt e) ∧ ∃ fs, P.underlying kt = some (.struct fs) := by
 unfold mkeyOf at h
 split at h
 ·rename_i k e' hu
  split at h
  ·rename_i fs hk
   simp only [sj, pj] at h
   obtain ⟨rfl, rfl⟩ := h
   exact ⟨hu, fs, hk⟩
  ·cases h
 ·cases h
theorem findKey_ok {kt : TypeId} {kv : Value} {fs : Array Go.Field} (hs : P.underlying kt = some (.struct fs)) (ents : List MapEntry) (es : List (PV × PV)) (r : Option (Nat × PV × PV))
  (hl : ents.length = es.length) (hk : ∀ j (h : j < ents.length), VR (fun _ => none) noEnv I w (es.getD j (.none, .none)).1 ents[j].key) (hf : findP P kt kv es 0 = some r) :
  (r = none ∧ (Instr.findKey kt kv ents).run P w = .ok none w) ∨
  (∃ j q p, r = some (j, p) ∧ es[j]? = some p ∧ ents[j]? = some q ∧ (Instr.findKey kt kv ents).run P w = .ok (some (j, q.val)) w) := by
 have hrun : (Instr.findKey kt kv ents).run P w = (Instr.findAsking kt kv ents).run P w := by
  unfold Instr.findKey
  simp only [Sem.run_bind, run_underlying hs, Result.andThen_ok]
  cases ents with
  | nil => rfl
  | cons q ents => rfl
 rw [hrun]
 rcases findAsking_ok (I := I) ents es 0 r hl hk hf with h | ⟨j, q, p, h1, h2, h3, h4⟩
 ·exact .inl h
 ·exact .inr ⟨j, q, p, by rw [h1]; simp, h2, h3, by rw [h4]; simp⟩
theorem Heap.map_at (h : Heap st.objs E I w) {m : Nat} {es : List (PV × PV)} (hm : st.objs m = some (.map es)) :
  ∃ (ents : Array MapEntry) (clock : Nat), w.heap[E.bl m]? = some (.map ents clock) ∧ ents.size = es.length ∧
   ∀ i (hi : i < ents.size), VR (fun _ => none) noEnv I w (es.getD i (.none, .none)).1 ents[i].key ∧ VR (fun _ => none) noEnv I w (es.getD i (.none, .none)).2 ents[i].val := h.objs m _ hm
theorem ev_mp (h : Rel w0 O0 E0 I0 nt st E I a w) {x : Operand} {m : Nat} (hx : st.ev x = .one (.mp m)) : a.eval x = .map (some (E.bl m)) := by
 have hev := h.ev x
 rw [hx] at hev
 generalize a.eval x = ax at hev
 cases hev with
 | one _ _ hev =>
  cases hev with
  | imm _ _ hi => cases hi
  | mp => rfl
theorem isEmpty_eq {ents : Array MapEntry} {es : List (PV × PV)} (h : ents.size = es.length) : ents.isEmpty = es.isEmpty := by
 cases es with
 | nil => simp at h; simp [h]
 | cons => simp at h; simp [Array.isEmpty, h]
theorem mmake_ok (h : Rel w0 O0 E0 I0 nt st E I a w) {o : Oper} (hd : ∀ x, o.dst = some x → x < nt) {t : TypeId} {v : PV} {objs' : Nat → Option Ob}
  (ho : o.op = .makeMap t none) (he : eff P C st o.dst .mmake = some (v, objs')) : OpOK P o a w (Left w0 O0 E0 I0 nt st o a objs' v) := by
 simp only [eff] at he
 split at he
 ·rename_i d hdst
  split at he
  ·rename_i hk
   split at he
   ·rename_i hdp
    simp only [Nat.ble_eq] at hdp
    simp only [sj, pj] at he
    obtain ⟨rfl, rfl⟩ := he
    refine OpOK.value (w' := w.alloc (.map #[] 0)) (val := .map (some w.heap.size)) ?_ ⟨⟨upd E.bl d w.heap.size, upd E.hv d undef⟩, I, ?_⟩
    ·unfold execOp
     simp only [ho, Option.map, Sem.run_bind, run_makeMap, Result.andThen_ok]; rfl
    ·refine h.fresh (Wst.alloc _ _ _) d hdp hk (.map []) w.heap.size undef (fun _ => ⟨Nat.le_refl _, by simp⟩) o.dst hd _ _ (fun m => ?_) (fun m => ?_)
     ·refine ⟨#[], 0, ?_, rfl, fun i hi => by simp at hi⟩
      show (w.alloc _).heap[upd E.bl d w.heap.size d]? = _
      rw [upd_same]; exact heap_alloc_new w _
     ·refine .one _ _ ?_
      have := LR.mp (objs := upd st.objs d (some (.map []))) (E := ⟨upd E.bl d w.heap.size, upd E.hv d undef⟩) (I := I) (w := w.alloc (.map #[] 0)) d [] (upd_same _ _ _)
      have e : upd E.bl d w.heap.size d = w.heap.size := upd_same _ _ _
      simpa only [e] using this
   ·cases he
  ·cases he
 ·cases he
theorem mres_vr {objs : Nat → Option Ob} {p : PV} {v : Value} (ok b : Bool) (h : VR objs E I w p v) : VR objs E I w (mres ok p b) (if ok then .tuple #[v, .bool b] else v) := by
 cases ok with
 | false => exact h
 | true =>
  refine .tup _ _ rfl (fun j hj => ?_)
  rcases j with _ | _ | j
  ·exact h
  ·exact .one _ _ (.imm _ _ (.val _ rfl))
  ·simp at hj; omega
theorem mlook_ok (h : Rel w0 O0 E0 I0 nt st E I a w) {o : Oper} (hd : ∀ x, o.dst = some x → x < nt) {ok : Bool} {mt : TypeId} {nl : List (Nat × Nat)} {x k : Operand} {v : PV} {objs' : Nat → Option Ob}
  (ho : o.op = .lookup mt x k ok) (he : eff P C st o.dst (.mlook ok mt nl x k) = some (v, objs')) : OpOK P o a w (Left w0 O0 E0 I0 nt st o a objs' v) := by
 simp only [eff] at he
 split at he
 ·rename_i m kv kt e hx hkv hmk
  obtain ⟨hu, fs, hks⟩ := mkeyOf_is hmk
  have hax := ev_mp h hx
  have hak := (h.ev k).toVal hkv
  split at he
  ·rename_i es hm
   obtain ⟨ents, clock, hb, hsz, hents⟩ := h.toHeap.map_at hm
   split at he
   ·rename_i r1 i p q hck hf
    simp only [sj, pj] at he
    obtain ⟨rfl, rfl⟩ := he
    rcases findKey_ok (I := I) (w := w) hks ents.toList es _ (by simpa using hsz) (fun j hj => by have := (hents j (by simpa using hj)).1; simpa using this) hf with ⟨h1, _⟩ | ⟨j, qe, pe, h1, h2, h3, h4⟩
    ·cases h1
    ·simp only [sj, pj] at h1
     obtain ⟨rfl, h1⟩ := h1
     subst h1
     refine ok_step h hd (val := if ok then .tuple #[qe.val, .bool true] else qe.val) (w' := w) ?_ (Wst.refl _ _) (mres_vr ok true (nilP_ok nl ?_))
     ·unfold execOp
      simp only [ho, hax, hak, Instr.lookup, Sem.run_bind, run_underlying hu, Result.andThen_ok, MapKept.run_getObj_map hb, Sem.run_pure, isEmpty_eq hsz, prun_run hck w, h4]
     ·have hj : i < ents.size := by have := (List.getElem?_eq_some_iff.1 h3).1; simpa using this
      have := (Move.ofBare st.objs E I w).vr (hents i hj).2
      have e1 : es.getD i (.none, .none) = (p, q) := by rw [List.getD_eq_getElem?_getD, h2]; rfl
      have e2 : ents[i] = qe := by
       have := (List.getElem?_eq_some_iff.1 h3).2
       simpa using this
      rw [e1, e2] at this
      exact this
   ·rename_i r1 hck hf
    split at he
    ·rename_i z hz
     simp only [sj, pj] at he
     obtain ⟨rfl, rfl⟩ := he
     rcases findKey_ok (I := I) (w := w) hks ents.toList es _ (by simpa using hsz) (fun j hj => by have := (hents j (by simpa using hj)).1; simpa using this) hf with ⟨_, h4⟩ | ⟨j, qe, pe, h1, _, _, _⟩
     ·refine ok_step h hd (val := if ok then .tuple #[z, .bool false] else z) (w' := w) ?_ (Wst.refl _ _) (mres_vr ok false (nilP_ok nl (ofVal_vr _ _ _ _ z)))
      unfold execOp
      simp only [ho, hax, hak, Instr.lookup, Sem.run_bind, run_underlying hu, Result.andThen_ok, MapKept.run_getObj_map hb, Sem.run_pure, isEmpty_eq hsz, prun_run hck w, h4, prun_run hz w]
     ·cases h1
    ·cases he
   ·cases he
  ·cases he
 ·cases he
theorem setMap_wst (w : World) (b : Nat) (o : Obj) : Wst (fun x => x = b) w { w with heap := w.heap.setIfInBounds b o } :=
 ⟨rfl, rfl, rfl, by simp, fun k _ hk => by
  show (w.heap.setIfInBounds b o)[k]? = _
  rw [Array.getElem?_setIfInBounds_ne (Ne.symm hk)]⟩
theorem Rel.remap (h : Rel w0 O0 E0 I0 nt st E I a w) {m : Nat} {es es' : List (PV × PV)} {ents ents' : Array MapEntry} {clock clock' : Nat} (hm : st.objs m = some (.map es)) (hb : w.heap[E.bl m]? = some (.map ents clock))
  (hsz : ents'.size = es'.length)
  (hents : ∀ {w' : World}, Move (fun _ => none) noEnv I w (fun _ => none) noEnv I w' → ∀ i (hi : i < ents'.size), VR (fun _ => none) noEnv I w' (es'.getD i (.none, .none)).1 ents'[i].key ∧ VR (fun _ => none) noEnv I w' (es'.getD i (.none, .none)).2 ents'[i].val)
  (d : Option Nat) (hd : ∀ x, d = some x → x < nt) {v : PV} {val : Value} (hv : ∀ {objs' : Nat → Option Ob} {E' : Env} {w' : World}, VR objs' E' I w' v val) :
  ∃ E', Rel w0 O0 E0 I0 nt (({ st with objs := upd st.objs m (some (.map es')) } : St).put d v) E' I (a.put d val) { w with heap := w.heap.setIfInBounds (E.bl m) (.map ents' clock') } := by
 refine ⟨_, h.change m (.map es) (.map es') hm ((setMap_wst w _ _).mono fun b e => ⟨Blk.map hm, e⟩) (E.bl m) (E.hv m) (fun _ => .inl ⟨Blk.map hm, rfl⟩) d hd v val ⟨⟨_, rfl⟩, upd_same _ _ _⟩ (fun mv => ?_) (fun _ => hv)⟩
 refine ⟨ents', clock', ?_, hsz, hents mv.bare⟩
 show (w.heap.setIfInBounds (E.bl m) _)[upd E.bl m (E.bl m) m]? = _
 rw [upd_same]
 have hlt := (Array.getElem?_eq_some_iff.1 hb).1
 simp [hlt]
theorem vals_none {p : PV} {v u : Value} (h : VR st.objs E I w p v) (hv : p.toVal = some u) : VR (fun _ => none) noEnv I w p v := by
 cases h with
 | none => cases hv
 | one l v h =>
  cases l <;> simp only [PV.toVal, Lf.toVal, sj] at hv <;> try (cases hv; done)
  cases h with
  | imm _ _ h => exact .one _ _ (.imm _ _ h)
 | agg cs C hC h =>
  refine .agg cs C hC (fun j hj => ?_)
  simp only [PV.toVal, mj] at hv
  obtain ⟨vs, h1, _⟩ := hv
  have := toVals_vals cs vs h1
  have hj' := h j hj
  subst this
  have hjv : j < vs.length := by simpa using hj
  have e : (vs.map Lf.val).getD j default = .val vs[j] := by simp [List.getD, hjv]
  rw [e] at hj' ⊢
  cases hj' with
  | imm _ _ h => exact .imm _ _ h
 | tup => cases hv
theorem clean_none {p : PV} {v : Value} (h : VR st.objs E I w p v) (hc : p.clean true = true) (hne : ∀ vs, p ≠ .tup vs) : VR (fun _ => none) noEnv I w p v := by
 cases h with
 | none => cases hc
 | one l v h => exact .one _ _ (.imm _ _ (LR.clean h hc))
 | agg cs C hC h =>
  refine .agg cs C hC (fun j hj => .imm _ _ (LR.clean (h j hj) ?_))
  have : cs.getD j default ∈ cs := by rw [List.getD_eq_getElem?_getD, List.getElem?_eq_getElem hj]; simp
  exact List.all_eq_true.1 hc _ this
 | tup vs => exact absurd rfl (hne _)
theorem mset_ok (h : Rel w0 O0 E0 I0 nt st E I a w) {o : Oper} (hd : ∀ x, o.dst = some x → x < nt) {mt : TypeId} {x k y : Operand} {v : PV} {objs' : Nat → Option Ob}
  (ho : o.op = .mapUpdate mt x k y ∨ o.op = .insert mt x k y) (he : eff P C st o.dst (.mset mt x k y) = some (v, objs')) : OpOK P o a w (Left w0 O0 E0 I0 nt st o a objs' v) := by
 have hop : execOp a.eval o = (do Instr.mapUpdate mt (a.eval x) (a.eval k) (a.eval y); pure .skip) := by
  unfold execOp
  rcases ho with ho | ho <;> simp only [ho]
 simp only [eff] at he
 split at he
 ·rename_i m kv kt e hx hkv hmk
  obtain ⟨hu, fs, hks⟩ := mkeyOf_is hmk
  have hax := ev_mp h hx
  have hvk := h.ev k
  have hak := hvk.toVal hkv
  have hvy := h.ev y
  have hvk0 := vals_none hvk hkv
  split at he
  ·rename_i es hm
   obtain ⟨ents, clock, hb, hsz, hents⟩ := h.toHeap.map_at hm
   split at he
   ·rename_i hcl
    simp only [Bool.and_eq_true] at hcl
    have hvy0 := clean_none hvy hcl.1 (fun vs e => by have := hcl.2; rw [e] at this; cases this)
    split at he
    ·rename_i r1 i p q hck hf
     split at he
     ·rename_i kv' hkv'
      split at he
      ·rename_i hsame
       simp only [sj, pj] at he
       obtain ⟨rfl, rfl⟩ := he
       rcases findKey_ok (I := I) (w := w) hks ents.toList es _ (by simpa using hsz) (fun j hj => by have := (hents j (by simpa using hj)).1; simpa using this) hf with ⟨h1, _⟩ | ⟨j, qe, pe, h1, h2, h3, h4⟩
       ·cases h1
       ·simp only [sj, pj] at h1
        obtain ⟨rfl, h1⟩ := h1
        subst h1
        have hj : i < ents.size := by have := (List.getElem?_eq_some_iff.1 h3).1; simpa using this
        have e2 : ents[i] = qe := by
         have := (List.getElem?_eq_some_iff.1 h3).2
         simpa using this
        have e1 : es.getD i (.none, .none) = (p, q) := by rw [List.getD_eq_getElem?_getD, h2]; rfl
        have hqk : qe.key = kv' := by
         have := (hents i hj).1
         rw [e1, e2] at this
         exact VR.toVal (st := ⟨fun _ => .none, fun _ => none⟩) this hkv'
        have hq3 : ents[i]? = some qe := by rw [Array.getElem?_eq_getElem hj, e2]
        obtain ⟨E', hE'⟩ := h.remap (ents' := ents.modify i fun e => { e with key := a.eval k, val := a.eval y }) (clock' := clock) (es' := es.set i (st.ev k, st.ev y)) (v := .none) (val := undef) hm hb (by simpa using hsz)
         (fun mv i2 hi2 => by
          have hi2' : i2 < ents.size := by simpa using hi2
          have hh := hents i2 hi2'
          by_cases hii : i = i2
          ·subst hii
           have e3 : (es.set i (st.ev k, st.ev y)).getD i (.none, .none) = (st.ev k, st.ev y) := by
            rw [List.getD_eq_getElem?_getD, List.getElem?_set_self (by rw [← hsz]; exact hi2')]; rfl
           rw [e3]
           simp only [Array.getElem_modify_self]
           exact ⟨mv.vr hvk0, mv.vr hvy0⟩
          ·have e3 : (es.set i (st.ev k, st.ev y)).getD i2 (.none, .none) = es.getD i2 (.none, .none) := by
            rw [List.getD_eq_getElem?_getD, List.getElem?_set_ne hii, ← List.getD_eq_getElem?_getD]
           rw [e3]
           simp only [Array.getElem_modify_of_ne hii]
           exact ⟨mv.vr hh.1, mv.vr hh.2⟩) o.dst hd (.none _)
        refine OpOK.skip ?_ ⟨E', I, hE'⟩
        rw [hop]
        simp only [hax, hak, Instr.mapUpdate, Sem.run_bind, run_underlying hu, Result.andThen_ok, MapKept.run_getObj_map hb, Sem.run_pure, prun_run hck w, h4, hq3, Option.map, Option.getD, hqk, Instr.keyThatStays, hsame, if_true, MapKept.run_setObj_map _ hb]
      ·cases he
     ·cases he
    ·rename_i r1 hck hf
     simp only [sj, pj] at he
     obtain ⟨rfl, rfl⟩ := he
     rcases findKey_ok (I := I) (w := w) hks ents.toList es _ (by simpa using hsz) (fun j hj => by have := (hents j (by simpa using hj)).1; simpa using this) hf with ⟨_, h4⟩ | ⟨j, qe, pe, h1, _, _, _⟩
     ·obtain ⟨E', hE'⟩ := h.remap (ents' := ents.push { key := a.eval k, val := a.eval y, born := clock }) (clock' := clock + 1) (es' := es ++ [(st.ev k, st.ev y)]) (v := .none) (val := undef) hm hb (by simp [hsz])
       (fun mv i2 hi2 => by
        simp only [Array.size_push] at hi2
        by_cases hii : i2 < ents.size
        ·have hh := hents i2 hii
         have e3 : (es ++ [(st.ev k, st.ev y)]).getD i2 (.none, .none) = es.getD i2 (.none, .none) := by
          rw [List.getD_eq_getElem?_getD, List.getElem?_append_left (by rw [← hsz]; exact hii), ← List.getD_eq_getElem?_getD]
         rw [e3]
         simp only [Array.getElem_push_lt hii]
         exact ⟨mv.vr hh.1, mv.vr hh.2⟩
        ·have hie : i2 = ents.size := by omega
         subst hie
         have e3 : (es ++ [(st.ev k, st.ev y)]).getD ents.size (.none, .none) = (st.ev k, st.ev y) := by
          rw [List.getD_eq_getElem?_getD, hsz]; simp
         rw [e3]
         simp only [Array.getElem_push_eq]
         exact ⟨mv.vr hvk0, mv.vr hvy0⟩) o.dst hd (.none _)
      refine OpOK.skip ?_ ⟨E', I, hE'⟩
      rw [hop]
      simp only [hax, hak, Instr.mapUpdate, Sem.run_bind, run_underlying hu, Result.andThen_ok, MapKept.run_getObj_map hb, Sem.run_pure, prun_run hck w, h4, MapKept.run_setObj_map _ hb]
     ·cases h1
    ·cases he
   ·cases he
  ·cases he
 ·cases he
theorem mdel_ok (h : Rel w0 O0 E0 I0 nt st E I a w) {o : Oper} (hd : ∀ x, o.dst = some x → x < nt) {c : Call} {mt : TypeId} {x k : Operand} {v : PV} {objs' : Nat → Option Ob}
  (ho : o.op = .call c) (hc : c.callee = .builtin .delete) (ha : c.args.toList = [x, k]) (ht : c.argTypes[0]? = some mt) (he : eff P C st o.dst (.mdel mt x k) = some (v, objs')) : OpOK P o a w (Left w0 O0 E0 I0 nt st o a objs' v) := by
 have hargs : c.args = #[x, k] := by rw [← ha]
 have hop : ∀ w2, (execOp a.eval o).run P w2 = ((do pure (.value (← Builtin.delete_ c.argTypes o.type #[a.eval x, a.eval k])) : Sem Next)).run P w2 := by
  intro w2
  unfold execOp
  simp only [ho, resolve, hc, hargs, List.map_toArray, List.map_cons, List.map_nil, Sem.run_bind, Sem.run_pure, Result.andThen_ok, invoke, builtin]
 simp only [eff] at he
 split at he
 ·rename_i m kv kt e hx hkv hmk
  obtain ⟨hu, fs, hks⟩ := mkeyOf_is hmk
  have hax := ev_mp h hx
  have hak := (h.ev k).toVal hkv
  have hnil : ∀ {objs' : Nat → Option Ob} {E' : Env} {w' : World}, VR objs' E' I w' (.tup []) (.tuple #[]) := fun {_ _ _} => .tup _ _ rfl (fun j hj => by simp at hj)
  split at he
  ·rename_i es hm
   obtain ⟨ents, clock, hb, hsz, hents⟩ := h.toHeap.map_at hm
   split at he
   ·rename_i r1 i p hck hf
    simp only [sj, pj] at he
    obtain ⟨rfl, rfl⟩ := he
    rcases findKey_ok (I := I) (w := w) hks ents.toList es _ (by simpa using hsz) (fun j hj => by have := (hents j (by simpa using hj)).1; simpa using this) hf with ⟨h1, _⟩ | ⟨j, qe, pe, h1, h2, h3, h4⟩
    ·cases h1
    ·simp only [sj, pj] at h1
     obtain ⟨rfl, rfl⟩ := h1
     have hj : i < ents.size := by have := (List.getElem?_eq_some_iff.1 h3).1; simpa using this
     have hje : i < es.length := by rw [← hsz]; exact hj
     obtain ⟨E', hE'⟩ := h.remap (ents' := ents.eraseIdxIfInBounds i) (clock' := clock) (es' := es.eraseIdx i) (v := .tup []) (val := .tuple #[]) hm hb (by simp [Array.eraseIdxIfInBounds, List.length_eraseIdx, hje, hsz])
      (fun mv i2 hi2 => by
       have hsz2 : (ents.eraseIdxIfInBounds i).size = ents.size - 1 := by simp [Array.eraseIdxIfInBounds, hj]
       rw [hsz2] at hi2
       have hg : (es.eraseIdx i).getD i2 (.none, .none) = es.getD (if i2 < i then i2 else i2 + 1) (.none, .none) := by
        rw [List.getD_eq_getElem?_getD, List.getElem?_eraseIdx]
        split <;> rw [List.getD_eq_getElem?_getD]
       have hge : ∀ hq, (ents.eraseIdxIfInBounds i)[i2]'hq = ents[if i2 < i then i2 else i2 + 1]'(by split <;> omega) := by
        intro hq
        simp only [Array.eraseIdxIfInBounds, dif_pos hj, Array.getElem_eraseIdx]
        split
        ·rfl
        ·rfl
       rw [hg, hge]
       have hh := hents (if i2 < i then i2 else i2 + 1) (by split <;> omega)
       exact ⟨mv.vr hh.1, mv.vr hh.2⟩) o.dst hd hnil
     refine OpOK.value (val := .tuple #[]) ?_ ⟨E', I, hE'⟩
     rw [hop]
     have hck' : (Instr.checkKey (ents.isEmpty) 10000 kt kv).run P w = .ok () w := by rw [isEmpty_eq hsz]; exact prun_run hck w
     simp [Builtin.delete_, ht, hax, hak, run_underlying hu, MapKept.run_getObj_map hb, hck', h4, MapKept.run_setObj_map _ hb]
   ·rename_i r1 hck hf
    simp only [sj, pj] at he
    obtain ⟨rfl, rfl⟩ := he
    rcases findKey_ok (I := I) (w := w) hks ents.toList es _ (by simpa using hsz) (fun j hj => by have := (hents j (by simpa using hj)).1; simpa using this) hf with ⟨_, h4⟩ | ⟨j, qe, pe, h1, _, _, _⟩
    ·obtain ⟨E', hE'⟩ := h.remap (ents' := ents) (clock' := clock) (es' := es) (v := .tup []) (val := .tuple #[]) hm hb hsz
      (fun mv i2 hi2 => ⟨mv.vr (hents i2 hi2).1, mv.vr (hents i2 hi2).2⟩) o.dst hd hnil
     refine OpOK.value (val := .tuple #[]) ?_ ⟨E', I, hE'⟩
     rw [hop]
     have hck' : (Instr.checkKey (ents.isEmpty) 10000 kt kv).run P w = .ok () w := by rw [isEmpty_eq hsz]; exact prun_run hck w
     simp [Builtin.delete_, ht, hax, hak, run_underlying hu, MapKept.run_getObj_map hb, hck', h4, MapKept.run_setObj_map _ hb]
    ·cases h1
   ·cases he
  ·cases he
 ·cases he
theorem mlen_ok (h : Rel w0 O0 E0 I0 nt st E I a w) {o : Oper} (hd : ∀ x, o.dst = some x → x < nt) {c : Call} {t kt e : TypeId} {x : Operand} {v : PV} {objs' : Nat → Option Ob}
  (ho : o.op = .call c) (hc : c.callee = .builtin .len) (ha : c.args.toList = [x]) (ht : c.argTypes[0]? = some t) (hu : P.underlying t = some (.map kt e))
  (he : eff P C st o.dst (.mlen x) = some (v, objs')) : OpOK P o a w (Left w0 O0 E0 I0 nt st o a objs' v) := by
 simp only [eff] at he
 have hargs : c.args = #[x] := by rw [← ha]
 split at he
 ·rename_i m hx
  have hax := ev_mp h hx
  split at he
  ·rename_i es hm
   obtain ⟨ents, clock, hb, hsz, hents⟩ := h.toHeap.map_at hm
   simp only [sj, pj] at he
   obtain ⟨rfl, rfl⟩ := he
   refine ok_step h hd (val := .int .i64 es.length) (w' := w) ?_ (Wst.refl _ _) (.one _ _ (.imm _ _ (.val _ rfl)))
   unfold execOp
   simp only [ho, resolve, hc, hargs, List.map_toArray, List.map_cons, List.map_nil, hax, Sem.run_bind, Sem.run_pure, Result.andThen_ok, invoke, builtin, Builtin.len_, ht]
   simp only [List.getElem?_toArray, List.getElem?_cons_zero, Sem.run_bind, run_underlying hu, Result.andThen_ok, Sem.run_pure, goInt, MapKept.run_getObj_map hb, hsz]
  ·cases he
 ·cases he
theorem put_put (objs1 objs2 : Nat → Option Ob) (d : Option Nat) (v v2 : PV) : (({ (({ st with objs := objs1 } : St).put d v) with objs := objs2 } : St).put d v2) = (({ st with objs := objs2 } : St).put d v2) := by
 cases d with
 | none => rfl
 | some d =>
  simp only [St.put]
  congr 1
  funext j
  simp only [upd]
  split <;> rfl
theorem act_put_put (d : Option Nat) (val : Value) : (a.put d val).put d val = a.put d val := by
 cases d with
 | none => rfl
 | some d => simp [Act.put]
theorem take_rel {objs1 objs2 : Nat → Option Ob} {v v2 : PV} {val : Value} {to : Nat} {d : Option Nat} (hd : ∀ x, d = some x → x < nt) (hdn : d ≠ none)
  (h : Rel w0 O0 E0 I0 nt (({ st with objs := objs1 } : St).put d v) E I (a.put d val) w) (ht : takeO to (v, objs1) = some (v2, objs2)) :
  ∃ E', Rel w0 O0 E0 I0 nt (({ st with objs := objs2 } : St).put d v2) E' I (a.put d val) w := by
 unfold takeO at ht
 split at ht
 ·rename_i k g n objs heq
  simp only [pj] at heq
  obtain ⟨rfl, rfl⟩ := heq
  split at ht
  ·rename_i el sz g1 n1 get el2 sz2 g2 n2 get2 hk hto
   split at ht
   ·rename_i hc
    obtain ⟨rfl, rfl, rfl, rfl, hne, hkp⟩ := hc
    simp only [sj, pj] at ht
    obtain ⟨rfl, rfl⟩ := ht
    have eo : (({ st with objs := objs1 } : St).put d (.one (.osl k g 0 n))).objs = objs1 := put_objs _ _ _
    have hp := h.toHeap
    rw [eo] at hp
    obtain ⟨xs, hrow, hhv, hs0, hgl⟩ := hp.objs k _ hk
    obtain ⟨xs2, hrow2, hhv2, _, hgl2⟩ := hp.objs to _ hto
    generalize hE' : (⟨upd E.bl to (E.bl k), upd (upd E.hv k (.slice none 0 0)) to (E.hv k)⟩ : Env) = E'
    have ebt : E'.bl to = E.bl k := by rw [← hE']; exact upd_same _ _ _
    have ebn : ∀ j, j ≠ to → E'.bl j = E.bl j := fun j hj => by rw [← hE']; exact upd_ne _ _ hj
    have eht : E'.hv to = E.hv k := by rw [← hE']; exact upd_same _ _ _
    have ehk : E'.hv k = .slice none 0 0 := by rw [← hE']; show upd _ _ _ k = _; rw [upd_ne _ _ hne]; exact upd_same _ _ _
    have ehn : ∀ j, j ≠ to → j ≠ k → E'.hv j = E.hv j := fun j hj hjk => by rw [← hE']; show upd _ _ _ j = _; rw [upd_ne _ _ hj]; exact upd_ne _ _ hjk
    have hot : upd (upd objs1 k (some (.arr el sz (g + 1) 0 fun _ => []))) to (some (.arr el sz (g2 + 1) n get)) to = some (.arr el sz (g2 + 1) n get) := upd_same _ _ _
    have hok : upd (upd objs1 k (some (.arr el sz (g + 1) 0 fun _ => []))) to (some (.arr el sz (g2 + 1) n get)) k = some (.arr el sz (g + 1) 0 fun _ => []) := by
     rw [upd_ne _ _ hne]; exact upd_same _ _ _
    have hon : ∀ j, j ≠ to → j ≠ k → upd (upd objs1 k (some (.arr el sz (g + 1) 0 fun _ => []))) to (some (.arr el sz (g2 + 1) n get)) j = objs1 j := fun j h1 h2 => by
     rw [upd_ne _ _ h1, upd_ne _ _ h2]
    generalize upd (upd objs1 k (some (.arr el sz (g + 1) 0 fun _ => []))) to (some (.arr el sz (g2 + 1) n get)) = objs2 at hot hok hon ⊢
    have mv : Move objs1 E I w objs2 E' I w := by
     refine ⟨fun j oj hj => ?_, fun _ h => h, fun _ _ => rfl⟩
     by_cases h1 : j = to
     ·subst h1
      rw [hto] at hj; injection hj with hj; subst hj
      exact ⟨_, hot, g2 + 1, n, get, rfl, by omega, fun e => by omega⟩
     ·by_cases h2 : j = k
      ·subst h2
       rw [hk] at hj; injection hj with hj; subst hj
       exact ⟨_, hok, g + 1, 0, _, rfl, by omega, fun e => by omega⟩
      ·exact ⟨oj, by rw [hon j h1 h2]; exact hj, ExtO.of_eq (ebn j h1) (ehn j h1 h2) oj⟩
    have blkT : Blk objs2 E' to → Blk objs1 E k := by
     rintro ⟨o1, h1, h2⟩
     rw [hot] at h1; injection h1 with h1; subst h1
     refine Blk.arr hk ?_
     have := h2 _ _ _ _ _ rfl
     rwa [eht] at this
    have blkK : ¬ Blk objs2 E' k := by
     rintro ⟨o1, h1, h2⟩
     rw [hok] at h1; injection h1 with h1; subst h1
     exact h2 _ _ _ _ _ rfl ehk
    have blkN : ∀ j, j ≠ to → j ≠ k → Blk objs2 E' j → Blk objs1 E j := fun j h1 h2 hb => hb.same (hon j h1 h2).symm (ehn j h1 h2).symm
    have hp2 : Heap objs2 E' I w := by
     refine ⟨fun j oj hj => ?_, fun j j' hj hj' hjj => ?_, fun j hj => ?_, fun j hj => ?_, hp.Ilt⟩
     ·by_cases h1 : j = to
      ·subst h1
       rw [hot] at hj; injection hj with hj; subst hj
       refine ⟨xs, by rw [eht]; exact hrow, by rw [eht, ebt]; exact hhv, hs0, fun i hi => ⟨(hgl i hi).1, fun q hq => mv.lri ((hgl i hi).2 q hq)⟩⟩
      ·by_cases h2 : j = k
       ·subst h2
        rw [hok] at hj; injection hj with hj; subst hj
        exact ⟨[], ⟨by simp, .inl ⟨ehk, rfl⟩⟩, .inl ehk, hs0, fun i hi => by omega⟩
       ·rw [hon j h1 h2] at hj
        exact mv.obj (ebn j h1) (ehn j h1 h2) (fun _ => rfl) (hp.objs j oj hj)
     ·have nk : ∀ q, Blk objs2 E' q → q ≠ k := fun q hq e => blkK (e ▸ hq)
      have h2 := nk j hj
      have h2' := nk j' hj'
      by_cases h1 : j = to
      ·subst h1
       rw [ebt, ebn j' (Ne.symm hjj)]
       exact hp.inj k j' (blkT hj) (blkN j' (Ne.symm hjj) h2' hj') (Ne.symm h2')
      ·by_cases h1' : j' = to
       ·subst h1'
        rw [ebt, ebn j h1]
        exact hp.inj j k (blkN j h1 h2 hj) (blkT hj') h2
       ·rw [ebn j h1, ebn j' h1']
        exact hp.inj j j' (blkN j h1 h2 hj) (blkN j' h1' h2' hj') hjj
     ·have h2 : j ≠ k := fun e => blkK (e ▸ hj)
      by_cases h1 : j = to
      ·subst h1; rw [ebt]; exact hp.imm k (blkT hj)
      ·rw [ebn j h1]; exact hp.imm j (blkN j h1 h2 hj)
     ·have h2 : j ≠ k := fun e => blkK (e ▸ hj)
      by_cases h1 : j = to
      ·subst h1; rw [ebt]; exact hp.lt k (blkT hj)
      ·rw [ebn j h1]; exact hp.lt j (blkN j h1 h2 hj)
    have hown := h.own
    have hloc := h.loc
    rw [eo] at hown hloc
    -- the value
    obtain ⟨dd, hdd⟩ := Option.ne_none_iff_exists'.1 hdn
    subst hdd
    have hval := h.tmps dd
    have hts : dd < a.tmps.size := by
     have h1 := h.tsize
     simp only [Act.put, Array.size_setIfInBounds] at h1
     rw [h1]; exact hd dd rfl
    have ev1 : (({ st with objs := objs1 } : St).put (some dd) (.one (.osl k g 0 n))).tmps dd = .one (.osl k g 0 n) := upd_same _ _ _
    have ev2 : (a.put (some dd) val).tmps.getD dd undef = val := by simp [Act.put, Array.getD, hts]
    rw [ev1, ev2, eo] at hval
    have hv2 : VR objs2 E' I w (.one (.osl to (g2 + 1) 0 n)) val := by
     cases hval with
     | one _ _ hval =>
      cases hval with
      | imm _ _ hi => cases hi
      | osl _ _ _ _ el3 sz3 g3 m3 get3 base3 cap3 hk3 hg3 hv3 =>
       rw [hk] at hk3
       injection hk3 with hk3
       injection hk3 with q1 q2 q3 q4 q5
       subst q1 q2 q3 q4 q5
       refine .one _ _ (.osl _ _ _ _ el sz (g2 + 1) n get base3 cap3 hot (Nat.le_refl _) (fun _ hle => ?_))
       rw [eht, ebt]
       exact hv3 rfl hle
    have := h.go (objs' := objs2) (E' := E') (I' := I) (w' := w) hp2 (by rw [eo]; exact mv) (fun b hb => .inl hb) h.fr (fun j hj => ?_) (fun j hjp hj => ?_) (fun j hjp o' ho' => ?_) (some dd) hd _ val hv2
    ·rw [put_put, act_put_put] at this
     exact ⟨E', this⟩
    ·have h2 : j ≠ k := fun e => blkK (e ▸ hj)
     by_cases h1 : j = to
     ·subst h1; rw [ebt]; exact .inr (hloc k hkp (blkT hj))
     ·rw [ebn j h1]; exact hown j (blkN j h1 h2 hj)
    ·have h2 : j ≠ k := fun e => blkK (e ▸ hj)
     by_cases h1 : j = to
     ·subst h1; rw [ebt]; exact hloc k hkp (blkT hj)
     ·rw [ebn j h1]; exact hloc j hjp (blkN j h1 h2 hj)
    ·rw [eo]
     by_cases h1 : j = to
     ·subst h1; exact ⟨_, hto⟩
     ·by_cases h2 : j = k
      ·omega
      ·exact ⟨o', by rw [← hon j h1 h2]; exact ho'⟩
   ·cases ht
  ·cases ht
 ·cases ht
theorem appT_ok (h : Rel w0 O0 E0 I0 nt st E I a w) {o : Oper} (hd : ∀ x, o.dst = some x → x < nt) {c : Call} {t e : TypeId} {s x : Operand} {i : TypeInfo} {z : Value} {v : PV} {objs' : Nat → Option Ob}
  (ho : o.op = .call c) (hc : c.callee = .builtin .append) (ha : c.args.toList = [s, x]) (ht : c.argTypes.toList = [t, t]) (hu : P.underlying t = some (.slice e)) (hi : P.info? e = some i) (hz : i.zero = some z)
  (hzs : z.cells.size = i.size) (hsz : 0 < i.size) (hfix : e < fixM) (hdn : o.dst ≠ none)
  {to : Nat} (he : eff P C st o.dst (.appT to e i.size i.bytes s x) = some (v, objs')) : OpOK P o a w (Left w0 O0 E0 I0 nt st o a objs' v) := by
 simp only [eff] at he
 have hev := h.ev x
 generalize hax : a.eval x = ax at hev
 split at he
 ·rename_i k g n k2 g2 off m hs hx
  rw [hx] at hev
  split at he
  ·rename_i el sz g' tot xget hk
   split at he
   ·rename_i hcond
    obtain ⟨hkk, rfl, rfl, hot⟩ := hcond
    split at he
    ·rename_i r hr
     cases hev with
     | one _ _ hev =>
      cases hev with
      | imm _ _ hv => cases hv
      | osl _ _ _ _ el2 sz2 g2 m2 get2 base2 cap' hk2 hg2 hv2 =>
       rw [hk] at hk2
       injection hk2 with hk2
       injection hk2 with q1 q2 q3 q4 q5
       subst q1 q2 q3 q4 q5
       obtain ⟨news, hsrc⟩ := src_osl h hk hot (.osl _ _ _ _ _ _ _ _ _ base2 cap' hk hg2 hv2)
       have := appP_ok (v := r.1) (objs' := r.2) h hd ho hc ha ht hu hi hz hzs hsz hfix hsrc hax (by rw [hs]; exact hr)
       refine this.mono fun val w' hL => ?_
       obtain ⟨E1, I1, hrel⟩ := hL
       obtain ⟨E2, hrel2⟩ := take_rel hd hdn hrel he
       exact ⟨E2, I1, hrel2⟩
    ·cases he
   ·cases he
  ·cases he
 ·cases he
theorem storeV_ok (h : Rel w0 O0 E0 I0 nt st E I a w) {o : Oper} (hd : ∀ x, o.dst = some x → x < nt) {t : TypeId} {ad x : Operand} {sz : Nat} {nl : List (Nat × Nat)} {v : PV} {objs' : Nat → Option Ob}
  (ho : o.op = .store t ad x) (hsz : szOf P t = some sz)
  (he : eff P C st o.dst (.storeV nl sz ad x) = some (v, objs')) : OpOK P o a w (Left w0 O0 E0 I0 nt st o a objs' v) := by
 simp only [eff] at he
 split at he
 ·cases he
 ·rename_i new hnew
  have hvx := nilP_ok nl (h.ev x)
  obtain ⟨hvs, hvl⟩ := hvx.cells hnew
  have hone := hvx.cells_one hnew
  have hva := h.ev ad
  split at he
  ·rename_i k off hx
   rw [hx] at hva
   split at he
   ·rename_i cs hk
    split at he
    ·rename_i hcond
     obtain ⟨hlen, hoff⟩ := hcond
     simp only [sj, pj] at he
     obtain ⟨rfl, rfl⟩ := he
     obtain ⟨Cc, tt, hb, hCs, _, hl⟩ := h.cells_at hk
     cases hva with
     | one _ _ hva =>
      generalize hax : a.eval ad = ax at hva
      cases hva with
      | imm _ _ hi => cases hi
      | ptr _ _ _ _ =>
       have hrun := store_run (P := P) hsz hb (val := a.eval x) (off := off) (by omega) (by omega) hone
       have hmid := mid_get Cc off (a.eval x).cells.toList (by simp; omega)
       generalize hcur' : (Cc.toList.take off ++ (a.eval x).cells.toList ++ Cc.toList.drop (off + (a.eval x).cells.toList.length)).toArray = cur' at hrun hmid
       refine ok_skip ho hax hrun ⟨_, _, h.change k (.cells cs) (.cells (splice cs off new)) hk ((setRow_wst _ _ _).mono fun b e => ⟨Blk.cells hk, e⟩) (E.bl k) (E.hv k) (fun _ => .inl ⟨Blk.cells hk, rfl⟩) o.dst hd .none undef ⟨⟨_, rfl⟩, upd_same _ _ _⟩ (fun m => ?_) (fun _ => .none _)⟩
       obtain ⟨s1, s2⟩ := splice_get cs new off (by omega)
       refine ⟨cur', tt, by show (World.setRow _ _ _).heap[upd E.bl k (E.bl k) k]? = _; rw [upd_same]; exact setRow_heap w _ Cc _ tt _ hb, ?_, fun j hj => ?_⟩
       ·rw [(hmid 0).1, s1, hCs]
       ·rw [s1] at hj
        rw [(hmid j).2, s2]
        simp only [Array.length_toList, hvs]
        split
        ·rename_i hh
         have e : (a.eval x).cells.toList.getD (j - off) undef = (a.eval x).cells.getD (j - off) undef := by simp
         rw [e]; exact m.lr (hvl _ (by omega))
        ·exact m.lr (hl j hj)
    ·cases he
   ·cases he
  ·rename_i k g i off hx
   rw [hx] at hva
   split at he
   ·rename_i el esz g' n get hk
    split at he
    ·rename_i hcond
     obtain ⟨rfl, hin, hlen, hoff, hcl⟩ := hcond
     simp only [sj, pj] at he
     obtain ⟨rfl, rfl⟩ := he
     have hnn := h.arr_nn hk (by omega)
     obtain ⟨xs, cap, cur, tr, fz, e1, hb, hcap, hncap, ⟨hfz, hty⟩, htk, hxl, hs0, hgl, hc, hl⟩ := h.arr_at hk hnn
     cases hva with
     | one _ _ hva =>
      generalize hax : a.eval ad = ax at hva
      cases hva with
      | imm _ _ hi => cases hi
      | aptr _ _ _ _ el2 sz2 g2 n2 get2 b2 o2 hk2 hg2 hv2 =>
       rw [hk] at hk2
       injection hk2 with hk2
       injection hk2 with q1 q2 q3 q4 q5
       subst q1 q2 q3 q4 q5
       obtain ⟨r1, r2⟩ := hv2 rfl hin
       subst r1 r2
       have hlt : i * esz + esz ≤ n * esz := by
        calc i * esz + esz = (i + 1) * esz := by rw [Nat.add_mul, Nat.one_mul]
         _ ≤ n * esz := Nat.mul_le_mul_right _ hin
       have hrun := store_runB (P := P) hsz hb (val := a.eval x) (off := i * esz + off) (by omega) (by omega) (by omega) hone
       have hmid := mid_get cur (i * esz + off) (a.eval x).cells.toList (by simp; omega)
       generalize hcur' : (cur.toList.take (i * esz + off) ++ (a.eval x).cells.toList ++ cur.toList.drop (i * esz + off + (a.eval x).cells.toList.length)).toArray = cur' at hrun hmid
       refine ok_skip ho hax hrun ⟨_, _, h.change k (.arr el esz g n get) (.arr el esz g n fun j => if j = i then splice (get i) off new else get j) hk ((setRow_wst _ _ _).mono fun b e => ⟨Blk.arr hk hnn, e⟩) (E.bl k) (E.hv k) (fun _ => .inl ⟨Blk.arr hk hnn, rfl⟩) o.dst hd .none undef
        ⟨g, n, _, rfl, Nat.le_refl _, fun _ => ⟨rfl, upd_same _ _ _, upd_same _ _ _⟩⟩ (fun m => ?_) (fun _ => .none _)⟩
       refine ⟨cur'.toList.take (n * esz), ?_, .inr ⟨cap, ?_⟩, hs0, fun j hj => ?_⟩
       rotate_left
       ·show upd E.hv k (E.hv k) k = .slice (some ⟨upd E.bl k (E.bl k) k, 0, none⟩) n cap
        rw [upd_same, upd_same]; exact e1
       rotate_left
       ·show rowW (World.setRow _ _ _) el esz (upd E.hv k (E.hv k) k) n _
        rw [upd_same]
        refine ⟨by simp [(hmid 0).1]; omega, .inr ⟨E.bl k, cap, cur', tr, fz, e1, setRow_heap w _ cur cur' tr _ hb, hcap, by rw [(hmid 0).1]; exact hncap, hfz, rfl, fun hel => ?_⟩⟩
        obtain ⟨q1, q2, q3, q4⟩ := hty hel
        exact ⟨q1, q2, q3, by rw [(hmid 0).1, q4]⟩
       ·obtain ⟨s1, s2⟩ := splice_get (get i) new off (by rw [hgl i hin]; omega)
        have hjl : j * esz + esz ≤ n * esz := by
         calc j * esz + esz = (j + 1) * esz := by rw [Nat.add_mul, Nat.one_mul]
          _ ≤ n * esz := Nat.mul_le_mul_right _ hj
        refine ⟨by
         show (if j = i then splice (get i) off new else get j).length = esz
         split
         ·rw [s1]; exact hgl i hin
         ·exact hgl j hj, fun q hq => ?_⟩
        have ex : (cur'.toList.take (n * esz)).getD (j * esz + q) undef = cur'.getD (j * esz + q) undef := by
         rw [List.getD_eq_getElem?_getD, List.getElem?_take, if_pos (by omega), Array.getElem?_toList, Array.getD_eq_getD_getElem?]
        have ex2 : cur.getD (j * esz + q) undef = xs.getD (j * esz + q) undef := by
         rw [← htk, List.getD_eq_getElem?_getD, List.getElem?_take, if_pos (by omega), Array.getElem?_toList, Array.getD_eq_getD_getElem?]
        rw [ex, (hmid _).2]
        simp only [Array.length_toList, hvs]
        by_cases hji : j = i
        ·subst hji
         rw [if_pos rfl, s2]
         by_cases hqq : off ≤ q ∧ q < off + new.length
         ·rw [if_pos hqq, if_pos (by omega)]
          have e : (a.eval x).cells.toList.getD (j * esz + q - (j * esz + off)) undef = (a.eval x).cells.getD (q - off) undef := by
           rw [show j * esz + q - (j * esz + off) = q - off by omega]; simp
          rw [e]
          refine m.lri (LR.clean (st := st) (E := E) (hvl _ (by omega)) ?_)
          have hmem : new.getD (q - off) default ∈ new := by
           rw [List.getD_eq_getElem?_getD, List.getElem?_eq_getElem (by omega)]; simp
          exact List.all_eq_true.1 hcl _ hmem
         ·rw [if_neg hqq, if_neg (by omega), ex2]
          exact m.lri (hl j hj q hq)
        ·rw [if_neg hji]
         have hne : ¬ (i * esz + off ≤ j * esz + q ∧ j * esz + q < i * esz + off + new.length) := by
          rcases Nat.lt_or_gt_of_ne hji with hlt' | hgt
          ·have : j * esz + esz ≤ i * esz := by
            calc j * esz + esz = (j + 1) * esz := by rw [Nat.add_mul, Nat.one_mul]
             _ ≤ i * esz := Nat.mul_le_mul_right _ hlt'
           omega
          ·have : i * esz + esz ≤ j * esz := by
            calc i * esz + esz = (i + 1) * esz := by rw [Nat.add_mul, Nat.one_mul]
             _ ≤ j * esz := Nat.mul_le_mul_right _ hgt
           omega
         rw [if_neg hne, ex2]
         exact m.lri (hl j hj q hq)
    ·cases he
   ·cases he
  ·cases he
theorem buildV_ok (h : Rel w0 O0 E0 I0 nt st E I a w) {o : Oper} (hd : ∀ x, o.dst = some x → x < nt) {t : TypeId} {parts : Array (Nat × Operand)} {place : Nat → Option (Nat × Nat)} {z : Value} {l : List (Nat × Nat × Operand)} {nl : List (Nat × Nat)} {v : PV} {objs' : Nat → Option Ob}
  (ho : o.op = .build t parts) (hl : partsOf place parts.toList = some l)
  (hb : ∀ cells, Instr.fill place z.cells (parts.map fun (i, x) => (i, a.eval x)).toList = some cells → P.built t (parts.map fun (i, x) => (i, a.eval x)).toList = some cells)
  (he : eff P C st o.dst (.buildV nl z l) = some (v, objs')) : OpOK P o a w (Left w0 O0 E0 I0 nt st o a objs' v) := by
 simp only [eff] at he
 split at he
 ·rename_i cs hcs
  simp only [mj, pj] at he
  obtain ⟨r, hr, rfl, rfl⟩ := he
  obtain ⟨z1, z2⟩ := (ofVal_vr st.objs E I w z).cells hcs
  obtain ⟨C', c1, c2, c3⟩ := fill_ok (w := w) (E := E) (I := I) (objs := st.objs) (st := st) (a := a) (fun x => h.ev x) place parts.toList l cs z.cells r hl hr z1 z2
  have hrun := run_build (P := P) w t (parts.map fun (i, x) => (i, a.eval x)) C' (hb C' (by rw [Array.toList_map]; exact c1))
  refine ok_step h hd (val := .agg C') ?_ (Wst.refl _ _) (nilP_ok nl (.agg _ _ c2 c3))
  unfold execOp
  simp only [ho, Sem.run_bind, hrun, Result.andThen_ok]; rfl
 ·cases he
theorem freeze_rel {objs1 objs2 : Nat → Option Ob} {v v2 : PV} {val : Value} {d : Option Nat} (hd : ∀ x, d = some x → x < nt) (hdn : d ≠ none)
  (h : Rel w0 O0 E0 I0 nt (({ st with objs := objs1 } : St).put d v) E I (a.put d val) w) (ht : freezeO (v, objs1) = some (v2, objs2)) :
  ∃ E' I', Rel w0 O0 E0 I0 nt (({ st with objs := objs2 } : St).put d v2) E' I' (a.put d val) w := by
 unfold freezeO at ht
 split at ht
 ·rename_i k g n objs heq
  simp only [pj] at heq
  obtain ⟨rfl, rfl⟩ := heq
  split at ht
  ·rename_i el sz g1 n1 get hk
   split at ht
   ·rename_i hc
    obtain ⟨rfl, rfl, hkp⟩ := hc
    simp only [sj, pj] at ht
    obtain ⟨rfl, rfl⟩ := ht
    have eo : (({ st with objs := objs1 } : St).put d (.one (.osl k g 0 n))).objs = objs1 := put_objs _ _ _
    have hp := h.toHeap
    rw [eo] at hp
    have hown := h.own
    have hloc := h.loc
    rw [eo] at hown hloc
    obtain ⟨xs, hrow, hhv, hs0, hgl⟩ := hp.objs k _ hk
    generalize hE' : (⟨E.bl, upd E.hv k (.slice none 0 0)⟩ : Env) = E'
    have ebn : ∀ j, E'.bl j = E.bl j := fun j => by rw [← hE']
    have ehk : E'.hv k = .slice none 0 0 := by rw [← hE']; exact upd_same _ _ _
    have ehn : ∀ j, j ≠ k → E'.hv j = E.hv j := fun j hjk => by rw [← hE']; exact upd_ne _ _ hjk
    have hok : upd objs1 k (some (.arr el sz (g + 1) 0 fun _ => [])) k = some (.arr el sz (g + 1) 0 fun _ => []) := upd_same _ _ _
    have hon : ∀ j, j ≠ k → upd objs1 k (some (.arr el sz (g + 1) 0 fun _ => [])) j = objs1 j := fun j h2 => upd_ne _ _ h2
    generalize upd objs1 k (some (.arr el sz (g + 1) 0 fun _ => [])) = objs2 at hok hon ⊢
    let I' : Nat → Prop := fun b => I b ∨ (E.hv k ≠ .slice none 0 0 ∧ b = E.bl k)
    have mv : Move objs1 E I w objs2 E' I' w := by
     refine ⟨fun j oj hj => ?_, fun _ h => .inl h, fun _ _ => rfl⟩
     by_cases h2 : j = k
     ·subst h2
      rw [hk] at hj; injection hj with hj; subst hj
      exact ⟨_, hok, g + 1, 0, _, rfl, by omega, fun e => by omega⟩
     ·exact ⟨oj, by rw [hon j h2]; exact hj, ExtO.of_eq (ebn j) (ehn j h2) oj⟩
    have blkK : ¬ Blk objs2 E' k := by
     rintro ⟨o1, h1, h2⟩
     rw [hok] at h1; injection h1 with h1; subst h1
     exact h2 _ _ _ _ _ rfl ehk
    have nk : ∀ q, Blk objs2 E' q → q ≠ k := fun q hq e => blkK (e ▸ hq)
    have blkN : ∀ j, Blk objs2 E' j → Blk objs1 E j := fun j hb => hb.same (hon j (nk j hb)).symm (ehn j (nk j hb)).symm
    have hp2 : Heap objs2 E' I' w := by
     refine ⟨fun j oj hj => ?_, fun j j' hj hj' hjj => ?_, fun j hj => ?_, fun j hj => ?_, fun b hb => ?_⟩
     ·by_cases h2 : j = k
      ·subst h2
       rw [hok] at hj; injection hj with hj; subst hj
       exact ⟨[], ⟨by simp, .inl ⟨ehk, rfl⟩⟩, .inl ehk, hs0, fun i hi => by omega⟩
      ·rw [hon j h2] at hj
       exact mv.obj (ebn j) (ehn j h2) (fun _ => rfl) (hp.objs j oj hj)
     ·rw [ebn, ebn]; exact hp.inj j j' (blkN j hj) (blkN j' hj') hjj
     ·rw [ebn]
      rintro (hI | ⟨hnn, e⟩)
      ·exact hp.imm j (blkN j hj) hI
      ·exact hp.inj j k (blkN j hj) (Blk.arr hk hnn) (nk j hj) e
     ·rw [ebn]; exact hp.lt j (blkN j hj)
     ·rcases hb with hb | ⟨hnn, e⟩
      ·exact hp.Ilt b hb
      ·rw [e]; exact hp.lt k (Blk.arr hk hnn)
    obtain ⟨dd, hdd⟩ := Option.ne_none_iff_exists'.1 hdn
    subst hdd
    have hval := h.tmps dd
    have hts : dd < a.tmps.size := by
     have h1 := h.tsize
     simp only [Act.put, Array.size_setIfInBounds] at h1
     rw [h1]; exact hd dd rfl
    have ev1 : (({ st with objs := objs1 } : St).put (some dd) (.one (.osl k g 0 n))).tmps dd = .one (.osl k g 0 n) := upd_same _ _ _
    have ev2 : (a.put (some dd) val).tmps.getD dd undef = val := by simp [Act.put, Array.getD, hts]
    rw [ev1, ev2, eo] at hval
    have hv2 : VR objs2 E' I' w (.one (.view sz n fun i => if i < n then get (0 + i) else [])) val := by
     cases hval with
     | one _ _ hval =>
      exact .one _ _ (.imm _ _ (view_of_osl (fun _ _ _ _ _ _ hk => hp.objs _ _ hk) hk (by omega) hval (fun b hb => .inl hb) (fun hnn => .inr ⟨hnn, rfl⟩)))
    have := h.go (objs' := objs2) (E' := E') (I' := I') (w' := w) hp2 (by rw [eo]; exact mv) (fun b hb => ?_) h.fr (fun j hj => ?_) (fun j hjp hj => ?_) (fun j hjp o' ho' => ?_) (some dd) hd _ val hv2
    ·rw [put_put, act_put_put] at this
     exact ⟨E', I', this⟩
    ·rcases hb with hb | ⟨hnn, e⟩
     ·exact .inl hb
     ·rw [e]; exact .inr (hloc k hkp (Blk.arr hk hnn))
    ·rw [ebn j]; exact hown j (blkN j hj)
    ·rw [ebn j]; exact hloc j hjp (blkN j hj)
    ·rw [eo]
     by_cases h2 : j = k
     ·omega
     ·exact ⟨o', by rw [← hon j h2]; exact ho'⟩
   ·cases ht
  ·cases ht
 ·cases ht
theorem appF_ok (h : Rel w0 O0 E0 I0 nt st E I a w) {o : Oper} (hd : ∀ x, o.dst = some x → x < nt) {c : Call} {t e : TypeId} {s x : Operand} {i : TypeInfo} {z : Value} {v : PV} {objs' : Nat → Option Ob}
  (ho : o.op = .call c) (hc : c.callee = .builtin .append) (ha : c.args.toList = [s, x]) (ht : c.argTypes.toList = [t, t]) (hu : P.underlying t = some (.slice e)) (hi : P.info? e = some i) (hz : i.zero = some z)
  (hzs : z.cells.size = i.size) (hsz : 0 < i.size) (hfix : e < fixM) (hdn : o.dst ≠ none)
  (he : eff P C st o.dst (.appF e i.size i.bytes s x) = some (v, objs')) : OpOK P o a w (Left w0 O0 E0 I0 nt st o a objs' v) := by
 simp only [eff] at he
 have hev := h.ev x
 generalize hax : a.eval x = ax at hev
 split at he
 ·rename_i k g n sz m xget hs hx
  rw [hx] at hev
  split at he
  ·rename_i hsz'
   subst hsz'
   split at he
   ·rename_i r hr
    cases hev with
    | one _ _ hev =>
     cases hev with
     | imm _ _ hv =>
      have hv' := hv
      cases hv with
      | view _ _ _ base cap vv hcap hlen hb hel =>
       obtain ⟨news, hsrc⟩ := src_view hsz hv'
       have := appP_ok (v := r.1) (objs' := r.2) h hd ho hc ha ht hu hi hz hzs hsz hfix hsrc hax (by rw [hs]; exact hr)
       refine this.mono fun val w' hL => ?_
       obtain ⟨E1, I1, hrel⟩ := hL
       obtain ⟨E2, I2, hrel2⟩ := freeze_rel hd hdn hrel he
       exact ⟨E2, I2, hrel2⟩
   ·cases he
  ·cases he
 ·cases he
end
end Go.Rx
