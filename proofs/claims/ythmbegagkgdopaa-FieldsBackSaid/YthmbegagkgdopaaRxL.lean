/-
  Rx, part L: code and whole functions.
-/
import Derived.Test.YthmbegagkgdopaaRxK
import Derived.LoopN
namespace Go.Rx
open Go Go.RowKit

def compRes (P : Program) : List (List (Nat × Nat)) → List ResultVar → Option (List PRes)
  | _, [] => some []
  | nls, .tmp t :: rs => match compRes P nls.tail rs with
    | some l => some (.tmp t (nls.headD []) :: l)
    | none => none
  | nls, .cell a t :: rs => match aggOf P t, szOf P t, compRes P nls.tail rs with
    | some ag, some sz, some l => some (.cell a ag sz (nls.headD []) :: l)
    | _, _, _ => none

def compFn (P : Program) (A : Ann) (fn : Func) : Option PFunc :=
  match fn.body with
  | none => none
  | some c => match comp P A fn.ntmps c, compRes P (nilsAll P fn.resultTypes.toList) fn.results.toList with
    | some b, some rs => if fn.ntmps ≤ pbase ∧ (fn.name == "runtime.NumGoroutine") = false then some ⟨fn.ntmps, rs, b⟩ else none
    | _, _ => none

section
variable {P : Program} {C : Oracle} {w0 : World} {bl0 : List Nat} {I0 : Nat → Prop} {nt : Nat} {st : St} {E : Env} {I : Nat → Prop} {a : Act} {w : World} {ops : Array Oper} {Q : Exit → Act → World → Prop}

theorem region_ok (hC : Meets P C) (hm : P.follows .mixedOrders = true) {id : Nat} {ops : Array Oper} {draw : Bool} {A : Ann} {pl : List POper} (hc : compOps P A draw ops nt ops.toList = some pl)
    (hl : (!draw || lexP ops pl ops.size 0 (Array.replicate ops.size false)) = true) {st st' : St} (hp : pOps P C pl st = some st') (h : RelX w0 bl0 I0 nt st a w) (hQ : ∀ a' w', RelX w0 bl0 I0 nt st' a' w' → Q .normal a' w') :
    (Code.region id ops draw).wp P Q a w := by
  cases draw with
  | false =>
    refine wp_region ?_
    rw [List.range_eq_range']
    have := pOps_wp (ops := ops) (Q := Q) hC ops.toList pl 0 st st' a w (fun j => by simp) hc hp h hQ
    simpa using this
  | true =>
    obtain ⟨g1, g2⟩ := compOps_get _ _ hc
    have hs : ops.size = pl.length := by simpa using g1
    refine wp_region_any hm ?_
    have h' : RelX w0 bl0 I0 nt st a { w with drawn := w.drawn + 1 } := by
      obtain ⟨E, I, h⟩ := h
      have := h.step (Wst.drawn (fun _ => False) w (w.drawn + 1)) none (fun x hx => by cases hx) .none undef (.none _)
      exact ⟨E, I, this⟩
    refine wpAny_of_pAny (C := C) (pops := pl) (QS := fun s => s = st') hC (fun i o hi => g2 i o (by simpa using hi)) (fun s a w e h => by subst e; exact hQ a w h) _ _ st a _ h' ?_
    rw [hs]
    refine pAny_lex pl 0 _ st st' (fun j => by simp) hs ?_ hp rfl
    rw [← hs]
    simpa using hl

theorem evCode_ok (hC : Meets P C) (hm : P.follows .mixedOrders = true) (A : Ann) (n : Nat) : ∀ (c : Code) (pc : PCode), comp P A nt c = some pc → ∀ (st : St) (ex : PEx) (st' : St) (a : Act) (w : World),
    evCode P C n pc st = some (ex, st') → RelX w0 bl0 I0 nt st a w → c.wp P (fun e a' w' => e = ex.exit? ∧ RelX w0 bl0 I0 nt st' a' w') a w := by
  intro c
  induction c with
  | skip =>
    intro pc hc st ex st' a w he h
    simp only [comp, Option.some.injEq] at hc; subst hc
    simp only [evCode, Option.some.injEq, Prod.mk.injEq] at he
    obtain ⟨rfl, rfl⟩ := he
    exact wp_skip ⟨rfl, h⟩
  | region id ops draw =>
    intro pc hc st ex st' a w he h
    simp only [comp] at hc
    split at hc
    · rename_i pl hpl
      split at hc
      · rename_i hl
        simp only [Option.some.injEq] at hc; subst hc
        simp only [evCode] at he
        split at he
        · cases he
        · rename_i st1 hst1
          have h1 : RelX w0 bl0 I0 nt st1 a w := by
            cases hk : A.kr id with
            | none => rw [hk] at hst1; simp only [Option.some.injEq] at hst1; subst hst1; exact h
            | some q => obtain ⟨ts, os⟩ := q; rw [hk] at hst1; exact restrict_ok h hst1
          split at he
          · rename_i st2 hp
            simp only [Option.some.injEq, Prod.mk.injEq] at he
            obtain ⟨rfl, rfl⟩ := he
            exact region_ok hC hm hpl hl hp h1 (fun a' w' h' => ⟨rfl, h'⟩)
          · cases he
      · cases hc
    · cases hc
  | seq x y ihx ihy =>
    intro pc hc st ex st' a w he h
    simp only [comp] at hc
    split at hc
    · rename_i px py hx hy
      simp only [Option.some.injEq] at hc; subst hc
      simp only [evCode] at he
      split at he
      · rename_i st1 h1
        refine wp_seq (wp_mono (ihx px hx st .normal st1 a w h1 h) ?_)
        rintro e a' w' ⟨rfl, h'⟩
        exact ihy py hy st1 ex st' a' w' he h'
      · rename_i hne
        refine wp_seq (wp_mono (ihx px hx st ex st' a w he h) ?_)
        rintro e a' w' ⟨rfl, h'⟩
        cases ex with
        | normal => exact absurd he (hne _)
        | exit id => exact ⟨rfl, h'⟩
        | ret => exact ⟨rfl, h'⟩
    · cases hc
  | cond c x y ihx ihy =>
    intro pc hc st ex st' a w he h
    simp only [comp] at hc
    split at hc
    · rename_i px py hx hy
      simp only [Option.some.injEq] at hc; subst hc
      simp only [evCode] at he
      split at he
      · rename_i t ht
        have hct : a.eval c = .bool t := by
          obtain ⟨E, I, h⟩ := h
          have hev := h.ev c
          rw [ht] at hev
          generalize a.eval c = ac at hev
          cases hev with
          | one _ _ hev => exact LR.ofVal hev
        refine wp_cond hct ?_
        cases t with
        | true => exact ihx px hx st ex st' a w he h
        | false => exact ihy py hy st ex st' a w he h
      · cases he
    · cases hc
  | block id x ih =>
    intro pc hc st ex st' a w he h
    simp only [comp] at hc
    split at hc
    · rename_i px hx
      simp only [Option.some.injEq] at hc; subst hc
      simp only [evCode] at he
      split at he
      · rename_i id' st1 h1
        refine wp_block (wp_mono (ih px hx st (.exit id') st1 a w h1 h) ?_)
        rintro e a' w' ⟨rfl, h'⟩
        show Exit.inBlock id _ (.exit id') a' w'
        unfold Exit.inBlock
        split at he
        · rename_i hid
          simp only [Option.some.injEq, Prod.mk.injEq] at he
          obtain ⟨rfl, rfl⟩ := he
          simp only [hid, if_true]
          exact ⟨rfl, h'⟩
        · rename_i hid
          simp only [Option.some.injEq, Prod.mk.injEq] at he
          obtain ⟨rfl, rfl⟩ := he
          simp only [hid, if_false]
          exact ⟨rfl, h'⟩
      · rename_i hne
        refine wp_block (wp_mono (ih px hx st ex st' a w he h) ?_)
        rintro e a' w' ⟨rfl, h'⟩
        cases ex with
        | normal => exact ⟨rfl, h'⟩
        | exit id' => exact absurd he (hne _ _)
        | ret => exact ⟨rfl, h'⟩
    · cases hc
  | loop x ih =>
    intro pc hc st ex st' a w he h
    simp only [comp] at hc
    split at hc
    · rename_i px hx
      simp only [Option.some.injEq] at hc; subst hc
      simp only [evCode] at he
      have key : ∀ (m : Nat) (st : St) (a : Act) (w : World), iter (evCode P C n px) m st = some (ex, st') → RelX w0 bl0 I0 nt st a w →
          Code.rounds P x (fun e a' w' => e = ex.exit? ∧ RelX w0 bl0 I0 nt st' a' w') m a w := by
        intro m
        induction m with
        | zero => intro st a w he _; simp [iter] at he
        | succ m ihm =>
          intro st a w he h
          simp only [iter] at he
          rw [rounds_succ]
          split at he
          · rename_i st1 h1
            refine wp_mono (ih px hx st .normal st1 a w h1 h) ?_
            rintro e a' w' ⟨rfl, h'⟩
            exact ihm st1 a' w' he h'
          · rename_i hne
            refine wp_mono (ih px hx st ex st' a w he h) ?_
            rintro e a' w' ⟨rfl, h'⟩
            cases ex with
            | normal => exact absurd he (hne _)
            | exit id => exact ⟨rfl, h'⟩
            | ret => exact ⟨rfl, h'⟩
      exact wp_loop_rounds n (key n st a w he h)
    · cases hc
  | rangeFunc => intro pc hc; simp [comp] at hc
  | exit id =>
    intro pc hc st ex st' a w he h
    simp only [comp, Option.some.injEq] at hc; subst hc
    simp only [evCode, Option.some.injEq, Prod.mk.injEq] at he
    obtain ⟨rfl, rfl⟩ := he
    exact wp_exit ⟨rfl, h⟩
  | scope x ih =>
    intro pc hc st ex st' a w he h
    simp only [comp] at hc
    split at hc
    · rename_i px hx
      simp only [Option.some.injEq] at hc; subst hc
      simp only [evCode] at he
      refine wp_scope_straight (wp_mono (ih px hx st ex st' a w he h) ?_)
      rintro e a' w' ⟨rfl, h'⟩
      cases ex with
      | normal => exact ⟨rfl, h'⟩
      | exit id => exact ⟨rfl, h'⟩
      | ret => exact ⟨rfl, h'⟩
    · cases hc
  | label l =>
    intro pc hc st ex st' a w he h
    simp only [comp, Option.some.injEq] at hc; subst hc
    simp only [evCode, Option.some.injEq, Prod.mk.injEq] at he
    obtain ⟨rfl, rfl⟩ := he
    exact wp_label ⟨rfl, h⟩
  | goto => intro pc hc; simp [comp] at hc
  | ret =>
    intro pc hc st ex st' a w he h
    simp only [comp, Option.some.injEq] at hc; subst hc
    simp only [evCode, Option.some.injEq, Prod.mk.injEq] at he
    obtain ⟨rfl, rfl⟩ := he
    exact wp_ret ⟨rfl, h⟩
  | refuse => intro pc hc; simp [comp] at hc

/-! ### results -/

def Iend (I : Nat → Prop) (objs : Nat → Option Ob) (E : Env) (b : Nat) : Prop := I b ∨ arrBlock objs E b

theorem freeze_lr (h : Rel w0 bl0 I0 nt st E I a w) {l l' : Lf} {v : Value} (hf : l.freeze st.objs = some l') (hv : LR st.objs E I w l v) : LRi (Iend I st.objs E) w l' v := by
  cases l with
  | val u =>
    simp only [Lf.freeze, Option.some.injEq] at hf; subst hf
    have := LR.ofVal hv
    subst this
    exact .val _ hv.one
  | view sz n get =>
    simp only [Lf.freeze, Option.some.injEq] at hf; subst hf
    cases hv with
    | imm _ _ hv => exact hv.mono (fun _ h => .inl h) (fun _ _ => rfl)
  | osl k g off n =>
    simp only [Lf.freeze] at hf
    split at hf
    · rename_i el sz g' m get hk
      split at hf
      · rename_i hc
        obtain ⟨rfl, hot⟩ := hc
        simp only [Option.some.injEq] at hf; subst hf
        exact view_of_osl h hk hot hv (fun _ h => .inl h) (.inr ⟨k, el, sz, g, m, get, hk, rfl⟩)
      · cases hf
    · cases hf
  | _ => simp [Lf.freeze] at hf

theorem freezeL_at {objs : Nat → Option Ob} : ∀ (cs cs' : List Lf), freezeL objs cs = some cs' → cs'.length = cs.length ∧ ∀ j, j < cs.length → (cs.getD j default).freeze objs = some (cs'.getD j default)
  | [], cs', h => by
    simp only [freezeL, Option.some.injEq] at h; subst h
    exact ⟨rfl, fun j hj => by simp at hj⟩
  | l :: ls, cs', h => by
    simp only [freezeL] at h
    split at h
    · rename_i x y hx hy
      simp only [Option.some.injEq] at h; subst h
      obtain ⟨i1, i2⟩ := freezeL_at ls y hy
      refine ⟨by simp [i1], fun j hj => ?_⟩
      cases j with
      | zero => exact hx
      | succ j => exact i2 j (by simpa using hj)
    · cases h

theorem freeze_vr (h : Rel w0 bl0 I0 nt st E I a w) {p q : PV} {v : Value} (hf : p.freeze st.objs = some q) (hv : VR st.objs E I w p v) : VR (fun _ => none) noEnv (Iend I st.objs E) w q v := by
  cases hv with
  | none => simp [PV.freeze] at hf
  | one l v hv =>
    simp only [PV.freeze, Option.map_eq_some_iff] at hf
    obtain ⟨l', h1, rfl⟩ := hf
    exact .one _ _ (.imm _ _ (freeze_lr h h1 hv))
  | agg cs Cc hC hl =>
    simp only [PV.freeze, Option.map_eq_some_iff] at hf
    obtain ⟨cs', h1, rfl⟩ := hf
    obtain ⟨i1, i2⟩ := freezeL_at cs cs' h1
    exact .agg _ _ (by rw [i1]; exact hC) (fun j hj => .imm _ _ (freeze_lr h (i2 j (by omega)) (hl j (by omega))))
  | tup => simp [PV.freeze] at hf

theorem undef_tuple {p : PV} {objs : Nat → Option Ob} {q : PV} (hf : p.freeze objs = some q) : p ≠ .none := fun e => by subst e; simp [PV.freeze] at hf

def resSem (tmps : Array Value) : ResultVar → Sem Value
  | .tmp t => pure (tmps.getD t undef)
  | .cell ad t => do loadVar t (← asAddr (tmps.getD ad undef))

theorem results_eq (fn : Func) (tmps : Array Value) : results fn tmps = (do
    let vs ← fn.results.mapM (resSem tmps)
    pure (if h : vs.size = 1 then vs[0] else .tuple vs)) := by
  unfold results
  congr 1

theorem resOf_ok (h : Rel w0 bl0 I0 nt st E I a w) : ∀ (nls : List (List (Nat × Nat))) (rvs : List ResultVar) (prs : List PRes) (vs : List PV), compRes P nls rvs = some prs → ressOf st prs = some vs →
    ∃ us : List Value, (rvs.mapM (resSem a.tmps)).run P w = .ok us w ∧ us.length = vs.length ∧
      ∀ j, j < vs.length → VR (fun _ => none) noEnv (Iend I st.objs E) w (vs.getD j .none) (us.getD j undef)
  | nls, [], prs, vs, hc, hr => by
    simp only [compRes, Option.some.injEq] at hc; subst hc
    simp only [ressOf, Option.some.injEq] at hr; subst hr
    exact ⟨[], rfl, rfl, fun j hj => by simp at hj⟩
  | nls, .tmp t :: rvs, prs, vs, hc, hr => by
    simp only [compRes] at hc
    split at hc
    · rename_i l hl
      simp only [Option.some.injEq] at hc; subst hc
      simp only [ressOf] at hr
      split at hr
      · rename_i x xs hx hxs
        simp only [Option.some.injEq] at hr; subst hr
        obtain ⟨us, u1, u2, u3⟩ := resOf_ok h nls.tail rvs l xs hl hxs
        refine ⟨a.tmps.getD t undef :: us, ?_, by simp [u2], fun j hj => ?_⟩
        · rw [List.mapM_cons, Sem.run_bind, resSem, Sem.run_pure, Result.andThen_ok, Sem.run_bind, u1]; rfl
        · cases j with
          | zero =>
            simp only [resOf, Option.map_eq_some_iff] at hx
            obtain ⟨q, hq, rfl⟩ := hx
            exact nilP_ok _ (freeze_vr h hq (h.tmps t))
          | succ j => exact u3 j (by simpa using hj)
      · cases hr
    · cases hc
  | nls, .cell ad t :: rvs, prs, vs, hc, hr => by
    simp only [compRes] at hc
    split at hc
    · rename_i ag sz l hag hsz hl
      simp only [Option.some.injEq] at hc; subst hc
      simp only [ressOf] at hr
      split at hr
      · rename_i x xs hx hxs
        simp only [Option.some.injEq] at hr; subst hr
        obtain ⟨us, u1, u2, u3⟩ := resOf_ok h nls.tail rvs l xs hl hxs
        simp only [resOf] at hx
        have hta := h.tmps ad
        generalize hat : a.tmps.getD ad undef = at' at hta
        split at hx
        · rename_i k off hk0
          rw [hk0] at hta
          split at hx
          · rename_i cs hk
            split at hx
            · rename_i v hv
              cases hta with
              | one _ _ hta =>
                cases hta with
                | imm _ _ hi => cases hi
                | ptr _ _ cs' _ =>
                  obtain ⟨Cc, tt, _, _, hcell, hl2⟩ := h.cells_at hk
                  obtain ⟨val, r1, r2⟩ := read_ok hag hsz hcell hl2 hv
                  rw [Nat.zero_add] at r1
                  refine ⟨val :: us, ?_, by simp [u2], fun j hj => ?_⟩
                  · have hA : (asAddr (a.tmps.getD ad undef)).run P w = .ok ⟨E.bl k, off, none⟩ w := by rw [hat]; rfl
                    rw [List.mapM_cons, Sem.run_bind, resSem]
                    simp only [Sem.run_bind, hA, Sem.run_pure, Result.andThen_ok, r1, u1]
                  · cases j with
                    | zero =>
                      simp only [Option.map_eq_some_iff] at hx
                      obtain ⟨q, hq, rfl⟩ := hx
                      exact nilP_ok _ (freeze_vr h hq r2)
                    | succ j => exact u3 j (by simpa using hj)
            · cases hx
          · cases hx
        · cases hx
      · cases hr
    · cases hc

theorem backOf_ok (h : Rel w0 bl0 I0 nt st E I a w) : ∀ (n j : Nat) (os : List (List Lf)), backOf st j n = some os → os.length = n ∧ ∀ (i : Nat) (cs : List Lf), os[i]? = some cs →
    ∃ C t, w.heap[bl0.getD (j + i) 0]? = some (.cells C t (0, 0)) ∧ C.size = cs.length ∧ ∀ q, q < cs.length → LRi (Iend I st.objs E) w (cs.getD q default) (C.getD q undef)
  | 0, j, os, hb => by
    simp only [backOf, Option.some.injEq] at hb; subst hb
    exact ⟨rfl, fun i cs hi => by simp at hi⟩
  | n + 1, j, os, hb => by
    simp only [backOf] at hb
    split at hb
    · rename_i cs hk
      split at hb
      · rename_i x y hx hy
        simp only [Option.some.injEq] at hb; subst hb
        obtain ⟨i1, i2⟩ := backOf_ok h n (j + 1) y hy
        refine ⟨by simp [i1], fun i cs' hi => ?_⟩
        cases i with
        | zero =>
          simp at hi; subst hi
          obtain ⟨Cc, t, q1, q2, q3⟩ := h.objs _ _ hk
          obtain ⟨f1, f2⟩ := freezeL_at cs x hx
          refine ⟨Cc, t, by rw [Nat.add_zero, ← h.par j (by rw [hk]; rfl)]; exact q1, by rw [f1]; exact q2, fun q hq => freeze_lr h (f2 q (by omega)) (q3 q (by omega))⟩
        | succ i =>
          have := i2 i cs' (by simpa using hi)
          rw [show j + (i + 1) = j + 1 + i by omega]
          exact this
      · cases hb
    · cases hb

end

theorem nodup_getD {l : List Nat} (hn : l.Nodup) (q q' : Nat) (h : q < l.length) (h' : q' < l.length) (e : l.getD q 0 = l.getD q' 0) : q = q' := by
  rw [List.getD_eq_getElem?_getD, List.getD_eq_getElem?_getD, List.getElem?_eq_getElem h, List.getElem?_eq_getElem h'] at e
  exact (List.getElem_inj hn).1 e

/-- What a function's text promises. -/
theorem body_ok {P : Program} {C : Oracle} (hC : Meets P C) (hm : P.follows .mixedOrders = true) (A : Ann) (n : Nat) {f : FuncId} {fn : Func} {pf : PFunc}
    (hf : P.funcs[f]? = some fn) (hc : compFn P A fn = some pf) : Meets P (fun g args os => if g = f ∧ args.length ≤ pf.ntmps then evBody P C n pf args os else none) := by
  intro g args os res os' he
  simp only at he
  split at he
  · rename_i hg
    obtain ⟨rfl, hlen⟩ := hg
    unfold compFn at hc
    split at hc
    · cases hc
    · rename_i c hbody
      split at hc
      · rename_i b rs hcb hcr
        split at hc
        · rename_i hcond
          obtain ⟨hnt, hname⟩ := hcond
          simp only [Option.some.injEq] at hc; subst hc
          have hlen' : args.length ≤ fn.ntmps := hlen
          refine ⟨⟨fn, hf, by rw [hbody]; rfl, hname⟩, ?_⟩
          intro I w bl vals hbl hnd hb hI hargs hvals hobjs
          refine calls_of_wp hf hbody ?_
          have h0 : Rel w bl I fn.ntmps { tmps := fun t => args.getD t .none, objs := objs0 os } ⟨fun k => bl.getD (k - pbase) 0, fun _ => undef⟩ I
              { tmps := vals ++ Array.replicate (fn.ntmps - vals.size) undef, defers := [] } w := by
            have hk : ∀ k, (objs0 os k).isSome → pbase ≤ k ∧ k - pbase < os.length ∧ ∃ cs, os[k - pbase]? = some cs ∧ objs0 os k = some (.cells cs) := fun k hk => by
              unfold objs0 at hk ⊢
              split at hk
              · rename_i hp
                cases hq : os[k - pbase]? with
                | none => rw [hq] at hk; cases hk
                | some cs => exact ⟨hp, (List.getElem?_eq_some_iff.1 hq).1, cs, rfl, by rw [if_pos hp]; rfl⟩
              · cases hk
            have hmem : ∀ k, k < os.length → bl.getD k 0 ∈ bl := fun k hk => by
              rw [List.getD_eq_getElem?_getD, List.getElem?_eq_getElem (by omega)]; simp
            refine ⟨rfl, by simp; omega, fun t => ?_, fun k o hko => ?_, fun k k' hks hks' hne => ?_, fun k hks => ?_, fun k hks => ?_, fun k hks => ?_, hI, fun _ h => h, fun _ h => .inl h, Wst.refl _ _, fun k el sz g n get hko => ?_, fun j hj => ?_, hnt⟩
            · by_cases ht : t < vals.size
              · have e : (vals ++ Array.replicate (fn.ntmps - vals.size) undef).getD t undef = vals.getD t undef := by
                  rw [Array.getD_eq_getD_getElem?, Array.getElem?_append_left ht, Array.getD_eq_getD_getElem?]
                show VR _ _ _ _ (args.getD t .none) _
                rw [e]; exact hargs t
              · have e : args.getD t .none = .none := by rw [List.getD_eq_getElem?_getD, List.getElem?_eq_none (by omega)]; rfl
                show VR _ _ _ _ (args.getD t .none) _
                rw [e]; exact .none _
            · obtain ⟨hp, hl, cs, h1, h2⟩ := hk k (by rw [show objs0 os k = some o from hko]; rfl)
              have : o = .cells cs := by rw [show objs0 os k = some o from hko] at h2; injection h2
              subst this
              obtain ⟨Cc, t, q1, q2, q3⟩ := hobjs _ cs h1
              exact ⟨Cc, t, q1, q2, fun j hj => .imm _ _ (q3 j hj)⟩
            · obtain ⟨hp, hl, _⟩ := hk k hks
              obtain ⟨hp', hl', _⟩ := hk k' hks'
              show bl.getD (k - pbase) 0 ≠ bl.getD (k' - pbase) 0
              intro e
              have := nodup_getD hnd (k - pbase) (k' - pbase) (by omega) (by omega) e
              omega
            · obtain ⟨hp, hl, _⟩ := hk k hks
              exact (hb _ (hmem _ hl)).2
            · obtain ⟨hp, hl, _⟩ := hk k hks
              exact (hb _ (hmem _ hl)).1
            · obtain ⟨hp, hl, _⟩ := hk k hks
              exact .inl (hmem _ hl)
            · obtain ⟨_, _, cs, _, h2⟩ := hk k (by rw [show objs0 os k = some _ from hko]; rfl)
              rw [show objs0 os k = some _ from hko] at h2; cases h2
            · have e : pbase + j - pbase = j := by omega
              simp only [e]
          have fin : ∀ (st' : St) (a' : Act) (w' : World), RelX w bl I fn.ntmps st' a' w' → ∀ vs os2, ressOf st' rs = some vs → backOf st' 0 os.length = some os2 → res = one? vs → os' = os2 →
              a'.defers = [] ∧ ∃ v, (results fn a'.tmps).run P w' = .ok v w' ∧ ∃ u I', Ending.returned v = .returned u ∧ (∀ b, I b → I' b) ∧ (∀ b, I' b → I b ∨ w.heap.size ≤ b) ∧ (∀ b, I' b → b < w'.heap.size) ∧
                VR (fun _ => none) noEnv I' w' res u ∧
                (os'.length = os.length → ∀ (k : Nat) (cs : List Lf), os'[k]? = some cs → ∃ C t, w'.heap[bl.getD k 0]? = some (.cells C t (0, 0)) ∧ C.size = cs.length ∧ ∀ j, j < cs.length → LRi I' w' (cs.getD j default) (C.getD j undef)) ∧
                Wst (· ∈ bl) w w' := by
            rintro st' a' w' ⟨E, I1, h⟩ vs os2 hvs hos2 rfl rfl
            obtain ⟨us, u1, u2, u3⟩ := resOf_ok (P := P) h _ _ rs vs hcr hvs
            obtain ⟨_, b2⟩ := backOf_ok h _ _ _ hos2
            refine ⟨h.defers, (if hh : us.toArray.size = 1 then us.toArray[0] else .tuple us.toArray), ?_, (if hh : us.toArray.size = 1 then us.toArray[0] else .tuple us.toArray), Iend I1 st'.objs E, rfl, fun b hb => .inl (h.Iup b hb), ?_, ?_, ?_, ?_, h.fr⟩
            · rw [results_eq, Array.mapM_eq_mapM_toList, Sem.run_bind, Sem.run_map, u1]
              rfl
            · rintro b (hb | ⟨k, el, sz, g, n, get, hk, rfl⟩)
              · exact h.Inew b hb
              · exact .inr (h.arr k el sz g n get hk).1
            · rintro b (hb | ⟨k, el, sz, g, n, get, hk, rfl⟩)
              · exact h.Ilt b hb
              · exact h.lt k (by rw [hk]; rfl)
            · match vs, us, u2, u3 with
              | [v], [u], _, u3 => exact u3 0 (by simp)
              | [], [], _, _ => exact .tup _ _ rfl (fun j hj => by simp at hj)
              | v :: v' :: vs, u :: u' :: us, u2, u3 =>
                rw [dif_neg (by simp)]
                exact .tup _ _ (by simpa using u2) (fun j hj => by simpa using u3 j hj)
            · intro _ k cs hk
              have := b2 k cs hk
              rwa [Nat.zero_add] at this
          unfold evBody at he
          split at he
          · cases he
          · rename_i ex st' hne hev
            have hw := evCode_ok hC hm A n c b hcb _ ex st' _ w hev ⟨_, _, h0⟩
            split at he
            · rename_i vs os2 hvs hos2
              simp only [Option.some.injEq, Prod.mk.injEq] at he
              refine wp_mono hw ?_
              rintro e a' w' ⟨rfl, h'⟩
              have := fin st' a' w' h' vs os2 hvs hos2 he.1.symm he.2.symm
              cases ex with
              | normal => exact this
              | ret => exact this
              | exit id => exact (hne id rfl).elim
            · cases he
          · cases he
        · cases hc
      · cases hc
  · cases he

/-- Two lists of promises, one behind the other. -/
def orC (A B : Oracle) : Oracle := fun f args os => match A f args os with
  | some r => some r
  | none => B f args os

theorem Meets.or {P : Program} {A B : Oracle} (hA : Meets P A) (hB : Meets P B) : Meets P (orC A B) := by
  intro f args os res os' h
  unfold orC at h
  split at h
  · rename_i r hr
    simp only [Option.some.injEq] at h; subst h
    exact hA f args os res os' hr
  · exact hB f args os res os' h

theorem Meets.none (P : Program) : Meets P (fun _ _ _ => none) := fun _ _ _ _ _ h => by cases h

theorem Meets.of_le {P : Program} {A B : Oracle} (hB : Meets P B) (h : ∀ f args os r, A f args os = some r → B f args os = some r) : Meets P A :=
  fun f args os res os' he => hB f args os res os' (h _ _ _ _ he)

end Go.Rx
