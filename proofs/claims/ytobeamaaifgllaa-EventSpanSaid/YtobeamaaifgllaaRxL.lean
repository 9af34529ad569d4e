/- No condition. -/
import Derived.Test.YtobeamaaifgllaaRxK
import Derived.Test.YtobeamaaifgllaaRxKe
import Derived.LoopN
namespace Go.Rx
open Go Go.RowKit
def compRes (P : Program) : List (List (Nat × Nat)) → List ResultVar → Option (List PRes)
 | _, [] => some []
 | nls, .tmp t :: rs => match compRes P nls.tail rs with
  | some l => some (.tmp t (nls.headD []) :: l)
  | none => none
 | nls, .cell a t :: rs => match aggOf P t, szOf P t, compRes P nls.tail rs with
  | some ag, some sz, some l => some (.cell a ag sz (nls.headD []) :: l)
  | _, _, _ => none
def compFn (P : Program) (A : Ann) (fn : Func) : Option PFunc :=
 match fn.body with
 | none => none
 | some c => match comp P A fn.ntmps c, compRes P (nilsAll P fn.resultTypes.toList) fn.results.toList with
  | some b, some rs => if fn.ntmps ≤ pbase ∧ (fn.name == "runtime.NumGoroutine") = false then some ⟨fn.ntmps, rs, b, A.ex⟩ else none
  | _, _ => none
section
variable {P : Program} {C : Oracle} {w0 : World} {O0 : Nat → Option Ob} {E0 : Env} {I0 : Nat → Prop} {nt : Nat} {st : St} {E : Env} {I : Nat → Prop} {a : Act} {w : World} {ops : Array Oper} {Q : Exit → Act → World → Prop}
theorem compLend_is {o1 o2 : Oper} {po : POper} (h : compLend P nt o1 o2 = some po) : ∃ da dc c1 c2 t e s x i z f, o1.guard = none ∧ o2.guard = none ∧ o1.dst = some da ∧ o2.dst = some dc ∧ o1.op = .call c1 ∧ o2.op = .call c2 ∧
  c1.callee = .builtin .append ∧ c1.argTypes.toList = [t, t] ∧ c1.args.toList = [s, x] ∧ c2.callee = .value (.func f) ∧ da < nt ∧ dc < nt ∧ P.underlying t = some (.slice e) ∧ P.info? e = some i ∧ i.zero = some z ∧ z.cells.size = i.size ∧ 0 < i.size ∧ e < fixM ∧
  po = ⟨some dc, .lend da e i.size i.bytes s x (nilsAll P c2.argTypes.toList) f c2.args.toList, none, []⟩ := by
 unfold compLend at h
 split at h
 ·rename_i da dc c1 c2 g1 g2 d1 d2 p1 p2
  split at h
  ·rename_i t t' s x f h1 h2 h3 h4
   split at h
   ·rename_i hc
    obtain ⟨rfl, ha, hb⟩ := hc
    split at h
    ·rename_i e hu
     split at h
     ·rename_i i hi
      split at h
      ·rename_i z hz
       split at h
       ·rename_i hc2
        simp only [sj] at h
        exact ⟨da, dc, c1, c2, t, e, s, x, i, z, f, g1, g2, d1, d2, p1, p2, h1, h2, h3, h4, ha, hb, hu, hi, hz, hc2.1, hc2.2.1, hc2.2.2, h.symm⟩
       ·cases h
      ·cases h
     ·cases h
    ·cases h
   ·cases h
  ·cases h
 ·cases h
theorem lend_wp (hC : Meets P C) (h : RelX w0 O0 E0 I0 nt st a w) {i : Nat} {o1 o2 : Oper} {po : POper} (h1 : ops[i]? = some o1) (h2 : ops[i + 1]? = some o2) (hc : compLend P nt o1 o2 = some po) {st' : St} (hp : pOp P C po st = some st')
  {K : Act → World → Prop} (hK : ∀ a' w', RelX w0 O0 E0 I0 nt st' a' w' → K a' w') : wpOp P ops Q i (wpOp P ops Q (i + 1) K) a w := by
 obtain ⟨E, I, h⟩ := h
 obtain ⟨da, dc, c1, c2, t, e, s, x, ti, z, f, g1, g2, d1, d2, p1, p2, q1, q2, q3, q4, ha, hb, hu, hi, hz, hzs, hsz, hfix, rfl⟩ := compLend_is hc
 unfold wpOp
 simp only [h1, h2, Region.wanted, g1, g2, if_true]
 unfold pOp at hp
 simp only at hp
 split at hp
 ·rename_i v objs' he
  simp only [sj] at hp
  subst hp
  have he := (effH_some he).2
  refine .inl ?_
  refine Oper.wp_mono (fun a w hh => Or.inl hh) (lend_ok (K := K) hC h d1 d2 ha hb p1 q1 q3 q2 hu hi hz hzs hsz hfix p2 q4 he (fun a' w' E' I' h' => hK _ _ ⟨E', I', h'⟩))
 ·cases hp
theorem pOpsL_wp (hC : Meets P C) {A : Ann} : ∀ (l : List Oper) (pl : List POper) (k : Nat) (st st' : St) (a : Act) (w : World), (∀ j, l[j]? = ops[k + j]?) → compOpsL P A ops nt l = some pl → pOps P C pl st = some st' → RelX w0 O0 E0 I0 nt st a w →
  (∀ a' w', RelX w0 O0 E0 I0 nt st' a' w' → Q .normal a' w') → wpOps P ops Q (List.range' k l.length) a w
 | [], pl, k, st, st', a, w, _, hc, hp, h, hQ => by
  simp only [compOpsL, sj] at hc
  subst hc
  simp only [pOps, sj] at hp
  subst hp
  exact hQ a w h
 | [o], pl, k, st, st', a, w, hl, hc, hp, h, hQ => by
  simp only [compOpsL] at hc
  split at hc
  ·rename_i p hco
   refine pOps_wp (A := A) (dr := false) hC [o] pl k st st' a w hl ?_ hp h hQ
   simp only [compOps, hco]; exact hc
  ·cases hc
 | o :: o2 :: l, pl, k, st, st', a, w, hl, hc, hp, h, hQ => by
  simp only [compOpsL] at hc
  have h0 : ops[k]? = some o := by simpa using (hl 0).symm
  have h1 : ops[k + 1]? = some o2 := by simpa using (hl 1).symm
  split at hc
  ·split at hc
   ·rename_i p ps hco hcs
    simp only [sj] at hc
    subst hc
    simp only [pOps] at hp
    split at hp
    ·rename_i st1 hs1
     rw [List.length_cons, List.length_cons, List.range'_succ, wpOps_cons, List.range'_succ]
     have e : wpOps P ops Q ((k + 1) :: List.range' (k + 1 + 1) l.length) = wpOp P ops Q (k + 1) (wpOps P ops Q (List.range' (k + 1 + 1) l.length)) := by
      funext a w; exact wpOps_cons _ _ _ _
     rw [e]
     refine lend_wp hC h h0 h1 hco hs1 (fun a' w' h' => ?_)
     exact pOpsL_wp hC l ps (k + 1 + 1) st1 st' a' w' (fun j => by have := hl (j + 2); rw [show k + 1 + 1 + j = k + (j + 2) by omega]; simpa using this) hcs hp h' hQ
    ·cases hp
   ·cases hc
  ·split at hc
   ·rename_i p ps hco hcs
    simp only [sj] at hc
    subst hc
    simp only [pOps] at hp
    split at hp
    ·rename_i st1 hs1
     rw [List.length_cons, List.range'_succ, wpOps_cons]
     refine pOp_wp hC h h0 hco hs1 (fun a' w' h' => ?_)
     exact pOpsL_wp hC (o2 :: l) ps (k + 1) st1 st' a' w' (fun j => by have := hl (j + 1); simpa [Nat.add_assoc, Nat.add_comm 1 j] using this) hcs hp h' hQ
    ·cases hp
   ·cases hc
theorem region_ok (hC : Meets P C) (hm : P.follows .mixedOrders = true) {id : Nat} {ops : Array Oper} {draw : Bool} {A : Ann} {pl : List POper} (hc : (if draw then compOps P A true ops nt ops.toList else compOpsL P A ops nt ops.toList) = some pl)
  (hl : (!draw || lexP ops pl ops.size 0 (Array.replicate ops.size false)) = true) {st st' : St} (hp : pOps P C pl st = some st') (h : RelX w0 O0 E0 I0 nt st a w) (hQ : ∀ a' w', RelX w0 O0 E0 I0 nt st' a' w' → Q .normal a' w') :
  (Code.region id ops draw).wp P Q a w := by
 cases draw with
 | false =>
  refine wp_region ?_
  rw [List.range_eq_range']
  have := pOpsL_wp (ops := ops) (Q := Q) hC ops.toList pl 0 st st' a w (fun j => by simp) (by simpa using hc) hp h hQ
  simpa using this
 | true =>
  obtain ⟨g1, g2⟩ := compOps_get _ _ (by simpa using hc)
  have hs : ops.size = pl.length := by simpa using g1
  refine wp_region_any hm ?_
  have h' : RelX w0 O0 E0 I0 nt st a { w with drawn := w.drawn + 1 } := by
   obtain ⟨E, I, h⟩ := h
   have := h.step (Wst.drawn (fun _ => False) w (w.drawn + 1)) none (fun x hx => by cases hx) .none undef (.none _)
   exact ⟨E, I, this⟩
  refine wpAny_of_pAny (C := C) (pops := pl) (QS := fun s => s = st') hC (fun i o hi => g2 i o (by simpa using hi)) (fun s a w e h => by subst e; exact hQ a w h) _ _ st a _ h' ?_
  rw [hs]
  refine pAny_lex pl 0 _ st st' (fun j => by simp) hs ?_ hp rfl
  rw [← hs]
  simpa using hl
theorem evCode_ok (hC : Meets P C) (hm : P.follows .mixedOrders = true) (A : Ann) (n : Nat) : ∀ (c : Code) (pc : PCode), comp P A nt c = some pc → ∀ (st : St) (ex : PEx) (st' : St) (a : Act) (w : World),
  evCode P C n pc st = some (ex, st') → RelX w0 O0 E0 I0 nt st a w → c.wp P (fun e a' w' => e = ex.exit? ∧ RelX w0 O0 E0 I0 nt st' a' w') a w := by
 intro c
 induction c with
 | skip =>
  intro pc hc st ex st' a w he h
  simp only [comp, sj] at hc; subst hc
  simp only [evCode, sj, pj] at he
  obtain ⟨rfl, rfl⟩ := he
  exact wp_skip ⟨rfl, h⟩
 | region id ops draw =>
  intro pc hc st ex st' a w he h
  simp only [comp] at hc
  split at hc
  ·rename_i pl hpl
   split at hc
   ·rename_i hl
    simp only [sj] at hc; subst hc
    simp only [evCode] at he
    split at he
    ·cases he
    ·rename_i st1 hst1
     have h1 : RelX w0 O0 E0 I0 nt st1 a w := by
      cases hk : A.kr id with
      | none => rw [hk] at hst1; simp only [sj] at hst1; subst hst1; exact h
      | some q => obtain ⟨ts, os, ow⟩ := q; rw [hk] at hst1; exact restrict_ok h hst1
     split at he
     ·rename_i st2 hp
      simp only [sj, pj] at he
      obtain ⟨rfl, rfl⟩ := he
      exact region_ok hC hm hpl hl hp h1 (fun a' w' h' => ⟨rfl, h'⟩)
     ·cases he
   ·cases hc
  ·cases hc
 | seq x y ihx ihy =>
  intro pc hc st ex st' a w he h
  simp only [comp] at hc
  split at hc
  ·rename_i px py hx hy
   simp only [sj] at hc; subst hc
   simp only [evCode] at he
   split at he
   ·rename_i st1 h1
    refine wp_seq (wp_mono (ihx px hx st .normal st1 a w h1 h) ?_)
    rintro e a' w' ⟨rfl, h'⟩
    exact ihy py hy st1 ex st' a' w' he h'
   ·rename_i hne
    refine wp_seq (wp_mono (ihx px hx st ex st' a w he h) ?_)
    rintro e a' w' ⟨rfl, h'⟩
    cases ex with
    | normal => exact absurd he (hne _)
    | exit id => exact ⟨rfl, h'⟩
    | ret => exact ⟨rfl, h'⟩
  ·cases hc
 | cond c x y ihx ihy =>
  intro pc hc st ex st' a w he h
  simp only [comp] at hc
  split at hc
  ·rename_i px py hx hy
   simp only [sj] at hc; subst hc
   simp only [evCode] at he
   split at he
   ·rename_i t ht
    have hct : a.eval c = .bool t := by
     obtain ⟨E, I, h⟩ := h
     have hev := h.ev c
     rw [ht] at hev
     generalize a.eval c = ac at hev
     cases hev with
     | one _ _ hev => exact LR.ofVal hev
    refine wp_cond hct ?_
    cases t with
    | true => exact ihx px hx st ex st' a w he h
    | false => exact ihy py hy st ex st' a w he h
   ·cases he
  ·cases hc
 | block id x ih =>
  intro pc hc st ex st' a w he h
  simp only [comp] at hc
  split at hc
  ·rename_i px hx
   simp only [sj] at hc; subst hc
   simp only [evCode] at he
   split at he
   ·rename_i id' st1 h1
    refine wp_block (wp_mono (ih px hx st (.exit id') st1 a w h1 h) ?_)
    rintro e a' w' ⟨rfl, h'⟩
    show Exit.inBlock id _ (.exit id') a' w'
    unfold Exit.inBlock
    split at he
    ·rename_i hid
     simp only [sj, pj] at he
     obtain ⟨rfl, rfl⟩ := he
     simp only [hid, if_true]
     exact ⟨rfl, h'⟩
    ·rename_i hid
     simp only [sj, pj] at he
     obtain ⟨rfl, rfl⟩ := he
     simp only [hid, if_false]
     exact ⟨rfl, h'⟩
   ·rename_i hne
    refine wp_block (wp_mono (ih px hx st ex st' a w he h) ?_)
    rintro e a' w' ⟨rfl, h'⟩
    cases ex with
    | normal => exact ⟨rfl, h'⟩
    | exit id' => exact absurd he (hne _ _)
    | ret => exact ⟨rfl, h'⟩
  ·cases hc
 | loop x ih =>
  intro pc hc st ex st' a w he h
  simp only [comp] at hc
  split at hc
  ·rename_i px hx
   simp only [sj] at hc; subst hc
   simp only [evCode] at he
   have key : ∀ (m : Nat) (st : St) (a : Act) (w : World), iter (evCode P C n px) m st = some (ex, st') → RelX w0 O0 E0 I0 nt st a w →
     Code.rounds P x (fun e a' w' => e = ex.exit? ∧ RelX w0 O0 E0 I0 nt st' a' w') m a w := by
    intro m
    induction m with
    | zero => intro st a w he _; simp [iter] at he
    | succ m ihm =>
     intro st a w he h
     simp only [iter] at he
     rw [rounds_succ]
     split at he
     ·rename_i st1 h1
      refine wp_mono (ih px hx st .normal st1 a w h1 h) ?_
      rintro e a' w' ⟨rfl, h'⟩
      exact ihm st1 a' w' he h'
     ·rename_i hne
      refine wp_mono (ih px hx st ex st' a w he h) ?_
      rintro e a' w' ⟨rfl, h'⟩
      cases ex with
      | normal => exact absurd he (hne _)
      | exit id => exact ⟨rfl, h'⟩
      | ret => exact ⟨rfl, h'⟩
   exact wp_loop_rounds n (key n st a w he h)
  ·cases hc
 | rangeFunc => intro pc hc; simp [comp] at hc
 | exit id =>
  intro pc hc st ex st' a w he h
  simp only [comp, sj] at hc; subst hc
  simp only [evCode, sj, pj] at he
  obtain ⟨rfl, rfl⟩ := he
  exact wp_exit ⟨rfl, h⟩
 | scope x ih =>
  intro pc hc st ex st' a w he h
  simp only [comp] at hc
  split at hc
  ·rename_i px hx
   simp only [sj] at hc; subst hc
   simp only [evCode] at he
   refine wp_scope_straight (wp_mono (ih px hx st ex st' a w he h) ?_)
   rintro e a' w' ⟨rfl, h'⟩
   cases ex with
   | normal => exact ⟨rfl, h'⟩
   | exit id => exact ⟨rfl, h'⟩
   | ret => exact ⟨rfl, h'⟩
  ·cases hc
 | label l =>
  intro pc hc st ex st' a w he h
  simp only [comp, sj] at hc; subst hc
  simp only [evCode, sj, pj] at he
  obtain ⟨rfl, rfl⟩ := he
  exact wp_label ⟨rfl, h⟩
 | goto => intro pc hc; simp [comp] at hc
 | ret =>
  intro pc hc st ex st' a w he h
  simp only [comp, sj] at hc; subst hc
  simp only [evCode, sj, pj] at he
  obtain ⟨rfl, rfl⟩ := he
  exact wp_ret ⟨rfl, h⟩
 | refuse => intro pc hc; simp [comp] at hc
def Iend (ex : Bool) (I : Nat → Prop) (objs : Nat → Option Ob) (E : Env) (b : Nat) : Prop :=
 I b ∨ (ex = false ∧ ∃ k el sz g n get, k < pbase ∧ objs k = some (.arr el sz g n get) ∧ E.hv k ≠ .slice none 0 0 ∧ b = E.bl k)
theorem LR.fin {ex : Bool} {objs : Nat → Option Ob} (hob : ∀ k o, objs k = some o → ObjR objs E I w k o) {l l' : Lf} {v : Value} (h : LR objs E I w l v) (hf : l.fin ex objs = some l') : LR objs E (Iend ex I objs E) w l' v := by
 have keep : l.fin ex objs = some l → LR objs E (Iend ex I objs E) w l' v := fun e => by
  rw [e] at hf; injection hf with hf; subst hf; exact h.wider (fun b hb => .inl hb)
 cases l with
 | osl k g off n =>
  simp only [Lf.fin] at hf
  split at hf
  ·simp only [sj] at hf; subst hf; exact h.wider (fun b hb => .inl hb)
  ·rename_i hex
   simp only [Bool.or_eq_true, not_or, Bool.not_eq_true] at hex
   have hk : k < pbase := by
    rcases Nat.lt_or_ge k pbase with h' | h'
    ·exact h'
    ·rw [Nat.ble_eq_true_of_le h'] at hex; cases hex.2
   split at hf
   ·rename_i el sz g' m get ho
    split at hf
    ·rename_i hc
     obtain ⟨rfl, hot⟩ := hc
     simp only [sj] at hf; subst hf
     exact .imm _ _ (view_of_osl (fun _ _ _ _ _ _ hk => hob _ _ hk) ho hot h (fun b hb => .inl hb) (fun hnn => .inr ⟨hex.1, k, el, sz, g, m, get, hk, ho, hnn, rfl⟩))
    ·cases hf
   ·cases hf
 | eptr => simp [Lf.fin] at hf
 | aptr => simp [Lf.fin] at hf
 | _ => exact keep rfl
theorem finL_at {ex : Bool} {objs : Nat → Option Ob} : ∀ (cs cs' : List Lf), finL ex objs cs = some cs' → cs'.length = cs.length ∧ ∀ j, j < cs.length → (cs.getD j default).fin ex objs = some (cs'.getD j default)
 | [], cs', h => by
  simp only [finL, sj] at h; subst h
  exact ⟨rfl, fun j hj => by simp at hj⟩
 | l :: ls, cs', h => by
  simp only [finL] at h
  split at h
  ·rename_i x y hx hy
   simp only [sj] at h; subst h
   obtain ⟨i1, i2⟩ := finL_at ls y hy
   refine ⟨by simp [i1], fun j hj => ?_⟩
   cases j with
   | zero => exact hx
   | succ j => exact i2 j (by simpa using hj)
  ·cases h
theorem VR.fin {ex : Bool} {objs : Nat → Option Ob} (hob : ∀ k o, objs k = some o → ObjR objs E I w k o) {p q : PV} {v : Value} (hv : VR objs E I w p v) (hf : p.fin ex objs = some q) : VR objs E (Iend ex I objs E) w q v := by
 cases hv with
 | none => simp [PV.fin] at hf
 | one l v hv =>
  simp only [PV.fin, mj] at hf
  obtain ⟨l', h1, rfl⟩ := hf
  exact .one _ _ (hv.fin hob h1)
 | agg cs Cc hC hl =>
  simp only [PV.fin, mj] at hf
  obtain ⟨cs', h1, rfl⟩ := hf
  obtain ⟨i1, i2⟩ := finL_at cs cs' h1
  exact .agg _ _ (by rw [i1]; exact hC) (fun j hj => (hl j (by omega)).fin hob (i2 j (by omega)))
 | tup => simp [PV.fin] at hf
theorem ObjR.fin {ex : Bool} {objs : Nat → Option Ob} (hob : ∀ k o, objs k = some o → ObjR objs E I w k o) {k : Nat} {o o' : Ob} (ho : o.fin ex objs = some o') (h : ObjR objs E I w k o) : SameKind o o' ∧ ObjR objs E (Iend ex I objs E) w k o' := by
 cases o with
 | tcells t cs =>
  simp only [Ob.fin, mj] at ho
  obtain ⟨cs', h1, rfl⟩ := ho
  obtain ⟨i1, i2⟩ := finL_at cs cs' h1
  obtain ⟨C, q1, q2, q3⟩ := h
  exact ⟨⟨cs', rfl⟩, C, q1, by rw [i1]; exact q2, fun j hj => (q3 j (by omega)).fin hob (i2 j (by omega))⟩
 | cells cs =>
  simp only [Ob.fin, mj] at ho
  obtain ⟨cs', h1, rfl⟩ := ho
  obtain ⟨i1, i2⟩ := finL_at cs cs' h1
  obtain ⟨C, t, q1, q2, q3⟩ := h
  exact ⟨⟨cs', rfl⟩, C, t, q1, by rw [i1]; exact q2, fun j hj => (q3 j (by omega)).fin hob (i2 j (by omega))⟩
 | arr el sz g n get =>
  simp only [Ob.fin, sj] at ho
  subst ho
  exact ⟨rfl, h.wider (fun b hb => .inl hb)⟩
 | map es =>
  simp only [Ob.fin, sj] at ho
  subst ho
  exact ⟨⟨es, rfl⟩, h.wider (fun b hb => .inl hb)⟩
def resSem (tmps : Array Value) : ResultVar → Sem Value
 | .tmp t => pure (tmps.getD t undef)
 | .cell ad t => do loadVar t (← asAddr (tmps.getD ad undef))
theorem results_eq (fn : Func) (tmps : Array Value) : results fn tmps = (do
  let vs ← fn.results.mapM (resSem tmps)
  pure (if h : vs.size = 1 then vs[0] else .tuple vs)) := by
 unfold results
 congr 1
theorem resOf_ok (h : Rel w0 O0 E0 I0 nt st E I a w) {ex : Bool} : ∀ (nls : List (List (Nat × Nat))) (rvs : List ResultVar) (prs : List PRes) (vs : List PV), compRes P nls rvs = some prs → ressOf ex st prs = some vs →
  ∃ us : List Value, (rvs.mapM (resSem a.tmps)).run P w = .ok us w ∧ us.length = vs.length ∧
   ∀ j, j < vs.length → VR st.objs E (Iend ex I st.objs E) w (vs.getD j .none) (us.getD j undef)
 | nls, [], prs, vs, hc, hr => by
  simp only [compRes, sj] at hc; subst hc
  simp only [ressOf, sj] at hr; subst hr
  exact ⟨[], rfl, rfl, fun j hj => by simp at hj⟩
 | nls, .tmp t :: rvs, prs, vs, hc, hr => by
  simp only [compRes] at hc
  split at hc
  ·rename_i l hl
   simp only [sj] at hc; subst hc
   simp only [ressOf] at hr
   split at hr
   ·rename_i x xs hx hxs
    simp only [sj] at hr; subst hr
    obtain ⟨us, u1, u2, u3⟩ := resOf_ok h nls.tail rvs l xs hl hxs
    refine ⟨a.tmps.getD t undef :: us, ?_, by simp [u2], fun j hj => ?_⟩
    ·rw [List.mapM_cons, Sem.run_bind, resSem, Sem.run_pure, Result.andThen_ok, Sem.run_bind, u1]; rfl
    ·cases j with
     | zero =>
      simp only [resOf, mj] at hx
      obtain ⟨q, hq, rfl⟩ := hx
      exact nilP_ok _ ((h.tmps t).fin h.objs hq)
     | succ j => exact u3 j (by simpa using hj)
   ·cases hr
  ·cases hc
 | nls, .cell ad t :: rvs, prs, vs, hc, hr => by
  simp only [compRes] at hc
  split at hc
  ·rename_i ag sz l hag hsz hl
   simp only [sj] at hc; subst hc
   simp only [ressOf] at hr
   split at hr
   ·rename_i x xs hx hxs
    simp only [sj] at hr; subst hr
    obtain ⟨us, u1, u2, u3⟩ := resOf_ok h nls.tail rvs l xs hl hxs
    simp only [resOf] at hx
    have hta := h.tmps ad
    generalize hat : a.tmps.getD ad undef = at' at hta
    split at hx
    ·rename_i k off hk0
     rw [hk0] at hta
     split at hx
     ·rename_i cs hk
      split at hx
      ·rename_i v hv
       cases hta with
       | one _ _ hta =>
        cases hta with
        | imm _ _ hi => cases hi
        | ptr _ _ cs' _ _ =>
         obtain ⟨Cc, tt, _, _, hcell, hl2⟩ := h.cells_at hk
         obtain ⟨val, r1, r2⟩ := read_ok hag hsz hcell hl2 hv
         rw [Nat.zero_add] at r1
         refine ⟨val :: us, ?_, by simp [u2], fun j hj => ?_⟩
         ·have hA : (asAddr (a.tmps.getD ad undef)).run P w = .ok ⟨E.bl k, off, none⟩ w := by rw [hat]; rfl
          rw [List.mapM_cons, Sem.run_bind, resSem]
          simp only [Sem.run_bind, hA, Sem.run_pure, Result.andThen_ok, r1, u1]
         ·cases j with
          | zero =>
           simp only [mj] at hx
           obtain ⟨q, hq, rfl⟩ := hx
           exact nilP_ok _ (r2.fin h.objs hq)
          | succ j => exact u3 j (by simpa using hj)
      ·cases hx
     ·cases hx
    ·cases hx
   ·cases hr
  ·cases hc
end
theorem reach_prefix (objs : Nat → Option Ob) : ∀ (n : Nat) (todo acc : List Nat), ∃ t, reach objs n todo acc = acc ++ t
 | 0, _, acc => ⟨[], by simp [reach]⟩
 | n + 1, [], acc => ⟨[], by simp [reach]⟩
 | n + 1, k :: todo, acc => by
  simp only [reach]
  split
  ·exact reach_prefix objs n todo acc
  ·split
   ·rename_i o _
    obtain ⟨t, ht⟩ := reach_prefix objs n (o.keys ++ todo) (acc ++ [k])
    exact ⟨k :: t, by rw [ht]; simp⟩
   ·exact reach_prefix objs n todo acc
theorem passed_at (m j : Nat) (h : j < m) : (passed m)[j]? = some (pbase + j) := by simp [passed, h]
theorem body_ok {P : Program} {C : Oracle} (hC : Meets P C) (hm : P.follows .mixedOrders = true) (A : Ann) (n : Nat) {f : FuncId} {fn : Func} {pf : PFunc}
  (hf : P.funcs[f]? = some fn) (hc : compFn P A fn = some pf) : Meets P (fun g args os => if g = f ∧ args.length ≤ pf.ntmps then evBody P C n pf args os else none) := by
 intro g args os res os' he
 simp only at he
 split at he
 ·rename_i hg
  obtain ⟨rfl, hlen⟩ := hg
  unfold compFn at hc
  split at hc
  ·cases hc
  ·rename_i c hbody
   split at hc
   ·rename_i b rs hcb hcr
    split at hc
    ·rename_i hcond
     obtain ⟨hnt, hname⟩ := hcond
     simp only [sj] at hc; subst hc
     have hlen' : args.length ≤ fn.ntmps := hlen
     refine ⟨⟨fn, hf, by rw [hbody]; rfl, hname⟩, ?_⟩
     intro I w E vals hheap hargs hvals
     refine calls_of_wp hf hbody ?_
     have hyoung0 : os.all Ob.young = true := by
      have he2 := he
      unfold evBody at he2
      split at he2
      ·cases he2
      ·split at he2
       ·assumption
       ·cases he2
      ·cases he2
     have h0 : Rel w (objs0 os) E I fn.ntmps { tmps := fun t => args.getD t .none, objs := objs0 os } E I
       { tmps := vals ++ Array.replicate (fn.ntmps - vals.size) undef, defers := [] } w := by
      refine { toHeap := hheap, defers := rfl, tsize := by simp; omega, tmps := fun t => ?_, own := fun k hk => .inl ⟨hk, rfl⟩, loc := fun k hkp hk => ?_, Iup := fun _ h => h, Inew := fun _ h => .inl h, fr := Wst.refl _ _, ext := fun k _ o' hk => ⟨o', hk, ExtO.refl _ _ _⟩, ntb := hnt, young := fun k el sz g n get hk => ?_ }
      ·by_cases ht : t < vals.size
       ·have e : (vals ++ Array.replicate (fn.ntmps - vals.size) undef).getD t undef = vals.getD t undef := by
         rw [Array.getD_eq_getD_getElem?, Array.getElem?_append_left ht, Array.getD_eq_getD_getElem?]
        show VR _ _ _ _ (args.getD t .none) _
        rw [e]; exact hargs t
       ·have e : args.getD t .none = .none := by rw [List.getD_eq_getElem?_getD, List.getElem?_eq_none (by omega)]; rfl
        show VR _ _ _ _ (args.getD t .none) _
        rw [e]; exact .none _
      ·obtain ⟨o, h1, _⟩ := hk
       have := (objs0_some h1).1
       omega
      ·have := List.all_eq_true.1 hyoung0 _ (List.mem_of_getElem? (objs0_some hk).2.2)
       exact Nat.eq_of_beq_eq_true this
     have fin : ∀ (st' : St) (a' : Act) (w' : World), RelX w (objs0 os) E I fn.ntmps st' a' w' → os.all Ob.young = true → outOf A.ex st' rs os.length = some (res, os') →
       a'.defers = [] ∧ ∃ v, (results fn a'.tmps).run P w' = .ok v w' ∧ ∃ u I' E', Ending.returned v = .returned u ∧ Heap (objs0 os') E' I' w' ∧ Ext (objs0 os) E (objs0 os') E' ∧ (∀ b, I b → I' b) ∧ (∀ b, I' b → I b ∨ w.heap.size ≤ b) ∧
        VR (objs0 os') E' I' w' res u ∧
        (∀ k, Blk (objs0 os') E' k → (Blk (objs0 os) E k ∧ E'.bl k = E.bl k) ∨ w.heap.size ≤ E'.bl k) ∧
        Wst (In0 (objs0 os) E) w w' := by
      rintro st' a' w' ⟨E1, I1, h⟩ hyoung ho
      unfold outOf at ho
      split at ho
      ·cases ho
      ·rename_i vs hvs
       simp only at ho
       generalize hks : outKeys (finO A.ex st'.objs) os.length vs = ks at ho
       split at ho
       ·rename_i hcond2
        simp only [Bool.and_eq_true, Bool.or_eq_true] at hcond2
        obtain ⟨hnd, hexk⟩ := hcond2
        have hnd := nodupB_is _ hnd
        split at ho
        ·rename_i vs' os1 hvs' hos1
         simp only [sj, pj] at ho
         obtain ⟨rfl, rfl⟩ := ho
         obtain ⟨us, u1, u2, u3⟩ := resOf_ok (P := P) h _ _ rs vs hcr hvs
         obtain ⟨ol, oa⟩ := renOs_at ks os1 hos1
         obtain ⟨tl, htl⟩ : ∃ t, ks = passed os.length ++ t := by
          subst hks
          unfold outKeys
          exact reach_prefix _ _ _ _
         have hpl : (passed os.length).length = os.length := by simp [passed]
         have hpre : ∀ j, j < os.length → ks[j]? = some (pbase + j) := fun j hj => by
          rw [htl, List.getElem?_append_left (by omega)]; exact passed_at _ _ hj
         have hdomp : ∀ k o, pbase ≤ k → st'.objs k = some o → k - pbase < os.length := fun k o hk ho => by
          obtain ⟨o0, h1, _⟩ := h.ext k hk o ho
          exact (objs0_some h1).2.1
         have hlocal : ∀ j k, ks[j]? = some k → os.length ≤ j → ∀ o, st'.objs k = some o → k < pbase := by
          intro j k hj hjl o ho
          rcases Nat.lt_or_ge k pbase with h' | h'
          ·exact h'
          ·have h2 := hdomp k o h' ho
           have h3 := hpre _ h2
           rw [show pbase + (k - pbase) = k by omega] at h3
           have := getElem?_inj hnd hj h3
           omega
         let Ie : Nat → Prop := Iend A.ex I1 st'.objs E1
         let Ee : Env := ⟨fun k => E1.bl (ks.getD (k - pbase) 0), fun k => E1.hv (ks.getD (k - pbase) 0)⟩
         have hfo : ∀ k o, finO A.ex st'.objs k = some o → ∃ o0, st'.objs k = some o0 ∧ o0.fin A.ex st'.objs = some o := by
          intro k o hk
          unfold finO at hk
          split at hk
          ·rename_i o0 h0; exact ⟨o0, h0, hk⟩
          ·cases hk
         have hkat : ∀ j k, ks[j]? = some k → ks.getD (pbase + j - pbase) 0 = k := fun j k hj => by
          rw [show pbase + j - pbase = j by omega, List.getD_eq_getElem?_getD, hj]; rfl
         have hren : RenR (kmUp ks) (gmEnd st'.objs) st'.objs (objs0 os1) E1 Ee := by
          refine ⟨fun k k' ob hk hob => ?_⟩
          obtain ⟨j, rfl, hj⟩ := kmUp_is hk
          obtain ⟨o1, o2, q1, q2, q3⟩ := oa j k hj
          obtain ⟨o0, h0, h1⟩ := hfo _ _ q1
          rw [hob] at h0; injection h0 with h0; subst h0
          obtain ⟨sk, _⟩ := ObjR.fin h.objs h1 (h.objs _ _ hob)
          refine ⟨o2, by rw [objs0_at]; exact q3, by show E1.bl _ = _; rw [hkat j k hj], by show E1.hv _ = _; rw [hkat j k hj], ?_⟩
          cases ob with
          | cells cs =>
           obtain ⟨cs', rfl⟩ := sk
           simp only [Ob.ren, mj] at q2
           obtain ⟨cs2, _, rfl⟩ := q2
           exact ⟨cs2, rfl⟩
          | arr el sz g n get =>
           cases sk
           simp only [Ob.ren, mj] at q2
           obtain ⟨g', hg', rfl⟩ := q2
           refine ⟨g', get, rfl, fun x y hxy hxg => ?_⟩
           simp only [gmEnd, ageOf, hob] at hg' hxy
           split at hxy
           ·rename_i hx
            split at hg'
            ·simp only [sj] at hg' hxy
             rw [← hg', ← hxy]
             exact ⟨Nat.le_refl _, fun _ => hx⟩
            ·cases hg'
           ·cases hxy
          | tcells t es =>
           obtain ⟨cs', rfl⟩ := sk
           simp only [Ob.ren, mj] at q2
           obtain ⟨cs2, _, rfl⟩ := q2
           exact ⟨cs2, rfl⟩
          | map es =>
           obtain ⟨cs', rfl⟩ := sk
           simp only [Ob.ren, sj] at q2
           subst q2
           exact ⟨cs', rfl⟩
         have hkey : ∀ k o, objs0 os1 k = some o → ∃ k0 o0 o1, ks[k - pbase]? = some k0 ∧ pbase ≤ k ∧ st'.objs k0 = some o0 ∧ o0.fin A.ex st'.objs = some o1 ∧ o1.ren (kmUp ks) (gmEnd st'.objs) k0 = some o := by
          intro k ob hk
          obtain ⟨h1, h2, h3⟩ := objs0_some hk
          obtain ⟨o1, o2, q1, q2, q3⟩ := oa (k - pbase) _ (List.getElem?_eq_getElem (by omega))
          rw [h3] at q3; injection q3 with q3; subst q3
          obtain ⟨o0, h4, h5⟩ := hfo _ _ q1
          exact ⟨_, o0, o1, List.getElem?_eq_getElem (by omega), h1, h4, h5, q2⟩
         have hblk : ∀ k, Blk (objs0 os1) Ee k → ∃ k0, ks[k - pbase]? = some k0 ∧ pbase ≤ k ∧ Blk st'.objs E1 k0 ∧ Ee.bl k = E1.bl k0 ∧ (A.ex = false → k0 < pbase → ∀ el sz g n get, st'.objs k0 ≠ some (.arr el sz g n get)) := by
          rintro k ⟨ob, hk, hn⟩
          obtain ⟨k0, o0, o1, p1, p2, p3, p4, p5⟩ := hkey k ob hk
          have hu : ks.getD (k - pbase) 0 = k0 := by rw [List.getD_eq_getElem?_getD, p1]; rfl
          obtain ⟨sk, _⟩ := ObjR.fin h.objs p4 (h.objs _ _ p3)
          refine ⟨k0, p1, p2, ⟨o0, p3, fun el sz g n get e => ?_⟩, by show E1.bl _ = _; rw [hu], fun hex hkp el sz g n get e => ?_⟩
          ·subst e
           cases sk
           simp only [Ob.ren, mj] at p5
           obtain ⟨g', _, rfl⟩ := p5
           have := hn _ _ _ _ _ rfl
           show E1.hv k0 ≠ _
           rw [← hu]; exact this
          ·rcases hexk with hx | hx
           ·rw [hex] at hx; cases hx
           ·have := List.all_eq_true.1 hx k0 (List.mem_of_getElem? p1)
            rw [p3] at e; injection e with e; subst e
            cases sk
            have hfo1 : finO A.ex st'.objs k0 = some (.arr el sz g n get) := by unfold finO; rw [p3]; exact p4
            rw [hfo1] at this
            simp only [Bool.or_false] at this
            have := Nat.le_of_ble_eq_true this
            omega
         have hImm : ∀ k, Blk st'.objs E1 k → (A.ex = false → k < pbase → ∀ el sz g n get, st'.objs k ≠ some (.arr el sz g n get)) → ¬ Ie (E1.bl k) := by
          rintro k hk hna (hI | ⟨hex, k1, el, sz, g, n, get, hk1, h1, h2, e⟩)
          ·exact h.imm k hk hI
          ·by_cases hkk : k = k1
           ·subst hkk; exact hna hex hk1 _ _ _ _ _ h1
           ·exact h.inj k k1 hk (Blk.arr h1 h2) hkk e
         have hheap1 : Heap (objs0 os1) Ee Ie w' := by
          refine ⟨fun k ob hk => ?_, fun k k' hk hk' hne => ?_, fun k hk => ?_, fun k hk => ?_, fun b hb => ?_⟩
          ·obtain ⟨k0, o0, o1, p1, p2, p3, p4, p5⟩ := hkey k ob hk
           have hu : ks.getD (k - pbase) 0 = k0 := by rw [List.getD_eq_getElem?_getD, p1]; rfl
           obtain ⟨_, hob1⟩ := ObjR.fin h.objs p4 (h.objs _ _ p3)
           exact ObjR.ren hren (fun _ h => h) (by show E1.bl _ = _; rw [hu]) (by show E1.hv _ = _; rw [hu]) p5 hob1
          ·obtain ⟨k0, p1, p2, p3, p4, _⟩ := hblk k hk
           obtain ⟨k0', p1', p2', p3', p4', _⟩ := hblk k' hk'
           rw [p4, p4']
           refine h.inj _ _ p3 p3' (fun e => ?_)
           subst e
           have := getElem?_inj hnd p1 p1'
           omega
          ·obtain ⟨k0, p1, p2, p3, p4, p5⟩ := hblk k hk
           rw [p4]; exact hImm k0 p3 p5
          ·obtain ⟨k0, p1, p2, p3, p4, _⟩ := hblk k hk
           rw [p4]; exact h.lt _ p3
          ·rcases hb with hb | ⟨_, k1, el, sz, g, n, get, hk1, h1, h2, rfl⟩
           ·exact h.Ilt b hb
           ·exact h.lt _ (Blk.arr h1 h2)
         obtain ⟨r1, r2⟩ := renPs_at vs vs' hvs'
         have hvr : ∀ j, j < vs'.length → VR (objs0 os1) Ee Ie w' (vs'.getD j .none) (us.getD j undef) := fun j hj => (u3 j (by omega)).ren1 hren (fun _ h => h) (r2 j (by omega))
         refine ⟨h.defers, (if hh : us.toArray.size = 1 then us.toArray[0] else .tuple us.toArray), ?_, (if hh : us.toArray.size = 1 then us.toArray[0] else .tuple us.toArray), Ie, Ee, rfl, hheap1, fun k o hk => ?_, fun b hb => .inl (h.Iup b hb), fun b hb => ?_, ?_, fun k hk => ?_, h.fr⟩
         ·rw [results_eq, Array.mapM_eq_mapM_toList, Sem.run_bind, Sem.run_map, u1]
          rfl
         ·obtain ⟨k1, k2, k3⟩ := objs0_some hk
          have hj := hpre _ k2
          rw [show pbase + (k - pbase) = k by omega] at hj
          obtain ⟨o1, o2, q1, q2, q3⟩ := oa _ _ hj
          obtain ⟨o0, h1, h2⟩ := hfo _ _ q1
          obtain ⟨sk, _⟩ := ObjR.fin h.objs h2 (h.objs _ _ h1)
          obtain ⟨oi, h3, h4⟩ := h.ext k k1 o0 h1
          rw [hk] at h3; injection h3 with h3; subst h3
          have hu : ks.getD (k - pbase) 0 = k := by rw [List.getD_eq_getElem?_getD, hj]; rfl
          have eb : Ee.bl k = E1.bl k := by show E1.bl _ = _; rw [hu]
          refine ⟨o2, by unfold objs0; rw [if_pos k1]; exact q3, ?_⟩
          cases o with
          | cells cs =>
           obtain ⟨⟨cs1, rfl⟩, x1⟩ := h4
           obtain ⟨cs2, rfl⟩ := sk
           simp only [Ob.ren, mj] at q2
           obtain ⟨cs3, _, rfl⟩ := q2
           exact ⟨⟨cs3, rfl⟩, by rw [eb]; exact x1⟩
          | tcells t es =>
           obtain ⟨⟨cs1, rfl⟩, x1⟩ := h4
           obtain ⟨cs2, rfl⟩ := sk
           simp only [Ob.ren, mj] at q2
           obtain ⟨cs3, _, rfl⟩ := q2
           exact ⟨⟨cs3, rfl⟩, by rw [eb]; exact x1⟩
          | map es =>
           obtain ⟨⟨cs1, rfl⟩, x1⟩ := h4
           obtain ⟨cs2, rfl⟩ := sk
           simp only [Ob.ren, sj] at q2
           subst q2
           exact ⟨⟨cs2, rfl⟩, by rw [eb]; exact x1⟩
          | arr el sz g n get =>
           have hg0 : g = 0 := by
            have := List.all_eq_true.1 hyoung _ (List.mem_of_getElem? k3)
            exact Nat.eq_of_beq_eq_true this
           subst hg0
           obtain ⟨g1, n1, get1, rfl, _, _⟩ := h4
           cases sk
           simp only [Ob.ren, mj] at q2
           obtain ⟨g2, hg2, rfl⟩ := q2
           simp only [gmEnd, ageOf, h1, if_true, Nat.ble_eq_true_of_le k1, sj] at hg2
           subst hg2
           exact ⟨1, n1, get1, rfl, Nat.zero_le _, fun e => by cases e⟩
         ·rcases hb with hb | ⟨_, k1, el, sz, g, n, get, hk1, h1, h2, rfl⟩
          ·exact h.Inew b hb
          ·exact .inr (h.loc k1 hk1 (Blk.arr h1 h2))
         ·match vs', us, (by omega : us.length = vs'.length), hvr with
          | [v], [u], _, u3 => exact u3 0 (by simp)
          | [], [], _, _ => exact .tup _ _ rfl (fun j hj => by simp at hj)
          | v :: v' :: vs, u :: u' :: us, u2, u3 =>
           rw [dif_neg (by simp)]
           exact .tup _ _ (by simpa using u2) (fun j hj => by simpa using u3 j hj)
         ·obtain ⟨k0, p1, p2, p3, p4, _⟩ := hblk k hk
          by_cases hkl : k - pbase < os.length
          ·have hj := hpre _ hkl
           rw [p1] at hj; injection hj with hj
           have hkk : k0 = k := by omega
           subst hkk
           rcases h.own k0 p3 with ⟨x1, x2⟩ | x1
           ·exact .inl ⟨x1, by rw [p4]; exact x2⟩
           ·exact .inr (by rw [p4]; exact x1)
          ·have p3c := p3
           obtain ⟨o0, h0, _⟩ := p3c
           have hkp := hlocal _ _ p1 (by omega) o0 h0
           exact .inr (by rw [p4]; exact h.loc k0 hkp p3)
        ·cases ho
       ·cases ho
     unfold evBody at he
     split at he
     ·cases he
     ·rename_i ex st' hne hev
      have hw := evCode_ok hC hm A n c b hcb _ ex st' _ w hev ⟨_, _, h0⟩
      try rw [if_pos hyoung0] at he
      refine wp_mono hw ?_
      rintro e a' w' ⟨rfl, h'⟩
      have := fin st' a' w' h' hyoung0 he
      cases ex with
      | normal => exact this
      | ret => exact this
      | exit id => exact (hne id rfl).elim
     ·cases he
    ·cases hc
   ·cases hc
 ·cases he
def orC (A B : Oracle) : Oracle := fun f args os => match A f args os with
 | some r => some r
 | none => B f args os
theorem Meets.or {P : Program} {A B : Oracle} (hA : Meets P A) (hB : Meets P B) : Meets P (orC A B) := by
 intro f args os res os' h
 unfold orC at h
 split at h
 ·rename_i r hr
  simp only [sj] at h; subst h
  exact hA f args os res os' hr
 ·exact hB f args os res os' h
theorem Meets.none (P : Program) : Meets P (fun _ _ _ => none) := fun _ _ _ _ _ h => by cases h
theorem Meets.of_le {P : Program} {A B : Oracle} (hB : Meets P B) (h : ∀ f args os r, A f args os = some r → B f args os = some r) : Meets P A :=
 fun f args os res os' he => hB f args os res os' (h _ _ _ _ he)
end Go.Rx
