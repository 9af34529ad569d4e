/- No condition. -/
import Derived.Test.YtobeamaaifgllaaRxJ2
import Derived.Scope
namespace Go.Rx
open Go Go.RowKit
def act (P : Program) (C : Oracle) (o : POper) (st : St) : Option (PV × (Nat → Option Ob)) :=
 match o.guard with
 | none => effH P C st o
 | some (g, b) => match st.tmps g with
  | .one (.val (.bool t)) => if t = b then effH P C st o else some (.tup [], st.objs)
  | .tup [] => some (.tup [], st.objs)
  | _ => none
theorem pOp_act (P : Program) (C : Oracle) (o : POper) (st : St) : pOp P C o st = (act P C o st).map fun r => ({ st with objs := r.2 } : St).put o.dst r.1 := by
 unfold pOp act
 cases o.guard with
 | none => cases effH P C st o <;> rfl
 | some g =>
  obtain ⟨g, b⟩ := g
  simp only
  cases ht : st.tmps g with
  | one l =>
   cases l with
   | val v =>
    cases v with
    | bool t =>
     by_cases htb : t = b
     ·simp only [if_pos htb]
      cases effH P C st o <;> rfl
     ·simp only [if_neg htb]
      cases o.dst <;> rfl
    | _ => rfl
   | _ => rfl
  | tup vs =>
   cases vs with
   | nil => simp only; cases o.dst <;> rfl
   | cons _ _ => rfl
  | _ => rfl
def POper.looks (o : POper) : List Nat :=
 (o.op.opnds.filterMap fun | .tmp t => some t | _ => none) ++ (match o.guard with | some (g, _) => [g] | none => []) ++ o.hints.map (·.1)
theorem looks_ev {o : POper} {st st' : St} (h : ∀ t ∈ o.looks, st.tmps t = st'.tmps t) : ∀ x ∈ o.op.opnds, st.ev x = st'.ev x := by
 intro x hx
 refine ev_congr (fun t e => h t ?_)
 subst e
 exact List.mem_append_left _ (List.mem_append_left _ (List.mem_filterMap.2 ⟨.tmp t, hx, rfl⟩))
theorem okH_congr {st st' : St} : ∀ (hs : List (Nat × Hint)), (∀ t ∈ hs.map (·.1), st.tmps t = st'.tmps t) → okH hs st = okH hs st'
 | [], _ => rfl
 | (t, h) :: hs, ht => by simp only [okH, ht t (by simp), okH_congr hs (fun t' h' => ht t' (by simp at h' ⊢; exact .inr h'))]
theorem looks_ok {o : POper} {st st' : St} (h : ∀ t ∈ o.looks, st.tmps t = st'.tmps t) : okH o.hints st = okH o.hints st' :=
 okH_congr _ (fun t ht => h t (List.mem_append_right _ ht))
theorem effH_some {P : Program} {C : Oracle} {st : St} {o : POper} {r : PV × (Nat → Option Ob)} (h : effH P C st o = some r) : okH o.hints st = true ∧ eff P C st o.dst o.op = some r := by
 unfold effH at h
 split at h
 ·exact ⟨‹_›, h⟩
 ·cases h
theorem act_congr {P : Program} {C : Oracle} {o : POper} {st st' : St} (h : ∀ t ∈ o.looks, st.tmps t = st'.tmps t) (ho : st.objs = st'.objs) : act P C o st = act P C o st' := by
 have he : effH P C st o = effH P C st' o := by
  unfold effH
  rw [looks_ok h, eff_congr (P := P) (C := C) (looks_ev h) ho o.dst]
 unfold act
 cases hg : o.guard with
 | none => exact he
 | some g =>
  obtain ⟨g, b⟩ := g
  have hgt : st.tmps g = st'.tmps g := h g (by unfold POper.looks; rw [hg]; simp)
  simp only [hgt, he, ho]
theorem effH_cls0 {P : Program} {C : Oracle} {o : POper} {st st' : St} (hc : o.op.cls = 0) (h : ∀ t ∈ o.looks, st.tmps t = st'.tmps t) {v : PV} {objs' : Nat → Option Ob} (ha : effH P C st o = some (v, objs')) :
  objs' = st.objs ∧ effH P C st' o = some (v, st'.objs) := by
 obtain ⟨h1, h2⟩ := effH_some ha
 obtain ⟨e1, e2⟩ := eff_cls0 hc (looks_ev h) h2
 exact ⟨e1, by unfold effH; rw [← looks_ok h, if_pos h1]; exact e2⟩
theorem act_cls0 {P : Program} {C : Oracle} {o : POper} {st st' : St} (hc : o.op.cls = 0) (h : ∀ t ∈ o.looks, st.tmps t = st'.tmps t) {v : PV} {objs' : Nat → Option Ob} (ha : act P C o st = some (v, objs')) :
  objs' = st.objs ∧ act P C o st' = some (v, st'.objs) := by
 unfold act at ha ⊢
 cases hg : o.guard with
 | none => rw [hg] at ha; exact effH_cls0 hc h ha
 | some g =>
  obtain ⟨g, b⟩ := g
  rw [hg] at ha
  have hgt : st.tmps g = st'.tmps g := h g (by unfold POper.looks; rw [hg]; simp)
  simp only [← hgt]
  simp only at ha
  split at ha
  ·split at ha
   ·rename_i hb; rw [if_pos hb]; exact effH_cls0 hc h ha
   ·rename_i hb; rw [if_neg hb]
    simp only [sj, pj] at ha
    exact ⟨ha.2.symm, by rw [ha.1]⟩
  ·simp only [sj, pj] at ha
   exact ⟨ha.2.symm, by rw [ha.1]⟩
  ·cases ha
theorem act_cls1 {P : Program} {C : Oracle} {o : POper} {st : St} (hc : o.op.cls = 1) {v : PV} {objs' : Nat → Option Ob} (ha : act P C o st = some (v, objs')) : objs' = st.objs := by
 unfold act at ha
 split at ha
 ·exact eff_cls1 hc (effH_some ha).2
 ·split at ha
  ·split at ha
   ·exact eff_cls1 hc (effH_some ha).2
   ·simp only [sj, pj] at ha; exact ha.2.symm
  ·simp only [sj, pj] at ha; exact ha.2.symm
  ·cases ha
theorem effH_grow {P : Program} {C : Oracle} {o : POper} (hc : o.op.cls = 1) {st : St} {objs2 : Nat → Option Ob} (h : Grows st.objs objs2) {v : PV} {objs' : Nat → Option Ob} (ha : effH P C st o = some (v, objs')) :
  effH P C { st with objs := objs2 } o = some (v, objs2) := by
 obtain ⟨h1, h2⟩ := effH_some ha
 unfold effH
 rw [okH_objs, if_pos h1]
 exact eff_grow hc h h2
theorem act_grow {P : Program} {C : Oracle} {o : POper} (hc : o.op.cls = 1) {st : St} {objs2 : Nat → Option Ob} (h : Grows st.objs objs2) {v : PV} {objs' : Nat → Option Ob} (ha : act P C o st = some (v, objs')) :
  act P C o { st with objs := objs2 } = some (v, objs2) := by
 unfold act at ha ⊢
 split at ha
 ·exact effH_grow hc h ha
 ·simp only
  split at ha
  ·split at ha
   ·rename_i hb; rw [if_pos hb]; exact effH_grow hc h ha
   ·rename_i hb; rw [if_neg hb]
    simp only [sj, pj] at ha ⊢; exact ⟨ha.1, trivial⟩
  ·simp only [sj, pj] at ha ⊢; exact ⟨ha.1, trivial⟩
  ·cases ha
theorem act_new_grow {P : Program} {C : Oracle} {o : POper} (hn : o.op.isNew = true) {st : St} {v : PV} {objs' : Nat → Option Ob} (ha : act P C o st = some (v, objs')) : Grows st.objs objs' := by
 have same : ∀ o', o' = st.objs → Grows st.objs o' := fun o' e k q hk => by rw [e]; exact hk
 unfold act at ha
 split at ha
 ·exact eff_new_grow hn (effH_some ha).2
 ·split at ha
  ·split at ha
   ·exact eff_new_grow hn (effH_some ha).2
   ·simp only [sj, pj] at ha; exact same _ ha.2.symm
  ·simp only [sj, pj] at ha; exact same _ ha.2.symm
  ·cases ha
theorem effH_loc {P : Program} {C : Oracle} {o : POper} {st : St} {F : List Nat} (hF : fpOf o.hints o.dst o.op = some F) {v : PV} {o1 : Nat → Option Ob} (ha : effH P C st o = some (v, o1)) : LocAt F st v o1 (fun s => effH P C s o) := by
 obtain ⟨h1, h2⟩ := effH_some ha
 obtain ⟨l1, l2⟩ := eff_loc hF h1 h2
 refine ⟨l1, fun objs2 h => ?_⟩
 obtain ⟨o2, e, r⟩ := l2 objs2 h
 exact ⟨o2, by show effH P C { st with objs := objs2 } o = _; unfold effH; rw [okH_objs, if_pos h1]; exact e, r⟩
theorem act_loc {P : Program} {C : Oracle} {o : POper} {st : St} {F : List Nat} (hF : fpOf o.hints o.dst o.op = some F) {v : PV} {o1 : Nat → Option Ob} (ha : act P C o st = some (v, o1)) : LocAt F st v o1 (fun s => act P C o s) := by
 unfold act at ha
 cases hg : o.guard with
 | none =>
  rw [hg] at ha
  have := effH_loc hF ha
  refine ⟨this.1, fun objs2 h => ?_⟩
  obtain ⟨o2, e, r⟩ := this.2 objs2 h
  exact ⟨o2, by show act P C o _ = _; unfold act; simp only [hg]; exact e, r⟩
 | some gb =>
  obtain ⟨g, b⟩ := gb
  rw [hg] at ha
  simp only at ha
  split at ha
  ·rename_i t ht
   split at ha
   ·rename_i hb
    have := effH_loc hF ha
    refine ⟨this.1, fun objs2 h => ?_⟩
    obtain ⟨o2, e, r⟩ := this.2 objs2 h
    exact ⟨o2, by show act P C o _ = _; unfold act; simp only [hg, ht, if_pos hb]; exact e, r⟩
   ·rename_i hb
    simp only [sj, pj] at ha
    obtain ⟨rfl, rfl⟩ := ha
    exact loc_same rfl (fun objs2 _ => by unfold act; simp only [hg, ht, if_neg hb])
  ·rename_i ht
   simp only [sj, pj] at ha
   obtain ⟨rfl, rfl⟩ := ha
   exact loc_same rfl (fun objs2 _ => by unfold act; simp only [hg, ht])
  ·cases ha
def disjB (a b : List Nat) : Bool := a.all fun k => !b.contains k
def fpApart (x y : POper) : Bool :=
 match fpOf x.hints x.dst x.op, fpOf y.hints y.dst y.op with
 | some a, some b => disjB a b
 | _, _ => false
def plApart (x y : POper) : Bool :=
 match placeOf x.hints x.op, placeOf y.hints y.op with
 | some a, some b => apartPl a b
 | _, _ => false
def wrOf (hs : List (Nat × Hint)) : POp → Option (List Nat)
 | .app key _ _ _ s x => match hintOf hs s, hintOf hs x with
  | some .imm, some (.obj _) => some [key]
  | _, _ => none
 | _ => none
theorem act_wr {P : Program} {C : Oracle} {o : POper} {st : St} {W : List Nat} (hW : wrOf o.hints o.op = some W) {v : PV} {o1 : Nat → Option Ob} (ha : act P C o st = some (v, o1)) : ∀ k, k ∉ W → o1 k = st.objs k := by
 have key : ∀ u q, effH P C st o = some (u, q) → ∀ k, k ∉ W → q k = st.objs k := by
  intro u q he k hk
  obtain ⟨h1, h2⟩ := effH_some he
  generalize o.op = p at hW h2
  cases p <;> first | (cases hW; done) | skip
  rename_i key el esz bytes s x
  simp only [wrOf] at hW
  split at hW
  ·rename_i hs hx
   simp only [sj] at hW
   subst hW
   simp only [eff] at h2
   have hk : k ≠ key := fun e => hk (by rw [e]; simp)
   split at h2
   ·split at h2
    ·exact (appP_loc ((hint_imm h1 hs).only _) h2).1 k hk
    ·cases h2
   ·split at h2
    ·split at h2
     ·exact (appP_loc ((hint_imm h1 hs).only _) h2).1 k hk
     ·cases h2
    ·cases h2
   ·split at h2
    ·simp only [sj, pj] at h2
     rw [← h2.2]
    ·rename_i hs'
     have := hint_imm h1 hs
     rw [hs'] at this
     exact this.elim
    ·cases h2
   ·cases h2
  ·cases hW
 unfold act at ha
 split at ha
 ·exact key _ _ ha
 ·split at ha
  ·split at ha
   ·exact key _ _ ha
   ·simp only [sj, pj] at ha
    intro k _; rw [← ha.2]
  ·simp only [sj, pj] at ha
   intro k _; rw [← ha.2]
  ·cases ha
def rwApart (x y : POper) : Bool :=
 y.op.cls == 1 && (match fpOf y.hints y.dst y.op, wrOf x.hints x.op with
 | some a, some b => disjB a b
 | _, _ => false)
def apartP (x y : POper) : Bool :=
 (match x.dst with
  | some d => !y.looks.contains d && y.dst != some d
  | none => true) &&
 (match y.dst with
  | some d => !x.looks.contains d
  | none => true)
def commB (x y : POper) : Bool := apartP x y && (x.op.cls == 0 || y.op.cls == 0 || (x.op.cls == 1 && y.op.cls == 1) || (x.op.cls == 1 && y.op.isNew) || fpApart x y || plApart x y || rwApart x y || rwApart y x)
theorem put_looks {o : POper} {st : St} {objs : Nat → Option Ob} {d : Option Nat} {v : PV} (h : ∀ x, d = some x → x ∉ o.looks) : ∀ t ∈ o.looks, (({ st with objs := objs } : St).put d v).tmps t = st.tmps t := by
 intro t ht
 cases d with
 | none => rfl
 | some d => exact upd_ne _ _ (fun e => h d rfl (e ▸ ht))
theorem put_comm (st : St) (objs : Nat → Option Ob) {x y : Option Nat} (v u : PV) (h : ∀ d, x = some d → y ≠ some d) :
  ({ (({ st with objs := objs } : St).put x v) with objs := objs } : St).put y u = ({ (({ st with objs := objs } : St).put y u) with objs := objs } : St).put x v := by
 cases x with
 | none => cases y <;> rfl
 | some d =>
  cases y with
  | none => rfl
  | some e =>
   have hne : e ≠ d := fun he => h d rfl (he ▸ rfl)
   simp only [St.put]
   congr 1
   funext j
   simp only [upd]
   by_cases h1 : j = e
   ·subst h1; rw [if_pos rfl, if_neg hne, if_pos rfl]
   ·rw [if_neg h1, if_neg h1]
theorem put_with (st : St) (objs objs' : Nat → Option Ob) (d : Option Nat) (v : PV) : ({ (({ st with objs := objs } : St).put d v) with objs := objs' } : St) = ({ st with objs := objs' } : St).put d v := by cases d <;> rfl
theorem comm_ok {P : Program} {C : Oracle} {x y : POper} (h : commB x y = true) {st st1 st2 : St} (h1 : pOp P C x st = some st1) (h2 : pOp P C y st1 = some st2) :
  ∃ st1', pOp P C y st = some st1' ∧ pOp P C x st1' = some st2 := by
 simp only [commB, Bool.and_eq_true, Bool.or_eq_true, beq_iff_eq] at h
 obtain ⟨hap, hcl⟩ := h
 have a1 : ∀ d, x.dst = some d → d ∉ y.looks := fun d hd => by simp [apartP, hd] at hap; exact hap.1.1
 have a2 : ∀ d, x.dst = some d → y.dst ≠ some d := fun d hd => by simp [apartP, hd] at hap; exact hap.1.2
 have a3 : ∀ d, y.dst = some d → d ∉ x.looks := fun d hd => by simp [apartP, hd] at hap; exact hap.2
 simp only [pOp_act, mj] at h1 h2 ⊢
 obtain ⟨⟨vx, ox⟩, hx, rfl⟩ := h1
 obtain ⟨⟨vy, oy⟩, hy, rfl⟩ := h2
 have l1 := put_looks (st := st) (objs := ox) (v := vx) a1
 have fin : ∀ o', ({ (({ st with objs := ox } : St).put x.dst vx) with objs := o' } : St).put y.dst vy = ({ (({ st with objs := o' } : St).put y.dst vy) with objs := o' } : St).put x.dst vx := by
  intro o'
  rw [← put_comm st o' vx vy a2, put_with, put_with]
 simp only at fin ⊢
 have keep : ∀ (oo : Nat → Option Ob), ((({ st with objs := oo } : St).put y.dst vy)).objs = oo := fun oo => by cases y.dst <;> rfl
 have keepx : ((({ st with objs := ox } : St).put x.dst vx)).objs = ox := by cases x.dst <;> rfl
 have disj : ∀ a b : List Nat, disjB a b = true → ∀ k ∈ a, k ∉ b := fun a b h k hk hg => by
  have := List.all_eq_true.1 h k hk
  simp at this
  exact this hg
 rcases hcl with ((((((hc | hc) | ⟨hc, hc'⟩) | ⟨hc, hn⟩) | hfp) | hpl) | hrw) | hrw
 rotate_left 6
 ·unfold rwApart at hrw
  simp only [Bool.and_eq_true, beq_iff_eq] at hrw
  obtain ⟨hc1, hrw⟩ := hrw
  split at hrw
  ·rename_i G W hG hW
   have hd := disj _ _ hrw
   have hy' : act P C y { st with objs := ox } = some (vy, oy) := by rw [← hy]; exact (act_congr (st' := { st with objs := ox }) l1 keepx).symm
   have e0 : oy = ox := act_cls1 hc1 hy'
   subst e0
   obtain ⟨o2, e1, _⟩ := (act_loc hG hy').2 st.objs (fun k hk => (act_wr hW hx k (hd k hk)).symm)
   have e1' : act P C y st = some (vy, o2) := e1
   have e2 : o2 = st.objs := act_cls1 hc1 e1'
   subst e2
   have l2 := put_looks (st := st) (objs := st.objs) (v := vy) a3
   have e3 : act P C x (({ st with objs := st.objs } : St).put y.dst vy) = some (vx, oy) := by rw [← hx]; exact act_congr l2 (keep st.objs)
   refine ⟨_, ⟨(vy, st.objs), e1', rfl⟩, (vx, oy), e3, ?_⟩
   rw [fin oy]
   rw [put_with, put_with]
  ·cases hrw
 ·unfold rwApart at hrw
  simp only [Bool.and_eq_true, beq_iff_eq] at hrw
  obtain ⟨hc1, hrw⟩ := hrw
  split at hrw
  ·rename_i G W hG hW
   have hd := disj _ _ hrw
   have e0 : ox = st.objs := act_cls1 hc1 hx
   subst e0
   have e1 : act P C y st = some (vy, oy) := by rw [← hy]; exact (act_congr l1 keepx).symm
   obtain ⟨o3, f1, _⟩ := (act_loc hG hx).2 oy (fun k hk => act_wr hW e1 k (hd k hk))
   have f1' : act P C x { st with objs := oy } = some (vx, o3) := f1
   have e2 : o3 = oy := act_cls1 hc1 f1'
   subst e2
   have l2 := put_looks (st := st) (objs := o3) (v := vy) a3
   have e3 : act P C x (({ st with objs := o3 } : St).put y.dst vy) = some (vx, o3) := by rw [← f1']; exact act_congr l2 (keep o3)
   exact ⟨_, ⟨(vy, o3), e1, rfl⟩, (vx, o3), e3, (fin o3).symm⟩
  ·cases hrw
 ·obtain ⟨rfl, _⟩ := act_cls0 hc (fun _ _ => rfl) hx (st' := st)
  have e1 : act P C y st = some (vy, oy) := by rw [← hy]; exact (act_congr l1 keepx).symm
  have l2 := put_looks (st := st) (objs := oy) (v := vy) a3
  obtain ⟨_, e2⟩ := act_cls0 hc (fun t ht => (l2 t ht).symm) hx
  rw [keep] at e2
  exact ⟨_, ⟨(vy, oy), e1, rfl⟩, (vx, oy), e2, (fin oy).symm⟩
 ·obtain ⟨e0, e1⟩ := act_cls0 hc l1 hy
  rw [keepx] at e0
  subst e0
  have l2 := put_looks (st := st) (objs := st.objs) (v := vy) a3
  have e2 : act P C x (({ st with objs := st.objs } : St).put y.dst vy) = some (vx, oy) := by rw [← hx]; exact act_congr l2 (keep st.objs)
  refine ⟨_, ⟨(vy, st.objs), e1, rfl⟩, (vx, oy), e2, ?_⟩
  rw [fin oy]
  rw [put_with, put_with]
 ·have e0 := act_cls1 hc hx
  subst e0
  have e0 := act_cls1 hc' hy
  rw [keepx] at e0
  subst e0
  have e1 : act P C y st = some (vy, st.objs) := by rw [← hy]; exact (act_congr l1 keepx).symm
  have l2 := put_looks (st := st) (objs := st.objs) (v := vy) a3
  have e2 : act P C x (({ st with objs := st.objs } : St).put y.dst vy) = some (vx, st.objs) := by rw [← hx]; exact act_congr l2 (keep st.objs)
  exact ⟨_, ⟨(vy, st.objs), e1, rfl⟩, (vx, st.objs), e2, (fin st.objs).symm⟩
 ·have e0 := act_cls1 hc hx
  subst e0
  have e1 : act P C y st = some (vy, oy) := by rw [← hy]; exact (act_congr l1 keepx).symm
  have hg := act_new_grow hn e1
  have l2 := put_looks (st := st) (objs := oy) (v := vy) a3
  have e2 := act_grow hc hg hx
  have e3 : act P C x (({ st with objs := oy } : St).put y.dst vy) = some (vx, oy) := by rw [← e2]; exact act_congr l2 (keep oy)
  exact ⟨_, ⟨(vy, oy), e1, rfl⟩, (vx, oy), e3, (fin oy).symm⟩
 ·unfold fpApart at hfp
  split at hfp
  ·rename_i F G hF hG
   have hd : ∀ k, k ∈ F → k ∉ G := fun k hk hg => by
    have := List.all_eq_true.1 hfp k hk
    simp at this
    exact this hg
   have lx := act_loc hF hx
   have hy' : act P C y { st with objs := ox } = some (vy, oy) := by rw [← hy]; exact (act_congr (st' := { st with objs := ox }) l1 keepx).symm
   have ly := act_loc hG hy'
   obtain ⟨lx1, lx2⟩ := lx
   obtain ⟨ly1, ly2⟩ := ly
   obtain ⟨o2, e1, e2, e3⟩ := ly2 st.objs (fun k hk => (lx1 k (fun h => hd k h hk)).symm)
   have e1' : act P C y st = some (vy, o2) := e1
   obtain ⟨o3, f1, f2, f3⟩ := lx2 o2 (fun k hk => e3 k (hd k hk))
   have eo : o3 = oy := by
    funext k
    by_cases hkF : k ∈ F
    ·rw [f2 k hkF, ly1 k (hd k hkF)]
    ·rw [f3 k hkF]
     by_cases hkG : k ∈ G
     ·exact e2 k hkG
     ·rw [e3 k hkG, ly1 k hkG]; exact (lx1 k hkF).symm
   subst eo
   have l2 := put_looks (st := st) (objs := o2) (v := vy) a3
   have f1' : act P C x (({ st with objs := o2 } : St).put y.dst vy) = some (vx, o3) := by rw [← f1]; exact act_congr l2 (keep o2)
   refine ⟨_, ⟨(vy, o2), e1', rfl⟩, (vx, o3), f1', ?_⟩
   have hfin := fin o3
   rw [hfin]
   rw [put_with, put_with]
  ·cases hfp
 ·unfold plApart at hpl
  split at hpl
  ·rename_i pa pb hpa hpb
   have hy' : act P C y { st with objs := ox } = some (vy, oy) := by rw [← hy]; exact (act_congr (st' := { st with objs := ox }) l1 keepx).symm
   have key : ∃ o', act P C y st = some (vy, o') ∧ act P C x { st with objs := o' } = some (vx, oy) := by
    have skipx : ∀ (o : POper) (s : St) (u : PV) (o' : Nat → Option Ob), act P C o s = some (u, o') → (o' = s.objs ∧ ∀ ob, act P C o { s with objs := ob } = some (u, ob)) ∨ (effH P C s o = some (u, o') ∧ ∀ ob, act P C o { s with objs := ob } = effH P C { s with objs := ob } o) := by
     intro o s u o' ha
     unfold act at ha
     cases hg : o.guard with
     | none =>
      rw [hg] at ha
      exact .inr ⟨ha, fun ob => by unfold act; simp only [hg]⟩
     | some gb =>
      obtain ⟨g, b⟩ := gb
      rw [hg] at ha
      simp only at ha
      split at ha
      ·rename_i t ht
       split at ha
       ·rename_i hb
        exact .inr ⟨ha, fun ob => by unfold act; simp only [hg, ht, if_pos hb]⟩
       ·rename_i hb
        simp only [sj, pj] at ha
        obtain ⟨rfl, rfl⟩ := ha
        exact .inl ⟨rfl, fun ob => by unfold act; simp only [hg, ht, if_neg hb]⟩
      ·rename_i ht
       simp only [sj, pj] at ha
       obtain ⟨rfl, rfl⟩ := ha
       exact .inl ⟨rfl, fun ob => by unfold act; simp only [hg, ht]⟩
      ·cases ha
    rcases skipx x st vx ox hx with ⟨rfl, sx⟩ | ⟨hxe, sx⟩
    ·exact ⟨oy, hy', sx oy⟩
    ·rcases skipx y _ vy oy hy' with ⟨rfl, sy⟩ | ⟨hye, sy⟩
     ·exact ⟨st.objs, sy st.objs, hx⟩
     ·obtain ⟨okx, hx2⟩ := effH_some hxe
      obtain ⟨oky, hy2⟩ := effH_some hye
      have oky' : okH y.hints st = true := by rw [← oky]; exact (okH_objs _ _ _).symm
      obtain ⟨o', c1, c2⟩ := place_comm hpa hpb hpl okx oky' hx2 hy2
      refine ⟨o', ?_, ?_⟩
      ·have := sy st.objs
       rw [show act P C y st = effH P C st y from this]
       unfold effH; rw [if_pos oky']; exact c1
      ·rw [sx o']
       unfold effH; rw [okH_objs, if_pos okx]; exact c2
   obtain ⟨o', e1, e2⟩ := key
   have l2 := put_looks (st := st) (objs := o') (v := vy) a3
   have e2' : act P C x (({ st with objs := o' } : St).put y.dst vy) = some (vx, oy) := by rw [← e2]; exact act_congr l2 (keep o')
   refine ⟨_, ⟨(vy, o'), e1, rfl⟩, (vx, oy), e2', ?_⟩
   have hfin := fin oy
   rw [hfin]
   rw [put_with, put_with]
  ·cases hpl
def dstOk (nt : Nat) : Option Nat → Bool
 | some d => decide (d < nt)
 | none => true
def keyOf (ka : Nat → Nat) : Option Nat → Nat
 | some d => ka d
 | none => 0
structure Ann extends Ann0 where
 kr : Nat → Option (List Nat × List Nat × List OwnE)
 ka : Nat → Nat
 kh : Nat → Option Hint
 ln : Option Nat → Bool := fun _ => false
def hintsOf (kh : Nat → Option Hint) (xs : List Operand) : List (Nat × Hint) :=
 xs.filterMap fun
  | .tmp t => (kh t).map fun h => (t, h)
  | _ => none
def compOper (P : Program) (A : Ann) (dr : Bool) (ops : Array Oper) (nt : Nat) (o : Oper) : Option POper :=
 match compOp P A.toAnn0 o.dst dr (keyOf A.ka o.dst) o.op with
 | none => none
 | some p =>
  if dstOk nt o.dst then
   match o.guard with
   | none => some ⟨o.dst, p, none, if dr then hintsOf A.kh p.opnds else []⟩
   | some (j, b) => match (ops[j]?).bind (·.dst) with
    | some g => some ⟨o.dst, p, some (g, b), if dr then hintsOf A.kh p.opnds else []⟩
    | none => none
  else none
def compOps (P : Program) (A : Ann) (dr : Bool) (ops : Array Oper) (nt : Nat) : List Oper → Option (List POper)
 | [] => some []
 | o :: os => match compOper P A dr ops nt o, compOps P A dr ops nt os with
  | some p, some ps => some (p :: ps)
  | _, _ => none
def compLend (P : Program) (nt : Nat) (o1 o2 : Oper) : Option POper :=
 match o1.guard, o2.guard, o1.dst, o2.dst, o1.op, o2.op with
 | none, none, some da, some dc, .call c1, .call c2 => match c1.callee, c1.argTypes.toList, c1.args.toList, c2.callee with
  | .builtin .append, [t, t'], [s, x], .value (.func f) => if t = t' ∧ da < nt ∧ dc < nt then match P.underlying t with
   | some (.slice e) => match P.info? e with
    | some i => match i.zero with
     | some z => if z.cells.size = i.size ∧ 0 < i.size ∧ e < fixM then
       some ⟨some dc, .lend da e i.size i.bytes s x (nilsAll P c2.argTypes.toList) f c2.args.toList, none, []⟩ else none
     | none => none
    | none => none
   | _ => none
   else none
  | _, _, _, _ => none
 | _, _, _, _, _, _ => none
def compOpsL (P : Program) (A : Ann) (ops : Array Oper) (nt : Nat) : List Oper → Option (List POper)
 | [] => some []
 | [o] => match compOper P A false ops nt o with
  | some p => some [p]
  | none => none
 | o :: o2 :: os => if A.ln o.dst then
   match compLend P nt o o2, compOpsL P A ops nt os with
   | some p, some ps => some (p :: ps)
   | _, _ => none
  else match compOper P A false ops nt o, compOpsL P A ops nt (o2 :: os) with
   | some p, some ps => some (p :: ps)
   | _, _ => none
def depOn (ops : Array Oper) (listed : Array Bool) (k : Nat) (S : List Nat) (j : Nat) : Bool :=
 !listed.getD j true && (match ops[j]? with
  | some oj => oj.after.any (fun e => Region.binds .any e && (e.on == k || S.contains e.on))
  | none => false)
def depsOf (ops : Array Oper) (listed : Array Bool) (k : Nat) : List Nat → List Nat → List Nat
 | [], S => S
 | j :: js, S => depsOf ops listed k js (if depOn ops listed k S j then j :: S else S)
def freeP (ops : Array Oper) (pops : List POper) (listed : Array Bool) (k : Nat) : Bool :=
 match pops[k]? with
 | none => false
 | some pk =>
  let S := depsOf ops listed k (List.range ops.size) []
  (List.range ops.size).all fun j => j == k || listed.getD j true || S.contains j || (match ops[j]?, pops[j]? with
  | some _, some pj => commB pk pj
  | _, _ => false)
def lexP (ops : Array Oper) (pops : List POper) : Nat → Nat → Array Bool → Bool
 | 0, _, listed => (Region.ready .any ops listed).isEmpty
 | fuel + 1, k, listed => (Region.ready .any ops listed).contains k && freeP ops pops listed k && lexP ops pops fuel (k + 1) (listed.setIfInBounds k true)
def comp (P : Program) (A : Ann) (nt : Nat) : Code → Option PCode
 | .skip => some .skip
 | .region id ops draw => match (if draw then compOps P A true ops nt ops.toList else compOpsL P A ops nt ops.toList) with
  | some pl => if !draw || lexP ops pl ops.size 0 (Array.replicate ops.size false) then some (.region (A.kr id) draw pl) else none
  | none => none
 | .seq a b => match comp P A nt a, comp P A nt b with
  | some x, some y => some (.seq x y)
  | _, _ => none
 | .cond c a b => match comp P A nt a, comp P A nt b with
  | some x, some y => some (.cond c x y)
  | _, _ => none
 | .block id c => match comp P A nt c with
  | some x => some (.block id x)
  | none => none
 | .loop c => match comp P A nt c with
  | some x => some (.loop x)
  | none => none
 | .exit id => some (.exit id)
 | .scope c => match comp P A nt c with
  | some x => some (.scope x)
  | none => none
 | .label _ => some .label
 | .ret => some .ret
 | _ => none
def PEx.exit? : PEx → Exit
 | .normal => .normal
 | .exit id => .exit id
 | .ret => .ret
section
variable {P : Program} {C : Oracle} {w0 : World} {O0 : Nat → Option Ob} {E0 : Env} {I0 : Nat → Prop} {nt : Nat} {st : St} {E : Env} {I : Nat → Prop} {a : Act} {w : World} {ops : Array Oper} {Q : Exit → Act → World → Prop}
def RelX (w0 : World) (O0 : Nat → Option Ob) (E0 : Env) (I0 : Nat → Prop) (nt : Nat) (st : St) (a : Act) (w : World) : Prop := ∃ E I, Rel w0 O0 E0 I0 nt st E I a w
theorem compOper_dst {A : Ann} {dr : Bool} {o : Oper} {po : POper} (h : compOper P A dr ops nt o = some po) : po.dst = o.dst ∧ compOp P A.toAnn0 o.dst dr (keyOf A.ka o.dst) o.op = some po.op ∧ (∀ x, o.dst = some x → x < nt) ∧
  (match o.guard, po.guard with | none, none => True | some (j, b), some (g, b') => b = b' ∧ (ops[j]?).bind (·.dst) = some g | _, _ => False) := by
 unfold compOper at h
 split at h
 ·cases h
 ·rename_i p hp
  split at h
  ·rename_i hd
   have hd' : ∀ x, o.dst = some x → x < nt := fun x hx => by simpa [hx, dstOk] using hd
   split at h
   ·rename_i hg
    simp only [sj] at h; subst h
    exact ⟨rfl, hp, hd', by rw [hg]; trivial⟩
   ·rename_i j b hg
    split at h
    ·rename_i g hgg
     simp only [sj] at h; subst h
     exact ⟨rfl, hp, hd', by rw [hg]; exact ⟨rfl, hgg⟩⟩
    ·cases h
  ·cases h
theorem pOp_wp (hC : Meets P C) (h : RelX w0 O0 E0 I0 nt st a w) {A : Ann} {dr : Bool} {i : Nat} {o : Oper} {po : POper} (hi : ops[i]? = some o) (hc : compOper P A dr ops nt o = some po) {st' : St} (hp : pOp P C po st = some st')
  {K : Act → World → Prop} (hK : ∀ a' w', RelX w0 O0 E0 I0 nt st' a' w' → K a' w') : wpOp P ops Q i K a w := by
 obtain ⟨E, I, h⟩ := h
 obtain ⟨c1, c2, c3, c4⟩ := compOper_dst hc
 have perform : ∀ v objs', effH P C st po = some (v, objs') → (∀ a' w', RelX w0 O0 E0 I0 nt (({ st with objs := objs' } : St).put o.dst v) a' w' → K a' w') → o.wp P a w K Q := by
  intro v objs' he hK'
  have he := (effH_some he).2
  rw [c1] at he
  exact eff_ok hC h c3 c2 he K Q (fun val w' hl => hK' _ _ hl)
 unfold wpOp
 simp only [hi]
 unfold pOp at hp
 cases hg : po.guard with
 | none =>
  rw [hg] at hp c4
  have hog : o.guard = none := by
   cases ho : o.guard with
   | none => rfl
   | some g => rw [ho] at c4; exact c4.elim
  simp only [Region.wanted, hog, if_true]
  simp only at hp
  split at hp
  ·rename_i v objs' he
   simp only [sj] at hp
   subst hp
   rw [c1] at hK
   exact .inl (perform v objs' he hK)
  ·cases hp
 | some gg =>
  obtain ⟨g, b'⟩ := gg
  rw [hg] at hp c4
  cases ho : o.guard with
  | none => rw [ho] at c4; exact c4.elim
  | some jb =>
   obtain ⟨j, b⟩ := jb
   rw [ho] at c4
   obtain ⟨rfl, hgd⟩ := c4
   simp only at hp
   split at hp
   ·rename_i t ht
    have hv := h.tmps g
    rw [ht] at hv
    generalize hat : a.tmps.getD g undef = at' at hv
    cases hv with
    | one _ _ hv =>
     have := LR.ofVal hv
     subst this
     have hget : a.tmps[g]? = some (.bool t) := by
      rw [Array.getD_eq_getD_getElem?] at hat
      cases hq : a.tmps[g]? with
      | none => rw [hq] at hat; simp [undef] at hat
      | some u => rw [hq] at hat; simp at hat; rw [hat]
     have hy : yielded ops a.tmps j = some t := by simp [yielded, hgd, hget]
     simp only [Region.wanted, ho, hy]
     split at hp
     ·rename_i htb
      subst htb
      simp only [beq_self_eq_true, if_true]
      split at hp
      ·rename_i v objs' he
       simp only [sj] at hp
       subst hp
       rw [c1] at hK
       exact .inl (perform v objs' he hK)
      ·cases hp
     ·rename_i htb
      have : (some t == some b) = false := by simpa using htb
      simp only [this, Bool.false_eq_true, if_false]
      simp only [sj] at hp
      subst hp
      rw [c1] at hK
      exact hK _ _ ⟨E, I, h.step (Wst.refl _ _) o.dst c3 (.tup []) undef (.tup [] #[] rfl (fun j hj => by simp at hj))⟩
   ·rename_i ht
    have hv := h.tmps g
    rw [ht] at hv
    generalize hat : a.tmps.getD g undef = at' at hv
    cases hv with
    | tup _ C hC _ =>
     have hC0 : C = #[] := by simpa using hC
     subst hC0
     have hy : (yielded ops a.tmps j == some b) = false := by
      have hq : a.tmps[g]? = none ∨ a.tmps[g]? = some (.tuple #[]) := by
       rw [Array.getD_eq_getD_getElem?] at hat
       cases hq : a.tmps[g]? with
       | none => exact .inl rfl
       | some u => rw [hq] at hat; simp at hat; exact .inr (by rw [hat])
      rcases hq with hq | hq <;> simp [yielded, hgd, hq]
     simp only [Region.wanted, ho, hy, Bool.false_eq_true, if_false]
     simp only [sj] at hp
     subst hp
     rw [c1] at hK
     exact hK _ _ ⟨E, I, h.step (Wst.refl _ _) o.dst c3 (.tup []) undef (.tup [] #[] rfl (fun j hj => by simp at hj))⟩
   ·cases hp
theorem pOps_wp (hC : Meets P C) {A : Ann} {dr : Bool} : ∀ (l : List Oper) (pl : List POper) (k : Nat) (st st' : St) (a : Act) (w : World), (∀ j, l[j]? = ops[k + j]?) → compOps P A dr ops nt l = some pl → pOps P C pl st = some st' → RelX w0 O0 E0 I0 nt st a w →
  (∀ a' w', RelX w0 O0 E0 I0 nt st' a' w' → Q .normal a' w') → wpOps P ops Q (List.range' k l.length) a w
 | [], pl, k, st, st', a, w, _, hc, hp, h, hQ => by
  simp only [compOps, sj] at hc
  subst hc
  simp only [pOps, sj] at hp
  subst hp
  exact hQ a w h
 | o :: l, pl, k, st, st', a, w, hl, hc, hp, h, hQ => by
  simp only [compOps] at hc
  split at hc
  ·rename_i p ps hco hcs
   simp only [sj] at hc
   subst hc
   simp only [pOps] at hp
   split at hp
   ·rename_i st1 h1
    rw [List.length_cons, List.range'_succ, wpOps_cons]
    have h0 : ops[k]? = some o := by simpa using (hl 0).symm
    refine pOp_wp hC h h0 hco h1 (fun a' w' h' => ?_)
    exact pOps_wp hC l ps (k + 1) st1 st' a' w' (fun j => by have := hl (j + 1); simpa [Nat.add_assoc, Nat.add_comm 1 j] using this) hcs hp h' hQ
   ·cases hp
  ·cases hc
def pAny (P : Program) (C : Oracle) (ops : Array Oper) (pops : List POper) (Q : St → Prop) : Nat → Array Bool → St → Prop
 | 0, listed, st => Region.ready .any ops listed = [] ∧ Q st
 | fuel + 1, listed, st => (Region.ready .any ops listed = [] → Q st) ∧
  ∀ i ∈ Region.ready .any ops listed, ∃ po st', pops[i]? = some po ∧ pOp P C po st = some st' ∧ pAny P C ops pops Q fuel (listed.setIfInBounds i true) st'
structure Late (ops : Array Oper) (listed : Array Bool) (i : Nat) (S : List Nat) : Prop where
 un : ∀ j ∈ S, listed.getD j true = false
 dep : ∀ j ∈ S, ∃ oj, ops[j]? = some oj ∧ ∃ e ∈ oj.after, Region.binds .any e = true ∧ (e.on = i ∨ e.on ∈ S)
theorem Late.not_ready {listed : Array Bool} {i j : Nat} {S : List Nat} (h : Late ops listed i S) (hi : listed.getD i true = false) (hj : j ∈ Region.ready .any ops listed) : j ∉ S := by
 intro hS
 obtain ⟨hjun, oj, hoj, hall⟩ := mem_ready.1 hj
 obtain ⟨oj', hoj', e, he, hb, hon⟩ := h.dep j hS
 rw [hoj] at hoj'; injection hoj' with hoj'; subst hoj'
 have h1 := hall e he hb
 have h0 : listed.getD e.on true = false := by
  rcases hon with hon | hon
  ·rw [hon]; exact hi
  ·exact h.un _ hon
 rcases Nat.lt_or_ge e.on listed.size with h' | h'
 ·simp [h'] at h0 h1; rw [h0] at h1; cases h1
 ·simp [Array.getElem?_eq_none h'] at h1
theorem pAny_first {pops : List POper} {QS : St → Prop} {i : Nat} {oi : Oper} {pi : POper} {S : List Nat} (hi : ops[i]? = some oi) (hpi : pops[i]? = some pi) :
  ∀ (fuel : Nat) (listed : Array Bool) (st st1 : St), Late ops listed i S →
   (∀ j oj pj, ops[j]? = some oj → pops[j]? = some pj → j ≠ i → listed.getD j true = false → j ∉ S → commB pi pj = true) →
   i ∈ Region.ready .any ops listed → pOp P C pi st = some st1 →
   pAny P C ops pops QS fuel (listed.setIfInBounds i true) st1 → pAny P C ops pops QS (fuel + 1) listed st := by
 intro fuel
 induction fuel with
 | zero =>
  intro listed st st1 _ _ hr hy H
  refine ⟨fun h => (by rw [h] at hr; cases hr), fun j hj => ?_⟩
  by_cases hji : j = i
  ·subst hji; exact ⟨pi, st1, hpi, hy, H⟩
  ·have := ready_mono hj hji
   rw [H.1] at this
   cases this
 | succ fuel ih =>
  intro listed st st1 hlate hfree hr hy H
  refine ⟨fun h => (by rw [h] at hr; cases hr), fun j hj => ?_⟩
  by_cases hji : j = i
  ·subst hji; exact ⟨pi, st1, hpi, hy, H⟩
  ·obtain ⟨pj, st2, hpj, h2, H2⟩ := H.2 j (ready_mono hj hji)
   obtain ⟨hjun, oj, hoj, hall⟩ := mem_ready.1 hj
   have hjS : j ∉ S := hlate.not_ready (mem_ready.1 hr).1 hj
   obtain ⟨st1', e1, e2⟩ := comm_ok (hfree j oj pj hoj hpj hji hjun hjS) hy h2
   have hset : ∀ q, q ≠ j → (listed.setIfInBounds j true).getD q true = listed.getD q true := fun q hq => getD_set_ne true (Ne.symm hq)
   refine ⟨pj, st1', hpj, e1, ih (listed.setIfInBounds j true) st1' st2 ⟨fun q hq => ?_, hlate.dep⟩ (fun k ok pk hk hpk hki hun hno => ?_) (ready_mono hr (Ne.symm hji)) e2 ?_⟩
   ·rw [hset q (fun e => hjS (e ▸ hq))]; exact hlate.un q hq
   ·refine hfree k ok pk hk hpk hki ?_ hno
    by_cases hjk : j = k
    ·subst hjk; exact hjun
    ·rw [getD_set_ne true hjk] at hun; exact hun
   ·rw [Array.setIfInBounds_comm _ _ hji]
    exact H2
theorem depsOf_late {listed : Array Bool} {k : Nat} : ∀ (js S : List Nat), Late ops listed k S → Late ops listed k (depsOf ops listed k js S)
 | [], S, h => h
 | j :: js, S, h => by
  simp only [depsOf]
  refine depsOf_late js _ ?_
  split
  ·rename_i hd
   unfold depOn at hd
   simp only [Bool.and_eq_true, Bool.not_eq_true'] at hd
   obtain ⟨hun, hd⟩ := hd
   refine ⟨fun q hq => ?_, fun q hq => ?_⟩
   ·rcases List.mem_cons.1 hq with rfl | hq
    ·exact hun
    ·exact h.un q hq
   ·rcases List.mem_cons.1 hq with rfl | hq
    ·split at hd
     ·rename_i oj hoj
      obtain ⟨e, he, hb⟩ := Array.any_eq_true'.1 hd
      simp only [Bool.and_eq_true, Bool.or_eq_true, beq_iff_eq] at hb
      refine ⟨oj, hoj, e, he, hb.1, ?_⟩
      rcases hb.2 with hb | hb
      ·exact .inl hb
      ·exact .inr (List.mem_cons_of_mem _ (by simpa using hb))
     ·cases hd
    ·obtain ⟨oj, hoj, e, he, hb, hon⟩ := h.dep q hq
     exact ⟨oj, hoj, e, he, hb, hon.imp id (List.mem_cons_of_mem _)⟩
  ·exact h
theorem freeP_spec {pops : List POper} {listed : Array Bool} {k : Nat} {pk : POper} (hpk : pops[k]? = some pk) (h : freeP ops pops listed k = true) :
  ∃ S, Late ops listed k S ∧ ∀ j oj pj, ops[j]? = some oj → pops[j]? = some pj → j ≠ k → listed.getD j true = false → j ∉ S → commB pk pj = true := by
 refine ⟨depsOf ops listed k (List.range ops.size) [], depsOf_late _ _ ⟨fun j hj => by simp at hj, fun j hj => by simp at hj⟩, fun j oj pj hoj hpj hjk hun hno => ?_⟩
 unfold freeP at h
 rw [hpk] at h
 simp only at h
 have hj : j < ops.size := (Array.getElem?_eq_some_iff.1 hoj).1
 have := List.all_eq_true.1 h j (List.mem_range.2 hj)
 rw [hoj, hpj, hun] at this
 simp only [Bool.or_eq_true, beq_iff_eq, Bool.false_eq_true, or_false] at this
 rcases this with (this | this) | this
 ·exact absurd this hjk
 ·exact absurd (by simpa using this) hno
 ·exact this
theorem pAny_lex {pops : List POper} {QS : St → Prop} : ∀ (pl : List POper) (k : Nat) (listed : Array Bool) (st st' : St), (∀ j, pl[j]? = pops[k + j]?) → ops.size = pops.length →
  lexP ops pops pl.length k listed = true → pOps P C pl st = some st' → QS st' → pAny P C ops pops QS pl.length listed st
 | [], _, _, st, st', _, _, hB, hp, hQ => by
  simp only [pOps, sj] at hp
  subst hp
  exact ⟨by simpa [lexP] using hB, hQ⟩
 | p :: pl, k, listed, st, st', hl, hs, hB, hp, hQ => by
  have h0 : pops[k]? = some p := by simpa using (hl 0).symm
  have hk : k < ops.size := by rw [hs]; exact (List.getElem?_eq_some_iff.1 h0).1
  simp only [List.length_cons, lexP, Bool.and_eq_true] at hB
  obtain ⟨⟨hr, hf⟩, hB'⟩ := hB
  simp only [pOps] at hp
  split at hp
  ·rename_i st1 h1
   obtain ⟨S, hl1, hl2⟩ := freeP_spec (ops := ops) h0 hf
   exact pAny_first (Array.getElem?_eq_getElem hk) h0 pl.length listed st st1 hl1 hl2 (by simpa using hr) h1
    (pAny_lex pl (k + 1) _ st1 st' (fun j => by have := hl (j + 1); simpa [Nat.add_assoc, Nat.add_comm 1 j] using this) hs hB' hp hQ)
  ·cases hp
theorem wpAny_of_pAny (hC : Meets P C) {A : Ann} {dr : Bool} {pops : List POper} {QS : St → Prop} (hcomp : ∀ (i : Nat) (o : Oper), ops[i]? = some o → ∃ po, pops[i]? = some po ∧ compOper P A dr ops nt o = some po)
  (hQ : ∀ st a w, QS st → RelX w0 O0 E0 I0 nt st a w → Q .normal a w) : ∀ (fuel : Nat) (listed : Array Bool) (st : St) (a : Act) (w : World), RelX w0 O0 E0 I0 nt st a w → pAny P C ops pops QS fuel listed st → wpAny P .any ops Q fuel listed a w
 | 0, listed, st, a, w, h, H => ⟨H.1, hQ st a w H.2 h⟩
 | fuel + 1, listed, st, a, w, h, H => by
  refine ⟨fun hr => hQ st a w (H.1 hr) h, fun i hi => ?_⟩
  obtain ⟨po, st', hpo, hp, H'⟩ := H.2 i hi
  obtain ⟨_, o, ho, _⟩ := mem_ready.1 hi
  obtain ⟨po', h1, h2⟩ := hcomp i o ho
  rw [hpo] at h1; injection h1 with h1; subst h1
  exact pOp_wp hC h ho h2 hp (fun a' w' h' => wpAny_of_pAny hC hcomp hQ fuel _ st' a' w' h' H')
theorem compOps_get {A : Ann} {dr : Bool} : ∀ (l : List Oper) (pl : List POper), compOps P A dr ops nt l = some pl → l.length = pl.length ∧ ∀ (i : Nat) (o : Oper), l[i]? = some o → ∃ po, pl[i]? = some po ∧ compOper P A dr ops nt o = some po
 | [], pl, h => by
  simp only [compOps, sj] at h
  subst h
  exact ⟨rfl, fun i o hi => by simp at hi⟩
 | o :: l, pl, h => by
  simp only [compOps] at h
  split at h
  ·rename_i p ps hco hcs
   simp only [sj] at h
   subst h
   obtain ⟨i1, i2⟩ := compOps_get l ps hcs
   refine ⟨by simp [i1], fun i o' hi => ?_⟩
   cases i with
   | zero => simp at hi; subst hi; exact ⟨p, rfl, hco⟩
   | succ i => exact i2 i o' (by simpa using hi)
  ·cases h
theorem ofl_get (f : Nat → PV) : ∀ (ts : List Nat) (j : Nat), ofl (ts.map fun t => (t, f t)) j = if j ∈ ts then f j else .none
 | [], j => by simp [ofl]
 | t :: ts, j => by
  simp only [List.map_cons, ofl, ofl_get f ts j, List.mem_cons]
  by_cases h : j = t
  ·subst h; simp
  ·simp [h]
theorem oflO_get (f : Nat → Option Ob) : ∀ (ts : List Nat) (j : Nat), oflO (ts.map fun t => (t, f t)) j = if j ∈ ts then f j else none
 | [], j => by simp [oflO]
 | t :: ts, j => by
  simp only [List.map_cons, oflO, oflO_get f ts j, List.mem_cons]
  by_cases h : j = t
  ·subst h; simp
  ·simp [h]
theorem refsInL_at (os : List Nat) : ∀ (caps : List Lf), Lf.refsIn.refsInL os caps = true → ∀ j, j < caps.length → (caps.getD j default).refsIn os = true
 | [], _, j, hj => by simp at hj
 | l :: ls, h, j, hj => by
  simp only [Lf.refsIn.refsInL, Bool.and_eq_true] at h
  cases j with
  | zero => exact h.1
  | succ j => exact refsInL_at os ls h.2 j (by simpa using hj)
theorem LR.less {objs objs' : Nat → Option Ob} {os : List Nat} (hs : ∀ k ∈ os, objs' k = objs k) {l : Lf} {v : Value} (h : LR objs E I w l v) : l.refsIn os = true → LR objs' E I w l v := by
 induction h with
 | imm _ _ h => intro _; exact .imm _ _ h
 | ptr k off cs hk hkv => intro hr; exact .ptr k off cs (by rw [hs k (by simpa [Lf.refsIn] using hr)]; exact hk) hkv
 | eptr cs off b o vv hI hc hl => intro _; exact .eptr cs off b o vv hI hc hl
 | aptr k g i off el sz g' n get b o hk hg hv => intro hr; exact .aptr k g i off el sz g' n get b o (by rw [hs k (by simpa [Lf.refsIn] using hr)]; exact hk) hg hv
 | osl k g off n el sz g' m get base cap' hk hg hv => intro hr; exact .osl k g off n el sz g' m get base cap' (by rw [hs k (by simpa [Lf.refsIn] using hr)]; exact hk) hg hv
 | csl k sz off n cap cs hk hkv hc => intro hr; exact .csl k sz off n cap cs (by rw [hs k (by simpa [Lf.refsIn] using hr)]; exact hk) hkv hc
 | mp k es hk => intro hr; exact .mp k es (by rw [hs k (by simpa [Lf.refsIn] using hr)]; exact hk)
 | fn f caps Cc hC hl ih =>
  intro hr
  exact .fn f caps Cc hC (fun j hj => ih j hj (refsInL_at os caps (by simpa [Lf.refsIn] using hr) j hj))
theorem VR.less {objs objs' : Nat → Option Ob} {os : List Nat} (hs : ∀ k ∈ os, objs' k = objs k) {p : PV} {v : Value} (h : VR objs E I w p v) (hr : p.refsIn os = true) : VR objs' E I w p v := by
 cases h with
 | none => exact .none _
 | one l v hv => exact .one _ _ (hv.less hs hr)
 | agg cs Cc hC hl => exact .agg _ _ hC (fun j hj => (hl j hj).less hs (all_getD hr hj))
 | tup => simp [PV.refsIn] at hr
theorem restrict'_ok (h : Rel w0 O0 E0 I0 nt st E I a w) {ts os : List Nat} {st' : St} (hr : restrict' st ts os = some st') : Rel w0 O0 E0 I0 nt st' E I a w := by
 unfold restrict' at hr
 split at hr
 ·rename_i hcond
  simp only [Bool.and_eq_true, List.all_eq_true] at hcond
  obtain ⟨ht, ho⟩ := hcond
  simp only [sj] at hr
  subst hr
  have hs : ∀ k ∈ os, oflO (os.map fun k => (k, st.objs k)) k = st.objs k := fun k hk => by rw [oflO_get, if_pos hk]
  have hd2 : ∀ k o, oflO (os.map fun k => (k, st.objs k)) k = some o → k ∈ os ∧ st.objs k = some o := fun k o hk => by
   rw [oflO_get] at hk
   split at hk
   ·exact ⟨‹_›, hk⟩
   ·cases hk
  have hdom : ∀ k, Blk (oflO (os.map fun k => (k, st.objs k))) E k → Blk st.objs E k := fun k hk => by
   obtain ⟨o, h1, h2⟩ := hk
   exact ⟨o, (hd2 k o h1).2, h2⟩
  refine { toHeap := ⟨fun k o hk => ?_, fun k k' hk hk' => h.inj k k' (hdom k hk) (hdom k' hk'), fun k hk => h.imm k (hdom k hk), fun k hk => h.lt k (hdom k hk), h.Ilt⟩, defers := h.defers, tsize := h.tsize, tmps := fun t => ?_, own := fun k hk => h.own k (hdom k hk), loc := fun k hkp hk => h.loc k hkp (hdom k hk), Iup := h.Iup, Inew := h.Inew, fr := h.fr, ext := fun k hkp o' hk => h.ext k hkp o' (hd2 k _ hk).2, ntb := h.ntb, young := h.young }
  ·obtain ⟨hko, hk'⟩ := hd2 k o hk
   have hob := h.objs k o hk'
   have hrf := ho k hko
   rw [hk'] at hrf
   cases o with
   | tcells t cs =>
    obtain ⟨Cc, q1, q2, q3⟩ := hob
    exact ⟨Cc, q1, q2, fun j hj => (q3 j hj).less hs (all_getD hrf hj)⟩
   | cells cs =>
    obtain ⟨Cc, t, q1, q2, q3⟩ := hob
    exact ⟨Cc, t, q1, q2, fun j hj => (q3 j hj).less hs (all_getD hrf hj)⟩
   | arr el sz g n get => exact hob
   | map es => exact hob
  ·show VR _ _ _ _ (ofl (ts.map fun t => (t, st.tmps t)) t) _
   rw [ofl_get]
   split
   ·rename_i htm
    exact (h.tmps t).less hs (ht t htm)
   ·exact .none _
 ·cases hr
theorem Rel.empty (h : Rel w0 O0 E0 I0 nt st E I a w) {key el sz : Nat} (hn : st.objs key = none) (hk : key < pbase) (hsz : 1 ≤ sz) :
  ∃ E', Rel w0 O0 E0 I0 nt { st with objs := upd st.objs key (some (.arr el sz 0 0 fun _ => [])) } E' I a w ∧ Move st.objs E I w (upd st.objs key (some (.arr el sz 0 0 fun _ => []))) E' I w ∧ (∀ k, k ≠ key → E'.bl k = E.bl k ∧ E'.hv k = E.hv k) ∧
   LR (upd st.objs key (some (.arr el sz 0 0 fun _ => []))) E' I w (.osl key 0 0 0) (.slice none 0 0) := by
 have hw : Wst (fun _ => False) w w := Wst.refl _ _
 have hob : Move st.objs E I w (upd st.objs key (some (.arr el sz 0 0 fun _ => []))) ⟨upd E.bl key 0, upd E.hv key (.slice none 0 0)⟩ I w →
   ObjR (upd st.objs key (some (.arr el sz 0 0 fun _ => []))) ⟨upd E.bl key 0, upd E.hv key (.slice none 0 0)⟩ I w key (.arr el sz 0 0 fun _ => []) := fun _ => by
  refine ⟨[], ?_, .inl (upd_same _ _ _), hsz, fun i hi => by omega⟩
  show rowW w el sz (upd E.hv key _ key) 0 []
  rw [upd_same]; exact rowW_of (World.ownsRow_nil w 0 el sz)
 have hbb : (∀ el' sz' g n get, (Ob.arr el sz 0 0 fun _ => []) = .arr el' sz' g n get → Value.slice none 0 0 ≠ .slice none 0 0) → w.heap.size ≤ 0 ∧ 0 < w.heap.size := fun hx => absurd rfl (hx _ _ _ _ _ rfl)
 have m := (h.toHeap.fresh hw key hn (.arr el sz 0 0 fun _ => []) 0 (.slice none 0 0) hbb hob).2
 have r := h.fresh hw key hk hn (.arr el sz 0 0 fun _ => []) 0 (.slice none 0 0) hbb none (fun x hx => by cases hx) .none undef hob (fun _ => .none _)
 exact ⟨_, r, m, fun k hk => ⟨upd_ne _ _ hk, upd_ne _ _ hk⟩, .osl _ 0 0 0 el sz 0 0 _ none 0 (upd_same _ _ _) (Nat.le_refl _) (fun _ _ => .inl ⟨upd_same _ _ _, rfl, rfl, rfl⟩)⟩
theorem Rel.slot (h : Rel w0 O0 E0 I0 nt st E I a w) {t : Nat} {v : PV} (hv : VR st.objs E I w v (a.tmps.getD t undef)) : Rel w0 O0 E0 I0 nt ⟨upd st.tmps t v, st.objs⟩ E I a w := by
 refine { toHeap := h.toHeap, defers := h.defers, tsize := h.tsize, tmps := fun t' => ?_, own := h.own, loc := h.loc, Iup := h.Iup, Inew := h.Inew, fr := h.fr, ext := h.ext, ntb := h.ntb, young := h.young }
 show VR _ _ _ _ (upd st.tmps t v t') _
 by_cases e : t' = t
 ·subst e; rw [upd_same]; exact hv
 ·rw [upd_ne _ _ e]; exact h.tmps t'
theorem Rel.told (h : Rel w0 O0 E0 I0 nt st E I a w) {k : Nat} {cs cs' : List Lf} (hk : st.objs k = some (.cells cs)) (hc : ObjR st.objs E I w k (.cells cs')) : Rel w0 O0 E0 I0 nt ⟨st.tmps, upd st.objs k (some (.cells cs'))⟩ E I a w := by
 have m : Move st.objs E I w (upd st.objs k (some (.cells cs'))) E I w := by
  refine ⟨fun j o hj => ?_, fun _ h => h, fun _ _ => rfl⟩
  by_cases e : j = k
  ·subst e
   rw [hk] at hj; injection hj with hj; subst hj
   exact ⟨_, upd_same _ _ _, ⟨cs', rfl⟩, rfl⟩
  ·exact ⟨o, by rw [upd_ne _ _ e]; exact hj, ExtO.refl _ _ _⟩
 have hb : ∀ j, Blk (upd st.objs k (some (.cells cs'))) E j → Blk st.objs E j := by
  intro j hj
  by_cases e : j = k
  ·subst e; exact Blk.cells hk
  ·exact hj.same (upd_ne _ _ e).symm rfl
 refine { toHeap := ⟨fun j o hj => ?_, fun j j' hj hj' => h.inj j j' (hb j hj) (hb j' hj'), fun j hj => h.imm j (hb j hj), fun j hj => h.lt j (hb j hj), h.Ilt⟩, defers := h.defers, tsize := h.tsize, tmps := fun t => m.vr (h.tmps t), own := fun j hj => h.own j (hb j hj), loc := fun j hjp hj => h.loc j hjp (hb j hj), Iup := h.Iup, Inew := h.Inew, fr := h.fr, ext := fun j hjp o' hj => ?_, ntb := h.ntb, young := h.young }
 ·by_cases e : j = k
  ·subst e
   have hj' : upd st.objs j (some (.cells cs')) j = some o := hj
   rw [upd_same] at hj'; injection hj' with hj'; subst hj'
   exact m.obj rfl rfl (fun _ => rfl) hc
  ·have hj' : upd st.objs k (some (.cells cs')) j = some o := hj
   rw [upd_ne _ _ e] at hj'
   exact m.obj rfl rfl (fun _ => rfl) (h.objs j o hj')
 ·by_cases e : j = k
  ·subst e
   have hj' : upd st.objs j (some (.cells cs')) j = some o' := hj
   rw [upd_same] at hj'; injection hj' with hj'; subst hj'
   obtain ⟨o, h1, h2⟩ := h.ext j hjp _ hk
   exact ⟨o, h1, h2.trans ⟨⟨cs', rfl⟩, rfl⟩⟩
  ·have hj' : upd st.objs k (some (.cells cs')) j = some o' := hj
   rw [upd_ne _ _ e] at hj'
   exact h.ext j hjp o' hj'
theorem set_getD (cs : List Lf) (i : Nat) (l : Lf) (hi : i < cs.length) (j : Nat) : (cs.set i l).getD j default = if j = i then l else cs.getD j default := by
 by_cases e : j = i
 ·subst e
  rw [if_pos rfl, List.getD_eq_getElem?_getD, List.getElem?_set_self hi]; rfl
 ·rw [if_neg e, List.getD_eq_getElem?_getD, List.getElem?_set_ne (Ne.symm e), List.getD_eq_getElem?_getD]
theorem LR.ofNil {objs : Nat → Option Ob} {v u : Value} (h : LR objs E I w (.val v) u) : u = v := by
 cases h with
 | imm _ _ h => cases h; rfl
theorem swp_swp (x y k : Nat) : swp x y (swp x y k) = k := by
 unfold swp
 by_cases h1 : k = x
 ·subst h1
  rw [Nat.beq_refl, if_pos rfl]
  by_cases h2 : y = k
  ·subst h2; rw [Nat.beq_refl, if_pos rfl]
  ·rw [if_neg (fun e => h2 (Nat.eq_of_beq_eq_true e)), Nat.beq_refl, if_pos rfl]
 ·rw [if_neg (fun e => h1 (Nat.eq_of_beq_eq_true e))]
  by_cases h2 : k = y
  ·subst h2
   rw [Nat.beq_refl, if_pos rfl, Nat.beq_refl, if_pos rfl]
  ·rw [if_neg (fun e => h2 (Nat.eq_of_beq_eq_true e)), if_neg (fun e => h1 (Nat.eq_of_beq_eq_true e)), if_neg (fun e => h2 (Nat.eq_of_beq_eq_true e))]
theorem swp_base {x y : Nat} (hx : x < pbase) (hy : y < pbase) (k : Nat) : (pbase ≤ k → swp x y k = k) ∧ (k < pbase → swp x y k < pbase) := by
 unfold swp
 constructor
 ·intro hk
  rw [if_neg (fun e => by have := Nat.eq_of_beq_eq_true e; omega), if_neg (fun e => by have := Nat.eq_of_beq_eq_true e; omega)]
 ·intro hk
  split
  ·exact hy
  ·split
   ·exact hx
   ·exact hk
theorem swL_map (r : Nat → Nat) : ∀ ls : List Lf, Lf.sw.swL r ls = ls.map (Lf.sw r)
 | [] => rfl
 | l :: ls => by rw [Lf.sw.swL, List.map_cons, swL_map r ls]
theorem swL_getD (r : Nat → Nat) (ls : List Lf) (j : Nat) (hj : j < ls.length) : (Lf.sw.swL r ls).getD j default = (ls.getD j default).sw r := by
 rw [swL_map]; simp [List.getD, hj]
theorem LR.sw {r : Nat → Nat} (hr : ∀ k, r (r k) = k) {objs : Nat → Option Ob} {l : Lf} {v : Value} (h : LR objs E I w l v) : LR (fun k => (objs (r k)).map (Ob.sw r)) ⟨fun k => E.bl (r k), fun k => E.hv (r k)⟩ I w (l.sw r) v := by
 have hob : ∀ k o, objs k = some o → (fun k => (objs (r k)).map (Ob.sw r)) (r k) = some (o.sw r) := fun k o h => by
  show (objs (r (r k))).map _ = _
  rw [hr, h]; rfl
 have hbl : ∀ k, (⟨fun k => E.bl (r k), fun k => E.hv (r k)⟩ : Env).bl (r k) = E.bl k := fun k => by show E.bl (r (r k)) = _; rw [hr]
 have hhv : ∀ k, (⟨fun k => E.bl (r k), fun k => E.hv (r k)⟩ : Env).hv (r k) = E.hv k := fun k => by show E.hv (r (r k)) = _; rw [hr]
 have hvar : ∀ o : Ob, (o.sw r).var = o.var := fun o => by cases o <;> rfl
 induction h with
 | imm l v h =>
  have : l.sw r = l := by cases h <;> rfl
  rw [this]; exact .imm _ _ h
 | ptr k off o h hv =>
  rw [← hbl k]
  exact .ptr (r k) off (o.sw r) (hob k o h) (by rw [hvar]; exact hv)
 | eptr cs off b o vv hI hc hl => exact .eptr cs off b o vv hI hc hl
 | aptr k g i off el sz g' n get b o h hg hv =>
  exact .aptr (r k) g i off el sz g' n get b o (hob k _ h) hg (fun e hi => by rw [hbl]; exact hv e hi)
 | osl k g off n el sz g' m get base cap' h hg hv =>
  exact .osl (r k) g off n el sz g' m get base cap' (hob k _ h) hg (fun e hi => by rw [hbl, hhv]; exact hv e hi)
 | csl k sz off n cap o h hv hc =>
  rw [← hbl k]
  exact .csl (r k) sz off n cap (o.sw r) (hob k o h) (by rw [hvar]; exact hv) hc
 | mp k es h =>
  rw [← hbl k]
  exact .mp (r k) es (hob k _ h)
 | fn f caps C hC _ ih =>
  refine .fn f _ C (by rw [swL_map, List.length_map]; exact hC) (fun j hj => ?_)
  rw [swL_map, List.length_map] at hj
  rw [swL_getD r caps j hj]
  exact ih j hj
theorem VR.sw {r : Nat → Nat} (hr : ∀ k, r (r k) = k) {objs : Nat → Option Ob} {p : PV} {v : Value} (h : VR objs E I w p v) : VR (fun k => (objs (r k)).map (Ob.sw r)) ⟨fun k => E.bl (r k), fun k => E.hv (r k)⟩ I w (p.sw r) v := by
 cases h with
 | none v => exact .none v
 | one l v h => exact .one _ _ (h.sw hr)
 | agg cs C hC h =>
  refine .agg _ C (by rw [swL_map, List.length_map]; exact hC) (fun j hj => ?_)
  rw [swL_map, List.length_map] at hj
  rw [swL_getD r cs j hj]
  exact (h j hj).sw hr
 | tup vs C hC h => exact .none _
theorem Rel.sw (h : Rel w0 O0 E0 I0 nt st E I a w) {x y : Nat} (hx : x < pbase) (hy : y < pbase) : ∃ E', Rel w0 O0 E0 I0 nt (swSt x y st) E' I a w := by
 have hr : ∀ k, swp x y (swp x y k) = k := swp_swp x y
 have hB := swp_base hx hy
 have hinj : ∀ j k, swp x y j = swp x y k → j = k := fun j k e => by rw [← hr j, ← hr k, e]
 have hvar : ∀ o : Ob, (o.sw (swp x y)).var = o.var := fun o => by cases o <;> rfl
 have hblk : ∀ k, Blk (swSt x y st).objs ⟨fun k => E.bl (swp x y k), fun k => E.hv (swp x y k)⟩ k → Blk st.objs E (swp x y k) := by
  rintro k ⟨o, h1, h2⟩
  have h1' : (st.objs (swp x y k)).map (Ob.sw (swp x y)) = some o := h1
  rw [mj] at h1'
  obtain ⟨o1, h3, rfl⟩ := h1'
  exact ⟨o1, h3, fun el sz g n get e => h2 el sz g n get (by rw [e]; rfl)⟩
 have hcell : ∀ (cs : List Lf) (C : Array Value), C.size = cs.length → (∀ j, j < cs.length → LR st.objs E I w (cs.getD j default) (C.getD j undef)) →
   C.size = (Lf.sw.swL (swp x y) cs).length ∧ ∀ j, j < (Lf.sw.swL (swp x y) cs).length → LR (swSt x y st).objs ⟨fun k => E.bl (swp x y k), fun k => E.hv (swp x y k)⟩ I w ((Lf.sw.swL (swp x y) cs).getD j default) (C.getD j undef) := by
  intro cs C h1 h2
  refine ⟨by rw [swL_map, List.length_map]; exact h1, fun j hj => ?_⟩
  rw [swL_map, List.length_map] at hj
  rw [swL_getD _ cs j hj]
  exact (h2 j hj).sw hr
 refine ⟨⟨fun k => E.bl (swp x y k), fun k => E.hv (swp x y k)⟩, { toHeap := ⟨fun k o hk => ?_, fun k k' hk hk' hne => h.inj _ _ (hblk k hk) (hblk k' hk') (fun e => hne (hinj _ _ e)), fun k hk => h.imm _ (hblk k hk), fun k hk => h.lt _ (hblk k hk), h.Ilt⟩, defers := h.defers, tsize := h.tsize, tmps := fun t => (h.tmps t).sw hr, own := fun k hk => ?_, loc := fun k hkp hk => h.loc _ ((hB k).2 hkp) (hblk k hk), Iup := h.Iup, Inew := h.Inew, fr := h.fr, ext := fun k hkp o' hk => ?_, ntb := h.ntb, young := h.young }⟩
 ·have hk' : (st.objs (swp x y k)).map (Ob.sw (swp x y)) = some o := hk
  rw [mj] at hk'
  obtain ⟨o1, h3, rfl⟩ := hk'
  have ho := h.objs _ _ h3
  cases o1 with
  | cells cs =>
   obtain ⟨C, t, q1, q2, q3⟩ := ho
   obtain ⟨p1, p2⟩ := hcell cs C q2 q3
   exact ⟨C, t, q1, p1, p2⟩
  | tcells t cs =>
   obtain ⟨C, q1, q2, q3⟩ := ho
   obtain ⟨p1, p2⟩ := hcell cs C q2 q3
   exact ⟨C, q1, p1, p2⟩
  | arr el sz g n get => exact ho
  | map es => exact ho
 ·have hb := hblk k hk
  rcases Nat.lt_or_ge k pbase with hkp | hkp
  ·exact .inr (h.loc _ ((hB k).2 hkp) hb)
  ·have e := (hB k).1 hkp
   show (Blk O0 E0 k ∧ E.bl (swp x y k) = E0.bl k) ∨ _ ≤ E.bl (swp x y k)
   rw [e] at hb ⊢
   exact h.own k hb
 ·have hk' : (st.objs (swp x y k)).map (Ob.sw (swp x y)) = some o' := hk
  have e := (hB k).1 hkp
  rw [e, mj] at hk'
  obtain ⟨o1, h3, rfl⟩ := hk'
  obtain ⟨o, h4, h5⟩ := h.ext k hkp o1 h3
  refine ⟨o, h4, ?_⟩
  have hbl : (⟨fun k => E.bl (swp x y k), fun k => E.hv (swp x y k)⟩ : Env).bl k = E.bl k := by show E.bl (swp x y k) = _; rw [e]
  have hhv : (⟨fun k => E.bl (swp x y k), fun k => E.hv (swp x y k)⟩ : Env).hv k = E.hv k := by show E.hv (swp x y k) = _; rw [e]
  cases o with
  | cells cs => obtain ⟨⟨cs1, rfl⟩, e1⟩ := h5; exact ⟨⟨_, rfl⟩, hbl.trans e1⟩
  | tcells t cs => obtain ⟨⟨cs1, rfl⟩, e1⟩ := h5; exact ⟨⟨_, rfl⟩, hbl.trans e1⟩
  | map cs => obtain ⟨⟨cs1, rfl⟩, e1⟩ := h5; exact ⟨⟨_, rfl⟩, hbl.trans e1⟩
  | arr el sz g n get =>
   obtain ⟨g1, n1, get1, rfl, q1, q2⟩ := h5
   exact ⟨g1, n1, get1, rfl, q1, fun e => ⟨(q2 e).1, hhv.trans (q2 e).2.1, hbl.trans (q2 e).2.2⟩⟩
theorem ownOne_ok (h : Rel w0 O0 E0 I0 nt st E I a w) (e : OwnE) : ∃ E', Rel w0 O0 E0 I0 nt (ownOne st e) E' I a w := by
 obtain ⟨b, t, i, key, el, sz⟩ := e
 have hcond : ∀ {c : Bool}, c = ((st.objs key).isNone && Nat.ble (key + 1) pbase && Nat.ble 1 sz) → c = true → st.objs key = none ∧ key < pbase ∧ 1 ≤ sz := by
  rintro c rfl hc
  simp only [Bool.and_eq_true] at hc
  exact ⟨by simpa using hc.1.1, Nat.le_of_ble_eq_true hc.1.2, Nat.le_of_ble_eq_true hc.2⟩
 cases b with
 | false =>
  simp only [ownOne]
  split
  ·split
   ·rename_i hc
    simp only [Bool.and_eq_true] at hc
    exact h.sw (Nat.le_of_ble_eq_true hc.2) (Nat.le_of_ble_eq_true hc.1.2)
   ·exact ⟨E, h⟩
  split
  ·rename_i hc
   obtain ⟨hn, hk, hsz⟩ := hcond rfl hc
   obtain ⟨E1, r, m, _, hl⟩ := h.empty (el := el) hn hk hsz
   have hv := h.tmps t
   split
   ·rename_i ht
    split
    ·refine ⟨E1, r.slot ?_⟩
     rw [ht] at hv
     generalize a.tmps.getD t undef = u at hv
     cases hv with
     | one _ _ hv =>
      have := LR.ofNil hv
      subst this
      exact .one _ _ hl
    ·exact ⟨E, h⟩
   ·rename_i cs ht
    split
    ·rename_i hi
     refine ⟨E1, r.slot ?_⟩
     rw [ht] at hv
     generalize a.tmps.getD t undef = u at hv
     cases hv with
     | agg _ C hC hcs =>
      have hil := (List.getElem?_eq_some_iff.1 hi).1
      refine .agg _ _ (by simpa using hC) (fun j hj => ?_)
      rw [set_getD _ _ _ hil]
      split
      ·rename_i e
       subst e
       have := hcs j hil
       rw [List.getD_eq_getElem?_getD, hi] at this
       rw [LR.ofNil this]; exact hl
      ·exact m.lr (hcs j (by simpa using hj))
    ·exact ⟨E, h⟩
   ·exact ⟨E, h⟩
  ·exact ⟨E, h⟩
 | true =>
  simp only [ownOne]
  split
  ·rename_i hc
   obtain ⟨hn, hk, hsz⟩ := hcond rfl hc
   obtain ⟨E1, r, m, _, hl⟩ := h.empty (el := el) hn hk hsz
   split
   ·rename_i cs ht
    split
    ·rename_i hi
     have hne : t ≠ key := fun e => by subst e; rw [hn] at ht; cases ht
     have ht' : ({ st with objs := upd st.objs key (some (.arr el sz 0 0 fun _ => [])) } : St).objs t = some (.cells cs) := by
      show upd _ _ _ _ = _
      rw [upd_ne _ _ hne]; exact ht
     refine ⟨E1, r.told ht' ?_⟩
     obtain ⟨C, ty, q1, q2, q3⟩ := r.objs _ _ ht'
     have hil := (List.getElem?_eq_some_iff.1 hi).1
     refine ⟨C, ty, q1, by simpa using q2, fun j hj => ?_⟩
     rw [set_getD _ _ _ hil]
     split
     ·rename_i e
      subst e
      have := q3 j hil
      rw [List.getD_eq_getElem?_getD, hi] at this
      rw [LR.ofNil this]; exact hl
     ·exact q3 j (by simpa using hj)
    ·exact ⟨E, h⟩
   ·exact ⟨E, h⟩
  ·exact ⟨E, h⟩
theorem ownAll_ok : ∀ (es : List OwnE) (st : St) (E : Env), Rel w0 O0 E0 I0 nt st E I a w → ∃ E', Rel w0 O0 E0 I0 nt (ownAll es st) E' I a w
 | [], st, E, h => ⟨E, h⟩
 | e :: es, st, E, h => by
  obtain ⟨E1, h1⟩ := ownOne_ok h e
  exact ownAll_ok es _ E1 h1
theorem ageT_at {gm : Nat → Nat → Option Nat} : ∀ (ts : List Nat) (L : List (Nat × PV)), ageT gm st ts = some L → ∀ t, ofl L t = .none ∨ (st.tmps t).ren0 some gm = some (ofl L t)
 | [], L, h, t => by simp only [ageT, sj] at h; subst h; exact .inl rfl
 | x :: ts, L, h, t => by
  simp only [ageT] at h
  split at h
  ·rename_i v l hv hl
   simp only [sj] at h; subst h
   simp only [ofl]
   by_cases e : t = x
   ·subst e; rw [if_pos rfl]; exact .inr hv
   ·rw [if_neg e]; exact ageT_at ts l hl t
  ·cases h
theorem ageO_at {gm : Nat → Nat → Option Nat} : ∀ (ks : List Nat) (M : List (Nat × Option Ob)), ageO gm st ks = some M → ∀ k, (k ∈ ks → ∀ o, st.objs k = some o → ∃ o', o.ren some gm k = some o' ∧ oflO M k = some o') ∧ ∀ o', oflO M k = some o' → ∃ o, st.objs k = some o ∧ o.ren some gm k = some o'
 | [], M, h, k => by
  simp only [ageO, sj] at h; subst h
  exact ⟨fun hk => by simp at hk, fun o' ho => by simp [oflO] at ho⟩
 | x :: ks, M, h, k => by
  simp only [ageO] at h
  split at h
  ·rename_i hx
   obtain ⟨i1, i2⟩ := ageO_at ks M h k
   refine ⟨fun hk o ho => ?_, i2⟩
   rcases List.mem_cons.1 hk with rfl | hk
   ·rw [hx] at ho; cases ho
   ·exact i1 hk o ho
  ·rename_i o hx
   split at h
   ·rename_i o1 l h1 hl
    simp only [sj] at h; subst h
    obtain ⟨i1, i2⟩ := ageO_at ks l hl k
    simp only [oflO]
    by_cases e : k = x
    ·subst e
     rw [if_pos rfl]
     refine ⟨fun _ o' ho => ?_, fun o' ho => ?_⟩
     ·rw [hx] at ho; injection ho with ho; subst ho; exact ⟨o1, h1, rfl⟩
     ·injection ho with ho; subst ho; exact ⟨o, hx, h1⟩
    ·rw [if_neg e]
     refine ⟨fun hk o' ho => ?_, i2⟩
     rcases List.mem_cons.1 hk with rfl | hk
     ·exact absurd rfl e
     ·exact i1 hk o' ho
   ·cases h
theorem age_ok (h : Rel w0 O0 E0 I0 nt st E I a w) {ts os : List Nat} {L : List (Nat × PV)} {M : List (Nat × Option Ob)} (hL : ageT (gmEnd st.objs) st ts = some L) (hM : ageO (gmEnd st.objs) st os = some M) (hcl : ∀ k o, st.objs k = some o → k ∈ os) : Rel w0 O0 E0 I0 nt ⟨ofl L, oflO M⟩ E I a w := by
 have hr : RenR some (gmEnd st.objs) st.objs (oflO M) E E := by
  refine ⟨fun k k' o hk ho => ?_⟩
  injection hk with hk; subst hk
  obtain ⟨o', h1, h2⟩ := (ageO_at os M hM k).1 (hcl k o ho) o ho
  refine ⟨o', h2, rfl, rfl, ?_⟩
  cases o with
  | cells cs =>
   simp only [Ob.ren, mj] at h1
   obtain ⟨cs', _, rfl⟩ := h1
   exact ⟨cs', rfl⟩
  | arr el sz g n get =>
   simp only [Ob.ren, mj] at h1
   obtain ⟨g', hg', rfl⟩ := h1
   refine ⟨g', get, rfl, fun x y hxy hxg => ?_⟩
   simp only [gmEnd, ageOf, ho] at hg' hxy
   split at hxy
   ·rename_i hx
    split at hg'
    ·simp only [sj] at hg' hxy
     rw [← hg', ← hxy]
     exact ⟨Nat.le_refl _, fun _ => hx⟩
    ·cases hg'
   ·cases hxy
  | tcells t es =>
   simp only [Ob.ren, mj] at h1
   obtain ⟨cs', _, rfl⟩ := h1
   exact ⟨cs', rfl⟩
  | map es =>
   simp only [Ob.ren, sj] at h1
   subst h1
   exact ⟨es, rfl⟩
 have hb : ∀ k, Blk (oflO M) E k → Blk st.objs E k := by
  rintro k ⟨o', h1, h2⟩
  obtain ⟨o, h3, h4⟩ := (ageO_at os M hM k).2 o' h1
  refine ⟨o, h3, fun el sz g n get e => ?_⟩
  subst e
  simp only [Ob.ren, mj] at h4
  obtain ⟨g', _, rfl⟩ := h4
  exact h2 _ _ _ _ _ rfl
 refine { toHeap := ⟨fun k o' hk => ?_, fun k k' hk hk' => h.inj k k' (hb k hk) (hb k' hk'), fun k hk => h.imm k (hb k hk), fun k hk => h.lt k (hb k hk), h.Ilt⟩, defers := h.defers, tsize := h.tsize, tmps := fun t => ?_, own := fun k hk => h.own k (hb k hk), loc := fun k hkp hk => h.loc k hkp (hb k hk), Iup := h.Iup, Inew := h.Inew, fr := h.fr, ext := fun k hkp o' hk => ?_, ntb := h.ntb, young := h.young }
 ·obtain ⟨o, h3, h4⟩ := (ageO_at os M hM k).2 o' hk
  exact ObjR.ren hr (fun _ h => h) rfl rfl h4 (h.objs k o h3)
 ·show VR _ _ _ _ (ofl L t) _
  rcases ageT_at ts L hL t with h1 | h1
  ·rw [h1]; exact .none _
  ·have hv := h.tmps t
   generalize st.tmps t = p at hv h1
   cases p with
   | none => simp only [PV.ren0, sj] at h1; rw [← h1]; exact .none _
   | one l => exact hv.ren1 hr (fun _ h => h) h1
   | agg cs => exact hv.ren1 hr (fun _ h => h) h1
   | tup vs => simp [PV.ren0, PV.ren1] at h1
 ·obtain ⟨o1, h3, h4⟩ := (ageO_at os M hM k).2 o' hk
  obtain ⟨o, h5, h6⟩ := h.ext k hkp o1 h3
  refine ⟨o, h5, ?_⟩
  cases o with
  | cells cs =>
   obtain ⟨⟨cs1, rfl⟩, e⟩ := h6
   simp only [Ob.ren, mj] at h4
   obtain ⟨cs', _, rfl⟩ := h4
   exact ⟨⟨cs', rfl⟩, e⟩
  | tcells t cs =>
   obtain ⟨⟨cs1, rfl⟩, e⟩ := h6
   simp only [Ob.ren, mj] at h4
   obtain ⟨cs', _, rfl⟩ := h4
   exact ⟨⟨cs', rfl⟩, e⟩
  | map cs =>
   obtain ⟨⟨cs1, rfl⟩, e⟩ := h6
   simp only [Ob.ren, sj] at h4
   subst h4
   exact ⟨⟨cs1, rfl⟩, e⟩
  | arr el sz g n get =>
   have hg0 := h.young _ _ _ _ _ _ h5
   subst hg0
   obtain ⟨g1, n1, get1, rfl, _, _⟩ := h6
   simp only [Ob.ren, mj] at h4
   obtain ⟨g2, hg2, rfl⟩ := h4
   simp only [gmEnd, ageOf, h3, if_true, Nat.ble_eq_true_of_le hkp, sj] at hg2
   subst hg2
   exact ⟨1, n1, get1, rfl, Nat.zero_le _, fun e => by cases e⟩
theorem ownOne_dom {os : List Nat} (e : OwnE) (he : os.contains e.2.2.2.1 = true) (h : ∀ k o, st.objs k = some o → k ∈ os) : ∀ k o, (ownOne st e).objs k = some o → k ∈ os := by
 obtain ⟨b, t, i, key, el, sz⟩ := e
 have he : key ∈ os := by simpa using he
 have u1 : ∀ (ob : Ob) k o, upd st.objs key (some ob) k = some o → k ∈ os := by
  intro ob k o hk
  by_cases e : k = key
  ·subst e; exact he
  ·rw [upd_ne _ _ e] at hk; exact h k o hk
 cases b with
 | false =>
  simp only [ownOne]
  split
  ·split
   ·rename_i hc
    simp only [Bool.and_eq_true] at hc
    intro k o hk
    have hk' : (st.objs (swp t key k)).map (Ob.sw (swp t key)) = some o := hk
    rw [mj] at hk'
    obtain ⟨o1, h3, _⟩ := hk'
    have hin := h _ _ h3
    unfold swp at h3 hin
    split at h3
    ·rw [show st.objs key = none by simpa using hc.1.1.1] at h3; cases h3
    ·rename_i n1
     rw [if_neg n1] at hin
     split at h3
     ·rename_i n2
      have := Nat.eq_of_beq_eq_true n2
      rw [this]; simpa using he
     ·rename_i n2
      rw [if_neg n2] at hin; exact hin
   ·exact h
  split
  ·split
   ·split
    ·exact u1 _
    ·exact h
   ·split
    ·exact u1 _
    ·exact h
   ·exact h
  ·exact h
 | true =>
  simp only [ownOne]
  split
  ·split
   ·rename_i cs ht
    split
    ·intro k o hk
     have hk' : upd (upd st.objs key (some (.arr el sz 0 0 fun _ => []))) t (some (.cells (cs.set i (.osl key 0 0 0)))) k = some o := hk
     by_cases e : k = t
     ·subst e; exact h _ _ ht
     ·rw [upd_ne _ _ e] at hk'; exact u1 _ k o hk'
    ·exact h
   ·exact h
  ·exact h
theorem ownAll_dom {os : List Nat} : ∀ (es : List OwnE) (st : St), es.all (fun e => os.contains e.2.2.2.1) = true → (∀ k o, st.objs k = some o → k ∈ os) → ∀ k o, (ownAll es st).objs k = some o → k ∈ os
 | [], st, _, h => h
 | e :: es, st, he, h => by
  simp only [List.all_cons, Bool.and_eq_true] at he
  exact ownAll_dom es _ he.2 (ownOne_dom e he.1 h)
theorem restrict_ok (h : RelX w0 O0 E0 I0 nt st a w) {ts os : List Nat} {ow : List OwnE} {st' : St} (hr : st.restrict ts os ow = some st') : RelX w0 O0 E0 I0 nt st' a w := by
 obtain ⟨E, I, h⟩ := h
 unfold St.restrict at hr
 split at hr
 ·cases hr
 ·rename_i st1 h1
  have r1 := restrict'_ok h h1
  obtain ⟨E2, r2⟩ := ownAll_ok ow st1 E r1
  simp only at hr
  split at hr
  ·rename_i how
   split at hr
   ·rename_i L M hL hM
    simp only [sj] at hr
    subst hr
    refine ⟨E2, I, age_ok r2 hL hM (ownAll_dom ow st1 how (fun k o hk => ?_))⟩
    unfold restrict' at h1
    split at h1
    ·simp only [sj] at h1
     subst h1
     have hk' : oflO ((liveO st ts os).map fun k => (k, st.objs k)) k = some o := hk
     rw [oflO_get] at hk'
     split at hk'
     ·rename_i hm
      exact (List.mem_filter.1 hm).1
     ·cases hk'
    ·cases h1
   ·cases hr
  ·cases hr
end
end Go.Rx
