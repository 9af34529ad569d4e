/- No condition. -/
import Derived.Test.YthdabpmcojmhhaaRxYa
namespace Go.Rx
open Go Go.RowKit
section
variable {P : Program} {C : zaf} {w0 : World} {O0 : Nat → Option Ob} {E0 : Env} {I0 : Nat → Prop} {nt : Nat} {st : St} {E : Env} {I : Nat → Prop} {a : Act} {w : World}
theorem compCall_ok (hC : Meets P C) (h : Rel w0 O0 E0 I0 nt st E I a w) {o : Oper} (hd : ∀ x, o.dst = some x → x < nt) {c : Call} {A : Ann0} {dr : Bool} {key : Nat} {p : POp} {v : PV} {objs' : Nat → Option Ob}
  (ho : o.op = .call c) (hp : compCall P A o.dst dr key c = some p) (he : eff P C st o.dst p = some (v, objs')) : OpOK P o a w (Left w0 O0 E0 I0 nt st o a objs' v) := by
 unfold compCall at hp
 split at hp
 ·rename_i f hc
  split at hp
  ·simp only [sj] at hp; subst hp
   exact gcall_ok hC h hd ho hc he
  ·simp only [sj] at hp; subst hp
   exact call_ok hC h hd ho hc he
 ·rename_i t hc
  split at hp
  ·simp only [sj] at hp; subst hp
   exact gcallv_ok hC h hd ho hc he
  ·simp only [sj] at hp; subst hp
   exact callv_ok hC h hd ho hc he
 ·rename_i hc
  split at hp
  ·rename_i t x ht hx
   split at hp
   ·rename_i e hu
    simp only [sj] at hp; subst hp
    exact lenS_ok h hd ho hc hx ht hu he
   ·rename_i k e hu
    simp only [sj] at hp; subst hp
    exact mlen_ok h hd ho hc hx ht hu he
   ·rename_i hu
    simp only [sj] at hp; subst hp
    refine zdz h hd (fun vs hvs _ => ?_) he
    subst hvs
    have hargs : c.args = #[x] := by rw [← hx]
    unfold execOp
    simp only [ho, resolve, hc, hargs, List.map_toArray, yan, yca, Sem.run_bind, Sem.run_pure, Result.andThen_ok, invoke, builtin, Prim.sem, Builtin.len_, ht]
    rfl
   ·cases hp
  ·cases hp
 ·rename_i hc
  simp only [sj] at hp; subst hp
  refine zdz h hd (fun vs hvs _ => ?_) he
  subst hvs
  unfold execOp
  simp only [ho, resolve, hc, Sem.run_bind, Sem.run_pure, Result.andThen_ok, invoke, builtin, Prim.sem]
  have e : c.args.map a.eval = (c.args.toList.map a.eval).toArray := by apply Array.toList_inj.1; simp
  rw [e]; rfl
 ·rename_i hc
  simp only [sj] at hp; subst hp
  refine zdz h hd (fun vs hvs _ => ?_) he
  subst hvs
  unfold execOp
  simp only [ho, resolve, hc, Sem.run_bind, Sem.run_pure, Result.andThen_ok, invoke, builtin, Prim.sem]
  have e : c.args.map a.eval = (c.args.toList.map a.eval).toArray := by apply Array.toList_inj.1; simp
  rw [e]; rfl
 ·rename_i hc
  split at hp
  ·rename_i t t' s x ht hx
   split at hp
   ·rename_i htt
    subst htt
    split at hp
    ·rename_i e hu
     split at hp
     ·rename_i i hi
      split at hp
      ·rename_i z hz
       split at hp
       ·rename_i hcond
        split at hp
        ·rename_i d1 to hdst htk
         simp only [sj] at hp; subst hp
         exact appT_ok h hd ho hc hx ht hu hi hz hcond.1 hcond.2.1 hcond.2.2 (by rw [hdst]; simp) he
        ·rename_i d1 hdst htk
         split at hp
         ·simp only [sj] at hp; subst hp
          exact appF_ok h hd ho hc hx ht hu hi hz hcond.1 hcond.2.1 hcond.2.2 (by rw [hdst]; simp) he
         ·simp only [sj] at hp; subst hp
          exact app_ok h hd ho hc hx ht hu hi hz hcond.1 hcond.2.1 hcond.2.2 he
        ·simp only [sj] at hp; subst hp
         exact app_ok h hd ho hc hx ht hu hi hz hcond.1 hcond.2.1 hcond.2.2 he
       ·cases hp
      ·cases hp
     ·cases hp
    ·cases hp
   ·cases hp
  ·cases hp
 ·rename_i hc
  split at hp
  ·rename_i mt m k hmt hx
   simp only [sj] at hp; subst hp
   exact mdel_ok h hd ho hc hx hmt he
  ·cases hp
 ·cases hp
theorem eff_ok (hC : Meets P C) (h : Rel w0 O0 E0 I0 nt st E I a w) {o : Oper} (hd : ∀ x, o.dst = some x → x < nt) {A : Ann0} {dr : Bool} {key : Nat} {p : POp} {v : PV} {objs' : Nat → Option Ob}
  (hp : compOp P A o.dst dr key o.op = some p) (he : eff P C st o.dst p = some (v, objs')) : OpOK P o a w (Left w0 O0 E0 I0 nt st o a objs' v) := by
 unfold compOp at hp
 split at hp
 ·rename_i x ho
  simp only [sj] at hp; subst hp
  simp only [eff, sj, pj] at he
  obtain ⟨rfl, rfl⟩ := he
  exact zam h hd (val := a.eval x) (w' := w) (by unfold execOp; simp only [ho]; rfl) (Wst.refl _ _) (h.ev x)
 ·rename_i x ho
  simp only [sj] at hp; subst hp
  simp only [eff, sj, pj] at he
  obtain ⟨rfl, rfl⟩ := he
  exact zam h hd (val := a.eval x) (w' := w) (by unfold execOp; simp only [ho]; rfl) (Wst.refl _ _) (h.ev x)
 ·rename_i c x y ho
  simp only [sj] at hp; subst hp
  simp only [eff] at he
  split at he
  ·rename_i t hc
   simp only [sj, pj] at he
   obtain ⟨rfl, rfl⟩ := he
   have hev := h.ev c
   rw [hc] at hev
   generalize hac : a.eval c = ac at hev
   cases hev with
   | one _ _ hev =>
    have := LR.ofVal hev
    subst this
    refine zam h hd (val := if t then a.eval x else a.eval y) (w' := w) ?_ (Wst.refl _ _) ?_
    ·unfold execOp; simp only [ho, hac]; rfl
    ·cases t
     ·exact h.ev y
     ·exact h.ev x
  ·cases he
 ·rename_i op t x y t' ho
  split at hp
  ·rename_i e hu
   split at hp
   ·rename_i hy
    simp only [mj] at hp
    obtain ⟨n, hn, rfl⟩ := hp
    exact pnil_ok h hd ho hu hy hn he
   ·cases hp
  ·simp only [sj] at hp; subst hp
   refine zdz h hd (fun vs hvs _ => ?_) he
   subst hvs
   unfold execOp
   simp only [ho, yan, yca, Prim.sem, eqGuard_c]
 ·rename_i op t x ho
  simp only [sj] at hp; subst hp
  refine zdz h hd (fun vs hvs _ => ?_) he
  subst hvs
  unfold execOp
  simp only [ho, yan, yca, Prim.sem]
 ·rename_i s d x ho
  split at hp
  ·rename_i e hs hdd
   split at hp
   ·rename_i he8
    simp only [sj] at hp; subst hp
    exact b2s_ok h hd ho hs hdd he8 he
   ·cases hp
  ·rename_i e hs hdd
   split at hp
   ·rename_i he8
    split at hp
    ·simp only [sj] at hp; subst hp
     exact s2bo_ok h hd ho hs hdd he8 he
    ·simp only [sj] at hp; subst hp
     exact s2b_ok h hd ho hs hdd he8 he
   ·cases hp
  ·simp only [sj] at hp; subst hp
   refine zdz h hd (fun vs hvs _ => ?_) he
   subst hvs
   unfold execOp
   simp only [ho, yan, yca, Prim.sem]
 ·rename_i el ho
  split at hp
  ·rename_i i hi
   split at hp
   ·rename_i z hz
    split at hp
    ·simp only [sj] at hp; subst hp
     simp only [eff] at he
     split at he
     ·rename_i d hdst
      split at he
      ·rename_i cs hk hcs
       split at he
       ·rename_i cs1 objs1 how
        split at he
        ·rename_i hk1
         simp only [sj, pj] at he
         obtain ⟨rfl, rfl⟩ := he
         refine alloc_ok (el := el) h hd (.inr rfl) (hd d hdst) (zdm _ _ _ _ z) hcs how (by simpa using hk1) ?_
         unfold execOp
         simp [ho, Instr.alloc, zeroValue, typeInfo, hi, hz, newVar, newRow]
        ·cases he
       ·cases he
      ·cases he
     ·cases he
    ·simp only [sj] at hp; subst hp
     simp only [eff] at he
     split at he
     ·rename_i d hdst
      split at he
      ·rename_i cs hk hcs
       split at he
       ·rename_i cs1 objs1 how
        split at he
        ·rename_i hk1
         simp only [sj, pj] at he
         obtain ⟨rfl, rfl⟩ := he
         refine alloc_ok (el := el) h hd (.inl rfl) (hd d hdst) (zdm _ _ _ _ z) hcs how (by simpa using hk1) ?_
         unfold execOp
         simp [ho, Instr.alloc, zeroValue, typeInfo, hi, hz, newVar, newRow]
        ·cases he
       ·cases he
      ·cases he
     ·cases he
   ·cases hp
  ·cases hp
 ·rename_i el x ho
  simp only [sj] at hp; subst hp
  simp only [eff] at he
  split at he
  ·rename_i d hdst
   split at he
   ·rename_i cs hk hcs
    split at he
    ·rename_i cs1 objs1 how
     split at he
     ·rename_i hk1
      simp only [sj, pj] at he
      obtain ⟨rfl, rfl⟩ := he
      refine alloc_ok (el := el) h hd (.inl rfl) (hd d hdst) (h.ev x) hcs how (by simpa using hk1) ?_
      unfold execOp
      simp [ho, Instr.box, newVar, newRow]
     ·cases he
    ·cases he
   ·cases he
  ·cases he
 ·rename_i t x ho
  split at hp
  ·rename_i ag sz hag hsz
   simp only [sj] at hp; subst hp
   exact load_ok h hd ho hag hsz he
  ·cases hp
 ·rename_i t ad x ho
  split at hp
  ·rename_i sz hsz
   split at hp
   ·simp only [sj] at hp; subst hp
    exact store_ok h hd ho hsz he
   ·simp only [sj] at hp; subst hp
    exact storeV_ok h hd ho hsz he
  ·cases hp
 ·rename_i x ho
  simp only [sj] at hp; subst hp
  exact nilc_ok h hd ho he
 ·rename_i s x f ho
  split at hp
  ·rename_i fs hu
   split at hp
   ·rename_i fd hf
    split at hp
    ·rename_i n hsz
     simp only [sj] at hp; subst hp
     exact faddr_ok h hd ho hu hf hsz he
    ·cases hp
   ·cases hp
  ·cases hp
 ·rename_i s x f ho
  split at hp
  ·rename_i fs hu
   split at hp
   ·rename_i fd hf
    split at hp
    ·rename_i ag sz hag hsz
     simp only [sj] at hp; subst hp
     exact fld_ok h hd ho hu hf hag hsz he
    ·cases hp
   ·cases hp
  ·cases hp
 ·rename_i t x i ho
  split at hp
  ·rename_i len e hu
   split at hp
   ·rename_i sz hsz
    simp only [sj] at hp; subst hp
    exact iaddrA_ok h hd ho hu hsz he
   ·cases hp
  ·rename_i e hu
   split at hp
   ·rename_i sz hsz
    simp only [sj] at hp; subst hp
    exact iaddrS_ok h hd ho hu hsz he
   ·cases hp
  ·cases hp
 ·rename_i t x i ho
  split at hp
  ·rename_i len e hu
   split at hp
   ·rename_i ag sz hag hsz
    simp only [sj] at hp; subst hp
    exact idx_ok h hd ho hu hag hsz he
   ·cases hp
  ·rename_i hu
   simp only [sj] at hp; subst hp
   refine zdz h hd (fun vs hvs _ => ?_) he
   subst hvs
   unfold execOp
   simp only [ho, yan, yca, Prim.sem]
  ·cases hp
 ·rename_i x i ho
  simp only [sj] at hp; subst hp
  exact ext_ok h hd ho he
 ·rename_i t parts ho
  split at hp
  ·rename_i it n e hit hu
   split at hp
   ·rename_i z ie hz hie
    simp only [mj] at hp
    obtain ⟨l, hl, hp⟩ := hp
    have hb : ∀ cells, Instr.fill (fun i => some (i * ie.size, ie.size)) z.cells (parts.map fun (i, x) => (i, a.eval x)).toList = some cells → P.built t (parts.map fun (i, x) => (i, a.eval x)).toList = some cells := fun cells hc => by
     unfold Program.built
     simp only [hit, hu, hz, hie]
     exact hc
    split at hp
    ·subst hp; exact build_ok h hd ho hl hb he
    ·subst hp; exact buildV_ok h hd ho hl hb he
   ·cases hp
  ·rename_i it fields hit hu
   split at hp
   ·rename_i z places hz hpl
    simp only [mj] at hp
    obtain ⟨l, hl, hp⟩ := hp
    have hb : ∀ cells, Instr.fill (places.toArray[·]?) z.cells (parts.map fun (i, x) => (i, a.eval x)).toList = some cells → P.built t (parts.map fun (i, x) => (i, a.eval x)).toList = some cells := fun cells hc => by
     unfold Program.built
     simp only [hit, hu, hz, hpl]
     exact hc
    split at hp
    ·subst hp; exact build_ok h hd ho hl hb he
    ·subst hp; exact buildV_ok h hd ho hl hb he
   ·cases hp
  ·cases hp
 ·rename_i t len parts ho
  split at hp
  ·rename_i e hu
   split at hp
   ·rename_i ie hie
    split at hp
    ·rename_i z hz
     split at hp
     ·rename_i hcond
      split at hp
      ·simp only [sj] at hp; subst hp
       exact bptrs_ok h hd ho hu hie hz hcond.1 hcond.2.1 hcond.2.2 he
      ·split at hp
       ·simp only [sj] at hp; subst hp
        exact bptrs_ok h hd ho hu hie hz hcond.1 hcond.2.1 hcond.2.2 he
       ·split at hp
        ·simp only [sj] at hp; subst hp
         exact bown_ok h hd ho hu hie hz hcond.1 hcond.2.1 hcond.2.2 he
        ·simp only [sj] at hp; subst hp
         exact bslice_ok h hd ho hu hie hz hcond.1 hcond.2.1 hcond.2.2 he
     ·cases hp
    ·cases hp
   ·cases hp
  ·cases hp
 ·rename_i t x lo hi ho
  split at hp
  ·rename_i e hu
   split at hp
   ·rename_i sz hsz
    simp only [sj] at hp; subst hp
    exact slc_ok h hd ho hu hsz he
   ·cases hp
  ·rename_i hu
   simp only [sj] at hp; subst hp
   refine zdz h hd (fun vs hvs _ => ?_) he
   subst hvs
   unfold execOp
   cases lo <;> cases hi <;> simp only [ho, Option.isSome, Option.toList, yci, ybw, List.cons_append, yan, yca, Prim.sem, Option.map]
  ·rename_i at' hu
   split at hp
   ·rename_i len e ha
    split at hp
    ·rename_i sz hsz
     simp only [sj] at hp; subst hp
     exact slcA_ok h hd ho (.inr ⟨at', hu, ha⟩) hsz he
    ·cases hp
   ·cases hp
  ·rename_i len e hu
   split at hp
   ·rename_i sz hsz
    simp only [sj] at hp; subst hp
    exact slcA_ok h hd ho (.inl hu) hsz he
   ·cases hp
  ·cases hp
 ·rename_i f first captured ho
  split at hp
  ·rename_i hf
   simp only [sj] at hp; subst hp
   exact mkfn_ok h hd ho hf he
  ·cases hp
 ·rename_i c ho
  exact compCall_ok hC h hd ho hp he
 ·rename_i t ho
  simp only [sj] at hp; subst hp
  exact mmake_ok h hd ho he
 ·rename_i mt x k ok ho
  split at hp
  ·simp only [sj] at hp; subst hp
   exact mlook_ok h hd ho he
  ·cases hp
 ·rename_i mt m k x ho
  simp only [sj] at hp; subst hp
  exact mset_ok h hd (.inl ho) he
 ·rename_i mt m k x ho
  simp only [sj] at hp; subst hp
  exact mset_ok h hd (.inr ho) he
 ·cases hp
end
def POp.opnds : POp → List Operand
 | .mv x | .box _ x _ | .pnil _ x | .load _ _ x | .nilc x | .faddr _ x | .fld _ _ _ x | .ext x _ | .lenS x | .b2s x | .s2b _ x | .s2bo _ x | .mlen x => [x]
 | .mmake => []
 | .mlook _ _ _ x k | .mdel _ x k => [x, k]
 | .mset _ x k v => [x, k, v]
 | .pick c a b => [c, a, b]
 | .prim _ xs | .bslice _ _ xs | .mkfn _ xs | .call _ _ _ xs | .gcall _ _ _ _ _ xs | .bptrs _ xs | .bown _ _ xs => xs
 | .alloc _ _ _ | .allocT _ _ _ => []
 | .store _ a x | .iaddrA _ _ a x | .iaddrS _ a x | .idx _ _ _ a x | .app _ _ _ _ a x | .appT _ _ _ _ a x | .appF _ _ _ a x | .storeV _ _ a x => [a, x]
 | .build _ ps | .buildV _ _ ps => ps.map (·.2.2)
 | .slc _ x lo hi | .slcA _ _ x lo hi => x :: (lo.toList ++ hi.toList)
 | .callv _ _ x xs | .gcallv _ _ _ _ x xs => x :: xs
def POp.cls : POp → Nat
 | .mv _ | .pick .. | .prim .. | .nilc _ | .faddr .. | .iaddrA .. | .bslice .. | .build .. | .fld .. | .idx .. | .ext .. | .lenS _ | .s2b .. | .mkfn .. | .slcA .. | .pnil .. => 0
 | .load .. | .iaddrS .. | .slc .. | .b2s .. => 1
 | .alloc .. | .allocT .. | .box .. | .store .. | .app .. | .gcall .. | .gcallv .. | .bptrs .. | .bown .. | .s2bo .. | .mmake | .mlook .. | .mset .. | .mdel .. | .mlen .. | .appT .. | .appF .. | .storeV .. | .buildV .. => 2
 | .callv wr .. | .call wr .. => if wr then 2 else 1
theorem ev_congr {st st' : St} {x : Operand} (h : ∀ t, x = .tmp t → st.tmps t = st'.tmps t) : st.ev x = st'.ev x := by
 cases x <;> first | rfl | exact h _ rfl
section
variable {st st' : St}
theorem zde {xs : List Operand} (h : ∀ x ∈ xs, st.ev x = st'.ev x) : evs st xs = evs st' xs := List.map_congr_left h
theorem zbg (esz : Nat) : ∀ (xs : List Operand), (∀ x ∈ xs, st.ev x = st'.ev x) → zez st esz xs = zez st' esz xs
 | [], _ => rfl
 | x :: xs, h => by simp only [zez, h x (by simp), zbg esz xs (fun y hy => h y (by simp [hy]))]
theorem zfi : ∀ (xs : List Operand), (∀ x ∈ xs, st.ev x = st'.ev x) → onesL st xs = onesL st' xs
 | [], _ => rfl
 | x :: xs, h => by simp only [onesL, h x (by simp), zfi xs (fun y hy => h y (by simp [hy]))]
theorem zcq : ∀ (ps : List (Nat × Nat × Operand)) (cs : List Lf), (∀ x ∈ ps.map (·.2.2), st.ev x = st'.ev x) → fillP st cs ps = fillP st' cs ps
 | [], _, _ => rfl
 | (off, sz, x) :: ps, cs, h => by
  have ih := fun cs => zcq ps cs (fun y hy => h y (by simp at hy ⊢; exact .inr hy))
  simp only [fillP, h x (by simp), ih]
theorem zbs {x : Option Operand} (d : Nat) (h : ∀ y ∈ x.toList, st.ev y = st'.ev y) : bound? st d x = bound? st' d x := by
 cases x with
 | none => rfl
 | some y => simp only [bound?, h y (by simp)]
theorem eff_cls0 {P : Program} {C : zaf} {p : POp} (hc : p.cls = 0) (h : ∀ x ∈ p.opnds, st.ev x = st'.ev x) {d : Option Nat} {v : PV} {objs' : Nat → Option Ob} (he : eff P C st d p = some (v, objs')) :
  objs' = st.objs ∧ eff P C st' d p = some (v, st'.objs) := by
 cases p <;> first | (simp [POp.cls] at hc; done) | skip
 case call wr nl f xs => cases wr <;> simp [POp.cls] at hc
 case callv wr nl x xs => cases wr <;> simp [POp.cls] at hc
 case mv x =>
  simp only [eff, sj, pj] at he ⊢
  exact ⟨he.2.symm, by rw [← h x (by simp [POp.opnds])]; exact he.1, trivial⟩
 case pick c a b =>
  have e1 := h c (by simp [POp.opnds]); have e2 := h a (by simp [POp.opnds]); have e3 := h b (by simp [POp.opnds])
  simp only [eff, ← e1, ← e2, ← e3] at he ⊢
  split at he
  ·simp only [sj, pj] at he ⊢
   exact ⟨he.2.symm, by simpa using he.1⟩
  ·cases he
 case prim q xs =>
  have e1 := zde (st := st) (st' := st') (xs := xs) h
  simp only [eff, ← e1] at he ⊢
  split at he
  ·split at he
   ·simp only [sj, pj] at he ⊢
    exact ⟨he.2.symm, by simpa using he.1⟩
   ·cases he
  ·cases he
 case nilc x =>
  have e1 := h x (by simp [POp.opnds])
  simp only [eff, ← e1] at he ⊢
  split at he <;> first | contradiction | skip
  all_goals
   simp only [sj, pj] at he ⊢
   exact ⟨he.2.symm, by simpa using he.1⟩
 case faddr off x =>
  have e1 := h x (by simp [POp.opnds])
  simp only [eff, ← e1] at he ⊢
  split at he <;> first | contradiction | skip
  all_goals
   simp only [sj, pj] at he ⊢
   exact ⟨he.2.symm, by simpa using he.1⟩
 case iaddrA len esz x i =>
  have e1 := h x (by simp [POp.opnds]); have e2 := h i (by simp [POp.opnds])
  simp only [eff, ← e1, ← e2] at he ⊢
  split at he
  ·split at he
   ·rename_i hb
    rw [if_pos hb]
    split at he <;> first | contradiction | skip
    all_goals
     simp only [sj, pj] at he ⊢
     exact ⟨he.2.symm, by simpa using he.1⟩
   ·cases he
  ·cases he
 case s2b el x =>
  have e1 := h x (by simp [POp.opnds])
  simp only [eff, ← e1] at he ⊢
  split at he
  ·simp only [sj, pj] at he ⊢
   exact ⟨he.2.symm, by simpa using he.1⟩
  ·cases he
 case bslice el esz xs =>
  have e1 := zbg (st := st) (st' := st') esz xs h
  simp only [eff, ← e1] at he ⊢
  split at he
  ·split at he
   ·rename_i hb
    rw [if_pos hb]
    simp only [sj, pj] at he ⊢
    exact ⟨he.2.symm, by simpa using he.1⟩
   ·cases he
  ·cases he
 case build z ps =>
  have e1 := fun cs => zcq (st := st) (st' := st') ps cs h
  simp only [eff, ← e1] at he ⊢
  split at he
  ·simp only [mj, pj] at he ⊢
   obtain ⟨r, h1, h2, h3⟩ := he
   exact ⟨h3.symm, r, h1, by simpa using h2⟩
  ·cases he
 case fld ag off sz x =>
  have e1 := h x (by simp [POp.opnds])
  simp only [eff, ← e1] at he ⊢
  split at he
  ·simp only [mj, pj] at he ⊢
   obtain ⟨r, h1, h2, h3⟩ := he
   exact ⟨h3.symm, r, h1, by simpa using h2⟩
  ·cases he
 case idx ag esz len x i =>
  have e1 := h x (by simp [POp.opnds]); have e2 := h i (by simp [POp.opnds])
  simp only [eff, ← e1, ← e2] at he ⊢
  split at he
  ·split at he
   ·rename_i hb
    rw [if_pos hb]
    simp only [mj, pj] at he ⊢
    obtain ⟨r, h1, h2, h3⟩ := he
    exact ⟨h3.symm, r, h1, by simpa using h2⟩
   ·cases he
  ·cases he
 case ext x i =>
  have e1 := h x (by simp [POp.opnds])
  simp only [eff, ← e1] at he ⊢
  split at he
  ·simp only [mj, pj] at he ⊢
   obtain ⟨r, h1, h2, h3⟩ := he
   exact ⟨h3.symm, r, h1, by simpa using h2⟩
  ·cases he
 case lenS x =>
  have e1 := h x (by simp [POp.opnds])
  simp only [eff, ← e1] at he ⊢
  split at he <;> first | contradiction | skip
  all_goals
   simp only [sj, pj] at he ⊢
   exact ⟨he.2.symm, by simpa using he.1⟩
 case mkfn f xs =>
  have e1 := zfi (st := st) (st' := st') xs h
  simp only [eff, ← e1] at he ⊢
  split at he
  ·simp only [sj, pj] at he ⊢
   exact ⟨he.2.symm, by simpa using he.1⟩
  ·cases he
 case slcA len esz x lo hi =>
  have e1 := h x (by simp [POp.opnds])
  have e2 := fun d => zbs (st := st) (st' := st') (x := lo) d (fun y hy => h y (by simp [POp.opnds, hy]))
  have e3 := fun d => zbs (st := st) (st' := st') (x := hi) d (fun y hy => h y (by simp [POp.opnds, hy]))
  simp only [eff, ← e1, ← e2, ← e3] at he ⊢
  split at he
  ·split at he
   ·split at he
    ·rename_i hb
     rw [if_pos hb]
     simp only [sj, pj] at he ⊢
     exact ⟨he.2.symm, by simpa using he.1⟩
    ·cases he
   ·cases he
  ·cases he
 case pnil neg x =>
  have e1 := h x (by simp [POp.opnds])
  simp only [eff, ← e1] at he ⊢
  split at he <;> first | contradiction | skip
  all_goals
   simp only [sj, pj] at he ⊢
   exact ⟨he.2.symm, by simpa using he.1⟩
theorem eff_congr {P : Program} {C : zaf} {p : POp} (h : ∀ x ∈ p.opnds, st.ev x = st'.ev x) (ho : st.objs = st'.objs) (d : Option Nat) : eff P C st d p = eff P C st' d p := by
 cases p
 case mv x => simp only [eff, h x (by simp [POp.opnds]), ho]
 case pick c a b => simp only [eff, h c (by simp [POp.opnds]), h a (by simp [POp.opnds]), h b (by simp [POp.opnds]), ho]
 case prim q xs => simp only [eff, zde (st := st) (st' := st') (xs := xs) h, ho]
 case alloc el z ow => simp only [eff, ho]
 case allocT el z ow => simp only [eff, ho]
 case box el x ow => simp only [eff, h x (by simp [POp.opnds]), ho]
 case load ag sz x => simp only [eff, h x (by simp [POp.opnds]), ho]
 case store sz a x => simp only [eff, h a (by simp [POp.opnds]), h x (by simp [POp.opnds]), ho]
 case nilc x => simp only [eff, h x (by simp [POp.opnds]), ho]
 case faddr off x => simp only [eff, h x (by simp [POp.opnds]), ho]
 case iaddrA len esz x i => simp only [eff, h x (by simp [POp.opnds]), h i (by simp [POp.opnds]), ho]
 case iaddrS esz x i => simp only [eff, h x (by simp [POp.opnds]), h i (by simp [POp.opnds]), ho]
 case bslice el esz xs => simp only [eff, zbg (st := st) (st' := st') esz xs h, ho]
 case build z ps => simp only [eff, fun cs => zcq (st := st) (st' := st') ps cs h, ho]
 case fld ag off sz x => simp only [eff, h x (by simp [POp.opnds]), ho]
 case idx ag esz len x i => simp only [eff, h x (by simp [POp.opnds]), h i (by simp [POp.opnds]), ho]
 case ext x i => simp only [eff, h x (by simp [POp.opnds]), ho]
 case slc esz x lo hi =>
  have e2 := fun d => zbs (st := st) (st' := st') (x := lo) d (fun y hy => h y (by simp [POp.opnds, hy]))
  have e3 := fun d => zbs (st := st) (st' := st') (x := hi) d (fun y hy => h y (by simp [POp.opnds, hy]))
  simp only [eff, h x (by simp [POp.opnds]), e2, e3, ho]
 case app key el esz bytes s x => simp only [eff, h s (by simp [POp.opnds]), h x (by simp [POp.opnds]), ho]
 case lenS x => simp only [eff, h x (by simp [POp.opnds]), ho]
 case b2s x => simp only [eff, h x (by simp [POp.opnds]), ho]
 case s2b el x => simp only [eff, h x (by simp [POp.opnds]), ho]
 case mkfn f xs => simp only [eff, zfi (st := st) (st' := st') xs h, ho]
 case call wr nl f xs => simp only [eff, zde (st := st) (st' := st') (xs := xs) h, ho]
 case callv wr nl x xs => simp only [eff, h x (by simp [POp.opnds]), zde (st := st) (st' := st') (xs := xs) (fun y hy => h y (by simp [POp.opnds, hy])), ho]
 case gcall ow fz fp nl f xs => simp only [eff, zde (st := st) (st' := st') (xs := xs) h, ho]
 case gcallv ow fz fp nl x xs => simp only [eff, h x (by simp [POp.opnds]), zde (st := st) (st' := st') (xs := xs) (fun y hy => h y (by simp [POp.opnds, hy])), ho]
 case slcA len esz x lo hi =>
  have e2 := fun d => zbs (st := st) (st' := st') (x := lo) d (fun y hy => h y (by simp [POp.opnds, hy]))
  have e3 := fun d => zbs (st := st) (st' := st') (x := hi) d (fun y hy => h y (by simp [POp.opnds, hy]))
  simp only [eff, h x (by simp [POp.opnds]), e2, e3, ho]
 case pnil neg x => simp only [eff, h x (by simp [POp.opnds]), ho]
 case bptrs esz xs => simp only [eff, zbg (st := st) (st' := st') esz xs h, ho]
 case bown el esz xs => simp only [eff, zbg (st := st) (st' := st') esz xs h, ho]
 case s2bo el x => simp only [eff, h x (by simp [POp.opnds]), ho]
 case mmake => simp only [eff, ho]
 case mlook ok mt nl x k => simp only [eff, h x (by simp [POp.opnds]), h k (by simp [POp.opnds]), ho]
 case mset mt x k v => simp only [eff, h x (by simp [POp.opnds]), h k (by simp [POp.opnds]), h v (by simp [POp.opnds]), ho]
 case mdel mt x k => simp only [eff, h x (by simp [POp.opnds]), h k (by simp [POp.opnds]), ho]
 case mlen x => simp only [eff, h x (by simp [POp.opnds]), ho]
 case buildV nl z ps => simp only [eff, fun cs => zcq (st := st) (st' := st') ps cs h, ho]
 case storeV nl sz a x => simp only [eff, h a (by simp [POp.opnds]), h x (by simp [POp.opnds]), ho]
 case appF el esz bytes s x => simp only [eff, h s (by simp [POp.opnds]), h x (by simp [POp.opnds]), ho]
 case appT to el esz bytes s x => simp only [eff, h s (by simp [POp.opnds]), h x (by simp [POp.opnds]), ho]
theorem zfn {C : zaf} {objs : Nat → Option Ob} {f : FuncId} {args : List PV} {v : PV} {objs' : Nat → Option Ob} (he : zct C false objs f args = some (v, objs')) : objs' = objs := by
 unfold zct at he
 split at he
 ·cases he
 ·rename_i args' ks rd hargs
  split at he
  ·cases he
  ·rename_i os hos
   split at hos
   ·rename_i hk
    have hk : ks = [] := by simpa using hk
    subst hk
    split at he
    ·cases he
    ·rename_i res ob' hCr
     split at he
     ·cases he
     ·rename_i os' _
      split at he
      ·split at he
       ·cases he
       ·rename_i objs2 ho
        simp only [sj, pj] at he
        obtain ⟨_, rfl⟩ := he
        cases os' with
        | nil => simp only [zbc, sj] at ho; exact ho.symm
        | cons => simp [zbc] at ho
      ·cases he
   ·cases hos
theorem eff_cls1 {P : Program} {C : zaf} {p : POp} (hc : p.cls = 1) {d : Option Nat} {v : PV} {objs' : Nat → Option Ob} (he : eff P C st d p = some (v, objs')) : objs' = st.objs := by
 cases p <;> first | (simp [POp.cls] at hc; done) | skip
 case call wr nl f xs =>
  cases wr with
  | true => simp [POp.cls] at hc
  | false => exact zfn he
 case callv wr nl x xs =>
  cases wr with
  | true => simp [POp.cls] at hc
  | false =>
   simp only [eff] at he
   split at he
   ·exact zfn he
   ·split at he
    ·exact zfn he
    ·cases he
   ·cases he
 case load ag sz x =>
  simp only [eff] at he
  repeat' split at he
  all_goals first | contradiction | (simp only [mj, pj] at he; obtain ⟨_, _, _, h⟩ := he; exact h.symm)
 case iaddrS esz x i =>
  simp only [eff] at he
  repeat' split at he
  all_goals first | contradiction | (simp only [sj, pj] at he; exact he.2.symm)
 case b2s x =>
  simp only [eff] at he
  repeat' split at he
  all_goals first | contradiction | (simp only [mj, pj] at he; obtain ⟨_, _, _, h⟩ := he; exact h.symm) | (simp only [sj, pj] at he; exact he.2.symm)
 case slc esz x lo hi =>
  simp only [eff] at he
  repeat' split at he
  all_goals first | contradiction | (simp only [sj, pj] at he; exact he.2.symm)
end
def Grows (objs objs' : Nat → Option Ob) : Prop := ∀ k o, objs k = some o → objs' k = some o
theorem argsOf_grow {objs objs' : Nat → Option Ob} (h : Grows objs objs') : ∀ (vs : List PV) (ks : List Nat) (r : List PV × List Nat × Bool), zay objs vs ks = some r → zay objs' vs ks = some r
 | [], ks, r, hr => hr
 | v :: vs, ks, r, hr => by
  have ih := argsOf_grow h vs
  unfold zay at hr ⊢
  split at hr
  ·rename_i heq; cases heq
  ·rename_i heq
   simp only [yaf] at heq
   obtain ⟨rfl, rfl⟩ := heq
   split at hr
   ·cases hr
   ·rename_i hc
    rw [if_neg hc]
    split at hr
    ·rename_i he
     simp only [ih _ _ he]; exact hr
    ·cases hr
  ·rename_i heq
   simp only [yaf] at heq
   obtain ⟨rfl, rfl⟩ := heq
   split at hr
   ·rename_i ho
    simp only [h _ _ ho]
    split at hr
    ·rename_i hc
     rw [if_pos hc]
     split at hr
     ·rename_i he
      simp only [ih _ _ he]; exact hr
     ·cases hr
    ·cases hr
   ·cases hr
  ·rename_i hn1 hn2 heq
   simp only [yaf] at heq
   obtain ⟨rfl, rfl⟩ := heq
   split at hr
   ·rename_i hc
    rw [if_pos hc]
    split at hr
    ·rename_i he
     simp only [ih _ _ he]; exact hr
    ·cases hr
   ·cases hr
theorem callP_grow {C : zaf} {objs objs' : Nat → Option Ob} (h : Grows objs objs') {f : FuncId} {args : List PV} {v : PV} {o2 : Nat → Option Ob} (hc : zct C false objs f args = some (v, o2)) : zct C false objs' f args = some (v, objs') := by
 unfold zct at hc ⊢
 split at hc
 ·cases hc
 ·rename_i args' ks rd ha
  rw [argsOf_grow h _ _ _ ha]
  simp only [Bool.false_or] at hc ⊢
  split at hc
  ·cases hc
  ·rename_i os hos
   split at hos
   ·rename_i hk
    have hk : ks = [] := by simpa using hk
    subst hk
    simp only [zcp, sj] at hos
    subst hos
    simp only [List.isEmpty_nil, if_true, zcp]
    split at hc
    ·cases hc
    ·rename_i res ob' hCr
     split at hc
     ·cases hc
     ·rename_i os' _
      split at hc
      ·rename_i hcl
       rw [if_pos hcl]
       cases os' with
       | nil => simp only [zbc, sj, pj] at hc ⊢; exact ⟨hc.1, trivial⟩
       | cons => simp [zbc] at hc
      ·cases hc
   ·cases hos
theorem zcm {st st' : St} {d : Nat} {x : Option Operand} (h : ∀ y, st.ev y = st'.ev y) : bound? st d x = bound? st' d x := by
 cases x with
 | none => rfl
 | some y => simp only [bound?, h y]
theorem eff_grow {P : Program} {C : zaf} {p : POp} (hc : p.cls = 1) {st : St} {objs' : Nat → Option Ob} (h : Grows st.objs objs') {d : Option Nat} {v : PV} {o2 : Nat → Option Ob} (he : eff P C st d p = some (v, o2)) :
  eff P C { st with objs := objs' } d p = some (v, objs') := by
 have hev : ∀ y, ({ st with objs := objs' } : St).ev y = st.ev y := fun y => by cases y <;> rfl
 have hevs : ∀ ys, evs ({ st with objs := objs' } : St) ys = evs st ys := fun ys => List.map_congr_left fun y _ => hev y
 cases p <;> first | (simp [POp.cls] at hc; done) | skip
 case call wr nl f xs =>
  cases wr with
  | true => simp [POp.cls] at hc
  | false => simp only [eff, hevs] at he ⊢; exact callP_grow h he
 case callv wr nl x xs =>
  cases wr with
  | true => simp [POp.cls] at hc
  | false =>
   simp only [eff, hevs, hev] at he ⊢
   split at he
   ·exact callP_grow h he
   ·split at he
    ·rename_i hq; rw [if_pos hq]; exact callP_grow h he
    ·cases he
   ·cases he
 case load ag sz x =>
  simp only [eff, hev] at he ⊢
  split at he
  ·split at he
   ·rename_i ho; simp only [h _ _ ho]
    simp only [mj, pj] at he ⊢
    obtain ⟨u, hu, hv, _⟩ := he; exact ⟨u, hu, hv, trivial⟩
   ·cases he
  ·simp only [mj, pj] at he ⊢
   obtain ⟨u, hu, hv, _⟩ := he; exact ⟨u, hu, hv, trivial⟩
  ·split at he
   ·rename_i ho; simp only [h _ _ ho]
    split at he
    ·rename_i hq; rw [if_pos hq]
     simp only [mj, pj] at he ⊢
     obtain ⟨u, hu, hv, _⟩ := he; exact ⟨u, hu, hv, trivial⟩
    ·cases he
   ·cases he
  ·cases he
 case iaddrS esz x i =>
  simp only [eff, hev] at he ⊢
  split at he
  ·split at he
   ·split at he
    ·rename_i hq; rw [if_pos hq]; simp only [sj, pj] at he ⊢; exact ⟨he.1, trivial⟩
    ·cases he
   ·split at he
    ·rename_i ho; simp only [h _ _ ho]
     split at he
     ·rename_i hq; rw [if_pos hq]; simp only [sj, pj] at he ⊢; exact ⟨he.1, trivial⟩
     ·cases he
    ·cases he
   ·split at he
    ·rename_i hq; rw [if_pos hq]; simp only [sj, pj] at he ⊢; exact ⟨he.1, trivial⟩
    ·cases he
   ·cases he
  ·cases he
 case b2s x =>
  simp only [eff, hev] at he ⊢
  split at he
  ·split at he
   ·rename_i hq; rw [if_pos hq]
    simp only [mj, pj] at he ⊢
    obtain ⟨u, hu, hv, _⟩ := he; exact ⟨u, hu, hv, trivial⟩
   ·cases he
  ·split at he
   ·rename_i ho; simp only [h _ _ ho]
    split at he
    ·rename_i hq; rw [if_pos hq]
     simp only [mj, pj] at he ⊢
     obtain ⟨u, hu, hv, _⟩ := he; exact ⟨u, hu, hv, trivial⟩
    ·cases he
   ·cases he
  ·simp only [sj, pj] at he ⊢; exact ⟨he.1, trivial⟩
  ·cases he
 case slc esz x lo hi =>
  simp only [eff, hev, zcm hev] at he ⊢
  split at he
  ·split at he
   ·split at he
    ·rename_i hq; rw [if_pos hq]; simp only [sj, pj] at he ⊢; exact ⟨he.1, trivial⟩
    ·cases he
   ·cases he
  ·split at he
   ·split at he
    ·rename_i ho; simp only [h _ _ ho]
     split at he
     ·rename_i hq; rw [if_pos hq]; simp only [sj, pj] at he ⊢; exact ⟨he.1, trivial⟩
     ·cases he
    ·cases he
   ·cases he
  ·split at he
   ·split at he
    ·rename_i hq; rw [if_pos hq]; simp only [sj, pj] at he ⊢; exact ⟨he.1, trivial⟩
    ·cases he
   ·cases he
  ·cases he
def POp.isNew : POp → Bool
 | .alloc _ _ ow | .box _ _ ow => ow.isEmpty
 | _ => false
theorem eff_new_grow {P : Program} {C : zaf} {p : POp} (hn : p.isNew = true) {st : St} {d : Option Nat} {v : PV} {o2 : Nat → Option Ob} (he : eff P C st d p = some (v, o2)) : Grows st.objs o2 := by
 have key : ∀ (d : Nat) (o : Option Ob), st.objs d = none → Grows st.objs (upd st.objs d o) := by
  intro d o hd k q hk
  by_cases hkd : k = d
  ·subst hkd; rw [hd] at hk; cases hk
  ·rw [zah _ _ hkd]; exact hk
 cases p <;> first | (simp [POp.isNew] at hn; done) | skip
 case alloc t z ow =>
  simp only [POp.isNew, List.isEmpty_iff] at hn
  subst hn
  simp only [eff, zfh] at he
  split at he
  ·split at he
   ·rename_i hd _
    split at he
    ·simp only [sj, pj] at he
     obtain ⟨_, rfl⟩ := he
     exact key _ _ hd
    ·cases he
   ·cases he
  ·cases he
 case box t x ow =>
  simp only [POp.isNew, List.isEmpty_iff] at hn
  subst hn
  simp only [eff, zfh] at he
  split at he
  ·split at he
   ·rename_i hd _
    split at he
    ·simp only [sj, pj] at he
     obtain ⟨_, rfl⟩ := he
     exact key _ _ hd
    ·cases he
   ·cases he
  ·cases he
end Go.Rx
