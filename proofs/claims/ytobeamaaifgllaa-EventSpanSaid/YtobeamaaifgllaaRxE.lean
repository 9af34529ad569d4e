/- No condition. -/
import Derived.Test.YtobeamaaifgllaaRxD
namespace Go.Rx
open Go Go.RowKit
section
variable {P : Program} {C : Oracle} {w0 : World} {O0 : Nat → Option Ob} {E0 : Env} {I0 : Nat → Prop} {nt : Nat} {st : St} {E : Env} {I : Nat → Prop} {a : Act} {w : World}
theorem setRow_wst (w : World) (g : Nat) (cs : Array Value) : Wst (fun b => b = g) w (w.setRow g cs) :=
 ⟨rfl, rfl, rfl, by simp [World.setRow], fun k _ hn => setRow_other w g k cs hn⟩
theorem getD_arr (C : Array Value) (j : Nat) (h : j < C.size) : C.getD j undef = C[j] := by simp [Array.getD, h]
theorem mid_get (cur : Array Value) (p : Nat) (vs : List Value) (h : p + vs.length ≤ cur.size) (j : Nat) :
  (cur.toList.take p ++ vs ++ cur.toList.drop (p + vs.length)).toArray.size = cur.size ∧
  (cur.toList.take p ++ vs ++ cur.toList.drop (p + vs.length)).toArray.getD j undef = if p ≤ j ∧ j < p + vs.length then vs.getD (j - p) undef else cur.getD j undef := by
 refine ⟨by simp; omega, ?_⟩
 have e : (cur.toList.take p ++ vs ++ cur.toList.drop (p + vs.length)).toArray.getD j undef = (cur.toList.take p ++ vs ++ cur.toList.drop (p + vs.length))[j]?.getD undef := by
  rw [Array.getD_eq_getD_getElem?]; simp
 rw [e, List.getD_eq_getElem?_getD, Array.getD_eq_getD_getElem?, ← Array.getElem?_toList]
 simp only [List.getElem?_append, List.length_append, List.length_take, List.getElem?_take, List.getElem?_drop, Array.length_toList]
 rw [show min p cur.size = p by omega]
 by_cases h1 : j < p
 ·rw [if_pos (by omega), if_pos h1, if_pos h1, if_neg (by omega)]
 ·by_cases h2 : j < p + vs.length
  ·rw [if_pos h2, if_neg h1, if_pos (by omega)]
  ·rw [if_neg h2, if_neg (by omega)]
   congr 2; omega
theorem store_run {t : TypeId} {sz : Nat} (hsz : szOf P t = some sz) {b off : Nat} {cur : Array Value} {el : TypeId} {val : Value} (hb : w.heap[b]? = some (.cells cur el (0, 0)))
  (hv : val.cells.size = sz) (hfit : off + sz ≤ cur.size) (h1 : ∀ u ∈ val.cells.toList, u.oneCell' = true) :
  (storeVar t ⟨b, off, none⟩ val).run P w = .ok () (w.setRow b (cur.toList.take off ++ val.cells.toList ++ cur.toList.drop (off + val.cells.toList.length)).toArray) := by
 unfold szOf at hsz
 cases hi : P.info? t with
 | none => rw [hi] at hsz; cases hsz
 | some i =>
  rw [hi] at hsz
  simp only [Option.map_some, sj] at hsz
  have hS : (sizeOf t).run P w = .ok sz w := by simp [sizeOf, typeInfo, hi, hsz]
  have hst := run_storeCells_at P b off el val.cells.toList 0 cur w hb (by simp [hv]; omega) h1
  simp only [Nat.add_zero] at hst
  simp [storeVar, hS, hv, hst]
theorem run_storeCells_atB (P : Program) (g o : Nat) (t : TypeId) (fz : Nat × Nat) : ∀ (vs : List Value) (i : Nat) (cur : Array Value) (w : World), w.heap[g]? = some (.cells cur t fz) → (o + i + vs.length ≤ fz.1 ∨ fz.2 = 0) → o + i + vs.length ≤ cur.size → (∀ v ∈ vs, v.oneCell' = true) →
  (storeCells ⟨g, o, none⟩ vs i).run P w = .ok () (w.setRow g (cur.toList.take (o + i) ++ vs ++ cur.toList.drop (o + i + vs.length)).toArray)
 | [], i, cur, w, hg, _, _, _ => by
  simp only [storeCells, List.append_nil, List.length_nil, Nat.add_zero, List.take_append_drop, Array.toArray_toList]
  rw [setRow_self w g cur t fz hg]
  rfl
 | v :: rest, i, cur, w, hg, hfz, hl, h1 => by
  have hi : o + i < cur.size := by simp at hl; omega
  have hadd : (⟨g, o, none⟩ : Addr).add i = ⟨g, o + i, none⟩ := by unfold Addr.add; split <;> simp_all
  have hcell : w.cell? ⟨g, o + i, none⟩ = some cur[o + i] := by simp [World.cell?, hg, hi]
  have hfro : w.frozen? ⟨g, o + i, none⟩ = false := by
   obtain ⟨lo, hi'⟩ := fz
   simp only [World.frozen?, hg, Bool.and_eq_false_iff, decide_eq_false_iff_not]
   simp only [List.length_cons] at hfz
   omega
  have hst : (store ((⟨g, o, none⟩ : Addr).add i) v).run P w = .ok () (w.setRow g (cur.setIfInBounds (o + i) v)) := by
   rw [hadd, run_store P w _ v _ (h1 v (by simp)), hcell]
   simp [hfro, setCell_eq_setRow w g (o + i) cur t fz v hg]
  have ih := run_storeCells_atB P g o t fz rest (i + 1) (cur.setIfInBounds (o + i) v) (w.setRow g (cur.setIfInBounds (o + i) v)) (setRow_heap w g cur _ t _ hg) (by simp only [List.length_cons] at hfz; omega) (by simp at hl ⊢; omega) (fun x hx => h1 x (by simp [hx]))
  simp only [storeCells, Sem.run_bind, hst, Result.andThen_ok, ih, setRow_setRow]
  congr 3
  have e := list_seg_step cur.toList (o + i) v rest (by simp at hl ⊢; omega)
  simpa [Array.toList_setIfInBounds, Nat.add_assoc] using e
theorem store_runB {t : TypeId} {sz : Nat} (hsz : szOf P t = some sz) {b off : Nat} {cur : Array Value} {el : TypeId} {fz : Nat × Nat} {val : Value} (hb : w.heap[b]? = some (.cells cur el fz))
  (hv : val.cells.size = sz) (hfz : off + sz ≤ fz.1 ∨ fz.2 = 0) (hfit : off + sz ≤ cur.size) (h1 : ∀ u ∈ val.cells.toList, u.oneCell' = true) :
  (storeVar t ⟨b, off, none⟩ val).run P w = .ok () (w.setRow b (cur.toList.take off ++ val.cells.toList ++ cur.toList.drop (off + val.cells.toList.length)).toArray) := by
 unfold szOf at hsz
 cases hi : P.info? t with
 | none => rw [hi] at hsz; cases hsz
 | some i =>
  rw [hi] at hsz
  simp only [Option.map_some, sj] at hsz
  have hS : (sizeOf t).run P w = .ok sz w := by simp [sizeOf, typeInfo, hi, hsz]
  have hst := run_storeCells_atB P b off el fz val.cells.toList 0 cur w hb (by simp [hv]; omega) (by simp [hv]; omega) h1
  simp only [Nat.add_zero] at hst
  simp [storeVar, hS, hv, hst]
theorem VR.cells_one {objs : Nat → Option Ob} {p : PV} {v : Value} {cs : List Lf} (h : VR objs E I w p v) (hc : p.cells = some cs) : ∀ u ∈ v.cells.toList, u.oneCell' = true := by
 obtain ⟨h1, h2⟩ := h.cells hc
 intro u hu
 obtain ⟨j, hj, rfl⟩ := List.getElem_of_mem hu
 have hj' : j < v.cells.size := by simpa using hj
 have := (h2 j (by omega)).one
 rw [getD_arr _ _ hj'] at this
 simpa using this
theorem LR.clean {l : Lf} {v : Value} (h : LR st.objs E I w l v) (hc : l.clean true = true) : LRi I w l v := by
 cases h with
 | imm _ _ h => exact h
 | ptr => simp [Lf.clean] at hc
 | eptr => simp [Lf.clean] at hc
 | aptr => simp [Lf.clean] at hc
 | osl => simp [Lf.clean] at hc
 | csl => simp [Lf.clean] at hc
 | mp => simp [Lf.clean] at hc
 | fn => simp [Lf.clean] at hc
theorem ok_skip {o : Oper} {w' : World} {G : Value → World → Prop} {t : TypeId} {ad x : Operand} (ho : o.op = .store t ad x) {b off : Nat}
  (hax : a.eval ad = .pointer (some ⟨b, off, none⟩)) (hr : (storeVar t ⟨b, off, none⟩ (a.eval x)).run P w = .ok () w') (g : G undef w') : OpOK P o a w G := by
 refine OpOK.skip ?_ g
 unfold execOp
 simp only [ho, hax, Instr.storeAt, Instr.sureAddr, Sem.run_bind, Sem.run_pure, Result.andThen_ok, hr]
theorem store_ok (h : Rel w0 O0 E0 I0 nt st E I a w) {o : Oper} (hd : ∀ x, o.dst = some x → x < nt) {t : TypeId} {ad x : Operand} {sz : Nat} {v : PV} {objs' : Nat → Option Ob}
  (ho : o.op = .store t ad x) (hsz : szOf P t = some sz)
  (he : eff P C st o.dst (.store sz ad x) = some (v, objs')) : OpOK P o a w (Left w0 O0 E0 I0 nt st o a objs' v) := by
 simp only [eff] at he
 split at he
 ·cases he
 ·rename_i new hnew
  have hvx := h.ev x
  obtain ⟨hvs, hvl⟩ := hvx.cells hnew
  have hone := hvx.cells_one hnew
  have hva := h.ev ad
  split at he
  ·rename_i k off hx
   rw [hx] at hva
   split at he
   ·rename_i cs hk
    split at he
    ·rename_i hcond
     obtain ⟨hlen, hoff⟩ := hcond
     simp only [sj, pj] at he
     obtain ⟨rfl, rfl⟩ := he
     obtain ⟨Cc, tt, hb, hCs, _, hl⟩ := h.cells_at hk
     cases hva with
     | one _ _ hva =>
      generalize hax : a.eval ad = ax at hva
      cases hva with
      | imm _ _ hi => cases hi
      | ptr _ _ _ _ =>
       have hrun := store_run (P := P) hsz hb (val := a.eval x) (off := off) (by omega) (by omega) hone
       have hmid := mid_get Cc off (a.eval x).cells.toList (by simp; omega)
       generalize hcur' : (Cc.toList.take off ++ (a.eval x).cells.toList ++ Cc.toList.drop (off + (a.eval x).cells.toList.length)).toArray = cur' at hrun hmid
       refine ok_skip ho hax hrun ⟨_, _, h.change k (.cells cs) (.cells (splice cs off new)) hk ((setRow_wst _ _ _).mono fun b e => ⟨Blk.cells hk, e⟩) (E.bl k) (E.hv k) (fun _ => .inl ⟨Blk.cells hk, rfl⟩) o.dst hd .none undef ⟨⟨_, rfl⟩, upd_same _ _ _⟩ (fun m => ?_) (fun _ => .none _)⟩
       obtain ⟨s1, s2⟩ := splice_get cs new off (by omega)
       refine ⟨cur', tt, by show (World.setRow _ _ _).heap[upd E.bl k (E.bl k) k]? = _; rw [upd_same]; exact setRow_heap w _ Cc _ tt _ hb, ?_, fun j hj => ?_⟩
       ·rw [(hmid 0).1, s1, hCs]
       ·rw [s1] at hj
        rw [(hmid j).2, s2]
        simp only [Array.length_toList, hvs]
        split
        ·rename_i hh
         have e : (a.eval x).cells.toList.getD (j - off) undef = (a.eval x).cells.getD (j - off) undef := by simp
         rw [e]; exact m.lr (hvl _ (by omega))
        ·exact m.lr (hl j hj)
    ·cases he
   ·cases he
  ·rename_i k g i off hx
   rw [hx] at hva
   split at he
   ·rename_i el esz g' n get hk
    split at he
    ·rename_i hcond
     obtain ⟨rfl, hin, hlen, hoff, hcl⟩ := hcond
     simp only [sj, pj] at he
     obtain ⟨rfl, rfl⟩ := he
     have hnn := h.arr_nn hk (by omega)
     obtain ⟨xs, cap, cur, tr, fz, e1, hb, hcap, hncap, ⟨hfz, hty⟩, htk, hxl, hs0, hgl, hc, hl⟩ := h.arr_at hk hnn
     cases hva with
     | one _ _ hva =>
      generalize hax : a.eval ad = ax at hva
      cases hva with
      | imm _ _ hi => cases hi
      | aptr _ _ _ _ el2 sz2 g2 n2 get2 b2 o2 hk2 hg2 hv2 =>
       rw [hk] at hk2
       injection hk2 with hk2
       injection hk2 with q1 q2 q3 q4 q5
       subst q1 q2 q3 q4 q5
       obtain ⟨r1, r2⟩ := hv2 rfl hin
       subst r1 r2
       have hlt : i * esz + esz ≤ n * esz := by
        calc i * esz + esz = (i + 1) * esz := by rw [Nat.add_mul, Nat.one_mul]
         _ ≤ n * esz := Nat.mul_le_mul_right _ hin
       have hrun := store_runB (P := P) hsz hb (val := a.eval x) (off := i * esz + off) (by omega) (by omega) (by omega) hone
       have hmid := mid_get cur (i * esz + off) (a.eval x).cells.toList (by simp; omega)
       generalize hcur' : (cur.toList.take (i * esz + off) ++ (a.eval x).cells.toList ++ cur.toList.drop (i * esz + off + (a.eval x).cells.toList.length)).toArray = cur' at hrun hmid
       refine ok_skip ho hax hrun ⟨_, _, h.change k (.arr el esz g n get) (.arr el esz g n fun j => if j = i then splice (get i) off new else get j) hk ((setRow_wst _ _ _).mono fun b e => ⟨Blk.arr hk hnn, e⟩) (E.bl k) (E.hv k) (fun _ => .inl ⟨Blk.arr hk hnn, rfl⟩) o.dst hd .none undef
        ⟨g, n, _, rfl, Nat.le_refl _, fun _ => ⟨rfl, upd_same _ _ _, upd_same _ _ _⟩⟩ (fun m => ?_) (fun _ => .none _)⟩
       refine ⟨cur'.toList.take (n * esz), ?_, .inr ⟨cap, ?_⟩, hs0, fun j hj => ?_⟩
       rotate_left
       ·show upd E.hv k (E.hv k) k = .slice (some ⟨upd E.bl k (E.bl k) k, 0, none⟩) n cap
        rw [upd_same, upd_same]; exact e1
       rotate_left
       ·show rowW (World.setRow _ _ _) el esz (upd E.hv k (E.hv k) k) n _
        rw [upd_same]
        refine ⟨by simp [(hmid 0).1]; omega, .inr ⟨E.bl k, cap, cur', tr, fz, e1, setRow_heap w _ cur cur' tr _ hb, hcap, by rw [(hmid 0).1]; exact hncap, hfz, rfl, fun hel => ?_⟩⟩
        obtain ⟨q1, q2, q3, q4⟩ := hty hel
        exact ⟨q1, q2, q3, by rw [(hmid 0).1, q4]⟩
       ·obtain ⟨s1, s2⟩ := splice_get (get i) new off (by rw [hgl i hin]; omega)
        have hjl : j * esz + esz ≤ n * esz := by
         calc j * esz + esz = (j + 1) * esz := by rw [Nat.add_mul, Nat.one_mul]
          _ ≤ n * esz := Nat.mul_le_mul_right _ hj
        refine ⟨by
         show (if j = i then splice (get i) off new else get j).length = esz
         split
         ·rw [s1]; exact hgl i hin
         ·exact hgl j hj, fun q hq => ?_⟩
        have ex : (cur'.toList.take (n * esz)).getD (j * esz + q) undef = cur'.getD (j * esz + q) undef := by
         rw [List.getD_eq_getElem?_getD, List.getElem?_take, if_pos (by omega), Array.getElem?_toList, Array.getD_eq_getD_getElem?]
        have ex2 : cur.getD (j * esz + q) undef = xs.getD (j * esz + q) undef := by
         rw [← htk, List.getD_eq_getElem?_getD, List.getElem?_take, if_pos (by omega), Array.getElem?_toList, Array.getD_eq_getD_getElem?]
        rw [ex, (hmid _).2]
        simp only [Array.length_toList, hvs]
        by_cases hji : j = i
        ·subst hji
         rw [if_pos rfl, s2]
         by_cases hqq : off ≤ q ∧ q < off + new.length
         ·rw [if_pos hqq, if_pos (by omega)]
          have e : (a.eval x).cells.toList.getD (j * esz + q - (j * esz + off)) undef = (a.eval x).cells.getD (q - off) undef := by
           rw [show j * esz + q - (j * esz + off) = q - off by omega]; simp
          rw [e]
          refine m.lri (LR.clean (st := st) (E := E) (hvl _ (by omega)) ?_)
          have hmem : new.getD (q - off) default ∈ new := by
           rw [List.getD_eq_getElem?_getD, List.getElem?_eq_getElem (by omega)]; simp
          exact List.all_eq_true.1 hcl _ hmem
         ·rw [if_neg hqq, if_neg (by omega), ex2]
          exact m.lri (hl j hj q hq)
        ·rw [if_neg hji]
         have hne : ¬ (i * esz + off ≤ j * esz + q ∧ j * esz + q < i * esz + off + new.length) := by
          rcases Nat.lt_or_gt_of_ne hji with hlt' | hgt
          ·have : j * esz + esz ≤ i * esz := by
            calc j * esz + esz = (j + 1) * esz := by rw [Nat.add_mul, Nat.one_mul]
             _ ≤ i * esz := Nat.mul_le_mul_right _ hlt'
           omega
          ·have : i * esz + esz ≤ j * esz := by
            calc i * esz + esz = (i + 1) * esz := by rw [Nat.add_mul, Nat.one_mul]
             _ ≤ j * esz := Nat.mul_le_mul_right _ hgt
           omega
         rw [if_neg hne, ex2]
         exact m.lri (hl j hj q hq)
    ·cases he
   ·cases he
  ·cases he
theorem addr_ok (h : Rel w0 O0 E0 I0 nt st E I a w) {o : Oper} (hd : ∀ x, o.dst = some x → x < nt) {x : Operand} (d : Nat) {v : PV}
  (hrun : ∀ b o', a.eval x = .pointer (some ⟨b, o', none⟩) → (execOp a.eval o).run P w = .ok (.value (.pointer (some ⟨b, o' + d, none⟩))) w)
  (hv : match st.ev x with
   | .one (.ptr k o) => v = .one (.ptr k (o + d))
   | .one (.eptr cs o) => v = .one (.eptr cs (o + d))
   | .one (.aptr k g i o) => v = .one (.aptr k g i (o + d))
   | _ => False) :
  OpOK P o a w (Left w0 O0 E0 I0 nt st o a st.objs v) := by
 have hev := h.ev x
 generalize hax : a.eval x = ax at hev
 cases hl : st.ev x with
 | none => rw [hl] at hv; exact hv.elim
 | agg => rw [hl] at hv; exact hv.elim
 | tup => rw [hl] at hv; exact hv.elim
 | one l =>
  rw [hl] at hev hv
  cases hev with
  | one _ _ hev =>
   cases hev with
   | imm _ _ hi => cases hi <;> exact hv.elim
   | ptr k off cs hk hkv =>
    simp only at hv; subst hv
    exact ok_step h hd (hrun _ _ hax) (Wst.refl _ _) (.one _ _ (.ptr k (off + d) cs hk hkv))
   | eptr cs off b o' vv hI hc hli =>
    simp only at hv; subst hv
    refine ok_step h hd (hrun _ _ hax) (Wst.refl _ _) (.one _ _ ?_)
    rw [Nat.add_assoc]
    exact .eptr cs (off + d) b o' vv hI hc hli
   | aptr k g i off el sz g' n get b o' hk hg hvv =>
    simp only at hv; subst hv
    refine ok_step h hd (hrun _ _ hax) (Wst.refl _ _) (.one _ _ (.aptr k g i (off + d) el sz g' n get b (o' + d) hk hg (fun e hi => ?_)))
    obtain ⟨r1, r2⟩ := hvv e hi
    exact ⟨r1, by omega⟩
   | osl => exact hv.elim
   | csl => exact hv.elim
   | mp => exact hv.elim
   | fn => exact hv.elim
theorem nilc_ok (h : Rel w0 O0 E0 I0 nt st E I a w) {o : Oper} (hd : ∀ x, o.dst = some x → x < nt) {x : Operand} {v : PV} {objs' : Nat → Option Ob}
  (ho : o.op = .nilCheck x) (he : eff P C st o.dst (.nilc x) = some (v, objs')) : OpOK P o a w (Left w0 O0 E0 I0 nt st o a objs' v) := by
 simp only [eff] at he
 have key : objs' = st.objs ∧ (match st.ev x with
   | .one (.ptr k o) => v = .one (.ptr k (o + 0))
   | .one (.eptr cs o) => v = .one (.eptr cs (o + 0))
   | .one (.aptr k g i o) => v = .one (.aptr k g i (o + 0))
   | _ => False) := by
  split at he <;> first
   |(simp only [sj, pj] at he
     obtain ⟨rfl, rfl⟩ := he
     rename_i hx
     refine ⟨rfl, ?_⟩
     rw [hx]
     rfl)
   | cases he
 obtain ⟨rfl, key⟩ := key
 refine addr_ok h hd 0 (fun b o' hax => ?_) key
 unfold execOp
 simp only [ho, hax]
 rfl
theorem sizeOf_run {t : TypeId} {sz : Nat} (hsz : szOf P t = some sz) (w : World) : (sizeOf t).run P w = .ok sz w := by
 unfold szOf at hsz
 cases hi : P.info? t with
 | none => rw [hi] at hsz; cases hsz
 | some i =>
  rw [hi] at hsz
  simp only [Option.map_some, sj] at hsz
  simp [sizeOf, typeInfo, hi, hsz]
theorem faddr_ok (h : Rel w0 O0 E0 I0 nt st E I a w) {o : Oper} (hd : ∀ x, o.dst = some x → x < nt) {s : TypeId} {x : Operand} {f : Nat} {fs : Array Field} {fd : Field} {n : Nat} {v : PV} {objs' : Nat → Option Ob}
  (ho : o.op = .fieldAddr s x f) (hu : P.underlying s = some (.struct fs)) (hf : fs[f]? = some fd) (hsz : szOf P fd.type = some (n + 1))
  (he : eff P C st o.dst (.faddr fd.offset x) = some (v, objs')) : OpOK P o a w (Left w0 O0 E0 I0 nt st o a objs' v) := by
 simp only [eff] at he
 have key : objs' = st.objs ∧ (match st.ev x with
   | .one (.ptr k o) => v = .one (.ptr k (o + fd.offset))
   | .one (.eptr cs o) => v = .one (.eptr cs (o + fd.offset))
   | .one (.aptr k g i o) => v = .one (.aptr k g i (o + fd.offset))
   | _ => False) := by
  split at he <;> first
   |(simp only [sj, pj] at he
     obtain ⟨rfl, rfl⟩ := he
     rename_i hx
     refine ⟨rfl, ?_⟩
     rw [hx])
   | cases he
 obtain ⟨rfl, key⟩ := key
 refine addr_ok h hd fd.offset (fun b o' hax => ?_) key
 have hS := sizeOf_run hsz w
 unfold execOp
 simp only [ho, hax, Instr.fieldAt, Sem.run_bind, run_underlying hu, Result.andThen_ok, hf, Instr.sureAddr, Sem.run_pure, fieldPlace, hS]
 rw [if_neg (by omega)]
 simp only [Sem.run_pure, Result.andThen_ok, add_eq]
end
end Go.Rx
