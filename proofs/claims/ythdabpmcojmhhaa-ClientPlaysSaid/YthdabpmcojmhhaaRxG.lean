/- No condition. -/
import Derived.Test.YthdabpmcojmhhaaRxF
namespace Go.Rx
open Go Go.RowKit
section
variable {P : Program} {C : zaf} {w0 : World} {O0 : Nat → Option Ob} {E0 : Env} {I0 : Nat → Prop} {nt : Nat} {st : St} {E : Env} {I : Nat → Prop} {a : Act} {w : World}
theorem build_ok (h : Rel w0 O0 E0 I0 nt st E I a w) {o : Oper} (hd : ∀ x, o.dst = some x → x < nt) {t : TypeId} {parts : Array (Nat × Operand)} {place : Nat → Option (Nat × Nat)} {z : Value} {l : List (Nat × Nat × Operand)} {v : PV} {objs' : Nat → Option Ob}
  (ho : o.op = .build t parts) (hl : zea place parts.toList = some l)
  (hb : ∀ cells, Instr.fill place z.cells (parts.map fun (i, x) => (i, a.eval x)).toList = some cells → P.built t (parts.map fun (i, x) => (i, a.eval x)).toList = some cells)
  (he : eff P C st o.dst (.build z l) = some (v, objs')) : OpOK P o a w (Left w0 O0 E0 I0 nt st o a objs' v) := by
 simp only [eff] at he
 split at he
 ·rename_i cs hcs
  simp only [mj, pj] at he
  obtain ⟨r, hr, rfl, rfl⟩ := he
  obtain ⟨z1, z2⟩ := (zdm st.objs E I w z).cells hcs
  obtain ⟨C', c1, c2, c3⟩ := fill_ok (w := w) (E := E) (I := I) (objs := st.objs) (st := st) (a := a) (fun x => h.ev x) place parts.toList l cs z.cells r hl hr z1 z2
  have hrun := run_build (P := P) w t (parts.map fun (i, x) => (i, a.eval x)) C' (hb C' (by rw [Array.toList_map]; exact c1))
  refine zam h hd (val := .agg C') ?_ (Wst.refl _ _) (.agg _ _ c2 c3)
  unfold execOp
  simp only [ho, Sem.run_bind, hrun, Result.andThen_ok]; rfl
 ·cases he
theorem fld_ok (h : Rel w0 O0 E0 I0 nt st E I a w) {o : Oper} (hd : ∀ x, o.dst = some x → x < nt) {s : TypeId} {x : Operand} {f : Nat} {fs : Array Field} {fd : Field} {ag : Bool} {sz : Nat} {v : PV} {objs' : Nat → Option Ob}
  (ho : o.op = .field s x f) (hu : P.underlying s = some (.struct fs)) (hf : fs[f]? = some fd) (hag : aggOf P fd.type = some ag) (hsz : szOf P fd.type = some sz)
  (he : eff P C st o.dst (.fld ag fd.offset sz x) = some (v, objs')) : OpOK P o a w (Left w0 O0 E0 I0 nt st o a objs' v) := by
 simp only [eff] at he
 have hev := h.ev x
 split at he
 ·rename_i cs hx
  rw [hx] at hev
  simp only [mj, pj] at he
  obtain ⟨u, hr, rfl, rfl⟩ := he
  generalize hax : a.eval x = ax at hev
  cases hev with
  | agg _ Cx hC hl =>
   obtain ⟨val, h1, h2⟩ := part_ok hag hsz hC hl hr
   refine zam h hd (val := val) ?_ (Wst.refl _ _) h2
   unfold execOp
   simp only [ho, hax, Instr.field, asAgg, Sem.run_bind, run_underlying hu, Result.andThen_ok, hf, Sem.run_pure, h1]
 ·cases he
theorem idx_ok (h : Rel w0 O0 E0 I0 nt st E I a w) {o : Oper} (hd : ∀ x, o.dst = some x → x < nt) {t e : TypeId} {x i : Operand} {len : Nat} {ag : Bool} {sz : Nat} {v : PV} {objs' : Nat → Option Ob}
  (ho : o.op = .index t x i) (hu : P.underlying t = some (.array len e)) (hag : aggOf P e = some ag) (hsz : szOf P e = some sz)
  (he : eff P C st o.dst (.idx ag sz len x i) = some (v, objs')) : OpOK P o a w (Left w0 O0 E0 I0 nt st o a objs' v) := by
 simp only [eff] at he
 have hev := h.ev x
 have hS := zck hsz w
 split at he
 ·rename_i cs n hx hn
  rw [hx] at hev
  obtain ⟨k, hi⟩ := int_val h hn
  split at he
  ·rename_i hb
   simp only [mj, pj] at he
   obtain ⟨u, hr, rfl, rfl⟩ := he
   generalize hax : a.eval x = ax at hev
   cases hev with
   | agg _ Cx hC hl =>
    obtain ⟨val, h1, h2⟩ := part_ok hag hsz hC hl hr
    refine zam h hd (val := val) ?_ (Wst.refl _ _) h2
    unfold execOp
    simp only [ho, hax, hi, Instr.index, asIntOf, Sem.run_bind, run_underlying hu, Result.andThen_ok, Sem.run_pure, Sem.run_ite]
    rw [if_pos hb]
    simp only [hS, Result.andThen_ok, h1]
  ·cases he
 ·cases he
theorem ext_ok (h : Rel w0 O0 E0 I0 nt st E I a w) {o : Oper} (hd : ∀ x, o.dst = some x → x < nt) {x : Operand} {i : Nat} {v : PV} {objs' : Nat → Option Ob}
  (ho : o.op = .extract x i) (he : eff P C st o.dst (.ext x i) = some (v, objs')) : OpOK P o a w (Left w0 O0 E0 I0 nt st o a objs' v) := by
 simp only [eff] at he
 have hev := h.ev x
 split at he
 ·rename_i vs hx
  rw [hx] at hev
  simp only [mj, pj] at he
  obtain ⟨u, hr, rfl, rfl⟩ := he
  generalize hax : a.eval x = ax at hev
  cases hev with
  | tup _ Cx hC hl =>
   have hlt : i < vs.length := (yah.1 hr).1
   have hll := hl i hlt
   rw [yaa, hr, yak, ybd (by omega)] at hll
   refine zam h hd (val := Cx[i]) ?_ (Wst.refl _ _) hll
   unfold execOp
   simp only [ho, hax, Instr.extract, ybd (show i < Cx.size by omega)]
   rfl
 ·cases he
theorem zgp (h : Rel w0 O0 E0 I0 nt st E I a w) {x : Operand} {n : Nat} {y : Nat} {code : BoundsCode} {d : Nat} (hb : bound? st d (some x) = some n) (hy : n ≤ y) : (Instr.sliceBound (a.eval x) y code).run P w = .ok n w := by
 simp only [bound?] at hb
 split at hb
 ·rename_i m hm
  obtain ⟨k, hk⟩ := int_val h hm
  split at hb
  ·rename_i h0
   simp only [sj] at hb
   subst hb
   rw [hk]
   simp only [Instr.sliceBound, asIntOf, Sem.run_bind, Sem.run_pure, Result.andThen_ok, Sem.run_ite]
   rw [if_pos ⟨h0, by omega⟩]
  ·cases hb
 ·cases hb
theorem zfz (h : Rel w0 O0 E0 I0 nt st E I a w) {o : Oper} {t e : TypeId} {x : Operand} {lo hi : Option Operand} {sz : Nat} (ho : o.op = .slice t x lo hi none) (hu : P.underlying t = some (.slice e)) (hsz : szOf P e = some sz)
  {base : Option Addr} {n cap l hh : Nat} (hax : a.eval x = .slice base n cap) (hl : bound? st 0 lo = some l) (hhi : bound? st n hi = some hh) (h1 : l ≤ hh) (h2 : hh ≤ n) (h3 : n ≤ cap) :
  (execOp a.eval o).run P w = .ok (.value (.slice (if cap = l then base else base.map (·.add (l * sz))) (hh - l) (cap - l))) w := by
 have hS := zck hsz w
 have hB : (Instr.sliceBounds true n cap (lo.map a.eval) (hi.map a.eval) none).run P w = .ok (l, hh, cap) w := by
  cases lo with
  | none =>
   simp only [bound?, sj] at hl
   subst hl
   cases hi with
   | none =>
    simp only [bound?, sj] at hhi
    subst hhi
    simp [Instr.sliceBounds]
   | some y =>
    simp [Instr.sliceBounds, zgp (P := P) h hhi (show hh ≤ cap by omega)]
  | some z =>
   cases hi with
   | none =>
    simp only [bound?, sj] at hhi
    subst hhi
    simp [Instr.sliceBounds, zgp (P := P) h hl h1]
   | some y =>
    simp [Instr.sliceBounds, zgp (P := P) h hhi (show hh ≤ cap by omega), zgp (P := P) h hl h1]
 unfold execOp
 simp only [ho, hax, Instr.sliceAt, Instr.slice, Sem.run_bind, run_underlying hu, Result.andThen_ok, Option.map_none, hB, hS, Sem.run_pure]
theorem slc_ok (h : Rel w0 O0 E0 I0 nt st E I a w) {o : Oper} (hd : ∀ x, o.dst = some x → x < nt) {t e : TypeId} {x : Operand} {lo hi : Option Operand} {sz : Nat} {v : PV} {objs' : Nat → Option Ob}
  (ho : o.op = .slice t x lo hi none) (hu : P.underlying t = some (.slice e)) (hsz : szOf P e = some sz)
  (he : eff P C st o.dst (.slc sz x lo hi) = some (v, objs')) : OpOK P o a w (Left w0 O0 E0 I0 nt st o a objs' v) := by
 simp only [eff] at he
 have hev := h.ev x
 split at he
 ·rename_i sz' n get hx
  rw [hx] at hev
  split at he
  ·rename_i l hh hl hhi
   split at he
   ·rename_i hc
    obtain ⟨rfl, h1, h2⟩ := hc
    simp only [sj, pj] at he
    obtain ⟨rfl, rfl⟩ := he
    generalize hax : a.eval x = ax at hev
    cases hev with
    | one _ _ hev =>
     cases hev with
     | imm _ _ hv =>
      cases hv with
      | view _ _ _ base cap vv hcap hlen hb hel =>
       refine zam h hd (zfz h ho hu hsz hax hl hhi h1 h2 hcap) (Wst.refl _ _) (.one _ _ (.imm _ _ ?_))
       refine .view sz' (hh - l) _ _ _ (fun i j => vv (l + i) j) (by omega) (fun i hi => by rw [if_pos hi]; exact hlen _ (by omega)) ?_ (fun i hi j hj => by rw [if_pos hi]; exact hel _ (by omega) j hj)
       by_cases h0 : hh - l = 0
       ·exact .inl h0
       ·rcases hb with hb | ⟨b, o', rfl, hI, hcell⟩
        ·omega
        ·rw [if_neg (by omega)]
         refine .inr ⟨b, o' + l * sz', by simp [zgq], hI, fun i hi j hj => ?_⟩
         rw [show o' + l * sz' + (i * sz' + j) = o' + ((l + i) * sz' + j) by rw [yas]; omega]
         exact hcell _ (by omega) j hj
   ·cases he
  ·cases he
 ·rename_i k g off n hx
  rw [hx] at hev
  split at he
  ·rename_i l hh hl hhi
   split at he
   ·rename_i el sz' g' tot get hk
    split at he
    ·rename_i hc
     obtain ⟨rfl, rfl, hot, h1, h2⟩ := hc
     simp only [sj, pj] at he
     obtain ⟨rfl, rfl⟩ := he
     generalize hax : a.eval x = ax at hev
     cases hev with
     | one _ _ hev =>
      cases hev with
      | imm _ _ hv => cases hv
      | osl _ _ _ _ el2 sz2 g2 m2 get2 base cap' hk2 hg2 hv2 =>
       rw [hk] at hk2
       injection hk2 with hk2
       injection hk2 with q1 q2 q3 q4 q5
       subst q1 q2 q3 q4 q5
       rcases hv2 rfl hot with ⟨e1, rfl, rfl, rfl⟩ | ⟨o', cap, e1, rfl, e2, e3, e4⟩
       ·refine zam h hd (zfz h ho hu hsz hax hl hhi h1 h2 (by omega)) (Wst.refl _ _) (.one _ _ (.osl k g (off + l) (hh - l) el sz' g 0 get _ _ hk (yai _) (fun _ _ => .inl ⟨e1, rfl, ?_, by omega⟩)))
        split <;> rfl
       refine zam h hd (zfz h ho hu hsz hax hl hhi h1 h2 e3) (Wst.refl _ _) (.one _ _ (.osl k g (off + l) (hh - l) el sz' g tot get _ _ hk (yai _) (fun _ _ => .inr ?_)))
       by_cases h0 : cap' = l
       ·refine ⟨o', cap, e1, by rw [if_pos h0], .inl (by omega), by omega, fun h00 => ?_⟩
        have := e4 (by omega); omega
       ·rw [if_neg h0]
        refine ⟨o' + l * sz', cap, e1, by simp [zgq], ?_, by omega, fun h00 => ?_⟩
        ·rcases e2 with e2 | e2
         ·left; omega
         ·right; rw [e2, yas]
        ·have hl0 : l = 0 := by omega
         have := e4 (by omega)
         refine ⟨by omega, ?_⟩
         rw [hl0, Nat.zero_mul]; omega
    ·cases he
   ·cases he
  ·cases he
 ·rename_i hx
  rw [hx] at hev
  split at he
  ·rename_i l hh hl hhi
   split at he
   ·rename_i hc
    obtain ⟨rfl, rfl⟩ := hc
    simp only [sj, pj] at he
    obtain ⟨rfl, rfl⟩ := he
    generalize hax : a.eval x = ax at hev
    cases hev with
    | one _ _ hev =>
     have := LR.ofVal hev
     subst this
     have hr := zfz h ho hu hsz hax hl hhi (yai _) (yai _) (yai _)
     exact zam h hd hr (Wst.refl _ _) (.one _ _ (.imm _ _ (.val _ rfl)))
   ·cases he
  ·cases he
 ·cases he
theorem lenS_ok (h : Rel w0 O0 E0 I0 nt st E I a w) {o : Oper} (hd : ∀ x, o.dst = some x → x < nt) {c : Call} {t e : TypeId} {x : Operand} {v : PV} {objs' : Nat → Option Ob}
  (ho : o.op = .call c) (hc : c.callee = .builtin .len) (ha : c.args.toList = [x]) (ht : c.argTypes[0]? = some t) (hu : P.underlying t = some (.slice e))
  (he : eff P C st o.dst (.lenS x) = some (v, objs')) : OpOK P o a w (Left w0 O0 E0 I0 nt st o a objs' v) := by
 simp only [eff] at he
 have hev := h.ev x
 have hargs : c.args = #[x] := by rw [← ha]
 have fin : ∀ base n cap, a.eval x = .slice base n cap → (execOp a.eval o).run P w = .ok (.value (.int .i64 n)) w := by
  intro base n cap hax
  unfold execOp
  simp only [ho, resolve, hc, hargs, List.map_toArray, yan, yca, hax, Sem.run_bind, Sem.run_pure, Result.andThen_ok, invoke, builtin, Builtin.len_, ht]
  simp only [List.getElem?_toArray, List.getElem?_cons_zero, Sem.run_bind, run_underlying hu, Result.andThen_ok, Sem.run_pure, goInt]
 generalize hax : a.eval x = ax at hev
 split at he
 ·rename_i sz n get hx
  rw [hx] at hev
  simp only [sj, pj] at he
  obtain ⟨rfl, rfl⟩ := he
  cases hev with
  | one _ _ hev =>
   cases hev with
   | imm _ _ hv =>
    cases hv with
    | view _ _ _ base cap vv hcap hlen hb hel => exact zam h hd (fin _ _ _ hax) (Wst.refl _ _) (.one _ _ (.imm _ _ (.val _ rfl)))
 ·rename_i k g off n hx
  rw [hx] at hev
  simp only [sj, pj] at he
  obtain ⟨rfl, rfl⟩ := he
  cases hev with
  | one _ _ hev =>
   cases hev with
   | imm _ _ hv => cases hv
   | osl => exact zam h hd (fin _ _ _ hax) (Wst.refl _ _) (.one _ _ (.imm _ _ (.val _ rfl)))
 ·rename_i k sz off n hx
  rw [hx] at hev
  simp only [sj, pj] at he
  obtain ⟨rfl, rfl⟩ := he
  cases hev with
  | one _ _ hev =>
   cases hev with
   | imm _ _ hv => cases hv
   | csl => exact zam h hd (fin _ _ _ hax) (Wst.refl _ _) (.one _ _ (.imm _ _ (.val _ rfl)))
 ·rename_i base n cap hx
  rw [hx] at hev
  simp only [sj, pj] at he
  obtain ⟨rfl, rfl⟩ := he
  cases hev with
  | one _ _ hev =>
   have := LR.ofVal hev
   subst this
   exact zam h hd (fin _ _ _ hax) (Wst.refl _ _) (.one _ _ (.imm _ _ (.val _ rfl)))
 ·cases he
theorem onesL_ok (h : Rel w0 O0 E0 I0 nt st E I a w) : ∀ (xs : List Operand) (l : List Lf), onesL st xs = some l →
  l.length = xs.length ∧ ∀ i, i < l.length → LR st.objs E I w (l.getD i default) ((xs.map a.eval).getD i undef)
 | [], l, hl => by
  simp only [onesL, sj] at hl
  subst hl
  exact ⟨rfl, fun i hi => by simp at hi⟩
 | x :: xs, l, hl => by
  simp only [onesL] at hl
  split at hl
  ·rename_i q ls hq hls
   simp only [sj] at hl
   subst hl
   obtain ⟨i1, i2⟩ := onesL_ok h xs ls hls
   refine ⟨by simp [i1], fun i hi => ?_⟩
   cases i with
   | zero =>
    have hev := h.ev x
    rw [hq] at hev
    generalize hax : a.eval x = ax at hev
    cases hev with
    | one _ _ hev => rw [yan, hax]; exact hev
   | succ i => exact i2 i (by simpa using hi)
  ·cases hl
theorem mkfn_ok (h : Rel w0 O0 E0 I0 nt st E I a w) {o : Oper} (hd : ∀ x, o.dst = some x → x < nt) {f : FuncId} {first captured : Array Operand} {v : PV} {objs' : Nat → Option Ob}
  (ho : o.op = .makeFunc (.func f) first captured) (hf : first.toList.length = 0)
  (he : eff P C st o.dst (.mkfn f captured.toList) = some (v, objs')) : OpOK P o a w (Left w0 O0 E0 I0 nt st o a objs' v) := by
 simp only [eff] at he
 split at he
 ·rename_i l hl
  simp only [sj, pj] at he
  obtain ⟨rfl, rfl⟩ := he
  obtain ⟨l1, l2⟩ := onesL_ok h _ l hl
  have hfirst : first = #[] := by
   have : first.toList = [] := yau hf
   exact Array.toList_eq_nil_iff.1 this
  refine zam h hd (val := .func (.func f) #[] (captured.map a.eval)) ?_ (Wst.refl _ _) (.one _ _ (.fn f _ _ ?_ (fun j hj => ?_)))
  ·unfold execOp
   simp only [ho, hfirst]
   simp [Instr.makeFunc]
  ·rw [l1]; simp
  ·have e : (captured.map a.eval).getD j undef = ((captured.toList.map a.eval).getD j undef) := by
    rw [yak, yaa]; simp
   rw [e]; exact l2 j hj
 ·cases he
end
end Go.Rx
