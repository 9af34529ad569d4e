/- No condition. -/
import Derived.Test.YthdabpmcojmhhaaRxH
namespace Go.Rx
open Go Go.RowKit
section
variable {P : Program} {C : zaf} {w0 : World} {O0 : Nat → Option Ob} {E0 : Env} {I0 : Nat → Prop} {nt : Nat} {st : St} {E : Env} {I : Nat → Prop} {a : Act} {w : World}
theorem LR.again {objs objs' : Nat → Option Ob} {E E' : Env} {I I' : Nat → Prop} (hI : ∀ b, I b → I' b) {l : Lf} {v : Value} (h : LR objs E I w l v) (hc : l.clean true = true) : LR objs' E' I' w l v := by
 cases h with
 | imm _ _ h => exact .imm _ _ (h.mono hI (fun _ _ => rfl))
 | ptr => simp [Lf.clean] at hc
 | eptr => simp [Lf.clean] at hc
 | aptr => simp [Lf.clean] at hc
 | osl => simp [Lf.clean] at hc
 | csl => simp [Lf.clean] at hc
 | mp => simp [Lf.clean] at hc
 | fn => simp [Lf.clean] at hc
theorem zbo {cs : List Lf} {f : Lf → Bool} (h : cs.all f = true) {j : Nat} (hj : j < cs.length) : f (cs.getD j default) = true := by
 refine yba.1 h _ ?_
 rw [yaa, yab hj]; simp
theorem zgn {vw : Bool} : ∀ (vs : List PV), PV.clean.cleanL vw vs = true → ∀ j, j < vs.length → (∃ l, vs.getD j .none = .one l ∧ l.clean vw = true) ∨ (∃ cs, vs.getD j .none = .agg cs ∧ cs.all (Lf.clean vw) = true)
 | [], _, j, hj => by simp at hj
 | v :: vs, h, j, hj => by
  cases v with
  | one l =>
   simp only [PV.clean.cleanL, yag] at h
   cases j with
   | zero => exact .inl ⟨l, rfl, h.1⟩
   | succ j => exact zgn vs h.2 j (by simpa using hj)
  | agg cs =>
   simp only [PV.clean.cleanL, yag] at h
   cases j with
   | zero => exact .inr ⟨cs, rfl, h.1⟩
   | succ j => exact zgn vs h.2 j (by simpa using hj)
  | none => simp [PV.clean.cleanL] at h
  | tup => simp [PV.clean.cleanL] at h
theorem VR.again {objs objs' : Nat → Option Ob} {E E' : Env} {I I' : Nat → Prop} (hI : ∀ b, I b → I' b) {p : PV} {v : Value} (h : VR objs E I w p v) (hc : p.clean true = true) : VR objs' E' I' w p v := by
 cases h with
 | none => simp [PV.clean] at hc
 | one l v h => exact .one _ _ (h.again hI hc)
 | agg cs C hC hl => exact .agg _ _ hC (fun j hj => (hl j hj).again hI (zbo hc hj))
 | tup vs C hC hl =>
  refine .tup _ _ hC (fun j hj => ?_)
  have := hl j hj
  rcases zgn vs hc j hj with ⟨l, e, hcl⟩ | ⟨cs, e, hcl⟩
  ·rw [e] at this ⊢
   generalize C.getD j undef = u at this
   cases this with
   | one _ _ h => exact .one _ _ (h.again hI hcl)
  ·rw [e] at this ⊢
   generalize C.getD j undef = u at this
   cases this with
   | agg _ _ hC2 hl2 => exact .agg _ _ hC2 (fun j hj => (hl2 j hj).again hI (zbo hcl hj))
theorem LR.flat {objs objs' : Nat → Option Ob} {E E' : Env} {I I' : Nat → Prop} {w' : World} {l : Lf} {v : Value} (h : LR objs E I w l v) (hc : l.clean false = true) : LR objs' E' I' w' l v := by
 cases h with
 | imm _ _ h =>
  cases h with
  | val _ h => exact .imm _ _ (.val _ h)
  | view => simp [Lf.clean] at hc
 | ptr => simp [Lf.clean] at hc
 | eptr => simp [Lf.clean] at hc
 | aptr => simp [Lf.clean] at hc
 | osl => simp [Lf.clean] at hc
 | csl => simp [Lf.clean] at hc
 | mp => simp [Lf.clean] at hc
 | fn => simp [Lf.clean] at hc
theorem VR.flat {objs objs' : Nat → Option Ob} {E E' : Env} {I I' : Nat → Prop} {w' : World} {p : PV} {v : Value} (h : VR objs E I w p v) (hc : p.clean false = true) : VR objs' E' I' w' p v := by
 cases h with
 | none => simp [PV.clean] at hc
 | one l v h => exact .one _ _ (h.flat hc)
 | agg cs C hC hl => exact .agg _ _ hC (fun j hj => (hl j hj).flat (zbo hc hj))
 | tup vs C hC hl =>
  refine .tup _ _ hC (fun j hj => ?_)
  have := hl j hj
  rcases zgn vs hc j hj with ⟨l, e, hcl⟩ | ⟨cs, e, hcl⟩
  ·rw [e] at this ⊢
   generalize C.getD j undef = u at this
   cases this with
   | one _ _ h => exact .one _ _ (h.flat hcl)
  ·rw [e] at this ⊢
   generalize C.getD j undef = u at this
   cases this with
   | agg _ _ hC2 hl2 => exact .agg _ _ hC2 (fun j hj => (hl2 j hj).flat (zbo hcl hj))
theorem argsOf_ks (objs : Nat → Option Ob) : ∀ (args : List PV) (ks : List Nat) (r : List PV) (ks' : List Nat) (b : Bool), zay objs args ks = some (r, ks', b) → ∃ t, ks' = ks ++ t
 | [], ks, r, ks', b, h => by
  simp only [zay, sj, pj] at h
  exact ⟨[], by simp [h.2.1]⟩
 | v :: vs, ks, r, ks', b, h => by
  have ih := argsOf_ks objs vs
  unfold zay at h
  split at h
  ·rename_i heq; cases heq
  ·rename_i k vs' heq
   cases heq
   split at h
   ·cases h
   ·split at h
    ·rename_i r2 ks2 b2 h2
     simp only [sj, pj] at h
     obtain ⟨t, ht⟩ := ih _ _ _ _ h2
     exact ⟨k :: t, by rw [← h.2.1, ht]; simp⟩
    ·cases h
  ·rename_i k g off n vs' heq
   cases heq
   split at h
   ·split at h
    ·split at h
     ·rename_i r2 ks2 b2 h2
      simp only [sj, pj] at h
      obtain ⟨t, ht⟩ := ih _ _ _ _ h2
      exact ⟨t, by rw [← h.2.1, ht]⟩
     ·cases h
    ·cases h
   ·cases h
  ·rename_i v' vs' _ _ heq
   cases heq
   split at h
   ·split at h
    ·rename_i r2 ks2 b2 h2
     simp only [sj, pj] at h
     obtain ⟨t, ht⟩ := ih _ _ _ _ h2
     exact ⟨t, by rw [← h.2.1, ht]⟩
    ·cases h
   ·cases h
theorem argsOf_nodup (objs : Nat → Option Ob) : ∀ (args : List PV) (ks : List Nat) (r : List PV) (ks' : List Nat) (b : Bool), zay objs args ks = some (r, ks', b) → ks.Nodup → ks'.Nodup
 | [], ks, r, ks', b, h, hn => by
  simp only [zay, sj, pj] at h
  rw [← h.2.1]; exact hn
 | v :: vs, ks, r, ks', b, h, hn => by
  have ih := argsOf_nodup objs vs
  unfold zay at h
  split at h
  ·rename_i heq; cases heq
  ·rename_i k vs' heq
   cases heq
   split at h
   ·cases h
   ·rename_i hk
    split at h
    ·rename_i r2 ks2 b2 h2
     simp only [sj, pj] at h
     rw [← h.2.1]
     refine ih _ _ _ _ h2 ?_
     rw [List.nodup_append]
     exact ⟨hn, by simp, fun x hx y hy e => hk (by simp at hy; subst hy; subst e; simpa using hx)⟩
    ·cases h
  ·rename_i k g off n vs' heq
   cases heq
   split at h
   ·split at h
    ·split at h
     ·rename_i r2 ks2 b2 h2
      simp only [sj, pj] at h
      rw [← h.2.1]; exact ih _ _ _ _ h2 hn
     ·cases h
    ·cases h
   ·cases h
  ·rename_i v' vs' _ _ heq
   cases heq
   split at h
   ·split at h
    ·rename_i r2 ks2 b2 h2
     simp only [sj, pj] at h
     rw [← h.2.1]; exact ih _ _ _ _ h2 hn
    ·cases h
   ·cases h
def arrBlock (objs : Nat → Option Ob) (E : Env) (b : Nat) : Prop := ∃ k el sz g n get, objs k = some (.arr el sz g n get) ∧ E.hv k ≠ .slice none 0 0 ∧ b = E.bl k
theorem zcn {objs : Nat → Option Ob} (hob : ∀ el sz g n get k, objs k = some (.arr el sz g n get) → ObjR objs E I w k (.arr el sz g n get)) {k g off n el sz m : Nat} {get : Nat → List Lf} (hk : objs k = some (.arr el sz g m get)) (hot : off + n ≤ m) {v : Value} (hv : LR objs E I w (.osl k g off n) v)
  {I' : Nat → Prop} (hI : ∀ b, I b → I' b) (hb : E.hv k ≠ .slice none 0 0 → I' (E.bl k)) : LRi I' w (.view sz n fun i => if i < n then get (off + i) else []) v := by
 have hv' := hv
 cases hv with
 | imm _ _ hv => cases hv
 | osl _ _ _ _ el2 sz2 g2 m2 get2 base2 cap' hk2 hg2 hv2 =>
  rcases osl_at hk hot hv' with ⟨e1, rfl, rfl, rfl⟩ | ⟨o', cap2, r1, rfl, r2, r3, r4⟩
  ·have hn : n = 0 := by omega
   subst hn
   exact .view sz 0 _ none 0 (fun _ _ => undef) (yai _) (fun i hi => by omega) (.inl rfl) (fun i hi => by omega)
  ·obtain ⟨xs, h1, h2, h3, hl⟩ := hob _ _ _ _ _ _ hk
   have hnn : E.hv k ≠ .slice none 0 0 := by rw [r1]; intro e; cases e
   have hc : ∀ i, i < m → ∀ j, j < sz → w.cell? ⟨E.bl k, i * sz + j, none⟩ = some (xs.getD (i * sz + j) undef) := by
    intro i hi j hj
    obtain ⟨hxl, hh⟩ := h1
    rcases hh with ⟨e, _⟩ | ⟨g', cap', cur, tr, fz, e, hcc, hcap, hsz, _, htk, _⟩
    ·exact absurd e hnn
    ·rw [r1] at e
     injection e with e1 e2 e3
     injection e1 with e1
     injection e1 with e1 _ _
     subst e1
     have hlt : i * sz + j < m * sz := by
      calc i * sz + j < i * sz + sz := by omega
       _ = (i + 1) * sz := by rw [yas, ybt]
       _ ≤ m * sz := yaj _ hi
     rw [cell_of_row w _ _ cur tr fz hcc]
     have hcur : m * sz ≤ cur.size := hsz
     rw [← htk, yaa, yap, if_pos hlt]
     rw [yaw, ybd (by omega)]
     rfl
   refine .view sz n _ _ cap' (fun i j => xs.getD ((off + i) * sz + j) undef) r3 (fun i hi => by rw [if_pos hi]; exact (hl _ (by omega)).1) ?_ (fun i hi j hj => by rw [if_pos hi]; exact ((hl _ (by omega)).2 j hj).mono hI (fun _ _ => rfl))
   rcases r2 with r2 | r2
   ·exact .inl r2
   ·subst r2
    refine .inr ⟨E.bl k, off * sz, rfl, hb hnn, fun i hi j hj => ?_⟩
    rw [show off * sz + (i * sz + j) = (off + i) * sz + j by rw [yas]; omega]
    exact hc _ (by omega) j hj
theorem argsOf_ok (h : Rel w0 O0 E0 I0 nt st E I a w) {I' : Nat → Prop} (hI : ∀ b, I b → I' b) : ∀ (args : List PV) (vals : List Value) (ks : List Nat) (r : List PV) (ks' : List Nat) (b : Bool),
  zay st.objs args ks = some (r, ks', b) → args.length = vals.length → (∀ j, j < args.length → VR st.objs E I w (args.getD j .none) (vals.getD j undef)) →
  (b = true → ∀ x, arrBlock st.objs E x → I' x) →
  ∀ (os : List (List Lf)), zcp st.objs ks' = some os →
  r.length = vals.length ∧ ∀ j, j < r.length → VR (zag (os.map .cells)) ⟨fun k => (ks'.map E.bl).getD (k - zac) 0, fun _ => undef⟩ I' w (r.getD j .none) (vals.getD j undef)
 | [], vals, ks, r, ks', b, hr, hlen, _, _, os, _ => by
  simp only [zay, sj, pj] at hr
  obtain ⟨rfl, _, _⟩ := hr
  exact ⟨by simpa using hlen, fun j hj => by simp at hj⟩
 | v :: vs, [], ks, r, ks', b, hr, hlen, _, _, os, _ => by simp at hlen
 | v :: vs, u :: us, ks, r, ks', b, hr, hlen, hv, hb, os, hos => by
  have ih := argsOf_ok h hI vs us
  have hlen' : vs.length = us.length := by simpa using hlen
  have hv0 := hv 0 (by simp)
  have hvs : ∀ j, j < vs.length → VR st.objs E I w (vs.getD j .none) (us.getD j undef) := fun j hj => by
   have := hv (j + 1) (by simpa using hj)
   simpa using this
  have fin : ∀ (r2 : List PV) (v2 : PV), r2.length = us.length → (∀ j, j < r2.length → VR (zag (os.map .cells)) ⟨fun k => (ks'.map E.bl).getD (k - zac) 0, fun _ => undef⟩ I' w (r2.getD j .none) (us.getD j undef)) →
    VR (zag (os.map .cells)) ⟨fun k => (ks'.map E.bl).getD (k - zac) 0, fun _ => undef⟩ I' w v2 u →
    (v2 :: r2).length = (u :: us).length ∧ ∀ j, j < (v2 :: r2).length → VR (zag (os.map .cells)) ⟨fun k => (ks'.map E.bl).getD (k - zac) 0, fun _ => undef⟩ I' w ((v2 :: r2).getD j .none) ((u :: us).getD j undef) := by
   intro r2 v2 h1 h2 h3
   refine ⟨by simp [h1], fun j hj => ?_⟩
   cases j with
   | zero => exact h3
   | succ j => have := h2 j (by simpa using hj); simpa using this
  have hv0' : VR st.objs E I w v u := hv0
  clear hv0 hv
  unfold zay at hr
  split at hr
  ·rename_i heq; cases heq
  ·rename_i ks1 _ _ k vs' heq
   cases heq
   split at hr
   ·cases hr
   ·split at hr
    ·rename_i r2 ks2 b2 h2
     simp only [sj, pj] at hr
     obtain ⟨rfl, rfl, rfl⟩ := hr
     obtain ⟨i1, i2⟩ := ih _ _ _ _ h2 hlen' hvs hb os hos
     obtain ⟨t, ht⟩ := argsOf_ks _ _ _ _ _ _ h2
     refine fin r2 _ i1 i2 ?_
     have hkk : ks2[ks1.length]? = some k := by rw [ht]; simp
     have hol : ∀ (ks : List Nat) (os : List (List Lf)), zcp st.objs ks = some os → ∀ (j k : Nat), ks[j]? = some k → ∃ cs, os[j]? = some cs := by
      intro ks
      induction ks with
      | nil => intro os _ j k hj; simp at hj
      | cons k0 ks ihk =>
       intro os hos j k hj
       simp only [zcp] at hos
       split at hos
       ·rename_i cs l _ hl
        split at hos
        ·simp only [sj] at hos
         subst hos
         cases j with
         | zero => exact ⟨cs, rfl⟩
         | succ j => exact ihk l hl j k (by simpa using hj)
        ·cases hos
       ·cases hos
     obtain ⟨cs, hcs⟩ := hol ks2 os hos _ _ hkk
     cases hv0' with
     | one _ _ hv0' =>
      cases hv0' with
      | imm _ _ hv => cases hv
      | ptr _ _ cs' hk' =>
       have ho0 : zag (os.map .cells) (zac + ks1.length) = some (.cells cs) := by
        unfold zag
        rw [if_pos (by omega), show zac + ks1.length - zac = ks1.length by omega, yay, hcs]; rfl
       have hp := LR.ptr (objs := zag (os.map .cells)) (E := ⟨fun k => (ks2.map E.bl).getD (k - zac) 0, fun _ => undef⟩) (I := I') (w := w) (zac + ks1.length) 0 (.cells cs) ho0 rfl
       have e : (ks2.map E.bl).getD (zac + ks1.length - zac) 0 = E.bl k := by
        rw [show zac + ks1.length - zac = ks1.length by omega, yaa, yay, hkk]; rfl
       refine .one _ _ ?_
       have hp' : LR (zag (os.map .cells)) ⟨fun k => (ks2.map E.bl).getD (k - zac) 0, fun _ => undef⟩ I' w (.ptr (zac + ks1.length) 0) (.pointer (some ⟨(ks2.map E.bl).getD (zac + ks1.length - zac) 0, 0, none⟩)) := hp
       rw [e] at hp'
       exact hp'
    ·cases hr
  ·rename_i k g off n vs' heq
   cases heq
   split at hr
   ·rename_i el sz g' m get hk
    split at hr
    ·rename_i hc
     obtain ⟨rfl, hot⟩ := hc
     split at hr
     ·rename_i r2 ks2 b2 h2
      simp only [sj, pj] at hr
      obtain ⟨rfl, rfl, rfl⟩ := hr
      obtain ⟨i1, i2⟩ := ih _ _ _ _ h2 hlen' hvs (fun _ => hb rfl) os hos
      refine fin r2 _ i1 i2 ?_
      cases hv0' with
      | one _ _ hv0' => exact .one _ _ (.imm _ _ (zcn (fun _ _ _ _ _ _ hk => h.objs _ _ hk) hk hot hv0' hI (fun hnn => hb rfl _ ⟨k, el, sz, g, m, get, hk, hnn, rfl⟩)))
     ·cases hr
    ·cases hr
   ·cases hr
  ·rename_i v' vs' _ _ heq
   cases heq
   split at hr
   ·rename_i hcl
    split at hr
    ·rename_i r2 ks2 b2 h2
     simp only [sj, pj] at hr
     obtain ⟨rfl, rfl, rfl⟩ := hr
     obtain ⟨i1, i2⟩ := ih _ _ _ _ h2 hlen' hvs hb os hos
     exact fin r2 _ i1 i2 (hv0'.again hI hcl)
    ·cases hr
   ·cases hr
theorem objsIn_ok (objs : Nat → Option Ob) : ∀ (ks : List Nat) (os : List (List Lf)), zcp objs ks = some os → os.length = ks.length ∧ ∀ (j k : Nat), ks[j]? = some k → ∃ cs, os[j]? = some cs ∧ objs k = some (.cells cs) ∧ cs.all (Lf.clean true) = true
 | [], os, h => by
  simp only [zcp, sj] at h
  subst h
  exact ⟨rfl, fun j k hj => by simp at hj⟩
 | k0 :: ks, os, h => by
  simp only [zcp] at h
  split at h
  ·rename_i cs l hcs hl
   split at h
   ·rename_i hcl
    simp only [sj] at h
    subst h
    obtain ⟨i1, i2⟩ := objsIn_ok objs ks l hl
    refine ⟨by simp [i1], fun j k hj => ?_⟩
    cases j with
    | zero => simp at hj; subst hj; exact ⟨cs, rfl, hcs, hcl⟩
    | succ j => obtain ⟨cs', h1, h2, h3⟩ := i2 j k (by simpa using hj); exact ⟨cs', by simpa using h1, h2, h3⟩
   ·cases h
  ·cases h
theorem objsOut_ok : ∀ (ks : List Nat) (os : List (List Lf)) (objs objs' : Nat → Option Ob), zbc objs ks os = some objs' → ks.Nodup →
  (∀ k, k ∉ ks → objs' k = objs k) ∧ os.length = ks.length ∧ ∀ (j k : Nat), ks[j]? = some k → ∃ cs, os[j]? = some cs ∧ objs' k = some (.cells cs)
 | [], [], objs, objs', h, _ => by
  simp only [zbc, sj] at h
  subst h
  exact ⟨fun _ _ => rfl, rfl, fun j k hj => by simp at hj⟩
 | [], _ :: _, _, _, h, _ => by simp [zbc] at h
 | _ :: _, [], _, _, h, _ => by simp [zbc] at h
 | k0 :: ks, cs :: os, objs, objs', h, hn => by
  simp only [zbc] at h
  simp only [List.nodup_cons] at hn
  obtain ⟨i1, i2, i3⟩ := objsOut_ok ks os _ objs' h hn.2
  refine ⟨fun k hk => ?_, by simp [i2], fun j k hj => ?_⟩
  ·simp only [yav, not_or] at hk
   rw [i1 k hk.2, zah _ _ hk.1]
  ·cases j with
   | zero =>
    simp at hj; subst hj
    exact ⟨cs, rfl, by rw [i1 _ hn.1, zab]⟩
   | succ j => obtain ⟨cs', h1, h2⟩ := i3 j k (by simpa using hj); exact ⟨cs', by simpa using h1, h2⟩
theorem cellsAll_is : ∀ (ob : List Ob) (os : List (List Lf)), zch ob = some os → ob = os.map .cells
 | [], os, h => by simp only [zch, sj] at h; subst h; rfl
 | .cells cs :: ob, os, h => by
  simp only [zch, mj] at h
  obtain ⟨l, h1, rfl⟩ := h
  rw [cellsAll_is ob l h1]; rfl
 | .arr .. :: _, _, h => by simp [zch] at h
 | .map _ :: _, _, h => by simp [zch] at h
theorem zat {os : List Ob} {k : Nat} {o : Ob} (h : zag os k = some o) : zac ≤ k ∧ k - zac < os.length ∧ os[k - zac]? = some o := by
 unfold zag at h
 split at h
 ·exact ⟨‹_›, (yah.1 h).1, h⟩
 ·cases h
theorem zcg (os : List Ob) (j : Nat) : zag os (zac + j) = os[j]? := by
 unfold zag
 rw [if_pos (by omega), show zac + j - zac = j by omega]
theorem callP_ok (hC : Meets P C) (h : Rel w0 O0 E0 I0 nt st E I a w) {o : Oper} (hd : ∀ x, o.dst = some x → x < nt) {f : FuncId} {args : List PV} {vals : List Value} {v : PV} {objs' : Nat → Option Ob}
  (hlen : args.length = vals.length) (hv : ∀ j, j < args.length → VR st.objs E I w (args.getD j .none) (vals.getD j undef))
  (hrun : (execOp a.eval o).run P w = (callFunc f vals.toArray).run P w)
  {wr : Bool} (he : zct C wr st.objs f args = some (v, objs')) : OpOK P o a w (Left w0 O0 E0 I0 nt st o a objs' v) := by
 unfold zct at he
 split at he
 ·cases he
 ·rename_i args' ks rd hargs
  split at he
  ·cases he
  ·rename_i os hos
   have hos : zcp st.objs ks = some os := by
    split at hos
    ·exact hos
    ·cases hos
   split at he
   ·cases he
   ·rename_i res ob' hCr
    split at he
    ·cases he
    ·rename_i os' hob'
     have hob' := cellsAll_is _ _ hob'
     subst hob'
     split at he
     ·rename_i hcond
      simp only [yag, beq_iff_eq] at hcond
      obtain ⟨⟨⟨hres, hosc⟩, hoslen⟩, hzip⟩ := hcond
      split at he
      ·cases he
      ·rename_i objs2 hout
       simp only [sj, pj] at he
       obtain ⟨rfl, rfl⟩ := he
       have hnd : ks.Nodup := argsOf_nodup _ _ _ _ _ _ hargs (by simp)
       obtain ⟨oi1, oi2⟩ := objsIn_ok _ _ _ hos
       obtain ⟨oo1, oo2, oo3⟩ := objsOut_ok _ _ _ _ hout hnd
       obtain ⟨⟨fn, hfn, hbody, hname⟩, hcalls⟩ := hC f args' _ res _ hCr
       let Ic : Nat → Prop := fun b => I b ∨ (rd = true ∧ arrBlock st.objs E b)
       have hIc : ∀ b, I b → Ic b := fun b hb => .inl hb
       have hcell : ∀ k ∈ ks, ∃ cs, st.objs k = some (.cells cs) := fun k hk => by
        obtain ⟨j, hj, rfl⟩ := ybj hk
        obtain ⟨cs, _, h2, _⟩ := oi2 j _ (yab hj)
        exact ⟨cs, h2⟩
       have hsome : ∀ k ∈ ks, Blk st.objs E k := fun k hk => by obtain ⟨cs, h⟩ := hcell k hk; exact Blk.cells h
       have hnotarr : ∀ k ∈ ks, ¬ arrBlock st.objs E (E.bl k) := by
        rintro k hk ⟨k2, el, sz, g, n, get, h2, hnn, e⟩
        obtain ⟨cs, h1⟩ := hcell k hk
        by_cases hkk : k = k2
        ·subst hkk; rw [h1] at h2; cases h2
        ·exact h.inj k k2 (Blk.cells h1) (Blk.arr h2 hnn) hkk e
       obtain ⟨ao1, ao2⟩ := argsOf_ok h hIc args vals [] args' ks rd hargs hlen hv (fun hrd x hx => .inr ⟨hrd, hx⟩) os hos
       have hkey : ∀ k o, zag (os.map .cells) k = some o → ∃ cs, o = .cells cs ∧ zac ≤ k ∧ k - zac < ks.length ∧ os[k - zac]? = some cs := by
        intro k o hk
        obtain ⟨h1, h2, h3⟩ := zat hk
        rw [yay, mj] at h3
        obtain ⟨cs, h4, rfl⟩ := h3
        exact ⟨cs, rfl, h1, by simpa [oi1] using h2, h4⟩
       have hbl : ∀ j (hj : j < ks.length), (ks.map E.bl).getD j 0 = E.bl ks[j] := fun j hj => by rw [yaa, yay, yab hj]; rfl
       have hheap : Heap (zag (os.map .cells)) ⟨fun k => (ks.map E.bl).getD (k - zac) 0, fun _ => undef⟩ Ic w := by
        refine ⟨fun k o hk => ?_, fun k k' hk hk' hne => ?_, fun k hk => ?_, fun k hk => ?_, fun b hb => ?_⟩
        ·obtain ⟨cs, rfl, h1, h2, h3⟩ := hkey k o hk
         obtain ⟨cs', q1, q2, q3⟩ := oi2 _ _ (yab h2)
         rw [h3] at q1; injection q1 with q1; subst q1
         obtain ⟨Cc, t, r1, r2, r3⟩ := h.objs _ _ q2
         exact ⟨Cc, t, by show w.heap[(ks.map E.bl).getD (k - zac) 0]? = _; rw [hbl _ h2]; exact r1, r2, fun j hj => .imm _ _ ((LR.clean (r3 j hj) (zbo q3 hj)).mono hIc (fun _ _ => rfl))⟩
        ·obtain ⟨o, h1, _⟩ := hk
         obtain ⟨o', h1', _⟩ := hk'
         obtain ⟨_, _, a1, a2, _⟩ := hkey k o h1
         obtain ⟨_, _, b1, b2, _⟩ := hkey k' o' h1'
         show (ks.map E.bl).getD (k - zac) 0 ≠ (ks.map E.bl).getD (k' - zac) 0
         rw [hbl _ a2, hbl _ b2]
         refine h.inj _ _ (hsome _ (ybq a2)) (hsome _ (ybq b2)) (fun e => ?_)
         have := (List.getElem_inj hnd).1 e
         omega
        ·obtain ⟨o, h1, _⟩ := hk
         obtain ⟨_, _, a1, a2, _⟩ := hkey k o h1
         show ¬ Ic ((ks.map E.bl).getD (k - zac) 0)
         rw [hbl _ a2]
         rintro (hI | ⟨_, hI⟩)
         ·exact h.imm _ (hsome _ (ybq a2)) hI
         ·exact hnotarr _ (ybq a2) hI
        ·obtain ⟨o, h1, _⟩ := hk
         obtain ⟨_, _, a1, a2, _⟩ := hkey k o h1
         show (ks.map E.bl).getD (k - zac) 0 < _
         rw [hbl _ a2]
         exact h.lt _ (hsome _ (ybq a2))
        ·rcases hb with hb | ⟨_, k, el, sz, g, n, get, h2, hnn, rfl⟩
         ·exact h.Ilt b hb
         ·exact h.lt k (Blk.arr h2 hnn)
       have hin0 : ∀ b, In0 (zag (os.map .cells)) ⟨fun k => (ks.map E.bl).getD (k - zac) 0, fun _ => undef⟩ b → ∃ k ∈ ks, b = E.bl k := by
        rintro b ⟨k, ⟨o, h1, _⟩, rfl⟩
        obtain ⟨_, _, a1, a2, _⟩ := hkey k o h1
        exact ⟨_, ybq a2, hbl _ a2⟩
       have hcall := hcalls Ic w ⟨fun k => (ks.map E.bl).getD (k - zac) 0, fun _ => undef⟩ vals.toArray hheap
        (fun t => by
         by_cases ht : t < args'.length
         ·have := ao2 t ht
          simpa using this
         ·have e : args'.getD t .none = .none := by rw [yaa, List.getElem?_eq_none (by omega)]; rfl
          rw [e]; exact .none _)
        (by simp [ao1])
       have hcf : (callFunc f vals.toArray).run P w = .ok (.enter f vals.toArray) w := by
        unfold callFunc
        simp only [Sem.run_bind, run_program, Result.andThen_ok, hfn, hname, hbody, yad, if_false, Sem.run_pure]
       intro K Q hK
       unfold Oper.wp
       rw [hrun, hcf]
       show Calls P f vals.toArray w _
       refine hcall.mono ?_
       rintro e w' ⟨u, I', E1, rfl, hh', hx, hI1, hI2, hvr, hown1, hw⟩
       refine hK u w' ?_
       -- the immutable blocks behind the call
       let I2 : Nat → Prop := fun b => I b ∨ (rd = false ∧ I' b)
       have hI2' : ∀ b, I2 b → I b ∨ w.heap.size ≤ b := by
        intro b hb
        rcases hb with hb | ⟨hrd, hb⟩
        ·exact .inl hb
        ·rcases hI2 b hb with hb | hb
         ·rcases hb with hb | ⟨hrd', _⟩
          ·exact .inl hb
          ·rw [hrd] at hrd'; cases hrd'
         ·exact .inr hb
       have hnbl : ∀ b, I b → ¬ In0 (zag (os.map .cells)) ⟨fun k => (ks.map E.bl).getD (k - zac) 0, fun _ => undef⟩ b := fun b hb hm => by
        obtain ⟨k, hk, rfl⟩ := hin0 b hm
        exact h.imm k (hsome k hk) hb
       have hkk2 : ∀ j (hj : j < ks.length), ∃ cs cs', os[j]? = some cs ∧ os'[j]? = some cs' ∧ objs2 ks[j] = some (.cells cs') ∧ E1.bl (zac + j) = E.bl ks[j] ∧ ObjR (zag (os'.map .cells)) E1 I' w' (zac + j) (.cells cs') := by
        intro j hj
        obtain ⟨cs, q1, q2, q3⟩ := oi2 j _ (yab hj)
        obtain ⟨cs', p1, p2⟩ := oo3 j _ (yab hj)
        have e0 : zag (os.map .cells) (zac + j) = some (.cells cs) := by rw [zcg, yay, q1]; rfl
        have e1 : zag (os'.map .cells) (zac + j) = some (.cells cs') := by rw [zcg, yay, p1]; rfl
        obtain ⟨o2, x1, x2⟩ := hx _ _ e0
        have x3 := x2.2
        refine ⟨cs, cs', q1, p1, p2, ?_, hh'.objs _ _ e1⟩
        rw [x3]
        show (ks.map E.bl).getD (zac + j - zac) 0 = _
        rw [show zac + j - zac = j by omega]; exact hbl j hj
       have hext : Ext st.objs E objs2 E := by
        intro k ob hk
        by_cases hkk : k ∈ ks
        ·obtain ⟨cs, hcs⟩ := hcell k hkk
         rw [hk] at hcs; injection hcs with hcs; subst hcs
         obtain ⟨j, hj, rfl⟩ := ybj hkk
         obtain ⟨cs', _, h2⟩ := oo3 j _ (yab hj)
         exact ⟨_, h2, ⟨cs', rfl⟩, rfl⟩
        ·have e := oo1 k hkk
         rw [hk] at e
         exact ⟨ob, e, ExtO.refl _ _ _⟩
       have m : Move st.objs E I w objs2 E I2 w' := ⟨hext, fun b hb => .inl hb, fun b hb => hw.block b (h.Ilt b hb) (hnbl b hb)⟩
       have hsz := hw.size
       have hfr := h.fr.size
       have hres' : VR objs2 E I2 w' res u := by
        cases hrd : rd with
        | true => exact hvr.flat (by rw [hrd] at hres; exact hres)
        | false => exact hvr.again (fun b hb => .inr ⟨hrd, hb⟩) (by rw [hrd] at hres; exact hres)
       have hdom : ∀ k, Blk objs2 E k → Blk st.objs E k := fun k hk => by
        by_cases hkk : k ∈ ks
        ·exact hsome k hkk
        ·exact hk.same (oo1 k hkk).symm rfl
       refine ⟨E, I2, h.go ⟨fun k ob hk => ?_, fun k k' hk hk' => h.inj k k' (hdom k hk) (hdom k' hk'), fun k hk hI => ?_, fun k hk => ybh (h.lt k (hdom k hk)) hsz, fun b hb => ?_⟩ m (fun b hb => ?_) ?_
        (fun k hk => h.own k (hdom k hk)) (fun k hkp hk => h.loc k hkp (hdom k hk)) (fun k _ o' ho' => ?_) o.dst hd res u hres'⟩
       ·by_cases hkk : k ∈ ks
        ·obtain ⟨j, hj, rfl⟩ := ybj hkk
         obtain ⟨cs, cs', q1, q2, q3, q4, Cc, t, r1, r2, r3⟩ := hkk2 j hj
         rw [hk] at q3; injection q3 with q3; subst q3
         rw [q4] at r1
         refine ⟨Cc, t, r1, r2, fun i hi => ?_⟩
         have hmem : cs' ∈ os' := ybl q2
         have hcl : cs'.all (Lf.clean (!rd)) = true := yba.1 hosc _ hmem
         have hlr := r3 i hi
         cases hrd : rd with
         | true => exact hlr.flat (zbo (by rw [hrd] at hcl; exact hcl) hi)
         | false => exact hlr.again (fun b hb => .inr ⟨hrd, hb⟩) (zbo (by rw [hrd] at hcl; exact hcl) hi)
        ·have hk' := hk
         rw [oo1 k hkk] at hk'
         refine m.obj rfl rfl (fun hnn => ?_) (h.objs k ob hk')
         have hb : Blk st.objs E k := ⟨ob, hk', hnn⟩
         refine hw.block _ (h.lt k hb) (fun hm => ?_)
         obtain ⟨k2, hk2, e⟩ := hin0 _ hm
         exact h.inj k k2 hb (hsome k2 hk2) (fun e => hkk (e ▸ hk2)) e
       ·rcases hI2' _ hI with hI | hI
        ·exact h.imm k (hdom k hk) hI
        ·have := h.lt k (hdom k hk); omega
       ·rcases hb with hb | ⟨_, hb⟩
        ·exact ybh (h.Ilt b hb) hsz
        ·exact hh'.Ilt b hb
       ·rcases hI2' b hb with hb | hb
        ·exact .inl hb
        ·exact .inr (by omega)
       ·refine h.fr.trans hw (fun _ _ h => h) (fun x hx hn hm => ?_)
        obtain ⟨k, hk, rfl⟩ := hin0 x hm
        rcases h.own k (hsome k hk) with h1 | h1
        ·exact hn ⟨k, h1.1, h1.2⟩
        ·omega
       ·by_cases hkk : k ∈ ks
        ·obtain ⟨cs, hcs⟩ := hcell k hkk; exact ⟨_, hcs⟩
        ·rw [oo1 k hkk] at ho'; exact ⟨_, ho'⟩
     ·cases he
theorem nilL_ok {objs : Nat → Option Ob} {l : Lf} {v : Value} (nl : List (Nat × Nat)) (j : Nat) (h : LR objs E I w l v) : LR objs E I w (nilL nl j l) v := by
 unfold nilL
 split
 ·split
  ·rename_i sz _
   cases h with
   | imm _ _ h =>
    cases h with
    | val _ _ => exact .imm _ _ (.view sz 0 _ none 0 (fun _ _ => undef) (yai _) (fun i hi => by omega) (.inl rfl) (fun i hi => by omega))
  ·exact h
 ·exact h
theorem nilC_ok {objs : Nat → Option Ob} (nl : List (Nat × Nat)) : ∀ (cs : List Lf) (j : Nat), (nilC nl j cs).length = cs.length ∧ ∀ q, q < cs.length → (nilC nl j cs).getD q default = nilL nl (j + q) (cs.getD q default)
 | [], j => ⟨rfl, fun q hq => by simp at hq⟩
 | c :: cs, j => by
  obtain ⟨i1, i2⟩ := nilC_ok (objs := objs) nl cs (j + 1)
  refine ⟨by simp [nilC, i1], fun q hq => ?_⟩
  cases q with
  | zero => rfl
  | succ q =>
   have := i2 q (by simpa using hq)
   rw [show j + (q + 1) = j + 1 + q by omega]
   simpa [nilC] using this
theorem zfk {objs : Nat → Option Ob} {p : PV} {v : Value} (nl : List (Nat × Nat)) (h : VR objs E I w p v) : VR objs E I w (nilP nl p) v := by
 cases h with
 | none => exact .none _
 | one l v h =>
  unfold nilP
  cases nl with
  | nil => exact .one _ _ h
  | cons => exact .one _ _ (nilL_ok _ _ h)
 | agg cs C hC h =>
  unfold nilP
  cases nl with
  | nil => exact .agg _ _ hC h
  | cons x nl =>
   obtain ⟨i1, i2⟩ := nilC_ok (objs := objs) (x :: nl) cs 0
   exact .agg _ _ (by rw [i1]; exact hC) (fun j hj => by rw [i2 j (by omega)]; exact nilL_ok _ _ (h j (by omega)))
 | tup vs C hC h => exact .tup _ _ hC h
theorem nilA_ok {objs : Nat → Option Ob} : ∀ (nls : List (List (Nat × Nat))) (ps : List PV) (vs : List Value), ps.length = vs.length → (∀ j, j < ps.length → VR objs E I w (ps.getD j .none) (vs.getD j undef)) →
  (nilA nls ps).length = vs.length ∧ ∀ j, j < (nilA nls ps).length → VR objs E I w ((nilA nls ps).getD j .none) (vs.getD j undef)
 | [], ps, vs, hl, h => by simpa [nilA] using ⟨hl, h⟩
 | _ :: _, [], vs, hl, h => by simpa [nilA] using hl
 | nl :: nls, p :: ps, [], hl, h => by simp at hl
 | nl :: nls, p :: ps, v :: vs, hl, h => by
  obtain ⟨i1, i2⟩ := nilA_ok nls ps vs (by simpa using hl) (fun j hj => by have := h (j + 1) (by simpa using hj); simpa using this)
  refine ⟨by simp [nilA, i1], fun j hj => ?_⟩
  cases j with
  | zero => exact zfk nl (h 0 (by simp))
  | succ j => have := i2 j (by simpa [nilA] using hj); simpa [nilA] using this
theorem evs_ok (h : Rel w0 O0 E0 I0 nt st E I a w) (xs : List Operand) : (evs st xs).length = (xs.map a.eval).length ∧ ∀ j, j < (evs st xs).length → VR st.objs E I w ((evs st xs).getD j .none) ((xs.map a.eval).getD j undef) := by
 refine ⟨by simp [evs], fun j hj => ?_⟩
 have hj' : j < xs.length := by simpa [evs] using hj
 have e1 : (evs st xs).getD j .none = st.ev xs[j] := by rw [yaa]; simp [evs, hj']
 have e2 : (xs.map a.eval).getD j undef = a.eval xs[j] := by rw [yaa]; simp [hj']
 rw [e1, e2]; exact h.ev _
theorem call_ok (hC : Meets P C) (h : Rel w0 O0 E0 I0 nt st E I a w) {o : Oper} (hd : ∀ x, o.dst = some x → x < nt) {c : Call} {f : FuncId} {wr : Bool} {nl : List (List (Nat × Nat))} {v : PV} {objs' : Nat → Option Ob}
  (ho : o.op = .call c) (hc : c.callee = .value (.func f)) (he : eff P C st o.dst (.call wr nl f c.args.toList) = some (v, objs')) : OpOK P o a w (Left w0 O0 E0 I0 nt st o a objs' v) := by
 obtain ⟨h1, h2⟩ := evs_ok h c.args.toList
 obtain ⟨h1, h2⟩ := nilA_ok nl _ _ h1 h2
 refine callP_ok hC h hd h1 h2 ?_ he
 unfold execOp
 simp only [ho, resolve, hc, Act.eval, Deferred.ofValue, Sem.run_bind, Sem.run_pure, Result.andThen_ok, invoke]
 congr 2
 apply Array.toList_inj.1
 simp
theorem callv_ok (hC : Meets P C) (h : Rel w0 O0 E0 I0 nt st E I a w) {o : Oper} (hd : ∀ x, o.dst = some x → x < nt) {c : Call} {x : Operand} {wr : Bool} {nl : List (List (Nat × Nat))} {v : PV} {objs' : Nat → Option Ob}
  (ho : o.op = .call c) (hc : c.callee = .value x) (he : eff P C st o.dst (.callv wr nl x c.args.toList) = some (v, objs')) : OpOK P o a w (Left w0 O0 E0 I0 nt st o a objs' v) := by
 obtain ⟨h1, h2⟩ := evs_ok h c.args.toList
 obtain ⟨h1, h2⟩ := nilA_ok nl _ _ h1 h2
 simp only [eff] at he
 have hev := h.ev x
 generalize hax : a.eval x = ax at hev
 split at he
 ·rename_i f caps hx
  rw [hx] at hev
  cases hev with
  | one _ _ hev =>
   cases hev with
   | imm _ _ hv => cases hv
   | fn _ _ Cc hCs hl =>
    refine callP_ok hC h hd (vals := c.args.toList.map a.eval ++ Cc.toList) (by simp [h1, hCs]) (fun j hj => ?_) ?_ he
    ·by_cases hjl : j < (nilA nl (evs st c.args.toList)).length
     ·have := h2 j hjl
      rw [yaa, yar hjl, yaa, yar (by omega)]
      rw [yaa, yaa] at this
      exact this
     ·have hj2 : j - (nilA nl (evs st c.args.toList)).length < caps.length := by simp at hj; omega
      have := hl _ hj2
      rw [yaa, yax (by omega), yaa, yax (by omega)]
      rw [← h1]
      generalize j - (nilA nl (evs st c.args.toList)).length = q at hj2 this
      have e1 : ((caps.map PV.one)[q]?).getD .none = .one (caps.getD q default) := by
       rw [yay, yab hj2, yaa, yab hj2]; rfl
      have e2 : (Cc.toList[q]?).getD undef = Cc.getD q undef := by rw [yaw, yak]
      rw [e1, e2]
      exact .one _ _ this
    ·unfold execOp
     simp only [ho, resolve, hc, hax, Deferred.ofValue, Sem.run_bind, Sem.run_pure, Result.andThen_ok, invoke]
     congr 2
     apply Array.toList_inj.1
     simp
 ·rename_i f first captured hx
  rw [hx] at hev
  split at he
  ·rename_i hcond
   obtain ⟨hf0, hc0⟩ := hcond
   obtain rfl := Array.toList_eq_nil_iff.1 (yau hf0)
   obtain rfl := Array.toList_eq_nil_iff.1 (yau hc0)
   cases hev with
   | one _ _ hev =>
    have := LR.ofVal hev
    subst this
    refine callP_ok hC h hd h1 h2 ?_ he
    unfold execOp
    simp only [ho, resolve, hc, hax, Deferred.ofValue, Sem.run_bind, Sem.run_pure, Result.andThen_ok, invoke]
    congr 2
    try (apply Array.toList_inj.1; simp)
  ·cases he
 ·cases he
end
end Go.Rx
