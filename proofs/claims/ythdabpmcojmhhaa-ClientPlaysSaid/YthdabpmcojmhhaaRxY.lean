/- No condition. -/
import Derived.Test.YthdabpmcojmhhaaRxX
namespace Go.Rx
open Go Go.RowKit
theorem cutO_is {fp : List Nat} {objs : Nat → Option Ob} {k : Nat} {o : Ob} (h : cutO fp objs k = some o) : objs k = some o ∧ fp.contains k = true := by
 unfold cutO at h
 split at h
 ·exact ⟨h, ‹_›⟩
 ·cases h
section
variable {objs oc : Nat → Option Ob} {E : Env} {I I' : Nat → Prop} {w : World}
theorem readL_ok (hob : ∀ k o, objs k = some o → ObjR objs E I w k o) (hoc : ∀ k o, oc k = some o → objs k = some o) (hI : ∀ b, I b → I' b) {l l' : Lf} {rks : List Nat} (hr : readL oc l = some (l', rks))
  (hF : ∀ k ∈ rks, Blk objs E k → I' (E.bl k)) {v : Value} (h : LR objs E I w l v) : LR objs E I' w l' v := by
 have keep : readL oc l = some (l, []) → LR objs E I' w l' v := fun e => by
  rw [e] at hr; injection hr with hr; injection hr with hr _; subst hr; exact h.wider hI
 cases l with
 | osl k g off n =>
  simp only [readL] at hr
  split at hr
  ·rename_i el sz g' m get hk
   split at hr
   ·rename_i hc
    obtain ⟨rfl, hot⟩ := hc
    simp only [sj, pj] at hr
    obtain ⟨rfl, rfl⟩ := hr
    have hk' := hoc _ _ hk
    exact .imm _ _ (zcn (fun _ _ _ _ _ _ hk => hob _ _ hk) hk' hot h hI (fun hnn => hF k (by simp) (Blk.arr hk' hnn)))
   ·cases hr
  ·cases hr
 | csl k sz off n =>
  simp only [readL] at hr
  split at hr
  ·rename_i cs hk
   have hk' := hoc _ _ hk
   split at hr
   ·rename_i hcl
    split at hr
    ·rename_i hle
     simp only [sj, pj] at hr
     obtain ⟨rfl, rfl⟩ := hr
     have hIb := hF k (by simp) (Blk.cells hk')
     cases h with
     | imm _ _ h => cases h
     | csl _ _ _ _ cap cs2 hk2 _ hcap =>
      obtain ⟨C, t, q1, q2, q3⟩ := hob _ _ hk'
      have hb : ∀ i, i < n → off + i * sz + sz ≤ cs.length := fun i hi => by
       have : i * sz + sz ≤ n * sz := by
        calc i * sz + sz = (i + 1) * sz := by rw [yas, ybt]
         _ ≤ n * sz := yaj _ hi
       omega
      refine .imm _ _ (.view sz n _ _ cap (fun i j => C.getD (off + i * sz + j) undef) hcap (fun i hi => ?_) (.inr ⟨E.bl k, off, rfl, hIb, fun i hi j hj => ?_⟩) (fun i hi j hj => ?_))
      ·have := hb i hi
       rw [if_pos hi]; simp; omega
      ·have := hb i hi
       rw [cell_of_row w (E.bl k) _ C t (0, 0) q1, yak, show off + (i * sz + j) = off + i * sz + j by omega, ybd (by omega)]
       rfl
      ·have := hb i hi
       have e : ((cs.drop (off + i * sz)).take sz).getD j default = cs.getD (off + i * sz + j) default := by
        simp only [yaa, yap, ybe]
        rw [if_pos hj]
       simp only [if_pos hi]
       rw [e]
       have hq := q3 (off + i * sz + j) (by omega)
       exact (LR.clean (st := ⟨fun _ => .none, objs⟩) hq (zbo hcl (by omega))).mono hI (fun _ _ => rfl)
    ·cases hr
   ·simp only [sj, pj] at hr
    obtain ⟨rfl, rfl⟩ := hr
    exact h.wider hI
  ·cases hr
 | _ => exact keep rfl
theorem readLs_ok (hob : ∀ k o, objs k = some o → ObjR objs E I w k o) (hoc : ∀ k o, oc k = some o → objs k = some o) (hI : ∀ b, I b → I' b) : ∀ (cs cs' : List Lf) (rks : List Nat), readLs oc cs = some (cs', rks) →
  (∀ k ∈ rks, Blk objs E k → I' (E.bl k)) → ∀ (C : Nat → Value), (∀ j, j < cs.length → LR objs E I w (cs.getD j default) (C j)) →
  cs'.length = cs.length ∧ ∀ j, j < cs'.length → LR objs E I' w (cs'.getD j default) (C j)
 | [], cs', rks, hr, _, C, _ => by
  simp only [readLs, sj, pj] at hr
  obtain ⟨rfl, _⟩ := hr
  exact ⟨rfl, fun j hj => by simp at hj⟩
 | l :: ls, cs', rks, hr, hF, C, hv => by
  simp only [readLs] at hr
  split at hr
  ·rename_i l' r1 q r2 h1 h2
   simp only [sj, pj] at hr
   obtain ⟨rfl, rfl⟩ := hr
   obtain ⟨i1, i2⟩ := readLs_ok hob hoc hI ls q r2 h2 (fun k hk => hF k (by simp [hk])) (fun j => C (j + 1)) (fun j hj => by have := hv (j + 1) (by simpa using hj); simpa using this)
   have h0 : LR objs E I w l (C 0) := hv 0 (by simp)
   refine ⟨by simp [i1], fun j hj => ?_⟩
   cases j with
   | zero =>
    show LR objs E I' w l' (C 0)
    cases l with
    | osl k g off n =>
     have h1' : readL oc (.osl k g off n) = some (l', r1) := h1
     exact readL_ok hob hoc hI h1' (fun k hk => hF k (by simp [hk])) h0
    | _ => simp only [readO, sj, pj] at h1; obtain ⟨rfl, _⟩ := h1; exact h0.wider hI
   | succ j => have := i2 j (by simpa using hj); simpa using this
  ·cases hr
theorem readA_ok (hob : ∀ k o, objs k = some o → ObjR objs E I w k o) (hoc : ∀ k o, oc k = some o → objs k = some o) (hI : ∀ b, I b → I' b) : ∀ (ps ps' : List PV) (rks : List Nat) (vals : List Value), zcf oc ps = some (ps', rks) →
  (∀ k ∈ rks, Blk objs E k → I' (E.bl k)) → ps.length = vals.length → (∀ j, j < ps.length → VR objs E I w (ps.getD j .none) (vals.getD j undef)) →
  ps'.length = vals.length ∧ ∀ j, j < ps'.length → VR objs E I' w (ps'.getD j .none) (vals.getD j undef)
 | [], ps', rks, vals, hr, _, hlen, _ => by
  simp only [zcf, sj, pj] at hr
  obtain ⟨rfl, _⟩ := hr
  exact ⟨hlen, fun j hj => by simp at hj⟩
 | p :: ps, ps', rks, [], hr, _, hlen, _ => by simp at hlen
 | p :: ps, ps', rks, v :: vs, hr, hF, hlen, hv => by
  have ih := readA_ok hob hoc hI ps
  have hv0 : VR objs E I w p v := hv 0 (by simp)
  have hvs : ∀ j, j < ps.length → VR objs E I w (ps.getD j .none) (vs.getD j undef) := fun j hj => by have := hv (j + 1) (by simpa using hj); simpa using this
  have fin : ∀ (p' : PV) (q : List PV) (r : List Nat), zcf oc ps = some (q, r) → (∀ k ∈ r, Blk objs E k → I' (E.bl k)) → VR objs E I' w p' v →
    (p' :: q).length = (v :: vs).length ∧ ∀ j, j < (p' :: q).length → VR objs E I' w ((p' :: q).getD j .none) ((v :: vs).getD j undef) := by
   intro p' q r hq hF' hp'
   obtain ⟨i1, i2⟩ := ih q r vs hq hF' (by simpa using hlen) hvs
   refine ⟨by simp [i1], fun j hj => ?_⟩
   cases j with
   | zero => exact hp'
   | succ j => have := i2 j (by simpa using hj); simpa using this
  cases p with
  | one l =>
   simp only [zcf] at hr
   split at hr
   ·rename_i l' r1 q r2 h1 h2
    simp only [sj, pj] at hr
    obtain ⟨rfl, rfl⟩ := hr
    refine fin _ _ _ h2 (fun k hk => hF k (by simp [hk])) ?_
    cases hv0 with
    | one _ _ hv0 => exact .one _ _ (readL_ok hob hoc hI h1 (fun k hk => hF k (by simp [hk])) hv0)
   ·cases hr
  | agg cs =>
   simp only [zcf] at hr
   split at hr
   ·rename_i cs' r1 q r2 h1 h2
    simp only [sj, pj] at hr
    obtain ⟨rfl, rfl⟩ := hr
    refine fin _ _ _ h2 (fun k hk => hF k (by simp [hk])) ?_
    cases hv0 with
    | agg _ C hs hc =>
     obtain ⟨i1, i2⟩ := readLs_ok hob hoc hI cs cs' r1 h1 (fun k hk => hF k (by simp [hk])) (fun j => C.getD j undef) hc
     exact .agg _ C (hs.trans i1.symm) i2
   ·cases hr
  | _ =>
   simp only [zcf] at hr
   split at hr
   ·rename_i q r2 h2
    simp only [sj, pj] at hr
    obtain ⟨rfl, rfl⟩ := hr
    exact fin _ _ _ h2 hF (hv0.wider hI)
   ·cases hr
end
section
variable {P : Program} {C : zaf} {w0 : World} {O0 : Nat → Option Ob} {E0 : Env} {I0 : Nat → Prop} {nt : Nat} {st : St} {E : Env} {I : Nat → Prop} {a : Act} {w : World}
theorem getElem?_inj {ks : List Nat} (hn : ks.Nodup) {i j : Nat} {k : Nat} (hi : ks[i]? = some k) (hj : ks[j]? = some k) : i = j := by
 obtain ⟨h1, e1⟩ := yah.1 hi
 obtain ⟨h2, e2⟩ := yah.1 hj
 exact (List.getElem_inj hn).1 (e1.trans e2.symm)
theorem posIn_of : ∀ (ks : List Nat) (k i j : Nat), ks.Nodup → ks[j]? = some k → zfe k ks i = some (i + j)
 | [], k, i, j, _, h => by simp at h
 | x :: xs, k, i, j, hn, h => by
  rw [List.nodup_cons] at hn
  simp only [zfe]
  cases j with
  | zero =>
   simp at h; subst h
   rw [if_pos (by simp)]; rfl
  | succ j =>
   have h' : xs[j]? = some k := by simpa using h
   have hne : (Nat.beq x k) = false := by
    cases hb : Nat.beq x k with
    | false => rfl
    | true => exact absurd (by rw [ybg hb]; exact ybl h') hn.1
   rw [if_neg (by rw [hne]; decide), posIn_of xs k (i + 1) j hn.2 h']
   congr 1; omega
theorem posIn_none : ∀ (ks : List Nat) (k i : Nat), k ∉ ks → zfe k ks i = none
 | [], _, _, _ => rfl
 | x :: xs, k, i, h => by
  simp only [yav, not_or] at h
  simp only [zfe]
  have hne : (Nat.beq x k) = false := by
   cases hb : Nat.beq x k with
   | false => rfl
   | true => exact absurd (ybg hb).symm h.1
  rw [if_neg (by rw [hne]; decide)]
  exact posIn_none xs k (i + 1) h.2
theorem gcallP_ok (hC : Meets P C) (h : Rel w0 O0 E0 I0 nt st E I a w) {o : Oper} (hd : ∀ x, o.dst = some x → x < nt) {f : FuncId} {args : List PV} {vals : List Value} {v : PV} {objs' : Nat → Option Ob}
  (hlen : args.length = vals.length) (hv : ∀ j, j < args.length → VR st.objs E I w (args.getD j .none) (vals.getD j undef))
  (hrun : (execOp a.eval o).run P w = (callFunc f vals.toArray).run P w)
  {ow fz : Bool} {fp : List Nat} (he : zby C ow fz fp st.objs f args = some (v, objs')) : OpOK P o a w (Left w0 O0 E0 I0 nt st o a objs' v) := by
 simp only [zby, mj] at he
 obtain ⟨⟨v', ob2⟩, he, hv2⟩ := he
 simp only [pj] at hv2
 obtain ⟨rfl, rfl⟩ := hv2
 unfold gcall0 at he
 split at he
 ·cases he
 ·rename_i args1 rks hread
  simp only at he
  generalize hks : zex (cutO fp st.objs) 200 (args1.flatMap PV.keys) [] = ks at he
  split at he
  ·rename_i hcond1
   simp only [yag] at hcond1
   obtain ⟨hnd, hrk⟩ := hcond1
   have hnd := zgd _ hnd
   split at he
   ·rename_i args2 os hargs2 hos
    split at he
    ·cases he
    ·rename_i res os' hCr
     split at he
     ·rename_i hcond2
      simp only [yag, ycj, List.isEmpty_iff] at hcond2
      obtain ⟨hle, hflat⟩ := hcond2
      have hle := yao hle
      generalize hnew : zdd (cutO fp st.objs) fp (os'.length - os.length) = new at he
      split at he
      ·rename_i hnd2
       have hnd2 := zgd _ hnd2
       generalize hks2 : ks ++ new = ks2 at he hnd2
       split at he
       ·rename_i res1 os1 hfz
        split at he
        ·rename_i r1 objs1 hren hput
         simp only [sj, pj] at he
         obtain ⟨rfl, rfl⟩ := he
         have hoc : ∀ k o, cutO fp st.objs k = some o → st.objs k = some o := fun k o hk => (cutO_is hk).1
         obtain ⟨ol, oa⟩ := renOs_at ks os hos
         -- the callee's view of the variables
         let Ic : Nat → Prop := fun b => I b ∨ ∃ k ∈ rks, Blk st.objs E k ∧ b = E.bl k
         have hIc : ∀ b, I b → Ic b := fun b hb => .inl hb
         let Eu : Env := ⟨fun k => E.bl (ks.getD (k - zac) 0), fun k => E.hv (ks.getD (k - zac) 0)⟩
         have hkat : ∀ j k, ks[j]? = some k → ks.getD (zac + j - zac) 0 = k := fun j k hj => by
          rw [show zac + j - zac = j by omega, yaa, hj]; rfl
         have hup : RenR (kmUp ks) (gmUp (cutO fp st.objs)) st.objs (zag os) E Eu := by
          refine ⟨fun k k' ob hk hob => ?_⟩
          obtain ⟨j, rfl, hj⟩ := kmUp_is hk
          obtain ⟨o1, o2, q1, q2, q3⟩ := oa j k hj
          have q1' := hoc _ _ q1
          rw [hob] at q1'; injection q1' with q1'; subst q1'
          refine ⟨o2, by rw [zcg]; exact q3, by show E.bl _ = _; rw [hkat j k hj], by show E.hv _ = _; rw [hkat j k hj], ?_⟩
          cases ob with
          | cells cs =>
           simp only [Ob.ren, mj] at q2
           obtain ⟨cs', _, rfl⟩ := q2
           exact ⟨cs', rfl⟩
          | arr el sz g n get =>
           simp only [Ob.ren, mj] at q2
           obtain ⟨g', hg', rfl⟩ := q2
           refine ⟨g', get, rfl, fun x y hxy hxg => ?_⟩
           simp only [gmUp, ageOf, q1] at hg' hxy
           split at hg'
           ·split at hxy
            ·rename_i hx
             simp only [sj] at hg' hxy
             subst hg' hxy
             exact ⟨yai _, fun _ => hx⟩
            ·cases hxy
           ·cases hg'
          | tcells t es =>
           simp only [Ob.ren, mj] at q2
           obtain ⟨es', _, rfl⟩ := q2
           exact ⟨es', rfl⟩
          | map es =>
           simp only [Ob.ren, sj] at q2
           subst q2
           exact ⟨es, rfl⟩
         have hkey : ∀ k o, zag os k = some o → ∃ k0 o1, ks[k - zac]? = some k0 ∧ zac ≤ k ∧ cutO fp st.objs k0 = some o1 ∧ o1.ren (kmUp ks) (gmUp (cutO fp st.objs)) k0 = some o := by
          intro k ob hk
          obtain ⟨h1, h2, h3⟩ := zat hk
          obtain ⟨o1, o2, q1, q2, q3⟩ := oa (k - zac) _ (yab (by omega))
          rw [h3] at q3; injection q3 with q3; subst q3
          exact ⟨_, o1, yab (by omega), h1, q1, q2⟩
         have hblk : ∀ k, Blk (zag os) Eu k → ∃ k0, ks[k - zac]? = some k0 ∧ zac ≤ k ∧ Blk st.objs E k0 ∧ Eu.bl k = E.bl k0 := by
          rintro k ⟨ob, hk, hn⟩
          obtain ⟨k0, o1, p1, p2, p3, p4⟩ := hkey k ob hk
          have hu : ks.getD (k - zac) 0 = k0 := by rw [yaa, p1]; rfl
          refine ⟨k0, p1, p2, ⟨o1, hoc _ _ p3, fun el sz g n get e => ?_⟩, by show E.bl _ = _; rw [hu]⟩
          subst e
          simp only [Ob.ren, mj] at p4
          obtain ⟨g', _, rfl⟩ := p4
          have := hn _ _ _ _ _ rfl
          show E.hv k0 ≠ _
          rw [← hu]; exact this
         have hheap : Heap (zag os) Eu Ic w := by
          refine ⟨fun k ob hk => ?_, fun k k' hk hk' hne => ?_, fun k hk => ?_, fun k hk => ?_, fun b hb => ?_⟩
          ·obtain ⟨k0, o1, p1, p2, p3, p4⟩ := hkey k ob hk
           have hu : ks.getD (k - zac) 0 = k0 := by rw [yaa, p1]; rfl
           exact ObjR.ren hup hIc (by show E.bl _ = _; rw [hu]) (by show E.hv _ = _; rw [hu]) p4 (h.objs _ _ (hoc _ _ p3))
          ·obtain ⟨k0, p1, p2, p3, p4⟩ := hblk k hk
           obtain ⟨k0', p1', p2', p3', p4'⟩ := hblk k' hk'
           rw [p4, p4']
           refine h.inj _ _ p3 p3' (fun e => ?_)
           subst e
           have := getElem?_inj hnd p1 p1'
           omega
          ·obtain ⟨k0, p1, p2, p3, p4⟩ := hblk k hk
           rw [p4]
           rintro (hI | ⟨k1, hk1, hb1, e⟩)
           ·exact h.imm _ p3 hI
           ·by_cases hkk : k0 = k1
            ·subst hkk
             have hm := ybl p1
             have := yba.1 hrk _ hk1
             simp at this
             exact this hm
            ·exact h.inj _ _ p3 hb1 hkk e
          ·obtain ⟨k0, p1, p2, p3, p4⟩ := hblk k hk
           rw [p4]; exact h.lt _ p3
          ·rcases hb with hb | ⟨k1, hk1, hb1, rfl⟩
           ·exact h.Ilt b hb
           ·exact h.lt _ hb1
         have hargs : args2.length = vals.length ∧ ∀ j, j < args2.length → VR (zag os) Eu Ic w (args2.getD j .none) (vals.getD j undef) := by
          have h1 : args1.length = vals.length ∧ ∀ j, j < args1.length → VR st.objs E Ic w (args1.getD j .none) (vals.getD j undef) := by
           cases ow with
           | true =>
            simp only [if_true, sj, pj] at hread
            obtain ⟨rfl, _⟩ := hread
            exact ⟨hlen, fun j hj => (hv j hj).wider hIc⟩
           | false =>
            simp only [yad, if_false] at hread
            exact readA_ok h.objs hoc hIc args args1 rks vals hread (fun k hk hb => .inr ⟨k, hk, hb, rfl⟩) hlen hv
          obtain ⟨i1, i2⟩ := renPs_at args1 args2 hargs2
          exact ⟨by rw [i1]; exact h1.1, fun j hj => (h1.2 j (by omega)).ren1 hup (fun _ h => h) (i2 j (by omega))⟩
         obtain ⟨⟨fn, hfn, hbody, hname⟩, hcalls⟩ := hC f args2 os res os' hCr
         have hcall := hcalls Ic w Eu vals.toArray hheap
          (fun t => by
           by_cases ht : t < args2.length
           ·have := hargs.2 t ht
            simpa using this
           ·have e : args2.getD t .none = .none := by rw [yaa, List.getElem?_eq_none (by omega)]; rfl
            rw [e]; exact .none _)
          (by simp [hargs.1])
         have hcf : (callFunc f vals.toArray).run P w = .ok (.enter f vals.toArray) w := by
          unfold callFunc
          simp only [Sem.run_bind, run_program, Result.andThen_ok, hfn, hname, hbody, yad, if_false, Sem.run_pure]
         intro K Q hK
         unfold Oper.wp
         rw [hrun, hcf]
         show Calls P f vals.toArray w _
         refine hcall.mono ?_
         rintro e w' ⟨u, I1, E1, rfl, hh, hx, hI1, hI2, hvr, hown1, hw⟩
         refine hK u w' ?_
         have hin0 : ∀ b, In0 (zag os) Eu b → ∃ k0 ∈ ks, Blk st.objs E k0 ∧ b = E.bl k0 := by
          rintro b ⟨k, hk, rfl⟩
          obtain ⟨k0, p1, p2, p3, p4⟩ := hblk k hk
          exact ⟨k0, ybl p1, p3, p4⟩
         -- what nothing writes
         let Ib : Nat → Prop := fun b => rks = [] ∧ I1 b
         have hb1 : VR (zag os') E1 Ib w' res u := by
          rcases hflat with hf | ⟨hf, _⟩
          ·exact hvr.wider (fun b hb => ⟨hf, hb⟩)
          ·exact hvr.reflat hf
         have hb2 : ∀ k ob, zag os' k = some ob → ObjR (zag os') E1 Ib w' k ob := by
          intro k ob hk
          rcases hflat with hf | ⟨_, hf⟩
          ·exact (hh.objs k ob hk).wider (fun b hb => ⟨hf, hb⟩)
          ·exact (hh.objs k ob hk).reflat (yba.1 hf _ (ybl (zat hk).2.2))
         let Fz : Nat → Prop := fun b => fz = true ∧ ∃ k el sz g n get, zac + os.length ≤ k ∧ zag os' k = some (.arr el sz g n get) ∧ E1.hv k ≠ .slice none 0 0 ∧ b = E1.bl k
         let Iz : Nat → Prop := fun b => Ib b ∨ Fz b
         have hz : VR (zag os') E1 Iz w' res1 u ∧ os1.length = os'.length ∧ ∀ (j : Nat) (ob : Ob), os'[j]? = some ob → ∃ o1, os1[j]? = some o1 ∧ SameKind ob o1 ∧ ObjR (zag os') E1 Iz w' (zac + j) o1 := by
          unfold zgh at hfz
          cases hfzz : fz with
          | false =>
           rw [hfzz] at hfz
           simp only [yad, if_false, sj, pj] at hfz
           obtain ⟨rfl, rfl⟩ := hfz
           exact ⟨hb1.wider (fun b hb => .inl hb), rfl, fun j ob hj => ⟨ob, hj, SameKind.refl _, (hb2 _ _ (by rw [zcg]; exact hj)).wider (fun b hb => .inl hb)⟩⟩
          | true =>
           rw [hfzz] at hfz
           simp only [if_true] at hfz
           split at hfz
           ·rename_i x y hx1 hy1
            simp only [sj, pj] at hfz
            obtain ⟨rfl, rfl⟩ := hfz
            have hF : ∀ k el sz g n get, zac + os.length ≤ k → zag os' k = some (.arr el sz g n get) → E1.hv k ≠ .slice none 0 0 → Iz (E1.bl k) :=
             fun k el sz g n get h1 h2 h3 => .inr ⟨hfzz, k, el, sz, g, n, get, h1, h2, h3, rfl⟩
            obtain ⟨f1, f2⟩ := frzOs_at _ _ hy1
            refine ⟨hb1.frz hb2 (fun b hb => .inl hb) hF hx1, f1, fun j ob hj => ?_⟩
            obtain ⟨o1, g1, g2⟩ := f2 j ob hj
            exact ⟨o1, g1, ObjR.frz hb2 (fun b hb => .inl hb) hF g2 (hb2 _ _ (by rw [zcg]; exact hj))⟩
           ·cases hfz
         obtain ⟨hz1, hz2, hz3⟩ := hz
         -- the caller's variables behind the call
         obtain ⟨pl, pn, pa⟩ := putOs_at ks2 os1 0 objs1 hput hnd2
         have hjoin : ∀ (j : Nat) (k : Nat), ks2[j]? = some k → fp.contains k = true ∧ (os.length ≤ j → st.objs k = none ∧ k < zac) := by
          intro j k hj
          subst hks2
          by_cases hjm : j < ks.length
          ·rw [yar hjm] at hj
           obtain ⟨o1, o2, q1, _, _⟩ := oa j k hj
           exact ⟨(cutO_is q1).2, fun h' => by omega⟩
          ·rw [yax (by omega)] at hj
           have hm := ybl hj
           subst hnew
           obtain ⟨f1, f2, f3, f4⟩ := freshK_at _ _ _ hm
           have hc : fp.contains k = true := by simpa using f1
           refine ⟨hc, fun _ => ⟨?_, by unfold zac; omega⟩⟩
           unfold cutO at f4
           rw [if_pos hc] at f4
           exact f4
         have hout : ∀ k, k ∉ ks2 → zdc fp st.objs objs1 k = st.objs k := by
          intro k hk
          unfold zdc
          split
          ·rename_i hc
           rw [pn k hk]
           unfold cutO
           rw [if_pos hc]
          ·rfl
         have hlen2 : ks2.length = os'.length := by rw [← hz2, pl]
         let E2 : Env := ⟨fun k => match zfe k ks2 0 with | some j => E1.bl (zac + j) | none => E.bl k, fun k => match zfe k ks2 0 with | some j => E1.hv (zac + j) | none => E.hv k⟩
         have e2in : ∀ j k, ks2[j]? = some k → E2.bl k = E1.bl (zac + j) ∧ E2.hv k = E1.hv (zac + j) := by
          intro j k hj
          have := posIn_of ks2 k 0 j hnd2 hj
          rw [ybk] at this
          exact ⟨by show (match zfe k ks2 0 with | some j => E1.bl (zac + j) | none => E.bl k) = _; rw [this], by show (match zfe k ks2 0 with | some j => E1.hv (zac + j) | none => E.hv k) = _; rw [this]⟩
         have e2out : ∀ k, k ∉ ks2 → E2.bl k = E.bl k ∧ E2.hv k = E.hv k := by
          intro k hk
          have := posIn_none ks2 k 0 hk
          exact ⟨by show (match zfe k ks2 0 with | some j => E1.bl (zac + j) | none => E.bl k) = _; rw [this], by show (match zfe k ks2 0 with | some j => E1.hv (zac + j) | none => E.hv k) = _; rw [this]⟩
         have hat : ∀ (j : Nat) (k : Nat), ks2[j]? = some k → ∃ ob o1 o2, os'[j]? = some ob ∧ os1[j]? = some o1 ∧ SameKind ob o1 ∧ ObjR (zag os') E1 Iz w' (zac + j) o1 ∧
           o1.ren (kmDn fz os.length os' ks2) (zce (cutO fp st.objs) ks2) (zac + j) = some o2 ∧
           ((dropB fz os.length os' (zac + j) = false ∧ zdc fp st.objs objs1 k = some o2) ∨ (dropB fz os.length os' (zac + j) = true ∧ zdc fp st.objs objs1 k = none)) := by
          intro j k hj
          have hjl : j < ks2.length := (yah.1 hj).1
          have hob := yab (l := os') (show j < os'.length by omega)
          obtain ⟨o1, g1, g2, g3⟩ := hz3 j _ hob
          obtain ⟨o2, g4, g5⟩ := pa j k o1 hj g1
          rw [ybk] at g4 g5
          obtain ⟨hc, hn⟩ := hjoin j k hj
          have hje : zdc fp st.objs objs1 k = objs1 k := by unfold zdc; rw [if_pos hc]
          refine ⟨_, o1, o2, hob, g1, g2, g3, g4, ?_⟩
          have hdr : dropB fz os.length os' (zac + j) = (fz && o1.isArr && Nat.ble os.length j) := by
           unfold dropB
           rw [show zac + j - zac = j by omega, hob]
           have hb : Nat.ble (zac + os.length) (zac + j) = Nat.ble os.length j := by
            by_cases hh : os.length ≤ j
            ·rw [ybp hh, ybp (by omega)]
            ·have a1 : ¬ Nat.ble os.length j = true := fun h' => hh (yao h')
             have a2 : ¬ Nat.ble (zac + os.length) (zac + j) = true := fun h' => hh (by have := yao h'; omega)
             simp only [Bool.not_eq_true] at a1 a2
             rw [a1, a2]
           rw [hb]
           generalize os'[j] = ob at g2
           cases ob with
           | cells cs => obtain ⟨cs', rfl⟩ := g2; cases fz <;> simp [Ob.isArr]
           | arr el sz g n get => cases g2; cases fz <;> simp [Ob.isArr]
           | tcells t es => obtain ⟨cs', rfl⟩ := g2; cases fz <;> simp [Ob.isArr]
           | map es => obtain ⟨cs', rfl⟩ := g2; cases fz <;> simp [Ob.isArr]
          rw [hdr]
          cases hd1 : (fz && o1.isArr && Nat.ble os.length j) with
          | false => left; rw [hje, g5, hd1]; exact ⟨rfl, rfl⟩
          | true =>
           right
           rw [hje, g5, hd1]
           refine ⟨rfl, ?_⟩
           rw [if_pos rfl]
           simp only [yag] at hd1
           have := (hn (yao hd1.2)).1
           unfold cutO; rw [if_pos hc]; exact this
         have hdown : RenR (kmDn fz os.length os' ks2) (zce (cutO fp st.objs) ks2) (zag os') (zdc fp st.objs objs1) E1 E2 := by
          refine ⟨fun k k' ob hk hob => ?_⟩
          unfold kmDn at hk
          split at hk
          ·cases hk
          ·rename_i hdr
           simp only [Bool.not_eq_true] at hdr
           have hkd := hk
           unfold kmDown at hk
           split at hk
           ·rename_i hkp
            have hkp := yao hkp
            obtain ⟨ob', o1, o2, q1, q2, q3, q4, q5, q6⟩ := hat _ _ hk
            have hke : zac + (k - zac) = k := by omega
            rw [hke] at q4 q5 q6
            obtain ⟨_, _, hob3⟩ := zat hob
            rw [hob3] at q1; injection q1 with q1; subst q1
            rcases q6 with ⟨_, q6⟩ | ⟨q6, _⟩
            ·obtain ⟨b1, b2⟩ := e2in _ _ hk
             rw [hke] at b1 b2
             refine ⟨o2, q6, b1, b2, ?_⟩
             cases ob with
             | cells cs =>
              obtain ⟨cs', rfl⟩ := q3
              simp only [Ob.ren, mj] at q5
              obtain ⟨cs2, _, rfl⟩ := q5
              exact ⟨cs2, rfl⟩
             | arr el sz g n get =>
              cases q3
              simp only [Ob.ren, mj] at q5
              obtain ⟨g2, hg2, rfl⟩ := q5
              refine ⟨g2, get, rfl, fun x y hxy hxg => ?_⟩
              simp only [zce, hkd] at hg2 hxy
              split at hg2
              ·rename_i gc hgc
               rw [hgc] at hxy
               simp only [sj] at hg2 hxy
               subst hg2 hxy
               exact ⟨by omega, fun e => by omega⟩
              ·rename_i hgc
               rw [hgc] at hxy
               simp only [sj] at hg2 hxy
               subst hg2 hxy
               exact ⟨hxg, fun e => e⟩
             | tcells t es =>
              obtain ⟨cs', rfl⟩ := q3
              simp only [Ob.ren, mj] at q5
              obtain ⟨cs2, _, rfl⟩ := q5
              exact ⟨cs2, rfl⟩
             | map es =>
              obtain ⟨cs', rfl⟩ := q3
              simp only [Ob.ren, sj] at q5
              subst q5
              exact ⟨cs', rfl⟩
            ·rw [hdr] at q6; cases q6
           ·cases hk
         let I2 : Nat → Prop := fun b => I b ∨ Iz b
         have hIz2 : ∀ b, Iz b → I2 b := fun b hb => .inr hb
         have hsz := hw.size
         have hfr := h.fr.size
         -- blocks
         have hob2 : ∀ k ob, zdc fp st.objs objs1 k = some ob → (∃ j, ks2[j]? = some k ∧ ObjR (zdc fp st.objs objs1) E2 I2 w' k ob ∧ dropB fz os.length os' (zac + j) = false ∧ (Blk (zdc fp st.objs objs1) E2 k → Blk (zag os') E1 (zac + j))) ∨ (k ∉ ks2 ∧ st.objs k = some ob) := by
          intro k ob hk
          by_cases hkm : k ∈ ks2
          ·obtain ⟨j, hj, rfl⟩ := ybj hkm
           have hj' := yab hj
           obtain ⟨ob', o1, o2, q1, q2, q3, q4, q5, q6⟩ := hat _ _ hj'
           rcases q6 with ⟨q7, q6⟩ | ⟨_, q6⟩
           ·rw [hk] at q6; injection q6 with q6; subst q6
            obtain ⟨b1, b2⟩ := e2in _ _ hj'
            refine .inl ⟨j, hj', ObjR.ren hdown hIz2 b1 b2 q5 q4, q7, ?_⟩
            rintro ⟨o3, hk3, hn3⟩
            rw [hk] at hk3; injection hk3 with hk3; subst hk3
            refine ⟨ob', by rw [zcg]; exact q1, fun el sz g n get e => ?_⟩
            subst e
            cases q3
            simp only [Ob.ren, mj] at q5
            obtain ⟨g2, _, rfl⟩ := q5
            have := hn3 _ _ _ _ _ rfl
            rwa [b2] at this
           ·rw [hk] at q6; cases q6
          ·exact .inr ⟨hkm, by rw [← hout k hkm]; exact hk⟩
         have hblk2 : ∀ k, Blk (zdc fp st.objs objs1) E2 k → (∃ j, ks2[j]? = some k ∧ Blk (zag os') E1 (zac + j) ∧ E2.bl k = E1.bl (zac + j) ∧ dropB fz os.length os' (zac + j) = false) ∨ (k ∉ ks2 ∧ Blk st.objs E k ∧ E2.bl k = E.bl k) := by
          intro k hk
          obtain ⟨ob, hk1, hk2⟩ := hk
          rcases hob2 k ob hk1 with ⟨j, hj, _, hdr, hbb⟩ | ⟨hkm, hk3⟩
          ·exact .inl ⟨j, hj, hbb ⟨ob, hk1, hk2⟩, (e2in j k hj).1, hdr⟩
          ·refine .inr ⟨hkm, ⟨ob, hk3, fun el sz g n get e => ?_⟩, (e2out k hkm).1⟩
           rw [← (e2out k hkm).2]; exact hk2 el sz g n get e
         have hksub : ∀ k, k ∈ ks → k ∈ ks2 := fun k hk => by subst hks2; exact List.mem_append_left _ hk
         -- where a callee's block lies
         have hwhere : ∀ j, Blk (zag os') E1 (zac + j) → (∃ k0, ks[j]? = some k0 ∧ Blk st.objs E k0 ∧ E1.bl (zac + j) = E.bl k0) ∨ w.heap.size ≤ E1.bl (zac + j) := by
          intro j hj
          rcases hown1 _ hj with ⟨h1, h2⟩ | h1
          ·obtain ⟨k0, p1, p2, p3, p4⟩ := hblk _ h1
           rw [show zac + j - zac = j by omega] at p1
           exact .inl ⟨k0, p1, p3, by rw [h2, p4]⟩
          ·exact .inr h1
         have hnot : ∀ k b, k ∉ ks2 → Blk st.objs E k → b = E.bl k → ∀ j, Blk (zag os') E1 (zac + j) → E1.bl (zac + j) ≠ b := by
          rintro k b hkm hk rfl j hj e
          rcases hwhere j hj with ⟨k0, p1, p2, p3⟩ | p1
          ·rw [p3] at e
           by_cases hkk : k0 = k
           ·subst hkk; exact hkm (hksub _ (ybl p1))
           ·exact h.inj _ _ p2 hk hkk e
          ·have := h.lt k hk; omega
         have hI2' : ∀ b, I2 b → I b ∨ w.heap.size ≤ b ∨ Fz b := by
          rintro b (hb | ⟨hrk0, hb⟩ | hb)
          ·exact .inl hb
          ·rcases hI2 b hb with hb | hb
           ·rcases hb with hb | ⟨k1, hk1, _⟩
            ·exact .inl hb
            ·rw [hrk0] at hk1; simp at hk1
           ·exact .inr (.inl hb)
          ·exact .inr (.inr hb)
         have hFz : ∀ b, Fz b → ∃ j, Blk (zag os') E1 (zac + j) ∧ b = E1.bl (zac + j) ∧ dropB fz os.length os' (zac + j) = true ∧ os.length ≤ j := by
          rintro b ⟨hf, k, el, sz, g, n, get, h1, h2, h3, rfl⟩
          have hke : zac + (k - zac) = k := by omega
          refine ⟨k - zac, by rw [hke]; exact Blk.arr h2 h3, by rw [hke], ?_, by omega⟩
          rw [hke]
          unfold dropB
          rw [(zat h2).2.2, ybp h1, hf]; rfl
         have hFfresh : ∀ b, Fz b → w.heap.size ≤ b := by
          intro b hb
          obtain ⟨j, h1, rfl, _, h3⟩ := hFz b hb
          rcases hwhere j h1 with ⟨k0, p1, _⟩ | p1
          ·have := (yah.1 p1).1
           omega
          ·exact p1
         have hin2 : ∀ b, In0 (zag os) Eu b → ∀ k, k ∉ ks2 → Blk st.objs E k → E.bl k ≠ b := by
          intro b hb k hkm hk e
          obtain ⟨k0, p1, p2, rfl⟩ := hin0 b hb
          exact h.inj k k0 hk p2 (fun e => hkm (e ▸ hksub _ p1)) e
         have mv : Move st.objs E I w (zdc fp st.objs objs1) E2 I2 w' := by
          refine ⟨fun k ob hk => ?_, fun b hb => .inl hb, fun b hb => hw.block b (h.Ilt b hb) (fun hm => ?_)⟩
          ·by_cases hkm : k ∈ ks2
           ·obtain ⟨j, hj, rfl⟩ := ybj hkm
            have hj' := yab hj
            have hjm : j < os.length := by
             rcases Nat.lt_or_ge j os.length with hjm | hjm
             ·exact hjm
             ·have := ((hjoin j _ hj').2 hjm).1
              rw [hk] at this; cases this
            obtain ⟨ob', o1, o2, q1, q2, q3, q4, q5, q6⟩ := hat _ _ hj'
            have hnd' : dropB fz os.length os' (zac + j) = false := by
             unfold dropB
             have : Nat.ble (zac + os.length) (zac + j) = false := by
              cases hb : Nat.ble (zac + os.length) (zac + j) with
              | false => rfl
              | true => have := yao hb; omega
             rw [this]; simp
            rcases q6 with ⟨_, q6⟩ | ⟨q6, _⟩
            ·have hjks : ks[j]? = some ks2[j] := by
              subst hks2
              rw [List.getElem_append_left (by omega)]
              exact yab (by omega)
             generalize ks2[j] = k at hk hj' q6 hjks
             obtain ⟨oo, orn, r1, r2, r3⟩ := oa j _ hjks
             have r1' := hoc _ _ r1
             rw [hk] at r1'; injection r1' with r1'; subst r1'
             obtain ⟨b1, b2⟩ := e2in _ _ hj'
             have eb : Eu.bl (zac + j) = E.bl k := by show E.bl _ = _; rw [hkat j _ hjks]
             have eh : Eu.hv (zac + j) = E.hv k := by show E.hv _ = _; rw [hkat j _ hjks]
             obtain ⟨ox, x1, x2⟩ := hx (zac + j) orn (by rw [zcg]; exact r3)
             rw [zcg, q1] at x1; injection x1 with x1; subst x1
             refine ⟨o2, q6, ?_⟩
             cases ob with
             | cells cs =>
              simp only [Ob.ren, mj] at r2
              obtain ⟨cs1, _, rfl⟩ := r2
              obtain ⟨⟨cs2, rfl⟩, x3⟩ := x2
              obtain ⟨cs3, rfl⟩ := q3
              simp only [Ob.ren, mj] at q5
              obtain ⟨cs4, _, rfl⟩ := q5
              exact ⟨⟨cs4, rfl⟩, by rw [b1, x3, eb]⟩
             | tcells t es =>
              simp only [Ob.ren, mj] at r2
              obtain ⟨cs1, _, rfl⟩ := r2
              obtain ⟨⟨cs2, rfl⟩, x3⟩ := x2
              obtain ⟨cs3, rfl⟩ := q3
              simp only [Ob.ren, mj] at q5
              obtain ⟨cs4, _, rfl⟩ := q5
              exact ⟨⟨cs4, rfl⟩, by rw [b1, x3, eb]⟩
             | map es =>
              simp only [Ob.ren, sj] at r2
              subst r2
              obtain ⟨⟨cs2, rfl⟩, x3⟩ := x2
              obtain ⟨cs3, rfl⟩ := q3
              simp only [Ob.ren, sj] at q5
              subst q5
              exact ⟨⟨cs3, rfl⟩, by rw [b1, x3, eb]⟩
             | arr el sz g n get =>
              simp only [Ob.ren, mj] at r2
              obtain ⟨g0, hg0, rfl⟩ := r2
              simp only [gmUp, ageOf, r1, if_true, sj] at hg0
              subst hg0
              obtain ⟨g1, n1, get1, rfl, x3, x4⟩ := x2
              cases q3
              simp only [Ob.ren, mj] at q5
              obtain ⟨g2, hg2, rfl⟩ := q5
              have hkd : kmDown ks2 (zac + j) = some k := by
               unfold kmDown
               rw [if_pos (ybp (by omega)), show zac + j - zac = j by omega]; exact hj'
              simp only [zce, hkd, ageOf, r1, sj] at hg2
              subst hg2
              refine ⟨g + g1, n1, get1, rfl, by omega, fun e => ?_⟩
              obtain ⟨y1, y2, y3⟩ := x4 (by omega)
              exact ⟨y1, by rw [b2, y2, eh], by rw [b1, y3, eb]⟩
            ·rw [hnd'] at q6; cases q6
           ·exact ⟨ob, by rw [hout k hkm]; exact hk, ExtO.of_eq (e2out k hkm).1 (e2out k hkm).2 ob⟩
          ·obtain ⟨k0, p1, p2, rfl⟩ := hin0 b hm
           exact h.imm k0 p2 hb
         refine ⟨E2, I2, h.go ⟨fun k ob hk => ?_, fun k k' hk hk' hne => ?_, fun k hk hI => ?_, fun k hk => ?_, fun b hb => ?_⟩ mv (fun b hb => ?_) ?_ (fun k hk => ?_) (fun k hkp hk => ?_) (fun k hkp o' ho' => ?_) o.dst hd r1 u (hz1.ren hdown hIz2 hren)⟩
         ·rcases hob2 k ob hk with ⟨j, hj, h1, _, _⟩ | ⟨hkm, hk3⟩
          ·exact h1
          ·refine mv.obj (e2out k hkm).1 (e2out k hkm).2 (fun hnn => ?_) (h.objs k ob hk3)
           have hb : Blk st.objs E k := ⟨ob, hk3, hnn⟩
           exact hw.block _ (h.lt k hb) (fun hm => hin2 _ hm k hkm hb rfl)
         ·rcases hblk2 k hk with ⟨j, p1, p2, p3, _⟩ | ⟨p1, p2, p3⟩
          ·rcases hblk2 k' hk' with ⟨j', q1, q2, q3, _⟩ | ⟨q1, q2, q3⟩
           ·rw [p3, q3]
            refine hh.inj _ _ p2 q2 (fun e => hne ?_)
            have : j = j' := by omega
            subst this
            rw [p1] at q1; injection q1
           ·rw [p3, q3]
            exact hnot k' _ q1 q2 rfl j p2
          ·rcases hblk2 k' hk' with ⟨j', q1, q2, q3, _⟩ | ⟨q1, q2, q3⟩
           ·rw [p3, q3]
            exact fun e => hnot k _ p1 p2 rfl j' q2 e.symm
           ·rw [p3, q3]
            exact h.inj k k' p2 q2 hne
         ·rcases hblk2 k hk with ⟨j, p1, p2, p3, p4⟩ | ⟨p1, p2, p3⟩
          ·rw [p3] at hI
           rcases hI with hI | ⟨_, hI⟩ | hI
           ·exact hh.imm _ p2 (hI1 _ (.inl hI))
           ·exact hh.imm _ p2 hI
           ·obtain ⟨j', s1, s2, s3, _⟩ := hFz _ hI
            by_cases hjj : zac + j = zac + j'
            ·rw [hjj, s3] at p4; cases p4
            ·exact hh.inj _ _ p2 s1 hjj s2
          ·rw [p3] at hI
           have hl := h.lt k p2
           rcases hI2' _ hI with hI | hI | hI
           ·exact h.imm k p2 hI
           ·omega
           ·have := hFfresh _ hI; omega
         ·rcases hblk2 k hk with ⟨j, p1, p2, p3, _⟩ | ⟨p1, p2, p3⟩
          ·rw [p3]; exact hh.lt _ p2
          ·rw [p3]; exact ybh (h.lt k p2) hsz
         ·rcases hb with hb | ⟨_, hb⟩ | hb
          ·exact ybh (h.Ilt b hb) hsz
          ·exact hh.Ilt b hb
          ·obtain ⟨j, h1, rfl, _, _⟩ := hFz b hb
           exact hh.lt _ h1
         ·rcases hI2' b hb with hb | hb | hb
          ·exact .inl hb
          ·exact .inr (by omega)
          ·have := hFfresh b hb; exact .inr (by omega)
         ·refine h.fr.trans hw (fun _ _ h => h) (fun x hx' hn hm => ?_)
          obtain ⟨k0, p1, p2, rfl⟩ := hin0 x hm
          rcases h.own k0 p2 with h1 | h1
          ·exact hn ⟨k0, h1.1, h1.2⟩
          ·omega
         ·rcases hblk2 k hk with ⟨j, p1, p2, p3, _⟩ | ⟨p1, p2, p3⟩
          ·rw [p3]
           rcases hwhere j p2 with ⟨k0, s1, s2, s3⟩ | s1
           ·have hkk : k0 = k := by
             subst hks2
             have := (yah.1 s1).1
             rw [yar this, s1] at p1
             injection p1
            subst hkk
            rw [s3]; exact h.own k0 s2
           ·exact .inr (by omega)
          ·rw [p3]; exact h.own k p2
         ·rcases hblk2 k hk with ⟨j, p1, p2, p3, _⟩ | ⟨p1, p2, p3⟩
          ·rw [p3]
           rcases hwhere j p2 with ⟨k0, s1, s2, s3⟩ | s1
           ·have hkk : k0 = k := by
             subst hks2
             have := (yah.1 s1).1
             rw [yar this, s1] at p1
             injection p1
            subst hkk
            rw [s3]; exact h.loc k0 hkp s2
           ·omega
          ·rw [p3]; exact h.loc k hkp p2
         ·by_cases hkm : k ∈ ks2
          ·obtain ⟨j, hj, rfl⟩ := ybj hkm
           have hj' := yab hj
           rcases Nat.lt_or_ge j os.length with hjm | hjm
           ·have hjks : ks[j]? = some ks2[j] := by
             subst hks2
             rw [List.getElem_append_left (by omega)]
             exact yab (by omega)
            obtain ⟨oo, orn, r1, _, _⟩ := oa j _ hjks
            exact ⟨oo, hoc _ _ r1⟩
           ·have := ((hjoin j _ hj').2 hjm).2
            omega
          ·rw [hout k hkm] at ho'; exact ⟨o', ho'⟩
        ·cases he
       ·cases he
      ·cases he
     ·cases he
   ·cases he
  ·cases he
theorem gcall_ok (hC : Meets P C) (h : Rel w0 O0 E0 I0 nt st E I a w) {o : Oper} (hd : ∀ x, o.dst = some x → x < nt) {c : Call} {f : FuncId} {ow fz : Bool} {fp : List Nat} {nl : List (List (Nat × Nat))} {v : PV} {objs' : Nat → Option Ob}
  (ho : o.op = .call c) (hc : c.callee = .value (.func f)) (he : eff P C st o.dst (.gcall ow fz fp nl f c.args.toList) = some (v, objs')) : OpOK P o a w (Left w0 O0 E0 I0 nt st o a objs' v) := by
 obtain ⟨h1, h2⟩ := evs_ok h c.args.toList
 obtain ⟨h1, h2⟩ := nilA_ok nl _ _ h1 h2
 refine gcallP_ok hC h hd h1 h2 ?_ he
 unfold execOp
 simp only [ho, resolve, hc, Act.eval, Deferred.ofValue, Sem.run_bind, Sem.run_pure, Result.andThen_ok, invoke]
 congr 2
 apply Array.toList_inj.1
 simp
theorem gcallv_ok (hC : Meets P C) (h : Rel w0 O0 E0 I0 nt st E I a w) {o : Oper} (hd : ∀ x, o.dst = some x → x < nt) {c : Call} {x : Operand} {ow fz : Bool} {fp : List Nat} {nl : List (List (Nat × Nat))} {v : PV} {objs' : Nat → Option Ob}
  (ho : o.op = .call c) (hc : c.callee = .value x) (he : eff P C st o.dst (.gcallv ow fz fp nl x c.args.toList) = some (v, objs')) : OpOK P o a w (Left w0 O0 E0 I0 nt st o a objs' v) := by
 obtain ⟨h1, h2⟩ := evs_ok h c.args.toList
 obtain ⟨h1, h2⟩ := nilA_ok nl _ _ h1 h2
 simp only [eff] at he
 have hev := h.ev x
 generalize hax : a.eval x = ax at hev
 split at he
 ·rename_i f caps hx
  rw [hx] at hev
  cases hev with
  | one _ _ hev =>
   cases hev with
   | imm _ _ hv => cases hv
   | fn _ _ Cc hCs hl =>
    refine gcallP_ok hC h hd (vals := c.args.toList.map a.eval ++ Cc.toList) (by simp [h1, hCs]) (fun j hj => ?_) ?_ he
    ·by_cases hjl : j < (nilA nl (evs st c.args.toList)).length
     ·have := h2 j hjl
      rw [yaa, yar hjl, yaa, yar (by omega)]
      rw [yaa, yaa] at this
      exact this
     ·have hj2 : j - (nilA nl (evs st c.args.toList)).length < caps.length := by simp at hj; omega
      have := hl _ hj2
      rw [yaa, yax (by omega), yaa, yax (by omega)]
      rw [← h1]
      generalize j - (nilA nl (evs st c.args.toList)).length = q at hj2 this
      have e1 : ((caps.map PV.one)[q]?).getD .none = .one (caps.getD q default) := by
       rw [yay, yab hj2, yaa, yab hj2]; rfl
      have e2 : (Cc.toList[q]?).getD undef = Cc.getD q undef := by rw [yaw, yak]
      rw [e1, e2]
      exact .one _ _ this
    ·unfold execOp
     simp only [ho, resolve, hc, hax, Deferred.ofValue, Sem.run_bind, Sem.run_pure, Result.andThen_ok, invoke]
     congr 2
     apply Array.toList_inj.1
     simp
 ·rename_i f first captured hx
  rw [hx] at hev
  split at he
  ·rename_i hcond
   obtain ⟨hf0, hc0⟩ := hcond
   obtain rfl := Array.toList_eq_nil_iff.1 (yau hf0)
   obtain rfl := Array.toList_eq_nil_iff.1 (yau hc0)
   cases hev with
   | one _ _ hev =>
    have := LR.ofVal hev
    subst this
    refine gcallP_ok hC h hd h1 h2 ?_ he
    unfold execOp
    simp only [ho, resolve, hc, hax, Deferred.ofValue, Sem.run_bind, Sem.run_pure, Result.andThen_ok, invoke]
    congr 2
    try (apply Array.toList_inj.1; simp)
  ·cases he
 ·cases he
end
end Go.Rx
