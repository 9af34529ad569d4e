/- No condition. -/
import Derived.Test.YtobeamaaifgllaaRxX
namespace Go.Rx
open Go Go.RowKit
section
variable {P : Program} {C : Oracle} {w0 : World} {O0 : Nat → Option Ob} {E0 : Env} {I0 : Nat → Prop} {nt : Nat} {st : St} {E : Env} {I : Nat → Prop} {a : Act} {w : World}
theorem append_keep (t ty e : TypeId) (i : TypeInfo) (z : Value) (ht : P.underlying t = some (.slice e)) (hi : P.info? e = some i) (hz : i.zero = some z) (hzs : z.cells.size = i.size) (hsz : 0 < i.size)
  (g n cap : Nat) (cur : Array Value) (xs : List Value) (hg : w.heap[g]? = some (.cells cur e (0, 0))) (hn : n ≤ cap) (hcm : cap ≤ maxLen) (hcs : cur.size = cap * i.size) (htk : cur.toList.take (n * i.size) = xs) (hxl : xs.length = n * i.size)
  (ad : Addr) (m c : Nat) (news : List Value) (hl : news.length = m * i.size) (hnews : ∀ j u, news[j]? = some u → w.cell? (ad.add j) = some u) (h1 : ∀ u ∈ news, u.oneCell' = true)
  (hm : n + m ≤ maxCells) (hb : (n + m) * i.bytes ≤ maxCells) :
  ∃ w' b' cap', (Builtin.append_ #[t, t] ty #[.slice (some ⟨g, 0, none⟩) n cap, .slice (some ad) m c]).run P w = .ok (.slice (some ⟨b', 0, none⟩) (n + m) cap') w' ∧
   (b' = g ∨ (w.heap.size ≤ b' ∧ b' < w'.heap.size)) ∧ w'.ownsRow 0 e i.size (.slice (some ⟨b', 0, none⟩) (n + m) cap') (n + m) (xs ++ news) ∧ Wst (fun b => b = g) w w' ∧
   ∃ cur', w'.heap[g]? = some (.cells cur' e (0, 0)) ∧ cur'.size = cap * i.size ∧ cur'.toList.take (n * i.size) = xs := by
 have hown : w.ownsRow 0 e i.size (.slice (some ⟨g, 0, none⟩) n cap) n xs := ⟨hxl, .inr ⟨g, cap, cur, rfl, Nat.zero_le _, hg, hn, hcm, hcs, htk⟩⟩
 have hmx : maxCells ≤ maxLen := by simp only [maxCells, maxLen]; omega
 have hmy : maxCells ≤ 140737488355328 := by simp only [maxCells]; omega
 obtain ⟨v', w', hr, ho, hgr, _⟩ := run_append_own (P := P) w 0 t ty e i z i.size i.bytes ht hi hz rfl rfl hzs hsz _ n xs hown ad m c news hl hnews h1 (by omega) (by omega) (Nat.zero_le _)
 by_cases hroom : n + m ≤ cap
 ·have hfit : n * i.size + news.length ≤ cur.size := by rw [hl, hcs, ← Nat.add_mul]; exact Nat.mul_le_mul_right _ hroom
  have hr2 := run_append_room (P := P) w t ty e i ht hi g n cap cur hg ad m c news hl hnews h1 hroom hfit
  rw [hr] at hr2
  injection hr2 with e1 e2
  subst e1
  have ho' := ho
  rcases ho'.2 with ⟨e3, _⟩ | ⟨g3, cap3, cur3, e3, _, hg3, _, _, hcs3, htk3⟩
  ·cases e3
  ·injection e3 with e4 _ e5
   injection e4 with e4
   injection e4 with e4 _ _
   subst e4 e5
   refine ⟨w', g, cap, hr, .inl rfl, ho, (Wst.grown hgr).mono (fun b hb => by simpa [Value.ownBlock] using hb), cur3, hg3, hcs3, ?_⟩
   have h4 : (cur3.toList.take ((n + m) * i.size)).take (n * i.size) = (xs ++ news).take (n * i.size) := by rw [htk3]
   rw [List.take_take, Nat.min_eq_left (Nat.mul_le_mul_right _ (Nat.le_add_right _ _)), ← hxl, List.take_left] at h4
   rw [← hxl]; exact h4
 ·have holds : ∀ j u, xs[j]? = some u → w.cell? ((⟨g, 0, none⟩ : Addr).add j) = some u := hown.cells (g := g) rfl
  have h63 : ((n + m : Nat) : Int) ≤ 9223372036854775807 := by simp only [maxCells] at hm; omega
  have hr2 := run_append_grow (P := P) w t ty e i z ht hi hz ⟨g, 0, none⟩ n cap xs hxl holds ad m c news hl hnews (by omega) h63 (growslice_fits (by omega) (by omega))
  rw [hr] at hr2
  injection hr2 with e1 e2
  subst e1
  refine ⟨w', w.heap.size, _, hr, .inr ⟨Nat.le_refl _, by rw [e2]; simp⟩, ho, (Wst.grown hgr).mono (fun b hb => by simpa [Value.ownBlock] using hb), cur, ?_, hcs, htk⟩
  rw [e2]
  have hlt : g < w.heap.size := (Array.getElem?_eq_some_iff.1 hg).1
  exact (Below.heap_alloc w.drew _ g hlt).trans hg
theorem lensL_at {k g o : Nat} : ∀ (ps qs : List PV), lensL k g o ps = some qs → qs.length = ps.length ∧ ∀ j, j < ps.length → ∃ l l', ps.getD j .none = .one l ∧ qs.getD j .none = .one l' ∧ l.lens k g o = some l'
 | [], qs, h => by
  simp only [lensL, sj] at h; subst h
  exact ⟨rfl, fun j hj => by simp at hj⟩
 | p :: ps, qs, h => by
  unfold lensL at h
  split at h
  ·rename_i heq; cases heq
  ·rename_i l ps' heq
   cases heq
   split at h
   ·rename_i x y hx hy
    simp only [sj] at h; subst h
    obtain ⟨i1, i2⟩ := lensL_at ps y hy
    refine ⟨by simp [i1], fun j hj => ?_⟩
    cases j with
    | zero => exact ⟨l, x, rfl, rfl, hx⟩
    | succ j => exact i2 j (by simpa using hj)
   ·cases h
  ·cases h
theorem LR.lens {objs1 objs2 : Nat → Option Ob} {E1 E2 : Env} {I1 I2 : Nat → Prop} {k g el sz n o : Nat} {get : Nat → List Lf} (hk : objs2 k = some (.arr el sz g n get)) (hlt : n < o) {l l' : Lf} {v : Value} (h : LR objs1 E1 I1 w l v) (hl : l.lens k g o = some l') : LR objs2 E2 I2 w l' v := by
 cases l <;> simp only [Lf.lens, sj] at hl <;> try (cases hl; done)
 case val u =>
  subst hl
  cases h with
  | imm _ _ h => cases h with
   | val _ h => exact .imm _ _ (.val _ h)
 case view s m gt =>
  subst hl
  cases h with
  | imm _ _ h => cases h with
   | view => exact .osl k g o m el sz g n get _ _ hk (Nat.le_refl _) (fun _ hle => absurd hle (by omega))
 case osl k' g' o' m =>
  subst hl
  cases h with
  | imm _ _ h => cases h
  | osl => exact .osl k g o m el sz g n get _ _ hk (Nat.le_refl _) (fun _ hle => absurd hle (by omega))
theorem VR.lens {objs1 objs2 : Nat → Option Ob} {E1 E2 : Env} {I1 I2 : Nat → Prop} {k g el sz n o : Nat} {get : Nat → List Lf} (hk : objs2 k = some (.arr el sz g n get)) (hlt : n < o) {p q : PV} {v : Value} (h : VR objs1 E1 I1 w p v) (hp : p.lens k g o = some q) : VR objs2 E2 I2 w q v := by
 cases h with
 | none => simp [PV.lens] at hp
 | one l v h =>
  simp only [PV.lens, mj] at hp
  obtain ⟨l', h1, rfl⟩ := hp
  exact .one _ _ (h.lens hk hlt h1)
 | agg => simp [PV.lens] at hp
 | tup vs C hC h =>
  simp only [PV.lens, mj] at hp
  obtain ⟨qs, h1, rfl⟩ := hp
  obtain ⟨i1, i2⟩ := lensL_at vs qs h1
  refine .tup _ _ (by rw [i1]; exact hC) (fun j hj => ?_)
  obtain ⟨l, l', e1, e2, e3⟩ := i2 j (by omega)
  have h2 := h j (by omega)
  rw [e1] at h2
  rw [e2]
  generalize C.getD j undef = u at h2 ⊢
  cases h2 with
  | one _ _ h2 => exact .one _ _ (h2.lens hk hlt e3)
theorem lend_ok (hC : Meets P C) (h : Rel w0 O0 E0 I0 nt st E I a w) {o1 o2 : Oper} {da dc : Nat} (hd1 : o1.dst = some da) (hd2 : o2.dst = some dc) (hda : da < nt) (hdc : dc < nt)
  {c1 c2 : Call} {t e : TypeId} {s x : Operand} {i : TypeInfo} {z : Value} {f : FuncId} {nl : List (List (Nat × Nat))} {v : PV} {objs' : Nat → Option Ob}
  (ho1 : o1.op = .call c1) (hc1 : c1.callee = .builtin .append) (ha : c1.args.toList = [s, x]) (ht : c1.argTypes.toList = [t, t]) (hu : P.underlying t = some (.slice e)) (hi : P.info? e = some i) (hz : i.zero = some z)
  (hzs : z.cells.size = i.size) (hsz : 0 < i.size) (hfix : e < fixM) (ho2 : o2.op = .call c2) (hc2 : c2.callee = .value (.func f))
  (he : eff P C st (some dc) (.lend da e i.size i.bytes s x nl f c2.args.toList) = some (v, objs')) {K : Act → World → Prop} {Q : Exit → Act → World → Prop}
  (hK : ∀ a' w' E' I', Rel w0 O0 E0 I0 nt (({ st with objs := objs' } : St).put (some dc) v) E' I' a' w' → K a' w') : o1.wp P a w (fun a' w' => o2.wp P a' w' K Q) Q := by
 simp only [eff] at he
 have hes := h.ev s
 have hev := h.ev x
 generalize has : a.eval s = as at hes
 generalize hax : a.eval x = ax at hev
 split at he
 ·rename_i k g n sz m xget hT hs hx
  rw [hs] at hes
  rw [hx] at hev
  split at he
  ·rename_i v1 hv1
   split at hv1
   ·rename_i hse
    subst hse
    unfold lendV at hv1
    split at hv1
    ·rename_i el' esz' g' n' get hk
     split at hv1
     ·rename_i hcond
      obtain ⟨rfl, rfl, rfl, rfl, hn0, hm0, hlimb, hlim⟩ := hcond
      simp only [sj] at hv1
      split at he
      ·rename_i hcl
       split at he
       ·rename_i res os' hCr
        simp only [mj, pj] at he
        obtain ⟨q, hq, rfl, rfl⟩ := he
        -- the row
        have hes' : LR st.objs E I w (.osl k g 0 n) as := by
         cases hes with
         | one _ _ hes => exact hes
        obtain ⟨xs0, hownx', _, _, _⟩ := h.objs k _ hk
        have hnn : E.hv k ≠ .slice none 0 0 := by
         intro hnil
         rcases (hownx'.own hfix).2 with ⟨_, h0⟩ | ⟨g3, cap3, cur3, e3, _⟩
         ·omega
         ·rw [hnil] at e3; cases e3
        have key : as = E.hv k := by
         cases hes' with
         | imm _ _ hv => cases hv
         | osl _ _ _ _ el2 sz2 g2 m2 get2 base2 cap' hk2 hg2 hv2 =>
          rw [hk] at hk2
          injection hk2 with hk2
          injection hk2 with q1 q2 q3 q4 q5
          subst q1 q2 q3 q4 q5
          rcases hv2 rfl (by omega) with ⟨r1, rfl, rfl, rfl⟩ | ⟨o', cap2, r1, rfl, r2, r3, r4⟩
          ·exact r1.symm
          ·obtain ⟨rfl, rfl⟩ := r4 rfl
           exact r1.symm
        subst key
        have hblk : Blk st.objs E k := Blk.arr hk hnn
        obtain ⟨xs, cap, cur, tr, fz, e1, hb, hcap, _, ⟨_, hty⟩, htk, hxl, _, hgl, _, hel⟩ := h.arr_at hk hnn
        obtain ⟨q1, q2, hcm, hcs⟩ := hty hfix
        rw [q1, q2] at hb
        -- what is put behind it
        have hsrc' : ∃ base cx news, ax = .slice base m cx ∧ Src I w i.size m xget base news := by
         cases hev with
         | one _ _ hev =>
          cases hev with
          | imm _ _ hv =>
           have hv' := hv
           cases hv with
           | view _ _ _ base cx vv hcap hlen hb hel =>
            obtain ⟨news, hsrc⟩ := src_view hsz hv'
            exact ⟨base, cx, news, rfl, hsrc⟩
        obtain ⟨base, cx, news, rfl, hsrc⟩ := hsrc'
        cases hbase : base with
        | none => exact absurd (hsrc.nobase hbase) (by omega)
        | some ad =>
        subst hbase
        obtain ⟨w', b', cap2, hr, hb', hown, hw, cur', hcur, hcurs, hcurt⟩ := append_keep (P := P) (w := w) t o1.type e i z hu hi hz hzs hsz (E.bl k) n cap cur xs hb hcap hcm hcs htk hxl ad m cx news hsrc.len (hsrc.cell ad rfl) hsrc.one hlim hlimb
        rw [← e1] at hr
        have hrun1 : (execOp a.eval o1).run P w = .ok (.value (.slice (some ⟨b', 0, none⟩) (n + m) cap2)) w' := app_run ho1 hc1 ha ht (by rw [has, hax]; exact hr)
        have hlt : E.bl k < w.heap.size := h.lt k hblk
        -- the frame behind the append
        have hB := h.change k (.arr e i.size g n get) (.arr e i.size g n get) hk (hw.mono (fun b hb => ⟨hblk, hb⟩)) (E.bl k) (E.hv k) (fun _ => .inl ⟨hblk, rfl⟩) (some da) (fun x hx => by cases hx; exact hda) .none (.slice (some ⟨b', 0, none⟩) (n + m) cap2)
         (ExtO.of_eq (upd_same _ _ _) (upd_same _ _ _) _) (fun mv => by
          refine ⟨xs, ?_, ?_, hsz, fun q hq => ⟨hgl q hq, fun j hj => mv.lri (hel q hq j hj)⟩⟩
          ·show rowW w' e i.size (upd E.hv k _ k) n xs
           rw [upd_same, e1]
           exact rowW_of ⟨hxl, .inr ⟨E.bl k, cap, cur', rfl, Nat.zero_le _, hcur, hcap, hcm, hcurs, hcurt⟩⟩
          ·show upd E.hv k _ k = _ ∨ ∃ cap, upd E.hv k _ k = .slice (some ⟨upd E.bl k _ k, 0, none⟩) n cap
           rw [upd_same, upd_same]; exact .inr ⟨cap, e1⟩) (fun _ => .none _)
        have hst : (({ st with objs := upd st.objs k (some (.arr e i.size g n get)) } : St).put (some da) .none) = st := by
         have e2 : upd st.objs k (some (.arr e i.size g n get)) = st.objs := by
          funext j; by_cases hj : j = k
          ·subst hj; rw [upd_same, hk]
          ·rw [upd_ne _ _ hj]
         have e3 : upd st.tmps da .none = st.tmps := by
          funext j; by_cases hj : j = da
          ·subst hj; rw [upd_same, hT]
          ·rw [upd_ne _ _ hj]
         simp only [St.put, e2, e3]
        rw [hst] at hB
        generalize hE1 : (⟨upd E.bl k (E.bl k), upd E.hv k (E.hv k)⟩ : Env) = E1 at hB
        -- what is told
        have hI2lt : ∀ b, (I b ∨ b = b') → b < w'.heap.size := by
         rintro b (hb | rfl)
         ·exact hB.Ilt b hb
         ·rcases hb' with hb' | hb'
          ·rw [hb']; exact Nat.lt_of_lt_of_le hlt hw.size
          ·exact hb'.2
        have hview : VR st.objs E1 (fun b => I b ∨ b = b') w' v1 (.slice (some ⟨b', 0, none⟩) (n + m) cap2) := by
         subst hv1
         have hcells := hown.cells (g := b') rfl
         have hcapm : n + m ≤ cap2 := by
          rcases hown.2 with ⟨e3, _⟩ | ⟨g3, cap3, cur3, e3, _, _, hcap3, _⟩
          ·cases e3
          ·injection e3 with _ _ e3; omega
         have hsame : ∀ q, q < n + m → (if m = 1 then (fun i => if i = n then xget 0 else get i) else (fun i => if i < n then get i else xget (i - n))) q = if q < n then get q else xget (q - n) := by
          intro q hq
          split
          ·show (if q = n then xget 0 else get q) = _
           by_cases hqn : q = n
           ·rw [if_pos hqn, if_neg (by omega)]; congr 1; omega
           ·rw [if_neg hqn, if_pos (by omega)]
          ·rfl
         have hmono : ∀ {l : Lf} {u : Value}, LRi I w l u → LRi (fun b => I b ∨ b = b') w' l u := fun hl => hl.mono (fun _ hb => .inl hb) (fun b hb => hw.block b (h.Ilt b hb) (fun e => h.imm k hblk (e ▸ hb)))
         refine .one _ _ (.imm _ _ (.view i.size (n + m) _ _ cap2 (fun p j => (xs ++ news).getD (p * i.size + j) undef) hcapm (fun p hp => ?_) (.inr ⟨b', 0, rfl, .inr rfl, fun p hp j hj => ?_⟩) (fun p hp j hj => ?_)))
         ·rw [hsame p hp]
          by_cases hpn : p < n
          ·rw [if_pos hpn]; exact hgl p hpn
          ·rw [if_neg hpn]; exact (hsrc.get (p - n) (by omega)).1
         ·have hq := idx_lt (sz := i.size) hp hj
          have hlen : (xs ++ news).length = (n + m) * i.size := hown.1
          have h3 := hcells (p * i.size + j) ((xs ++ news)[p * i.size + j]'(by omega)) (List.getElem?_eq_getElem (by omega))
          rw [Nat.zero_add, List.getD_eq_getElem?_getD, List.getElem?_eq_getElem (by omega)]
          rw [Addr.add_lit, Nat.zero_add] at h3; exact h3
         ·rw [hsame p hp]
          by_cases hpn : p < n
          ·rw [if_pos hpn]
           have e : (xs ++ news).getD (p * i.size + j) undef = xs.getD (p * i.size + j) undef := by
            have := idx_lt hpn hj
            rw [List.getD_eq_getElem?_getD, List.getElem?_append_left (by rw [hxl]; omega), List.getD_eq_getElem?_getD]
           rw [e]; exact hmono (hel p hpn j hj)
          ·rw [if_neg hpn]
           obtain ⟨_, s2⟩ := hsrc.get (p - n) (by omega)
           have e : (xs ++ news).getD (p * i.size + j) undef = news.getD ((p - n) * i.size + j) undef := by
            have h1 : p * i.size = n * i.size + (p - n) * i.size := by rw [← Nat.add_mul]; congr 1; omega
            rw [List.getD_eq_getElem?_getD, List.getElem?_append_right (by rw [hxl]; omega), List.getD_eq_getElem?_getD, hxl]
            congr 2; omega
           rw [e]; exact hmono (s2 j hj)
        -- the call
        generalize hr1 : Value.slice (some ⟨b', 0, none⟩) (n + m) cap2 = r1 at hB hview hrun1
        have hx : ∀ y : Operand, VR st.objs E1 (fun b => I b ∨ b = b') w' (St.ev ⟨upd st.tmps da v1, st.objs⟩ y) ((a.put (some da) r1).eval y) := by
         intro y
         cases y with
         | const u => exact ofVal_vr _ _ _ _ u
         | global g => exact .none _
         | func f => exact .one _ _ (.imm _ _ (.val _ rfl))
         | tmp t =>
          have hput := put_tmps (st := st) (a := a) h.tsize (some da) (fun x hx => by cases hx; exact hda) v1 r1 (objs' := st.objs) (E' := E1) (I' := fun b => I b ∨ b = b') (w' := w') (fun t => ?_) hview t
          ·exact hput
          ·by_cases htd : t = da
           ·subst htd; rw [hT]; exact .none _
           ·have h3 := hB.tmps t
            have e : (a.put (some da) r1).tmps.getD t undef = a.tmps.getD t undef := by
             simp [Act.put, Array.getElem?_setIfInBounds_ne (Ne.symm htd)]
            rw [e] at h3
            exact h3.wider (fun _ hb => .inl hb)
        have hev0 : ∀ ys : List Operand, (evs ⟨upd st.tmps da v1, st.objs⟩ ys).length = (ys.map (a.put (some da) r1).eval).length ∧ ∀ j, j < (evs ⟨upd st.tmps da v1, st.objs⟩ ys).length →
          VR st.objs E1 (fun b => I b ∨ b = b') w' ((evs ⟨upd st.tmps da v1, st.objs⟩ ys).getD j .none) ((ys.map (a.put (some da) r1).eval).getD j undef) := by
         intro ys
         refine ⟨by simp [evs], fun j hj => ?_⟩
         have hj' : j < ys.length := by simpa [evs] using hj
         have e1 : (evs ⟨upd st.tmps da v1, st.objs⟩ ys).getD j .none = St.ev ⟨upd st.tmps da v1, st.objs⟩ ys[j] := by rw [List.getD_eq_getElem?_getD]; simp [evs, hj']
         have e2 : (ys.map (a.put (some da) r1).eval).getD j undef = (a.put (some da) r1).eval ys[j] := by rw [List.getD_eq_getElem?_getD]; simp [hj']
         rw [e1, e2]; exact hx _
        have hev2 := hev0 c2.args.toList
        obtain ⟨hv1l, hv1a⟩ := nilA_ok nl _ _ hev2.1 hev2.2
        obtain ⟨⟨fn, hfn, hbody, hname⟩, hcalls⟩ := hC f _ _ res _ hCr
        have hemp : ∀ k o, objs0 [] k ≠ some o := fun k o hk => by
         obtain ⟨_, h2, _⟩ := objs0_some hk
         exact absurd h2 (by simp)
        have hno : ∀ k, ¬ Blk (objs0 []) noEnv k := fun k ⟨o, hk, _⟩ => hemp k o hk
        have hcall := hcalls (fun b => I b ∨ b = b') w' noEnv (c2.args.toList.map (a.put (some da) r1).eval).toArray
         ⟨fun k o hk => absurd hk (hemp k o), fun k k' hk => absurd hk (hno k), fun k hk => absurd hk (hno k), fun k hk => absurd hk (hno k), hI2lt⟩
         (fun t => by
          by_cases ht : t < (nilA nl (evs ⟨upd st.tmps da v1, st.objs⟩ c2.args.toList)).length
          ·have h3 := hv1a t ht
           have hc3 : ((nilA nl (evs ⟨upd st.tmps da v1, st.objs⟩ c2.args.toList)).getD t .none).clean true = true := by
            refine List.all_eq_true.1 hcl _ ?_
            rw [List.getD_eq_getElem?_getD, List.getElem?_eq_getElem ht]; simp
           have h4 := h3.again (objs' := objs0 []) (E' := noEnv) (fun _ hb => hb) hc3
           simpa using h4
          ·have e : (nilA nl (evs ⟨upd st.tmps da v1, st.objs⟩ c2.args.toList)).getD t .none = .none := by rw [List.getD_eq_getElem?_getD, List.getElem?_eq_none (by omega)]; rfl
           rw [e]; exact .none _)
         (by simp only [List.size_toArray]; exact hv1l.symm)
        have hcf : (callFunc f (c2.args.toList.map (a.put (some da) r1).eval).toArray).run P w' = .ok (.enter f (c2.args.toList.map (a.put (some da) r1).eval).toArray) w' := by
         unfold callFunc
         simp only [Sem.run_bind, run_program, Result.andThen_ok, hfn, hname, hbody, Bool.false_eq_true, if_false, Sem.run_pure]
        have hrun2 : (execOp (a.put (some da) r1).eval o2).run P w' = (callFunc f (c2.args.toList.map (a.put (some da) r1).eval).toArray).run P w' := by
         unfold execOp
         simp only [ho2, resolve, hc2, Act.eval, Deferred.ofValue, Sem.run_bind, Sem.run_pure, Result.andThen_ok, invoke]
         congr 2
         apply Array.toList_inj.1
         simp
        have goal2 : o2.wp P (a.put (some da) r1) w' K Q := by
         unfold Oper.wp
         rw [hrun2, hcf]
         show Calls P f (c2.args.toList.map (a.put (some da) r1).eval).toArray w' _
         refine hcall.mono ?_
         rintro e2 w2 ⟨u, I3, E3, rfl, hh', hx', hI1, hI2, hvr, hown1, hw2⟩
         have hw3 : Wst (fun _ => False) w' w2 := hw2.mono (fun b hb => by
          obtain ⟨k2, hk2, _⟩ := hb
          exact hno k2 hk2)
         have hfin := hB.step hw3 (some dc) (fun x hx => by cases hx; exact hdc) q u (hvr.lens hk (Nat.lt_succ_self n) hq)
         show K ((a.put (some da) r1).put o2.dst u) w2
         rw [hd2]
         exact hK _ _ _ _ hfin
        unfold Oper.wp
        rw [hrun1]
        show o2.wp P (a.put o1.dst r1) w' K Q
        rw [hd1]
        exact goal2
       ·cases he
      ·cases he
     ·cases hv1
    ·cases hv1
   ·cases hv1
  ·cases he
 ·cases he
end
end Go.Rx
