/- No condition. -/
import Derived.Test.YtobeamaaifgllaaRxE
namespace Go.Rx
open Go Go.RowKit
section
variable {P : Program} {C : Oracle} {w0 : World} {O0 : Nat → Option Ob} {E0 : Env} {I0 : Nat → Prop} {nt : Nat} {st : St} {E : Env} {I : Nat → Prop} {a : Act} {w : World}
theorem int_val (h : Rel w0 O0 E0 I0 nt st E I a w) {x : Operand} {n : Int} (hi : (st.ev x).int? = some n) : ∃ k, a.eval x = .int k n := by
 have hev := h.ev x
 cases hl : st.ev x with
 | one l =>
  rw [hl] at hev hi
  cases l with
  | val u =>
   cases u <;> simp only [PV.int?, sj] at hi <;> try (cases hi; done)
   rename_i k n'
   subst hi
   cases hev with
   | one _ _ hev => exact ⟨k, LR.ofVal hev⟩
  | _ => cases hi
 | _ => rw [hl] at hi; cases hi
theorem iaddrA_ok (h : Rel w0 O0 E0 I0 nt st E I a w) {o : Oper} (hd : ∀ x, o.dst = some x → x < nt) {t e : TypeId} {x i : Operand} {len sz : Nat} {v : PV} {objs' : Nat → Option Ob}
  (ho : o.op = .indexAddr t x i) (hu : P.underlying t = some (.array len e)) (hsz : szOf P e = some sz)
  (he : eff P C st o.dst (.iaddrA len sz x i) = some (v, objs')) : OpOK P o a w (Left w0 O0 E0 I0 nt st o a objs' v) := by
 simp only [eff] at he
 split at he
 ·rename_i n hn
  obtain ⟨k, hi⟩ := int_val h hn
  split at he
  ·rename_i hb
   have key : objs' = st.objs ∧ (match st.ev x with
     | .one (.ptr k o) => v = .one (.ptr k (o + n.toNat * sz))
     | .one (.eptr cs o) => v = .one (.eptr cs (o + n.toNat * sz))
     | .one (.aptr k g i o) => v = .one (.aptr k g i (o + n.toNat * sz))
     | _ => False) := by
    split at he <;> first
     |(simp only [sj, pj] at he
       obtain ⟨rfl, rfl⟩ := he
       rename_i hx
       refine ⟨rfl, ?_⟩
       rw [hx])
     | cases he
   obtain ⟨rfl, key⟩ := key
   refine addr_ok h hd (n.toNat * sz) (fun b o' hax => ?_) key
   have hS := sizeOf_run hsz w
   unfold execOp
   simp only [ho, hax, hi, Instr.indexAt, asIntOf, Sem.run_bind, Sem.run_pure, Result.andThen_ok, run_underlying hu, Instr.sureAddr, Sem.run_ite]
   rw [if_pos hb]
   simp only [hS, Result.andThen_ok, add_eq]
  ·cases he
 ·cases he
theorem iaddrS_ok (h : Rel w0 O0 E0 I0 nt st E I a w) {o : Oper} (hd : ∀ x, o.dst = some x → x < nt) {t e : TypeId} {x i : Operand} {sz : Nat} {v : PV} {objs' : Nat → Option Ob}
  (ho : o.op = .indexAddr t x i) (hu : P.underlying t = some (.slice e)) (hsz : szOf P e = some sz)
  (he : eff P C st o.dst (.iaddrS sz x i) = some (v, objs')) : OpOK P o a w (Left w0 O0 E0 I0 nt st o a objs' v) := by
 simp only [eff] at he
 have hS := sizeOf_run hsz w
 split at he
 ·rename_i n hn
  obtain ⟨kk, hi⟩ := int_val h hn
  have fin : ∀ (b o' len cap : Nat), 0 ≤ n → n < len → a.eval x = .slice (some ⟨b, o', none⟩) len cap → (execOp a.eval o).run P w = .ok (.value (.pointer (some ⟨b, o' + n.toNat * sz, none⟩))) w := by
   intro b o' len cap h0 h1 hax
   unfold execOp
   simp only [ho, hax, hi, Instr.indexAt, asIntOf, Sem.run_bind, Sem.run_pure, Result.andThen_ok, run_underlying hu, Sem.run_ite]
   rw [if_pos ⟨h0, h1⟩]
   simp only [hS, Result.andThen_ok, add_eq]
  have hev := h.ev x
  generalize hax : a.eval x = ax at hev
  split at he
  ·rename_i sz' m get hx
   rw [hx] at hev
   split at he
   ·rename_i hc
    obtain ⟨rfl, h0, h1⟩ := hc
    simp only [sj, pj] at he
    obtain ⟨rfl, rfl⟩ := he
    cases hev with
    | one _ _ hev =>
     cases hev with
     | imm _ _ hv =>
      cases hv with
      | view _ _ _ base cap vv hcap hl hb hel =>
       rcases hb with hb | ⟨b, o', rfl, hI, hcell⟩
       ·omega
       ·have hnm : n.toNat < m := by omega
        refine ok_step h hd (fin b o' m cap h0 h1 hax) (Wst.refl _ _) (.one _ _ ?_)
        have := LR.eptr (objs := st.objs) (E := E) (I := I) (w := w) (get n.toNat) 0 b (o' + n.toNat * sz') (fun j => vv n.toNat j) hI
         (fun j hj => by rw [hl _ hnm] at hj; rw [Nat.add_assoc]; exact hcell _ hnm j hj) (fun j hj => by rw [hl _ hnm] at hj; exact hel _ hnm j hj)
        exact this
   ·cases he
  ·rename_i k g off m hx
   rw [hx] at hev
   split at he
   ·rename_i el sz' g' tot get hk
    split at he
    ·rename_i hc
     obtain ⟨rfl, rfl, hot, h0, h1⟩ := hc
     simp only [sj, pj] at he
     obtain ⟨rfl, rfl⟩ := he
     cases hev with
     | one _ _ hev =>
      cases hev with
      | imm _ _ hv => cases hv
      | osl _ _ _ _ el2 sz2 g2 m2 get2 base cap' hk2 hg2 hv2 =>
       rw [hk] at hk2
       injection hk2 with hk2
       injection hk2 with q1 q2 q3 q4 q5
       subst q1 q2 q3 q4 q5
       rcases hv2 rfl hot with ⟨_, hz, _⟩ | ⟨o', cap, e1, rfl, e2, e3, e4⟩
       ·omega
       have hm0 : 0 < m := by omega
       rcases e2 with e2 | e2
       ·omega
       ·subst e2
        refine ok_step h hd (fin _ _ m cap' h0 h1 hax) (Wst.refl _ _) (.one _ _ (.aptr k g (off + n.toNat) 0 el sz' g tot get _ _ hk (Nat.le_refl _) (fun _ _ => ⟨rfl, ?_⟩)))
        rw [Nat.add_mul, Nat.add_zero]
    ·cases he
   ·cases he
  ·rename_i k sz' off m hx
   rw [hx] at hev
   split at he
   ·rename_i hc
    obtain ⟨rfl, h0, h1⟩ := hc
    simp only [sj, pj] at he
    obtain ⟨rfl, rfl⟩ := he
    cases hev with
    | one _ _ hev =>
     cases hev with
     | imm _ _ hv => cases hv
     | csl _ _ _ _ cap cs hk hkv hcap => exact ok_step h hd (fin _ _ m cap h0 h1 hax) (Wst.refl _ _) (.one _ _ (.ptr k _ cs hk hkv))
   ·cases he
  ·cases he
 ·cases he
theorem FG_outside (esz : Nat) (q : Nat) : ∀ (ls : List Value) (k : Nat) (C C' : Array Value), (∀ v ∈ ls, v.cells.size = esz) →
  Instr.fill (fun i => some (i * esz, esz)) C (ls.zipIdx k |>.map fun p => (p.2, p.1)) = some C' → (k + ls.length) * esz ≤ C.size →
  C'.size = C.size ∧ ((q < k * esz ∨ (k + ls.length) * esz ≤ q) → C'.getD q undef = C.getD q undef) ∧
  ∀ i, i < ls.length → ∀ j, j < esz → C'.getD ((k + i) * esz + j) undef = (ls.getD i undef).cells.getD j undef := by
 intro ls
 induction ls with
 | nil =>
  intro k C C' _ hf _
  simp only [List.zipIdx_nil, List.map_nil, Instr.fill, sj] at hf
  subst hf
  exact ⟨rfl, fun _ => rfl, fun i hi => by simp at hi⟩
 | cons v ls ih =>
  intro k C C' hs hf hle
  simp only [List.zipIdx_cons, List.map_cons, Instr.fill] at hf
  have hv := hs v (by simp)
  simp only [List.length_cons] at hle
  have e0 : (k + (ls.length + 1)) * esz = (k + 1 + ls.length) * esz := by congr 1; omega
  have e1 : (k + 1 + ls.length) * esz = k * esz + esz + ls.length * esz := by rw [Nat.add_mul, Nat.add_mul, Nat.one_mul]
  rw [if_neg (by simp [hv]; omega)] at hf
  have hz : v.cells.zipIdx.foldl (fun cs (c, j) => cs.setIfInBounds (k * esz + j) c) C = (v.cells.toList.zipIdx 0).foldl (fun cs (c, j) => cs.setIfInBounds (k * esz + j) c) C := by
   rw [← Array.foldl_toList, Array.toList_zipIdx]
  rw [hz] at hf
  obtain ⟨f1, f2⟩ := foldl_set (k * esz) v.cells.toList 0 C (by simp [hv]; omega)
  obtain ⟨i1, i2, i3⟩ := ih (k + 1) _ C' (fun v hv => hs v (by simp [hv])) hf (by rw [f1]; omega)
  simp only [Nat.add_zero, Array.length_toList, hv] at f2
  refine ⟨by rw [i1, f1], fun hq => ?_, fun i hi j hj => ?_⟩
  ·simp only [List.length_cons] at hq
   rw [i2 (by rw [Nat.add_mul, Nat.one_mul]; omega), f2, if_neg (by omega)]
  ·cases i with
   | zero =>
    have hout : ∀ qq, qq < (k + 1) * esz → C'.getD qq undef = ((v.cells.toList.zipIdx 0).foldl (fun cs (c, j) => cs.setIfInBounds (k * esz + j) c) C).getD qq undef := by
     intro qq hqq
     have := ih (k + 1) _ C' (fun v hv => hs v (by simp [hv])) hf (by rw [f1]; omega)
     have key : ∀ (q : Nat), (q < (k + 1) * esz ∨ (k + 1 + ls.length) * esz ≤ q) → C'.getD q undef = ((v.cells.toList.zipIdx 0).foldl (fun cs (c, j) => cs.setIfInBounds (k * esz + j) c) C).getD q undef := by
      intro q hq
      clear ih this i2 i3
      revert hf
      generalize (v.cells.toList.zipIdx 0).foldl (fun cs (c, j) => cs.setIfInBounds (k * esz + j) c) C = D at f1 f2
      intro hf
      exact fill_outside esz ls (k + 1) D C' (fun v hv => hs v (by simp [hv])) hf (by rw [f1]; omega) q hq
     exact key qq (.inl hqq)
    rw [Nat.add_zero, hout _ (by rw [Nat.add_mul, Nat.one_mul]; omega), f2, if_pos (by omega)]
    simp
   | succ i =>
    have := i3 i (by simpa using hi) j hj
    rw [show k + (i + 1) = k + 1 + i by omega]
    simpa using this
where
 fill_outside (esz : Nat) : ∀ (ls : List Value) (k : Nat) (C C' : Array Value), (∀ v ∈ ls, v.cells.size = esz) →
  Instr.fill (fun i => some (i * esz, esz)) C (ls.zipIdx k |>.map fun p => (p.2, p.1)) = some C' → (k + ls.length) * esz ≤ C.size →
  ∀ q, (q < k * esz ∨ (k + ls.length) * esz ≤ q) → C'.getD q undef = C.getD q undef
 | [], k, C, C', _, hf, _, q, _ => by
  simp only [List.zipIdx_nil, List.map_nil, Instr.fill, sj] at hf
  subst hf; rfl
 | v :: ls, k, C, C', hs, hf, hle, q, hq => by
  simp only [List.zipIdx_cons, List.map_cons, Instr.fill] at hf
  have hv := hs v (by simp)
  simp only [List.length_cons] at hle hq
  have e0 : (k + (ls.length + 1)) * esz = (k + 1 + ls.length) * esz := by congr 1; omega
  have e1 : (k + 1 + ls.length) * esz = k * esz + esz + ls.length * esz := by rw [Nat.add_mul, Nat.add_mul, Nat.one_mul]
  rw [if_neg (by simp [hv]; omega)] at hf
  have hz : v.cells.zipIdx.foldl (fun cs (c, j) => cs.setIfInBounds (k * esz + j) c) C = (v.cells.toList.zipIdx 0).foldl (fun cs (c, j) => cs.setIfInBounds (k * esz + j) c) C := by
   rw [← Array.foldl_toList, Array.toList_zipIdx]
  rw [hz] at hf
  obtain ⟨f1, f2⟩ := foldl_set (k * esz) v.cells.toList 0 C (by simp [hv]; omega)
  simp only [Nat.add_zero, Array.length_toList, hv] at f2
  rw [fill_outside esz ls (k + 1) _ C' (fun v hv => hs v (by simp [hv])) hf (by rw [f1]; omega) q (by rw [Nat.add_mul, Nat.one_mul]; omega), f2, if_neg (by omega)]
theorem fill_some (esz : Nat) : ∀ (ls : List Value) (k : Nat) (C : Array Value), (∀ v ∈ ls, v.cells.size = esz) → (k + ls.length) * esz ≤ C.size →
  ∃ C', Instr.fill (fun i => some (i * esz, esz)) C (ls.zipIdx k |>.map fun p => (p.2, p.1)) = some C'
 | [], k, C, _, _ => ⟨C, rfl⟩
 | v :: ls, k, C, hs, hle => by
  simp only [List.zipIdx_cons, List.map_cons, Instr.fill]
  have hv := hs v (by simp)
  simp only [List.length_cons] at hle
  have e0 : (k + (ls.length + 1)) * esz = (k + 1 + ls.length) * esz := by congr 1; omega
  have e1 : (k + 1 + ls.length) * esz = k * esz + esz + ls.length * esz := by rw [Nat.add_mul, Nat.add_mul, Nat.one_mul]
  rw [if_neg (by simp [hv]; omega)]
  have hz : v.cells.zipIdx.foldl (fun cs (c, j) => cs.setIfInBounds (k * esz + j) c) C = (v.cells.toList.zipIdx 0).foldl (fun cs (c, j) => cs.setIfInBounds (k * esz + j) c) C := by
   rw [← Array.foldl_toList, Array.toList_zipIdx]
  rw [hz]
  obtain ⟨f1, _⟩ := foldl_set (k * esz) v.cells.toList 0 C (by simp [hv]; omega)
  exact fill_some esz ls (k + 1) _ (fun v hv => hs v (by simp [hv])) (by rw [f1]; omega)
theorem cellsL_ok (h : Rel w0 O0 E0 I0 nt st E I a w) (esz : Nat) : ∀ (xs : List Operand) (l : List (List Lf)), cellsL st esz xs = some l →
  l.length = xs.length ∧ (∀ v ∈ xs.map a.eval, v.cells.size = esz ∧ ∀ u ∈ v.cells.toList, u.oneCell' = true) ∧ ∀ i, i < l.length → (l.getD i []).length = esz ∧ ∀ j, j < esz → LR st.objs E I w ((l.getD i []).getD j default) (((xs.map a.eval).getD i undef).cells.getD j undef)
 | [], l, hl => by
  simp only [cellsL, sj] at hl
  subst hl
  exact ⟨rfl, fun v hv => by simp at hv, fun i hi => by simp at hi⟩
 | x :: xs, l, hl => by
  simp only [cellsL] at hl
  split at hl
  ·rename_i new l' hnew hl'
   split at hl
   ·rename_i hlen
    simp only [sj] at hl
    subst hl
    obtain ⟨i1, i2, i3⟩ := cellsL_ok h esz xs l' hl'
    obtain ⟨c1, c2⟩ := (h.ev x).cells hnew
    refine ⟨by simp [i1], fun v hv => ?_, fun i hi => ?_⟩
    ·simp only [List.map_cons, List.mem_cons] at hv
     rcases hv with rfl | hv
     ·exact ⟨by omega, (h.ev x).cells_one hnew⟩
     ·exact i2 v hv
    ·cases i with
     | zero => exact ⟨hlen, fun j hj => c2 j (by omega)⟩
     | succ i => exact i3 i (by simpa using hi)
   ·cases hl
  ·cases hl
theorem zip_range : ∀ (ps : List (Nat × Operand)) (k : Nat), ps.map (·.1) = (List.range' k ps.length) → ps = ((ps.map (·.2)).zipIdx k).map fun p => (p.2, p.1)
 | [], _, _ => rfl
 | (i, x) :: ps, k, h => by
  simp only [List.map_cons, List.length_cons, List.range'_succ, List.cons.injEq] at h
  obtain ⟨rfl, h⟩ := h
  simp only [List.map_cons, List.zipIdx_cons, List.cons.injEq, true_and]
  exact zip_range ps (i + 1) h
theorem map_zipIdx (f : Operand → Value) : ∀ (xs : List Operand) (k : Nat), ((xs.zipIdx k).map fun p => (p.2, p.1)).map (fun p => (p.1, f p.2)) = ((xs.map f).zipIdx k).map fun p => (p.2, p.1)
 | [], _ => rfl
 | x :: xs, k => by simp only [List.zipIdx_cons, List.map_cons, List.cons.injEq, true_and]; exact map_zipIdx f xs (k + 1)
theorem view_new (h : Rel w0 O0 E0 I0 nt st E I a w) {o : Oper} (hd : ∀ x, o.dst = some x → x < nt) {w' : World} (hw : Wst (fun _ => False) w w') (hgrow : w.heap.size < w'.heap.size) {sz n cap : Nat} {get : Nat → List Lf} {vv : Nat → Nat → Value}
  (hcap : n ≤ cap) (hlen : ∀ i, i < n → (get i).length = sz) (hcell : ∀ i, i < n → ∀ j, j < sz → w'.cell? ⟨w.heap.size, i * sz + j, none⟩ = some (vv i j))
  (hel : ∀ i, i < n → ∀ j, j < sz → LRi (fun b => I b ∨ b = w.heap.size) w' ((get i).getD j default) (vv i j))
  (hrun : (execOp a.eval o).run P w = .ok (.value (.slice (some ⟨w.heap.size, 0, none⟩) n cap)) w') : OpOK P o a w (Left w0 O0 E0 I0 nt st o a st.objs (.one (.view sz n get))) := by
 refine OpOK.value (w' := w') (val := .slice (some ⟨w.heap.size, 0, none⟩) n cap) hrun ⟨E, fun b => I b ∨ b = w.heap.size, ?_⟩
 have hval : VR st.objs E (fun b => I b ∨ b = w.heap.size) w' (.one (.view sz n get)) (.slice (some ⟨w.heap.size, 0, none⟩) n cap) :=
  .one _ _ (.imm _ _ (.view sz n _ _ cap vv hcap hlen (.inr ⟨w.heap.size, 0, rfl, .inr rfl, fun i hi j hj => by rw [Nat.zero_add]; exact hcell i hi j hj⟩) hel))
 refine h.grow hw (fun _ h => .inl h) (fun b hb => ?_) o.dst hd _ _ hval
 rcases hb with hb | rfl
 ·exact .inl hb
 ·exact .inr ⟨Nat.le_refl _, hgrow⟩
theorem bslice_ok (h : Rel w0 O0 E0 I0 nt st E I a w) {o : Oper} (hd : ∀ x, o.dst = some x → x < nt) {t e : TypeId} {len : Nat} {parts : Array (Nat × Operand)} {ie : TypeInfo} {z : Value} {v : PV} {objs' : Nat → Option Ob}
  (ho : o.op = .buildSlice t len parts) (hu : P.underlying t = some (.slice e)) (hie : P.info? e = some ie) (hz : ie.zero = some z) (hsmall : ¬ len * ie.size > 2 ^ 24) (hpos : ¬ len * ie.size = 0)
  (hps : parts.toList.map (·.1) = List.range len)
  (he : eff P C st o.dst (.bslice e ie.size (parts.toList.map (·.2))) = some (v, objs')) : OpOK P o a w (Left w0 O0 E0 I0 nt st o a objs' v) := by
 simp only [eff] at he
 split at he
 ·rename_i l hl
  split at he
  ·rename_i hcl
   simp only [sj, pj] at he
   obtain ⟨rfl, rfl⟩ := he
   obtain ⟨l1, l2, l3⟩ := cellsL_ok h ie.size _ l hl
   have hlen : parts.toList.length = len := by
    have := congrArg List.length hps
    simpa using this
   have hll : l.length = len := by rw [l1, List.length_map, hlen]
   have hps' : parts.toList = ((parts.toList.map (·.2)).zipIdx 0).map fun p => (p.2, p.1) := zip_range _ 0 (by rw [hps, hlen, List.range_eq_range'])
   have hvals : (parts.map fun (i, x) => (i, a.eval x)).toList = (((parts.toList.map (·.2)).map a.eval).zipIdx 0).map fun p => (p.2, p.1) := by
    rw [← map_zipIdx, ← hps', Array.toList_map]
   have hC0 : ((Array.range (len * ie.size)).map (z.cells[· % z.cells.size]!)).size = len * ie.size := by simp
   obtain ⟨C', hC'⟩ := fill_some ie.size ((parts.toList.map (·.2)).map a.eval) 0 ((Array.range (len * ie.size)).map (z.cells[· % z.cells.size]!)) (fun v hv => (l2 v hv).1) (by rw [hC0]; simp [hlen])
   have hsz' : (0 + ((parts.toList.map (·.2)).map a.eval).length) * ie.size ≤ ((Array.range (len * ie.size)).map (z.cells[· % z.cells.size]!)).size := by rw [hC0]; simp [hlen]
   obtain ⟨g1, _, g3⟩ := FG_outside ie.size 0 ((parts.toList.map (·.2)).map a.eval) 0 _ C' (fun v hv => (l2 v hv).1) hC' hsz'
   have hrun := run_buildSlice (P := P) w t e len (parts.map fun (i, x) => (i, a.eval x)) C' ie z hu hie hz hsmall hpos (by rw [hvals]; exact hC')
   have hw : Wst (fun _ => False) w (w.alloc (.cells C' e)) := Wst.alloc _ _ _
   have m : Move st.objs E I w st.objs E (fun b => I b ∨ b = w.heap.size) (w.alloc (.cells C' e)) := ⟨Ext.refl _ _, fun _ h => .inl h, fun b hb => hw.block b (h.Ilt b hb) id⟩
   refine OpOK.value (w' := w.alloc (.cells C' e)) (val := .slice (some ⟨w.heap.size, 0, none⟩) len len) ?_ ⟨E, fun b => I b ∨ b = w.heap.size, ?_⟩
   ·unfold execOp
    simp only [ho, Sem.run_bind, hrun, Result.andThen_ok]; rfl
   ·have hst := h.step hw o.dst hd .none (.slice (some ⟨w.heap.size, 0, none⟩) len len) (.none _)
    have hval : VR st.objs E (fun b => I b ∨ b = w.heap.size) (w.alloc (.cells C' e)) (.one (.view ie.size l.length fun i => l.getD i [])) (.slice (some ⟨w.heap.size, 0, none⟩) len len) := by
     rw [hll]
     refine .one _ _ (.imm _ _ (.view ie.size len _ _ len (fun i j => C'.getD (i * ie.size + j) undef) (Nat.le_refl _) (fun i hi => (l3 i (by omega)).1) (.inr ⟨w.heap.size, 0, rfl, .inr rfl, fun i hi j hj => ?_⟩) (fun i hi j hj => ?_)))
     ·have hb : i * ie.size + j < C'.size := by
       rw [g1, hC0]
       calc i * ie.size + j < i * ie.size + ie.size := by omega
        _ = (i + 1) * ie.size := by rw [Nat.add_mul, Nat.one_mul]
        _ ≤ len * ie.size := Nat.mul_le_mul_right _ hi
      rw [Nat.zero_add, cell_of_row _ _ _ C' e (0, 0) (heap_alloc_new w _), Array.getD_eq_getD_getElem?, Array.getElem?_eq_getElem hb]
      rfl
     ·have e3 := g3 i (by rw [List.length_map, List.length_map, hlen]; exact hi) j hj
      rw [Nat.zero_add] at e3
      show LRi _ _ _ (C'.getD (i * ie.size + j) undef)
      rw [e3]
      have hlr := (l3 i (by omega)).2 j hj
      refine m.lri (LR.clean hlr ?_)
      have hmem : (l.getD i []) ∈ l := by rw [List.getD_eq_getElem?_getD, List.getElem?_eq_getElem (by omega)]; simp
      have hmem2 : ((l.getD i []).getD j default) ∈ l.getD i [] := by
       rw [List.getD_eq_getElem?_getD (l := l.getD i []), List.getElem?_eq_getElem (by rw [(l3 i (by omega)).1]; exact hj)]; simp
      exact List.all_eq_true.1 (List.all_eq_true.1 hcl _ hmem) _ hmem2
    refine h.grow hw (fun _ h => .inl h) (fun b hb => ?_) o.dst hd _ _ hval
    rcases hb with hb | rfl
    ·exact .inl hb
    ·exact .inr ⟨Nat.le_refl _, by simp⟩
  ·cases he
 ·cases he
theorem slcA_ok (h : Rel w0 O0 E0 I0 nt st E I a w) {o : Oper} (hd : ∀ x, o.dst = some x → x < nt) {t e : TypeId} {x : Operand} {lo hi : Option Operand} {len sz : Nat} {v : PV} {objs' : Nat → Option Ob}
  (ho : o.op = .slice t x lo hi none) (hu : P.underlying t = some (.array len e) ∨ ∃ at', P.underlying t = some (.pointer at') ∧ P.underlying at' = some (.array len e)) (hsz : szOf P e = some sz)
  (he : eff P C st o.dst (.slcA len sz x lo hi) = some (v, objs')) : OpOK P o a w (Left w0 O0 E0 I0 nt st o a objs' v) := by
 simp only [eff] at he
 have hev := h.ev x
 have hS := sizeOf_run hsz w
 split at he
 ·rename_i k off hx
  rw [hx] at hev
  split at he
  ·rename_i l hh hl hhi
   split at he
   ·rename_i hc
    obtain ⟨h1, h2, h3⟩ := hc
    simp only [sj, pj] at he
    obtain ⟨rfl, rfl⟩ := he
    generalize hax : a.eval x = ax at hev
    cases hev with
    | one _ _ hev =>
     cases hev with
     | imm _ _ hv => cases hv
     | ptr _ _ cs hk hkv =>
      have bd : ∀ (y : Operand) (d n m : Nat) (code : BoundsCode), bound? st d (some y) = some n → n ≤ m → (Instr.sliceBound (a.eval y) m code).run P w = .ok n w := by
       intro y d n m code hb hy
       simp only [bound?] at hb
       split at hb
       ·rename_i q hq
        obtain ⟨kk, hkk⟩ := int_val h hq
        split at hb
        ·rename_i h0
         simp only [sj] at hb
         subst hb
         rw [hkk]
         simp only [Instr.sliceBound, asIntOf, Sem.run_bind, Sem.run_pure, Result.andThen_ok, Sem.run_ite]
         rw [if_pos ⟨h0, by omega⟩]
        ·cases hb
       ·cases hb
      have hB : (Instr.sliceBounds false len len (lo.map a.eval) (hi.map a.eval) none).run P w = .ok (l, hh, len) w := by
       cases lo with
       | none =>
        simp only [bound?, sj] at hl
        subst hl
        cases hi with
        | none =>
         simp only [bound?, sj] at hhi
         subst hhi
         simp [Instr.sliceBounds]
        | some y => simp [Instr.sliceBounds, bd y _ _ _ _ hhi h2]
       | some z =>
        cases hi with
        | none =>
         simp only [bound?, sj] at hhi
         subst hhi
         simp [Instr.sliceBounds, bd z _ _ _ _ hl h1]
        | some y => simp [Instr.sliceBounds, bd y _ _ _ _ hhi h2, bd z _ _ _ _ hl h1]
      have hrun : (execOp a.eval o).run P w = .ok (.value (.slice (some ⟨E.bl k, off + l * sz, none⟩) (hh - l) (len - l))) w := by
       have hq : (execOp a.eval o).run P w = .ok (.value (.slice (some (if len = l then ⟨E.bl k, off, none⟩ else (⟨E.bl k, off, none⟩ : Addr).add (l * sz))) (hh - l) (len - l))) w := by
        unfold execOp
        rcases hu with hu | ⟨at', hu, ha⟩
        ·simp only [ho, hax, Instr.sliceAt, Instr.sureAddr, Sem.run_bind, run_underlying hu, Result.andThen_ok, Option.map_none, hB, hS, Sem.run_pure]
        ·simp only [ho, hax, Instr.sliceAt, Instr.slice, asAddr, Sem.run_bind, run_underlying hu, run_underlying ha, Result.andThen_ok, Option.map_none, hB, hS, Sem.run_pure]
       rw [hq]
       by_cases hll : len = l
       ·rw [if_pos hll]
        have : l = 0 := by omega
        subst this
        simp
       ·rw [if_neg hll, add_eq]
      exact ok_step h hd hrun (Wst.refl _ _) (.one _ _ (.csl k sz (off + l * sz) (hh - l) (len - l) cs hk hkv (by omega)))
   ·cases he
  ·cases he
 ·cases he
theorem flat_at : ∀ (l : List (List Lf)) (sz i j : Nat), (∀ x ∈ l, x.length = sz) → i < l.length → j < sz → l.flatten.getD (i * sz + j) default = (l.getD i []).getD j default
 | [], sz, i, j, _, hi, _ => by simp at hi
 | x :: l, sz, i, j, hl, hi, hj => by
  have hx : x.length = sz := hl x (by simp)
  cases i with
  | zero =>
   rw [Nat.zero_mul, Nat.zero_add, List.flatten_cons, List.getD_eq_getElem?_getD, List.getElem?_append_left (by omega), List.getD_eq_getElem?_getD]
   rfl
  | succ i =>
   have ih := flat_at l sz i j (fun y hy => hl y (by simp [hy])) (by simpa using hi) hj
   rw [List.flatten_cons, List.getD_eq_getElem?_getD, List.getElem?_append_right (by rw [hx, Nat.add_mul]; omega), hx, show (i + 1) * sz + j - sz = i * sz + j by rw [Nat.add_mul]; omega]
   rw [List.getD_eq_getElem?_getD] at ih
   simpa using ih
theorem flat_len : ∀ (l : List (List Lf)) (sz : Nat), (∀ x ∈ l, x.length = sz) → l.flatten.length = l.length * sz
 | [], sz, _ => by simp
 | x :: l, sz, hl => by
  rw [List.flatten_cons, List.length_append, flat_len l sz (fun y hy => hl y (by simp [hy])), hl x (by simp), List.length_cons, Nat.add_mul]; omega
theorem bptrs_ok (h : Rel w0 O0 E0 I0 nt st E I a w) {o : Oper} (hd : ∀ x, o.dst = some x → x < nt) {t e : TypeId} {len : Nat} {parts : Array (Nat × Operand)} {ie : TypeInfo} {z : Value} {v : PV} {objs' : Nat → Option Ob}
  (ho : o.op = .buildSlice t len parts) (hu : P.underlying t = some (.slice e)) (hie : P.info? e = some ie) (hz : ie.zero = some z) (hsmall : ¬ len * ie.size > 2 ^ 24) (hpos : ¬ len * ie.size = 0)
  (hps : parts.toList.map (·.1) = List.range len)
  (he : eff P C st o.dst (.bptrs ie.size (parts.toList.map (·.2))) = some (v, objs')) : OpOK P o a w (Left w0 O0 E0 I0 nt st o a objs' v) := by
 simp only [eff] at he
 split at he
 ·rename_i d hdst
  split at he
  ·rename_i l hk hl
   simp only [sj, pj] at he
   obtain ⟨rfl, rfl⟩ := he
   obtain ⟨l1, l2, l3⟩ := cellsL_ok h ie.size _ l hl
   have hlen : parts.toList.length = len := by
    have := congrArg List.length hps
    simpa using this
   have hll : l.length = len := by rw [l1, List.length_map, hlen]
   have hps' : parts.toList = ((parts.toList.map (·.2)).zipIdx 0).map fun p => (p.2, p.1) := zip_range _ 0 (by rw [hps, hlen, List.range_eq_range'])
   have hvals : (parts.map fun (i, x) => (i, a.eval x)).toList = (((parts.toList.map (·.2)).map a.eval).zipIdx 0).map fun p => (p.2, p.1) := by
    rw [← map_zipIdx, ← hps', Array.toList_map]
   have hC0 : ((Array.range (len * ie.size)).map (z.cells[· % z.cells.size]!)).size = len * ie.size := by simp
   obtain ⟨C', hC'⟩ := fill_some ie.size ((parts.toList.map (·.2)).map a.eval) 0 ((Array.range (len * ie.size)).map (z.cells[· % z.cells.size]!)) (fun v hv => (l2 v hv).1) (by rw [hC0]; simp [hlen])
   have hsz' : (0 + ((parts.toList.map (·.2)).map a.eval).length) * ie.size ≤ ((Array.range (len * ie.size)).map (z.cells[· % z.cells.size]!)).size := by rw [hC0]; simp [hlen]
   obtain ⟨g1, _, g3⟩ := FG_outside ie.size 0 ((parts.toList.map (·.2)).map a.eval) 0 _ C' (fun v hv => (l2 v hv).1) hC' hsz'
   have hrun := run_buildSlice (P := P) w t e len (parts.map fun (i, x) => (i, a.eval x)) C' ie z hu hie hz hsmall hpos (by rw [hvals]; exact hC')
   have hw : Wst (fun _ => False) w (w.alloc (.cells C' e)) := Wst.alloc _ _ _
   have hlm : ∀ x ∈ l, x.length = ie.size := fun x hx => by
    obtain ⟨i, hi, rfl⟩ := List.getElem_of_mem hx
    have := (l3 i hi).1
    rwa [List.getD_eq_getElem?_getD, List.getElem?_eq_getElem hi] at this
   have hfl := flat_len l ie.size hlm
   refine OpOK.value (w' := w.alloc (.cells C' e)) (val := .slice (some ⟨w.heap.size, 0, none⟩) len len) ?_ ⟨⟨upd E.bl d w.heap.size, upd E.hv d undef⟩, I, ?_⟩
   ·unfold execOp
    simp only [ho, Sem.run_bind, hrun, Result.andThen_ok]; rfl
   ·refine h.fresh hw d (Nat.lt_of_lt_of_le (hd d hdst) h.ntb) hk (.cells l.flatten) w.heap.size undef (fun _ => ⟨Nat.le_refl _, by simp⟩) o.dst hd _ _ (fun m => ?_) (fun m => ?_)
    ·refine ⟨C', e, ?_, by rw [g1, hC0, hfl, hll], fun q hq => ?_⟩
     ·show (w.alloc _).heap[upd E.bl d w.heap.size d]? = _
      rw [upd_same]
      exact heap_alloc_new w _
     ·rw [hfl, hll] at hq
      have hs0 : 0 < ie.size := by
       rcases Nat.eq_zero_or_pos ie.size with h0 | h0
       ·rw [h0] at hq; omega
       ·exact h0
      have hi : q / ie.size < len := by rw [Nat.div_lt_iff_lt_mul hs0]; exact hq
      have hj := Nat.mod_lt q hs0
      have hqe : q / ie.size * ie.size + q % ie.size = q := by rw [Nat.mul_comm]; exact Nat.div_add_mod q ie.size
      have e1 := flat_at l ie.size (q / ie.size) (q % ie.size) hlm (by omega) hj
      have e3 := g3 (q / ie.size) (by rw [List.length_map, List.length_map, hlen]; exact hi) (q % ie.size) hj
      rw [Nat.zero_add] at e3
      rw [hqe] at e1 e3
      rw [e1, e3]
      exact m.lr ((l3 _ (by omega)).2 _ hj)
    ·rw [hll]
     refine .one _ _ ?_
     have := LR.csl (objs := upd st.objs d (some (.cells l.flatten))) (E := ⟨upd E.bl d w.heap.size, upd E.hv d undef⟩) (I := I) (w := w.alloc (.cells C' e)) d ie.size 0 len len (.cells l.flatten) (upd_same _ _ _) rfl (Nat.le_refl _)
     simpa [upd_same] using this
  ·cases he
 ·cases he
theorem pnil_ok (h : Rel w0 O0 E0 I0 nt st E I a w) {o : Oper} (hd : ∀ x, o.dst = some x → x < nt) {t e : TypeId} {x y : Operand} {op : BinOp} {ty : TypeId} {neg : Bool} {v : PV} {objs' : Nat → Option Ob}
  (ho : o.op = .binOp op t x y ty) (hu : P.underlying t = some (.pointer e)) (hy : isNilPtr y = true) (hop : isEqNe op = some neg)
  (he : eff P C st o.dst (.pnil neg x) = some (v, objs')) : OpOK P o a w (Left w0 O0 E0 I0 nt st o a objs' v) := by
 simp only [eff] at he
 have hev := h.ev x
 have hy' : y = .const (.pointer none) := by
  unfold isNilPtr at hy
  split at hy
  ·rfl
  ·cases hy
 subst hy'
 have eq1 : ∀ ad, (Op.equal t (.pointer (some ad)) (.pointer none)).run P w = .ok false w := fun ad => by
  have k : ∀ d, (Op.equalIn (d + 1) t (.pointer (some ad)) (.pointer none)).run P w = .ok false w := fun d => by simp [Op.equalIn, run_underlying hu]
  exact k 9999
 have eq0 : (Op.equal t (.pointer none) (.pointer none)).run P w = .ok true w := by
  have k : ∀ d, (Op.equalIn (d + 1) t (.pointer none) (.pointer none)).run P w = .ok true w := fun d => by simp [Op.equalIn, run_underlying hu]
  exact k 9999
 have gd : ∀ p, (eqGuard op t x (.const (.pointer none)) (.pointer p) (.pointer none)).run P w = .ok () w := fun p => by
  cases op <;> simp [eqGuard]
 have bo : ∀ p b, (Op.equal t (.pointer p) (.pointer none)).run P w = .ok b w → (binOp op t (.pointer p) (.pointer none)).run P w = .ok (.bool (b != neg)) w := by
  intro p b hb
  cases op <;> simp only [isEqNe, sj, reduceCtorEq] at hop
  ·subst hop; simp only [binOp, Sem.run_bind, hb, Result.andThen_ok]; cases b <;> rfl
  ·subst hop; simp only [binOp, Sem.run_bind, hb, Result.andThen_ok]; cases b <;> rfl
 have fin1 : ∀ ad, a.eval x = .pointer (some ad) → (execOp a.eval o).run P w = .ok (.value (.bool neg)) w := by
  intro ad hax
  unfold execOp
  have := bo (some ad) false (eq1 ad)
  have ec : a.eval (.const (.pointer none)) = .pointer none := rfl
  simp only [ho, hax, ec, Sem.run_bind, gd, Result.andThen_ok, this, Sem.run_pure]
  cases neg <;> rfl
 have fin0 : a.eval x = .pointer none → (execOp a.eval o).run P w = .ok (.value (.bool (!neg))) w := by
  intro hax
  unfold execOp
  have := bo none true eq0
  have ec : a.eval (.const (.pointer none)) = .pointer none := rfl
  simp only [ho, hax, ec, Sem.run_bind, gd, Result.andThen_ok, this, Sem.run_pure]
  cases neg <;> rfl
 generalize hax : a.eval x = ax at hev
 have val : ∀ (r : Bool), VR st.objs E I w (.one (.val (.bool r))) (.bool r) := fun r => .one _ _ (.imm _ _ (.val _ rfl))
 split at he
 ·rename_i k off hx
  rw [hx] at hev
  simp only [sj, pj] at he
  obtain ⟨rfl, rfl⟩ := he
  cases hev with
  | one _ _ hev =>
   cases hev with
   | imm _ _ hi => cases hi
   | ptr => exact ok_step h hd (fin1 _ hax) (Wst.refl _ _) (val _)
 ·rename_i cs off hx
  rw [hx] at hev
  simp only [sj, pj] at he
  obtain ⟨rfl, rfl⟩ := he
  cases hev with
  | one _ _ hev =>
   cases hev with
   | imm _ _ hi => cases hi
   | eptr => exact ok_step h hd (fin1 _ hax) (Wst.refl _ _) (val _)
 ·rename_i k g i off hx
  rw [hx] at hev
  simp only [sj, pj] at he
  obtain ⟨rfl, rfl⟩ := he
  cases hev with
  | one _ _ hev =>
   cases hev with
   | imm _ _ hi => cases hi
   | aptr => exact ok_step h hd (fin1 _ hax) (Wst.refl _ _) (val _)
 ·rename_i hx
  rw [hx] at hev
  simp only [sj, pj] at he
  obtain ⟨rfl, rfl⟩ := he
  cases hev with
  | one _ _ hev =>
   have := LR.ofVal hev
   subst this
   exact ok_step h hd (fin0 hax) (Wst.refl _ _) (val _)
 ·cases he
end
end Go.Rx
