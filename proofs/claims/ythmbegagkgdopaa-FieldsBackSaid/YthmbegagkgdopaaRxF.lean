/-
  Rx, part F: elements, literals, parts of values, slices.
-/
import Derived.Test.YthmbegagkgdopaaRxE
namespace Go.Rx
open Go Go.RowKit

section
variable {P : Program} {C : Oracle} {w0 : World} {bl0 : List Nat} {I0 : Nat → Prop} {nt : Nat} {st : St} {E : Env} {I : Nat → Prop} {a : Act} {w : World}

theorem int_val (h : Rel w0 bl0 I0 nt st E I a w) {x : Operand} {n : Int} (hi : (st.ev x).int? = some n) : ∃ k, a.eval x = .int k n := by
  have hev := h.ev x
  cases hl : st.ev x with
  | one l =>
    rw [hl] at hev hi
    cases l with
    | val u =>
      cases u <;> simp only [PV.int?, Option.some.injEq] at hi <;> try (cases hi; done)
      rename_i k n'
      subst hi
      cases hev with
      | one _ _ hev => exact ⟨k, LR.ofVal hev⟩
    | _ => cases hi
  | _ => rw [hl] at hi; cases hi

theorem iaddrA_ok (h : Rel w0 bl0 I0 nt st E I a w) {o : Oper} (hd : ∀ x, o.dst = some x → x < nt) {t e : TypeId} {x i : Operand} {len sz : Nat} {v : PV} {objs' : Nat → Option Ob}
    (ho : o.op = .indexAddr t x i) (hu : P.underlying t = some (.array len e)) (hsz : szOf P e = some sz)
    (he : eff P C st o.dst (.iaddrA len sz x i) = some (v, objs')) : OpOK P o a w (Left w0 bl0 I0 nt st o a objs' v) := by
  simp only [eff] at he
  split at he
  · rename_i n hn
    obtain ⟨k, hi⟩ := int_val h hn
    split at he
    · rename_i hb
      have key : objs' = st.objs ∧ (match st.ev x with
          | .one (.ptr k o) => v = .one (.ptr k (o + n.toNat * sz))
          | .one (.eptr cs o) => v = .one (.eptr cs (o + n.toNat * sz))
          | .one (.aptr k g i o) => v = .one (.aptr k g i (o + n.toNat * sz))
          | _ => False) := by
        split at he <;> first
          | (simp only [Option.some.injEq, Prod.mk.injEq] at he
             obtain ⟨rfl, rfl⟩ := he
             rename_i hx
             refine ⟨rfl, ?_⟩
             rw [hx])
          | cases he
      obtain ⟨rfl, key⟩ := key
      refine addr_ok h hd (n.toNat * sz) (fun b o' hax => ?_) key
      have hS := sizeOf_run hsz w
      unfold execOp
      simp only [ho, hax, hi, Instr.indexAt, asIntOf, Sem.run_bind, Sem.run_pure, Result.andThen_ok, run_underlying hu, Instr.sureAddr, Sem.run_ite]
      rw [if_pos hb]
      simp only [hS, Result.andThen_ok, add_eq]
    · cases he
  · cases he

theorem iaddrS_ok (h : Rel w0 bl0 I0 nt st E I a w) {o : Oper} (hd : ∀ x, o.dst = some x → x < nt) {t e : TypeId} {x i : Operand} {sz : Nat} {v : PV} {objs' : Nat → Option Ob}
    (ho : o.op = .indexAddr t x i) (hu : P.underlying t = some (.slice e)) (hsz : szOf P e = some sz)
    (he : eff P C st o.dst (.iaddrS sz x i) = some (v, objs')) : OpOK P o a w (Left w0 bl0 I0 nt st o a objs' v) := by
  simp only [eff] at he
  have hS := sizeOf_run hsz w
  split at he
  · rename_i n hn
    obtain ⟨kk, hi⟩ := int_val h hn
    have fin : ∀ (b o' len cap : Nat), 0 ≤ n → n < len → a.eval x = .slice (some ⟨b, o', none⟩) len cap → (execOp a.eval o).run P w = .ok (.value (.pointer (some ⟨b, o' + n.toNat * sz, none⟩))) w := by
      intro b o' len cap h0 h1 hax
      unfold execOp
      simp only [ho, hax, hi, Instr.indexAt, asIntOf, Sem.run_bind, Sem.run_pure, Result.andThen_ok, run_underlying hu, Sem.run_ite]
      rw [if_pos ⟨h0, h1⟩]
      simp only [hS, Result.andThen_ok, add_eq]
    have hev := h.ev x
    generalize hax : a.eval x = ax at hev
    split at he
    · rename_i sz' m get hx
      rw [hx] at hev
      split at he
      · rename_i hc
        obtain ⟨rfl, h0, h1⟩ := hc
        simp only [Option.some.injEq, Prod.mk.injEq] at he
        obtain ⟨rfl, rfl⟩ := he
        cases hev with
        | one _ _ hev =>
          cases hev with
          | imm _ _ hv =>
            cases hv with
            | view _ _ _ base cap vv hcap hl hb hel =>
              rcases hb with hb | ⟨b, o', rfl, hI, hcell⟩
              · omega
              · have hnm : n.toNat < m := by omega
                refine ok_step h hd (fin b o' m cap h0 h1 hax) (Wst.refl _ _) (.one _ _ ?_)
                have := LR.eptr (objs := st.objs) (E := E) (I := I) (w := w) (get n.toNat) 0 b (o' + n.toNat * sz') (fun j => vv n.toNat j) hI
                  (fun j hj => by rw [hl _ hnm] at hj; rw [Nat.add_assoc]; exact hcell _ hnm j hj) (fun j hj => by rw [hl _ hnm] at hj; exact hel _ hnm j hj)
                exact this
      · cases he
    · rename_i k g off m hx
      rw [hx] at hev
      split at he
      · rename_i el sz' g' tot get hk
        split at he
        · rename_i hc
          obtain ⟨rfl, rfl, hot, h0, h1⟩ := hc
          simp only [Option.some.injEq, Prod.mk.injEq] at he
          obtain ⟨rfl, rfl⟩ := he
          cases hev with
          | one _ _ hev =>
            cases hev with
            | imm _ _ hv => cases hv
            | osl _ _ _ _ el2 sz2 g2 m2 get2 base cap' hk2 hg2 hv2 =>
              rw [hk] at hk2
              injection hk2 with hk2
              injection hk2 with q1 q2 q3 q4 q5
              subst q1 q2 q3 q4 q5
              obtain ⟨o', cap, e1, rfl, e2, e3, e4⟩ := hv2 rfl hot
              have hm0 : 0 < m := by omega
              rcases e2 with e2 | e2
              · omega
              · subst e2
                refine ok_step h hd (fin _ _ m cap' h0 h1 hax) (Wst.refl _ _) (.one _ _ (.aptr k g (off + n.toNat) 0 el sz' g tot get _ _ hk (Nat.le_refl _) (fun _ _ => ⟨rfl, ?_⟩)))
                rw [Nat.add_mul, Nat.add_zero]
        · cases he
      · cases he
    · cases he
  · cases he

theorem FG_outside (esz : Nat) (q : Nat) : ∀ (ls : List Value) (k : Nat) (C C' : Array Value), (∀ v ∈ ls, v.cells.size = esz) →
    Instr.fill (fun i => some (i * esz, esz)) C (ls.zipIdx k |>.map fun p => (p.2, p.1)) = some C' → (k + ls.length) * esz ≤ C.size →
    C'.size = C.size ∧ ((q < k * esz ∨ (k + ls.length) * esz ≤ q) → C'.getD q undef = C.getD q undef) ∧
    ∀ i, i < ls.length → ∀ j, j < esz → C'.getD ((k + i) * esz + j) undef = (ls.getD i undef).cells.getD j undef := by
  intro ls
  induction ls with
  | nil =>
    intro k C C' _ hf _
    simp only [List.zipIdx_nil, List.map_nil, Instr.fill, Option.some.injEq] at hf
    subst hf
    exact ⟨rfl, fun _ => rfl, fun i hi => by simp at hi⟩
  | cons v ls ih =>
    intro k C C' hs hf hle
    simp only [List.zipIdx_cons, List.map_cons, Instr.fill] at hf
    have hv := hs v (by simp)
    simp only [List.length_cons] at hle
    have e0 : (k + (ls.length + 1)) * esz = (k + 1 + ls.length) * esz := by congr 1; omega
    have e1 : (k + 1 + ls.length) * esz = k * esz + esz + ls.length * esz := by rw [Nat.add_mul, Nat.add_mul, Nat.one_mul]
    rw [if_neg (by simp [hv]; omega)] at hf
    have hz : v.cells.zipIdx.foldl (fun cs (c, j) => cs.setIfInBounds (k * esz + j) c) C = (v.cells.toList.zipIdx 0).foldl (fun cs (c, j) => cs.setIfInBounds (k * esz + j) c) C := by
      rw [← Array.foldl_toList, Array.toList_zipIdx]
    rw [hz] at hf
    obtain ⟨f1, f2⟩ := foldl_set (k * esz) v.cells.toList 0 C (by simp [hv]; omega)
    obtain ⟨i1, i2, i3⟩ := ih (k + 1) _ C' (fun v hv => hs v (by simp [hv])) hf (by rw [f1]; omega)
    simp only [Nat.add_zero, Array.length_toList, hv] at f2
    refine ⟨by rw [i1, f1], fun hq => ?_, fun i hi j hj => ?_⟩
    · simp only [List.length_cons] at hq
      rw [i2 (by rw [Nat.add_mul, Nat.one_mul]; omega), f2, if_neg (by omega)]
    · cases i with
      | zero =>
        have hout : ∀ qq, qq < (k + 1) * esz → C'.getD qq undef = ((v.cells.toList.zipIdx 0).foldl (fun cs (c, j) => cs.setIfInBounds (k * esz + j) c) C).getD qq undef := by
          intro qq hqq
          have := ih (k + 1) _ C' (fun v hv => hs v (by simp [hv])) hf (by rw [f1]; omega)
          have key : ∀ (q : Nat), (q < (k + 1) * esz ∨ (k + 1 + ls.length) * esz ≤ q) → C'.getD q undef = ((v.cells.toList.zipIdx 0).foldl (fun cs (c, j) => cs.setIfInBounds (k * esz + j) c) C).getD q undef := by
            intro q hq
            clear ih this i2 i3
            revert hf
            generalize (v.cells.toList.zipIdx 0).foldl (fun cs (c, j) => cs.setIfInBounds (k * esz + j) c) C = D at f1 f2
            intro hf
            exact fill_outside esz ls (k + 1) D C' (fun v hv => hs v (by simp [hv])) hf (by rw [f1]; omega) q hq
          exact key qq (.inl hqq)
        rw [Nat.add_zero, hout _ (by rw [Nat.add_mul, Nat.one_mul]; omega), f2, if_pos (by omega)]
        simp
      | succ i =>
        have := i3 i (by simpa using hi) j hj
        rw [show k + (i + 1) = k + 1 + i by omega]
        simpa using this
where
  fill_outside (esz : Nat) : ∀ (ls : List Value) (k : Nat) (C C' : Array Value), (∀ v ∈ ls, v.cells.size = esz) →
    Instr.fill (fun i => some (i * esz, esz)) C (ls.zipIdx k |>.map fun p => (p.2, p.1)) = some C' → (k + ls.length) * esz ≤ C.size →
    ∀ q, (q < k * esz ∨ (k + ls.length) * esz ≤ q) → C'.getD q undef = C.getD q undef
  | [], k, C, C', _, hf, _, q, _ => by
    simp only [List.zipIdx_nil, List.map_nil, Instr.fill, Option.some.injEq] at hf
    subst hf; rfl
  | v :: ls, k, C, C', hs, hf, hle, q, hq => by
    simp only [List.zipIdx_cons, List.map_cons, Instr.fill] at hf
    have hv := hs v (by simp)
    simp only [List.length_cons] at hle hq
    have e0 : (k + (ls.length + 1)) * esz = (k + 1 + ls.length) * esz := by congr 1; omega
    have e1 : (k + 1 + ls.length) * esz = k * esz + esz + ls.length * esz := by rw [Nat.add_mul, Nat.add_mul, Nat.one_mul]
    rw [if_neg (by simp [hv]; omega)] at hf
    have hz : v.cells.zipIdx.foldl (fun cs (c, j) => cs.setIfInBounds (k * esz + j) c) C = (v.cells.toList.zipIdx 0).foldl (fun cs (c, j) => cs.setIfInBounds (k * esz + j) c) C := by
      rw [← Array.foldl_toList, Array.toList_zipIdx]
    rw [hz] at hf
    obtain ⟨f1, f2⟩ := foldl_set (k * esz) v.cells.toList 0 C (by simp [hv]; omega)
    simp only [Nat.add_zero, Array.length_toList, hv] at f2
    rw [fill_outside esz ls (k + 1) _ C' (fun v hv => hs v (by simp [hv])) hf (by rw [f1]; omega) q (by rw [Nat.add_mul, Nat.one_mul]; omega), f2, if_neg (by omega)]

/-- The whole of a slice literal. -/
theorem fill_some (esz : Nat) : ∀ (ls : List Value) (k : Nat) (C : Array Value), (∀ v ∈ ls, v.cells.size = esz) → (k + ls.length) * esz ≤ C.size →
    ∃ C', Instr.fill (fun i => some (i * esz, esz)) C (ls.zipIdx k |>.map fun p => (p.2, p.1)) = some C'
  | [], k, C, _, _ => ⟨C, rfl⟩
  | v :: ls, k, C, hs, hle => by
    simp only [List.zipIdx_cons, List.map_cons, Instr.fill]
    have hv := hs v (by simp)
    simp only [List.length_cons] at hle
    have e0 : (k + (ls.length + 1)) * esz = (k + 1 + ls.length) * esz := by congr 1; omega
    have e1 : (k + 1 + ls.length) * esz = k * esz + esz + ls.length * esz := by rw [Nat.add_mul, Nat.add_mul, Nat.one_mul]
    rw [if_neg (by simp [hv]; omega)]
    have hz : v.cells.zipIdx.foldl (fun cs (c, j) => cs.setIfInBounds (k * esz + j) c) C = (v.cells.toList.zipIdx 0).foldl (fun cs (c, j) => cs.setIfInBounds (k * esz + j) c) C := by
      rw [← Array.foldl_toList, Array.toList_zipIdx]
    rw [hz]
    obtain ⟨f1, _⟩ := foldl_set (k * esz) v.cells.toList 0 C (by simp [hv]; omega)
    exact fill_some esz ls (k + 1) _ (fun v hv => hs v (by simp [hv])) (by rw [f1]; omega)

theorem cellsL_ok (h : Rel w0 bl0 I0 nt st E I a w) (esz : Nat) : ∀ (xs : List Operand) (l : List (List Lf)), cellsL st esz xs = some l →
    l.length = xs.length ∧ (∀ v ∈ xs.map a.eval, v.cells.size = esz ∧ ∀ u ∈ v.cells.toList, u.oneCell' = true) ∧ ∀ i, i < l.length → (l.getD i []).length = esz ∧ ∀ j, j < esz → LR st.objs E I w ((l.getD i []).getD j default) (((xs.map a.eval).getD i undef).cells.getD j undef)
  | [], l, hl => by
    simp only [cellsL, Option.some.injEq] at hl
    subst hl
    exact ⟨rfl, fun v hv => by simp at hv, fun i hi => by simp at hi⟩
  | x :: xs, l, hl => by
    simp only [cellsL] at hl
    split at hl
    · rename_i new l' hnew hl'
      split at hl
      · rename_i hlen
        simp only [Option.some.injEq] at hl
        subst hl
        obtain ⟨i1, i2, i3⟩ := cellsL_ok h esz xs l' hl'
        obtain ⟨c1, c2⟩ := (h.ev x).cells hnew
        refine ⟨by simp [i1], fun v hv => ?_, fun i hi => ?_⟩
        · simp only [List.map_cons, List.mem_cons] at hv
          rcases hv with rfl | hv
          · exact ⟨by omega, (h.ev x).cells_one hnew⟩
          · exact i2 v hv
        · cases i with
          | zero => exact ⟨hlen, fun j hj => c2 j (by omega)⟩
          | succ i => exact i3 i (by simpa using hi)
      · cases hl
    · cases hl

theorem zip_range : ∀ (ps : List (Nat × Operand)) (k : Nat), ps.map (·.1) = (List.range' k ps.length) → ps = ((ps.map (·.2)).zipIdx k).map fun p => (p.2, p.1)
  | [], _, _ => rfl
  | (i, x) :: ps, k, h => by
    simp only [List.map_cons, List.length_cons, List.range'_succ, List.cons.injEq] at h
    obtain ⟨rfl, h⟩ := h
    simp only [List.map_cons, List.zipIdx_cons, List.cons.injEq, true_and]
    exact zip_range ps (i + 1) h

theorem map_zipIdx (f : Operand → Value) : ∀ (xs : List Operand) (k : Nat), ((xs.zipIdx k).map fun p => (p.2, p.1)).map (fun p => (p.1, f p.2)) = ((xs.map f).zipIdx k).map fun p => (p.2, p.1)
  | [], _ => rfl
  | x :: xs, k => by simp only [List.zipIdx_cons, List.map_cons, List.cons.injEq, true_and]; exact map_zipIdx f xs (k + 1)

/-- A new row that nothing writes any more. -/
theorem view_new (h : Rel w0 bl0 I0 nt st E I a w) {o : Oper} (hd : ∀ x, o.dst = some x → x < nt) {w' : World} (hw : Wst (fun _ => False) w w') (hgrow : w.heap.size < w'.heap.size) {sz n cap : Nat} {get : Nat → List Lf} {vv : Nat → Nat → Value}
    (hcap : n ≤ cap) (hlen : ∀ i, i < n → (get i).length = sz) (hcell : ∀ i, i < n → ∀ j, j < sz → w'.cell? ⟨w.heap.size, i * sz + j, none⟩ = some (vv i j))
    (hel : ∀ i, i < n → ∀ j, j < sz → LRi (fun b => I b ∨ b = w.heap.size) w' ((get i).getD j default) (vv i j))
    (hrun : (execOp a.eval o).run P w = .ok (.value (.slice (some ⟨w.heap.size, 0, none⟩) n cap)) w') : OpOK P o a w (Left w0 bl0 I0 nt st o a st.objs (.one (.view sz n get))) := by
  have m : Move st.objs E I w st.objs E (fun b => I b ∨ b = w.heap.size) w' := ⟨Ext.refl _ _, fun _ h => .inl h, fun b hb => hw.block b (h.Ilt b hb) id⟩
  refine OpOK.value (w' := w') (val := .slice (some ⟨w.heap.size, 0, none⟩) n cap) hrun ⟨E, fun b => I b ∨ b = w.heap.size, ?_⟩
  have hst := h.step hw o.dst hd .none (.slice (some ⟨w.heap.size, 0, none⟩) n cap) (.none _)
  have hval : VR st.objs E (fun b => I b ∨ b = w.heap.size) w' (.one (.view sz n get)) (.slice (some ⟨w.heap.size, 0, none⟩) n cap) :=
    .one _ _ (.imm _ _ (.view sz n _ _ cap vv hcap hlen (.inr ⟨w.heap.size, 0, rfl, .inr rfl, fun i hi j hj => by rw [Nat.zero_add]; exact hcell i hi j hj⟩) hel))
  refine ⟨by cases o.dst <;> exact h.defers, by cases o.dst <;> simp [Act.put, h.tsize], ?_, ?_, ?_, ?_, ?_, ?_, ?_, ?_, ?_, hst.fr, by rw [put_objs]; exact h.arr, by rw [put_objs]; exact h.par, h.ntb⟩
  · rw [put_objs]; exact put_tmps (st := st) h.tsize o.dst hd _ _ (fun t => m.vr (h.tmps t)) hval
  · rw [put_objs]; exact fun k ob hk => m.obj rfl rfl (hw.block _ (h.lt k (by rw [hk]; rfl)) id) (h.objs k ob hk)
  · rw [put_objs]; exact h.inj
  · rw [put_objs]; exact fun k hk hI => by
      rcases hI with hI | hI
      · exact h.imm k hk hI
      · have := h.lt k hk; omega
  · rw [put_objs]; exact fun k hk => Nat.lt_of_lt_of_le (h.lt k hk) hw.size
  · rw [put_objs]; exact h.own
  · intro b hb
    rcases hb with hb | rfl
    · exact Nat.lt_of_lt_of_le (h.Ilt b hb) hw.size
    · exact hgrow
  · exact fun b hb => .inl (h.Iup b hb)
  · intro b hb
    rcases hb with hb | rfl
    · exact h.Inew b hb
    · exact .inr h.fr.size

theorem bslice_ok (h : Rel w0 bl0 I0 nt st E I a w) {o : Oper} (hd : ∀ x, o.dst = some x → x < nt) {t e : TypeId} {len : Nat} {parts : Array (Nat × Operand)} {ie : TypeInfo} {z : Value} {v : PV} {objs' : Nat → Option Ob}
    (ho : o.op = .buildSlice t len parts) (hu : P.underlying t = some (.slice e)) (hie : P.info? e = some ie) (hz : ie.zero = some z) (hsmall : ¬ len * ie.size > 2 ^ 24) (hpos : ¬ len * ie.size = 0)
    (hps : parts.toList.map (·.1) = List.range len)
    (he : eff P C st o.dst (.bslice e ie.size (parts.toList.map (·.2))) = some (v, objs')) : OpOK P o a w (Left w0 bl0 I0 nt st o a objs' v) := by
  simp only [eff] at he
  split at he
  · rename_i l hl
    split at he
    · rename_i hcl
      simp only [Option.some.injEq, Prod.mk.injEq] at he
      obtain ⟨rfl, rfl⟩ := he
      obtain ⟨l1, l2, l3⟩ := cellsL_ok h ie.size _ l hl
      have hlen : parts.toList.length = len := by
        have := congrArg List.length hps
        simpa using this
      have hll : l.length = len := by rw [l1, List.length_map, hlen]
      have hps' : parts.toList = ((parts.toList.map (·.2)).zipIdx 0).map fun p => (p.2, p.1) := zip_range _ 0 (by rw [hps, hlen, List.range_eq_range'])
      have hvals : (parts.map fun (i, x) => (i, a.eval x)).toList = (((parts.toList.map (·.2)).map a.eval).zipIdx 0).map fun p => (p.2, p.1) := by
        rw [← map_zipIdx, ← hps', Array.toList_map]
      have hC0 : ((Array.range (len * ie.size)).map (z.cells[· % z.cells.size]!)).size = len * ie.size := by simp
      obtain ⟨C', hC'⟩ := fill_some ie.size ((parts.toList.map (·.2)).map a.eval) 0 ((Array.range (len * ie.size)).map (z.cells[· % z.cells.size]!)) (fun v hv => (l2 v hv).1) (by rw [hC0]; simp [hlen])
      have hsz' : (0 + ((parts.toList.map (·.2)).map a.eval).length) * ie.size ≤ ((Array.range (len * ie.size)).map (z.cells[· % z.cells.size]!)).size := by rw [hC0]; simp [hlen]
      obtain ⟨g1, _, g3⟩ := FG_outside ie.size 0 ((parts.toList.map (·.2)).map a.eval) 0 _ C' (fun v hv => (l2 v hv).1) hC' hsz'
      have hrun := run_buildSlice (P := P) w t e len (parts.map fun (i, x) => (i, a.eval x)) C' ie z hu hie hz hsmall hpos (by rw [hvals]; exact hC')
      have hw : Wst (fun _ => False) w (w.alloc (.cells C' e)) := Wst.alloc _ _ _
      have m : Move st.objs E I w st.objs E (fun b => I b ∨ b = w.heap.size) (w.alloc (.cells C' e)) := ⟨Ext.refl _ _, fun _ h => .inl h, fun b hb => hw.block b (h.Ilt b hb) id⟩
      refine OpOK.value (w' := w.alloc (.cells C' e)) (val := .slice (some ⟨w.heap.size, 0, none⟩) len len) ?_ ⟨E, fun b => I b ∨ b = w.heap.size, ?_⟩
      · unfold execOp
        simp only [ho, Sem.run_bind, hrun, Result.andThen_ok]; rfl
      · have hst := h.step hw o.dst hd .none (.slice (some ⟨w.heap.size, 0, none⟩) len len) (.none _)
        have hval : VR st.objs E (fun b => I b ∨ b = w.heap.size) (w.alloc (.cells C' e)) (.one (.view ie.size l.length fun i => l.getD i [])) (.slice (some ⟨w.heap.size, 0, none⟩) len len) := by
          rw [hll]
          refine .one _ _ (.imm _ _ (.view ie.size len _ _ len (fun i j => C'.getD (i * ie.size + j) undef) (Nat.le_refl _) (fun i hi => (l3 i (by omega)).1) (.inr ⟨w.heap.size, 0, rfl, .inr rfl, fun i hi j hj => ?_⟩) (fun i hi j hj => ?_)))
          · have hb : i * ie.size + j < C'.size := by
              rw [g1, hC0]
              calc i * ie.size + j < i * ie.size + ie.size := by omega
                _ = (i + 1) * ie.size := by rw [Nat.add_mul, Nat.one_mul]
                _ ≤ len * ie.size := Nat.mul_le_mul_right _ hi
            rw [Nat.zero_add, cell_of_row _ _ _ C' e (0, 0) (heap_alloc_new w _), Array.getD_eq_getD_getElem?, Array.getElem?_eq_getElem hb]
            rfl
          · have e3 := g3 i (by rw [List.length_map, List.length_map, hlen]; exact hi) j hj
            rw [Nat.zero_add] at e3
            show LRi _ _ _ (C'.getD (i * ie.size + j) undef)
            rw [e3]
            have hlr := (l3 i (by omega)).2 j hj
            refine m.lri (LR.clean hlr ?_)
            have hmem : (l.getD i []) ∈ l := by rw [List.getD_eq_getElem?_getD, List.getElem?_eq_getElem (by omega)]; simp
            have hmem2 : ((l.getD i []).getD j default) ∈ l.getD i [] := by
              rw [List.getD_eq_getElem?_getD (l := l.getD i []), List.getElem?_eq_getElem (by rw [(l3 i (by omega)).1]; exact hj)]; simp
            exact List.all_eq_true.1 (List.all_eq_true.1 hcl _ hmem) _ hmem2
        refine ⟨by cases o.dst <;> exact h.defers, by cases o.dst <;> simp [Act.put, h.tsize], ?_, ?_, ?_, ?_, ?_, ?_, ?_, ?_, ?_, hst.fr, by rw [put_objs]; exact h.arr, by rw [put_objs]; exact h.par, h.ntb⟩
        · rw [put_objs]; exact put_tmps (st := st) h.tsize o.dst hd _ _ (fun t => m.vr (h.tmps t)) hval
        · rw [put_objs]; exact fun k ob hk => m.obj rfl rfl (hw.block _ (h.lt k (by rw [hk]; rfl)) id) (h.objs k ob hk)
        · rw [put_objs]; exact h.inj
        · rw [put_objs]; exact fun k hk hI => by
            rcases hI with hI | hI
            · exact h.imm k hk hI
            · have := h.lt k hk; omega
        · rw [put_objs]; exact fun k hk => Nat.lt_of_lt_of_le (h.lt k hk) hw.size
        · rw [put_objs]; exact h.own
        · intro b hb
          rcases hb with hb | rfl
          · exact Nat.lt_of_lt_of_le (h.Ilt b hb) hw.size
          · simp
        · exact fun b hb => .inl (h.Iup b hb)
        · intro b hb
          rcases hb with hb | rfl
          · exact h.Inew b hb
          · exact .inr h.fr.size
    · cases he
  · cases he

end
end Go.Rx
