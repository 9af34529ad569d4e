/- No condition. -/
import Derived.Test.YtobeamaaifgllaaRxI
namespace Go.Rx
open Go Go.RowKit
structure RenR (km : Nat → Option Nat) (gm : Nat → Nat → Option Nat) (objs objs' : Nat → Option Ob) (E E' : Env) : Prop where
 h : ∀ k k' o, km k = some k' → objs k = some o → ∃ o', objs' k' = some o' ∧ E'.bl k' = E.bl k ∧ E'.hv k' = E.hv k ∧
  match o with
  | .cells _ => ∃ cs', o' = .cells cs'
  | .tcells t _ => ∃ cs', o' = .tcells t cs'
  | .arr el sz g n _ => ∃ g' get', o' = .arr el sz g' n get' ∧ ∀ x y, gm k x = some y → x ≤ g → y ≤ g' ∧ (y = g' → x = g)
  | .map _ => ∃ es', o' = .map es'
theorem RenR.var {km : Nat → Option Nat} {gm : Nat → Nat → Option Nat} {objs objs' : Nat → Option Ob} {E E' : Env} (r : RenR km gm objs objs' E E') {k k' : Nat} {o : Ob} (hk' : km k = some k') (hk : objs k = some o) (hv : o.var = true) :
  ∃ o', objs' k' = some o' ∧ o'.var = true ∧ E'.bl k' = E.bl k := by
 obtain ⟨o', h1, h2, _, h4⟩ := r.h _ _ _ hk' hk
 cases o with
 | cells cs => obtain ⟨cs', rfl⟩ := h4; exact ⟨_, h1, rfl, h2⟩
 | tcells t cs => obtain ⟨cs', rfl⟩ := h4; exact ⟨_, h1, rfl, h2⟩
 | arr => cases hv
 | map => cases hv
theorem renL_at {km : Nat → Option Nat} {gm : Nat → Nat → Option Nat} : ∀ (cs cs' : List Lf), Lf.ren.renL km gm cs = some cs' → cs'.length = cs.length ∧ ∀ j, j < cs.length → (cs.getD j default).ren km gm = some (cs'.getD j default)
 | [], cs', h => by
  simp only [Lf.ren.renL, sj] at h; subst h
  exact ⟨rfl, fun j hj => by simp at hj⟩
 | l :: ls, cs', h => by
  simp only [Lf.ren.renL] at h
  split at h
  ·rename_i x y hx hy
   simp only [sj] at h; subst h
   obtain ⟨i1, i2⟩ := renL_at ls y hy
   refine ⟨by simp [i1], fun j hj => ?_⟩
   cases j with
   | zero => exact hx
   | succ j => exact i2 j (by simpa using hj)
  ·cases h
section
variable {km : Nat → Option Nat} {gm : Nat → Nat → Option Nat} {objs objs' : Nat → Option Ob} {E E' : Env} {I I' : Nat → Prop} {w : World}
theorem LR.ren (r : RenR km gm objs objs' E E') (hI : ∀ b, I b → I' b) {l : Lf} {v : Value} (h : LR objs E I w l v) : ∀ l', l.ren km gm = some l' → LR objs' E' I' w l' v := by
 induction h with
 | imm l v h =>
  intro l' hl
  cases h with
  | val v hv =>
   simp only [Lf.ren, sj] at hl; subst hl
   exact .imm _ _ (.val _ hv)
  | view sz n get base cap vv a b c d =>
   simp only [Lf.ren, sj] at hl; subst hl
   exact .imm _ _ ((LRi.view sz n get base cap vv a b c d).mono hI (fun _ _ => rfl))
 | ptr k off o hk hkv =>
  intro l' hl
  simp only [Lf.ren, mj] at hl
  obtain ⟨k', hk', rfl⟩ := hl
  obtain ⟨o', h1, h3, h2⟩ := r.var hk' hk hkv
  rw [← h2]; exact .ptr k' off o' h1 h3
 | eptr cs off b o vv hb hc hl2 =>
  intro l' hl
  simp only [Lf.ren, sj] at hl; subst hl
  exact .eptr cs off b o vv (hI b hb) hc (fun j hj => (hl2 j hj).mono hI (fun _ _ => rfl))
 | aptr k g i off el sz g' n get b o hk hg hv =>
  intro l' hl
  simp only [Lf.ren] at hl
  split at hl
  ·rename_i k' x hk' hx
   simp only [sj] at hl; subst hl
   obtain ⟨o', h1, h2, h3, g2, get2, rfl, hgm⟩ := r.h _ _ _ hk' hk
   obtain ⟨hle, heq⟩ := hgm _ _ hx hg
   refine .aptr k' x i off el sz g2 n get2 b o h1 hle (fun e hi => ?_)
   have := heq e
   rw [h2]; exact hv this hi
  ·cases hl
 | osl k g off n el sz g' m get base cap' hk hg hv =>
  intro l' hl
  simp only [Lf.ren] at hl
  split at hl
  ·rename_i k' x hk' hx
   simp only [sj] at hl; subst hl
   obtain ⟨o', h1, h2, h3, g2, get2, rfl, hgm⟩ := r.h _ _ _ hk' hk
   obtain ⟨hle, heq⟩ := hgm _ _ hx hg
   refine .osl k' x off n el sz g2 m get2 base cap' h1 hle (fun e hot => ?_)
   have := heq e
   rw [h2, h3]; exact hv this hot
  ·cases hl
 | csl k sz off n cap o hk hkv hc =>
  intro l' hl
  simp only [Lf.ren, mj] at hl
  obtain ⟨k', hk', rfl⟩ := hl
  obtain ⟨o', h1, h3, h2⟩ := r.var hk' hk hkv
  rw [← h2]; exact .csl k' sz off n cap o' h1 h3 hc
 | mp k es hk =>
  intro l' hl
  simp only [Lf.ren, mj] at hl
  obtain ⟨k', hk', rfl⟩ := hl
  obtain ⟨o', h1, h2, _, cs', rfl⟩ := r.h _ _ _ hk' hk
  rw [← h2]; exact .mp k' cs' h1
 | fn f caps C hC _ ih =>
  intro l' hl
  simp only [Lf.ren, mj] at hl
  obtain ⟨caps', hc', rfl⟩ := hl
  obtain ⟨i1, i2⟩ := renL_at caps caps' hc'
  exact .fn f caps' C (by rw [i1]; exact hC) (fun j hj => ih j (by omega) _ (i2 j (by omega)))
theorem VR.ren1 (r : RenR km gm objs objs' E E') (hI : ∀ b, I b → I' b) {p p' : PV} {v : Value} (h : VR objs E I w p v) (hp : p.ren1 km gm = some p') : VR objs' E' I' w p' v := by
 cases h with
 | none => simp [PV.ren1] at hp
 | one l v h =>
  simp only [PV.ren1, mj] at hp
  obtain ⟨l', h1, rfl⟩ := hp
  exact .one _ _ (h.ren r hI _ h1)
 | agg cs C hC h =>
  simp only [PV.ren1, mj] at hp
  obtain ⟨cs', h1, rfl⟩ := hp
  obtain ⟨i1, i2⟩ := renL_at cs cs' h1
  exact .agg _ _ (by rw [i1]; exact hC) (fun j hj => (h j (by omega)).ren r hI _ (i2 j (by omega)))
 | tup => simp [PV.ren1] at hp
theorem renPs_at : ∀ (ps ps' : List PV), renPs km gm ps = some ps' → ps'.length = ps.length ∧ ∀ j, j < ps.length → (ps.getD j .none).ren1 km gm = some (ps'.getD j .none)
 | [], ps', h => by
  simp only [renPs, sj] at h; subst h
  exact ⟨rfl, fun j hj => by simp at hj⟩
 | p :: ps, ps', h => by
  simp only [renPs] at h
  split at h
  ·rename_i x y hx hy
   simp only [sj] at h; subst h
   obtain ⟨i1, i2⟩ := renPs_at ps y hy
   refine ⟨by simp [i1], fun j hj => ?_⟩
   cases j with
   | zero => exact hx
   | succ j => exact i2 j (by simpa using hj)
  ·cases h
theorem VR.ren (r : RenR km gm objs objs' E E') (hI : ∀ b, I b → I' b) {p p' : PV} {v : Value} (h : VR objs E I w p v) (hp : p.ren km gm = some p') : VR objs' E' I' w p' v := by
 cases h with
 | none => simp [PV.ren, PV.ren1] at hp
 | one l v h => exact (VR.one l v h).ren1 r hI hp
 | agg cs C hC h => exact (VR.agg cs C hC h).ren1 r hI hp
 | tup vs C hC h =>
  simp only [PV.ren, mj] at hp
  obtain ⟨vs', h1, rfl⟩ := hp
  obtain ⟨i1, i2⟩ := renPs_at vs vs' h1
  exact .tup _ _ (by rw [i1]; exact hC) (fun j hj => (h j (by omega)).ren1 r hI (i2 j (by omega)))
theorem ObjR.ren (r : RenR km gm objs objs' E E') (hI : ∀ b, I b → I' b) {k k' : Nat} {o o' : Ob} (hb : E'.bl k' = E.bl k) (hh : E'.hv k' = E.hv k) (ho : o.ren km gm k = some o') (h : ObjR objs E I w k o) : ObjR objs' E' I' w k' o' := by
 cases o with
 | cells cs =>
  simp only [Ob.ren, mj] at ho
  obtain ⟨cs', h1, rfl⟩ := ho
  obtain ⟨i1, i2⟩ := renL_at cs cs' h1
  obtain ⟨C, t, q1, q2, q3⟩ := h
  exact ⟨C, t, by rw [hb]; exact q1, by rw [i1]; exact q2, fun j hj => (q3 j (by omega)).ren r hI _ (i2 j (by omega))⟩
 | tcells t cs =>
  simp only [Ob.ren, mj] at ho
  obtain ⟨cs', h1, rfl⟩ := ho
  obtain ⟨i1, i2⟩ := renL_at cs cs' h1
  obtain ⟨C, q1, q2, q3⟩ := h
  exact ⟨C, by rw [hb]; exact q1, by rw [i1]; exact q2, fun j hj => (q3 j (by omega)).ren r hI _ (i2 j (by omega))⟩
 | arr el sz g n get =>
  simp only [Ob.ren, mj] at ho
  obtain ⟨g', h1, rfl⟩ := ho
  obtain ⟨xs, q1, q2, q3, q4⟩ := h
  exact ⟨xs, by rw [hh]; exact q1, by rw [hb, hh]; exact q2, q3, fun i hi => ⟨(q4 i hi).1, fun j hj => ((q4 i hi).2 j hj).mono hI (fun _ _ => rfl)⟩⟩
 | map es =>
  simp only [Ob.ren, sj] at ho
  subst ho
  obtain ⟨ents, clock, q1, q2, q3⟩ := h
  have mv : Move (fun _ => none) noEnv I w (fun _ => none) noEnv I' w := ⟨Ext.refl _ _, hI, fun _ _ => rfl⟩
  exact ⟨ents, clock, by rw [hb]; exact q1, q2, fun i hi => ⟨mv.vr (q3 i hi).1, mv.vr (q3 i hi).2⟩⟩
theorem flatL_at : ∀ (cs : List Lf), Lf.flat.flatL cs = true → ∀ j, j < cs.length → (cs.getD j default).flat = true
 | [], _, j, hj => by simp at hj
 | l :: ls, h, j, hj => by
  simp only [Lf.flat.flatL, Bool.and_eq_true] at h
  cases j with
  | zero => exact h.1
  | succ j => exact flatL_at ls h.2 j (by simpa using hj)
theorem LR.reflat {l : Lf} {v : Value} (h : LR objs E I w l v) : l.flat = true → LR objs E I' w l v := by
 induction h with
 | imm l v h =>
  intro hf
  cases h with
  | val v hv => exact .imm _ _ (.val _ hv)
  | view => simp [Lf.flat] at hf
 | ptr k off cs hk hkv => intro _; exact .ptr k off cs hk hkv
 | eptr => intro hf; simp [Lf.flat] at hf
 | aptr k g i off el sz g' n get b o hk hg hv => intro _; exact .aptr k g i off el sz g' n get b o hk hg hv
 | osl k g off n el sz g' m get base cap' hk hg hv => intro _; exact .osl k g off n el sz g' m get base cap' hk hg hv
 | csl k sz off n cap cs hk hkv hc => intro _; exact .csl k sz off n cap cs hk hkv hc
 | mp k es hk => intro _; exact .mp k es hk
 | fn f caps C hC _ ih =>
  intro hf
  simp only [Lf.flat] at hf
  exact .fn f caps C hC (fun j hj => ih j hj (flatL_at caps hf j hj))
theorem VR.reflat {p : PV} {v : Value} (h : VR objs E I w p v) (hf : p.flat = true) : VR objs E I' w p v := by
 cases h with
 | none => simp [PV.flat] at hf
 | one l v h => exact .one _ _ (h.reflat hf)
 | agg cs C hC h => exact .agg _ _ hC (fun j hj => (h j hj).reflat (flatL_at cs hf j hj))
 | tup vs C hC h =>
  simp only [PV.flat] at hf
  refine .tup _ _ hC (fun j hj => ?_)
  have key : ∀ (vs : List PV), PV.flat.flatT vs = true → ∀ j, j < vs.length → (∃ l, vs.getD j .none = .one l ∧ l.flat = true) ∨ (∃ cs, vs.getD j .none = .agg cs ∧ Lf.flat.flatL cs = true) := by
   intro vs
   induction vs with
   | nil => intro _ j hj; simp at hj
   | cons p ps ih =>
    intro hf j hj
    cases p with
    | one l =>
     simp only [PV.flat.flatT, Bool.and_eq_true] at hf
     cases j with
     | zero => exact .inl ⟨l, rfl, hf.1⟩
     | succ j => exact ih hf.2 j (by simpa using hj)
    | agg cs =>
     simp only [PV.flat.flatT, Bool.and_eq_true] at hf
     cases j with
     | zero => exact .inr ⟨cs, rfl, hf.1⟩
     | succ j => exact ih hf.2 j (by simpa using hj)
    | none => simp [PV.flat.flatT] at hf
    | tup => simp [PV.flat.flatT] at hf
  have hv := h j hj
  rcases key vs hf j hj with ⟨l, e, hl⟩ | ⟨cs, e, hl⟩
  ·rw [e] at hv ⊢
   generalize C.getD j undef = u at hv
   cases hv with
   | one _ _ hv => exact .one _ _ (hv.reflat hl)
  ·rw [e] at hv ⊢
   generalize C.getD j undef = u at hv
   cases hv with
   | agg _ _ hC2 hl2 => exact .agg _ _ hC2 (fun j hj => (hl2 j hj).reflat (flatL_at cs hl j hj))
theorem ObjR.reflat {k : Nat} {o : Ob} (hf : o.flat = true) (h : ObjR objs E I w k o) : ObjR objs E I' w k o := by
 cases o with
 | cells cs =>
  obtain ⟨C, t, q1, q2, q3⟩ := h
  exact ⟨C, t, q1, q2, fun j hj => (q3 j hj).reflat (flatL_at cs hf j hj)⟩
 | tcells t cs =>
  obtain ⟨C, q1, q2, q3⟩ := h
  exact ⟨C, q1, q2, fun j hj => (q3 j hj).reflat (flatL_at cs hf j hj)⟩
 | arr el sz g n get =>
  obtain ⟨xs, q1, q2, q3, q4⟩ := h
  refine ⟨xs, q1, q2, q3, fun i hi => ⟨(q4 i hi).1, fun j hj => ?_⟩⟩
  have hfi : Lf.flat.flatL (get i) = true := List.all_eq_true.1 hf i (List.mem_range.2 hi)
  have hfj := flatL_at (get i) hfi j (by rw [(q4 i hi).1]; exact hj)
  have hv := (q4 i hi).2 j hj
  generalize (get i).getD j default = lj at hv hfj
  generalize xs.getD (i * sz + j) undef = u at hv
  cases hv with
  | val _ hv => exact .val _ hv
  | view => simp [Lf.flat] at hfj
 | map es => cases hf
theorem LR.wider (hI : ∀ b, I b → I' b) {l : Lf} {v : Value} (h : LR objs E I w l v) : LR objs E I' w l v :=
 (Move.mk (Ext.refl objs E) hI (fun _ _ => rfl)).lr h
theorem VR.wider (hI : ∀ b, I b → I' b) {p : PV} {v : Value} (h : VR objs E I w p v) : VR objs E I' w p v :=
 (Move.mk (Ext.refl objs E) hI (fun _ _ => rfl)).vr h
theorem ObjR.wider (hI : ∀ b, I b → I' b) {k : Nat} {o : Ob} (h : ObjR objs E I w k o) : ObjR objs E I' w k o :=
 (Move.mk (Ext.refl objs E) hI (fun _ _ => rfl)).obj rfl rfl (fun _ => rfl) h
end
section
variable {m : Nat} {os : List Ob} {E : Env} {I I' : Nat → Prop} {w : World}
theorem LR.frz (hob : ∀ k o, objs0 os k = some o → ObjR (objs0 os) E I w k o) (hI : ∀ b, I b → I' b)
  (hF : ∀ k el sz g n get, pbase + m ≤ k → objs0 os k = some (.arr el sz g n get) → E.hv k ≠ .slice none 0 0 → I' (E.bl k)) {l l' : Lf} {v : Value} (h : LR (objs0 os) E I w l v) (hl : l.frz m os = some l') : LR (objs0 os) E I' w l' v := by
 have keep : l.frz m os = some l → LR (objs0 os) E I' w l' v := fun e => by
  rw [e] at hl; injection hl with hl; subst hl; exact h.wider hI
 cases l with
 | osl k g off n =>
  simp only [Lf.frz] at hl
  split at hl
  ·rename_i hk
   have hk := Nat.le_of_ble_eq_true hk
   split at hl
   ·rename_i el sz g' tot get ho
    split at hl
    ·rename_i hc
     obtain ⟨rfl, hot⟩ := hc
     simp only [sj] at hl; subst hl
     have ho' : objs0 os k = some (.arr el sz g tot get) := by unfold objs0; rw [if_pos (by omega)]; exact ho
     exact .imm _ _ (view_of_osl (fun _ _ _ _ _ _ hk => hob _ _ hk) ho' hot h hI (fun hnn => hF k _ _ _ _ _ hk ho' hnn))
    ·cases hl
   ·cases hl
  ·simp only [sj] at hl; subst hl; exact h.wider hI
 | _ => exact keep rfl
theorem frzL_at : ∀ (cs cs' : List Lf), frzL m os cs = some cs' → cs'.length = cs.length ∧ ∀ j, j < cs.length → (cs.getD j default).frz m os = some (cs'.getD j default)
 | [], cs', h => by
  simp only [frzL, sj] at h; subst h
  exact ⟨rfl, fun j hj => by simp at hj⟩
 | l :: ls, cs', h => by
  simp only [frzL] at h
  split at h
  ·rename_i x y hx hy
   simp only [sj] at h; subst h
   obtain ⟨i1, i2⟩ := frzL_at ls y hy
   refine ⟨by simp [i1], fun j hj => ?_⟩
   cases j with
   | zero => exact hx
   | succ j => exact i2 j (by simpa using hj)
  ·cases h
theorem VR.frz1 (hob : ∀ k o, objs0 os k = some o → ObjR (objs0 os) E I w k o) (hI : ∀ b, I b → I' b)
  (hF : ∀ k el sz g n get, pbase + m ≤ k → objs0 os k = some (.arr el sz g n get) → E.hv k ≠ .slice Option.none 0 0 → I' (E.bl k)) {p p' : PV} {v : Value} (h : VR (objs0 os) E I w p v) (hp : p.frz1 m os = some p') : VR (objs0 os) E I' w p' v := by
 cases h with
 | none => simp [PV.frz1] at hp
 | one l v h =>
  simp only [PV.frz1, mj] at hp
  obtain ⟨l', h1, rfl⟩ := hp
  exact .one _ _ (h.frz hob hI hF h1)
 | agg cs C hC h =>
  simp only [PV.frz1, mj] at hp
  obtain ⟨cs', h1, rfl⟩ := hp
  obtain ⟨i1, i2⟩ := frzL_at cs cs' h1
  exact .agg _ _ (by rw [i1]; exact hC) (fun j hj => (h j (by omega)).frz hob hI hF (i2 j (by omega)))
 | tup => simp [PV.frz1] at hp
theorem frzPs_at : ∀ (ps ps' : List PV), frzPs m os ps = some ps' → ps'.length = ps.length ∧ ∀ j, j < ps.length → (ps.getD j .none).frz1 m os = some (ps'.getD j .none)
 | [], ps', h => by
  simp only [frzPs, sj] at h; subst h
  exact ⟨rfl, fun j hj => by simp at hj⟩
 | p :: ps, ps', h => by
  simp only [frzPs] at h
  split at h
  ·rename_i x y hx hy
   simp only [sj] at h; subst h
   obtain ⟨i1, i2⟩ := frzPs_at ps y hy
   refine ⟨by simp [i1], fun j hj => ?_⟩
   cases j with
   | zero => exact hx
   | succ j => exact i2 j (by simpa using hj)
  ·cases h
theorem VR.frz (hob : ∀ k o, objs0 os k = some o → ObjR (objs0 os) E I w k o) (hI : ∀ b, I b → I' b)
  (hF : ∀ k el sz g n get, pbase + m ≤ k → objs0 os k = some (.arr el sz g n get) → E.hv k ≠ .slice Option.none 0 0 → I' (E.bl k)) {p p' : PV} {v : Value} (h : VR (objs0 os) E I w p v) (hp : p.frz m os = some p') : VR (objs0 os) E I' w p' v := by
 cases h with
 | none => simp [PV.frz, PV.frz1] at hp
 | one l v h => exact (VR.one l v h).frz1 hob hI hF hp
 | agg cs C hC h => exact (VR.agg cs C hC h).frz1 hob hI hF hp
 | tup vs C hC h =>
  simp only [PV.frz, mj] at hp
  obtain ⟨vs', h1, rfl⟩ := hp
  obtain ⟨i1, i2⟩ := frzPs_at vs vs' h1
  exact .tup _ _ (by rw [i1]; exact hC) (fun j hj => (h j (by omega)).frz1 hob hI hF (i2 j (by omega)))
def SameKind : Ob → Ob → Prop
 | .cells _, o' => ∃ cs', o' = .cells cs'
 | .tcells t _, o' => ∃ cs', o' = .tcells t cs'
 | .arr el sz g n get, o' => o' = .arr el sz g n get
 | .map _, o' => ∃ es', o' = .map es'
theorem SameKind.refl (o : Ob) : SameKind o o := by cases o <;> simp [SameKind]
theorem ObjR.frz (hob : ∀ k o, objs0 os k = some o → ObjR (objs0 os) E I w k o) (hI : ∀ b, I b → I' b)
  (hF : ∀ k el sz g n get, pbase + m ≤ k → objs0 os k = some (.arr el sz g n get) → E.hv k ≠ .slice none 0 0 → I' (E.bl k)) {k : Nat} {o o' : Ob} (ho : o.frz m os = some o') (h : ObjR (objs0 os) E I w k o) : SameKind o o' ∧ ObjR (objs0 os) E I' w k o' := by
 cases o with
 | cells cs =>
  simp only [Ob.frz, mj] at ho
  obtain ⟨cs', h1, rfl⟩ := ho
  obtain ⟨i1, i2⟩ := frzL_at cs cs' h1
  obtain ⟨C, t, q1, q2, q3⟩ := h
  exact ⟨⟨cs', rfl⟩, C, t, q1, by rw [i1]; exact q2, fun j hj => (q3 j (by omega)).frz hob hI hF (i2 j (by omega))⟩
 | tcells t cs =>
  simp only [Ob.frz, mj] at ho
  obtain ⟨cs', h1, rfl⟩ := ho
  obtain ⟨i1, i2⟩ := frzL_at cs cs' h1
  obtain ⟨C, q1, q2, q3⟩ := h
  exact ⟨⟨cs', rfl⟩, C, q1, by rw [i1]; exact q2, fun j hj => (q3 j (by omega)).frz hob hI hF (i2 j (by omega))⟩
 | arr el sz g n get =>
  simp only [Ob.frz, sj] at ho
  subst ho
  exact ⟨rfl, h.wider hI⟩
 | map es =>
  simp only [Ob.frz, sj] at ho
  subst ho
  exact ⟨⟨es, rfl⟩, h.wider hI⟩
theorem frzOs_at : ∀ (l l' : List Ob), frzOs m os l = some l' → l'.length = l.length ∧ ∀ (j : Nat) (o : Ob), l[j]? = some o → ∃ o', l'[j]? = some o' ∧ o.frz m os = some o'
 | [], l', h => by
  simp only [frzOs, sj] at h; subst h
  exact ⟨rfl, fun j o hj => by simp at hj⟩
 | x :: l, l', h => by
  simp only [frzOs] at h
  split at h
  ·rename_i a b ha hb
   simp only [sj] at h; subst h
   obtain ⟨i1, i2⟩ := frzOs_at l b hb
   refine ⟨by simp [i1], fun j o hj => ?_⟩
   cases j with
   | zero => simp at hj; subst hj; exact ⟨a, rfl, ha⟩
   | succ j =>
    obtain ⟨o', h1, h2⟩ := i2 j o (by simpa using hj)
    exact ⟨o', by simpa using h1, h2⟩
  ·cases h
end
theorem posIn_is : ∀ (ks : List Nat) (k i j : Nat), posIn k ks i = some j → i ≤ j ∧ ks[j - i]? = some k
 | [], k, i, j, h => by simp [posIn] at h
 | x :: xs, k, i, j, h => by
  simp only [posIn] at h
  split at h
  ·rename_i hx
   have hx := Nat.eq_of_beq_eq_true hx
   simp only [sj] at h
   subst h hx
   exact ⟨Nat.le_refl _, by simp⟩
  ·obtain ⟨h1, h2⟩ := posIn_is xs k (i + 1) j h
   refine ⟨by omega, ?_⟩
   rw [show j - i = (j - (i + 1)) + 1 by omega]
   simpa using h2
theorem kmUp_is {ks : List Nat} {k k' : Nat} (h : kmUp ks k = some k') : ∃ j, k' = pbase + j ∧ ks[j]? = some k := by
 simp only [kmUp, mj] at h
 obtain ⟨j, h1, rfl⟩ := h
 obtain ⟨_, h2⟩ := posIn_is _ _ _ _ h1
 exact ⟨j, rfl, by simpa using h2⟩
theorem nodupB_is : ∀ (ks : List Nat), nodupB ks = true → ks.Nodup
 | [], _ => List.nodup_nil
 | k :: ks, h => by
  simp only [nodupB, Bool.and_eq_true, Bool.not_eq_true'] at h
  rw [List.nodup_cons]
  exact ⟨by simpa using h.1, nodupB_is ks h.2⟩
theorem renOs_at {km : Nat → Option Nat} {gm : Nat → Nat → Option Nat} {objs : Nat → Option Ob} : ∀ (ks : List Nat) (os : List Ob), renOs km gm objs ks = some os → os.length = ks.length ∧ ∀ (j k : Nat), ks[j]? = some k → ∃ o o', objs k = some o ∧ o.ren km gm k = some o' ∧ os[j]? = some o'
 | [], os, h => by
  simp only [renOs, sj] at h; subst h
  exact ⟨rfl, fun j k hj => by simp at hj⟩
 | x :: ks, os, h => by
  simp only [renOs] at h
  split at h
  ·rename_i o l ho hl
   simp only [mj] at h
   obtain ⟨o', h1, rfl⟩ := h
   obtain ⟨i1, i2⟩ := renOs_at ks l hl
   refine ⟨by simp [i1], fun j k hj => ?_⟩
   cases j with
   | zero => simp at hj; subst hj; exact ⟨o, o', ho, h1, rfl⟩
   | succ j =>
    obtain ⟨a, b, h2, h3, h4⟩ := i2 j k (by simpa using hj)
    exact ⟨a, b, h2, h3, by simpa using h4⟩
  ·cases h
theorem putOs_at {fz : Bool} {km : Nat → Option Nat} {gm : Nat → Nat → Option Nat} {objs : Nat → Option Ob} {m : Nat} : ∀ (ks : List Nat) (os : List Ob) (j : Nat) (r : Nat → Option Ob), putOs fz km gm objs m j ks os = some r → ks.Nodup →
  os.length = ks.length ∧ (∀ k, k ∉ ks → r k = objs k) ∧ ∀ (q k : Nat) (o : Ob), ks[q]? = some k → os[q]? = some o → ∃ o', o.ren km gm (pbase + (j + q)) = some o' ∧ r k = if (fz && o.isArr && Nat.ble m (j + q)) = true then objs k else some o'
 | [], [], j, r, h, _ => by
  simp only [putOs, sj] at h; subst h
  exact ⟨rfl, fun _ _ => rfl, fun q k o hq => by simp at hq⟩
 | [], _ :: _, j, r, h, _ => by simp [putOs] at h
 | _ :: _, [], j, r, h, _ => by simp [putOs] at h
 | k0 :: ks, o0 :: os, j, r, h, hn => by
  simp only [putOs] at h
  rw [List.nodup_cons] at hn
  split at h
  ·rename_i o0' r0 h1 h2
   simp only [sj] at h
   subst h
   obtain ⟨i1, i2, i3⟩ := putOs_at ks os (j + 1) r0 h2 hn.2
   refine ⟨by simp [i1], fun k hk => ?_, fun q k o hq ho => ?_⟩
   ·simp only [List.mem_cons, not_or] at hk
    split
    ·exact i2 k hk.2
    ·rw [upd_ne _ _ hk.1]; exact i2 k hk.2
   ·cases q with
    | zero =>
     simp at hq ho
     subst hq ho
     refine ⟨o0', h1, ?_⟩
     rw [Nat.add_zero]
     split
     ·exact i2 _ hn.1
     ·exact upd_same _ _ _
    | succ q =>
     obtain ⟨o', h3, h4⟩ := i3 q k o (by simpa using hq) (by simpa using ho)
     refine ⟨o', by rw [show j + (q + 1) = j + 1 + q by omega]; exact h3, ?_⟩
     rw [show j + (q + 1) = j + 1 + q by omega, ← h4]
     have hne : k ≠ k0 := fun e => hn.1 (by subst e; exact List.mem_of_getElem? (by simpa using hq))
     split
     ·rfl
     ·rw [upd_ne _ _ hne]
  ·cases h
theorem freshK_at {objs : Nat → Option Ob} : ∀ (fp : List Nat) (n : Nat), ∀ k ∈ freshK objs fp n, k ∈ fp ∧ gbase ≤ k ∧ k ≤ 400000 ∧ objs k = none
 | fp, 0, k, hk => by cases fp <;> simp [freshK] at hk
 | [], n + 1, k, hk => by simp [freshK] at hk
 | x :: fp, n + 1, k, hk => by
  simp only [freshK] at hk
  split at hk
  ·rename_i hc
   simp only [Bool.and_eq_true] at hc
   simp only [List.mem_cons] at hk
   rcases hk with rfl | hk
   ·exact ⟨by simp, Nat.le_of_ble_eq_true hc.1.1, Nat.le_of_ble_eq_true hc.1.2, by simpa using hc.2⟩
   ·obtain ⟨h1, h2⟩ := freshK_at fp n k hk
    exact ⟨by simp [h1], h2⟩
  ·obtain ⟨h1, h2⟩ := freshK_at fp (n + 1) k hk
   exact ⟨by simp [h1], h2⟩
end Go.Rx
