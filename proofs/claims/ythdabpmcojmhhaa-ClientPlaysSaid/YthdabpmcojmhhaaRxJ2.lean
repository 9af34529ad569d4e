/- No condition. -/
import Derived.Test.YthdabpmcojmhhaaRxJ
namespace Go.Rx
open Go Go.RowKit
def zbn (hs : List (Nat × Hint)) : Operand → Option Hint
 | .tmp t => hs.lookup t
 | .const _ => some .imm
 | .func _ => some .imm
 | .global _ => none
def callFp (hs : List (Nat × Hint)) : List Operand → Option (List Nat)
 | [] => some []
 | x :: xs => match zbn hs x, callFp hs xs with
  | some .imm, some F => some F
  | some (.at_ k _), some F => some (k :: F)
  | some (.obj k), some F => some (k :: F)
  | _, _ => none
def fpOf (hs : List (Nat × Hint)) (d : Option Nat) : POp → Option (List Nat)
 | .load _ _ x => match zbn hs x with
  | some .imm => some []
  | some (.at_ k _) => some [k]
  | some (.obj k) => some [k]
  | none => none
 | .store _ a _ => match zbn hs a with
  | some (.at_ k _) => some [k]
  | some (.obj k) => some [k]
  | _ => none
 | .iaddrS _ x _ => match zbn hs x with
  | some .imm => some []
  | some (.obj k) => some [k]
  | _ => none
 | .slc _ x _ _ => match zbn hs x with
  | some .imm => some []
  | some (.obj k) => some [k]
  | _ => none
 | .alloc _ _ ow | .box _ _ ow => match d with
  | some d => if ow.all (fun x => Nat.ble fixM x.2.1) then some [d] else none
  | none => none
 | .allocT .. => none
 | .gcall _ _ fp _ _ _ | .gcallv _ _ fp _ _ _ => some fp
 | .bptrs .. | .bown .. | .s2bo .. | .mmake => match d with
  | some d => some [d]
  | none => none
 | .mlook _ _ _ x _ | .mset _ x _ _ | .mdel _ x _ | .mlen x => match zbn hs x with
  | some (.obj k) => some [k]
  | _ => none
 | .appF .. => none
 | .buildV .. => some []
 | .storeV _ _ a _ => match zbn hs a with
  | some (.at_ k _) => some [k]
  | some (.obj k) => some [k]
  | _ => none
 | .appT to _ _ _ s x => match zbn hs s, zbn hs x with
  | some (.obj k), some (.obj k2) => some [k, k2, to]
  | _, _ => none
 | .app key _ _ _ s x => match zbn hs s, zbn hs x with
  | some .imm, some .imm => some [key]
  | some (.obj k), some .imm => if k = key then some [key] else none
  | some .imm, some (.obj k2) => some [key, k2]
  | _, _ => none
 | .call _ _ _ xs => callFp hs xs
 | .b2s _ => none
 | .callv _ _ x xs => match zbn hs x with
  | some .imm => callFp hs xs
  | _ => none
 | _ => some []
def PV.away : PV → Prop
 | .one (.ptr ..) | .one (.aptr ..) | .one (.osl ..) | .one (.fn ..) | .one (.mp ..) => False
 | _ => True
theorem zen {st : St} {t : Nat} {h : Hint} : ∀ {hs : List (Nat × Hint)}, okH hs st = true → hs.lookup t = some h → h.ok (st.tmps t) = true
 | [], _, hl => by simp at hl
 | (t', h') :: hs, ho, hl => by
  simp only [okH, yag] at ho
  simp only [List.lookup] at hl
  split at hl
  ·rename_i e
   simp only [sj] at hl
   subst hl
   have : t = t' := by simpa using e
   subst this; exact ho.1
  ·exact zen ho.2 hl
theorem ok_imm {p : PV} (h : Hint.ok .imm p = true) : p.away := by
 cases p with
 | one l => cases l <;> first | trivial | (simp [Hint.ok, PV.clean, Lf.clean] at h)
 | _ => trivial
theorem ok_at {p : PV} {k off : Nat} (h : Hint.ok (.at_ k off) p = true) : p = .one (.ptr k off) := by
 cases p with
 | one l =>
  cases l <;> simp [Hint.ok] at h
  rw [h.1, h.2]
 | _ => simp [Hint.ok] at h
def PV.only (k : Nat) : PV → Prop
 | .one (.ptr j _) | .one (.aptr j _ _ _) | .one (.osl j _ _ _) | .one (.mp j) => j = k
 | .one (.fn ..) => False
 | _ => True
theorem ok_obj {p : PV} {k : Nat} (h : Hint.ok (.obj k) p = true) : p.only k := by
 cases p with
 | one l =>
  cases l <;> first | trivial | (simp [Hint.ok] at h; done) | (simp [Hint.ok] at h; exact h.symm)
 | _ => trivial
theorem zbi {hs : List (Nat × Hint)} {st : St} {x : Operand} (ho : okH hs st = true) (hx : zbn hs x = some .imm) : (st.ev x).away := by
 cases x with
 | tmp t => exact ok_imm (zen ho hx)
 | const v =>
  show (PV.ofVal v).away
  cases v <;> first | trivial | skip
  simp only [PV.ofVal]; split <;> trivial
 | func f => trivial
 | global g => cases hx
theorem hint_at {hs : List (Nat × Hint)} {st : St} {x : Operand} {k off : Nat} (ho : okH hs st = true) (hx : zbn hs x = some (.at_ k off)) : st.ev x = .one (.ptr k off) := by
 cases x with
 | tmp t => exact ok_at (zen ho hx)
 | _ => cases hx
theorem zbf {hs : List (Nat × Hint)} {st : St} {x : Operand} {k : Nat} (ho : okH hs st = true) (hx : zbn hs x = some (.obj k)) : (st.ev x).only k := by
 cases x with
 | tmp t => exact ok_obj (zen ho hx)
 | _ => cases hx
theorem PV.away.only {p : PV} (h : p.away) (k : Nat) : p.only k := by
 cases p with
 | one l => cases l <;> first | trivial | exact h.elim
 | _ => trivial
theorem zem : ∀ (hs : List (Nat × Hint)) (st : St) (o : Nat → Option Ob), okH hs { st with objs := o } = okH hs st
 | [], _, _ => rfl
 | (t, h) :: hs, st, o => by simp only [okH, zem hs st o]
def zdh (F : List Nat) (st : St) (v : PV) (o1 : Nat → Option Ob) (e : St → Option (PV × (Nat → Option Ob))) : Prop :=
 (∀ k, k ∉ F → o1 k = st.objs k) ∧ ∀ objs2 : Nat → Option Ob, (∀ k ∈ F, objs2 k = st.objs k) → ∃ o2, e { st with objs := objs2 } = some (v, o2) ∧ (∀ k ∈ F, o2 k = o1 k) ∧ ∀ k, k ∉ F → o2 k = objs2 k
section
variable {P : Program} {C : zaf} {st : St} {d : Option Nat} {v : PV} {o1 : Nat → Option Ob}
theorem zap {F : List Nat} {e : St → Option (PV × (Nat → Option Ob))} (h1 : o1 = st.objs) (h2 : ∀ objs2 : Nat → Option Ob, (∀ k ∈ F, objs2 k = st.objs k) → e { st with objs := objs2 } = some (v, objs2)) : zdh F st v o1 e := by
 subst h1
 exact ⟨fun _ _ => rfl, fun objs2 h => ⟨objs2, h2 objs2 h, fun k hk => h k hk, fun _ _ => rfl⟩⟩
theorem zbm {k : Nat} {ob : Option Ob} {e : St → Option (PV × (Nat → Option Ob))} (h1 : o1 = upd st.objs k ob) (h2 : ∀ objs2 : Nat → Option Ob, objs2 k = st.objs k → e { st with objs := objs2 } = some (v, upd objs2 k ob)) : zdh [k] st v o1 e := by
 subst h1
 refine ⟨fun j hj => zah _ _ (by simpa using hj), fun objs2 h => ⟨_, h2 objs2 (h k (by simp)), fun j hj => ?_, fun j hj => zah _ _ (by simpa using hj)⟩⟩
 have : j = k := by simpa using hj
 subst this
 rw [zab, zab]
theorem load_loc {k : Nat} {ag : Bool} {sz : Nat} {x : Operand} (hx : (st.ev x).only k) (he : eff P C st d (.load ag sz x) = some (v, o1)) : zdh [k] st v o1 (fun s => eff P C s d (.load ag sz x)) := by
 simp only [eff] at he
 split at he
 ·rename_i j off hj
  rw [hj] at hx
  simp only [PV.only] at hx
  subst hx
  split at he
  ·rename_i cs hk
   simp only [mj, pj] at he
   obtain ⟨u, hr, rfl, rfl⟩ := he
   refine zap rfl (fun objs2 h => ?_)
   have hev : ({ st with objs := objs2 } : St).ev x = st.ev x := by cases x <;> rfl
   simp only [eff, hev, hj, h j (by simp), hk, hr, yaz]
  ·cases he
 ·rename_i cs off hj
  simp only [mj, pj] at he
  obtain ⟨u, hr, rfl, rfl⟩ := he
  refine zap rfl (fun objs2 h => ?_)
  have hev : ({ st with objs := objs2 } : St).ev x = st.ev x := by cases x <;> rfl
  simp only [eff, hev, hj, hr, yaz]
 ·rename_i j g i off hj
  rw [hj] at hx
  simp only [PV.only] at hx
  subst hx
  split at he
  ·rename_i el sz' g' n get hk
   split at he
   ·rename_i hc
    simp only [mj, pj] at he
    obtain ⟨u, hr, rfl, rfl⟩ := he
    refine zap rfl (fun objs2 h => ?_)
    have hev : ({ st with objs := objs2 } : St).ev x = st.ev x := by cases x <;> rfl
    simp only [eff, hev, hj, h j (by simp), hk, if_pos hc, hr, yaz]
   ·cases he
  ·cases he
 ·cases he
theorem load_loc0 {ag : Bool} {sz : Nat} {x : Operand} (hx : (st.ev x).away) (he : eff P C st d (.load ag sz x) = some (v, o1)) : zdh [] st v o1 (fun s => eff P C s d (.load ag sz x)) := by
 simp only [eff] at he
 split at he
 ·rename_i j off hj
  rw [hj] at hx
  exact hx.elim
 ·rename_i cs off hj
  simp only [mj, pj] at he
  obtain ⟨u, hr, rfl, rfl⟩ := he
  refine zap rfl (fun objs2 h => ?_)
  have hev : ({ st with objs := objs2 } : St).ev x = st.ev x := by cases x <;> rfl
  simp only [eff, hev, hj, hr, yaz]
 ·rename_i j g i off hj
  rw [hj] at hx
  exact hx.elim
 ·cases he
theorem storeV_loc {k : Nat} {sz : Nat} {nl : List (Nat × Nat)} {a x : Operand} (ha : (st.ev a).only k) (he : eff P C st d (.storeV nl sz a x) = some (v, o1)) : zdh [k] st v o1 (fun s => eff P C s d (.storeV nl sz a x)) := by
 simp only [eff] at he
 split at he
 ·cases he
 ·rename_i new hnew
  split at he
  ·rename_i j off hj
   rw [hj] at ha
   simp only [PV.only] at ha
   subst ha
   split at he
   ·rename_i cs hk
    split at he
    ·rename_i hc
     simp only [sj, pj] at he
     obtain ⟨rfl, rfl⟩ := he
     refine zbm rfl (fun objs2 h => ?_)
     have hev : ∀ y, ({ st with objs := objs2 } : St).ev y = st.ev y := fun y => by cases y <;> rfl
     simp only [eff, hev, hnew, hj, h, hk, if_pos hc]
    ·cases he
   ·cases he
  ·rename_i j g i off hj
   rw [hj] at ha
   simp only [PV.only] at ha
   subst ha
   split at he
   ·rename_i el esz g' n get hk
    split at he
    ·rename_i hc
     simp only [sj, pj] at he
     obtain ⟨rfl, rfl⟩ := he
     refine zbm rfl (fun objs2 h => ?_)
     have hev : ∀ y, ({ st with objs := objs2 } : St).ev y = st.ev y := fun y => by cases y <;> rfl
     simp only [eff, hev, hnew, hj, h, hk, if_pos hc]
    ·cases he
   ·cases he
  ·cases he
theorem store_loc {k : Nat} {sz : Nat} {a x : Operand} (ha : (st.ev a).only k) (he : eff P C st d (.store sz a x) = some (v, o1)) : zdh [k] st v o1 (fun s => eff P C s d (.store sz a x)) := by
 simp only [eff] at he
 split at he
 ·cases he
 ·rename_i new hnew
  split at he
  ·rename_i j off hj
   rw [hj] at ha
   simp only [PV.only] at ha
   subst ha
   split at he
   ·rename_i cs hk
    split at he
    ·rename_i hc
     simp only [sj, pj] at he
     obtain ⟨rfl, rfl⟩ := he
     refine zbm rfl (fun objs2 h => ?_)
     have hev : ∀ y, ({ st with objs := objs2 } : St).ev y = st.ev y := fun y => by cases y <;> rfl
     simp only [eff, hev, hnew, hj, h, hk, if_pos hc]
    ·cases he
   ·cases he
  ·rename_i j g i off hj
   rw [hj] at ha
   simp only [PV.only] at ha
   subst ha
   split at he
   ·rename_i el esz g' n get hk
    split at he
    ·rename_i hc
     simp only [sj, pj] at he
     obtain ⟨rfl, rfl⟩ := he
     refine zbm rfl (fun objs2 h => ?_)
     have hev : ∀ y, ({ st with objs := objs2 } : St).ev y = st.ev y := fun y => by cases y <;> rfl
     simp only [eff, hev, hnew, hj, h, hk, if_pos hc]
    ·cases he
   ·cases he
  ·cases he
theorem iaddrS_loc {k : Nat} {esz : Nat} {x i : Operand} (hx : (st.ev x).only k) (he : eff P C st d (.iaddrS esz x i) = some (v, o1)) : zdh [k] st v o1 (fun s => eff P C s d (.iaddrS esz x i)) := by
 simp only [eff] at he
 split at he
 ·rename_i n hn
  split at he
  ·rename_i sz m get hj
   split at he
   ·rename_i hc
    simp only [sj, pj] at he
    obtain ⟨rfl, rfl⟩ := he
    refine zap rfl (fun objs2 h => ?_)
    have hev : ∀ y, ({ st with objs := objs2 } : St).ev y = st.ev y := fun y => by cases y <;> rfl
    simp only [eff, hev, hn, hj, if_pos hc]
   ·cases he
  ·rename_i j g off m hj
   rw [hj] at hx
   simp only [PV.only] at hx
   subst hx
   split at he
   ·rename_i el sz g' tot get hk
    split at he
    ·rename_i hc
     simp only [sj, pj] at he
     obtain ⟨rfl, rfl⟩ := he
     refine zap rfl (fun objs2 h => ?_)
     have hev : ∀ y, ({ st with objs := objs2 } : St).ev y = st.ev y := fun y => by cases y <;> rfl
     simp only [eff, hev, hn, hj, h j (by simp), hk, if_pos hc]
    ·cases he
   ·cases he
  ·rename_i j sz off m hj
   split at he
   ·rename_i hc
    simp only [sj, pj] at he
    obtain ⟨rfl, rfl⟩ := he
    refine zap rfl (fun objs2 h => ?_)
    have hev : ∀ y, ({ st with objs := objs2 } : St).ev y = st.ev y := fun y => by cases y <;> rfl
    simp only [eff, hev, hn, hj, if_pos hc]
   ·cases he
  ·cases he
 ·cases he
theorem iaddrS_loc0 {esz : Nat} {x i : Operand} (hx : (st.ev x).away) (he : eff P C st d (.iaddrS esz x i) = some (v, o1)) : zdh [] st v o1 (fun s => eff P C s d (.iaddrS esz x i)) := by
 simp only [eff] at he
 split at he
 ·rename_i n hn
  split at he
  ·rename_i sz m get hj
   split at he
   ·rename_i hc
    simp only [sj, pj] at he
    obtain ⟨rfl, rfl⟩ := he
    refine zap rfl (fun objs2 h => ?_)
    have hev : ∀ y, ({ st with objs := objs2 } : St).ev y = st.ev y := fun y => by cases y <;> rfl
    simp only [eff, hev, hn, hj, if_pos hc]
   ·cases he
  ·rename_i j g off m hj
   rw [hj] at hx
   exact hx.elim
  ·rename_i j sz off m hj
   split at he
   ·rename_i hc
    simp only [sj, pj] at he
    obtain ⟨rfl, rfl⟩ := he
    refine zap rfl (fun objs2 h => ?_)
    have hev : ∀ y, ({ st with objs := objs2 } : St).ev y = st.ev y := fun y => by cases y <;> rfl
    simp only [eff, hev, hn, hj, if_pos hc]
   ·cases he
  ·cases he
 ·cases he
theorem slc_loc {k : Nat} {esz : Nat} {x : Operand} {lo hi : Option Operand} (hx : (st.ev x).only k) (he : eff P C st d (.slc esz x lo hi) = some (v, o1)) : zdh [k] st v o1 (fun s => eff P C s d (.slc esz x lo hi)) := by
 simp only [eff] at he
 split at he
 ·rename_i sz n get hj
  split at he
  ·rename_i l h' hl hh
   split at he
   ·rename_i hc
    simp only [sj, pj] at he
    obtain ⟨rfl, rfl⟩ := he
    refine zap rfl (fun objs2 h => ?_)
    have hev : ∀ y, ({ st with objs := objs2 } : St).ev y = st.ev y := fun y => by cases y <;> rfl
    simp only [eff, hev, zcm hev, hl, hh, hj, if_pos hc]
   ·cases he
  ·cases he
 ·rename_i j g off n hj
  rw [hj] at hx
  simp only [PV.only] at hx
  subst hx
  split at he
  ·rename_i l h' hl hh
   split at he
   ·rename_i el sz g' tot get hk
    split at he
    ·rename_i hc
     simp only [sj, pj] at he
     obtain ⟨rfl, rfl⟩ := he
     refine zap rfl (fun objs2 h => ?_)
     have hev : ∀ y, ({ st with objs := objs2 } : St).ev y = st.ev y := fun y => by cases y <;> rfl
     simp only [eff, hev, zcm hev, hl, hh, hj, h j (by simp), hk, if_pos hc]
    ·cases he
   ·cases he
  ·cases he
 ·rename_i hj
  split at he
  ·rename_i l h' hl hh
   split at he
   ·rename_i hc
    simp only [sj, pj] at he
    obtain ⟨rfl, rfl⟩ := he
    refine zap rfl (fun objs2 h => ?_)
    have hev : ∀ y, ({ st with objs := objs2 } : St).ev y = st.ev y := fun y => by cases y <;> rfl
    simp only [eff, hev, zcm hev, hl, hh, hj, if_pos hc]
   ·cases he
  ·cases he
 ·cases he
theorem slc_loc0 {esz : Nat} {x : Operand} {lo hi : Option Operand} (hx : (st.ev x).away) (he : eff P C st d (.slc esz x lo hi) = some (v, o1)) : zdh [] st v o1 (fun s => eff P C s d (.slc esz x lo hi)) := by
 simp only [eff] at he
 split at he
 ·rename_i sz n get hj
  split at he
  ·rename_i l h' hl hh
   split at he
   ·rename_i hc
    simp only [sj, pj] at he
    obtain ⟨rfl, rfl⟩ := he
    refine zap rfl (fun objs2 h => ?_)
    have hev : ∀ y, ({ st with objs := objs2 } : St).ev y = st.ev y := fun y => by cases y <;> rfl
    simp only [eff, hev, zcm hev, hl, hh, hj, if_pos hc]
   ·cases he
  ·cases he
 ·rename_i j g off n hj
  rw [hj] at hx
  exact hx.elim
 ·rename_i hj
  split at he
  ·rename_i l h' hl hh
   split at he
   ·rename_i hc
    simp only [sj, pj] at he
    obtain ⟨rfl, rfl⟩ := he
    refine zap rfl (fun objs2 h => ?_)
    have hev : ∀ y, ({ st with objs := objs2 } : St).ev y = st.ev y := fun y => by cases y <;> rfl
    simp only [eff, hev, zcm hev, hl, hh, hj, if_pos hc]
   ·cases he
  ·cases he
 ·cases he
theorem zeu {objs : Nat → Option Ob} {key el esz bytes : Nat} {s : PV} {m : Nat} {xget : Nat → List Lf} (hs : s.only key) (he : appP objs key el esz bytes s m xget = some (v, o1)) :
  (∀ k, k ≠ key → o1 k = objs k) ∧ ∀ objs2 : Nat → Option Ob, objs2 key = objs key → ∃ o2, appP objs2 key el esz bytes s m xget = some (v, o2) ∧ o2 key = o1 key ∧ ∀ k, k ≠ key → o2 k = objs2 k := by
 unfold appP at he
 split at he
 ·split at he
  ·rename_i hc
   split at he
   ·rename_i hn
    simp only [sj, pj] at he
    obtain ⟨rfl, rfl⟩ := he
    exact ⟨fun k hk => zah _ _ hk, fun objs2 h => ⟨upd objs2 key (some (.arr el esz 0 m xget)), by simp only [appP, if_pos hc, h, hn], by rw [zab, zab], fun k hk => zah _ _ hk⟩⟩
   ·cases he
  ·cases he
 ·rename_i k g n
  simp only [PV.only] at hs
  subst hs
  split at he
  ·rename_i el' esz' g' n' get hk
   split at he
   ·rename_i hc
    simp only [sj, pj] at he
    obtain ⟨rfl, rfl⟩ := he
    exact ⟨fun j hj => zah _ _ hj, fun objs2 h => ⟨upd objs2 k (some (.arr el esz (g + 1) (n + m) (if m = 1 then (fun i => if i = n then xget 0 else get i) else (fun i => if i < n then get i else xget (i - n))))), by simp only [appP, h, hk, if_pos hc], by rw [zab, zab], fun j hj => zah _ _ hj⟩⟩
   ·cases he
  ·cases he
 ·cases he
theorem app_loc {key el esz bytes : Nat} {s x : Operand} (hs : (st.ev s).only key) (hx : (st.ev x).away) (he : eff P C st d (.app key el esz bytes s x) = some (v, o1)) : zdh [key] st v o1 (fun s' => eff P C s' d (.app key el esz bytes s x)) := by
 simp only [eff] at he
 split at he
 ·rename_i sz m xget hj
  split at he
  ·rename_i hsz
   obtain ⟨a1, a2⟩ := zeu hs he
   refine ⟨fun k hk => a1 k (by simpa using hk), fun objs2 h => ?_⟩
   obtain ⟨o2, b1, b2, b3⟩ := a2 objs2 (h key (by simp))
   have hev : ∀ y, ({ st with objs := objs2 } : St).ev y = st.ev y := fun y => by cases y <;> rfl
   refine ⟨o2, by simp only [eff, hev, hj, if_pos hsz]; exact b1, fun k hk => ?_, fun k hk => b3 k (by simpa using hk)⟩
   have : k = key := by simpa using hk
   subst this; exact b2
  ·cases he
 ·rename_i k g off m hj
  rw [hj] at hx
  exact hx.elim
 ·rename_i hj
  split at he
  ·rename_i hs'
   simp only [sj, pj] at he
   obtain ⟨rfl, rfl⟩ := he
   refine zap rfl (fun objs2 h => ?_)
   have hev : ∀ y, ({ st with objs := objs2 } : St).ev y = st.ev y := fun y => by cases y <;> rfl
   simp only [eff, hev, hj, hs']
  ·rename_i k g off n hs'
   rw [hs'] at hs
   simp only [PV.only] at hs
   subst hs
   split at he
   ·rename_i el' sz' g' tot get hk
    split at he
    ·rename_i hc
     simp only [sj, pj] at he
     obtain ⟨rfl, rfl⟩ := he
     refine zap rfl (fun objs2 h => ?_)
     have hev : ∀ y, ({ st with objs := objs2 } : St).ev y = st.ev y := fun y => by cases y <;> rfl
     simp only [eff, hev, hj, hs', h k (by simp), hk, if_pos hc]
    ·cases he
   ·cases he
  ·cases he
 ·cases he
theorem app_loc2 {key k2 el esz bytes : Nat} {s x : Operand} (hs : (st.ev s).away) (hx : (st.ev x).only k2) (he : eff P C st d (.app key el esz bytes s x) = some (v, o1)) : zdh [key, k2] st v o1 (fun s' => eff P C s' d (.app key el esz bytes s x)) := by
 simp only [eff] at he
 split at he
 ·rename_i sz m xget hj
  split at he
  ·rename_i hsz
   obtain ⟨a1, a2⟩ := zeu (hs.only key) he
   refine ⟨fun k hk => a1 k (fun e => hk (by simp [e])), fun objs2 h => ?_⟩
   obtain ⟨o2, b1, b2, b3⟩ := a2 objs2 (h key (by simp))
   have hev : ∀ y, ({ st with objs := objs2 } : St).ev y = st.ev y := fun y => by cases y <;> rfl
   refine ⟨o2, by simp only [eff, hev, hj, if_pos hsz]; exact b1, fun k hk => ?_, fun k hk => b3 k (fun e => hk (by simp [e]))⟩
   by_cases e : k = key
   ·subst e; exact b2
   ·rw [b3 k e, a1 k e]; exact h k hk
  ·cases he
 ·rename_i k g off m hj
  rw [hj] at hx
  simp only [PV.only] at hx
  subst hx
  split at he
  ·rename_i el' sz' g' tot xget hk
   split at he
   ·rename_i hc
    obtain ⟨a1, a2⟩ := zeu (hs.only key) he
    refine ⟨fun j hj => a1 j (fun e => hj (by simp [e])), fun objs2 h => ?_⟩
    obtain ⟨o2, b1, b2, b3⟩ := a2 objs2 (h key (by simp))
    have hev : ∀ y, ({ st with objs := objs2 } : St).ev y = st.ev y := fun y => by cases y <;> rfl
    refine ⟨o2, by simp only [eff, hev, hj, h k (by simp), hk, if_pos hc]; exact b1, fun j hj => ?_, fun j hj => b3 j (fun e => hj (by simp [e]))⟩
    by_cases e : j = key
    ·subst e; exact b2
    ·rw [b3 j e, a1 j e]; exact h j hj
   ·cases he
  ·cases he
 ·rename_i hj
  split at he
  ·rename_i hs'
   simp only [sj, pj] at he
   obtain ⟨rfl, rfl⟩ := he
   refine zap rfl (fun objs2 h => ?_)
   have hev : ∀ y, ({ st with objs := objs2 } : St).ev y = st.ev y := fun y => by cases y <;> rfl
   simp only [eff, hev, hj, hs']
  ·rename_i k g off n hs'
   rw [hs'] at hs
   exact hs.elim
  ·cases he
 ·cases he
theorem takeO_loc {to k : Nat} {p : PV} (hp : p.only k) {objs : Nat → Option Ob} (he : takeO to (p, objs) = some (v, o1)) :
  (∀ j, j ≠ k → j ≠ to → o1 j = objs j) ∧ ∀ objs2 : Nat → Option Ob, objs2 k = objs k → objs2 to = objs to → ∃ o2, takeO to (p, objs2) = some (v, o2) ∧ o2 k = o1 k ∧ o2 to = o1 to ∧ ∀ j, j ≠ k → j ≠ to → o2 j = objs2 j := by
 unfold takeO at he
 split at he
 ·rename_i k' g n objs' heq
  simp only [pj] at heq
  obtain ⟨rfl, rfl⟩ := heq
  simp only [PV.only] at hp
  subst hp
  split at he
  ·rename_i el sz g1 n1 get el2 sz2 g2 n2 get2 hk hto
   split at he
   ·rename_i hc
    simp only [sj, pj] at he
    obtain ⟨rfl, rfl⟩ := he
    refine ⟨fun j h1 h2 => by rw [zah _ _ h2, zah _ _ h1], fun objs2 e1 e2 => ⟨upd (upd objs2 k' (some (.arr el sz (g1 + 1) 0 fun _ => []))) to (some (.arr el sz (g2 + 1) n get)), ?_, ?_, ?_, fun j h1 h2 => by rw [zah _ _ h2, zah _ _ h1]⟩⟩
    ·simp only [takeO, e1, e2, hk, hto, if_pos hc]
    ·rw [zah _ _ hc.2.2.2.2.1, zah _ _ hc.2.2.2.2.1, zab, zab]
    ·rw [zab, zab]
   ·cases he
  ·cases he
 ·cases he
theorem appT_loc {to k k2 el esz bytes : Nat} {s x : Operand} (hs : (st.ev s).only k) (hx : (st.ev x).only k2) (he : eff P C st d (.appT to el esz bytes s x) = some (v, o1)) : zdh [k, k2, to] st v o1 (fun s' => eff P C s' d (.appT to el esz bytes s x)) := by
 simp only [eff] at he
 split at he
 ·rename_i k' g n k2' g2 off m hs' hx'
  rw [hs'] at hs
  rw [hx'] at hx
  simp only [PV.only] at hs hx
  subst hs hx
  split at he
  ·rename_i el' sz' g' tot xget hk
   split at he
   ·rename_i hc
    split at he
    ·rename_i r hr
     obtain ⟨a1, a2⟩ := zeu (v := r.1) (o1 := r.2) (key := k') (s := .one (.osl k' g 0 n)) rfl hr
     have hr1 : (r.1).only k' := by
      unfold appP at hr
      simp only at hr
      split at hr
      ·split at hr
       ·simp only [sj] at hr
        rw [← hr]; rfl
       ·cases hr
      ·cases hr
     obtain ⟨c1, c2⟩ := takeO_loc (p := r.1) (objs := r.2) hr1 he
     refine ⟨fun j hj => ?_, fun objs2 h => ?_⟩
     ·have e1 : j ≠ k' := fun e => hj (by simp [e])
      have e2 : j ≠ to := fun e => hj (by simp [e])
      rw [c1 j e1 e2, a1 j e1]
     ·obtain ⟨o2, b1, b2, b3⟩ := a2 objs2 (h k' (by simp))
      have hto : o2 to = r.2 to := by
       by_cases e : to = k'
       ·rw [e]; exact b2
       ·rw [b3 to e, a1 to e]; exact h to (by simp)
      obtain ⟨o3, d1, d2, d3, d4⟩ := c2 o2 b2 hto
      have hev : ∀ y, ({ st with objs := objs2 } : St).ev y = st.ev y := fun y => by cases y <;> rfl
      refine ⟨o3, ?_, fun j hj => ?_, fun j hj => ?_⟩
      ·simp only [eff, hev, hs', hx', h k2' (by simp), hk, if_pos hc, b1]; exact d1
      ·by_cases e1 : j = k'
       ·rw [e1]; exact d2
       ·by_cases e2 : j = to
        ·rw [e2]; exact d3
        ·rw [d4 j e1 e2, c1 j e1 e2, b3 j e1, a1 j e1]; exact h j hj
      ·have e1 : j ≠ k' := fun e => hj (by simp [e])
       have e2 : j ≠ to := fun e => hj (by simp [e])
       rw [d4 j e1 e2, b3 j e1]
    ·cases he
   ·cases he
  ·cases he
 ·cases he
theorem mlook_loc {k : Nat} {ok : Bool} {mt : TypeId} {nl : List (Nat × Nat)} {x y : Operand} (hx : (st.ev x).only k) (he : eff P C st d (.mlook ok mt nl x y) = some (v, o1)) : zdh [k] st v o1 (fun s' => eff P C s' d (.mlook ok mt nl x y)) := by
 simp only [eff] at he
 split at he
 ·rename_i m kv kt e hxm hkv hmk
  rw [hxm] at hx
  simp only [PV.only] at hx
  subst hx
  split at he
  ·rename_i es hm
   have hev : ∀ (objs2 : Nat → Option Ob) y, ({ st with objs := objs2 } : St).ev y = st.ev y := fun _ y => by cases y <;> rfl
   split at he
   ·rename_i h1 h2
    simp only [sj, pj] at he
    obtain ⟨rfl, rfl⟩ := he
    exact zap rfl (fun objs2 h => by simp only [eff, hev, hxm, hkv, hmk, h m (by simp), hm, h1, h2])
   ·rename_i h1 h2
    split at he
    ·rename_i z hz
     simp only [sj, pj] at he
     obtain ⟨rfl, rfl⟩ := he
     exact zap rfl (fun objs2 h => by simp only [eff, hev, hxm, hkv, hmk, h m (by simp), hm, h1, h2, hz])
    ·cases he
   ·cases he
  ·cases he
 ·cases he
theorem mset_loc {k : Nat} {mt : TypeId} {x y z : Operand} (hx : (st.ev x).only k) (he : eff P C st d (.mset mt x y z) = some (v, o1)) : zdh [k] st v o1 (fun s' => eff P C s' d (.mset mt x y z)) := by
 simp only [eff] at he
 split at he
 ·rename_i m kv kt e hxm hkv hmk
  rw [hxm] at hx
  simp only [PV.only] at hx
  subst hx
  split at he
  ·rename_i es hm
   have hev : ∀ (objs2 : Nat → Option Ob) y, ({ st with objs := objs2 } : St).ev y = st.ev y := fun _ y => by cases y <;> rfl
   split at he
   ·rename_i hcl
    split at he
    ·rename_i h1 h2
     split at he
     ·rename_i kv' h3
      split at he
      ·rename_i h4
       simp only [sj, pj] at he
       obtain ⟨rfl, rfl⟩ := he
       exact zbm rfl (fun objs2 h => by simp only [eff, hev, hxm, hkv, hmk, h, hm, h1, h2, h3, if_pos h4, if_pos hcl])
      ·cases he
     ·cases he
    ·rename_i h1 h2
     simp only [sj, pj] at he
     obtain ⟨rfl, rfl⟩ := he
     exact zbm rfl (fun objs2 h => by simp only [eff, hev, hxm, hkv, hmk, h, hm, h1, h2, if_pos hcl])
    ·cases he
   ·cases he
  ·cases he
 ·cases he
theorem mdel_loc {k : Nat} {mt : TypeId} {x y : Operand} (hx : (st.ev x).only k) (he : eff P C st d (.mdel mt x y) = some (v, o1)) : zdh [k] st v o1 (fun s' => eff P C s' d (.mdel mt x y)) := by
 simp only [eff] at he
 split at he
 ·rename_i m kv kt e hxm hkv hmk
  rw [hxm] at hx
  simp only [PV.only] at hx
  subst hx
  split at he
  ·rename_i es hm
   have hev : ∀ (objs2 : Nat → Option Ob) y, ({ st with objs := objs2 } : St).ev y = st.ev y := fun _ y => by cases y <;> rfl
   split at he
   ·rename_i h1 h2
    simp only [sj, pj] at he
    obtain ⟨rfl, rfl⟩ := he
    exact zbm rfl (fun objs2 h => by simp only [eff, hev, hxm, hkv, hmk, h, hm, h1, h2])
   ·rename_i h1 h2
    simp only [sj, pj] at he
    obtain ⟨rfl, rfl⟩ := he
    exact zbm rfl (fun objs2 h => by simp only [eff, hev, hxm, hkv, hmk, h, hm, h1, h2])
   ·cases he
  ·cases he
 ·cases he
theorem mlen_loc {k : Nat} {x : Operand} (hx : (st.ev x).only k) (he : eff P C st d (.mlen x) = some (v, o1)) : zdh [k] st v o1 (fun s' => eff P C s' d (.mlen x)) := by
 simp only [eff] at he
 split at he
 ·rename_i m hxm
  rw [hxm] at hx
  simp only [PV.only] at hx
  subst hx
  split at he
  ·rename_i es hm
   have hev : ∀ (objs2 : Nat → Option Ob) y, ({ st with objs := objs2 } : St).ev y = st.ev y := fun _ y => by cases y <;> rfl
   simp only [sj, pj] at he
   obtain ⟨rfl, rfl⟩ := he
   exact zap rfl (fun objs2 h => by simp only [eff, hev, hxm, h m (by simp), hm])
  ·cases he
 ·cases he
theorem argsOf_loc {objs objs' : Nat → Option Ob} : ∀ (vs : List PV) (ks : List Nat) (r : List PV × List Nat × Bool), (∀ k g off n, PV.one (.osl k g off n) ∈ vs → objs' k = objs k) → zay objs vs ks = some r →
  zay objs' vs ks = some r ∧ ∀ k ∈ r.2.1, k ∈ ks ∨ PV.one (.ptr k 0) ∈ vs
 | [], ks, r, _, hr => by
  simp only [zay, sj] at hr
  subst hr
  exact ⟨rfl, fun k hk => .inl hk⟩
 | v :: vs, ks, r, h, hr => by
  have ih := fun ks r => argsOf_loc (objs := objs) (objs' := objs') vs ks r (fun k g off n hm => h k g off n (yat _ hm))
  unfold zay at hr ⊢
  split at hr
  ·rename_i heq; cases heq
  ·rename_i heq
   simp only [yaf] at heq
   obtain ⟨rfl, rfl⟩ := heq
   split at hr
   ·cases hr
   ·rename_i hc
    rw [if_neg hc]
    split at hr
    ·rename_i r' ks' b he
     obtain ⟨i1, i2⟩ := ih _ _ he
     simp only [sj] at hr
     subst hr
     refine ⟨by simp only [i1], fun j hj => ?_⟩
     rcases i2 j hj with h1 | h1
     ·simp only [List.mem_append, List.mem_singleton] at h1
      rcases h1 with h1 | rfl
      ·exact .inl h1
      ·exact .inr (by simp)
     ·exact .inr (yat _ h1)
    ·cases hr
  ·rename_i heq
   simp only [yaf] at heq
   obtain ⟨rfl, rfl⟩ := heq
   split at hr
   ·rename_i ho
    simp only [h _ _ _ _ (ybo ..), ho]
    split at hr
    ·rename_i hc
     rw [if_pos hc]
     split at hr
     ·rename_i r' ks' b he
      obtain ⟨i1, i2⟩ := ih _ _ he
      simp only [sj] at hr
      subst hr
      refine ⟨by simp only [i1], fun j hj => ?_⟩
      rcases i2 j hj with h1 | h1
      ·exact .inl h1
      ·exact .inr (yat _ h1)
     ·cases hr
    ·cases hr
   ·cases hr
  ·rename_i hn1 hn2 heq
   simp only [yaf] at heq
   obtain ⟨rfl, rfl⟩ := heq
   split at hr
   ·rename_i hc
    rw [if_pos hc]
    split at hr
    ·rename_i r' ks' b he
     obtain ⟨i1, i2⟩ := ih _ _ he
     simp only [sj] at hr
     subst hr
     refine ⟨by simp only [i1], fun j hj => ?_⟩
     rcases i2 j hj with h1 | h1
     ·exact .inl h1
     ·exact .inr (yat _ h1)
    ·cases hr
   ·cases hr
theorem objsIn_loc {objs objs' : Nat → Option Ob} : ∀ (ks : List Nat), (∀ k ∈ ks, objs' k = objs k) → zcp objs' ks = zcp objs ks
 | [], _ => rfl
 | k :: ks, h => by simp only [zcp, h k (by simp), objsIn_loc ks (fun j hj => h j (by simp [hj]))]
theorem zfj : ∀ (ks : List Nat) (os : List (List Lf)) (objs objs2 o1 : Nat → Option Ob), zbc objs ks os = some o1 →
  (∀ k, k ∉ ks → o1 k = objs k) ∧ ∃ o2, zbc objs2 ks os = some o2 ∧ (∀ k ∈ ks, o2 k = o1 k) ∧ ∀ k, k ∉ ks → o2 k = objs2 k
 | [], [], objs, objs2, o1, h => by
  simp only [zbc, sj] at h
  subst h
  exact ⟨fun _ _ => rfl, objs2, rfl, (fun k hk => by simp at hk), (fun _ _ => rfl)⟩
 | [], _ :: _, _, _, _, h => by simp [zbc] at h
 | _ :: _, [], _, _, _, h => by simp [zbc] at h
 | k0 :: ks, cs :: os, objs, objs2, o1, h => by
  simp only [zbc] at h ⊢
  obtain ⟨i1, o2, i2, i3, i4⟩ := zfj ks os _ (upd objs2 k0 (some (.cells cs))) o1 h
  refine ⟨fun k hk => ?_, o2, i2, fun k hk => ?_, fun k hk => ?_⟩
  ·simp only [yav, not_or] at hk
   rw [i1 k hk.2, zah _ _ hk.1]
  ·by_cases hkk : k ∈ ks
   ·exact i3 k hkk
   ·have e : k = k0 := by simp only [yav] at hk; exact hk.resolve_right hkk
    subst e
    rw [i4 k hkk, i1 k hkk, zab, zab]
  ·simp only [yav, not_or] at hk
   rw [i4 k hk.2, zah _ _ hk.1]
theorem callP_loc {F : List Nat} {wr : Bool} {objs : Nat → Option Ob} {f : FuncId} {args : List PV} (hp : ∀ k o, PV.one (.ptr k o) ∈ args → k ∈ F) (hq : ∀ k g off n, PV.one (.osl k g off n) ∈ args → k ∈ F)
  (he : zct C wr objs f args = some (v, o1)) :
  (∀ k, k ∉ F → o1 k = objs k) ∧ ∀ objs2 : Nat → Option Ob, (∀ k ∈ F, objs2 k = objs k) → ∃ o2, zct C wr objs2 f args = some (v, o2) ∧ (∀ k ∈ F, o2 k = o1 k) ∧ ∀ k, k ∉ F → o2 k = objs2 k := by
 unfold zct at he
 split at he
 ·cases he
 ·rename_i args' ks rd hargs
  have hks : ∀ k ∈ ks, k ∈ F := fun k hk => by
   obtain ⟨_, h2⟩ := argsOf_loc (objs := objs) (objs' := objs) args [] _ (fun _ _ _ _ _ => rfl) hargs
   rcases h2 k hk with h | h
   ·cases h
   ·exact hp _ _ h
  split at he
  ·cases he
  ·rename_i os hos
   split at he
   ·cases he
   ·rename_i res ob' hC
    split at he
    ·cases he
    ·rename_i os' hall
     split at he
     ·rename_i hcond
      split at he
      ·cases he
      ·rename_i objs1 hout
       simp only [sj, pj] at he
       obtain ⟨rfl, rfl⟩ := he
       obtain ⟨u1, _⟩ := zfj ks os' objs objs objs1 hout
       refine ⟨fun k hk => u1 k (fun h => hk (hks k h)), fun objs2 h => ?_⟩
       obtain ⟨_, o2, u2, u3, u4⟩ := zfj ks os' objs objs2 objs1 hout
       refine ⟨o2, ?_, fun k hk => ?_, fun k hk => u4 k (fun h => hk (hks k h))⟩
       ·unfold zct
        rw [(argsOf_loc (objs' := objs2) args [] _ (fun k g off n hm => h k (hq _ _ _ _ hm)) hargs).1]
        simp only [objsIn_loc ks (fun k hk => h k (hks k hk)), hos, hC, hall, hcond, if_true, u2]
       ·by_cases hkk : k ∈ ks
        ·exact u3 k hkk
        ·rw [u4 k hkk, u1 k hkk]; exact h k hk
     ·cases he
theorem nilP_ptr {nl : List (Nat × Nat)} {q : PV} {l : Lf} (hl : ∀ v, l ≠ .val v) (hw : ∀ sz n g, l ≠ .view sz n g) (h : nilP nl q = .one l) : q = .one l := by
 cases q with
 | one x =>
  unfold nilP at h
  cases nl with
  | nil => exact h
  | cons y ys =>
   simp only [PV.one.injEq] at h
   unfold nilL at h
   split at h
   ·split at h
    ·exact absurd h.symm (hw _ _ _)
    ·exact absurd h.symm (hl _)
   ·exact congrArg _ h
 | agg cs => unfold nilP at h; cases nl <;> cases h
 | none => cases h
 | tup vs => cases h
theorem zge {l : Lf} (hl : ∀ v, l ≠ .val v) (hw : ∀ sz n g, l ≠ .view sz n g) : ∀ (nls : List (List (Nat × Nat))) (ps : List PV), PV.one l ∈ nilA nls ps → PV.one l ∈ ps
 | [], ps, h => by simpa [nilA] using h
 | _ :: _, [], h => by simp [nilA] at h
 | nl :: nls, p :: ps, h => by
  simp only [nilA, yav] at h ⊢
  rcases h with h | h
  ·exact .inl (nilP_ptr hl hw h.symm).symm
  ·exact .inr (zge hl hw nls ps h)
theorem zdf {hs : List (Nat × Hint)} (ho : okH hs st = true) : ∀ {xs : List Operand} {F : List Nat}, callFp hs xs = some F → (∀ k o, PV.one (.ptr k o) ∈ evs st xs → k ∈ F) ∧ (∀ k g off n, PV.one (.osl k g off n) ∈ evs st xs → k ∈ F)
 | [], F, h => by
  exact ⟨(fun k o hm => by simp [evs] at hm), (fun k g off n hm => by simp [evs] at hm)⟩
 | x :: xs, F, h => by
  simp only [callFp] at h
  split at h
  ·rename_i F' hx hF
   simp only [sj] at h; subst h
   obtain ⟨i1, i2⟩ := zdf ho hF
   have ha := zbi ho hx
   refine ⟨fun k o hm => ?_, fun k g off n hm => ?_⟩
   ·simp only [evs, yan, yav] at hm
    rcases hm with hm | hm
    ·rw [← hm] at ha; exact ha.elim
    ·exact i1 k o hm
   ·simp only [evs, yan, yav] at hm
    rcases hm with hm | hm
    ·rw [← hm] at ha; exact ha.elim
    ·exact i2 k g off n hm
  ·rename_i k0 off0 F' hx hF
   simp only [sj] at h; subst h
   obtain ⟨i1, i2⟩ := zdf ho hF
   have ha := hint_at ho hx
   refine ⟨fun k o hm => ?_, fun k g off n hm => ?_⟩
   ·simp only [evs, yan, yav] at hm
    rcases hm with hm | hm
    ·rw [ha] at hm; injection hm with hm; injection hm with hm _; subst hm; simp
    ·exact yat _ (i1 k o hm)
   ·simp only [evs, yan, yav] at hm
    rcases hm with hm | hm
    ·rw [ha] at hm; injection hm with hm; cases hm
    ·exact yat _ (i2 k g off n hm)
  ·rename_i k0 F' hx hF
   simp only [sj] at h; subst h
   obtain ⟨i1, i2⟩ := zdf ho hF
   have ha := zbf ho hx
   refine ⟨fun k o hm => ?_, fun k g off n hm => ?_⟩
   ·simp only [evs, yan, yav] at hm
    rcases hm with hm | hm
    ·rw [← hm] at ha; simp only [PV.only] at ha; subst ha; simp
    ·exact yat _ (i1 k o hm)
   ·simp only [evs, yan, yav] at hm
    rcases hm with hm | hm
    ·rw [← hm] at ha; simp only [PV.only] at ha; subst ha; simp
    ·exact yat _ (i2 k g off n hm)
  ·cases h
theorem gcallP_loc {C : zaf} {ow fz : Bool} {fp : List Nat} {objs : Nat → Option Ob} {f : FuncId} {args : List PV} {v : PV} {o1 : Nat → Option Ob} (he : zby C ow fz fp objs f args = some (v, o1)) :
  (∀ k, k ∉ fp → o1 k = objs k) ∧ ∀ objs2 : Nat → Option Ob, (∀ k ∈ fp, objs2 k = objs k) → ∃ o2, zby C ow fz fp objs2 f args = some (v, o2) ∧ (∀ k ∈ fp, o2 k = o1 k) ∧ ∀ k, k ∉ fp → o2 k = objs2 k := by
 simp only [zby, mj] at he
 obtain ⟨⟨v', ob⟩, h1, h2⟩ := he
 simp only [pj] at h2
 obtain ⟨rfl, rfl⟩ := h2
 have out : ∀ (o : Nat → Option Ob) k, k ∉ fp → zdc fp o ob k = o k := fun o k hk => by
  unfold zdc; rw [if_neg (by simpa using hk)]
 refine ⟨out objs, fun objs2 h => ⟨zdc fp objs2 ob, ?_, fun k hk => ?_, out objs2⟩⟩
 ·have hc : cutO fp objs2 = cutO fp objs := by
   funext k
   unfold cutO
   split
   ·rename_i hk; exact h k (by simpa using hk)
   ·rfl
  simp only [zby, hc, h1, yaz]
 ·unfold zdc
  rw [if_pos (by simpa using hk), if_pos (by simpa using hk)]
theorem zgl (objs2 : Nat → Option Ob) (xs : List Operand) : evs { st with objs := objs2 } xs = evs st xs := List.map_congr_left fun y _ => by cases y <;> rfl
theorem zfg (d : Nat) : ∀ (ow : List (Nat × TypeId × Nat)) (i : Nat) (cs : List Lf), ow.all (fun x => Nat.ble fixM x.2.1) = true → ∃ cs', ∀ objs, zfh d i ow cs objs = some (cs', objs)
 | [], i, cs, _ => ⟨cs, fun _ => rfl⟩
 | (off, el, sz) :: ow, i, cs, h => by
  simp only [yby, yag] at h
  obtain ⟨cs', ih⟩ := zfg d ow (i + 1) cs h.2
  by_cases hc : ∃ v, cs[off]? = some v ∧ v = .val (.slice none 0 0)
  ·obtain ⟨v, h1, rfl⟩ := hc
   refine ⟨cs'.set off (.view sz 0 fun _ => []), fun objs => ?_⟩
   simp only [zfh, h1]
   rw [if_pos h.1, ih objs]
  ·refine ⟨cs', fun objs => ?_⟩
   rw [← ih objs]
   simp only [zfh]
   split
   ·rename_i h1; exact absurd ⟨_, h1, rfl⟩ hc
   ·rfl
theorem eff_loc {hs : List (Nat × Hint)} {p : POp} {F : List Nat} (hF : fpOf hs d p = some F) (ho : okH hs st = true) (he : eff P C st d p = some (v, o1)) : zdh F st v o1 (fun s => eff P C s d p) := by
 cases p
 case load ag sz x =>
  simp only [fpOf] at hF
  split at hF <;> first | (cases hF; done) | skip
  all_goals (rename_i hx; simp only [sj] at hF; subst hF)
  ·exact load_loc0 (zbi ho hx) he
  ·exact load_loc (by rw [hint_at ho hx]; rfl) he
  ·exact load_loc (zbf ho hx) he
 case store sz a x =>
  simp only [fpOf] at hF
  split at hF <;> first | (cases hF; done) | skip
  all_goals (rename_i hx; simp only [sj] at hF; subst hF)
  ·exact store_loc (by rw [hint_at ho hx]; rfl) he
  ·exact store_loc (zbf ho hx) he
 case iaddrS esz x i =>
  simp only [fpOf] at hF
  split at hF <;> first | (cases hF; done) | skip
  all_goals (rename_i hx; simp only [sj] at hF; subst hF)
  ·exact iaddrS_loc0 (zbi ho hx) he
  ·exact iaddrS_loc (zbf ho hx) he
 case slc esz x lo hi =>
  simp only [fpOf] at hF
  split at hF <;> first | (cases hF; done) | skip
  all_goals (rename_i hx; simp only [sj] at hF; subst hF)
  ·exact slc_loc0 (zbi ho hx) he
  ·exact slc_loc (zbf ho hx) he
 case allocT el z ow => simp [fpOf] at hF
 case alloc el z ow =>
  simp only [fpOf] at hF
  split at hF
  ·split at hF
   ·rename_i dd how
    simp only [sj] at hF; subst hF
    simp only [eff] at he
    split at he
    ·rename_i cs hk hcs
     obtain ⟨cs', ho'⟩ := zfg dd ow 0 cs how
     rw [ho'] at he
     simp only at he
     split at he
     ·rename_i hn
      simp only [sj, pj] at he
      obtain ⟨rfl, rfl⟩ := he
      exact zbm rfl (fun objs2 h => by simp only [eff, h, hk, hcs, ho']; rfl)
     ·cases he
    ·cases he
   ·cases hF
  ·cases hF
 case box el x ow =>
  simp only [fpOf] at hF
  split at hF
  ·split at hF
   ·rename_i dd how
    simp only [sj] at hF; subst hF
    simp only [eff] at he
    split at he
    ·rename_i cs hk hcs
     obtain ⟨cs', ho'⟩ := zfg dd ow 0 cs how
     rw [ho'] at he
     simp only at he
     split at he
     ·rename_i hn
      simp only [sj, pj] at he
      obtain ⟨rfl, rfl⟩ := he
      refine zbm rfl (fun objs2 h => ?_)
      have hev : ∀ y, ({ st with objs := objs2 } : St).ev y = st.ev y := fun y => by cases y <;> rfl
      simp only [eff, hev, h, hk, hcs, ho']; rfl
     ·cases he
    ·cases he
   ·cases hF
  ·cases hF
 case bptrs esz xs =>
  simp only [fpOf] at hF
  split at hF
  ·simp only [sj] at hF; subst hF
   rename_i dd
   simp only [eff] at he
   split at he
   ·rename_i l hk hl
    simp only [sj, pj] at he
    obtain ⟨rfl, rfl⟩ := he
    refine zbm rfl (fun objs2 h => ?_)
    have e1 := zbg (st := { st with objs := objs2 }) (st' := st) esz xs (fun y _ => by cases y <;> rfl)
    simp only [eff, e1, h, hk, hl]
   ·cases he
  ·cases hF
 case bown el esz xs =>
  simp only [fpOf] at hF
  split at hF
  ·simp only [sj] at hF; subst hF
   rename_i dd
   simp only [eff] at he
   split at he
   ·rename_i l hk hl
    split at he
    ·rename_i hc
     simp only [sj, pj] at he
     obtain ⟨rfl, rfl⟩ := he
     refine zbm rfl (fun objs2 h => ?_)
     have e1 := zbg (st := { st with objs := objs2 }) (st' := st) esz xs (fun y _ => by cases y <;> rfl)
     simp only [eff, e1, h, hk, hl, if_pos hc]
    ·cases he
   ·cases he
  ·cases hF
 case s2bo el x =>
  simp only [fpOf] at hF
  split at hF
  ·simp only [sj] at hF; subst hF
   rename_i dd
   simp only [eff] at he
   split at he
   ·rename_i str hk hx
    split at he
    ·rename_i hc
     simp only [sj, pj] at he
     obtain ⟨rfl, rfl⟩ := he
     refine zbm rfl (fun objs2 h => ?_)
     have hev : ∀ y, ({ st with objs := objs2 } : St).ev y = st.ev y := fun y => by cases y <;> rfl
     simp only [eff, hev, h, hk, hx, if_pos hc]
    ·cases he
   ·cases he
  ·cases hF
 case gcall ow fz fp nl f xs =>
  simp only [fpOf, sj] at hF
  subst hF
  simp only [eff] at he
  obtain ⟨c1, c2⟩ := gcallP_loc he
  exact ⟨c1, fun objs2 h => by
   obtain ⟨o2, d1, d2, d3⟩ := c2 objs2 h
   exact ⟨o2, by simp only [eff, zgl]; exact d1, d2, d3⟩⟩
 case gcallv ow fz fp nl x xs =>
  simp only [fpOf, sj] at hF
  subst hF
  simp only [eff] at he
  split at he
  ·rename_i f caps hfx
   obtain ⟨c1, c2⟩ := gcallP_loc he
   refine ⟨c1, fun objs2 h => ?_⟩
   obtain ⟨o2, d1, d2, d3⟩ := c2 objs2 h
   have hev : ∀ y, ({ st with objs := objs2 } : St).ev y = st.ev y := fun y => by cases y <;> rfl
   exact ⟨o2, by simp only [eff, hev, hfx, zgl]; exact d1, d2, d3⟩
  ·rename_i f first captured hfx
   split at he
   ·rename_i hc
    obtain ⟨c1, c2⟩ := gcallP_loc he
    refine ⟨c1, fun objs2 h => ?_⟩
    obtain ⟨o2, d1, d2, d3⟩ := c2 objs2 h
    have hev : ∀ y, ({ st with objs := objs2 } : St).ev y = st.ev y := fun y => by cases y <;> rfl
    exact ⟨o2, by simp only [eff, hev, hfx, if_pos hc, zgl]; exact d1, d2, d3⟩
   ·cases he
  ·cases he
 case app key el esz bytes s x =>
  simp only [fpOf] at hF
  split at hF
  ·rename_i hs' hx
   simp only [sj] at hF; subst hF
   exact app_loc ((zbi ho hs').only _) (zbi ho hx) he
  ·rename_i k hs' hx
   split at hF
   ·rename_i hk
    simp only [sj] at hF; subst hF
    subst hk
    exact app_loc (zbf ho hs') (zbi ho hx) he
   ·cases hF
  ·rename_i k2 hs' hx
   simp only [sj] at hF; subst hF
   exact app_loc2 (zbi ho hs') (zbf ho hx) he
  ·cases hF
 case appT to el esz bytes s x =>
  simp only [fpOf] at hF
  split at hF
  ·rename_i k k2 hs' hx
   simp only [sj] at hF; subst hF
   exact appT_loc (zbf ho hs') (zbf ho hx) he
  ·cases hF
 case appF el esz bytes s x => simp [fpOf] at hF
 case buildV nl z ps =>
  simp only [fpOf, sj] at hF
  subst hF
  simp only [eff] at he
  split at he
  ·rename_i cs hcs
   simp only [mj, pj] at he
   obtain ⟨u, hu, rfl, rfl⟩ := he
   refine zap rfl (fun objs2 _ => ?_)
   have e1 := zcq (st := { st with objs := objs2 }) (st' := st) ps cs (fun y _ => by cases y <;> rfl)
   simp only [eff, hcs, e1, hu, yaz]
  ·cases he
 case storeV nl sz a x =>
  simp only [fpOf] at hF
  split at hF <;> first | (cases hF; done) | skip
  all_goals (rename_i hx; simp only [sj] at hF; subst hF)
  ·exact storeV_loc (by rw [hint_at ho hx]; rfl) he
  ·exact storeV_loc (zbf ho hx) he
 case mmake =>
  simp only [fpOf] at hF
  split at hF
  ·simp only [sj] at hF; subst hF
   rename_i dd
   simp only [eff] at he
   split at he
   ·rename_i hk
    split at he
    ·rename_i hc
     simp only [sj, pj] at he
     obtain ⟨rfl, rfl⟩ := he
     exact zbm rfl (fun objs2 h => by simp only [eff, h, hk, if_pos hc])
    ·cases he
   ·cases he
  ·cases hF
 case mlook ok mt nl x k =>
  simp only [fpOf] at hF
  split at hF
  ·rename_i hx
   simp only [sj] at hF; subst hF
   exact mlook_loc (zbf ho hx) he
  ·cases hF
 case mset mt x k y =>
  simp only [fpOf] at hF
  split at hF
  ·rename_i hx
   simp only [sj] at hF; subst hF
   exact mset_loc (zbf ho hx) he
  ·cases hF
 case mdel mt x k =>
  simp only [fpOf] at hF
  split at hF
  ·rename_i hx
   simp only [sj] at hF; subst hF
   exact mdel_loc (zbf ho hx) he
  ·cases hF
 case mlen x =>
  simp only [fpOf] at hF
  split at hF
  ·rename_i hx
   simp only [sj] at hF; subst hF
   exact mlen_loc (zbf ho hx) he
  ·cases hF
 case call wr nl f xs =>
  simp only [fpOf] at hF
  obtain ⟨m1, m2⟩ := zdf ho hF
  simp only [eff] at he
  obtain ⟨c1, c2⟩ := callP_loc (F := F) (fun k o hm => m1 k o (zge (by simp) (by simp) _ _ hm)) (fun k g off n hm => m2 k g off n (zge (by simp) (by simp) _ _ hm)) he
  exact ⟨c1, fun objs2 h => by
   obtain ⟨o2, d1, d2, d3⟩ := c2 objs2 h
   exact ⟨o2, by simp only [eff, zgl]; exact d1, d2, d3⟩⟩
 case b2s x => simp [fpOf] at hF
 case callv wr nl x xs =>
  simp only [fpOf] at hF
  split at hF
  ·rename_i hx
   have hxa := zbi ho hx
   obtain ⟨m1, m2⟩ := zdf ho hF
   simp only [eff] at he
   split at he
   ·rename_i f caps hfx
    rw [hfx] at hxa
    exact hxa.elim
   ·rename_i f first captured hfx
    split at he
    ·rename_i hc
     obtain ⟨c1, c2⟩ := callP_loc (F := F) (fun k o hm => m1 k o (zge (by simp) (by simp) _ _ hm)) (fun k g off n hm => m2 k g off n (zge (by simp) (by simp) _ _ hm)) he
     refine ⟨c1, fun objs2 h => ?_⟩
     obtain ⟨o2, d1, d2, d3⟩ := c2 objs2 h
     have hev : ∀ y, ({ st with objs := objs2 } : St).ev y = st.ev y := fun y => by cases y <;> rfl
     exact ⟨o2, by simp only [eff, hev, hfx, if_pos hc, zgl]; exact d1, d2, d3⟩
    ·cases he
   ·cases he
  ·cases hF
 all_goals
  simp only [fpOf, sj] at hF
  subst hF
  obtain ⟨e1, _⟩ := eff_cls0 (st' := st) rfl (fun _ _ => rfl) he
  exact zap e1 (fun objs2 _ => (eff_cls0 (st' := { st with objs := objs2 }) rfl (fun y _ => by cases y <;> rfl) he).2)
theorem zda (cs new : List Lf) (off : Nat) (h : off + new.length ≤ cs.length) (q : Nat) : (zau cs off new)[q]? = if off ≤ q ∧ q < off + new.length then new[q - off]? else cs[q]? := by
 simp only [zau, List.getElem?_append, yae, yam, yap, ybe]
 rw [show min off cs.length = off by omega]
 by_cases h1 : q < off
 ·rw [if_pos (by omega), if_pos h1, if_pos h1, if_neg (by omega)]
 ·by_cases h2 : q < off + new.length
  ·rw [if_pos h2, if_neg h1, if_pos (by omega)]
  ·rw [if_neg h2, if_neg (by omega)]
   congr 1; omega
theorem zcj (cs new : List Lf) (off : Nat) (h : off + new.length ≤ cs.length) : (zau cs off new).length = cs.length := by simp [zau]; omega
theorem splice_comm (cs a b : List Lf) (i j : Nat) (hi : i + a.length ≤ cs.length) (hj : j + b.length ≤ cs.length) (h : i + a.length ≤ j ∨ j + b.length ≤ i) : zau (zau cs i a) j b = zau (zau cs j b) i a := by
 apply List.ext_getElem?
 intro q
 rw [zda _ _ _ (by rw [zcj _ _ _ hi]; exact hj), zda _ _ _ hi, zda _ _ _ (by rw [zcj _ _ _ hj]; exact hi), zda _ _ _ hj]
 by_cases h1 : j ≤ q ∧ q < j + b.length
 ·rw [if_pos h1, if_neg (by omega), if_pos h1]
 ·rw [if_neg h1]
  by_cases h2 : i ≤ q ∧ q < i + a.length
  ·rw [if_pos h2, if_pos h2]
  ·rw [if_neg h2, if_neg h2, if_neg h1]
theorem rdc_splice (ag : Bool) (sz : Nat) (cs new : List Lf) (off i : Nat) (hi : i + new.length ≤ cs.length) (h : off + (if ag then sz else 1) ≤ i ∨ i + new.length ≤ off) : rdc ag sz (zau cs i new) off = rdc ag sz cs off := by
 unfold rdc
 cases ag with
 | false =>
  simp only [yad, if_false] at h ⊢
  rw [zda _ _ _ hi, if_neg (by omega)]
 | true =>
  simp only [if_true] at h ⊢
  rw [zcj _ _ _ hi]
  by_cases hc : off + sz ≤ cs.length
  ·rw [if_pos hc, if_pos hc]
   congr 2
   apply List.ext_getElem?
   intro q
   simp only [yap, ybe]
   by_cases hq : q < sz
   ·rw [if_pos hq, if_pos hq, zda _ _ _ hi, if_neg (by omega)]
   ·rw [if_neg hq, if_neg hq]
  ·rw [if_neg hc, if_neg hc]
def zff (hs : List (Nat × Hint)) : POp → Option (Nat × Nat × Nat × Bool)
 | .load ag sz x => match zbn hs x with
  | some (.at_ k off) => some (k, off, if ag then sz else 1, false)
  | _ => none
 | .store sz a _ => match zbn hs a with
  | some (.at_ k off) => some (k, off, sz, true)
  | _ => none
 | _ => none
def zco (k off len : Nat) (wr : Bool) (st : St) (v : PV) (o1 : Nat → Option Ob) (e : St → Option (PV × (Nat → Option Ob))) : Prop :=
 if wr then ∃ cs new, st.objs k = some (.cells cs) ∧ new.length = len ∧ off + len ≤ cs.length ∧ v = .none ∧ o1 = upd st.objs k (some (.cells (zau cs off new))) ∧
   ∀ objs2 cs2, objs2 k = some (.cells cs2) → cs2.length = cs.length → e { st with objs := objs2 } = some (.none, upd objs2 k (some (.cells (zau cs2 off new))))
 else ∃ cs, st.objs k = some (.cells cs) ∧ o1 = st.objs ∧ ∀ objs2 cs2 (i : Nat) (new : List Lf), objs2 k = some (.cells cs2) → i + new.length ≤ cs.length → (off + len ≤ i ∨ i + new.length ≤ off) → (cs2 = zau cs i new ∨ cs = zau cs2 i new ∧ cs2.length = cs.length ∨ cs2 = cs) →
   e { st with objs := objs2 } = some (v, objs2)
theorem place_does {hs : List (Nat × Hint)} {p : POp} {k off len : Nat} {wr : Bool} (hp : zff hs p = some (k, off, len, wr)) (ho : okH hs st = true) (he : eff P C st d p = some (v, o1)) : zco k off len wr st v o1 (fun s => eff P C s d p) := by
 cases p <;> first | (cases hp; done) | skip
 case load ag sz x =>
  simp only [zff] at hp
  split at hp
  ·rename_i k' off' hx
   simp only [sj, pj] at hp
   obtain ⟨rfl, rfl, rfl, rfl⟩ := hp
   have hxe := hint_at ho hx
   simp only [eff, hxe] at he
   split at he
   ·rename_i cs hk
    simp only [mj, pj] at he
    obtain ⟨u, hr, rfl, rfl⟩ := he
    refine ⟨cs, hk, rfl, fun objs2 cs2 i new h2 hin hdis hcs => ?_⟩
    have hev : ∀ y, ({ st with objs := objs2 } : St).ev y = st.ev y := fun y => by cases y <;> rfl
    have hrr : rdc ag sz cs2 off' = rdc ag sz cs off' := by
     rcases hcs with rfl | ⟨h3, h4⟩ | rfl
     ·exact rdc_splice _ _ _ _ _ _ hin hdis
     ·rw [h3]; exact (rdc_splice _ _ _ _ _ _ (by rw [h4]; exact hin) hdis).symm
     ·rfl
    simp only [eff, hev, hxe, h2, hrr, hr, yaz]
   ·cases he
  ·cases hp
 case store sz a x =>
  simp only [zff] at hp
  split at hp
  ·rename_i k' off' hx
   simp only [sj, pj] at hp
   obtain ⟨rfl, rfl, rfl, rfl⟩ := hp
   have hxe := hint_at ho hx
   simp only [eff, hxe] at he
   split at he
   ·cases he
   ·rename_i new hnew
    split at he
    ·rename_i cs hk
     split at he
     ·rename_i hc
      simp only [sj, pj] at he
      obtain ⟨rfl, rfl⟩ := he
      refine ⟨cs, new, hk, hc.1, hc.2, rfl, rfl, fun objs2 cs2 h2 hl => ?_⟩
      have hev : ∀ y, ({ st with objs := objs2 } : St).ev y = st.ev y := fun y => by cases y <;> rfl
      simp only [eff, hev, hxe, hnew, h2, hl, if_pos hc]
     ·cases he
    ·cases he
  ·cases hp
end
def apartPl (a b : Nat × Nat × Nat × Bool) : Bool := a.1 == b.1 && (decide (a.2.1 + a.2.2.1 ≤ b.2.1) || decide (b.2.1 + b.2.2.1 ≤ a.2.1))
theorem place_comm {P : Program} {C : zaf} {hx hy : List (Nat × Hint)} {px py : POp} {dx dy : Option Nat} {a b : Nat × Nat × Nat × Bool} (ha : zff hx px = some a) (hb : zff hy py = some b) (hab : apartPl a b = true)
  {st : St} {vx vy : PV} {ox oy : Nat → Option Ob} (okx : okH hx st = true) (oky : okH hy st = true) (h1 : eff P C st dx px = some (vx, ox)) (h2 : eff P C { st with objs := ox } dy py = some (vy, oy)) :
  ∃ o', eff P C st dy py = some (vy, o') ∧ eff P C { st with objs := o' } dx px = some (vx, oy) := by
 obtain ⟨k, off, len, wr⟩ := a
 obtain ⟨k', off', len', wr'⟩ := b
 simp only [apartPl, yag, beq_iff_eq, ycj, decide_eq_true_eq] at hab
 obtain ⟨rfl, hdis⟩ := hab
 have oky' : okH hy { st with objs := ox } = true := by
  rw [← oky]; exact zem hy st ox
 have p1 := place_does ha okx h1
 have p2 := place_does hb oky' h2
 cases wr with
 | true =>
  simp only [zco, if_true] at p1
  obtain ⟨cs, new, q1, q2, q3, rfl, rfl, q6⟩ := p1
  cases wr' with
  | true =>
   simp only [zco, if_true] at p2
   obtain ⟨cs2, new2, r1, r2, r3, rfl, rfl, r6⟩ := p2
   rw [zab] at r1
   injection r1 with r1
   injection r1 with r1
   subst r1
   have hl := zcj cs new off (by omega)
   rw [hl] at r3
   have e1 := r6 st.objs cs q1 hl.symm
   refine ⟨_, e1, ?_⟩
   have e2 := q6 (upd st.objs k (some (.cells (zau cs off' new2)))) (zau cs off' new2) (zab _ _ _) (zcj _ _ _ (by omega))
   rw [e2]
   congr 2
   funext j
   simp only [upd]
   split
   ·rw [splice_comm cs new new2 off off' (by omega) (by omega) (by omega)]
   ·rfl
  | false =>
   simp only [zco, yad, if_false] at p2
   obtain ⟨cs2, r1, rfl, r3⟩ := p2
   rw [zab] at r1
   injection r1 with r1
   injection r1 with r1
   subst r1
   have hl := zcj cs new off (by omega)
   have e1 := r3 st.objs cs off new q1 (by rw [hl]; omega) (by omega) (.inr (.inl ⟨rfl, hl.symm⟩))
   exact ⟨_, e1, q6 st.objs cs q1 rfl⟩
 | false =>
  simp only [zco, yad, if_false] at p1
  obtain ⟨cs, q1, rfl, q3⟩ := p1
  refine ⟨oy, h2, ?_⟩
  cases wr' with
  | true =>
   simp only [zco, if_true] at p2
   obtain ⟨cs2, new2, r1, r2, r3, rfl, rfl, r6⟩ := p2
   have r1' : st.objs k = some (.cells cs2) := r1
   rw [q1] at r1'
   injection r1' with r1'
   injection r1' with r1'
   subst r1'
   exact q3 _ _ off' new2 (zab _ _ _) (by omega) (by omega) (.inl rfl)
  | false =>
   simp only [zco, yad, if_false] at p2
   obtain ⟨cs2, r1, rfl, r3⟩ := p2
   exact h1
end Go.Rx
