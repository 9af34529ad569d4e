/- No condition. -/
import Derived.Test.YtobeamaaifgllaaRxB
import Derived.Laws.Tables
import Derived.Laws.Rows
import Derived.Laws.AppendOwn
import Derived.Laws.CopyRow
import Derived.Laws.Slices
import Derived.Great.BuildSlice
namespace Go.Rx
open Go Go.RowKit
def szOf (P : Program) (t : TypeId) : Option Nat := (P.info? t).map (·.size)
def aggD : TypeDesc → Bool
 | .struct _ | .array _ _ => true
 | _ => false
def aggOf (P : Program) (t : TypeId) : Option Bool := (P.underlying t).map aggD
def isC : Operand → Bool
 | .const _ => true
 | _ => false
def partsOf (place : Nat → Option (Nat × Nat)) : List (Nat × Operand) → Option (List (Nat × Nat × Operand))
 | [] => some []
 | (i, x) :: rest => match place i, partsOf place rest with
  | some (off, sz), some l => some ((off, sz, x) :: l)
  | _, _ => none
def anyPtr (P : Program) (ts : List TypeId) : Bool := ts.any fun t => match P.underlying t with | some (.pointer _) => true | _ => false
def nilsOf (P : Program) : Nat → TypeId → Nat → List (Nat × Nat)
 | 0, _, _ => []
 | n + 1, t, off => match P.underlying t with
  | some (.slice e) => match szOf P e with
   | some sz => [(off, sz)]
   | none => []
  | some (.struct fs) => fs.toList.flatMap fun f => nilsOf P n f.type (off + f.offset)
  | some (.array len e) => match szOf P e with
   | some sz => (List.range len).flatMap fun i => nilsOf P n e (off + i * sz)
   | none => []
  | _ => []
def nilsAll (P : Program) (ts : List TypeId) : List (List (Nat × Nat)) := ts.map fun t => nilsOf P 8 t 0
structure Ann0 where
 gf : Option Nat → FuncId → Option (Bool × Bool × List Nat) := fun _ _ => none
 gv : Option Nat → Nat → Option (Bool × Bool × List Nat) := fun _ _ => none
 ow : TypeId → List (Nat × TypeId × Nat) := fun _ => []
 ex : Bool := false
 tc : TypeId → Bool := fun _ => false
 bv : Option Nat → Bool := fun _ => false
 bo : Option Nat → Bool := fun _ => false
 tk : Option Nat → Option Nat := fun _ => none
 fzr : Option Nat → Bool := fun _ => false
def viewsOf (ow : List (Nat × TypeId × Nat)) : List (Nat × Nat) := (ow.filter fun x => Nat.ble fixM x.2.1).map fun x => (x.1, x.2.2)
def compCall (P : Program) (A : Ann0) (d : Option Nat) (dr : Bool) (key : Nat) (c : Call) : Option POp :=
 match c.callee with
 | .value (.func f) => match A.gf d f with
  | some (ow, fz, fp) => some (.gcall ow fz fp (nilsAll P c.argTypes.toList) f c.args.toList)
  | none => some (.call (!dr || anyPtr P c.argTypes.toList) (nilsAll P c.argTypes.toList) f c.args.toList)
 | .value (.tmp t) => match A.gv d t with
  | some (ow, fz, fp) => some (.gcallv ow fz fp (nilsAll P c.argTypes.toList) (.tmp t) c.args.toList)
  | none => some (.callv (!dr || anyPtr P c.argTypes.toList) (nilsAll P c.argTypes.toList) (.tmp t) c.args.toList)
 | .builtin .len => match c.argTypes[0]?, c.args.toList with
  | some t, [x] => match P.underlying t with
   | some (.slice _) => some (.lenS x)
   | some (.map _ _) => some (.mlen x)
   | some .string => some (.prim (.len t) [x])
   | _ => none
  | _, _ => none
 | .builtin .min => some (.prim .min c.args.toList)
 | .builtin .max => some (.prim .max c.args.toList)
 | .builtin .append => match c.argTypes.toList, c.args.toList with
  | [t, t'], [s, x] => if t = t' then match P.underlying t with
    | some (.slice e) => match P.info? e with
     | some i => match i.zero with
      | some z => if z.cells.size = i.size ∧ 0 < i.size ∧ e < fixM then
        match d, A.tk d with
        | some _, some to => some (.appT to e i.size i.bytes s x)
        | some d, none => if A.fzr (some d) then some (.appF e i.size i.bytes s x) else some (.app key e i.size i.bytes s x)
        | _, _ => some (.app key e i.size i.bytes s x)
       else none
      | none => none
     | none => none
    | _ => none
   else none
  | _, _ => none
 | .builtin .delete => match c.argTypes[0]?, c.args.toList with
  | some mt, [m, k] => some (.mdel mt m k)
  | _, _ => none
 | _ => none
def isNilPtr : Operand → Bool
 | .const (.pointer none) => true
 | _ => false
def isEqNe : BinOp → Option Bool
 | .eql => some false
 | .neq => some true
 | _ => none
def compOp (P : Program) (A : Ann0) (d : Option Nat) (dr : Bool) (key : Nat) : Op → Option POp
 | .move x => some (.mv x)
 | .assign x => some (.mv x)
 | .pick c a b => some (.pick c a b)
 | .binOp op t x y _ => match P.underlying t with
  | some (.pointer _) => if isNilPtr y then (isEqNe op).map fun n => .pnil n x else none
  | _ => some (.prim (.bin op t (isC x) (isC y)) [x, y])
 | .unOp op _ x => some (.prim (.un op) [x])
 | .convert s dt x => match P.underlying s, P.underlying dt with
  | some (.slice e), some .string => match P.underlying e with
   | some (.int .u8) => some (.b2s x)
   | _ => none
  | some .string, some (.slice e) => match P.underlying e with
   | some (.int .u8) => if A.bo d then some (.s2bo e x) else some (.s2b e x)
   | _ => none
  | _, _ => some (.prim (.conv s dt) [x])
 | .alloc el => match P.info? el with
  | some i => match i.zero with
   | some z => if A.tc el then some (.allocT el z (A.ow el)) else some (.alloc el z (A.ow el))
   | none => none
  | none => none
 | .box el x => some (.box el x (A.ow el))
 | .load t x => match aggOf P t, szOf P t with
  | some ag, some sz => some (.load ag sz x)
  | _, _ => none
 | .store t a x => match szOf P t with
  | some sz => match viewsOf (A.ow t) with
   | [] => some (.store sz a x)
   | nl => some (.storeV nl sz a x)
  | none => none
 | .nilCheck x => some (.nilc x)
 | .fieldAddr s x f => match P.underlying s with
  | some (.struct fs) => match fs[f]? with
   | some fd => match szOf P fd.type with
    | some (_ + 1) => some (.faddr fd.offset x)
    | _ => none
   | none => none
  | _ => none
 | .field s x f => match P.underlying s with
  | some (.struct fs) => match fs[f]? with
   | some fd => match aggOf P fd.type, szOf P fd.type with
    | some ag, some sz => some (.fld ag fd.offset sz x)
    | _, _ => none
   | none => none
  | _ => none
 | .indexAddr t x i => match P.underlying t with
  | some (.array len e) => match szOf P e with
   | some sz => some (.iaddrA len sz x i)
   | none => none
  | some (.slice e) => match szOf P e with
   | some sz => some (.iaddrS sz x i)
   | none => none
  | _ => none
 | .index t x i => match P.underlying t with
  | some (.array len e) => match aggOf P e, szOf P e with
   | some ag, some sz => some (.idx ag sz len x i)
   | _, _ => none
  | some .string => some (.prim (.index t) [x, i])
  | _ => none
 | .extract x i => some (.ext x i)
 | .build t parts => match P.info? t, P.underlying t with
  | some it, some (.array _ e) => match it.zero, P.info? e with
   | some z, some ie => (partsOf (fun i => some (i * ie.size, ie.size)) parts.toList).map fun l => match viewsOf (A.ow t) with
    | [] => .build z l
    | nl => .buildV nl z l
   | _, _ => none
  | some it, some (.struct fields) => match it.zero, fields.toList.mapM (fun f => (P.info? f.type).map fun i => (f.offset, i.size)) with
   | some z, some places => (partsOf (places.toArray[·]?) parts.toList).map fun l => match viewsOf (A.ow t) with
    | [] => .build z l
    | nl => .buildV nl z l
   | _, _ => none
  | _, _ => none
 | .buildSlice t len parts => match P.underlying t with
  | some (.slice e) => match P.info? e with
   | some ie => match ie.zero with
    | some _ => if ¬ len * ie.size > 2 ^ 24 ∧ ¬ len * ie.size = 0 ∧ parts.toList.map (·.1) = List.range len then match P.underlying e with
      | some (.pointer _) => some (.bptrs ie.size (parts.toList.map (·.2)))
      | _ => if A.bv d then some (.bptrs ie.size (parts.toList.map (·.2))) else if A.bo d then some (.bown e ie.size (parts.toList.map (·.2))) else some (.bslice e ie.size (parts.toList.map (·.2)))
     else none
    | none => none
   | none => none
  | _ => none
 | .slice t x lo hi none => match P.underlying t with
  | some (.slice e) => match szOf P e with
   | some sz => some (.slc sz x lo hi)
   | none => none
  | some .string => some (.prim (.slice t lo.isSome hi.isSome) (x :: (lo.toList ++ hi.toList)))
  | some (.pointer at') => match P.underlying at' with
   | some (.array len e) => match szOf P e with
    | some sz => some (.slcA len sz x lo hi)
    | none => none
   | _ => none
  | some (.array len e) => match szOf P e with
   | some sz => some (.slcA len sz x lo hi)
   | none => none
  | _ => none
 | .makeFunc (.func f) first captured => if first.toList.length = 0 then some (.mkfn f captured.toList) else none
 | .call c => compCall P A d dr key c
 | .makeMap _ none => some .mmake
 | .lookup mt x k ok => match mkeyOf P mt with
  | some (_, e) => some (.mlook ok mt (nilsOf P 8 e 0) x k)
  | none => none
 | .mapUpdate mt m k x => some (.mset mt m k x)
 | .insert mt m k x => some (.mset mt m k x)
 | _ => none
section
variable {objs : Nat → Option Ob} {E : Env} {I : Nat → Prop} {w : World}
theorem cells_one {v : Value} (h : v.oneCell' = true) : v.cells = #[v] := by cases v <;> first | rfl | (simp [Value.oneCell'] at h)
theorem VR.cells {p : PV} {v : Value} {cs : List Lf} (h : VR objs E I w p v) (hc : p.cells = some cs) :
  v.cells.size = cs.length ∧ (∀ j, j < cs.length → LR objs E I w (cs.getD j default) (v.cells.getD j undef)) := by
 cases h with
 | none => simp [PV.cells] at hc
 | one l v h =>
  simp only [PV.cells, sj] at hc
  subst hc
  rw [cells_one h.one]
  refine ⟨rfl, fun j hj => ?_⟩
  have : j = 0 := by simp at hj; omega
  subst this; exact h
 | agg cs' C hC h =>
  simp only [PV.cells, sj] at hc
  subst hc
  exact ⟨hC, h⟩
 | tup => simp [PV.cells] at hc
theorem add_eq (b o j : Nat) : (⟨b, o, none⟩ : Addr).add j = ⟨b, o + j, none⟩ := by unfold Addr.add; split <;> simp_all
theorem read_ok {P : Program} {t : TypeId} {ag : Bool} {sz : Nat} (hag : aggOf P t = some ag) (hsz : szOf P t = some sz) {cs : List Lf} {b o off : Nat} {vv : Nat → Value}
  (hc : ∀ j, j < cs.length → w.cell? ⟨b, o + j, none⟩ = some (vv j)) (hl : ∀ j, j < cs.length → LR objs E I w (cs.getD j default) (vv j)) {v : PV} (hr : rdc ag sz cs off = some v) :
  ∃ val, (loadVar t ⟨b, o + off, none⟩).run P w = .ok val w ∧ VR objs E I w v val := by
 unfold aggOf at hag
 unfold szOf at hsz
 cases hu : P.underlying t with
 | none => rw [hu] at hag; cases hag
 | some d =>
  rw [hu] at hag
  simp only [Option.map_some, sj] at hag
  cases hi : P.info? t with
  | none => rw [hi] at hsz; cases hsz
  | some i =>
   rw [hi] at hsz
   simp only [Option.map_some, sj] at hsz
   have hA : (isAgg t).run P w = .ok ag w := by
    unfold isAgg
    rw [Sem.run_bind, run_underlying hu w]
    rw [← hag]
    cases d <;> rfl
   have hS : (sizeOf t).run P w = .ok sz w := by simp [sizeOf, typeInfo, hi, hsz]
   unfold rdc at hr
   cases ag with
   | true =>
    simp only [if_true] at hr
    split at hr
    ·rename_i hle
     simp only [sj] at hr
     subst hr
     have hlc := run_loadCells (P := P) (w := w) ⟨b, o + off, none⟩ sz (fun j => vv (off + j)) (fun j hj => by rw [add_eq, Nat.add_assoc]; exact hc _ (by omega))
     refine ⟨.agg ((List.range sz).map fun j => vv (off + j)).toArray, ?_, ?_⟩
     ·simp [loadVar, hA, hS, hlc]
     ·refine .agg _ _ (by simp; omega) (fun j hj => ?_)
      have hj' : j < sz := by simp at hj; omega
      have e1 : ((cs.drop off).take sz).getD j default = cs.getD (off + j) default := by
       simp only [List.getD_eq_getElem?_getD, List.getElem?_take, List.getElem?_drop]
       rw [if_pos hj']
      have e2 : ((List.range sz).map fun j => vv (off + j)).toArray.getD j undef = vv (off + j) := by simp [Array.getD, hj']
      rw [e1, e2]
      exact hl _ (by omega)
    ·cases hr
   | false =>
    simp only [Bool.false_eq_true, if_false] at hr
    cases hq : cs[off]? with
    | none => rw [hq] at hr; cases hr
    | some l =>
     rw [hq] at hr
     simp only [Option.map_some, sj] at hr
     subst hr
     have hlt : off < cs.length := (List.getElem?_eq_some_iff.1 hq).1
     refine ⟨vv off, ?_, .one _ _ ?_⟩
     ·simp [loadVar, hA, hc off hlt]
     ·have := hl off hlt
      rw [List.getD_eq_getElem?_getD, hq] at this
      exact this
theorem part_ok {P : Program} {t : TypeId} {ag : Bool} {sz : Nat} (hag : aggOf P t = some ag) (hsz : szOf P t = some sz) {cs : List Lf} {off : Nat} {C : Array Value}
  (hC : C.size = cs.length) (hl : ∀ j, j < cs.length → LR objs E I w (cs.getD j default) (C.getD j undef)) {v : PV} (hr : rdc ag sz cs off = some v) :
  ∃ val, (part t C off).run P w = .ok val w ∧ VR objs E I w v val := by
 unfold aggOf at hag
 unfold szOf at hsz
 cases hu : P.underlying t with
 | none => rw [hu] at hag; cases hag
 | some d =>
  rw [hu] at hag
  simp only [Option.map_some, sj] at hag
  cases hi : P.info? t with
  | none => rw [hi] at hsz; cases hsz
  | some i =>
   rw [hi] at hsz
   simp only [Option.map_some, sj] at hsz
   have hA : (isAgg t).run P w = .ok ag w := by
    unfold isAgg
    rw [Sem.run_bind, run_underlying hu w]
    rw [← hag]
    cases d <;> rfl
   have hS : (sizeOf t).run P w = .ok sz w := by simp [sizeOf, typeInfo, hi, hsz]
   unfold rdc at hr
   cases ag with
   | true =>
    simp only [if_true] at hr
    split at hr
    ·rename_i hle
     simp only [sj] at hr
     subst hr
     refine ⟨.agg (C.extract off (off + sz)), ?_, ?_⟩
     ·simp [part, hA, hS]
     ·refine .agg _ _ (by simp; omega) (fun j hj => ?_)
      have hj' : j < sz := by simp at hj; omega
      have e1 : ((cs.drop off).take sz).getD j default = cs.getD (off + j) default := by
       simp only [List.getD_eq_getElem?_getD, List.getElem?_take, List.getElem?_drop]
       rw [if_pos hj']
      have e2 : (C.extract off (off + sz)).getD j undef = C.getD (off + j) undef := by
       simp [show j < min (off + sz) C.size - off by omega, show off + j < C.size by omega]
      rw [e1, e2]
      exact hl _ (by omega)
    ·cases hr
   | false =>
    simp only [Bool.false_eq_true, if_false] at hr
    cases hq : cs[off]? with
    | none => rw [hq] at hr; cases hr
    | some l =>
     rw [hq] at hr
     simp only [Option.map_some, sj] at hr
     subst hr
     have hlt : off < cs.length := (List.getElem?_eq_some_iff.1 hq).1
     have hq' : C[off]? = some (C.getD off undef) := by rw [Array.getD_eq_getD_getElem?, Array.getElem?_eq_getElem (by omega)]; rfl
     have hll := hl off hlt
     rw [List.getD_eq_getElem?_getD, hq] at hll
     generalize C.getD off undef = cv at hq' hll
     refine ⟨cv, ?_, .one _ _ hll⟩
     simp [part, hA, hq']
theorem foldl_set (off : Nat) : ∀ (l : List Value) (k : Nat) (C : Array Value), off + k + l.length ≤ C.size →
  ((l.zipIdx k).foldl (fun cs (c, j) => cs.setIfInBounds (off + j) c) C).size = C.size ∧
  ∀ q, ((l.zipIdx k).foldl (fun cs (c, j) => cs.setIfInBounds (off + j) c) C).getD q undef = if off + k ≤ q ∧ q < off + k + l.length then l.getD (q - (off + k)) undef else C.getD q undef
 | [], k, C, _ => ⟨rfl, fun q => by rw [if_neg (by simp)]; rfl⟩
 | x :: l, k, C, h => by
  simp only [List.length_cons] at h
  obtain ⟨h1, h2⟩ := foldl_set off l (k + 1) (C.setIfInBounds (off + k) x) (by simp; omega)
  refine ⟨by simpa using h1, fun q => ?_⟩
  simp only [List.zipIdx_cons, List.foldl_cons]
  rw [h2]
  by_cases hq : q = off + k
  ·subst hq
   rw [if_neg (by omega), if_pos (by simp)]
   simp [Array.getD, show off + k < C.size by omega]
  ·by_cases hq2 : off + (k + 1) ≤ q ∧ q < off + (k + 1) + l.length
   ·rw [if_pos hq2, if_pos (by simp only [List.length_cons]; omega)]
    have e : q - (off + k) = (q - (off + (k + 1))) + 1 := by omega
    rw [e]; rfl
   ·rw [if_neg hq2, if_neg (by simp only [List.length_cons]; omega)]
    simp [Array.getElem?_setIfInBounds_ne (Ne.symm hq)]
theorem splice_get (cs new : List Lf) (off : Nat) (h : off + new.length ≤ cs.length) : (splice cs off new).length = cs.length ∧
  ∀ q, (splice cs off new).getD q default = if off ≤ q ∧ q < off + new.length then new.getD (q - off) default else cs.getD q default := by
 refine ⟨by simp [splice]; omega, fun q => ?_⟩
 simp only [splice, List.getD_eq_getElem?_getD, List.getElem?_append, List.length_append, List.length_take, List.getElem?_take, List.getElem?_drop]
 rw [show min off cs.length = off by omega]
 by_cases h1 : q < off
 ·rw [if_pos (by omega), if_pos h1, if_pos h1, if_neg (by omega)]
 ·by_cases h2 : q < off + new.length
  ·rw [if_pos h2, if_neg h1, if_pos (by omega)]
  ·rw [if_neg h2, if_neg (by omega)]
   congr 2; omega
theorem fill_ok {st : St} {a : Act} (hev : ∀ x, VR objs E I w (st.ev x) (a.eval x)) (place : Nat → Option (Nat × Nat)) : ∀ (parts : List (Nat × Operand)) (l : List (Nat × Nat × Operand)) (cs : List Lf) (C : Array Value) (r : List Lf),
  partsOf place parts = some l → fillP st cs l = some r → C.size = cs.length → (∀ j, j < cs.length → LR objs E I w (cs.getD j default) (C.getD j undef)) →
  ∃ C', Instr.fill place C (parts.map fun p => (p.1, a.eval p.2)) = some C' ∧ C'.size = r.length ∧ ∀ j, j < r.length → LR objs E I w (r.getD j default) (C'.getD j undef)
 | [], l, cs, C, r, hp, hf, hC, hl => by
  simp only [partsOf, sj] at hp
  subst hp
  simp only [fillP, sj] at hf
  subst hf
  exact ⟨C, rfl, hC, hl⟩
 | (i, x) :: rest, l, cs, C, r, hp, hf, hC, hl => by
  simp only [partsOf] at hp
  split at hp
  ·rename_i off sz l' hpl hrest
   simp only [sj] at hp
   subst hp
   simp only [fillP] at hf
   split at hf
   ·rename_i new hnew
    split at hf
    ·rename_i hcond
     obtain ⟨hlen, hoff⟩ := hcond
     obtain ⟨hvs, hvl⟩ := (hev x).cells hnew
     obtain ⟨s1, s2⟩ := splice_get cs new off (by omega)
     obtain ⟨f1, f2⟩ := foldl_set off (a.eval x).cells.toList 0 C (by simp; omega)
     have hz : (a.eval x).cells.zipIdx.foldl (fun cs (c, j) => cs.setIfInBounds (off + j) c) C = ((a.eval x).cells.toList.zipIdx 0).foldl (fun cs (c, j) => cs.setIfInBounds (off + j) c) C := by
      rw [← Array.foldl_toList, Array.toList_zipIdx]
     simp only [Nat.add_zero] at f2
     have ih := fill_ok hev place rest l' (splice cs off new) (((a.eval x).cells.toList.zipIdx 0).foldl (fun cs (c, j) => cs.setIfInBounds (off + j) c) C) r hrest hf (by rw [f1, s1, hC])
      (fun j hj => by
       rw [s1] at hj
       rw [s2, f2]
       simp only [Array.length_toList, hvs]
       split
       ·rename_i hh
        have e : (a.eval x).cells.toList.getD (j - off) undef = (a.eval x).cells.getD (j - off) undef := by
         simp
        rw [e]; exact hvl _ (by omega)
       ·exact hl j hj)
     obtain ⟨C', h1, h2, h3⟩ := ih
     refine ⟨C', ?_, h2, h3⟩
     simp only [List.map_cons, Instr.fill, hpl]
     rw [if_neg (by simp [hvs]; omega), hz]
     exact h1
    ·cases hf
   ·cases hf
  ·cases hp
end
end Go.Rx
