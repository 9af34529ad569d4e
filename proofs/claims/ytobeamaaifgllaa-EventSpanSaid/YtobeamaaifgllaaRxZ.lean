/- No condition. -/
import Derived.Test.YtobeamaaifgllaaRxW
namespace Go.Rx
open Go Go.RowKit
section
variable {α : Type} {P : Program} {C : Oracle} {L : List (Nat × PV)} {M : List (Nat × Option Ob)} {o : Option α} {Q : α → PEx → St → Prop} {d : Option Nat}
theorem SimI.bindh {β : Type} {ops : List POper} {i : Nat} {og : Option β} {E : β → Option α} (op : POper) (N : β → List (Nat × PV)) (NM : β → List (Nat × Option Ob)) (hop : ops.drop i = op :: ops.drop (i + 1))
  (h : ∀ r, og = some r → pOp P C op ⟨ofl L, oflO M⟩ = some ⟨ofl (N r ++ L), oflO (NM r ++ M)⟩)
  (g : ∀ r, og = some r → SimI P C (ops.drop (i + 1)) (N r ++ L) (NM r ++ M) (E r) Q) : SimI P C (ops.drop i) L M (og.bind E) Q := by
 refine ⟨fun a ha => ?_⟩
 cases hg : og with
 | none => rw [hg] at ha; cases ha
 | some r =>
  rw [hg] at ha
  obtain ⟨st', he, hq⟩ := (g r hg).h a ha
  exact ⟨st', by rw [hop]; simp only [pOps, h r hg]; exact he, hq⟩
theorem SimI.slot {ops : List POper} {i : Nat} (s : Nat) (v : PV) (h : ofl L s = v) (g : SimI P C (ops.drop i) ((s, v) :: L) M o Q) : SimI P C (ops.drop i) L M o Q := by
 refine ⟨fun a ha => ?_⟩
 obtain ⟨st', he, hq⟩ := g.h a ha
 have e : ofl ((s, v) :: L) = ofl L := upd_idem h
 rw [e] at he
 exact ⟨st', he, hq⟩
def updL : List (Nat × Option Ob) → (Nat → Option Ob) → Nat → Option Ob
 | [], f => f
 | (k, v) :: l, f => upd (updL l f) k v
theorem updL_oflO : ∀ (l : List (Nat × Option Ob)) (M : List (Nat × Option Ob)), updL l (oflO M) = oflO (l ++ M)
 | [], M => rfl
 | (k, v) :: l, M => by simp only [updL, updL_oflO l M]; rfl
def putL (fz : Bool) (km : Nat → Option Nat) (gm : Nat → Nat → Option Nat) : Nat → Nat → List Nat → List Ob → Option (List (Nat × Option Ob))
 | _, _, [], [] => some []
 | m, j, k :: ks, o :: os => match o.ren km gm (pbase + j), putL fz km gm m (j + 1) ks os with
  | some o', some r => some (if fz && o.isArr && Nat.ble m j then r else (k, some o') :: r)
  | _, _ => none
 | _, _, _, _ => none
theorem putL_is {fz : Bool} {km : Nat → Option Nat} {gm : Nat → Nat → Option Nat} {objs : Nat → Option Ob} : ∀ (m j : Nat) (ks : List Nat) (os : List Ob) (l : List (Nat × Option Ob)), putL fz km gm m j ks os = some l → putOs fz km gm objs m j ks os = some (updL l objs)
 | _, _, [], [], l, h => by simp only [putL, sj] at h; subst h; rfl
 | m, j, k :: ks, o :: os, l, h => by
  simp only [putL] at h
  split at h
  ·rename_i o' r h1 h2
   simp only [sj] at h
   subst h
   have ih := putL_is (objs := objs) m (j + 1) ks os r h2
   simp only [putOs, h1, ih]
   split <;> rfl
  ·cases h
 | _, _, [], _ :: _, _, h => by simp [putL] at h
 | _, _, _ :: _, [], _, h => by simp [putL] at h
theorem join_updL {fp : List Nat} {objs : Nat → Option Ob} : ∀ (l : List (Nat × Option Ob)), l.all (fun p => fp.contains p.1) = true → joinO fp objs (updL l (cutO fp objs)) = updL l objs
 | [], _ => by
  funext k
  unfold joinO updL cutO
  split <;> rfl
 | (k, v) :: l, h => by
  simp only [List.all_cons, Bool.and_eq_true] at h
  have ih := join_updL (objs := objs) l h.2
  funext j
  have ihj := congrFun ih j
  unfold joinO at ihj ⊢
  simp only [updL, upd]
  by_cases e : j = k
  ·subst e; rw [if_pos h.1, if_pos rfl, if_pos rfl]
  ·rw [if_neg e, if_neg e]; exact ihj
theorem gcallP_is {ow fz : Bool} {fp ks rks new : List Nat} {objs : Nat → Option Ob} {f : FuncId} {args args1 args2 : List PV} {os os' os1 : List Ob} {res res1 r : PV} {N : List (Nat × Option Ob)}
  (h0 : (if ow then some (args, []) else readA (cutO fp objs) args) = some (args1, rks)) (hk : reach (cutO fp objs) 200 (args1.flatMap PV.keys) [] = ks)
  (h1 : (nodupB ks && rks.all (fun k => !ks.contains k)) = true) (h2 : renPs (kmUp ks) (gmUp (cutO fp objs)) args1 = some args2) (h3 : renOs (kmUp ks) (gmUp (cutO fp objs)) (cutO fp objs) ks = some os)
  (hC : C f args2 os = some (res, os')) (h4 : (Nat.ble os.length os'.length && (rks.isEmpty || (res.flat && os'.all Ob.flat))) = true)
  (hn : freshK (cutO fp objs) fp (os'.length - os.length) = new) (h5 : nodupB (ks ++ new) = true)
  (hz : frzAll fz os.length res os' = some (res1, os1))
  (h6 : res1.ren (kmDn fz os.length os' (ks ++ new)) (gmDown (cutO fp objs) (ks ++ new)) = some r)
  (h7 : putL fz (kmDn fz os.length os' (ks ++ new)) (gmDown (cutO fp objs) (ks ++ new)) os.length 0 (ks ++ new) os1 = some N) (h8 : N.all (fun p => fp.contains p.1) = true) :
  gcallP C ow fz fp objs f args = some (r, updL N objs) := by
 subst hk hn
 have hg : gcall0 C ow fz fp (cutO fp objs) f args = some (r, updL N (cutO fp objs)) := by
  unfold gcall0
  rw [h0]
  simp only
  rw [if_pos h1]
  rw [h2, h3]
  simp only
  rw [hC]
  simp only
  rw [if_pos h4, if_pos h5]
  have h7' := putL_is (objs := cutO fp objs) _ _ _ _ _ h7
  rw [hz]
  simp only [h6, h7']
 simp only [gcallP, hg, Option.map_some, join_updL N h8]
theorem eff_gcall {ow fz : Bool} {fp ks rks new : List Nat} {nl : List (List (Nat × Nat))} {xs : List Operand} {f : FuncId} {ARGS args1 args2 : List PV} {os os' os1 : List Ob} {res res1 r : PV} {N : List (Nat × Option Ob)}
  (hev : nilA nl (evs ⟨ofl L, oflO M⟩ xs) = ARGS)
  (h0 : (if ow then some (ARGS, []) else readA (cutO fp (oflO M)) ARGS) = some (args1, rks)) (hk : reach (cutO fp (oflO M)) 200 (args1.flatMap PV.keys) [] = ks)
  (h1 : (nodupB ks && rks.all (fun k => !ks.contains k)) = true) (h2 : renPs (kmUp ks) (gmUp (cutO fp (oflO M))) args1 = some args2) (h3 : renOs (kmUp ks) (gmUp (cutO fp (oflO M))) (cutO fp (oflO M)) ks = some os)
  (hC : C f args2 os = some (res, os')) (h4 : (Nat.ble os.length os'.length && (rks.isEmpty || (res.flat && os'.all Ob.flat))) = true)
  (hn : freshK (cutO fp (oflO M)) fp (os'.length - os.length) = new) (h5 : nodupB (ks ++ new) = true)
  (hz : frzAll fz os.length res os' = some (res1, os1))
  (h6 : res1.ren (kmDn fz os.length os' (ks ++ new)) (gmDown (cutO fp (oflO M)) (ks ++ new)) = some r)
  (h7 : putL fz (kmDn fz os.length os' (ks ++ new)) (gmDown (cutO fp (oflO M)) (ks ++ new)) os.length 0 (ks ++ new) os1 = some N) (h8 : N.all (fun p => fp.contains p.1) = true) :
  eff P C ⟨ofl L, oflO M⟩ d (.gcall ow fz fp nl f xs) = some (r, oflO (N ++ M)) := by
 simp only [eff, hev, gcallP_is h0 hk h1 h2 h3 hC h4 hn h5 hz h6 h7 h8, updL_oflO]
theorem eff_gcallv {ow fz : Bool} {fp ks rks new : List Nat} {nl : List (List (Nat × Nat))} {x : Operand} {xs : List Operand} {f : FuncId} {caps : List Lf} {ARGS args1 args2 : List PV} {os os' os1 : List Ob} {res res1 r : PV} {N : List (Nat × Option Ob)}
  (hx : St.ev ⟨ofl L, oflO M⟩ x = .one (.fn f caps)) (hev : nilA nl (evs ⟨ofl L, oflO M⟩ xs) ++ caps.map .one = ARGS)
  (h0 : (if ow then some (ARGS, []) else readA (cutO fp (oflO M)) ARGS) = some (args1, rks)) (hk : reach (cutO fp (oflO M)) 200 (args1.flatMap PV.keys) [] = ks)
  (h1 : (nodupB ks && rks.all (fun k => !ks.contains k)) = true) (h2 : renPs (kmUp ks) (gmUp (cutO fp (oflO M))) args1 = some args2) (h3 : renOs (kmUp ks) (gmUp (cutO fp (oflO M))) (cutO fp (oflO M)) ks = some os)
  (hC : C f args2 os = some (res, os')) (h4 : (Nat.ble os.length os'.length && (rks.isEmpty || (res.flat && os'.all Ob.flat))) = true)
  (hn : freshK (cutO fp (oflO M)) fp (os'.length - os.length) = new) (h5 : nodupB (ks ++ new) = true)
  (hz : frzAll fz os.length res os' = some (res1, os1))
  (h6 : res1.ren (kmDn fz os.length os' (ks ++ new)) (gmDown (cutO fp (oflO M)) (ks ++ new)) = some r)
  (h7 : putL fz (kmDn fz os.length os' (ks ++ new)) (gmDown (cutO fp (oflO M)) (ks ++ new)) os.length 0 (ks ++ new) os1 = some N) (h8 : N.all (fun p => fp.contains p.1) = true) :
  eff P C ⟨ofl L, oflO M⟩ d (.gcallv ow fz fp nl x xs) = some (r, oflO (N ++ M)) := by
 simp only [eff, hx, hev, gcallP_is h0 hk h1 h2 h3 hC h4 hn h5 hz h6 h7 h8, updL_oflO]
theorem readA_nil {objs : Nat → Option Ob} : readA objs [] = some ([], []) := rfl
theorem readA_keep {objs : Nat → Option Ob} {l : Lf} {ps q : List PV} {r : List Nat} (h : readL objs l = some (l, [])) (hs : readA objs ps = some (q, r)) : readA objs (.one l :: ps) = some (.one l :: q, r) := by
 simp only [readA, h, hs, List.nil_append]
theorem readA_agg {objs : Nat → Option Ob} {cs : List Lf} {ps q : List PV} {r : List Nat} (h : readLs objs cs = some (cs, [])) (hs : readA objs ps = some (q, r)) : readA objs (.agg cs :: ps) = some (.agg cs :: q, r) := by
 simp only [readA, h, hs, List.nil_append]
theorem readA_own {objs : Nat → Option Ob} {c : Cod α} {k g el : Nat} {l : List α} {ps q : List PV} {r : List Nat} (hM : objs k = some (.arr el c.sz g l.length (getOf c l))) (hs : readA objs ps = some (q, r)) :
  readA objs (.one (.osl k g 0 l.length) :: ps) = some (.one (vw c l) :: q, k :: r) := by
 have h : readL objs (.osl k g 0 l.length) = some (vw c l, [k]) := by
  simp only [readL, hM]
  rw [if_pos ⟨trivial, by omega⟩, getOf_all]; rfl
 simp only [readA, h, hs, List.singleton_append]
theorem readA_ow {objs : Nat → Option Ob} {ARGS args1 : List PV} {rks : List Nat} (h : readA objs ARGS = some (args1, rks)) : (if false = true then some (ARGS, []) else readA objs ARGS) = some (args1, rks) := by
 simpa using h
theorem SimI.open {β : Type} {ops : List POper} {og : Option β} {E : β → Option α} (g : ∀ r, og = some r → SimI P C ops L M (E r) Q) : SimI P C ops L M (og.bind E) Q := by
 refine ⟨fun a ha => ?_⟩
 cases hg : og with
 | none => rw [hg] at ha; cases ha
 | some r => rw [hg] at ha; exact (g r hg).h a ha
theorem readA_csl {objs : Nat → Option Ob} {c : Cod α} {k off : Nat} {cs : List Lf} {l : List α} {ps q : List PV} {r : List Nat} (hM : objs k = some (.cells cs)) (hcl : cs.all (Lf.clean true) = true) (hb : Nat.ble (off + l.length * c.sz) cs.length = true)
  (hg : ((List.range l.length).map fun i => (cs.drop (off + i * c.sz)).take c.sz) = l.map c.enc) (hs : readA objs ps = some (q, r)) :
  readA objs (.one (.csl k c.sz off l.length) :: ps) = some (.one (vw c l) :: q, k :: r) := by
 have h : readL objs (.csl k c.sz off l.length) = some (vw c l, [k]) := by
  simp only [readL, hM]
  rw [if_pos hcl, if_pos (Nat.le_of_ble_eq_true hb)]
  have e : (fun i => if i < l.length then (cs.drop (off + i * c.sz)).take c.sz else []) = getOf c l := by
   funext i
   by_cases hi : i < l.length
   ·rw [if_pos hi]
    have h1 := congrArg (fun x => x[i]?) hg
    simp [hi] at h1
    rw [h1]
    simp [getOf, hi]
   ·rw [if_neg hi]
    simp [getOf, hi]
  rw [e]; rfl
 simp only [readA, h, hs, List.singleton_append]
theorem getOf_set {c : Cod α} (l : List α) (i : Nat) (a : α) (hi : i < l.length) : (fun j => if j = i then c.enc a else getOf c l j) = getOf c (l.set i a) := by
 funext j
 by_cases e : j = i
 ·subst e
  rw [if_pos rfl]
  simp [getOf, hi]
 ·rw [if_neg e]
  simp only [getOf, List.getD_eq_getElem?_getD, List.getElem?_map, List.getElem?_set_ne (Ne.symm e)]
theorem eff_storeO {c : Cod α} {sz key g el : Nat} {a x : Operand} {l : List α} {i : Nat} {b : α} (ha : St.ev ⟨ofl L, oflO M⟩ a = .one (.aptr key g i 0)) (hx : (St.ev ⟨ofl L, oflO M⟩ x).cells = some (c.enc b)) (hM : oflO M key = some (.arr el c.sz g l.length (getOf c l)))
  (hi : i < l.length) (hl : ∀ a, (c.enc a).length = c.sz) (hz : c.sz = sz) (hc : (c.enc b).all (Lf.clean true) = true) :
  eff P C ⟨ofl L, oflO M⟩ d (.store sz a x) = some (.none, oflO ((key, some (.arr el c.sz g (l.set i b).length (getOf c (l.set i b)))) :: M)) := by
 subst hz
 simp only [eff, hx, ha, hM]
 rw [if_pos ⟨trivial, hi, hl b, by omega, hc⟩]
 have e : (fun j => if j = i then splice (getOf c l i) 0 (c.enc b) else getOf c l j) = getOf c (l.set i b) := by
  rw [← getOf_set l i b hi]
  funext j
  split
  ·have h1 : (getOf c l i).length = c.sz := by
    rw [getOf_at (a := l[i]) (by simp [hi])]; exact hl _
   simp [splice, h1, hl b]
  ·rfl
 rw [e, List.length_set]
 rfl
end
section
variable {α : Type} {L : List (Nat × PV)} {M : List (Nat × Option Ob)}
end
end Go.Rx
