/- No condition. -/
import Derived.Test.YtobeamaaifgllaaRxS
namespace Go.Rx
open Go Go.RowKit
abbrev li (k : IntKind) (n : Int) : Lf := .val (.int k n)
abbrev lb (b : Bool) : Lf := .val (.bool b)
abbrev ls (s : ByteArray) : Lf := .val (.string s)
abbrev lnil : Lf := .val (.slice none 0 0)
structure Cod (α : Type) where
 sz : Nat
 enc : α → List Lf
def codI (k : IntKind) : Cod Int := ⟨1, fun n => [li k n]⟩
def getOf {α : Type} (c : Cod α) (l : List α) : Nat → List Lf := fun i => (l.map c.enc).getD i []
def vw {α : Type} (c : Cod α) (l : List α) : Lf := .view c.sz l.length (getOf c l)
def ix {α : Type} (l : List α) (i : Int) : Option α := if i < 0 then none else l[i.toNat]?
theorem ix_some {α : Type} {l : List α} {i : Int} {a : α} (h : ix l i = some a) : 0 ≤ i ∧ i < l.length ∧ i.toNat < l.length ∧ l[i.toNat]? = some a := by
 unfold ix at h
 split at h
 ·cases h
 ·have := (List.getElem?_eq_some_iff.1 h).1
  exact ⟨by omega, by omega, this, h⟩
section
variable {α : Type} {P : Program} {C : Oracle} {c : Cod α} {L : List (Nat × PV)} {M : List (Nat × Option Ob)} {d : Option Nat}
theorem getOf_at {l : List α} {i : Nat} {a : α} (h : l[i]? = some a) : getOf c l i = c.enc a := by
 simp [getOf, h]
theorem getOf_out {l : List α} {i : Nat} (h : l.length ≤ i) : getOf c l i = [] := by
 simp [getOf, List.getElem?_eq_none h]
theorem getOf_cut (l : List α) (a n : Nat) : (fun i => if i < n then getOf c l (a + i) else []) = getOf c ((l.drop a).take n) := by
 funext i
 split
 ·rename_i h
  simp only [getOf, List.getD_eq_getElem?_getD, List.getElem?_map, List.getElem?_take, if_pos h, List.getElem?_drop]
 ·rename_i h
  simp only [getOf, List.getD_eq_getElem?_getD, List.getElem?_map, List.getElem?_take, if_neg h]; rfl
theorem getOf_all (l : List α) : (fun i => if i < l.length then getOf c l (0 + i) else []) = getOf c l := by
 rw [getOf_cut]; simp
theorem getOf_app (l m : List α) : (fun i => if i < l.length then getOf c l i else getOf c m (i - l.length)) = getOf c (l ++ m) := by
 funext i
 simp only [getOf, List.getD_eq_getElem?_getD, List.getElem?_map, List.getElem?_append]
 split <;> rfl
theorem getOf_app1 (l : List α) (a : α) : (fun i => if i = l.length then getOf c [a] 0 else getOf c l i) = getOf c (l ++ [a]) := by
 rw [← getOf_app]
 funext i
 by_cases h : i = l.length
 ·subst h; simp
 ·rw [if_neg h]
  by_cases h2 : i < l.length
  ·rw [if_pos h2]
  ·rw [if_neg h2, getOf_out (by omega), getOf_out (by simp; omega)]
theorem eff_idx {esz : Nat} {x i : Operand} {l : List α} {k : IntKind} {n : Int} {a : α} (hx : St.ev ⟨ofl L, oflO M⟩ x = .one (vw c l)) (hi : St.ev ⟨ofl L, oflO M⟩ i = .one (.val (.int k n))) (hs : c.sz = esz) (h : ix l n = some a) :
  eff P C ⟨ofl L, oflO M⟩ d (.iaddrS esz x i) = some (.one (.eptr (c.enc a) 0), oflO M) := by
 obtain ⟨h0, h1, h2, h3⟩ := ix_some h
 simp only [eff, hx, hi, vw, PV.int?]
 rw [if_pos ⟨hs, h0, h1⟩, getOf_at h3]
theorem eff_idxO {esz key g el : Nat} {x i : Operand} {l : List α} {k : IntKind} {n : Int} {a : α} (hx : St.ev ⟨ofl L, oflO M⟩ x = .one (.osl key g 0 l.length)) (hM : oflO M key = some (.arr el c.sz g l.length (getOf c l)))
  (hi : St.ev ⟨ofl L, oflO M⟩ i = .one (.val (.int k n))) (hs : c.sz = esz) (h : ix l n = some a) :
  eff P C ⟨ofl L, oflO M⟩ d (.iaddrS esz x i) = some (.one (.aptr key g n.toNat 0), oflO M) := by
 obtain ⟨h0, h1, h2, h3⟩ := ix_some h
 simp only [eff, hx, hi, PV.int?, hM]
 rw [if_pos ⟨trivial, hs, by omega, h0, h1⟩]; simp
theorem eff_loadO {ag : Bool} {sz key g el off : Nat} {x : Operand} {l : List α} {i : Nat} {a : α} {v : PV} (hx : St.ev ⟨ofl L, oflO M⟩ x = .one (.aptr key g i off)) (hM : oflO M key = some (.arr el c.sz g l.length (getOf c l)))
  (h : l[i]? = some a) (hv : rdc ag sz (c.enc a) off = some v) :
  eff P C ⟨ofl L, oflO M⟩ d (.load ag sz x) = some (v, oflO M) := by
 have := (List.getElem?_eq_some_iff.1 h).1
 simp only [eff, hx, hM]
 rw [if_pos ⟨trivial, this⟩, getOf_at h, hv]; rfl
theorem eff_appO {key key' el esz bytes g : Nat} {s x : Operand} {l : List α} {a : α} (hs : St.ev ⟨ofl L, oflO M⟩ s = .one (.osl key g 0 l.length)) (hM : oflO M key = some (.arr el c.sz g l.length (getOf c l)))
  (hx : St.ev ⟨ofl L, oflO M⟩ x = .one (vw c [a])) (hz : c.sz = esz) (h : (l.length + 1) * bytes ≤ maxCells ∧ l.length + 1 ≤ maxCells) :
  eff P C ⟨ofl L, oflO M⟩ d (.app key' el esz bytes s x) = some (.one (.osl key (g + 1) 0 (l ++ [a]).length), oflO ((key, some (.arr el c.sz (g + 1) (l ++ [a]).length (getOf c (l ++ [a])))) :: M)) := by
 subst hz
 simp only [eff, hx, hs, vw, appP, hM]
 rw [if_pos trivial, if_pos ⟨trivial, trivial, trivial, trivial, h.1, h.2⟩]
 have e : (if [a].length = 1 then (fun i => if i = l.length then getOf c [a] 0 else getOf c l i) else (fun i => if i < l.length then getOf c l i else getOf c [a] (i - l.length))) = getOf c (l ++ [a]) := by
  rw [if_pos (by rfl)]; exact getOf_app1 l a
 rw [e, upd_oflO', List.length_append]
where
 upd_oflO' {M : List (Nat × Option Ob)} {k : Nat} {v : Option Ob} : upd (oflO M) k v = oflO ((k, v) :: M) := rfl
theorem args_clean {objs : Nat → Option Ob} {v : PV} {vs r : List PV} {ks ks' : List Nat} {b : Bool} (hv : v.clean true = true) (h : argsOf objs vs ks = some (r, ks', b)) : argsOf objs (v :: vs) ks = some (v :: r, ks', b) := by
 unfold argsOf
 split
 ·rename_i heq; cases heq
 ·rename_i heq; cases heq; simp [PV.clean, Lf.clean] at hv
 ·rename_i heq; cases heq; simp [PV.clean, Lf.clean] at hv
 ·rename_i heq
  simp only [List.cons.injEq] at heq
  obtain ⟨rfl, rfl⟩ := heq
  rw [if_pos hv]; simp only [h]
theorem args_nil {objs : Nat → Option Ob} {ks : List Nat} : argsOf objs [] ks = some ([], ks, false) := rfl
def callChk (rd : Bool) (res : PV) (os os' : List (List Lf)) : Bool :=
 res.clean (!rd) && os'.all (fun cs => cs.all (Lf.clean (!rd))) && os'.length == os.length && ((os.zip os').all fun p => p.1.length == p.2.length)
theorem cellsAll_map : ∀ (os : List (List Lf)), cellsAll (os.map .cells) = some os
 | [] => rfl
 | cs :: os => by simp only [List.map_cons, cellsAll, cellsAll_map os, Option.map_some]
theorem callP_is {wr : Bool} {objs objs' : Nat → Option Ob} {f : FuncId} {args args' : List PV} {ks : List Nat} {rd : Bool} {os os' : List (List Lf)} {res : PV} (ha : argsOf objs args [] = some (args', ks, rd)) (hw : (wr || ks.isEmpty) = true) (hos : objsIn objs ks = some os)
  (hC : C f args' (os.map .cells) = some (res, os'.map .cells)) (hk : callChk rd res os os' = true) (ho : objsOut objs ks os' = some objs') : callP C wr objs f args = some (res, objs') := by
 unfold callP
 simp only [ha, hw, if_true, hos, hC, cellsAll_map]
 unfold callChk at hk
 rw [if_pos hk]
 simp only [ho]
theorem eff_call {wr rd : Bool} {nl : List (List (Nat × Nat))} {f : FuncId} {xs : List Operand} {ARGS ARGS' : List PV} {v : PV} (hev : nilA nl (evs ⟨ofl L, oflO M⟩ xs) = ARGS) (ha : argsOf (oflO M) ARGS [] = some (ARGS', [], rd)) (hC : C f ARGS' [] = some (v, []))
  (hv : v.clean (!rd) = true) : eff P C ⟨ofl L, oflO M⟩ d (.call wr nl f xs) = some (v, oflO M) := by
 simp only [eff, hev]
 exact callP_is (os := []) (os' := []) ha (by simp) rfl hC (by simp [callChk, hv]) rfl
theorem eff_callvv {wr rd : Bool} {nl : List (List (Nat × Nat))} {f : FuncId} {x : Operand} {xs : List Operand} {ARGS ARGS' : List PV} {v : PV} (hx : St.ev ⟨ofl L, oflO M⟩ x = .one (.val (.func (.func f) #[] #[]))) (hev : nilA nl (evs ⟨ofl L, oflO M⟩ xs) = ARGS) (ha : argsOf (oflO M) ARGS [] = some (ARGS', [], rd)) (hC : C f ARGS' [] = some (v, []))
  (hv : v.clean (!rd) = true) : eff P C ⟨ofl L, oflO M⟩ d (.callv wr nl x xs) = some (v, oflO M) := by
 simp only [eff, hev, hx]
 rw [if_pos ⟨rfl, rfl⟩]
 exact callP_is (os := []) (os' := []) ha (by simp) rfl hC (by simp [callChk, hv]) rfl
end
def PCode.first : PCode → Option (List Nat × List Nat × List OwnE)
 | .region keep _ _ => keep
 | .seq a _ => a.first
 | .block _ c => c.first
 | .scope c => c.first
 | .loop c => c.first
 | _ => none
theorem first_pre {P : Program} {C : Oracle} {n : Nat} {ts os : List Nat} {ow : List OwnE} {st st' : St} (h1 : st.restrict ts os ow = some st') (h2 : st'.restrict ts os ow = some st') : ∀ (c : PCode), c.first = some (ts, os, ow) → evCode P C n c st = evCode P C n c st' := by
 intro c
 induction c with
 | region keep dr ops =>
  intro h
  simp only [PCode.first] at h
  subst h
  simp only [evCode, h1, h2]
 | seq a b iha _ => intro h; simp only [evCode, iha h]
 | block id c ih => intro h; simp only [evCode, ih h]
 | scope c ih => intro h; simp only [evCode, ih h]
 | loop c ih =>
  intro h
  simp only [evCode]
  cases n with
  | zero => rfl
  | succ n => simp only [iter, ih h]
 | _ => intro h; simp [PCode.first] at h
section
variable {α : Type} {P : Program} {C : Oracle} {n : Nat} {L : List (Nat × PV)} {M : List (Nat × Option Ob)} {o : Option α} {Q : α → PEx → St → Prop}
theorem Sim.pre {c : PCode} {ts os : List Nat} {ow : List OwnE} (L' : List (Nat × PV)) (M' : List (Nat × Option Ob)) (hf : c.first = some (ts, os, ow)) (h1 : St.restrict ⟨ofl L, oflO M⟩ ts os ow = some ⟨ofl L', oflO M'⟩) (h2 : St.restrict ⟨ofl L', oflO M'⟩ ts os ow = some ⟨ofl L', oflO M'⟩)
  (g : Sim P C n c L' M' o Q) : Sim P C n c L M o Q := ⟨fun a ha => by rw [first_pre h1 h2 c hf]; exact g.h a ha⟩
theorem SimL.pre {m : Nat} {c : PCode} {ts os : List Nat} {ow : List OwnE} (L' : List (Nat × PV)) (M' : List (Nat × Option Ob)) (hf : c.first = some (ts, os, ow)) (h1 : St.restrict ⟨ofl L, oflO M⟩ ts os ow = some ⟨ofl L', oflO M'⟩) (h2 : St.restrict ⟨ofl L', oflO M'⟩ ts os ow = some ⟨ofl L', oflO M'⟩)
  (g : SimL P C n m c L' M' o Q) : SimL P C n m c L M o Q := ⟨fun a ha => by
 have : iter (evCode P C n c) m ⟨ofl L, oflO M⟩ = iter (evCode P C n c) m ⟨ofl L', oflO M'⟩ := by
  cases m with
  | zero => rfl
  | succ m => simp only [iter, first_pre h1 h2 c hf]
 rw [this]; exact g.h a ha⟩
end
end Go.Rx
namespace Go.Rx
open Go
def bitsI (op : BinOp) (k : IntKind) (a b : Int) : Int :=
 match op with
 | .and => k.wrap (BitVec.ofInt k.bits a &&& BitVec.ofInt k.bits b).toNat
 | .or => k.wrap (BitVec.ofInt k.bits a ||| BitVec.ofInt k.bits b).toNat
 | .xor => k.wrap (BitVec.ofInt k.bits a ^^^ BitVec.ofInt k.bits b).toNat
 | _ => k.wrap (BitVec.ofInt k.bits a &&& ~~~(BitVec.ofInt k.bits b)).toNat
def shrI (k : IntKind) (a b : Int) : Int := a.fdiv (2 ^ (min b.toNat k.bits))
theorem pr_shr {P : Program} (t : TypeId) (cx cy : Bool) (k k' : IntKind) (a b : Int) (hb : ¬ b < 0) : prun P ((Prim.bin .shr t cx cy).sem [.int k a, .int k' b]) = some (.int k (shrI k a b)) := by
 simp [Prim.sem, eqGuardB, eqGuard, binOp, Op.shift, shrI, bind, Sem.bind, pure, prun, hb]
theorem eff_prim {P : Program} {C : Oracle} {L : List (Nat × PV)} {M : List (Nat × Option Ob)} {d : Option Nat} {p : Prim} {xs : List Operand} {vs : List Value} {v : Value} (hx : PV.toVals (evs ⟨ofl L, oflO M⟩ xs) = some vs) (hp : prun P (p.sem vs) = some v) :
  eff P C ⟨ofl L, oflO M⟩ d (.prim p xs) = some (PV.ofVal v, oflO M) := by simp only [eff, hx, hp]
end Go.Rx
namespace Go.Rx
open Go
theorem fn_to {α : Type} {P : Program} {B : Oracle} {T : Table} {D : Oracle} {f : FuncId} {n nt k : Nat} {xp : Bool} {rs : List PRes} {c : PCode} {o : Option α} {args : List PV} {os : List Ob} {enc : α → PV × List Ob} {L : List (Nat × PV)} {M : List (Nat × Option Ob)} (hD : D = all P B T) (hT : T f = some ⟨nt, rs, c, xp⟩)
  (hl : Nat.ble args.length nt = true) (hL : ini 0 args = L) (hM : iniO pbase os = M) (hk : os.length = k) (hy : os.all Ob.young = true) (g : Sim P D n c L M o (QF xp rs k enc)) : ∀ a, o = some a → D f args os = some (enc a) := by
 subst hD hL hM hk
 exact fn_of hT hl hy g
end Go.Rx
namespace Go.Rx
open Go
theorem SimL.zero' {α : Type} {P : Program} {C : Oracle} {n m : Nat} {c : PCode} {L : List (Nat × PV)} {M : List (Nat × Option Ob)} {o : Option α} {Q : α → PEx → St → Prop} (h : o = none) : SimL P C n m c L M o Q := ⟨fun a ha => by rw [h] at ha; cases ha⟩
end Go.Rx
