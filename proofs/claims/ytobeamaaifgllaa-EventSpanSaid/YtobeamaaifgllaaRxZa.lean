/- No condition. -/
import Derived.Test.YtobeamaaifgllaaRxZ
set_option linter.unusedVariables false
namespace Go.Rx
open Go Go.RowKit
section
variable {K V : Type} [DecidableEq K]
structure KeyOK (P : Program) (mt : TypeId) (ck : K → List Lf) (kv : K → Value) where
 kt : TypeId
 e : TypeId
 key : mkeyOf P mt = some (kt, e)
 val : ∀ a, (PV.agg (ck a)).toVal = some (kv a)
 chk : ∀ b a, prun P (Instr.checkKey b 10000 kt (kv a)) = some ()
 eq : ∀ a b, prun P (Op.equal kt (kv a) (kv b)) = some (decide (a = b))
 same : ∀ a, Instr.sameBits 10000 (kv a) (kv a) = true
 zero : prun P (zeroValue e) = some (.slice none 0 0)
variable {P : Program} {C : Oracle} {c : Cod V} {L : List (Nat × PV)} {M : List (Nat × Option Ob)} {d : Option Nat} {mt : TypeId} {ck : K → List Lf} {kv : K → Value}
theorem flat_row {V : Type} {c : Cod V} {el g : Nat} {rks : List Nat} (h : ∀ x, Lf.flat.flatL (c.enc x) = true) (l : List V) :
  (Nat.ble ([] : List Ob).length [Ob.arr el c.sz g l.length (getOf c l)].length && (rks.isEmpty || ((PV.one (.osl 1000000 g 0 l.length)).flat && [Ob.arr el c.sz g l.length (getOf c l)].all Ob.flat))) = true := by
 have hf : flatG l.length (getOf c l) = true := by
  unfold flatG
  rw [List.all_eq_true]
  intro i hi
  have hi : i < l.length := by simpa using hi
  rw [getOf_at (List.getElem?_eq_getElem hi)]
  exact h _
 simp [PV.flat, Lf.flat, Ob.flat, hf]
theorem flat_rowP {V : Type} {c : Cod V} {el g : Nat} {rks : List Nat} {p : PV} (hp : p.flat = true) (h : ∀ x, Lf.flat.flatL (c.enc x) = true) (l : List V) :
  (Nat.ble ([] : List Ob).length [Ob.arr el c.sz g l.length (getOf c l)].length && (rks.isEmpty || (p.flat && [Ob.arr el c.sz g l.length (getOf c l)].all Ob.flat))) = true := by
 have hf := flat_row (el := el) (g := g) (rks := [0]) h l
 simp only [List.isEmpty_cons, Bool.false_or, Bool.and_eq_true] at hf
 rw [hp, hf.2.2, Bool.and_true, Bool.or_true, Bool.and_true]; rfl
theorem guard_some {c : Prop} [Decidable c] {α : Type} {o : Option α} {r : α} (h : (if c then o else none) = some r) : c ∧ o = some r := by
 split at h
 ·rename_i hc; exact ⟨hc, h⟩
 ·cases h
theorem eff_lend {k el esz bytes g da : Nat} {s x : Operand} {l : List V} {a : V} {nl : List (List (Nat × Nat))} {f : FuncId} {xs : List Operand} {ARGS : List PV} {v q : PV} {os' : List Ob} (hT : ofl L da = .none) (hs : St.ev ⟨ofl L, oflO M⟩ s = .one (.osl k g 0 l.length)) (hM : oflO M k = some (.arr el c.sz g l.length (getOf c l)))
  (hx : St.ev ⟨ofl L, oflO M⟩ x = .one (vw c [a])) (hz : c.sz = esz) (h : 0 < l.length ∧ (l.length + 1) * bytes ≤ maxCells ∧ l.length + 1 ≤ maxCells)
  (hev : nilA nl (evs ⟨ofl ((da, .one (vw c (l ++ [a]))) :: L), oflO M⟩ xs) = ARGS) (hcl : ARGS.all (PV.clean true) = true) (hC : C f ARGS [] = some (v, os')) (hq : v.lens k g (l.length + 1) = some q) :
  eff P C ⟨ofl L, oflO M⟩ d (.lend da el esz bytes s x nl f xs) = some (q, oflO M) := by
 subst hz
 simp only [eff, hT, hs, hx, vw, lendV, hM]
 rw [if_pos trivial, if_pos ⟨trivial, trivial, trivial, trivial, h.1, Nat.zero_lt_one, h.2.1, h.2.2⟩]
 have e : (if [a].length = 1 then (fun i => if i = l.length then getOf c [a] 0 else getOf c l i) else (fun i => if i < l.length then getOf c l i else getOf c [a] (i - l.length))) = getOf c (l ++ [a]) := by
  rw [if_pos (by rfl)]; exact getOf_app1 l a
 have e2 : upd (ofl L) da (.one (.view c.sz (l.length + [a].length) (getOf c (l ++ [a])))) = ofl ((da, .one (vw c (l ++ [a]))) :: L) := by
  rw [← List.length_append]; rfl
 simp only [e, e2, hev, hcl, if_true, hC, hq, Option.map]
end
end Go.Rx
