/-
  Steps whose questions answer themselves. No condition.
-/
import Derived.Test.YthmbegagkgdopaaRxZ
namespace Go.Rx
open Go
section
variable {α : Type} {P : Program} {C : Oracle} {n : Nat} {L : List (Nat × PV)} {M : List (Nat × Option Ob)} {o : Option α} {Q : α → PEx → St → Prop}
theorem SimI.rn {ops : List POper} {i : Nat} (k : Nat) (N : List (Nat × PV)) (NM : List (Nat × Option Ob))
    (g : SimI P C (ops.drop (i + k)) (N ++ L) (NM ++ M) o Q) (h : pOps P C ((ops.drop i).take k) ⟨ofl L, oflO M⟩ = some ⟨ofl (N ++ L), oflO (NM ++ M)⟩ := by kernel_rfl) : SimI P C (ops.drop i) L M o Q := .run k N NM h g
theorem SimI.dn {ops : List POper} (g : SimE .normal L M o Q) (hn : ops = [] := by kernel_rfl) : SimI P C ops L M o Q := .done hn g
theorem SimI.rd {ops : List POper} {i : Nat} (k : Nat) (N : List (Nat × PV)) (NM : List (Nat × Option Ob))
    (g : SimE .normal (N ++ L) (NM ++ M) o Q) (h : pOps P C ((ops.drop i).take k) ⟨ofl L, oflO M⟩ = some ⟨ofl (N ++ L), oflO (NM ++ M)⟩ := by kernel_rfl)
    (hn : ops.drop (i + k) = [] := by kernel_rfl) : SimI P C (ops.drop i) L M o Q := .run k N NM h (.done hn g)
theorem Sim.sr {ops : List POper} {dr : Bool} {c : PCode} (k : Nat) (N : List (Nat × PV)) (NM : List (Nat × Option Ob))
    (g : Sim P C n c (N ++ L) (NM ++ M) o Q) (h : pOps P C ((ops.drop 0).take k) ⟨ofl L, oflO M⟩ = some ⟨ofl (N ++ L), oflO (NM ++ M)⟩ := by kernel_rfl)
    (hn : ops.drop (0 + k) = [] := by kernel_rfl) : Sim P C n (.seq (.region none dr ops) c) L M o Q := .seq (.region0 (.run k N NM h (.done hn (.thenN g))))
theorem Sim.st {ops : List POper} {dr : Bool} {c : PCode} (k : Nat) (N : List (Nat × PV)) (NM : List (Nat × Option Ob))
    (g : SimI P C (ops.drop (0 + k)) (N ++ L) (NM ++ M) o (QT P C n c Q)) (h : pOps P C ((ops.drop 0).take k) ⟨ofl L, oflO M⟩ = some ⟨ofl (N ++ L), oflO (NM ++ M)⟩ := by kernel_rfl) :
    Sim P C n (.seq (.region none dr ops) c) L M o Q := .seq (.region0 (.run k N NM h g))
theorem SimE.fn {xp : Bool} {rs : List PRes} {k : Nat} {enc : α → PV × List Ob} {r : α} (h : outOf xp ⟨ofl L, oflO M⟩ rs k = some (enc r) := by kernel_rfl) : SimE .ret L M (some r) (QF xp rs k enc) := .fin h
theorem Sim.pr {c : PCode} (ts os : List Nat) (ow : List OwnE) (L' : List (Nat × PV)) (M' : List (Nat × Option Ob)) (g : Sim P C n c L' M' o Q) (hf : c.first = some (ts, os, ow) := by kernel_rfl)
    (h1 : St.restrict ⟨ofl L, oflO M⟩ ts os ow = some ⟨ofl L', oflO M'⟩ := by kernel_rfl) (h2 : St.restrict ⟨ofl L', oflO M'⟩ ts os ow = some ⟨ofl L', oflO M'⟩ := by kernel_rfl) : Sim P C n c L M o Q := .pre L' M' hf h1 h2 g
theorem SimL.pr {m : Nat} {c : PCode} (ts os : List Nat) (ow : List OwnE) (L' : List (Nat × PV)) (M' : List (Nat × Option Ob)) (g : SimL P C n m c L' M' o Q) (hf : c.first = some (ts, os, ow) := by kernel_rfl)
    (h1 : St.restrict ⟨ofl L, oflO M⟩ ts os ow = some ⟨ofl L', oflO M'⟩ := by kernel_rfl) (h2 : St.restrict ⟨ofl L', oflO M'⟩ ts os ow = some ⟨ofl L', oflO M'⟩ := by kernel_rfl) : SimL P C n m c L M o Q := .pre L' M' hf h1 h2 g
theorem Sim.rg {ts os : List Nat} {ow : List OwnE} {dr : Bool} {ops : List POper} (L2 : List (Nat × PV)) (M2 : List (Nat × Option Ob))
    (g : SimI P C (ops.drop 0) L2 M2 o Q) (hr : St.restrict ⟨ofl L, oflO M⟩ ts os ow = some ⟨ofl L2, oflO M2⟩ := by kernel_rfl) : Sim P C n (.region (some (ts, os, ow)) dr ops) L M o Q := .region L2 M2 hr g
theorem args_all {objs : Nat → Option Ob} : ∀ (A : List PV), A.all (PV.clean true) = true → argsOf objs A [] = some (A, [], false)
  | [], _ => rfl
  | v :: vs, h => by
    simp only [List.all_cons, Bool.and_eq_true] at h
    exact args_clean h.1 (args_all vs h.2)
/-- A call that is handed no variables. -/
theorem SimI.cl {β : Type} {ops : List POper} {i : Nat} {og : Option β} {E : β → Option α} (d : Nat) (wr : Bool) (nl : List (List (Nat × Nat))) (f : FuncId) (xs : List Operand) (gd : Option (Nat × Bool)) (W : β → PV) (A : List PV)
    (hC : ∀ r, og = some r → C f A [] = some (W r, [])) (g : ∀ r, SimI P C (ops.drop (i + 1)) ([(d, W r)] ++ L) ([] ++ M) (E r) Q)
    (hop : ops.drop i = ⟨some d, .call wr nl f xs, gd, []⟩ :: ops.drop (i + 1) := by kernel_rfl) (hg : gok gd L = true := by kernel_rfl)
    (hev : nilA nl (evs ⟨ofl L, oflO M⟩ xs) = A := by kernel_rfl) (ha : A.all (PV.clean true) = true := by kernel_rfl) (hv : ∀ r, (W r).clean true = true := by intro; kernel_rfl) : SimI P C (ops.drop i) L M (og.bind E) Q :=
  .bind (og := og) ⟨some d, .call wr nl f xs, gd, []⟩ (fun r => [(d, W r)]) (fun _ => []) hop (fun r hr => pOp_eff hg rfl (eff_call hev (args_all A ha) (hC r hr) (hv r))) g
end
end Go.Rx
