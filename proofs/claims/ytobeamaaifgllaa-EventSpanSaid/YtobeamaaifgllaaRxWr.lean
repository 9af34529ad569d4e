/- No condition. -/
import Derived.Test.YtobeamaaifgllaaRxZ
namespace Go.Rx
open Go
section
variable {α : Type} {P : Program} {C : Oracle} {n : Nat} {L : List (Nat × PV)} {M : List (Nat × Option Ob)} {o : Option α} {Q : α → PEx → St → Prop}
theorem SimI.rn {ops : List POper} {i : Nat} (k : Nat) (N : List (Nat × PV)) (NM : List (Nat × Option Ob))
  (g : SimI P C (ops.drop (i + k)) (N ++ L) (NM ++ M) o Q) (h : pOps P C ((ops.drop i).take k) ⟨ofl L, oflO M⟩ = some ⟨ofl (N ++ L), oflO (NM ++ M)⟩ := by kernel_rfl) : SimI P C (ops.drop i) L M o Q := .run k N NM h g
theorem SimI.dn {ops : List POper} (g : SimE .normal L M o Q) (hn : ops = [] := by kernel_rfl) : SimI P C ops L M o Q := .done hn g
theorem SimI.rd {ops : List POper} {i : Nat} (k : Nat) (N : List (Nat × PV)) (NM : List (Nat × Option Ob))
  (g : SimE .normal (N ++ L) (NM ++ M) o Q) (h : pOps P C ((ops.drop i).take k) ⟨ofl L, oflO M⟩ = some ⟨ofl (N ++ L), oflO (NM ++ M)⟩ := by kernel_rfl)
  (hn : ops.drop (i + k) = [] := by kernel_rfl) : SimI P C (ops.drop i) L M o Q := .run k N NM h (.done hn g)
theorem Sim.sr {ops : List POper} {dr : Bool} {c : PCode} (k : Nat) (N : List (Nat × PV)) (NM : List (Nat × Option Ob))
  (g : Sim P C n c (N ++ L) (NM ++ M) o Q) (h : pOps P C ((ops.drop 0).take k) ⟨ofl L, oflO M⟩ = some ⟨ofl (N ++ L), oflO (NM ++ M)⟩ := by kernel_rfl)
  (hn : ops.drop (0 + k) = [] := by kernel_rfl) : Sim P C n (.seq (.region none dr ops) c) L M o Q := .seq (.region0 (.run k N NM h (.done hn (.thenN g))))
theorem Sim.st {ops : List POper} {dr : Bool} {c : PCode} (k : Nat) (N : List (Nat × PV)) (NM : List (Nat × Option Ob))
  (g : SimI P C (ops.drop (0 + k)) (N ++ L) (NM ++ M) o (QT P C n c Q)) (h : pOps P C ((ops.drop 0).take k) ⟨ofl L, oflO M⟩ = some ⟨ofl (N ++ L), oflO (NM ++ M)⟩ := by kernel_rfl) :
  Sim P C n (.seq (.region none dr ops) c) L M o Q := .seq (.region0 (.run k N NM h g))
theorem SimE.fn {xp : Bool} {rs : List PRes} {k : Nat} {enc : α → PV × List Ob} {r : α} (h : outOf xp ⟨ofl L, oflO M⟩ rs k = some (enc r) := by kernel_rfl) : SimE .ret L M (some r) (QF xp rs k enc) := .fin h
theorem Sim.pr {c : PCode} (ts os : List Nat) (ow : List OwnE) (L' : List (Nat × PV)) (M' : List (Nat × Option Ob)) (g : Sim P C n c L' M' o Q) (hf : c.first = some (ts, os, ow) := by kernel_rfl)
  (h1 : St.restrict ⟨ofl L, oflO M⟩ ts os ow = some ⟨ofl L', oflO M'⟩ := by kernel_rfl) (h2 : St.restrict ⟨ofl L', oflO M'⟩ ts os ow = some ⟨ofl L', oflO M'⟩ := by kernel_rfl) : Sim P C n c L M o Q := .pre L' M' hf h1 h2 g
theorem SimL.pr {m : Nat} {c : PCode} (ts os : List Nat) (ow : List OwnE) (L' : List (Nat × PV)) (M' : List (Nat × Option Ob)) (g : SimL P C n m c L' M' o Q) (hf : c.first = some (ts, os, ow) := by kernel_rfl)
  (h1 : St.restrict ⟨ofl L, oflO M⟩ ts os ow = some ⟨ofl L', oflO M'⟩ := by kernel_rfl) (h2 : St.restrict ⟨ofl L', oflO M'⟩ ts os ow = some ⟨ofl L', oflO M'⟩ := by kernel_rfl) : SimL P C n m c L M o Q := .pre L' M' hf h1 h2 g
theorem Sim.rg {ts os : List Nat} {ow : List OwnE} {dr : Bool} {ops : List POper} (L2 : List (Nat × PV)) (M2 : List (Nat × Option Ob))
  (g : SimI P C (ops.drop 0) L2 M2 o Q) (hr : St.restrict ⟨ofl L, oflO M⟩ ts os ow = some ⟨ofl L2, oflO M2⟩ := by kernel_rfl) : Sim P C n (.region (some (ts, os, ow)) dr ops) L M o Q := .region L2 M2 hr g
theorem args_all {objs : Nat → Option Ob} : ∀ (A : List PV), A.all (PV.clean true) = true → argsOf objs A [] = some (A, [], false)
 | [], _ => rfl
 | v :: vs, h => by
  simp only [List.all_cons, Bool.and_eq_true] at h
  exact args_clean h.1 (args_all vs h.2)
theorem SimI.cl {β : Type} {ops : List POper} {i : Nat} {og : Option β} {E : β → Option α} (d : Nat) (wr : Bool) (nl : List (List (Nat × Nat))) (f : FuncId) (xs : List Operand) (gd : Option (Nat × Bool)) (W : β → PV) (A : List PV)
  (hC : ∀ r, og = some r → C f A [] = some (W r, [])) (g : ∀ r, SimI P C (ops.drop (i + 1)) ([(d, W r)] ++ L) ([] ++ M) (E r) Q)
  (hop : ops.drop i = ⟨some d, .call wr nl f xs, gd, []⟩ :: ops.drop (i + 1) := by kernel_rfl) (hg : gok gd L = true := by kernel_rfl)
  (hev : nilA nl (evs ⟨ofl L, oflO M⟩ xs) = A := by kernel_rfl) (ha : A.all (PV.clean true) = true := by kernel_rfl) (hv : ∀ r, (W r).clean true = true := by intro; kernel_rfl) : SimI P C (ops.drop i) L M (og.bind E) Q :=
 .bind (og := og) ⟨some d, .call wr nl f xs, gd, []⟩ (fun r => [(d, W r)]) (fun _ => []) hop (fun r hr => pOp_eff hg rfl (eff_call hev (args_all A ha) (hC r hr) (hv r))) g
theorem pe {d : Nat} {p : POp} {gd : Option (Nat × Bool)} {hs : List (Nat × Hint)} {v : PV} {M' : List (Nat × Option Ob)} (h : eff P C ⟨ofl L, oflO M⟩ (some d) p = some (v, oflO M')) (hg : gok gd L = true := by kernel_rfl) (hh : okH hs ⟨ofl L, oflO M⟩ = true := by kernel_rfl) :
  pOp P C ⟨some d, p, gd, hs⟩ ⟨ofl L, oflO M⟩ = some ⟨ofl ([(d, v)] ++ L), oflO M'⟩ := pOp_eff hg hh h
theorem Sim.cd {c : Operand} {a b : PCode} {o1 o2 : Option α} (t : Bool) (g1 : Sim P C n a L M o1 Q) (g2 : Sim P C n b L M o2 Q) (hc : St.ev ⟨ofl L, oflO M⟩ c = .one (.val (.bool t)) := by kernel_rfl) : Sim P C n (.cond c a b) L M (if t = true then o1 else o2) Q := .cond t hc g1 g2
theorem Sim.ct {c : Operand} {a b : PCode} (g : Sim P C n a L M o Q) (hc : St.ev ⟨ofl L, oflO M⟩ c = .one (.val (.bool true)) := by kernel_rfl) : Sim P C n (.cond c a b) L M o Q := .condT hc g
theorem Sim.cf {c : Operand} {a b : PCode} (g : Sim P C n b L M o Q) (hc : St.ev ⟨ofl L, oflO M⟩ c = .one (.val (.bool false)) := by kernel_rfl) : Sim P C n (.cond c a b) L M o Q := .condF hc g
theorem SimI.sp {ops : List POper} {o1 o2 : Option α} (s : Nat) (t : Bool) (g1 : SimI P C ops ((s, .one (.val (.bool true))) :: L) M o1 Q) (g2 : SimI P C ops ((s, .one (.val (.bool false))) :: L) M o2 Q) (hc : ofl L s = .one (.val (.bool t)) := by kernel_rfl) :
  SimI P C ops L M (if t = true then o1 else o2) Q := .split s t hc g1 g2
theorem SimI.bn {β : Type} {ops : List POper} {i : Nat} {og : Option β} {E : β → Option α} (op : POper) (N : β → List (Nat × PV)) (NM : β → List (Nat × Option Ob))
  (h : ∀ r, og = some r → pOp P C op ⟨ofl L, oflO M⟩ = some ⟨ofl (N r ++ L), oflO (NM r ++ M)⟩) (g : ∀ r, SimI P C (ops.drop (i + 1)) (N r ++ L) (NM r ++ M) (E r) Q) (hop : ops.drop i = op :: ops.drop (i + 1) := by kernel_rfl) : SimI P C (ops.drop i) L M (og.bind E) Q := .bind op N NM hop h g
theorem SimI.gu {ops : List POper} {i : Nat} {c : Prop} {dc : Decidable c} (op : POper) (N : List (Nat × PV)) (NM : List (Nat × Option Ob)) (h : c → pOp P C op ⟨ofl L, oflO M⟩ = some ⟨ofl (N ++ L), oflO (NM ++ M)⟩)
  (g : SimI P C (ops.drop (i + 1)) (N ++ L) (NM ++ M) o Q) (hop : ops.drop i = op :: ops.drop (i + 1) := by kernel_rfl) : SimI P C (ops.drop i) L M (if c then o else none) Q := .guard op N NM hop h g
theorem SimI.se {ops : List POper} {i : Nat} (op : POper) (N : List (Nat × PV)) (NM : List (Nat × Option Ob)) (h : pOp P C op ⟨ofl L, oflO M⟩ = some ⟨ofl (N ++ L), oflO (NM ++ M)⟩)
  (g : SimI P C (ops.drop (i + 1)) (N ++ L) (NM ++ M) o Q) (hop : ops.drop i = op :: ops.drop (i + 1) := by kernel_rfl) : SimI P C (ops.drop i) L M o Q := .step op N NM hop h g
theorem Sim.rs {ts os : List Nat} {ow : List OwnE} {dr : Bool} {ops : List POper} (g : SimI P C (ops.drop 0) L M o Q) (hr : St.restrict ⟨ofl L, oflO M⟩ ts os ow = some ⟨ofl L, oflO M⟩ := by kernel_rfl) : Sim P C n (.region (some (ts, os, ow)) dr ops) L M o Q := .region L M hr g
theorem ep {d : Option Nat} {p : Prim} {xs : List Operand} {vs : List Value} {v : Value} (hp : prun P (p.sem vs) = some v) (hx : PV.toVals (evs ⟨ofl L, oflO M⟩ xs) = some vs := by kernel_rfl) :
  eff P C ⟨ofl L, oflO M⟩ d (.prim p xs) = some (PV.ofVal v, oflO M) := eff_prim hx hp
theorem ei {γ : Type} {c : Cod γ} {d : Option Nat} {esz : Nat} {x i : Operand} {l : List γ} {k : IntKind} {m : Int} {a : γ} (h : ix l m = some a) (hx : St.ev ⟨ofl L, oflO M⟩ x = .one (vw c l) := by kernel_rfl) (hi : St.ev ⟨ofl L, oflO M⟩ i = .one (.val (.int k m)) := by kernel_rfl) (hs : c.sz = esz := by kernel_rfl) :
  eff P C ⟨ofl L, oflO M⟩ d (.iaddrS esz x i) = some (.one (.eptr (c.enc a) 0), oflO M) := eff_idx hx hi hs h
theorem qe {d : Option Nat} {wr : Bool} {nl : List (List (Nat × Nat))} {f : FuncId} {xs : List Operand} {ARGS ARGS' : List PV} {v : PV} (hC : C f ARGS' [] = some (v, [])) (hev : nilA nl (evs ⟨ofl L, oflO M⟩ xs) = ARGS := by kernel_rfl) (ha : argsOf (oflO M) ARGS [] = some (ARGS', [], false) := by kernel_rfl)
  (hv : v.clean (!false) = true := by kernel_rfl) : eff P C ⟨ofl L, oflO M⟩ d (.call wr nl f xs) = some (v, oflO M) := eff_call hev ha hC hv
theorem gq {d : Option Nat} {ow fz : Bool} {fp ks : List Nat} {nl : List (List (Nat × Nat))} {xs : List Operand} {f : FuncId} {ARGS args2 : List PV} {os os' : List Ob} {res r : PV} {N : List (Nat × Option Ob)} (hC : C f args2 os = some (res, os'))
  (hev : nilA nl (evs ⟨ofl L, oflO M⟩ xs) = ARGS := by kernel_rfl) (h0 : (if ow then some (ARGS, []) else readA (cutO fp (oflO M)) ARGS) = some (ARGS, []) := by kernel_rfl) (hk : reach (cutO fp (oflO M)) 200 (ARGS.flatMap PV.keys) [] = ks := by kernel_rfl)
  (h1 : (nodupB ks && ([] : List Nat).all (fun k => !ks.contains k)) = true := by kernel_rfl) (h2 : renPs (kmUp ks) (gmUp (cutO fp (oflO M))) ARGS = some args2 := by kernel_rfl) (h3 : renOs (kmUp ks) (gmUp (cutO fp (oflO M))) (cutO fp (oflO M)) ks = some os := by kernel_rfl)
  (h4 : (Nat.ble os.length os'.length && (([] : List Nat).isEmpty || (res.flat && os'.all Ob.flat))) = true := by kernel_rfl) (hn : freshK (cutO fp (oflO M)) fp (os'.length - os.length) = [] := by kernel_rfl) (h5 : nodupB (ks ++ []) = true := by kernel_rfl)
  (hz : frzAll fz os.length res os' = some (res, os') := by kernel_rfl) (h6 : res.ren (kmDn fz os.length os' (ks ++ [])) (gmDown (cutO fp (oflO M)) (ks ++ [])) = some r := by kernel_rfl)
  (h7 : putL fz (kmDn fz os.length os' (ks ++ [])) (gmDown (cutO fp (oflO M)) (ks ++ [])) os.length 0 (ks ++ []) os' = some N := by kernel_rfl) (h8 : N.all (fun p => fp.contains p.1) = true := by kernel_rfl) :
  eff P C ⟨ofl L, oflO M⟩ d (.gcall ow fz fp nl f xs) = some (r, oflO (N ++ M)) := eff_gcall hev h0 hk h1 h2 h3 hC h4 hn h5 hz h6 h7 h8
theorem gv {d : Option Nat} {ow fz : Bool} {fp ks : List Nat} {nl : List (List (Nat × Nat))} {x : Operand} {xs : List Operand} {f : FuncId} {caps : List Lf} {ARGS args2 : List PV} {os os' : List Ob} {res r : PV} {N : List (Nat × Option Ob)} (hC : C f args2 os = some (res, os'))
  (hx : St.ev ⟨ofl L, oflO M⟩ x = .one (.fn f caps) := by kernel_rfl) (hev : nilA nl (evs ⟨ofl L, oflO M⟩ xs) ++ caps.map .one = ARGS := by kernel_rfl) (h0 : (if ow then some (ARGS, []) else readA (cutO fp (oflO M)) ARGS) = some (ARGS, []) := by kernel_rfl) (hk : reach (cutO fp (oflO M)) 200 (ARGS.flatMap PV.keys) [] = ks := by kernel_rfl)
  (h1 : (nodupB ks && ([] : List Nat).all (fun k => !ks.contains k)) = true := by kernel_rfl) (h2 : renPs (kmUp ks) (gmUp (cutO fp (oflO M))) ARGS = some args2 := by kernel_rfl) (h3 : renOs (kmUp ks) (gmUp (cutO fp (oflO M))) (cutO fp (oflO M)) ks = some os := by kernel_rfl)
  (h4 : (Nat.ble os.length os'.length && (([] : List Nat).isEmpty || (res.flat && os'.all Ob.flat))) = true := by kernel_rfl) (hn : freshK (cutO fp (oflO M)) fp (os'.length - os.length) = [] := by kernel_rfl) (h5 : nodupB (ks ++ []) = true := by kernel_rfl)
  (hz : frzAll fz os.length res os' = some (res, os') := by kernel_rfl) (h6 : res.ren (kmDn fz os.length os' (ks ++ [])) (gmDown (cutO fp (oflO M)) (ks ++ [])) = some r := by kernel_rfl)
  (h7 : putL fz (kmDn fz os.length os' (ks ++ [])) (gmDown (cutO fp (oflO M)) (ks ++ [])) os.length 0 (ks ++ []) os' = some N := by kernel_rfl) (h8 : N.all (fun p => fp.contains p.1) = true := by kernel_rfl) :
  eff P C ⟨ofl L, oflO M⟩ d (.gcallv ow fz fp nl x xs) = some (r, oflO (N ++ M)) := eff_gcallv hx hev h0 hk h1 h2 h3 hC h4 hn h5 hz h6 h7 h8
theorem SimI.gp {ops : List POper} {i : Nat} {c : Prop} {dc : Decidable c} {vs : List Value} {v : Value} (d : Nat) (p : Prim) (xs : List Operand) (gd : Option (Nat × Bool)) (hs : List (Nat × Hint)) (hp : c → prun P (p.sem vs) = some v)
  (g : SimI P C (ops.drop (i + 1)) ([(d, PV.ofVal v)] ++ L) ([] ++ M) o Q) (hx : PV.toVals (evs ⟨ofl L, oflO M⟩ xs) = some vs := by kernel_rfl) (hg : gok gd L = true := by kernel_rfl) (hh : okH hs ⟨ofl L, oflO M⟩ = true := by kernel_rfl)
  (hop : ops.drop i = ⟨some d, .prim p xs, gd, hs⟩ :: ops.drop (i + 1) := by kernel_rfl) : SimI P C (ops.drop i) L M (if c then o else none) Q := .guard ⟨some d, .prim p xs, gd, hs⟩ [(d, PV.ofVal v)] [] hop (fun h => pOp_eff hg hh (eff_prim hx (hp h))) g
theorem SimI.cm {β : Type} {ops : List POper} {i : Nat} {og : Option β} {E : β → Option α} {W : β → PV} {A : List PV} (d : Nat) (wr : Bool) (nl : List (List (Nat × Nat))) (f : FuncId) (xs : List Operand) (gd : Option (Nat × Bool)) (hs : List (Nat × Hint))
  (hC : ∀ r, og = some r → C f A [] = some (W r, [])) (g : ∀ r, SimI P C (ops.drop (i + 1)) ([(d, W r)] ++ L) ([] ++ M) (E r) Q)
  (hop : ops.drop i = ⟨some d, .call wr nl f xs, gd, hs⟩ :: ops.drop (i + 1) := by kernel_rfl) (hg : gok gd L = true := by kernel_rfl) (hh : okH hs ⟨ofl L, oflO M⟩ = true := by kernel_rfl)
  (hev : nilA nl (evs ⟨ofl L, oflO M⟩ xs) = A := by kernel_rfl) (ha : A.all (PV.clean true) = true := by kernel_rfl) (hv : ∀ r, (W r).clean true = true := by intro; kernel_rfl) : SimI P C (ops.drop i) L M (og.bind E) Q :=
 .bind (og := og) ⟨some d, .call wr nl f xs, gd, hs⟩ (fun r => [(d, W r)]) (fun _ => []) hop (fun r hr => pOp_eff hg hh (eff_call hev (args_all A ha) (hC r hr) (hv r))) g
theorem mt {f : FuncId} {c d : PFunc} (h : some c = some d) (x : ∃ fn A, P.funcs[f]? = some fn ∧ compFn P A fn = some c) : ∃ fn A, P.funcs[f]? = some fn ∧ compFn P A fn = some d := Option.some.inj h ▸ x
def rp (l : List Nat) (v : PV) : List (Nat × PV) := l.map fun k => (k, v)
end
end Go.Rx
