/- No condition. -/
import Derived.Test.YthdabpmcojmhhaaRxM
namespace Go.Rx
open Go Go.RowKit
def ini : Nat → List PV → List (Nat × PV)
 | _, [] => []
 | k, v :: vs => (k, v) :: ini (k + 1) vs
theorem ini_get : ∀ (vs : List PV) (k j : Nat), ofl (ini k vs) j = if k ≤ j then vs.getD (j - k) .none else .none
 | [], k, j => by simp [ini, ofl]
 | v :: vs, k, j => by
  simp only [ini, ofl, ini_get vs (k + 1) j]
  by_cases h : j = k
  ·subst h; simp
  ·rw [if_neg h]
   by_cases h2 : k ≤ j
   ·rw [if_pos (by omega), if_pos h2, show j - k = (j - (k + 1)) + 1 by omega]; rfl
   ·rw [if_neg (by omega), if_neg h2]
theorem ini_eq (args : List PV) : (fun t => args.getD t PV.none) = ofl (ini 0 args) := by funext j; rw [ini_get]; simp
def iniO : Nat → List Ob → List (Nat × Option Ob)
 | _, [] => []
 | k, v :: vs => (k, some v) :: iniO (k + 1) vs
theorem iniO_get : ∀ (vs : List Ob) (k j : Nat), oflO (iniO k vs) j = if k ≤ j then vs[j - k]? else none
 | [], k, j => by simp [iniO, oflO]
 | v :: vs, k, j => by
  simp only [iniO, oflO, iniO_get vs (k + 1) j]
  by_cases h : j = k
  ·subst h; simp
  ·rw [if_neg h]
   by_cases h2 : k ≤ j
   ·rw [if_pos (by omega), if_pos h2, show j - k = (j - (k + 1)) + 1 by omega]; rfl
   ·rw [if_neg (by omega), if_neg h2]
theorem iniO_eq (os : List Ob) : zag os = oflO (iniO zac os) := by funext j; rw [iniO_get]; rfl
structure SimE {α : Type} (ex : PEx) (L : List (Nat × PV)) (M : List (Nat × Option Ob)) (o : Option α) (Q : α → PEx → St → Prop) : Prop where
 h : ∀ a, o = some a → Q a ex ⟨ofl L, oflO M⟩
structure Sim {α : Type} (P : Program) (C : zaf) (n : Nat) (c : PCode) (L : List (Nat × PV)) (M : List (Nat × Option Ob)) (o : Option α) (Q : α → PEx → St → Prop) : Prop where
 h : ∀ a, o = some a → ∃ ex st', zal P C n c ⟨ofl L, oflO M⟩ = some (ex, st') ∧ Q a ex st'
structure SimL {α : Type} (P : Program) (C : zaf) (n m : Nat) (c : PCode) (L : List (Nat × PV)) (M : List (Nat × Option Ob)) (o : Option α) (Q : α → PEx → St → Prop) : Prop where
 h : ∀ a, o = some a → ∃ ex st', iter (zal P C n c) m ⟨ofl L, oflO M⟩ = some (ex, st') ∧ Q a ex st'
structure SimI {α : Type} (P : Program) (C : zaf) (ops : List POper) (L : List (Nat × PV)) (M : List (Nat × Option Ob)) (o : Option α) (Q : α → PEx → St → Prop) : Prop where
 h : ∀ a, o = some a → ∃ st', pOps P C ops ⟨ofl L, oflO M⟩ = some st' ∧ Q a .normal st'
def qt {α : Type} (P : Program) (C : zaf) (n : Nat) (c : PCode) (Q : α → PEx → St → Prop) (a : α) : PEx → St → Prop
 | .normal, st => ∃ ex st', zal P C n c st = some (ex, st') ∧ Q a ex st'
 | e, st => Q a e st
def qb {α : Type} (id : Nat) (Q : α → PEx → St → Prop) (a : α) : PEx → St → Prop
 | .exit id', st => if id' = id then Q a .normal st else Q a (.exit id') st
 | e, st => Q a e st
def ql {α : Type} (P : Program) (C : zaf) (n m : Nat) (c : PCode) (Q : α → PEx → St → Prop) (a : α) : PEx → St → Prop
 | .normal, st => ∃ ex st', iter (zal P C n c) m st = some (ex, st') ∧ Q a ex st'
 | e, st => Q a e st
def qf {α : Type} (xp : Bool) (rs : List PRes) (k : Nat) (enc : α → PV × List Ob) (a : α) : PEx → St → Prop
 | .exit _, _ => False
 | _, st => outOf xp st rs k = some (enc a)
structure QT {α : Type} (P : Program) (C : zaf) (n : Nat) (c : PCode) (Q : α → PEx → St → Prop) (a : α) (ex : PEx) (st : St) : Prop where
 h : qt P C n c Q a ex st
structure QB {α : Type} (id : Nat) (Q : α → PEx → St → Prop) (a : α) (ex : PEx) (st : St) : Prop where
 h : qb id Q a ex st
structure QL {α : Type} (P : Program) (C : zaf) (n m : Nat) (c : PCode) (Q : α → PEx → St → Prop) (a : α) (ex : PEx) (st : St) : Prop where
 h : ql P C n m c Q a ex st
structure QF {α : Type} (xp : Bool) (rs : List PRes) (k : Nat) (enc : α → PV × List Ob) (a : α) (ex : PEx) (st : St) : Prop where
 h : qf xp rs k enc a ex st
section
variable {α : Type} {P : Program} {C : zaf} {n : Nat} {L : List (Nat × PV)} {M : List (Nat × Option Ob)} {o : Option α} {Q : α → PEx → St → Prop}
theorem Sim.seq {a b : PCode} (g : Sim P C n a L M o (QT P C n b Q)) : Sim P C n (.seq a b) L M o Q := by
 refine ⟨fun r hr => ?_⟩
 obtain ⟨ex, st', he, ⟨hq⟩⟩ := g.h r hr
 cases ex with
 | normal =>
  obtain ⟨ex2, st2, he2, hq2⟩ := hq
  exact ⟨ex2, st2, by simp only [zal, he, he2], hq2⟩
 | exit id => exact ⟨_, _, by simp only [zal, he], hq⟩
 | ret => exact ⟨_, _, by simp only [zal, he], hq⟩
theorem SimE.thenN {b : PCode} (g : Sim P C n b L M o Q) : SimE .normal L M o (QT P C n b Q) := ⟨fun a ha => ⟨g.h a ha⟩⟩
theorem SimE.thenX {b : PCode} {id : Nat} (g : SimE (.exit id) L M o Q) : SimE (.exit id) L M o (QT P C n b Q) := ⟨fun a ha => ⟨g.h a ha⟩⟩
theorem SimE.thenR {b : PCode} (g : SimE .ret L M o Q) : SimE .ret L M o (QT P C n b Q) := ⟨fun a ha => ⟨g.h a ha⟩⟩
theorem Sim.block {id : Nat} {c : PCode} (g : Sim P C n c L M o (QB id Q)) : Sim P C n (.block id c) L M o Q := by
 refine ⟨fun r hr => ?_⟩
 obtain ⟨ex, st', he, ⟨hq⟩⟩ := g.h r hr
 cases ex with
 | normal => exact ⟨_, _, by simp only [zal, he], hq⟩
 | exit id' =>
  by_cases hid : id' = id
  ·exact ⟨.normal, st', by simp only [zal, he, if_pos hid], by simpa [qb, hid] using hq⟩
  ·exact ⟨.exit id', st', by simp only [zal, he, if_neg hid], by simpa [qb, hid] using hq⟩
 | ret => exact ⟨_, _, by simp only [zal, he], hq⟩
theorem SimE.blockN {id : Nat} (g : SimE .normal L M o Q) : SimE .normal L M o (QB id Q) := ⟨fun a ha => ⟨g.h a ha⟩⟩
theorem SimE.blockX {id : Nat} (g : SimE .normal L M o Q) : SimE (.exit id) L M o (QB id Q) := ⟨fun a ha => ⟨by simpa [qb] using g.h a ha⟩⟩
theorem SimE.blockY {id id' : Nat} (hne : (id' == id) = false) (g : SimE (.exit id') L M o Q) : SimE (.exit id') L M o (QB id Q) := ⟨fun a ha => ⟨by
 have hne : id' ≠ id := by simpa using hne
 simpa [qb, hne] using g.h a ha⟩⟩
theorem SimE.blockR {id : Nat} (g : SimE .ret L M o Q) : SimE .ret L M o (QB id Q) := ⟨fun a ha => ⟨g.h a ha⟩⟩
theorem Sim.scope {c : PCode} (g : Sim P C n c L M o Q) : Sim P C n (.scope c) L M o Q := ⟨g.h⟩
theorem Sim.skip (g : SimE .normal L M o Q) : Sim P C n .skip L M o Q := ⟨fun a ha => ⟨_, _, rfl, g.h a ha⟩⟩
theorem Sim.label (g : SimE .normal L M o Q) : Sim P C n .label L M o Q := ⟨fun a ha => ⟨_, _, rfl, g.h a ha⟩⟩
theorem Sim.exit {id : Nat} (g : SimE (.exit id) L M o Q) : Sim P C n (.exit id) L M o Q := ⟨fun a ha => ⟨_, _, rfl, g.h a ha⟩⟩
theorem Sim.ret (g : SimE .ret L M o Q) : Sim P C n .ret L M o Q := ⟨fun a ha => ⟨_, _, rfl, g.h a ha⟩⟩
theorem Sim.cond {c : Operand} {a b : PCode} {o1 o2 : Option α} (t : Bool) (hc : St.ev ⟨ofl L, oflO M⟩ c = .one (.val (.bool t))) (g1 : Sim P C n a L M o1 Q) (g2 : Sim P C n b L M o2 Q) : Sim P C n (.cond c a b) L M (if t = true then o1 else o2) Q := by
 refine ⟨fun r hr => ?_⟩
 cases t with
 | true => obtain ⟨ex, st', he, hq⟩ := g1.h r hr; exact ⟨ex, st', by simp only [zal, hc, if_true, he], hq⟩
 | false => obtain ⟨ex, st', he, hq⟩ := g2.h r hr; exact ⟨ex, st', by simp only [zal, hc, yad, if_false, he], hq⟩
theorem Sim.condT {c : Operand} {a b : PCode} (hc : St.ev ⟨ofl L, oflO M⟩ c = .one (.val (.bool true))) (g : Sim P C n a L M o Q) : Sim P C n (.cond c a b) L M o Q := by
 refine ⟨fun r hr => ?_⟩
 obtain ⟨ex, st', he, hq⟩ := g.h r hr; exact ⟨ex, st', by simp only [zal, hc, if_true, he], hq⟩
theorem Sim.condF {c : Operand} {a b : PCode} (hc : St.ev ⟨ofl L, oflO M⟩ c = .one (.val (.bool false))) (g : Sim P C n b L M o Q) : Sim P C n (.cond c a b) L M o Q := by
 refine ⟨fun r hr => ?_⟩
 obtain ⟨ex, st', he, hq⟩ := g.h r hr; exact ⟨ex, st', by simp only [zal, hc, yad, if_false, he], hq⟩
theorem Sim.loop {c : PCode} (g : SimL P C n n c L M o Q) : Sim P C n (.loop c) L M o Q := ⟨g.h⟩
theorem SimL.succ {m : Nat} {c : PCode} (g : Sim P C n c L M o (QL P C n m c Q)) : SimL P C n (m + 1) c L M o Q := by
 refine ⟨fun r hr => ?_⟩
 obtain ⟨ex, st', he, ⟨hq⟩⟩ := g.h r hr
 cases ex with
 | normal =>
  obtain ⟨ex2, st2, he2, hq2⟩ := hq
  exact ⟨ex2, st2, by simp only [iter, he, he2], hq2⟩
 | exit id => exact ⟨_, _, by simp only [iter, he], hq⟩
 | ret => exact ⟨_, _, by simp only [iter, he], hq⟩
theorem SimL.zero {c : PCode} {m : Nat} : SimL P C n m c L M (none : Option α) Q := ⟨fun _ h => by cases h⟩
theorem SimE.loopN {m : Nat} {c : PCode} (g : SimL P C n m c L M o Q) : SimE .normal L M o (QL P C n m c Q) := ⟨fun a ha => ⟨g.h a ha⟩⟩
theorem SimE.loopX {m id : Nat} {c : PCode} (g : SimE (.exit id) L M o Q) : SimE (.exit id) L M o (QL P C n m c Q) := ⟨fun a ha => ⟨g.h a ha⟩⟩
theorem SimE.loopR {m : Nat} {c : PCode} (g : SimE .ret L M o Q) : SimE .ret L M o (QL P C n m c Q) := ⟨fun a ha => ⟨g.h a ha⟩⟩
theorem SimE.fin {xp : Bool} {rs : List PRes} {k : Nat} {enc : α → PV × List Ob} {r : α} (h : outOf xp ⟨ofl L, oflO M⟩ rs k = some (enc r)) : SimE .ret L M (some r) (QF xp rs k enc) := ⟨fun a ha => ⟨by
 injection ha with ha; subst ha; exact h⟩⟩
theorem SimE.finN {xp : Bool} {rs : List PRes} {k : Nat} {enc : α → PV × List Ob} {r : α} (h : outOf xp ⟨ofl L, oflO M⟩ rs k = some (enc r)) : SimE .normal L M (some r) (QF xp rs k enc) := ⟨fun a ha => ⟨by
 injection ha with ha; subst ha; exact h⟩⟩
theorem Sim.region0 {dr : Bool} {ops : List POper} (g : SimI P C (ops.drop 0) L M o Q) : Sim P C n (.region none dr ops) L M o Q := by
 refine ⟨fun r hr => ?_⟩
 obtain ⟨st', he, hq⟩ := g.h r hr
 exact ⟨.normal, st', by simp only [ycc] at he; simp only [zal, he], hq⟩
theorem Sim.region {ts os : List Nat} {ow : List OwnE} {dr : Bool} {ops : List POper} (L2 : List (Nat × PV)) (M2 : List (Nat × Option Ob)) (hr : St.restrict ⟨ofl L, oflO M⟩ ts os ow = some ⟨ofl L2, oflO M2⟩)
  (g : SimI P C (ops.drop 0) L2 M2 o Q) : Sim P C n (.region (some (ts, os, ow)) dr ops) L M o Q := by
 refine ⟨fun r hr' => ?_⟩
 obtain ⟨st', he, hq⟩ := g.h r hr'
 exact ⟨.normal, st', by simp only [ycc] at he; simp only [zal, hr, he], hq⟩
theorem pOps_append : ∀ (a b : List POper) (st st' : St), pOps P C a st = some st' → pOps P C (a ++ b) st = pOps P C b st'
 | [], b, st, st', h => by simp only [pOps, sj] at h; subst h; rfl
 | x :: a, b, st, st', h => by
  simp only [pOps, List.cons_append] at h ⊢
  split at h
  ·rename_i st1 h1
   exact pOps_append a b st1 st' h
  ·cases h
theorem SimI.done {ops : List POper} (hn : ops = []) (g : SimE .normal L M o Q) : SimI P C ops L M o Q := by
 subst hn
 exact ⟨fun a ha => ⟨_, rfl, g.h a ha⟩⟩
theorem SimI.run {ops : List POper} {i : Nat} (k : Nat) (N : List (Nat × PV)) (NM : List (Nat × Option Ob)) (h : pOps P C ((ops.drop i).take k) ⟨ofl L, oflO M⟩ = some ⟨ofl (N ++ L), oflO (NM ++ M)⟩)
  (g : SimI P C (ops.drop (i + k)) (N ++ L) (NM ++ M) o Q) : SimI P C (ops.drop i) L M o Q := by
 refine ⟨fun a ha => ?_⟩
 obtain ⟨st', he, hq⟩ := g.h a ha
 refine ⟨st', ?_, hq⟩
 have e : ops.drop i = (ops.drop i).take k ++ ops.drop (i + k) := by rw [← List.drop_drop, List.take_append_drop]
 rw [e, pOps_append _ _ _ _ h, he]
theorem SimI.bind {β : Type} {ops : List POper} {i : Nat} {og : Option β} {E : β → Option α} (op : POper) (N : β → List (Nat × PV)) (NM : β → List (Nat × Option Ob)) (hop : ops.drop i = op :: ops.drop (i + 1))
  (h : ∀ r, og = some r → pOp P C op ⟨ofl L, oflO M⟩ = some ⟨ofl (N r ++ L), oflO (NM r ++ M)⟩)
  (g : ∀ r, SimI P C (ops.drop (i + 1)) (N r ++ L) (NM r ++ M) (E r) Q) : SimI P C (ops.drop i) L M (og.bind E) Q := by
 refine ⟨fun a ha => ?_⟩
 cases hg : og with
 | none => rw [hg] at ha; cases ha
 | some r =>
  rw [hg] at ha
  obtain ⟨st', he, hq⟩ := (g r).h a ha
  exact ⟨st', by rw [hop]; simp only [pOps, h r hg]; exact he, hq⟩
theorem SimI.guard {ops : List POper} {i : Nat} {c : Prop} [Decidable c] (op : POper) (N : List (Nat × PV)) (NM : List (Nat × Option Ob)) (hop : ops.drop i = op :: ops.drop (i + 1))
  (h : c → pOp P C op ⟨ofl L, oflO M⟩ = some ⟨ofl (N ++ L), oflO (NM ++ M)⟩)
  (g : SimI P C (ops.drop (i + 1)) (N ++ L) (NM ++ M) o Q) : SimI P C (ops.drop i) L M (if c then o else none) Q := by
 refine ⟨fun a ha => ?_⟩
 split at ha
 ·rename_i hc
  obtain ⟨st', he, hq⟩ := g.h a ha
  exact ⟨st', by rw [hop]; simp only [pOps, h hc]; exact he, hq⟩
 ·cases ha
theorem SimI.step {ops : List POper} {i : Nat} (op : POper) (N : List (Nat × PV)) (NM : List (Nat × Option Ob)) (hop : ops.drop i = op :: ops.drop (i + 1))
  (h : pOp P C op ⟨ofl L, oflO M⟩ = some ⟨ofl (N ++ L), oflO (NM ++ M)⟩)
  (g : SimI P C (ops.drop (i + 1)) (N ++ L) (NM ++ M) o Q) : SimI P C (ops.drop i) L M o Q := by
 refine ⟨fun a ha => ?_⟩
 obtain ⟨st', he, hq⟩ := g.h a ha
 exact ⟨st', by rw [hop]; simp only [pOps, h]; exact he, hq⟩
theorem upd_idem {f : Nat → PV} {k : Nat} {v : PV} (h : f k = v) : upd f k v = f := by
 funext j
 simp only [upd]
 split
 ·rename_i e; rw [e, h]
 ·rfl
theorem SimI.split {ops : List POper} {o1 o2 : Option α} (s : Nat) (t : Bool) (hc : ofl L s = .one (.val (.bool t))) (g1 : SimI P C ops ((s, .one (.val (.bool true))) :: L) M o1 Q) (g2 : SimI P C ops ((s, .one (.val (.bool false))) :: L) M o2 Q) :
  SimI P C ops L M (if t = true then o1 else o2) Q := by
 refine ⟨fun r hr => ?_⟩
 cases t with
 | true =>
  obtain ⟨st', he, hq⟩ := g1.h r hr
  have e : ofl ((s, .one (.val (.bool true))) :: L) = ofl L := upd_idem hc
  rw [e] at he
  exact ⟨st', he, hq⟩
 | false =>
  obtain ⟨st', he, hq⟩ := g2.h r hr
  have e : ofl ((s, .one (.val (.bool false))) :: L) = ofl L := upd_idem hc
  rw [e] at he
  exact ⟨st', he, hq⟩
def gok (gd : Option (Nat × Bool)) (L : List (Nat × PV)) : Bool :=
 match gd with
 | none => true
 | some (g, b) => match ofl L g with
  | .one (.val (.bool t)) => t == b
  | _ => false
def gokP (gd : Option (Nat × Bool)) (st : St) : Prop := ∀ g b, gd = some (g, b) → st.tmps g = .one (.val (.bool b))
theorem pOp_effH {d : Option Nat} {p : POp} {gd : Option (Nat × Bool)} {hs : List (Nat × Hint)} {st : St} {r : PV × (Nat → Option Ob)} (hg : gokP gd st) (hh : okH hs st = true) (h : eff P C st d p = some r) :
  pOp P C ⟨d, p, gd, hs⟩ st = some (({ st with objs := r.2 } : St).put d r.1) := by
 have he : effH P C st ⟨d, p, gd, hs⟩ = some r := by unfold effH; rw [if_pos hh]; exact h
 unfold pOp
 cases gd with
 | none => simp only [he]
 | some gb =>
  obtain ⟨g, b⟩ := gb
  simp only [hg g b rfl, if_true, he]
theorem gok_is {gd : Option (Nat × Bool)} (hg : gok gd L = true) : gokP gd ⟨ofl L, oflO M⟩ := by
 rintro g b rfl
 simp only [gok] at hg
 split at hg
 ·rename_i t ht
  have : t = b := by simpa using hg
  subst this; exact ht
 ·cases hg
theorem pOp_eff {d : Nat} {p : POp} {gd : Option (Nat × Bool)} {hs : List (Nat × Hint)} {v : PV} {M' : List (Nat × Option Ob)} (hg : gok gd L = true) (hh : okH hs ⟨ofl L, oflO M⟩ = true) (h : eff P C ⟨ofl L, oflO M⟩ (some d) p = some (v, oflO M')) :
  pOp P C ⟨some d, p, gd, hs⟩ ⟨ofl L, oflO M⟩ = some ⟨ofl ([(d, v)] ++ L), oflO M'⟩ := pOp_effH (gok_is hg) hh h
theorem pOp_eff_ {p : POp} {gd : Option (Nat × Bool)} {hs : List (Nat × Hint)} {v : PV} {M' : List (Nat × Option Ob)} (hg : gok gd L = true) (hh : okH hs ⟨ofl L, oflO M⟩ = true) (h : eff P C ⟨ofl L, oflO M⟩ none p = some (v, oflO M')) :
  pOp P C ⟨none, p, gd, hs⟩ ⟨ofl L, oflO M⟩ = some ⟨ofl ([] ++ L), oflO M'⟩ := pOp_effH (gok_is hg) hh h
theorem fn_of {B : zaf} {T : Table} {f : FuncId} {pf : PFunc} (hT : T f = some pf) {args : List PV} {os : List Ob} {enc : α → PV × List Ob} (hl : Nat.ble args.length pf.ntmps = true) (hy : os.all Ob.young = true)
  (g : Sim P (all P B T) n pf.body (ini 0 args) (iniO zac os) o (QF pf.ex pf.results os.length enc)) : ∀ a, o = some a → all P B T f args os = some (enc a) := by
 intro a ha
 refine all_fn (n := n) hT (yao hl) ?_
 obtain ⟨ex, st', he, ⟨hq⟩⟩ := g.h a ha
 unfold zcs
 rw [ini_eq, iniO_eq, he]
 cases ex with
 | exit id => exact hq.elim
 | normal => simp only [hy, if_true]; exact hq
 | ret => simp only [hy, if_true]; exact hq
end
end Go.Rx
