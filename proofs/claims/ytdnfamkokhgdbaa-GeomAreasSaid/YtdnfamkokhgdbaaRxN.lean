/-
  Rx, part N: rules by which the pure machine is run on paper.
-/
import Derived.Test.YtdnfamkokhgdbaaRxM
namespace Go.Rx
open Go Go.RowKit

structure EvO (P : Program) (C : Oracle) (ops : List POper) (L : List (Nat × PV)) (M : List (Nat × Option Ob)) (Q : St → Prop) : Prop where
  h : ∃ st', pOps P C ops ⟨ofl L, oflO M⟩ = some st' ∧ Q st'
structure Ev (P : Program) (C : Oracle) (n : Nat) (c : PCode) (L : List (Nat × PV)) (M : List (Nat × Option Ob)) (Q : PEx → St → Prop) : Prop where
  h : ∃ ex st', evCode P C n c ⟨ofl L, oflO M⟩ = some (ex, st') ∧ Q ex st'
structure EvL (P : Program) (C : Oracle) (n m : Nat) (c : PCode) (L : List (Nat × PV)) (M : List (Nat × Option Ob)) (Q : PEx → St → Prop) : Prop where
  h : ∃ ex st', iter (evCode P C n c) m ⟨ofl L, oflO M⟩ = some (ex, st') ∧ Q ex st'

/-- What follows: behind a normal end K, else Q. -/
def thenQ' (K : List (Nat × PV) → List (Nat × Option Ob) → Prop) (Q : PEx → St → Prop) : PEx → St → Prop
  | .normal, st => ∃ L M, st = ⟨ofl L, oflO M⟩ ∧ K L M
  | e, st => Q e st
def blockQ' (id : Nat) (Q : PEx → St → Prop) : PEx → St → Prop
  | .exit id', st => if id' = id then Q .normal st else Q (.exit id') st
  | e, st => Q e st
def endQ' (K : List (Nat × PV) → List (Nat × Option Ob) → Prop) : PEx → St → Prop
  | .exit _, _ => False
  | _, st => ∃ L M, st = ⟨ofl L, oflO M⟩ ∧ K L M
structure thenQ (K : List (Nat × PV) → List (Nat × Option Ob) → Prop) (Q : PEx → St → Prop) (e : PEx) (st : St) : Prop where
  h : thenQ' K Q e st
structure blockQ (id : Nat) (Q : PEx → St → Prop) (e : PEx) (st : St) : Prop where
  h : blockQ' id Q e st
structure endQ (K : List (Nat × PV) → List (Nat × Option Ob) → Prop) (e : PEx) (st : St) : Prop where
  h : endQ' K e st

theorem ofl_cons (k : Nat) (v : PV) (L : List (Nat × PV)) (j : Nat) : ofl ((k, v) :: L) j = if j = k then v else ofl L j := rfl
theorem ofl_nil (j : Nat) : ofl [] j = .none := rfl
theorem oflO_cons (k : Nat) (v : Option Ob) (L : List (Nat × Option Ob)) (j : Nat) : oflO ((k, v) :: L) j = if j = k then v else oflO L j := rfl
theorem oflO_nil (j : Nat) : oflO [] j = none := rfl

theorem upd_ofl (L : List (Nat × PV)) (k : Nat) (v : PV) : upd (ofl L) k v = ofl ((k, v) :: L) := rfl
theorem upd_oflO (M : List (Nat × Option Ob)) (k : Nat) (v : Option Ob) : upd (oflO M) k v = oflO ((k, v) :: M) := rfl

def ini : Nat → List PV → List (Nat × PV)
  | _, [] => []
  | k, v :: vs => (k, v) :: ini (k + 1) vs

theorem ini_get : ∀ (vs : List PV) (k j : Nat), ofl (ini k vs) j = if k ≤ j then vs.getD (j - k) .none else .none
  | [], k, j => by simp [ini, ofl]
  | v :: vs, k, j => by
    simp only [ini, ofl, ini_get vs (k + 1) j]
    by_cases h : j = k
    · subst h; simp
    · rw [if_neg h]
      by_cases h2 : k ≤ j
      · rw [if_pos (by omega), if_pos h2, show j - k = (j - (k + 1)) + 1 by omega]; rfl
      · rw [if_neg (by omega), if_neg h2]

theorem ini_eq (args : List PV) : (fun t => args.getD t PV.none) = ofl (ini 0 args) := by funext j; rw [ini_get]; simp

def iniO : Nat → List (List Lf) → List (Nat × Option Ob)
  | _, [] => []
  | k, v :: vs => (k, some (.cells v)) :: iniO (k + 1) vs

theorem iniO_get : ∀ (vs : List (List Lf)) (k j : Nat), oflO (iniO k vs) j = if k ≤ j then (vs[j - k]?).map .cells else none
  | [], k, j => by simp [iniO, oflO]
  | v :: vs, k, j => by
    simp only [iniO, oflO, iniO_get vs (k + 1) j]
    by_cases h : j = k
    · subst h; simp
    · rw [if_neg h]
      by_cases h2 : k ≤ j
      · rw [if_pos (by omega), if_pos h2, show j - k = (j - (k + 1)) + 1 by omega]; rfl
      · rw [if_neg (by omega), if_neg h2]

theorem iniO_eq (os : List (List Lf)) : objs0 os = oflO (iniO pbase os) := by funext j; rw [iniO_get]; rfl

section
variable {P : Program} {C : Oracle} {n : Nat} {L : List (Nat × PV)} {M : List (Nat × Option Ob)} {Q : PEx → St → Prop} {K : List (Nat × PV) → List (Nat × Option Ob) → Prop}

theorem body_ev {pf : PFunc} {args : List PV} {os : List (List Lf)} {r : PV × List (List Lf)}
    (h : Ev P C n pf.body (ini 0 args) (iniO pbase os) (endQ fun L M => ∃ vs os', ressOf ⟨ofl L, oflO M⟩ pf.results = some vs ∧ backOf ⟨ofl L, oflO M⟩ 0 os.length = some os' ∧ (one? vs, os') = r)) :
    evBody P C n pf args os = some r := by
  obtain ⟨ex, st', he, ⟨hq⟩⟩ := h
  unfold evBody
  rw [ini_eq, iniO_eq, he]
  cases ex with
  | exit id => exact hq.elim
  | normal =>
    obtain ⟨L, M, rfl, vs, os', h1, h2, rfl⟩ := hq
    simp only [h1, h2]
  | ret =>
    obtain ⟨L, M, rfl, vs, os', h1, h2, rfl⟩ := hq
    simp only [h1, h2]

theorem Ev.seq {a b : PCode} (h : Ev P C n a L M (thenQ (fun L M => Ev P C n b L M Q) Q)) : Ev P C n (.seq a b) L M Q := by
  obtain ⟨ex, st', he, ⟨hq⟩⟩ := h
  cases ex with
  | normal =>
    obtain ⟨L2, M2, rfl, ex2, st2, he2, hq2⟩ := hq
    exact ⟨ex2, st2, by simp only [evCode, he, he2], hq2⟩
  | exit id => exact ⟨_, _, by simp only [evCode, he], hq⟩
  | ret => exact ⟨_, _, by simp only [evCode, he], hq⟩

theorem Ev.region {ts os : List Nat} {dr : Bool} {ops : List POper} {L2 : List (Nat × PV)} {M2 : List (Nat × Option Ob)} (hr : St.restrict ⟨ofl L, oflO M⟩ ts os = some ⟨ofl L2, oflO M2⟩)
    (h : EvO P C ops L2 M2 (Q .normal)) : Ev P C n (.region (some (ts, os)) dr ops) L M Q := by
  obtain ⟨st', he, hq⟩ := h
  exact ⟨.normal, st', by simp only [evCode, hr, he], hq⟩

theorem EvO.nil (h : K L M) : EvO P C [] L M (thenQ K Q .normal) := ⟨_, rfl, ⟨L, M, rfl, h⟩⟩
theorem EvO.nil_block {id : Nat} (h : EvO P C [] L M (Q .normal)) : EvO P C [] L M (blockQ id Q .normal) := by
  obtain ⟨st', he, hq⟩ := h
  exact ⟨st', he, ⟨hq⟩⟩
theorem EvO.nil_end (h : K L M) : EvO P C [] L M (endQ K .normal) := ⟨_, rfl, ⟨L, M, rfl, h⟩⟩

theorem EvO.op {d : Nat} {p : POp} {os : List POper} {v : PV} {M2 : List (Nat × Option Ob)} {Q : St → Prop} (he : eff P C ⟨ofl L, oflO M⟩ (some d) p = some (v, oflO M2)) (k : EvO P C os ((d, v) :: L) M2 Q) :
    EvO P C (⟨some d, p, none⟩ :: os) L M Q := by
  obtain ⟨st', h1, h2⟩ := k
  refine ⟨st', ?_, h2⟩
  simp only [pOps, pOp, he, St.put, upd_ofl]
  exact h1
theorem EvO.op_ {p : POp} {os : List POper} {v : PV} {M2 : List (Nat × Option Ob)} {Q : St → Prop} (he : eff P C ⟨ofl L, oflO M⟩ none p = some (v, oflO M2)) (k : EvO P C os L M2 Q) :
    EvO P C (⟨none, p, none⟩ :: os) L M Q := by
  obtain ⟨st', h1, h2⟩ := k
  refine ⟨st', ?_, h2⟩
  simp only [pOps, pOp, he, St.put]
  exact h1
theorem EvO.go {d g : Nat} {b : Bool} {p : POp} {os : List POper} {v : PV} {M2 : List (Nat × Option Ob)} {Q : St → Prop} (hg : ofl L g = .one (.val (.bool b))) (he : eff P C ⟨ofl L, oflO M⟩ (some d) p = some (v, oflO M2)) (k : EvO P C os ((d, v) :: L) M2 Q) :
    EvO P C (⟨some d, p, some (g, b)⟩ :: os) L M Q := by
  obtain ⟨st', h1, h2⟩ := k
  refine ⟨st', ?_, h2⟩
  simp only [pOps, pOp, hg, if_true, he, St.put, upd_ofl]
  exact h1
theorem EvO.go_ {g : Nat} {b : Bool} {p : POp} {os : List POper} {v : PV} {M2 : List (Nat × Option Ob)} {Q : St → Prop} (hg : ofl L g = .one (.val (.bool b))) (he : eff P C ⟨ofl L, oflO M⟩ none p = some (v, oflO M2)) (k : EvO P C os L M2 Q) :
    EvO P C (⟨none, p, some (g, b)⟩ :: os) L M Q := by
  obtain ⟨st', h1, h2⟩ := k
  refine ⟨st', ?_, h2⟩
  simp only [pOps, pOp, hg, if_true, he, St.put]
  exact h1
theorem EvO.off {d g : Nat} {b b' : Bool} {p : POp} {os : List POper} {Q : St → Prop} (hg : ofl L g = .one (.val (.bool b'))) (hb : b' ≠ b) (k : EvO P C os ((d, .tup []) :: L) M Q) :
    EvO P C (⟨some d, p, some (g, b)⟩ :: os) L M Q := by
  obtain ⟨st', h1, h2⟩ := k
  refine ⟨st', ?_, h2⟩
  simp only [pOps, pOp, hg, if_neg hb, St.put, upd_ofl]
  exact h1
theorem EvO.off_ {g : Nat} {b b' : Bool} {p : POp} {os : List POper} {Q : St → Prop} (hg : ofl L g = .one (.val (.bool b'))) (hb : b' ≠ b) (k : EvO P C os L M Q) :
    EvO P C (⟨none, p, some (g, b)⟩ :: os) L M Q := by
  obtain ⟨st', h1, h2⟩ := k
  refine ⟨st', ?_, h2⟩
  simp only [pOps, pOp, hg, if_neg hb, St.put]
  exact h1

theorem EvO.out {d g : Nat} {b : Bool} {p : POp} {os : List POper} {Q : St → Prop} (hg : ofl L g = .tup []) (k : EvO P C os ((d, .tup []) :: L) M Q) :
    EvO P C (⟨some d, p, some (g, b)⟩ :: os) L M Q := by
  obtain ⟨st', h1, h2⟩ := k
  refine ⟨st', ?_, h2⟩
  simp only [pOps, pOp, hg, St.put, upd_ofl]
  exact h1
theorem EvO.out_ {g : Nat} {b : Bool} {p : POp} {os : List POper} {Q : St → Prop} (hg : ofl L g = .tup []) (k : EvO P C os L M Q) :
    EvO P C (⟨none, p, some (g, b)⟩ :: os) L M Q := by
  obtain ⟨st', h1, h2⟩ := k
  refine ⟨st', ?_, h2⟩
  simp only [pOps, pOp, hg, St.put]
  exact h1

theorem EvO.split {d : Option Nat} {g : Nat} {b t : Bool} {p : POp} {os : List POper} {Q : St → Prop} (hg : ofl L g = .one (.val (.bool t))) (h1 : t = true → EvO P C (⟨d, p, some (g, b)⟩ :: os) L M Q) (h2 : t = false → EvO P C (⟨d, p, some (g, b)⟩ :: os) L M Q) :
    EvO P C (⟨d, p, some (g, b)⟩ :: os) L M Q := by
  cases t with
  | true => exact h1 rfl
  | false => exact h2 rfl

theorem Ev.cond {c : Operand} {a b : PCode} {t : Bool} (hc : St.ev ⟨ofl L, oflO M⟩ c = .one (.val (.bool t))) (h : if t then Ev P C n a L M Q else Ev P C n b L M Q) : Ev P C n (.cond c a b) L M Q := by
  cases t with
  | true => obtain ⟨ex, st', he, hq⟩ := h; exact ⟨ex, st', by simp only [evCode, hc, if_true, he], hq⟩
  | false => obtain ⟨ex, st', he, hq⟩ := h; exact ⟨ex, st', by simp only [evCode, hc, Bool.false_eq_true, if_false, he], hq⟩
theorem Ev.cond_split {c : Operand} {a b : PCode} {t : Bool} (hc : St.ev ⟨ofl L, oflO M⟩ c = .one (.val (.bool t))) (h1 : t = true → Ev P C n a L M Q) (h2 : t = false → Ev P C n b L M Q) : Ev P C n (.cond c a b) L M Q := by
  cases t with
  | true => exact Ev.cond hc (h1 rfl)
  | false => exact Ev.cond hc (h2 rfl)

theorem Ev.skip (h : K L M) : Ev P C n .skip L M (thenQ K Q) := ⟨_, _, rfl, ⟨L, M, rfl, h⟩⟩
theorem Ev.skip_end (h : K L M) : Ev P C n .skip L M (endQ K) := ⟨_, _, rfl, ⟨L, M, rfl, h⟩⟩
theorem Ev.skip_block {id : Nat} (h : Ev P C n .skip L M Q) : Ev P C n .skip L M (blockQ id Q) := by
  obtain ⟨ex, st', he, hq⟩ := h
  simp only [evCode, Option.some.injEq, Prod.mk.injEq] at he
  obtain ⟨rfl, rfl⟩ := he
  exact ⟨_, _, rfl, ⟨hq⟩⟩
theorem Ev.label (h : K L M) : Ev P C n .label L M (thenQ K Q) := ⟨_, _, rfl, ⟨L, M, rfl, h⟩⟩
theorem Ev.block {id : Nat} {c : PCode} (h : Ev P C n c L M (blockQ id Q)) : Ev P C n (.block id c) L M Q := by
  obtain ⟨ex, st', he, ⟨hq⟩⟩ := h
  cases ex with
  | normal => exact ⟨_, _, by simp only [evCode, he], hq⟩
  | exit id' =>
    by_cases hid : id' = id
    · exact ⟨.normal, st', by simp only [evCode, he, if_pos hid], by simpa [blockQ', hid] using hq⟩
    · exact ⟨.exit id', st', by simp only [evCode, he, if_neg hid], by simpa [blockQ', hid] using hq⟩
  | ret => exact ⟨_, _, by simp only [evCode, he], hq⟩
theorem Ev.scope {c : PCode} (h : Ev P C n c L M Q) : Ev P C n (.scope c) L M Q := ⟨h.h⟩

/-- How an exit, a return passes on. -/
theorem Ev.exit {id : Nat} (h : Q (.exit id) ⟨ofl L, oflO M⟩) : Ev P C n (.exit id) L M Q := ⟨_, _, rfl, h⟩
theorem Ev.ret (h : Q .ret ⟨ofl L, oflO M⟩) : Ev P C n .ret L M Q := ⟨_, _, rfl, h⟩
theorem thenQ_exit {id : Nat} {st : St} (h : Q (.exit id) st) : thenQ K Q (.exit id) st := ⟨h⟩
theorem thenQ_ret {st : St} (h : Q .ret st) : thenQ K Q .ret st := ⟨h⟩
theorem thenQ_normal (h : K L M) : thenQ K Q .normal ⟨ofl L, oflO M⟩ := ⟨L, M, rfl, h⟩
theorem blockQ_normal {id : Nat} {st : St} (h : Q .normal st) : blockQ id Q .normal st := ⟨h⟩
theorem blockQ_ret {id : Nat} {st : St} (h : Q .ret st) : blockQ id Q .ret st := ⟨h⟩
theorem blockQ_exit {id : Nat} {st : St} (h : Q .normal st) : blockQ id Q (.exit id) st := ⟨by simp [blockQ', h]⟩
theorem blockQ_exit_ne {id id' : Nat} {st : St} (hne : id' ≠ id) (h : Q (.exit id') st) : blockQ id Q (.exit id') st := ⟨by simp [blockQ', hne, h]⟩
theorem endQ_ret (h : K L M) : endQ K .ret ⟨ofl L, oflO M⟩ := ⟨L, M, rfl, h⟩
theorem endQ_normal (h : K L M) : endQ K .normal ⟨ofl L, oflO M⟩ := ⟨L, M, rfl, h⟩

theorem fin_ev {st : St} {rs : List PRes} {k m : Nat} {r : PV × List (List Lf)} {vs : List PV} {os' : List (List Lf)} (h1 : ressOf st rs = some vs) (h2 : backOf st k m = some os') (h3 : (one? vs, os') = r) :
    ∃ vs os', ressOf st rs = some vs ∧ backOf st k m = some os' ∧ (one? vs, os') = r := ⟨_, _, h1, h2, h3⟩

theorem EvO.nil' {Q : St → Prop} (h : Q ⟨ofl L, oflO M⟩) : EvO P C [] L M Q := ⟨_, rfl, h⟩

/-- A loop, round by round. -/
theorem Ev.loop {c : PCode} (h : EvL P C n n c L M Q) : Ev P C n (.loop c) L M Q := ⟨h.h⟩
theorem EvL.round {m : Nat} {c : PCode} (h : Ev P C n c L M (thenQ (fun L M => EvL P C n m c L M Q) Q)) : EvL P C n (m + 1) c L M Q := by
  obtain ⟨ex, st', he, ⟨hq⟩⟩ := h
  cases ex with
  | normal =>
    obtain ⟨L2, M2, rfl, ex2, st2, he2, hq2⟩ := hq
    exact ⟨ex2, st2, by simp only [iter, he, he2], hq2⟩
  | exit id => exact ⟨_, _, by simp only [iter, he], hq⟩
  | ret => exact ⟨_, _, by simp only [iter, he], hq⟩
end

/-! ### operations on numbers -/

section
variable {P : Program}

theorem int_kind_guard {α : Type} (k : IntKind) (x y : Sem α) : (if k ≠ k then x else y) = y := by simp

theorem pr_add (t : TypeId) (cx cy : Bool) (k : IntKind) (a b : Int) : prun P ((Prim.bin .add t cx cy).sem [.int k a, .int k b]) = some (.int k (k.wrap (a + b))) := by
  simp [Prim.sem, eqGuardB, eqGuard, binOp, Op.intArith, bind, Sem.bind, pure, prun]
theorem pr_sub (t : TypeId) (cx cy : Bool) (k : IntKind) (a b : Int) : prun P ((Prim.bin .sub t cx cy).sem [.int k a, .int k b]) = some (.int k (k.wrap (a - b))) := by
  simp [Prim.sem, eqGuardB, eqGuard, binOp, Op.intArith, bind, Sem.bind, pure, prun]
theorem pr_mul (t : TypeId) (cx cy : Bool) (k : IntKind) (a b : Int) : prun P ((Prim.bin .mul t cx cy).sem [.int k a, .int k b]) = some (.int k (k.wrap (a * b))) := by
  simp [Prim.sem, eqGuardB, eqGuard, binOp, Op.intArith, bind, Sem.bind, pure, prun]
theorem pr_quo (t : TypeId) (cx cy : Bool) (k : IntKind) (a b : Int) (hb : b ≠ 0) : prun P ((Prim.bin .quo t cx cy).sem [.int k a, .int k b]) = some (.int k (k.wrap (a.tdiv b))) := by
  simp [Prim.sem, eqGuardB, eqGuard, binOp, Op.intDiv, bind, Sem.bind, pure, prun, hb]
theorem pr_rem (t : TypeId) (cx cy : Bool) (k : IntKind) (a b : Int) (hb : b ≠ 0) : prun P ((Prim.bin .rem t cx cy).sem [.int k a, .int k b]) = some (.int k (a.tmod b)) := by
  simp [Prim.sem, eqGuardB, eqGuard, binOp, Op.intDiv, bind, Sem.bind, pure, prun, hb]
def bitsI (op : BinOp) (k : IntKind) (a b : Int) : Int :=
  let x := BitVec.ofInt k.bits a
  let y := BitVec.ofInt k.bits b
  match op with
  | .and => k.wrap (x &&& y).toNat
  | .or => k.wrap (x ||| y).toNat
  | .xor => k.wrap (x ^^^ y).toNat
  | _ => k.wrap (x &&& ~~~y).toNat
theorem pr_and (t : TypeId) (cx cy : Bool) (k : IntKind) (a b : Int) : prun P ((Prim.bin .and t cx cy).sem [.int k a, .int k b]) = some (.int k (bitsI .and k a b)) := by
  simp [Prim.sem, eqGuardB, eqGuard, binOp, Op.intBits, bitsI, bind, Sem.bind, pure, prun]
theorem pr_or (t : TypeId) (cx cy : Bool) (k : IntKind) (a b : Int) : prun P ((Prim.bin .or t cx cy).sem [.int k a, .int k b]) = some (.int k (bitsI .or k a b)) := by
  simp [Prim.sem, eqGuardB, eqGuard, binOp, Op.intBits, bitsI, bind, Sem.bind, pure, prun]
theorem pr_xor (t : TypeId) (cx cy : Bool) (k : IntKind) (a b : Int) : prun P ((Prim.bin .xor t cx cy).sem [.int k a, .int k b]) = some (.int k (bitsI .xor k a b)) := by
  simp [Prim.sem, eqGuardB, eqGuard, binOp, Op.intBits, bitsI, bind, Sem.bind, pure, prun]
theorem pr_andNot (t : TypeId) (cx cy : Bool) (k : IntKind) (a b : Int) : prun P ((Prim.bin .andNot t cx cy).sem [.int k a, .int k b]) = some (.int k (bitsI .andNot k a b)) := by
  simp [Prim.sem, eqGuardB, eqGuard, binOp, Op.intBits, bitsI, bind, Sem.bind, pure, prun]
def shlI (k : IntKind) (a b : Int) : Int := k.wrap (a * 2 ^ (min b.toNat k.bits))
def shrI (k : IntKind) (a b : Int) : Int := a.fdiv (2 ^ (min b.toNat k.bits))
theorem pr_shl (t : TypeId) (cx cy : Bool) (k k' : IntKind) (a b : Int) (hb : ¬ b < 0) : prun P ((Prim.bin .shl t cx cy).sem [.int k a, .int k' b]) = some (.int k (shlI k a b)) := by
  simp [Prim.sem, eqGuardB, eqGuard, binOp, Op.shift, shlI, bind, Sem.bind, pure, prun, hb]
theorem pr_shr (t : TypeId) (cx cy : Bool) (k k' : IntKind) (a b : Int) (hb : ¬ b < 0) : prun P ((Prim.bin .shr t cx cy).sem [.int k a, .int k' b]) = some (.int k (shrI k a b)) := by
  simp [Prim.sem, eqGuardB, eqGuard, binOp, Op.shift, shrI, bind, Sem.bind, pure, prun, hb]
theorem pr_lss (t : TypeId) (cx cy : Bool) (k : IntKind) (a b : Int) : prun P ((Prim.bin .lss t cx cy).sem [.int k a, .int k b]) = some (.bool (decide (a < b))) := by
  simp [Prim.sem, eqGuardB, eqGuard, binOp, Op.intCmp, bind, Sem.bind, pure, prun]
theorem pr_leq (t : TypeId) (cx cy : Bool) (k : IntKind) (a b : Int) : prun P ((Prim.bin .leq t cx cy).sem [.int k a, .int k b]) = some (.bool (decide (a ≤ b))) := by
  simp [Prim.sem, eqGuardB, eqGuard, binOp, Op.intCmp, bind, Sem.bind, pure, prun]
theorem pr_gtr (t : TypeId) (cx cy : Bool) (k : IntKind) (a b : Int) : prun P ((Prim.bin .gtr t cx cy).sem [.int k a, .int k b]) = some (.bool (decide (b < a))) := by
  simp [Prim.sem, eqGuardB, eqGuard, binOp, Op.intCmp, bind, Sem.bind, pure, prun]
theorem pr_geq (t : TypeId) (cx cy : Bool) (k : IntKind) (a b : Int) : prun P ((Prim.bin .geq t cx cy).sem [.int k a, .int k b]) = some (.bool (decide (b ≤ a))) := by
  simp [Prim.sem, eqGuardB, eqGuard, binOp, Op.intCmp, bind, Sem.bind, pure, prun]
theorem pr_eql (t : TypeId) (cx cy : Bool) (k : IntKind) (a b : Int) : prun P ((Prim.bin .eql t cx cy).sem [.int k a, .int k b]) = some (.bool (a == b)) := by
  simp [Prim.sem, eqGuardB, eqGuard, binOp, Op.intCmp, bind, Sem.bind, pure, prun]
theorem pr_neq (t : TypeId) (cx cy : Bool) (k : IntKind) (a b : Int) : prun P ((Prim.bin .neq t cx cy).sem [.int k a, .int k b]) = some (.bool (a != b)) := by
  simp [Prim.sem, eqGuardB, eqGuard, binOp, Op.intCmp, bind, Sem.bind, pure, prun]
theorem pr_not (b : Bool) : prun P ((Prim.un .not).sem [.bool b]) = some (.bool !b) := by simp [Prim.sem, Op.unary, pure, prun]
theorem pr_neg (k : IntKind) (a : Int) : prun P ((Prim.un .neg).sem [.int k a]) = some (.int k (k.wrap (0 - a))) := by simp [Prim.sem, Op.unary, Op.intArith, pure, prun]
theorem pr_conv {s d : TypeId} {k k' : IntKind} (a : Int) {ds : TypeDesc} (hs : P.underlying s = some ds) (hd : P.underlying d = some (.int k')) : prun P ((Prim.conv s d).sem [.int k a]) = some (.int k' (k'.wrap a)) := by
  simp [Prim.sem, convert, underlying, program, hs, hd, Conv.intToInt, bind, Sem.bind, pure, prun]
theorem pr_min2 (k k' : IntKind) (a b : Int) : prun P (Prim.min.sem [.int k a, .int k' b]) = some (.int k (if b < a then b else a)) := by
  simp [Prim.sem, Builtin.min_, Builtin.min2, List.foldlM, bind, Sem.bind, pure, prun]
theorem pr_max2 (k k' : IntKind) (a b : Int) : prun P (Prim.max.sem [.int k a, .int k' b]) = some (.int k (if b > a then b else a)) := by
  simp [Prim.sem, Builtin.max_, Builtin.max2, List.foldlM, bind, Sem.bind, pure, prun]
theorem pr_min4 (k k' k2 k3 : IntKind) (a b c d : Int) : prun P (Prim.min.sem [.int k a, .int k' b, .int k2 c, .int k3 d]) = some (.int k (let m := if b < a then b else a; let m := if c < m then c else m; if d < m then d else m)) := by
  simp [Prim.sem, Builtin.min_, Builtin.min2, List.foldlM, bind, Sem.bind, pure, prun]
theorem pr_max4 (k k' k2 k3 : IntKind) (a b c d : Int) : prun P (Prim.max.sem [.int k a, .int k' b, .int k2 c, .int k3 d]) = some (.int k (let m := if b > a then b else a; let m := if c > m then c else m; if d > m then d else m)) := by
  simp [Prim.sem, Builtin.max_, Builtin.max2, List.foldlM, bind, Sem.bind, pure, prun]
end
end Go.Rx
