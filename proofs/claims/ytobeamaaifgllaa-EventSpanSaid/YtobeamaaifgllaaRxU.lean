/- No condition. -/
import Derived.Test.YtobeamaaifgllaaRxT
namespace Go.Rx
open Go Go.RowKit
theorem eqk_run {P : Program} {t : TypeId} {k : IntKind} (ht : P.underlying t = some (.int k)) (d : Nat) (k' : IntKind) (a b : Int) : prun P (Op.equalIn (d + 1) t (.int k' a) (.int k' b)) = some (a == b) := by
 unfold Op.equalIn
 simp [underlying, program, ht, bind, Sem.bind, pure, prun]
theorem eqstr_run {P : Program} {t : TypeId} (ht : P.underlying t = some .string) (d : Nat) (a b : ByteArray) : prun P (Op.equalIn (d + 1) t (.string a) (.string b)) = some (a == b) := by
 unfold Op.equalIn
 simp [underlying, program, ht, bind, Sem.bind, pure, prun]
theorem eqs_list {P : Program} (F : Field → Sem Bool) : ∀ (fs : List (Field × Bool)), (∀ p ∈ fs, p.1.name ≠ "_" ∧ prun P (F p.1) = some p.2) →
  prun P (forIn (m := Sem) (fs.map (·.1)) ((none, ()) : Option Bool × Unit) fun f __s => if f.name ≠ "_" then (do
   let b ← F f
   if (!b) = true then pure (ForInStep.done (some false, ())) else pure (ForInStep.yield (none, ()))) else pure (ForInStep.yield (none, ()))) = some (if fs.all (·.2) then (none, ()) else (some false, ()))
 | [], _ => by simp [forIn, pure, prun]
 | (f, b) :: fs, h => by
  have h0 := h (f, b) (by simp)
  have ih := eqs_list F fs (fun p hp => h p (by simp [hp]))
  simp only [List.map_cons, List.forIn_cons]
  rw [if_pos h0.1]
  cases b with
  | true =>
   rw [prun_bind (a := ForInStep.yield (none, ()))]
   ·rw [List.all_cons, Bool.true_and]; exact ih
   ·rw [prun_bind P _ _ h0.2]; simp [pure, prun]
  | false =>
   rw [prun_bind (a := ForInStep.done (some false, ()))]
   ·simp [pure, prun]
   ·rw [prun_bind P _ _ h0.2]; simp [pure, prun]
theorem eqst_run {P : Program} {t : TypeId} {fields : List Field} {xs ys : Array Value} (ht : P.underlying t = some (.struct fields.toArray)) (hs : P.stoodInHeld t = false) (d : Nat) (bs : List (Field × Bool)) (hf : bs.map (·.1) = fields)
  (h : ∀ p ∈ bs, p.1.name ≠ "_" ∧ ∃ x y, prun P (part p.1.type xs p.1.offset) = some x ∧ prun P (part p.1.type ys p.1.offset) = some y ∧ prun P (Op.equalIn d p.1.type x y) = some p.2) :
  prun P (Op.equalIn (d + 1) t (.agg xs) (.agg ys)) = some (bs.all (·.2)) := by
 have k := eqs_list (P := P) (fun f => do
  let x ← part f.type xs f.offset
  let y ← part f.type ys f.offset
  Op.equalIn d f.type x y) bs (fun p hp => by
   obtain ⟨h1, x, y, hx, hy, he⟩ := h p hp
   refine ⟨h1, ?_⟩
   rw [prun_bind P _ _ hx, prun_bind P _ _ hy]
   exact he)
 unfold Op.equalIn
 rw [prun_bind (a := .struct fields.toArray)]
 ·simp only
  rw [prun_bind (a := P)]
  ·simp only [hs, Bool.false_eq_true, if_false]
   rw [prun_bind (a := if bs.all (·.2) then (none, ()) else (some false, ()))]
   ·cases bs.all (·.2) <;> simp [pure, prun]
   ·rw [← k, hf]
    simp only [List.forIn_toArray, bind_assoc]
  ·simp [program, prun]
 ·simp [underlying, program, ht, bind, Sem.bind, pure, prun]
theorem pr_eqst {P : Program} {t : TypeId} {xs ys : Array Value} {r : Bool} (h : prun P (Op.equalIn (9999 + 1) t (.agg xs) (.agg ys)) = some r) (hg : P.eqGuardType P.depth t = false) (cx cy : Bool) : prun P ((Prim.bin .eql t cx cy).sem [.agg xs, .agg ys]) = some (.bool r) := by
 have h' : prun P ((Op.equalIn Op.maxDepth t (.agg xs) (.agg ys)) >>= fun r => (Sem.pure (Value.bool r) : Sem Value)) = some (.bool r) := by
  have e : Op.maxDepth = 9999 + 1 := rfl
  rw [e, prun_bind P _ _ h]; rfl
 simp [Prim.sem, eqGuardB, eqGuard, binOp, Op.equal, program, prun, Sem.bind, hg, bind, pure]
 exact h'
theorem pr_nest {P : Program} {t : TypeId} {xs ys : Array Value} {r : Bool} (h : prun P (Op.equalIn (9999 + 1) t (.agg xs) (.agg ys)) = some r) (hg : P.eqGuardType P.depth t = false) (cx cy : Bool) : prun P ((Prim.bin .neq t cx cy).sem [.agg xs, .agg ys]) = some (.bool !r) := by
 have h' : prun P ((Op.equalIn Op.maxDepth t (.agg xs) (.agg ys)) >>= fun r => (Sem.pure (Value.bool !r) : Sem Value)) = some (.bool !r) := by
  have e : Op.maxDepth = 9999 + 1 := rfl
  rw [e, prun_bind P _ _ h]; rfl
 simp [Prim.sem, eqGuardB, eqGuard, binOp, Op.equal, program, prun, Sem.bind, hg, bind, pure]
 exact h'
theorem eqa_list {P : Program} (F : Nat → Sem Bool) : ∀ (bs : List Bool) (k : Nat), (∀ i (h : i < bs.length), prun P (F (k + i)) = some bs[i]) →
  prun P (forIn (m := Sem) (List.range' k bs.length) ((none, ()) : Option Bool × Unit) fun i __s => (do
   let b ← F i
   if (!b) = true then pure (ForInStep.done (some false, ())) else pure (ForInStep.yield (none, ())))) = some (if bs.all id then (none, ()) else (some false, ()))
 | [], k, _ => by simp [forIn, pure, prun]
 | b :: bs, k, h => by
  have h0 := h 0 (by simp)
  have ih := eqa_list F bs (k + 1) (fun i hi => by
   have := h (i + 1) (by simpa using hi)
   rw [show k + 1 + i = k + (i + 1) by omega]
   simpa using this)
  simp only [List.length_cons, List.range'_succ, List.forIn_cons]
  simp only [Nat.add_zero, List.getElem_cons_zero] at h0
  cases b with
  | true =>
   rw [prun_bind (a := ForInStep.yield (none, ()))]
   ·rw [List.all_cons]; simpa using ih
   ·rw [prun_bind P _ _ h0]; simp [pure, prun]
  | false =>
   rw [prun_bind (a := ForInStep.done (some false, ()))]
   ·simp [pure, prun]
   ·rw [prun_bind P _ _ h0]; simp [pure, prun]
theorem eqar_run {P : Program} {t e : TypeId} {n sz : Nat} {xs ys : Array Value} (ht : P.underlying t = some (.array n e)) (hsz : szOf P e = some sz) (d : Nat) (bs : List Bool) (hl : bs.length = n)
  (h : ∀ i (hi : i < bs.length), ∃ x y, prun P (part e xs (i * sz)) = some x ∧ prun P (part e ys (i * sz)) = some y ∧ prun P (Op.equalIn d e x y) = some bs[i]) :
  prun P (Op.equalIn (d + 1) t (.agg xs) (.agg ys)) = some (bs.all id) := by
 have hS : prun P (sizeOf e) = some sz := by
  unfold szOf at hsz
  cases hi : P.info? e with
  | none => rw [hi] at hsz; cases hsz
  | some i =>
   rw [hi] at hsz
   simp only [Option.map_some, sj] at hsz
   simp [sizeOf, typeInfo, program, hi, hsz, bind, Sem.bind, pure, prun]
 have k := eqa_list (P := P) (fun i => do
  let x ← part e xs (i * sz)
  let y ← part e ys (i * sz)
  Op.equalIn d e x y) bs 0 (fun i hi => by
   obtain ⟨x, y, hx, hy, he⟩ := h i hi
   rw [Nat.zero_add, prun_bind P _ _ hx, prun_bind P _ _ hy]
   exact he)
 unfold Op.equalIn
 rw [prun_bind (a := .array n e)]
 ·simp only
  rw [prun_bind P _ _ hS]
  rw [prun_bind (a := if bs.all id then (none, ()) else (some false, ()))]
  ·cases bs.all id <;> simp [pure, prun]
  ·rw [← k, hl]
   simp only [Std.Legacy.Range.forIn_eq_forIn_range', Std.Legacy.Range.size, Nat.sub_zero, Nat.add_sub_cancel, Nat.div_one, bind_assoc]
 ·simp [underlying, program, ht, bind, Sem.bind, pure, prun]
theorem ba_beq (a b : ByteArray) : (a == b) = true ↔ a = b := by
 cases a with | mk x =>
 cases b with | mk y =>
 simp only [ByteArray.mk.injEq]
 exact @beq_iff_eq (Array UInt8) _ _ x y
end Go.Rx
