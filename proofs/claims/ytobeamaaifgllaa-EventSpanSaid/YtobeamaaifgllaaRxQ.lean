/- No condition. -/
import Derived.Test.YtobeamaaifgllaaRxT
import Derived.Eval
namespace Go.Rx
open Go Go.RowKit
inductive ArgsR (I : Nat → Prop) (w : World) : List PV → List Value → Prop
 | nil : ArgsR I w [] []
 | cons {a : PV} {v : Value} {as : List PV} {vs : List Value} : VR (objs0 []) ⟨fun k => ([] : List Nat).getD (k - pbase) 0, fun _ => undef⟩ I w a v → ArgsR I w as vs → ArgsR I w (a :: as) (v :: vs)
theorem ArgsR.get {I : Nat → Prop} {w : World} : ∀ {as : List PV} {vs : List Value}, ArgsR I w as vs → vs.length = as.length ∧ ∀ t, VR (objs0 []) ⟨fun k => ([] : List Nat).getD (k - pbase) 0, fun _ => undef⟩ I w (as.getD t .none) (vs.getD t undef)
 | [], [], .nil => ⟨rfl, fun t => by simp; exact VR.none _⟩
 | a :: as, v :: vs, .cons h k => by
  have ih := k.get
  refine ⟨by simp [ih.1], fun t => ?_⟩
  cases t with
  | zero => simpa using h
  | succ t => simpa using ih.2 t
theorem argVal {I : Nat → Prop} {w : World} {v : Value} (h : v.oneCell' = true) : VR (objs0 []) ⟨fun k => ([] : List Nat).getD (k - pbase) 0, fun _ => undef⟩ I w (.one (.val v)) v := .one _ _ (.imm _ _ (.val v h))
theorem Meets.law {P : Program} {C : Oracle} (hM : Meets P C) {f : FuncId} {args : List PV} {b : Bool} (hc : C f args [] = some (.one (.val (.bool b)), [])) {I : Nat → Prop} {w : World} {vals : List Value}
  (ha : ArgsR I w args vals) (hI : ∀ b, I b → b < w.heap.size) : Calls P f vals.toArray w fun e w' => e = .returned (.bool b) ∧ Below w.heap.size w w' := by
 obtain ⟨hl, hv⟩ := ha.get
 have h0 : ∀ k o, objs0 [] k ≠ some o := fun k o hk => by have := (objs0_some hk).2.1; simp at this
 have hb0 : ∀ E k, ¬ Blk (objs0 []) E k := fun E k ⟨o, hk, _⟩ => h0 k o hk
 have h := (hM f args [] _ _ hc).2 I w ⟨fun k => ([] : List Nat).getD (k - pbase) 0, fun _ => undef⟩ vals.toArray
  ⟨fun k o hk => absurd hk (h0 k o), fun k _ hk => absurd hk (hb0 _ k), fun k hk => absurd hk (hb0 _ k), fun k hk => absurd hk (hb0 _ k), hI⟩ (fun t => by simpa using hv t) (by simpa using hl)
 refine h.mono ?_
 rintro e w' ⟨v, I', E', rfl, _, _, _, _, hr, _, hw⟩
 refine ⟨?_, (Wst.below ⟨hw.os, hw.tape, hw.output, hw.size, fun k hk _ => hw.block k hk (fun ⟨k, hk, _⟩ => hb0 _ k hk)⟩)⟩
 cases hr with
 | one l v h => cases h with
  | imm _ _ h => cases h with
   | val => rfl
end Go.Rx
