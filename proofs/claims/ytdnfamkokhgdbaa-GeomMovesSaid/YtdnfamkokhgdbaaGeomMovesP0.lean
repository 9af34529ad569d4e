/-
  Functions of the program as functions of Lean. No condition.
-/
import Derived.Test.YtdnfamkokhgdbaaGeomMovesE
namespace Go.Proofs.Ytdnfamkokhgdbaa
open Go Go.Rx
set_option maxRecDepth 100000
set_option linter.unusedVariables false
set_option linter.unusedSimpArgs false
set_option linter.unnecessarySimpa false
-- 27: vedette/geom.Empty
def F27_e : Bool → PV × List (List Lf) := fun r => (.one (lb r), [])
def F27 (n : Nat) (a0 : Rect) : Option Bool :=
  if decide (a0.X1 ≤ a0.X0) then
    some true
  else
    some (decide (a0.Y1 ≤ a0.Y0))
theorem F27_ok (n : Nat) (a0 : Rect) : ∀ r, F27 n a0 = some r → D 27 [.agg [li .i64 a0.X0, li .i64 a0.Y0, li .i64 a0.X1, li .i64 a0.Y1]] [] = some (F27_e r) := by
  refine fn_to (D := D) (n := n + 8) (nt := 15) (rs := pc27_r) (c := pc27_c5) (L := [(0, .agg [li .i64 a0.X0, li .i64 a0.Y0, li .i64 a0.X1, li .i64 a0.Y1])]) (M := []) (k := 0) rfl rfl rfl rfl rfl rfl ?_
  unfold F27
  refine Sim.seq ?_
  refine Sim.region0 ?_
  refine SimI.run 2 [(2, .one (lb false)), (1, .one (.ptr 1 0))] [(1, some (.cells [li .i64 a0.X0, li .i64 a0.Y0, li .i64 a0.X1, li .i64 a0.Y1]))] (by kernel_rfl) ?_
  refine SimI.done (by kernel_rfl) ?_
  refine SimE.thenN ?_
  refine Sim.seq ?_
  refine Sim.region0 ?_
  refine SimI.run 6 [(8, .one (lb (decide (a0.X1 ≤ a0.X0)))), (7, .one (lb (decide (a0.X1 ≤ a0.X0)))), (6, .one (li .i64 a0.X1)), (5, .one (.ptr 1 2)), (4, .one (li .i64 a0.X0)), (3, .one (.ptr 1 0))] [] (by kernel_rfl) ?_
  refine SimI.split 8 (decide (a0.X1 ≤ a0.X0)) (by kernel_rfl) ?_ ?_
  · refine SimI.run 7 [(2, .one (lb true)), (14, .one (lb true)), (13, .tup []), (12, .tup []), (11, .tup []), (10, .tup []), (9, .tup [])] [] (by kernel_rfl) ?_
    refine SimI.done (by kernel_rfl) ?_
    refine SimE.thenN ?_
    refine Sim.ret ?_
    exact SimE.fin (by kernel_rfl)
  · refine SimI.run 7 [(2, .one (lb (decide (a0.Y1 ≤ a0.Y0)))), (14, .one (lb (decide (a0.Y1 ≤ a0.Y0)))), (13, .one (lb (decide (a0.Y1 ≤ a0.Y0)))), (12, .one (li .i64 a0.Y1)), (11, .one (.ptr 1 3)), (10, .one (li .i64 a0.Y0)), (9, .one (.ptr 1 1))] [] (by kernel_rfl) ?_
    refine SimI.done (by kernel_rfl) ?_
    refine SimE.thenN ?_
    refine Sim.ret ?_
    exact SimE.fin (by kernel_rfl)


-- 40: vedette/geom.tidy
def F40_e : Rect → PV × List (List Lf) := fun r => (.agg [li .i64 r.X0, li .i64 r.Y0, li .i64 r.X1, li .i64 r.Y1], [])
def F40 (n : Nat) (a0 : Rect) : Option Rect :=
  (F27 n a0).bind fun (r1 : Bool) =>
  if r1 then
    some (Rect.mk 0 0 0 0)
  else
    some a0
theorem F40_ok (n : Nat) (a0 : Rect) : ∀ r, F40 n a0 = some r → D 40 [.agg [li .i64 a0.X0, li .i64 a0.Y0, li .i64 a0.X1, li .i64 a0.Y1]] [] = some (F40_e r) := by
  refine fn_to (D := D) (n := n + 8) (nt := 7) (rs := pc40_r) (c := pc40_c13) (L := [(0, .agg [li .i64 a0.X0, li .i64 a0.Y0, li .i64 a0.X1, li .i64 a0.Y1])]) (M := []) (k := 0) rfl rfl rfl rfl rfl rfl ?_
  unfold F40
  refine Sim.seq ?_
  refine Sim.region0 ?_
  refine SimI.run 2 [(2, .one (.ptr 2 0)), (1, .one (.ptr 1 0))] [(2, some (.cells [li .i64 0, li .i64 0, li .i64 0, li .i64 0])), (1, some (.cells [li .i64 a0.X0, li .i64 a0.Y0, li .i64 a0.X1, li .i64 a0.Y1]))] (by kernel_rfl) ?_
  refine SimI.done (by kernel_rfl) ?_
  refine SimE.thenN ?_
  refine Sim.seq ?_
  refine Sim.seq ?_
  refine Sim.region0 ?_
  refine SimI.run 1 [(3, .agg [li .i64 a0.X0, li .i64 a0.Y0, li .i64 a0.X1, li .i64 a0.Y1])] [] (by kernel_rfl) ?_
  refine SimI.bind (og := F27 n a0) { dst := some 4, op := POp.call true [[]] 27 [Operand.tmp 3], guard := none, hints := [] } (fun r1 => [(4, .one (lb r1))]) (fun r1 => []) (by kernel_rfl) (fun r1 hr => pOp_eff (by kernel_rfl) (by kernel_rfl) (eff_call (ARGS := [.agg [li .i64 a0.X0, li .i64 a0.Y0, li .i64 a0.X1, li .i64 a0.Y1]]) (by kernel_rfl) (args_clean (by kernel_rfl) args_nil) (F27_ok n a0 r1 hr) (by kernel_rfl))) (fun r1 => ?_)
  refine SimI.done (by kernel_rfl) ?_
  refine SimE.thenN ?_
  refine Sim.cond r1 (by kernel_rfl) ?_ ?_
  · refine Sim.seq ?_
    refine Sim.region0 ?_
    refine SimI.run 2 [(5, .agg [li .i64 0, li .i64 0, li .i64 0, li .i64 0])] [(2, some (.cells [li .i64 0, li .i64 0, li .i64 0, li .i64 0]))] (by kernel_rfl) ?_
    refine SimI.done (by kernel_rfl) ?_
    refine SimE.thenN ?_
    refine Sim.ret ?_
    refine SimE.thenR ?_
    exact SimE.fin (by kernel_rfl)
  · refine Sim.skip ?_
    refine SimE.thenN ?_
    refine Sim.seq ?_
    refine Sim.region0 ?_
    refine SimI.run 2 [(6, .agg [li .i64 a0.X0, li .i64 a0.Y0, li .i64 a0.X1, li .i64 a0.Y1])] [(2, some (.cells [li .i64 a0.X0, li .i64 a0.Y0, li .i64 a0.X1, li .i64 a0.Y1]))] (by kernel_rfl) ?_
    refine SimI.done (by kernel_rfl) ?_
    refine SimE.thenN ?_
    refine Sim.ret ?_
    exact SimE.fin (by kernel_rfl)


-- 31: vedette/geom.Meet
def F31_e : Rect → PV × List (List Lf) := fun r => (.agg [li .i64 r.X0, li .i64 r.Y0, li .i64 r.X1, li .i64 r.Y1], [])
def F31 (n : Nat) (a0 : Rect) (a1 : Rect) : Option Rect :=
  (F40 n (Rect.mk (imax a0.X0 a1.X0) (imax a0.Y0 a1.Y0) (imin a0.X1 a1.X1) (imin a0.Y1 a1.Y1))).bind fun (r1 : Rect) =>
  some r1
theorem F31_ok (n : Nat) (a0 : Rect) (a1 : Rect) : ∀ r, F31 n a0 a1 = some r → D 31 [.agg [li .i64 a0.X0, li .i64 a0.Y0, li .i64 a0.X1, li .i64 a0.Y1], .agg [li .i64 a1.X0, li .i64 a1.Y0, li .i64 a1.X1, li .i64 a1.Y1]] [] = some (F31_e r) := by
  refine fn_to (D := D) (n := n + 8) (nt := 27) (rs := pc31_r) (c := pc31_c5) (L := [(0, .agg [li .i64 a0.X0, li .i64 a0.Y0, li .i64 a0.X1, li .i64 a0.Y1]), (1, .agg [li .i64 a1.X0, li .i64 a1.Y0, li .i64 a1.X1, li .i64 a1.Y1])]) (M := []) (k := 0) rfl rfl rfl rfl rfl rfl ?_
  unfold F31
  refine Sim.seq ?_
  refine Sim.region0 ?_
  refine SimI.run 3 [(4, .one (.ptr 4 0)), (3, .one (.ptr 3 0)), (2, .one (.ptr 2 0))] [(4, some (.cells [li .i64 0, li .i64 0, li .i64 0, li .i64 0])), (3, some (.cells [li .i64 a1.X0, li .i64 a1.Y0, li .i64 a1.X1, li .i64 a1.Y1])), (2, some (.cells [li .i64 a0.X0, li .i64 a0.Y0, li .i64 a0.X1, li .i64 a0.Y1]))] (by kernel_rfl) ?_
  refine SimI.done (by kernel_rfl) ?_
  refine SimE.thenN ?_
  refine Sim.seq ?_
  refine Sim.region0 ?_
  refine SimI.run 21 [(25, .agg [li .i64 (imax a0.X0 a1.X0), li .i64 (imax a0.Y0 a1.Y0), li .i64 (imin a0.X1 a1.X1), li .i64 (imin a0.Y1 a1.Y1)]), (24, .one (li .i64 (imin a0.Y1 a1.Y1))), (23, .one (li .i64 a1.Y1)), (22, .one (.ptr 3 3)), (21, .one (li .i64 a0.Y1)), (20, .one (.ptr 2 3)), (19, .one (li .i64 (imin a0.X1 a1.X1))), (18, .one (li .i64 a1.X1)), (17, .one (.ptr 3 2)), (16, .one (li .i64 a0.X1)), (15, .one (.ptr 2 2)), (14, .one (li .i64 (imax a0.Y0 a1.Y0))), (13, .one (li .i64 a1.Y0)), (12, .one (.ptr 3 1)), (11, .one (li .i64 a0.Y0)), (10, .one (.ptr 2 1)), (9, .one (li .i64 (imax a0.X0 a1.X0))), (8, .one (li .i64 a1.X0)), (7, .one (.ptr 3 0)), (6, .one (li .i64 a0.X0)), (5, .one (.ptr 2 0))] [] (by kernel_rfl) ?_
  refine SimI.bind (og := F40 n (Rect.mk (imax a0.X0 a1.X0) (imax a0.Y0 a1.Y0) (imin a0.X1 a1.X1) (imin a0.Y1 a1.Y1))) { dst := some 26, op := POp.call true [[]] 40 [Operand.tmp 25], guard := none, hints := [] } (fun r1 => [(26, .agg [li .i64 r1.X0, li .i64 r1.Y0, li .i64 r1.X1, li .i64 r1.Y1])]) (fun r1 => []) (by kernel_rfl) (fun r1 hr => pOp_eff (by kernel_rfl) (by kernel_rfl) (eff_call (ARGS := [.agg [li .i64 (imax a0.X0 a1.X0), li .i64 (imax a0.Y0 a1.Y0), li .i64 (imin a0.X1 a1.X1), li .i64 (imin a0.Y1 a1.Y1)]]) (by kernel_rfl) (args_clean (by kernel_rfl) args_nil) (F40_ok n (Rect.mk (imax a0.X0 a1.X0) (imax a0.Y0 a1.Y0) (imin a0.X1 a1.X1) (imin a0.Y1 a1.Y1)) r1 hr) (by kernel_rfl))) (fun r1 => ?_)
  refine SimI.run 1 [] [(4, some (.cells [li .i64 r1.X0, li .i64 r1.Y0, li .i64 r1.X1, li .i64 r1.Y1]))] (by kernel_rfl) ?_
  refine SimI.done (by kernel_rfl) ?_
  refine SimE.thenN ?_
  refine Sim.ret ?_
  exact SimE.fin (by kernel_rfl)


-- 21: vedette/geom.Minus
def F21_e : (List Rect) → PV × List (List Lf) := fun r => (.one (vw Rect.cod r), [])
def F21_u18 (n : Nat) (l16 : (List Rect)) : Option (List Rect) :=
    some l16
theorem F21_u18_ok (n : Nat) (a0 : Rect) (r1 : Rect) (l16 : (List Rect)) (g17 : Nat) : SimL Try.prog D (n + 8) (n + 4) pc21_c34 [(6, .one (ownL 100006 g17 l16)), (57, .agg [li .i64 a0.X0, li .i64 a0.Y0, li .i64 a0.X1, li .i64 r1.Y0, li .i64 a0.X0, li .i64 r1.Y1, li .i64 a0.X1, li .i64 a0.Y1, li .i64 a0.X0, li .i64 r1.Y0, li .i64 r1.X0, li .i64 r1.Y1, li .i64 r1.X1, li .i64 r1.Y0, li .i64 a0.X1, li .i64 r1.Y1]), (58, .one (li .i64 4))] (ownM Rect.cod 35 100006 g17 l16 []) (F21_u18 n l16) (QB 1 (QT Try.prog D (n + 8) pc21_c40 (QF pc21_r 0 F21_e))) := by
    cases l16 with
    | nil =>
      unfold F21_u18
      refine SimL.succ ?_
      refine Sim.seq ?_
      refine Sim.region [(6, .one (lnil)), (57, .agg [li .i64 a0.X0, li .i64 a0.Y0, li .i64 a0.X1, li .i64 r1.Y0, li .i64 a0.X0, li .i64 r1.Y1, li .i64 a0.X1, li .i64 a0.Y1, li .i64 a0.X0, li .i64 r1.Y0, li .i64 r1.X0, li .i64 r1.Y1, li .i64 r1.X1, li .i64 r1.Y0, li .i64 a0.X1, li .i64 r1.Y1]), (58, .one (li .i64 4))] [] (by kernel_rfl) ?_
      refine SimI.run 1 [(59, .one (lb false))] [] (by kernel_rfl) ?_
      refine SimI.done (by kernel_rfl) ?_
      refine SimE.thenN ?_
      refine Sim.seq ?_
      refine Sim.condF (by kernel_rfl) ?_
      refine Sim.exit ?_
      refine SimE.thenX ?_
      refine SimE.loopX ?_
      refine SimE.blockX ?_
      refine SimE.thenN ?_
      refine Sim.seq ?_
      refine Sim.region0 ?_
      refine SimI.run 2 [(4, .one (lnil)), (69, .one (lnil))] [] (by kernel_rfl) ?_
      refine SimI.done (by kernel_rfl) ?_
      refine SimE.thenN ?_
      refine Sim.ret ?_
      exact SimE.fin (by kernel_rfl)
    | cons l16h l16t =>
      unfold F21_u18
      refine SimL.succ ?_
      refine Sim.seq ?_
      refine Sim.region [(6, .one (.osl 100006 g17 0 ((l16h :: l16t)).length)), (57, .agg [li .i64 a0.X0, li .i64 a0.Y0, li .i64 a0.X1, li .i64 r1.Y0, li .i64 a0.X0, li .i64 r1.Y1, li .i64 a0.X1, li .i64 a0.Y1, li .i64 a0.X0, li .i64 r1.Y0, li .i64 r1.X0, li .i64 r1.Y1, li .i64 r1.X1, li .i64 r1.Y0, li .i64 a0.X1, li .i64 r1.Y1]), (58, .one (li .i64 4))] ((100006, some (.arr 35 Rect.cod.sz g17 ((l16h :: l16t)).length (getOf Rect.cod (l16h :: l16t)))) :: []) (by kernel_rfl) ?_
      refine SimI.run 1 [(59, .one (lb false))] [] (by kernel_rfl) ?_
      refine SimI.done (by kernel_rfl) ?_
      refine SimE.thenN ?_
      refine Sim.seq ?_
      refine Sim.condF (by kernel_rfl) ?_
      refine Sim.exit ?_
      refine SimE.thenX ?_
      refine SimE.loopX ?_
      refine SimE.blockX ?_
      refine SimE.thenN ?_
      refine Sim.seq ?_
      refine Sim.region0 ?_
      refine SimI.run 2 [(4, .one (.osl 100006 g17 0 ((l16h :: l16t)).length)), (69, .one (.osl 100006 g17 0 ((l16h :: l16t)).length))] [] (by kernel_rfl) ?_
      refine SimI.done (by kernel_rfl) ?_
      refine SimE.thenN ?_
      refine Sim.ret ?_
      exact SimE.fin (out_of (os := []) (ress_cons (resOf_own (c := Rect.cod) (k := 100006) (g := g17) (el := 35) (l := (l16h :: l16t)) (by kernel_rfl) (by kernel_rfl)) (ress_nil)) (by kernel_rfl) (by kernel_rfl))

def F21_u14 (n : Nat) (a0 : Rect) (r1 : Rect) (l12 : (List Rect)) : Option (List Rect) :=
    (F27 n (Rect.mk r1.X1 r1.Y0 a0.X1 r1.Y1)).bind fun (r15 : Bool) =>
    if !(r15) then
      if ((l12).length + 1) * 32 ≤ maxCells ∧ (l12).length + 1 ≤ maxCells then
        F21_u18 n (l12 ++ [(Rect.mk r1.X1 r1.Y0 a0.X1 r1.Y1)])
      else none
    else
      F21_u18 n l12
theorem F21_u14_ok (n : Nat) (a0 : Rect) (r1 : Rect) (l12 : (List Rect)) (g13 : Nat) : SimL Try.prog D (n + 8) (n + 5) pc21_c34 [(6, .one (ownL 100006 g13 l12)), (57, .agg [li .i64 a0.X0, li .i64 a0.Y0, li .i64 a0.X1, li .i64 r1.Y0, li .i64 a0.X0, li .i64 r1.Y1, li .i64 a0.X1, li .i64 a0.Y1, li .i64 a0.X0, li .i64 r1.Y0, li .i64 r1.X0, li .i64 r1.Y1, li .i64 r1.X1, li .i64 r1.Y0, li .i64 a0.X1, li .i64 r1.Y1]), (58, .one (li .i64 3))] (ownM Rect.cod 35 100006 g13 l12 []) (F21_u14 n a0 r1 l12) (QB 1 (QT Try.prog D (n + 8) pc21_c40 (QF pc21_r 0 F21_e))) := by
    cases l12 with
    | nil =>
      unfold F21_u14
      refine SimL.succ ?_
      refine Sim.seq ?_
      refine Sim.region [(6, .one (lnil)), (57, .agg [li .i64 a0.X0, li .i64 a0.Y0, li .i64 a0.X1, li .i64 r1.Y0, li .i64 a0.X0, li .i64 r1.Y1, li .i64 a0.X1, li .i64 a0.Y1, li .i64 a0.X0, li .i64 r1.Y0, li .i64 r1.X0, li .i64 r1.Y1, li .i64 r1.X1, li .i64 r1.Y0, li .i64 a0.X1, li .i64 r1.Y1]), (58, .one (li .i64 3))] [] (by kernel_rfl) ?_
      refine SimI.run 1 [(59, .one (lb true))] [] (by kernel_rfl) ?_
      refine SimI.done (by kernel_rfl) ?_
      refine SimE.thenN ?_
      refine Sim.seq ?_
      refine Sim.condT (by kernel_rfl) ?_
      refine Sim.skip ?_
      refine SimE.thenN ?_
      refine Sim.seq ?_
      refine Sim.block ?_
      refine Sim.seq ?_
      refine Sim.region0 ?_
      refine SimI.run 3 [(8, .one (.ptr 8 0)), (60, .agg [li .i64 r1.X1, li .i64 r1.Y0, li .i64 a0.X1, li .i64 r1.Y1])] [(8, some (.cells [li .i64 r1.X1, li .i64 r1.Y0, li .i64 a0.X1, li .i64 r1.Y1])), (8, some (.cells [li .i64 0, li .i64 0, li .i64 0, li .i64 0]))] (by kernel_rfl) ?_
      refine SimI.done (by kernel_rfl) ?_
      refine SimE.thenN ?_
      refine Sim.seq ?_
      refine Sim.region0 ?_
      refine SimI.run 1 [(61, .agg [li .i64 r1.X1, li .i64 r1.Y0, li .i64 a0.X1, li .i64 r1.Y1])] [] (by kernel_rfl) ?_
      refine SimI.bind (og := F27 n (Rect.mk r1.X1 r1.Y0 a0.X1 r1.Y1)) { dst := some 62, op := POp.call true [[]] 27 [Operand.tmp 61], guard := none, hints := [] } (fun r15 => [(62, .one (lb r15))]) (fun r15 => []) (by kernel_rfl) (fun r15 hr => pOp_eff (by kernel_rfl) (by kernel_rfl) (eff_call (ARGS := [.agg [li .i64 r1.X1, li .i64 r1.Y0, li .i64 a0.X1, li .i64 r1.Y1]]) (by kernel_rfl) (args_clean (by kernel_rfl) args_nil) (F27_ok n (Rect.mk r1.X1 r1.Y0 a0.X1 r1.Y1) r15 hr) (by kernel_rfl))) (fun r15 => ?_)
      refine SimI.run 1 [(63, .one (lb (!(r15))))] [] (by kernel_rfl) ?_
      refine SimI.done (by kernel_rfl) ?_
      refine SimE.thenN ?_
      refine Sim.cond (!(r15)) (by kernel_rfl) ?_ ?_
      · refine Sim.region0 ?_
        refine SimI.run 3 [(66, .one (vw Rect.cod [(Rect.mk r1.X1 r1.Y0 a0.X1 r1.Y1)])), (65, .agg [li .i64 r1.X1, li .i64 r1.Y0, li .i64 a0.X1, li .i64 r1.Y1]), (64, .one (lnil))] [] (by kernel_rfl) ?_
        refine SimI.guard (c := (([] : List Rect).length + 1) * 32 ≤ maxCells ∧ ([] : List Rect).length + 1 ≤ maxCells) { dst := some 67, op := POp.app 100006 35 4 32 (Operand.tmp 64) (Operand.tmp 66), guard := none, hints := [] } [(67, .one (.osl 100006 0 0 ([(Rect.mk r1.X1 r1.Y0 a0.X1 r1.Y1)]).length))] [(100006, some (.arr 35 Rect.cod.sz 0 ([(Rect.mk r1.X1 r1.Y0 a0.X1 r1.Y1)]).length (getOf Rect.cod [(Rect.mk r1.X1 r1.Y0 a0.X1 r1.Y1)])))] (by kernel_rfl) (fun hc => pOp_eff (by kernel_rfl) (by kernel_rfl) (eff_appN (c := Rect.cod) (a := (Rect.mk r1.X1 r1.Y0 a0.X1 r1.Y1)) (by kernel_rfl) (by kernel_rfl) (by kernel_rfl) (by kernel_rfl) (by kernel_rfl) (by kernel_rfl))) ?_
        refine SimI.run 1 [(6, .one (.osl 100006 0 0 ([(Rect.mk r1.X1 r1.Y0 a0.X1 r1.Y1)]).length))] [] (by kernel_rfl) ?_
        refine SimI.done (by kernel_rfl) ?_
        refine SimE.blockN ?_
        refine SimE.thenN ?_
        refine Sim.region0 ?_
        refine SimI.run 2 [(58, .one (li .i64 4)), (68, .one (li .i64 4))] [] (by kernel_rfl) ?_
        refine SimI.done (by kernel_rfl) ?_
        refine SimE.loopN ?_
        refine SimL.pre (ts := [6, 57, 58]) (os := [2, 3, 5, 8, 100006]) [(6, .one (ownL 100006 0 [(Rect.mk r1.X1 r1.Y0 a0.X1 r1.Y1)])), (57, .agg [li .i64 a0.X0, li .i64 a0.Y0, li .i64 a0.X1, li .i64 r1.Y0, li .i64 a0.X0, li .i64 r1.Y1, li .i64 a0.X1, li .i64 a0.Y1, li .i64 a0.X0, li .i64 r1.Y0, li .i64 r1.X0, li .i64 r1.Y1, li .i64 r1.X1, li .i64 r1.Y0, li .i64 a0.X1, li .i64 r1.Y1]), (58, .one (li .i64 4))] (ownM Rect.cod 35 100006 0 [(Rect.mk r1.X1 r1.Y0 a0.X1 r1.Y1)] []) (by kernel_rfl) (by kernel_rfl) (by kernel_rfl) ?_
        exact F21_u18_ok n a0 r1 [(Rect.mk r1.X1 r1.Y0 a0.X1 r1.Y1)] 0
      · refine Sim.skip ?_
        refine SimE.blockN ?_
        refine SimE.thenN ?_
        refine Sim.region0 ?_
        refine SimI.run 2 [(58, .one (li .i64 4)), (68, .one (li .i64 4))] [] (by kernel_rfl) ?_
        refine SimI.done (by kernel_rfl) ?_
        refine SimE.loopN ?_
        refine SimL.pre (ts := [6, 57, 58]) (os := [2, 3, 5, 8, 100006]) [(6, .one (ownL 100006 0 ([] : List Rect))), (57, .agg [li .i64 a0.X0, li .i64 a0.Y0, li .i64 a0.X1, li .i64 r1.Y0, li .i64 a0.X0, li .i64 r1.Y1, li .i64 a0.X1, li .i64 a0.Y1, li .i64 a0.X0, li .i64 r1.Y0, li .i64 r1.X0, li .i64 r1.Y1, li .i64 r1.X1, li .i64 r1.Y0, li .i64 a0.X1, li .i64 r1.Y1]), (58, .one (li .i64 4))] (ownM Rect.cod 35 100006 0 ([] : List Rect) []) (by kernel_rfl) (by kernel_rfl) (by kernel_rfl) ?_
        exact F21_u18_ok n a0 r1 ([] : List Rect) 0
    | cons l12h l12t =>
      unfold F21_u14
      refine SimL.succ ?_
      refine Sim.seq ?_
      refine Sim.region [(6, .one (.osl 100006 g13 0 ((l12h :: l12t)).length)), (57, .agg [li .i64 a0.X0, li .i64 a0.Y0, li .i64 a0.X1, li .i64 r1.Y0, li .i64 a0.X0, li .i64 r1.Y1, li .i64 a0.X1, li .i64 a0.Y1, li .i64 a0.X0, li .i64 r1.Y0, li .i64 r1.X0, li .i64 r1.Y1, li .i64 r1.X1, li .i64 r1.Y0, li .i64 a0.X1, li .i64 r1.Y1]), (58, .one (li .i64 3))] ((100006, some (.arr 35 Rect.cod.sz g13 ((l12h :: l12t)).length (getOf Rect.cod (l12h :: l12t)))) :: []) (by kernel_rfl) ?_
      refine SimI.run 1 [(59, .one (lb true))] [] (by kernel_rfl) ?_
      refine SimI.done (by kernel_rfl) ?_
      refine SimE.thenN ?_
      refine Sim.seq ?_
      refine Sim.condT (by kernel_rfl) ?_
      refine Sim.skip ?_
      refine SimE.thenN ?_
      refine Sim.seq ?_
      refine Sim.block ?_
      refine Sim.seq ?_
      refine Sim.region0 ?_
      refine SimI.run 3 [(8, .one (.ptr 8 0)), (60, .agg [li .i64 r1.X1, li .i64 r1.Y0, li .i64 a0.X1, li .i64 r1.Y1])] [(8, some (.cells [li .i64 r1.X1, li .i64 r1.Y0, li .i64 a0.X1, li .i64 r1.Y1])), (8, some (.cells [li .i64 0, li .i64 0, li .i64 0, li .i64 0]))] (by kernel_rfl) ?_
      refine SimI.done (by kernel_rfl) ?_
      refine SimE.thenN ?_
      refine Sim.seq ?_
      refine Sim.region0 ?_
      refine SimI.run 1 [(61, .agg [li .i64 r1.X1, li .i64 r1.Y0, li .i64 a0.X1, li .i64 r1.Y1])] [] (by kernel_rfl) ?_
      refine SimI.bind (og := F27 n (Rect.mk r1.X1 r1.Y0 a0.X1 r1.Y1)) { dst := some 62, op := POp.call true [[]] 27 [Operand.tmp 61], guard := none, hints := [] } (fun r15 => [(62, .one (lb r15))]) (fun r15 => []) (by kernel_rfl) (fun r15 hr => pOp_eff (by kernel_rfl) (by kernel_rfl) (eff_call (ARGS := [.agg [li .i64 r1.X1, li .i64 r1.Y0, li .i64 a0.X1, li .i64 r1.Y1]]) (by kernel_rfl) (args_clean (by kernel_rfl) args_nil) (F27_ok n (Rect.mk r1.X1 r1.Y0 a0.X1 r1.Y1) r15 hr) (by kernel_rfl))) (fun r15 => ?_)
      refine SimI.run 1 [(63, .one (lb (!(r15))))] [] (by kernel_rfl) ?_
      refine SimI.done (by kernel_rfl) ?_
      refine SimE.thenN ?_
      refine Sim.cond (!(r15)) (by kernel_rfl) ?_ ?_
      · refine Sim.region0 ?_
        refine SimI.run 3 [(66, .one (vw Rect.cod [(Rect.mk r1.X1 r1.Y0 a0.X1 r1.Y1)])), (65, .agg [li .i64 r1.X1, li .i64 r1.Y0, li .i64 a0.X1, li .i64 r1.Y1]), (64, .one (.osl 100006 g13 0 ((l12h :: l12t)).length))] [] (by kernel_rfl) ?_
        refine SimI.guard (c := (((l12h :: l12t)).length + 1) * 32 ≤ maxCells ∧ ((l12h :: l12t)).length + 1 ≤ maxCells) { dst := some 67, op := POp.app 100006 35 4 32 (Operand.tmp 64) (Operand.tmp 66), guard := none, hints := [] } [(67, .one (.osl 100006 (g13 + 1) 0 (((l12h :: l12t) ++ [(Rect.mk r1.X1 r1.Y0 a0.X1 r1.Y1)])).length))] [(100006, some (.arr 35 Rect.cod.sz (g13 + 1) (((l12h :: l12t) ++ [(Rect.mk r1.X1 r1.Y0 a0.X1 r1.Y1)])).length (getOf Rect.cod ((l12h :: l12t) ++ [(Rect.mk r1.X1 r1.Y0 a0.X1 r1.Y1)]))))] (by kernel_rfl) (fun hc => pOp_eff (by kernel_rfl) (by kernel_rfl) (eff_appO (c := Rect.cod) (g := g13) (l := (l12h :: l12t)) (a := (Rect.mk r1.X1 r1.Y0 a0.X1 r1.Y1)) (by kernel_rfl) (by kernel_rfl) (by kernel_rfl) (by kernel_rfl) hc)) ?_
        refine SimI.run 1 [(6, .one (.osl 100006 (g13 + 1) 0 (((l12h :: l12t) ++ [(Rect.mk r1.X1 r1.Y0 a0.X1 r1.Y1)])).length))] [] (by kernel_rfl) ?_
        refine SimI.done (by kernel_rfl) ?_
        refine SimE.blockN ?_
        refine SimE.thenN ?_
        refine Sim.region0 ?_
        refine SimI.run 2 [(58, .one (li .i64 4)), (68, .one (li .i64 4))] [] (by kernel_rfl) ?_
        refine SimI.done (by kernel_rfl) ?_
        refine SimE.loopN ?_
        refine SimL.pre (ts := [6, 57, 58]) (os := [2, 3, 5, 8, 100006]) [(6, .one (ownL 100006 (g13 + 1) ((l12h :: l12t) ++ [(Rect.mk r1.X1 r1.Y0 a0.X1 r1.Y1)]))), (57, .agg [li .i64 a0.X0, li .i64 a0.Y0, li .i64 a0.X1, li .i64 r1.Y0, li .i64 a0.X0, li .i64 r1.Y1, li .i64 a0.X1, li .i64 a0.Y1, li .i64 a0.X0, li .i64 r1.Y0, li .i64 r1.X0, li .i64 r1.Y1, li .i64 r1.X1, li .i64 r1.Y0, li .i64 a0.X1, li .i64 r1.Y1]), (58, .one (li .i64 4))] (ownM Rect.cod 35 100006 (g13 + 1) ((l12h :: l12t) ++ [(Rect.mk r1.X1 r1.Y0 a0.X1 r1.Y1)]) []) (by kernel_rfl) (by kernel_rfl) (by kernel_rfl) ?_
        exact F21_u18_ok n a0 r1 ((l12h :: l12t) ++ [(Rect.mk r1.X1 r1.Y0 a0.X1 r1.Y1)]) (g13 + 1)
      · refine Sim.skip ?_
        refine SimE.blockN ?_
        refine SimE.thenN ?_
        refine Sim.region0 ?_
        refine SimI.run 2 [(58, .one (li .i64 4)), (68, .one (li .i64 4))] [] (by kernel_rfl) ?_
        refine SimI.done (by kernel_rfl) ?_
        refine SimE.loopN ?_
        refine SimL.pre (ts := [6, 57, 58]) (os := [2, 3, 5, 8, 100006]) [(6, .one (ownL 100006 g13 (l12h :: l12t))), (57, .agg [li .i64 a0.X0, li .i64 a0.Y0, li .i64 a0.X1, li .i64 r1.Y0, li .i64 a0.X0, li .i64 r1.Y1, li .i64 a0.X1, li .i64 a0.Y1, li .i64 a0.X0, li .i64 r1.Y0, li .i64 r1.X0, li .i64 r1.Y1, li .i64 r1.X1, li .i64 r1.Y0, li .i64 a0.X1, li .i64 r1.Y1]), (58, .one (li .i64 4))] (ownM Rect.cod 35 100006 g13 (l12h :: l12t) []) (by kernel_rfl) (by kernel_rfl) (by kernel_rfl) ?_
        exact F21_u18_ok n a0 r1 (l12h :: l12t) g13

def F21_u10 (n : Nat) (a0 : Rect) (r1 : Rect) (l8 : (List Rect)) : Option (List Rect) :=
    (F27 n (Rect.mk a0.X0 r1.Y0 r1.X0 r1.Y1)).bind fun (r11 : Bool) =>
    if !(r11) then
      if ((l8).length + 1) * 32 ≤ maxCells ∧ (l8).length + 1 ≤ maxCells then
        F21_u14 n a0 r1 (l8 ++ [(Rect.mk a0.X0 r1.Y0 r1.X0 r1.Y1)])
      else none
    else
      F21_u14 n a0 r1 l8
theorem F21_u10_ok (n : Nat) (a0 : Rect) (r1 : Rect) (l8 : (List Rect)) (g9 : Nat) : SimL Try.prog D (n + 8) (n + 6) pc21_c34 [(6, .one (ownL 100006 g9 l8)), (57, .agg [li .i64 a0.X0, li .i64 a0.Y0, li .i64 a0.X1, li .i64 r1.Y0, li .i64 a0.X0, li .i64 r1.Y1, li .i64 a0.X1, li .i64 a0.Y1, li .i64 a0.X0, li .i64 r1.Y0, li .i64 r1.X0, li .i64 r1.Y1, li .i64 r1.X1, li .i64 r1.Y0, li .i64 a0.X1, li .i64 r1.Y1]), (58, .one (li .i64 2))] (ownM Rect.cod 35 100006 g9 l8 []) (F21_u10 n a0 r1 l8) (QB 1 (QT Try.prog D (n + 8) pc21_c40 (QF pc21_r 0 F21_e))) := by
    cases l8 with
    | nil =>
      unfold F21_u10
      refine SimL.succ ?_
      refine Sim.seq ?_
      refine Sim.region [(6, .one (lnil)), (57, .agg [li .i64 a0.X0, li .i64 a0.Y0, li .i64 a0.X1, li .i64 r1.Y0, li .i64 a0.X0, li .i64 r1.Y1, li .i64 a0.X1, li .i64 a0.Y1, li .i64 a0.X0, li .i64 r1.Y0, li .i64 r1.X0, li .i64 r1.Y1, li .i64 r1.X1, li .i64 r1.Y0, li .i64 a0.X1, li .i64 r1.Y1]), (58, .one (li .i64 2))] [] (by kernel_rfl) ?_
      refine SimI.run 1 [(59, .one (lb true))] [] (by kernel_rfl) ?_
      refine SimI.done (by kernel_rfl) ?_
      refine SimE.thenN ?_
      refine Sim.seq ?_
      refine Sim.condT (by kernel_rfl) ?_
      refine Sim.skip ?_
      refine SimE.thenN ?_
      refine Sim.seq ?_
      refine Sim.block ?_
      refine Sim.seq ?_
      refine Sim.region0 ?_
      refine SimI.run 3 [(8, .one (.ptr 8 0)), (60, .agg [li .i64 a0.X0, li .i64 r1.Y0, li .i64 r1.X0, li .i64 r1.Y1])] [(8, some (.cells [li .i64 a0.X0, li .i64 r1.Y0, li .i64 r1.X0, li .i64 r1.Y1])), (8, some (.cells [li .i64 0, li .i64 0, li .i64 0, li .i64 0]))] (by kernel_rfl) ?_
      refine SimI.done (by kernel_rfl) ?_
      refine SimE.thenN ?_
      refine Sim.seq ?_
      refine Sim.region0 ?_
      refine SimI.run 1 [(61, .agg [li .i64 a0.X0, li .i64 r1.Y0, li .i64 r1.X0, li .i64 r1.Y1])] [] (by kernel_rfl) ?_
      refine SimI.bind (og := F27 n (Rect.mk a0.X0 r1.Y0 r1.X0 r1.Y1)) { dst := some 62, op := POp.call true [[]] 27 [Operand.tmp 61], guard := none, hints := [] } (fun r11 => [(62, .one (lb r11))]) (fun r11 => []) (by kernel_rfl) (fun r11 hr => pOp_eff (by kernel_rfl) (by kernel_rfl) (eff_call (ARGS := [.agg [li .i64 a0.X0, li .i64 r1.Y0, li .i64 r1.X0, li .i64 r1.Y1]]) (by kernel_rfl) (args_clean (by kernel_rfl) args_nil) (F27_ok n (Rect.mk a0.X0 r1.Y0 r1.X0 r1.Y1) r11 hr) (by kernel_rfl))) (fun r11 => ?_)
      refine SimI.run 1 [(63, .one (lb (!(r11))))] [] (by kernel_rfl) ?_
      refine SimI.done (by kernel_rfl) ?_
      refine SimE.thenN ?_
      refine Sim.cond (!(r11)) (by kernel_rfl) ?_ ?_
      · refine Sim.region0 ?_
        refine SimI.run 3 [(66, .one (vw Rect.cod [(Rect.mk a0.X0 r1.Y0 r1.X0 r1.Y1)])), (65, .agg [li .i64 a0.X0, li .i64 r1.Y0, li .i64 r1.X0, li .i64 r1.Y1]), (64, .one (lnil))] [] (by kernel_rfl) ?_
        refine SimI.guard (c := (([] : List Rect).length + 1) * 32 ≤ maxCells ∧ ([] : List Rect).length + 1 ≤ maxCells) { dst := some 67, op := POp.app 100006 35 4 32 (Operand.tmp 64) (Operand.tmp 66), guard := none, hints := [] } [(67, .one (.osl 100006 0 0 ([(Rect.mk a0.X0 r1.Y0 r1.X0 r1.Y1)]).length))] [(100006, some (.arr 35 Rect.cod.sz 0 ([(Rect.mk a0.X0 r1.Y0 r1.X0 r1.Y1)]).length (getOf Rect.cod [(Rect.mk a0.X0 r1.Y0 r1.X0 r1.Y1)])))] (by kernel_rfl) (fun hc => pOp_eff (by kernel_rfl) (by kernel_rfl) (eff_appN (c := Rect.cod) (a := (Rect.mk a0.X0 r1.Y0 r1.X0 r1.Y1)) (by kernel_rfl) (by kernel_rfl) (by kernel_rfl) (by kernel_rfl) (by kernel_rfl) (by kernel_rfl))) ?_
        refine SimI.run 1 [(6, .one (.osl 100006 0 0 ([(Rect.mk a0.X0 r1.Y0 r1.X0 r1.Y1)]).length))] [] (by kernel_rfl) ?_
        refine SimI.done (by kernel_rfl) ?_
        refine SimE.blockN ?_
        refine SimE.thenN ?_
        refine Sim.region0 ?_
        refine SimI.run 2 [(58, .one (li .i64 3)), (68, .one (li .i64 3))] [] (by kernel_rfl) ?_
        refine SimI.done (by kernel_rfl) ?_
        refine SimE.loopN ?_
        refine SimL.pre (ts := [6, 57, 58]) (os := [2, 3, 5, 8, 100006]) [(6, .one (ownL 100006 0 [(Rect.mk a0.X0 r1.Y0 r1.X0 r1.Y1)])), (57, .agg [li .i64 a0.X0, li .i64 a0.Y0, li .i64 a0.X1, li .i64 r1.Y0, li .i64 a0.X0, li .i64 r1.Y1, li .i64 a0.X1, li .i64 a0.Y1, li .i64 a0.X0, li .i64 r1.Y0, li .i64 r1.X0, li .i64 r1.Y1, li .i64 r1.X1, li .i64 r1.Y0, li .i64 a0.X1, li .i64 r1.Y1]), (58, .one (li .i64 3))] (ownM Rect.cod 35 100006 0 [(Rect.mk a0.X0 r1.Y0 r1.X0 r1.Y1)] []) (by kernel_rfl) (by kernel_rfl) (by kernel_rfl) ?_
        exact F21_u14_ok n a0 r1 [(Rect.mk a0.X0 r1.Y0 r1.X0 r1.Y1)] 0
      · refine Sim.skip ?_
        refine SimE.blockN ?_
        refine SimE.thenN ?_
        refine Sim.region0 ?_
        refine SimI.run 2 [(58, .one (li .i64 3)), (68, .one (li .i64 3))] [] (by kernel_rfl) ?_
        refine SimI.done (by kernel_rfl) ?_
        refine SimE.loopN ?_
        refine SimL.pre (ts := [6, 57, 58]) (os := [2, 3, 5, 8, 100006]) [(6, .one (ownL 100006 0 ([] : List Rect))), (57, .agg [li .i64 a0.X0, li .i64 a0.Y0, li .i64 a0.X1, li .i64 r1.Y0, li .i64 a0.X0, li .i64 r1.Y1, li .i64 a0.X1, li .i64 a0.Y1, li .i64 a0.X0, li .i64 r1.Y0, li .i64 r1.X0, li .i64 r1.Y1, li .i64 r1.X1, li .i64 r1.Y0, li .i64 a0.X1, li .i64 r1.Y1]), (58, .one (li .i64 3))] (ownM Rect.cod 35 100006 0 ([] : List Rect) []) (by kernel_rfl) (by kernel_rfl) (by kernel_rfl) ?_
        exact F21_u14_ok n a0 r1 ([] : List Rect) 0
    | cons l8h l8t =>
      unfold F21_u10
      refine SimL.succ ?_
      refine Sim.seq ?_
      refine Sim.region [(6, .one (.osl 100006 g9 0 ((l8h :: l8t)).length)), (57, .agg [li .i64 a0.X0, li .i64 a0.Y0, li .i64 a0.X1, li .i64 r1.Y0, li .i64 a0.X0, li .i64 r1.Y1, li .i64 a0.X1, li .i64 a0.Y1, li .i64 a0.X0, li .i64 r1.Y0, li .i64 r1.X0, li .i64 r1.Y1, li .i64 r1.X1, li .i64 r1.Y0, li .i64 a0.X1, li .i64 r1.Y1]), (58, .one (li .i64 2))] ((100006, some (.arr 35 Rect.cod.sz g9 ((l8h :: l8t)).length (getOf Rect.cod (l8h :: l8t)))) :: []) (by kernel_rfl) ?_
      refine SimI.run 1 [(59, .one (lb true))] [] (by kernel_rfl) ?_
      refine SimI.done (by kernel_rfl) ?_
      refine SimE.thenN ?_
      refine Sim.seq ?_
      refine Sim.condT (by kernel_rfl) ?_
      refine Sim.skip ?_
      refine SimE.thenN ?_
      refine Sim.seq ?_
      refine Sim.block ?_
      refine Sim.seq ?_
      refine Sim.region0 ?_
      refine SimI.run 3 [(8, .one (.ptr 8 0)), (60, .agg [li .i64 a0.X0, li .i64 r1.Y0, li .i64 r1.X0, li .i64 r1.Y1])] [(8, some (.cells [li .i64 a0.X0, li .i64 r1.Y0, li .i64 r1.X0, li .i64 r1.Y1])), (8, some (.cells [li .i64 0, li .i64 0, li .i64 0, li .i64 0]))] (by kernel_rfl) ?_
      refine SimI.done (by kernel_rfl) ?_
      refine SimE.thenN ?_
      refine Sim.seq ?_
      refine Sim.region0 ?_
      refine SimI.run 1 [(61, .agg [li .i64 a0.X0, li .i64 r1.Y0, li .i64 r1.X0, li .i64 r1.Y1])] [] (by kernel_rfl) ?_
      refine SimI.bind (og := F27 n (Rect.mk a0.X0 r1.Y0 r1.X0 r1.Y1)) { dst := some 62, op := POp.call true [[]] 27 [Operand.tmp 61], guard := none, hints := [] } (fun r11 => [(62, .one (lb r11))]) (fun r11 => []) (by kernel_rfl) (fun r11 hr => pOp_eff (by kernel_rfl) (by kernel_rfl) (eff_call (ARGS := [.agg [li .i64 a0.X0, li .i64 r1.Y0, li .i64 r1.X0, li .i64 r1.Y1]]) (by kernel_rfl) (args_clean (by kernel_rfl) args_nil) (F27_ok n (Rect.mk a0.X0 r1.Y0 r1.X0 r1.Y1) r11 hr) (by kernel_rfl))) (fun r11 => ?_)
      refine SimI.run 1 [(63, .one (lb (!(r11))))] [] (by kernel_rfl) ?_
      refine SimI.done (by kernel_rfl) ?_
      refine SimE.thenN ?_
      refine Sim.cond (!(r11)) (by kernel_rfl) ?_ ?_
      · refine Sim.region0 ?_
        refine SimI.run 3 [(66, .one (vw Rect.cod [(Rect.mk a0.X0 r1.Y0 r1.X0 r1.Y1)])), (65, .agg [li .i64 a0.X0, li .i64 r1.Y0, li .i64 r1.X0, li .i64 r1.Y1]), (64, .one (.osl 100006 g9 0 ((l8h :: l8t)).length))] [] (by kernel_rfl) ?_
        refine SimI.guard (c := (((l8h :: l8t)).length + 1) * 32 ≤ maxCells ∧ ((l8h :: l8t)).length + 1 ≤ maxCells) { dst := some 67, op := POp.app 100006 35 4 32 (Operand.tmp 64) (Operand.tmp 66), guard := none, hints := [] } [(67, .one (.osl 100006 (g9 + 1) 0 (((l8h :: l8t) ++ [(Rect.mk a0.X0 r1.Y0 r1.X0 r1.Y1)])).length))] [(100006, some (.arr 35 Rect.cod.sz (g9 + 1) (((l8h :: l8t) ++ [(Rect.mk a0.X0 r1.Y0 r1.X0 r1.Y1)])).length (getOf Rect.cod ((l8h :: l8t) ++ [(Rect.mk a0.X0 r1.Y0 r1.X0 r1.Y1)]))))] (by kernel_rfl) (fun hc => pOp_eff (by kernel_rfl) (by kernel_rfl) (eff_appO (c := Rect.cod) (g := g9) (l := (l8h :: l8t)) (a := (Rect.mk a0.X0 r1.Y0 r1.X0 r1.Y1)) (by kernel_rfl) (by kernel_rfl) (by kernel_rfl) (by kernel_rfl) hc)) ?_
        refine SimI.run 1 [(6, .one (.osl 100006 (g9 + 1) 0 (((l8h :: l8t) ++ [(Rect.mk a0.X0 r1.Y0 r1.X0 r1.Y1)])).length))] [] (by kernel_rfl) ?_
        refine SimI.done (by kernel_rfl) ?_
        refine SimE.blockN ?_
        refine SimE.thenN ?_
        refine Sim.region0 ?_
        refine SimI.run 2 [(58, .one (li .i64 3)), (68, .one (li .i64 3))] [] (by kernel_rfl) ?_
        refine SimI.done (by kernel_rfl) ?_
        refine SimE.loopN ?_
        refine SimL.pre (ts := [6, 57, 58]) (os := [2, 3, 5, 8, 100006]) [(6, .one (ownL 100006 (g9 + 1) ((l8h :: l8t) ++ [(Rect.mk a0.X0 r1.Y0 r1.X0 r1.Y1)]))), (57, .agg [li .i64 a0.X0, li .i64 a0.Y0, li .i64 a0.X1, li .i64 r1.Y0, li .i64 a0.X0, li .i64 r1.Y1, li .i64 a0.X1, li .i64 a0.Y1, li .i64 a0.X0, li .i64 r1.Y0, li .i64 r1.X0, li .i64 r1.Y1, li .i64 r1.X1, li .i64 r1.Y0, li .i64 a0.X1, li .i64 r1.Y1]), (58, .one (li .i64 3))] (ownM Rect.cod 35 100006 (g9 + 1) ((l8h :: l8t) ++ [(Rect.mk a0.X0 r1.Y0 r1.X0 r1.Y1)]) []) (by kernel_rfl) (by kernel_rfl) (by kernel_rfl) ?_
        exact F21_u14_ok n a0 r1 ((l8h :: l8t) ++ [(Rect.mk a0.X0 r1.Y0 r1.X0 r1.Y1)]) (g9 + 1)
      · refine Sim.skip ?_
        refine SimE.blockN ?_
        refine SimE.thenN ?_
        refine Sim.region0 ?_
        refine SimI.run 2 [(58, .one (li .i64 3)), (68, .one (li .i64 3))] [] (by kernel_rfl) ?_
        refine SimI.done (by kernel_rfl) ?_
        refine SimE.loopN ?_
        refine SimL.pre (ts := [6, 57, 58]) (os := [2, 3, 5, 8, 100006]) [(6, .one (ownL 100006 g9 (l8h :: l8t))), (57, .agg [li .i64 a0.X0, li .i64 a0.Y0, li .i64 a0.X1, li .i64 r1.Y0, li .i64 a0.X0, li .i64 r1.Y1, li .i64 a0.X1, li .i64 a0.Y1, li .i64 a0.X0, li .i64 r1.Y0, li .i64 r1.X0, li .i64 r1.Y1, li .i64 r1.X1, li .i64 r1.Y0, li .i64 a0.X1, li .i64 r1.Y1]), (58, .one (li .i64 3))] (ownM Rect.cod 35 100006 g9 (l8h :: l8t) []) (by kernel_rfl) (by kernel_rfl) (by kernel_rfl) ?_
        exact F21_u14_ok n a0 r1 (l8h :: l8t) g9

def F21_u6 (n : Nat) (a0 : Rect) (r1 : Rect) (l4 : (List Rect)) : Option (List Rect) :=
    (F27 n (Rect.mk a0.X0 r1.Y1 a0.X1 a0.Y1)).bind fun (r7 : Bool) =>
    if !(r7) then
      if ((l4).length + 1) * 32 ≤ maxCells ∧ (l4).length + 1 ≤ maxCells then
        F21_u10 n a0 r1 (l4 ++ [(Rect.mk a0.X0 r1.Y1 a0.X1 a0.Y1)])
      else none
    else
      F21_u10 n a0 r1 l4
theorem F21_u6_ok (n : Nat) (a0 : Rect) (r1 : Rect) (l4 : (List Rect)) (g5 : Nat) : SimL Try.prog D (n + 8) (n + 7) pc21_c34 [(6, .one (ownL 100006 g5 l4)), (57, .agg [li .i64 a0.X0, li .i64 a0.Y0, li .i64 a0.X1, li .i64 r1.Y0, li .i64 a0.X0, li .i64 r1.Y1, li .i64 a0.X1, li .i64 a0.Y1, li .i64 a0.X0, li .i64 r1.Y0, li .i64 r1.X0, li .i64 r1.Y1, li .i64 r1.X1, li .i64 r1.Y0, li .i64 a0.X1, li .i64 r1.Y1]), (58, .one (li .i64 1))] (ownM Rect.cod 35 100006 g5 l4 []) (F21_u6 n a0 r1 l4) (QB 1 (QT Try.prog D (n + 8) pc21_c40 (QF pc21_r 0 F21_e))) := by
    cases l4 with
    | nil =>
      unfold F21_u6
      refine SimL.succ ?_
      refine Sim.seq ?_
      refine Sim.region [(6, .one (lnil)), (57, .agg [li .i64 a0.X0, li .i64 a0.Y0, li .i64 a0.X1, li .i64 r1.Y0, li .i64 a0.X0, li .i64 r1.Y1, li .i64 a0.X1, li .i64 a0.Y1, li .i64 a0.X0, li .i64 r1.Y0, li .i64 r1.X0, li .i64 r1.Y1, li .i64 r1.X1, li .i64 r1.Y0, li .i64 a0.X1, li .i64 r1.Y1]), (58, .one (li .i64 1))] [] (by kernel_rfl) ?_
      refine SimI.run 1 [(59, .one (lb true))] [] (by kernel_rfl) ?_
      refine SimI.done (by kernel_rfl) ?_
      refine SimE.thenN ?_
      refine Sim.seq ?_
      refine Sim.condT (by kernel_rfl) ?_
      refine Sim.skip ?_
      refine SimE.thenN ?_
      refine Sim.seq ?_
      refine Sim.block ?_
      refine Sim.seq ?_
      refine Sim.region0 ?_
      refine SimI.run 3 [(8, .one (.ptr 8 0)), (60, .agg [li .i64 a0.X0, li .i64 r1.Y1, li .i64 a0.X1, li .i64 a0.Y1])] [(8, some (.cells [li .i64 a0.X0, li .i64 r1.Y1, li .i64 a0.X1, li .i64 a0.Y1])), (8, some (.cells [li .i64 0, li .i64 0, li .i64 0, li .i64 0]))] (by kernel_rfl) ?_
      refine SimI.done (by kernel_rfl) ?_
      refine SimE.thenN ?_
      refine Sim.seq ?_
      refine Sim.region0 ?_
      refine SimI.run 1 [(61, .agg [li .i64 a0.X0, li .i64 r1.Y1, li .i64 a0.X1, li .i64 a0.Y1])] [] (by kernel_rfl) ?_
      refine SimI.bind (og := F27 n (Rect.mk a0.X0 r1.Y1 a0.X1 a0.Y1)) { dst := some 62, op := POp.call true [[]] 27 [Operand.tmp 61], guard := none, hints := [] } (fun r7 => [(62, .one (lb r7))]) (fun r7 => []) (by kernel_rfl) (fun r7 hr => pOp_eff (by kernel_rfl) (by kernel_rfl) (eff_call (ARGS := [.agg [li .i64 a0.X0, li .i64 r1.Y1, li .i64 a0.X1, li .i64 a0.Y1]]) (by kernel_rfl) (args_clean (by kernel_rfl) args_nil) (F27_ok n (Rect.mk a0.X0 r1.Y1 a0.X1 a0.Y1) r7 hr) (by kernel_rfl))) (fun r7 => ?_)
      refine SimI.run 1 [(63, .one (lb (!(r7))))] [] (by kernel_rfl) ?_
      refine SimI.done (by kernel_rfl) ?_
      refine SimE.thenN ?_
      refine Sim.cond (!(r7)) (by kernel_rfl) ?_ ?_
      · refine Sim.region0 ?_
        refine SimI.run 3 [(66, .one (vw Rect.cod [(Rect.mk a0.X0 r1.Y1 a0.X1 a0.Y1)])), (65, .agg [li .i64 a0.X0, li .i64 r1.Y1, li .i64 a0.X1, li .i64 a0.Y1]), (64, .one (lnil))] [] (by kernel_rfl) ?_
        refine SimI.guard (c := (([] : List Rect).length + 1) * 32 ≤ maxCells ∧ ([] : List Rect).length + 1 ≤ maxCells) { dst := some 67, op := POp.app 100006 35 4 32 (Operand.tmp 64) (Operand.tmp 66), guard := none, hints := [] } [(67, .one (.osl 100006 0 0 ([(Rect.mk a0.X0 r1.Y1 a0.X1 a0.Y1)]).length))] [(100006, some (.arr 35 Rect.cod.sz 0 ([(Rect.mk a0.X0 r1.Y1 a0.X1 a0.Y1)]).length (getOf Rect.cod [(Rect.mk a0.X0 r1.Y1 a0.X1 a0.Y1)])))] (by kernel_rfl) (fun hc => pOp_eff (by kernel_rfl) (by kernel_rfl) (eff_appN (c := Rect.cod) (a := (Rect.mk a0.X0 r1.Y1 a0.X1 a0.Y1)) (by kernel_rfl) (by kernel_rfl) (by kernel_rfl) (by kernel_rfl) (by kernel_rfl) (by kernel_rfl))) ?_
        refine SimI.run 1 [(6, .one (.osl 100006 0 0 ([(Rect.mk a0.X0 r1.Y1 a0.X1 a0.Y1)]).length))] [] (by kernel_rfl) ?_
        refine SimI.done (by kernel_rfl) ?_
        refine SimE.blockN ?_
        refine SimE.thenN ?_
        refine Sim.region0 ?_
        refine SimI.run 2 [(58, .one (li .i64 2)), (68, .one (li .i64 2))] [] (by kernel_rfl) ?_
        refine SimI.done (by kernel_rfl) ?_
        refine SimE.loopN ?_
        refine SimL.pre (ts := [6, 57, 58]) (os := [2, 3, 5, 8, 100006]) [(6, .one (ownL 100006 0 [(Rect.mk a0.X0 r1.Y1 a0.X1 a0.Y1)])), (57, .agg [li .i64 a0.X0, li .i64 a0.Y0, li .i64 a0.X1, li .i64 r1.Y0, li .i64 a0.X0, li .i64 r1.Y1, li .i64 a0.X1, li .i64 a0.Y1, li .i64 a0.X0, li .i64 r1.Y0, li .i64 r1.X0, li .i64 r1.Y1, li .i64 r1.X1, li .i64 r1.Y0, li .i64 a0.X1, li .i64 r1.Y1]), (58, .one (li .i64 2))] (ownM Rect.cod 35 100006 0 [(Rect.mk a0.X0 r1.Y1 a0.X1 a0.Y1)] []) (by kernel_rfl) (by kernel_rfl) (by kernel_rfl) ?_
        exact F21_u10_ok n a0 r1 [(Rect.mk a0.X0 r1.Y1 a0.X1 a0.Y1)] 0
      · refine Sim.skip ?_
        refine SimE.blockN ?_
        refine SimE.thenN ?_
        refine Sim.region0 ?_
        refine SimI.run 2 [(58, .one (li .i64 2)), (68, .one (li .i64 2))] [] (by kernel_rfl) ?_
        refine SimI.done (by kernel_rfl) ?_
        refine SimE.loopN ?_
        refine SimL.pre (ts := [6, 57, 58]) (os := [2, 3, 5, 8, 100006]) [(6, .one (ownL 100006 0 ([] : List Rect))), (57, .agg [li .i64 a0.X0, li .i64 a0.Y0, li .i64 a0.X1, li .i64 r1.Y0, li .i64 a0.X0, li .i64 r1.Y1, li .i64 a0.X1, li .i64 a0.Y1, li .i64 a0.X0, li .i64 r1.Y0, li .i64 r1.X0, li .i64 r1.Y1, li .i64 r1.X1, li .i64 r1.Y0, li .i64 a0.X1, li .i64 r1.Y1]), (58, .one (li .i64 2))] (ownM Rect.cod 35 100006 0 ([] : List Rect) []) (by kernel_rfl) (by kernel_rfl) (by kernel_rfl) ?_
        exact F21_u10_ok n a0 r1 ([] : List Rect) 0
    | cons l4h l4t =>
      unfold F21_u6
      refine SimL.succ ?_
      refine Sim.seq ?_
      refine Sim.region [(6, .one (.osl 100006 g5 0 ((l4h :: l4t)).length)), (57, .agg [li .i64 a0.X0, li .i64 a0.Y0, li .i64 a0.X1, li .i64 r1.Y0, li .i64 a0.X0, li .i64 r1.Y1, li .i64 a0.X1, li .i64 a0.Y1, li .i64 a0.X0, li .i64 r1.Y0, li .i64 r1.X0, li .i64 r1.Y1, li .i64 r1.X1, li .i64 r1.Y0, li .i64 a0.X1, li .i64 r1.Y1]), (58, .one (li .i64 1))] ((100006, some (.arr 35 Rect.cod.sz g5 ((l4h :: l4t)).length (getOf Rect.cod (l4h :: l4t)))) :: []) (by kernel_rfl) ?_
      refine SimI.run 1 [(59, .one (lb true))] [] (by kernel_rfl) ?_
      refine SimI.done (by kernel_rfl) ?_
      refine SimE.thenN ?_
      refine Sim.seq ?_
      refine Sim.condT (by kernel_rfl) ?_
      refine Sim.skip ?_
      refine SimE.thenN ?_
      refine Sim.seq ?_
      refine Sim.block ?_
      refine Sim.seq ?_
      refine Sim.region0 ?_
      refine SimI.run 3 [(8, .one (.ptr 8 0)), (60, .agg [li .i64 a0.X0, li .i64 r1.Y1, li .i64 a0.X1, li .i64 a0.Y1])] [(8, some (.cells [li .i64 a0.X0, li .i64 r1.Y1, li .i64 a0.X1, li .i64 a0.Y1])), (8, some (.cells [li .i64 0, li .i64 0, li .i64 0, li .i64 0]))] (by kernel_rfl) ?_
      refine SimI.done (by kernel_rfl) ?_
      refine SimE.thenN ?_
      refine Sim.seq ?_
      refine Sim.region0 ?_
      refine SimI.run 1 [(61, .agg [li .i64 a0.X0, li .i64 r1.Y1, li .i64 a0.X1, li .i64 a0.Y1])] [] (by kernel_rfl) ?_
      refine SimI.bind (og := F27 n (Rect.mk a0.X0 r1.Y1 a0.X1 a0.Y1)) { dst := some 62, op := POp.call true [[]] 27 [Operand.tmp 61], guard := none, hints := [] } (fun r7 => [(62, .one (lb r7))]) (fun r7 => []) (by kernel_rfl) (fun r7 hr => pOp_eff (by kernel_rfl) (by kernel_rfl) (eff_call (ARGS := [.agg [li .i64 a0.X0, li .i64 r1.Y1, li .i64 a0.X1, li .i64 a0.Y1]]) (by kernel_rfl) (args_clean (by kernel_rfl) args_nil) (F27_ok n (Rect.mk a0.X0 r1.Y1 a0.X1 a0.Y1) r7 hr) (by kernel_rfl))) (fun r7 => ?_)
      refine SimI.run 1 [(63, .one (lb (!(r7))))] [] (by kernel_rfl) ?_
      refine SimI.done (by kernel_rfl) ?_
      refine SimE.thenN ?_
      refine Sim.cond (!(r7)) (by kernel_rfl) ?_ ?_
      · refine Sim.region0 ?_
        refine SimI.run 3 [(66, .one (vw Rect.cod [(Rect.mk a0.X0 r1.Y1 a0.X1 a0.Y1)])), (65, .agg [li .i64 a0.X0, li .i64 r1.Y1, li .i64 a0.X1, li .i64 a0.Y1]), (64, .one (.osl 100006 g5 0 ((l4h :: l4t)).length))] [] (by kernel_rfl) ?_
        refine SimI.guard (c := (((l4h :: l4t)).length + 1) * 32 ≤ maxCells ∧ ((l4h :: l4t)).length + 1 ≤ maxCells) { dst := some 67, op := POp.app 100006 35 4 32 (Operand.tmp 64) (Operand.tmp 66), guard := none, hints := [] } [(67, .one (.osl 100006 (g5 + 1) 0 (((l4h :: l4t) ++ [(Rect.mk a0.X0 r1.Y1 a0.X1 a0.Y1)])).length))] [(100006, some (.arr 35 Rect.cod.sz (g5 + 1) (((l4h :: l4t) ++ [(Rect.mk a0.X0 r1.Y1 a0.X1 a0.Y1)])).length (getOf Rect.cod ((l4h :: l4t) ++ [(Rect.mk a0.X0 r1.Y1 a0.X1 a0.Y1)]))))] (by kernel_rfl) (fun hc => pOp_eff (by kernel_rfl) (by kernel_rfl) (eff_appO (c := Rect.cod) (g := g5) (l := (l4h :: l4t)) (a := (Rect.mk a0.X0 r1.Y1 a0.X1 a0.Y1)) (by kernel_rfl) (by kernel_rfl) (by kernel_rfl) (by kernel_rfl) hc)) ?_
        refine SimI.run 1 [(6, .one (.osl 100006 (g5 + 1) 0 (((l4h :: l4t) ++ [(Rect.mk a0.X0 r1.Y1 a0.X1 a0.Y1)])).length))] [] (by kernel_rfl) ?_
        refine SimI.done (by kernel_rfl) ?_
        refine SimE.blockN ?_
        refine SimE.thenN ?_
        refine Sim.region0 ?_
        refine SimI.run 2 [(58, .one (li .i64 2)), (68, .one (li .i64 2))] [] (by kernel_rfl) ?_
        refine SimI.done (by kernel_rfl) ?_
        refine SimE.loopN ?_
        refine SimL.pre (ts := [6, 57, 58]) (os := [2, 3, 5, 8, 100006]) [(6, .one (ownL 100006 (g5 + 1) ((l4h :: l4t) ++ [(Rect.mk a0.X0 r1.Y1 a0.X1 a0.Y1)]))), (57, .agg [li .i64 a0.X0, li .i64 a0.Y0, li .i64 a0.X1, li .i64 r1.Y0, li .i64 a0.X0, li .i64 r1.Y1, li .i64 a0.X1, li .i64 a0.Y1, li .i64 a0.X0, li .i64 r1.Y0, li .i64 r1.X0, li .i64 r1.Y1, li .i64 r1.X1, li .i64 r1.Y0, li .i64 a0.X1, li .i64 r1.Y1]), (58, .one (li .i64 2))] (ownM Rect.cod 35 100006 (g5 + 1) ((l4h :: l4t) ++ [(Rect.mk a0.X0 r1.Y1 a0.X1 a0.Y1)]) []) (by kernel_rfl) (by kernel_rfl) (by kernel_rfl) ?_
        exact F21_u10_ok n a0 r1 ((l4h :: l4t) ++ [(Rect.mk a0.X0 r1.Y1 a0.X1 a0.Y1)]) (g5 + 1)
      · refine Sim.skip ?_
        refine SimE.blockN ?_
        refine SimE.thenN ?_
        refine Sim.region0 ?_
        refine SimI.run 2 [(58, .one (li .i64 2)), (68, .one (li .i64 2))] [] (by kernel_rfl) ?_
        refine SimI.done (by kernel_rfl) ?_
        refine SimE.loopN ?_
        refine SimL.pre (ts := [6, 57, 58]) (os := [2, 3, 5, 8, 100006]) [(6, .one (ownL 100006 g5 (l4h :: l4t))), (57, .agg [li .i64 a0.X0, li .i64 a0.Y0, li .i64 a0.X1, li .i64 r1.Y0, li .i64 a0.X0, li .i64 r1.Y1, li .i64 a0.X1, li .i64 a0.Y1, li .i64 a0.X0, li .i64 r1.Y0, li .i64 r1.X0, li .i64 r1.Y1, li .i64 r1.X1, li .i64 r1.Y0, li .i64 a0.X1, li .i64 r1.Y1]), (58, .one (li .i64 2))] (ownM Rect.cod 35 100006 g5 (l4h :: l4t) []) (by kernel_rfl) (by kernel_rfl) (by kernel_rfl) ?_
        exact F21_u10_ok n a0 r1 (l4h :: l4t) g5

def F21 (n : Nat) (a0 : Rect) (a1 : Rect) : Option (List Rect) :=
  (F31 n a0 a1).bind fun (r1 : Rect) =>
  (F27 n a0).bind fun (r2 : Bool) =>
  if r2 then
    some ([] : List Rect)
  else
    if Rect.eqb r1 (Rect.mk 0 0 0 0) then
      some [a0]
    else
      (F27 n (Rect.mk a0.X0 a0.Y0 a0.X1 r1.Y0)).bind fun (r3 : Bool) =>
      if !(r3) then
        if (([] : List Rect).length + 1) * 32 ≤ maxCells ∧ ([] : List Rect).length + 1 ≤ maxCells then
          F21_u6 n a0 r1 [(Rect.mk a0.X0 a0.Y0 a0.X1 r1.Y0)]
        else none
      else
        F21_u6 n a0 r1 ([] : List Rect)
theorem F21_ok (n : Nat) (a0 : Rect) (a1 : Rect) : ∀ r, F21 n a0 a1 = some r → D 21 [.agg [li .i64 a0.X0, li .i64 a0.Y0, li .i64 a0.X1, li .i64 a0.Y1], .agg [li .i64 a1.X0, li .i64 a1.Y0, li .i64 a1.X1, li .i64 a1.Y1]] [] = some (F21_e r) := by
  refine fn_to (D := D) (n := n + 8) (nt := 70) (rs := pc21_r) (c := pc21_c45) (L := [(0, .agg [li .i64 a0.X0, li .i64 a0.Y0, li .i64 a0.X1, li .i64 a0.Y1]), (1, .agg [li .i64 a1.X0, li .i64 a1.Y0, li .i64 a1.X1, li .i64 a1.Y1])]) (M := []) (k := 0) rfl rfl rfl rfl rfl rfl ?_
  unfold F21
  refine Sim.seq ?_
  refine Sim.region0 ?_
  refine SimI.run 3 [(4, .one (lnil)), (3, .one (.ptr 3 0)), (2, .one (.ptr 2 0))] [(3, some (.cells [li .i64 a1.X0, li .i64 a1.Y0, li .i64 a1.X1, li .i64 a1.Y1])), (2, some (.cells [li .i64 a0.X0, li .i64 a0.Y0, li .i64 a0.X1, li .i64 a0.Y1]))] (by kernel_rfl) ?_
  refine SimI.done (by kernel_rfl) ?_
  refine SimE.thenN ?_
  refine Sim.seq ?_
  refine Sim.region0 ?_
  refine SimI.run 2 [(10, .agg [li .i64 a1.X0, li .i64 a1.Y0, li .i64 a1.X1, li .i64 a1.Y1]), (9, .agg [li .i64 a0.X0, li .i64 a0.Y0, li .i64 a0.X1, li .i64 a0.Y1])] [] (by kernel_rfl) ?_
  refine SimI.bind (og := F31 n a0 a1) { dst := some 11, op := POp.call true [[], []] 31 [Operand.tmp 9, Operand.tmp 10], guard := none, hints := [] } (fun r1 => [(11, .agg [li .i64 r1.X0, li .i64 r1.Y0, li .i64 r1.X1, li .i64 r1.Y1])]) (fun r1 => []) (by kernel_rfl) (fun r1 hr => pOp_eff (by kernel_rfl) (by kernel_rfl) (eff_call (ARGS := [.agg [li .i64 a0.X0, li .i64 a0.Y0, li .i64 a0.X1, li .i64 a0.Y1], .agg [li .i64 a1.X0, li .i64 a1.Y0, li .i64 a1.X1, li .i64 a1.Y1]]) (by kernel_rfl) (args_clean (by kernel_rfl) (args_clean (by kernel_rfl) args_nil)) (F31_ok n a0 a1 r1 hr) (by kernel_rfl))) (fun r1 => ?_)
  refine SimI.run 2 [(5, .one (.ptr 5 0))] [(5, some (.cells [li .i64 r1.X0, li .i64 r1.Y0, li .i64 r1.X1, li .i64 r1.Y1])), (5, some (.cells [li .i64 0, li .i64 0, li .i64 0, li .i64 0]))] (by kernel_rfl) ?_
  refine SimI.done (by kernel_rfl) ?_
  refine SimE.thenN ?_
  refine Sim.seq ?_
  refine Sim.block ?_
  refine Sim.seq ?_
  refine Sim.region0 ?_
  refine SimI.run 1 [(13, .agg [li .i64 a0.X0, li .i64 a0.Y0, li .i64 a0.X1, li .i64 a0.Y1])] [] (by kernel_rfl) ?_
  refine SimI.bind (og := F27 n a0) { dst := some 14, op := POp.call true [[]] 27 [Operand.tmp 13], guard := none, hints := [] } (fun r2 => [(14, .one (lb r2))]) (fun r2 => []) (by kernel_rfl) (fun r2 hr => pOp_eff (by kernel_rfl) (by kernel_rfl) (eff_call (ARGS := [.agg [li .i64 a0.X0, li .i64 a0.Y0, li .i64 a0.X1, li .i64 a0.Y1]]) (by kernel_rfl) (args_clean (by kernel_rfl) args_nil) (F27_ok n a0 r2 hr) (by kernel_rfl))) (fun r2 => ?_)
  refine SimI.run 1 [(12, .one (lb r2))] [] (by kernel_rfl) ?_
  refine SimI.done (by kernel_rfl) ?_
  refine SimE.thenN ?_
  refine Sim.cond r2 (by kernel_rfl) ?_ ?_
  · refine Sim.seq ?_
    refine Sim.region0 ?_
    refine SimI.run 1 [(4, .one (lnil))] [] (by kernel_rfl) ?_
    refine SimI.done (by kernel_rfl) ?_
    refine SimE.thenN ?_
    refine Sim.ret ?_
    refine SimE.blockR ?_
    refine SimE.thenR ?_
    exact SimE.fin (by kernel_rfl)
  · refine Sim.seq ?_
    refine Sim.region0 ?_
    refine SimI.run 2 [(17, .agg [li .i64 0, li .i64 0, li .i64 0, li .i64 0]), (16, .agg [li .i64 r1.X0, li .i64 r1.Y0, li .i64 r1.X1, li .i64 r1.Y1])] [] (by kernel_rfl) ?_
    refine SimI.step { dst := some 18, op := POp.prim (Prim.bin BinOp.eql 35 false false) [Operand.tmp 16, Operand.tmp 17], guard := none, hints := [] } [(18, .one (lb (Rect.eqb r1 (Rect.mk 0 0 0 0))))] [] (by kernel_rfl) (pOp_eff (by kernel_rfl) (by kernel_rfl) (eff_prim (by kernel_rfl) (Rect_eql r1 (Rect.mk 0 0 0 0) _ _))) ?_
    refine SimI.run 1 [(15, .one (lb (Rect.eqb r1 (Rect.mk 0 0 0 0))))] [] (by kernel_rfl) ?_
    refine SimI.done (by kernel_rfl) ?_
    refine SimE.thenN ?_
    refine Sim.cond (Rect.eqb r1 (Rect.mk 0 0 0 0)) (by kernel_rfl) ?_ ?_
    · refine Sim.seq ?_
      refine Sim.region0 ?_
      refine SimI.run 3 [(4, .one (vw Rect.cod [a0])), (20, .one (vw Rect.cod [a0])), (19, .agg [li .i64 a0.X0, li .i64 a0.Y0, li .i64 a0.X1, li .i64 a0.Y1])] [] (by kernel_rfl) ?_
      refine SimI.done (by kernel_rfl) ?_
      refine SimE.thenN ?_
      refine Sim.ret ?_
      refine SimE.blockR ?_
      refine SimE.thenR ?_
      exact SimE.fin (by kernel_rfl)
    · refine Sim.skip ?_
      refine SimE.blockN ?_
      refine SimE.thenN ?_
      refine Sim.seq ?_
      refine Sim.region0 ?_
      refine SimI.run 1 [(6, .one (lnil))] [] (by kernel_rfl) ?_
      refine SimI.done (by kernel_rfl) ?_
      refine SimE.thenN ?_
      refine Sim.seq ?_
      refine Sim.seq ?_
      refine Sim.region0 ?_
      refine SimI.run 38 [(58, .one (li .i64 0)), (57, .agg [li .i64 a0.X0, li .i64 a0.Y0, li .i64 a0.X1, li .i64 r1.Y0, li .i64 a0.X0, li .i64 r1.Y1, li .i64 a0.X1, li .i64 a0.Y1, li .i64 a0.X0, li .i64 r1.Y0, li .i64 r1.X0, li .i64 r1.Y1, li .i64 r1.X1, li .i64 r1.Y0, li .i64 a0.X1, li .i64 r1.Y1]), (56, .agg [li .i64 r1.X1, li .i64 r1.Y0, li .i64 a0.X1, li .i64 r1.Y1]), (55, .one (li .i64 r1.Y1)), (54, .one (.ptr 5 3)), (53, .one (li .i64 a0.X1)), (52, .one (.ptr 2 2)), (51, .one (li .i64 r1.Y0)), (50, .one (.ptr 5 1)), (49, .one (li .i64 r1.X1)), (48, .one (.ptr 5 2)), (47, .agg [li .i64 a0.X0, li .i64 r1.Y0, li .i64 r1.X0, li .i64 r1.Y1]), (46, .one (li .i64 r1.Y1)), (45, .one (.ptr 5 3)), (44, .one (li .i64 r1.X0)), (43, .one (.ptr 5 0)), (42, .one (li .i64 r1.Y0)), (41, .one (.ptr 5 1)), (40, .one (li .i64 a0.X0)), (39, .one (.ptr 2 0)), (38, .agg [li .i64 a0.X0, li .i64 r1.Y1, li .i64 a0.X1, li .i64 a0.Y1]), (37, .one (li .i64 a0.Y1)), (36, .one (.ptr 2 3)), (35, .one (li .i64 a0.X1)), (34, .one (.ptr 2 2)), (33, .one (li .i64 r1.Y1)), (32, .one (.ptr 5 3)), (31, .one (li .i64 a0.X0)), (30, .one (.ptr 2 0)), (29, .agg [li .i64 a0.X0, li .i64 a0.Y0, li .i64 a0.X1, li .i64 r1.Y0]), (28, .one (li .i64 r1.Y0)), (27, .one (.ptr 5 1)), (26, .one (li .i64 a0.X1)), (25, .one (.ptr 2 2)), (24, .one (li .i64 a0.Y0)), (23, .one (.ptr 2 1)), (22, .one (li .i64 a0.X0)), (21, .one (.ptr 2 0))] [] (by kernel_rfl) ?_
      refine SimI.done (by kernel_rfl) ?_
      refine SimE.thenN ?_
      refine Sim.block ?_
      refine Sim.loop ?_
      refine SimL.succ ?_
      refine Sim.seq ?_
      refine Sim.region [(6, .one (lnil)), (57, .agg [li .i64 a0.X0, li .i64 a0.Y0, li .i64 a0.X1, li .i64 r1.Y0, li .i64 a0.X0, li .i64 r1.Y1, li .i64 a0.X1, li .i64 a0.Y1, li .i64 a0.X0, li .i64 r1.Y0, li .i64 r1.X0, li .i64 r1.Y1, li .i64 r1.X1, li .i64 r1.Y0, li .i64 a0.X1, li .i64 r1.Y1]), (58, .one (li .i64 0))] [] (by kernel_rfl) ?_
      refine SimI.run 1 [(59, .one (lb true))] [] (by kernel_rfl) ?_
      refine SimI.done (by kernel_rfl) ?_
      refine SimE.thenN ?_
      refine Sim.seq ?_
      refine Sim.condT (by kernel_rfl) ?_
      refine Sim.skip ?_
      refine SimE.thenN ?_
      refine Sim.seq ?_
      refine Sim.block ?_
      refine Sim.seq ?_
      refine Sim.region0 ?_
      refine SimI.run 3 [(8, .one (.ptr 8 0)), (60, .agg [li .i64 a0.X0, li .i64 a0.Y0, li .i64 a0.X1, li .i64 r1.Y0])] [(8, some (.cells [li .i64 a0.X0, li .i64 a0.Y0, li .i64 a0.X1, li .i64 r1.Y0])), (8, some (.cells [li .i64 0, li .i64 0, li .i64 0, li .i64 0]))] (by kernel_rfl) ?_
      refine SimI.done (by kernel_rfl) ?_
      refine SimE.thenN ?_
      refine Sim.seq ?_
      refine Sim.region0 ?_
      refine SimI.run 1 [(61, .agg [li .i64 a0.X0, li .i64 a0.Y0, li .i64 a0.X1, li .i64 r1.Y0])] [] (by kernel_rfl) ?_
      refine SimI.bind (og := F27 n (Rect.mk a0.X0 a0.Y0 a0.X1 r1.Y0)) { dst := some 62, op := POp.call true [[]] 27 [Operand.tmp 61], guard := none, hints := [] } (fun r3 => [(62, .one (lb r3))]) (fun r3 => []) (by kernel_rfl) (fun r3 hr => pOp_eff (by kernel_rfl) (by kernel_rfl) (eff_call (ARGS := [.agg [li .i64 a0.X0, li .i64 a0.Y0, li .i64 a0.X1, li .i64 r1.Y0]]) (by kernel_rfl) (args_clean (by kernel_rfl) args_nil) (F27_ok n (Rect.mk a0.X0 a0.Y0 a0.X1 r1.Y0) r3 hr) (by kernel_rfl))) (fun r3 => ?_)
      refine SimI.run 1 [(63, .one (lb (!(r3))))] [] (by kernel_rfl) ?_
      refine SimI.done (by kernel_rfl) ?_
      refine SimE.thenN ?_
      refine Sim.cond (!(r3)) (by kernel_rfl) ?_ ?_
      · refine Sim.region0 ?_
        refine SimI.run 3 [(66, .one (vw Rect.cod [(Rect.mk a0.X0 a0.Y0 a0.X1 r1.Y0)])), (65, .agg [li .i64 a0.X0, li .i64 a0.Y0, li .i64 a0.X1, li .i64 r1.Y0]), (64, .one (lnil))] [] (by kernel_rfl) ?_
        refine SimI.guard (c := (([] : List Rect).length + 1) * 32 ≤ maxCells ∧ ([] : List Rect).length + 1 ≤ maxCells) { dst := some 67, op := POp.app 100006 35 4 32 (Operand.tmp 64) (Operand.tmp 66), guard := none, hints := [] } [(67, .one (.osl 100006 0 0 ([(Rect.mk a0.X0 a0.Y0 a0.X1 r1.Y0)]).length))] [(100006, some (.arr 35 Rect.cod.sz 0 ([(Rect.mk a0.X0 a0.Y0 a0.X1 r1.Y0)]).length (getOf Rect.cod [(Rect.mk a0.X0 a0.Y0 a0.X1 r1.Y0)])))] (by kernel_rfl) (fun hc => pOp_eff (by kernel_rfl) (by kernel_rfl) (eff_appN (c := Rect.cod) (a := (Rect.mk a0.X0 a0.Y0 a0.X1 r1.Y0)) (by kernel_rfl) (by kernel_rfl) (by kernel_rfl) (by kernel_rfl) (by kernel_rfl) (by kernel_rfl))) ?_
        refine SimI.run 1 [(6, .one (.osl 100006 0 0 ([(Rect.mk a0.X0 a0.Y0 a0.X1 r1.Y0)]).length))] [] (by kernel_rfl) ?_
        refine SimI.done (by kernel_rfl) ?_
        refine SimE.blockN ?_
        refine SimE.thenN ?_
        refine Sim.region0 ?_
        refine SimI.run 2 [(58, .one (li .i64 1)), (68, .one (li .i64 1))] [] (by kernel_rfl) ?_
        refine SimI.done (by kernel_rfl) ?_
        refine SimE.loopN ?_
        refine SimL.pre (ts := [6, 57, 58]) (os := [2, 3, 5, 8, 100006]) [(6, .one (ownL 100006 0 [(Rect.mk a0.X0 a0.Y0 a0.X1 r1.Y0)])), (57, .agg [li .i64 a0.X0, li .i64 a0.Y0, li .i64 a0.X1, li .i64 r1.Y0, li .i64 a0.X0, li .i64 r1.Y1, li .i64 a0.X1, li .i64 a0.Y1, li .i64 a0.X0, li .i64 r1.Y0, li .i64 r1.X0, li .i64 r1.Y1, li .i64 r1.X1, li .i64 r1.Y0, li .i64 a0.X1, li .i64 r1.Y1]), (58, .one (li .i64 1))] (ownM Rect.cod 35 100006 0 [(Rect.mk a0.X0 a0.Y0 a0.X1 r1.Y0)] []) (by kernel_rfl) (by kernel_rfl) (by kernel_rfl) ?_
        exact F21_u6_ok n a0 r1 [(Rect.mk a0.X0 a0.Y0 a0.X1 r1.Y0)] 0
      · refine Sim.skip ?_
        refine SimE.blockN ?_
        refine SimE.thenN ?_
        refine Sim.region0 ?_
        refine SimI.run 2 [(58, .one (li .i64 1)), (68, .one (li .i64 1))] [] (by kernel_rfl) ?_
        refine SimI.done (by kernel_rfl) ?_
        refine SimE.loopN ?_
        refine SimL.pre (ts := [6, 57, 58]) (os := [2, 3, 5, 8, 100006]) [(6, .one (ownL 100006 0 ([] : List Rect))), (57, .agg [li .i64 a0.X0, li .i64 a0.Y0, li .i64 a0.X1, li .i64 r1.Y0, li .i64 a0.X0, li .i64 r1.Y1, li .i64 a0.X1, li .i64 a0.Y1, li .i64 a0.X0, li .i64 r1.Y0, li .i64 r1.X0, li .i64 r1.Y1, li .i64 r1.X1, li .i64 r1.Y0, li .i64 a0.X1, li .i64 r1.Y1]), (58, .one (li .i64 1))] (ownM Rect.cod 35 100006 0 ([] : List Rect) []) (by kernel_rfl) (by kernel_rfl) (by kernel_rfl) ?_
        exact F21_u6_ok n a0 r1 ([] : List Rect) 0


-- 23: vedette/geom.On
def F23_e : Bool → PV × List (List Lf) := fun r => (.one (lb r), [])
def F23 (n : Nat) (a0 : Point) : Option Bool :=
  if decide ((0 : Int) ≤ a0.X) then
    if decide (a0.X < 64) then
      if decide ((0 : Int) ≤ a0.Y) then
        some (decide (a0.Y < 64))
      else
        some false
    else
      some false
  else
    some false
theorem F23_ok (n : Nat) (a0 : Point) : ∀ r, F23 n a0 = some r → D 23 [.agg [li .i64 a0.X, li .i64 a0.Y]] [] = some (F23_e r) := by
  refine fn_to (D := D) (n := n + 8) (nt := 21) (rs := pc23_r) (c := pc23_c5) (L := [(0, .agg [li .i64 a0.X, li .i64 a0.Y])]) (M := []) (k := 0) rfl rfl rfl rfl rfl rfl ?_
  unfold F23
  refine Sim.seq ?_
  refine Sim.region0 ?_
  refine SimI.run 2 [(2, .one (lb false)), (1, .one (.ptr 1 0))] [(1, some (.cells [li .i64 a0.X, li .i64 a0.Y]))] (by kernel_rfl) ?_
  refine SimI.done (by kernel_rfl) ?_
  refine SimE.thenN ?_
  refine Sim.seq ?_
  refine Sim.region0 ?_
  refine SimI.run 4 [(6, .one (lb (decide ((0 : Int) ≤ a0.X)))), (5, .one (lb (decide ((0 : Int) ≤ a0.X)))), (4, .one (li .i64 a0.X)), (3, .one (.ptr 1 0))] [] (by kernel_rfl) ?_
  refine SimI.split 6 (decide ((0 : Int) ≤ a0.X)) (by kernel_rfl) ?_ ?_
  · refine SimI.run 5 [(11, .one (lb (decide (a0.X < 64)))), (10, .one (lb (decide (a0.X < 64)))), (9, .one (lb (decide (a0.X < 64)))), (8, .one (li .i64 a0.X)), (7, .one (.ptr 1 0))] [] (by kernel_rfl) ?_
    refine SimI.split 11 (decide (a0.X < 64)) (by kernel_rfl) ?_ ?_
    · refine SimI.run 5 [(16, .one (lb (decide ((0 : Int) ≤ a0.Y)))), (15, .one (lb (decide ((0 : Int) ≤ a0.Y)))), (14, .one (lb (decide ((0 : Int) ≤ a0.Y)))), (13, .one (li .i64 a0.Y)), (12, .one (.ptr 1 1))] [] (by kernel_rfl) ?_
      refine SimI.split 16 (decide ((0 : Int) ≤ a0.Y)) (by kernel_rfl) ?_ ?_
      · refine SimI.run 5 [(2, .one (lb (decide (a0.Y < 64)))), (20, .one (lb (decide (a0.Y < 64)))), (19, .one (lb (decide (a0.Y < 64)))), (18, .one (li .i64 a0.Y)), (17, .one (.ptr 1 1))] [] (by kernel_rfl) ?_
        refine SimI.done (by kernel_rfl) ?_
        refine SimE.thenN ?_
        refine Sim.ret ?_
        exact SimE.fin (by kernel_rfl)
      · refine SimI.run 5 [(2, .one (lb false)), (20, .one (lb false)), (19, .tup []), (18, .tup []), (17, .tup [])] [] (by kernel_rfl) ?_
        refine SimI.done (by kernel_rfl) ?_
        refine SimE.thenN ?_
        refine Sim.ret ?_
        exact SimE.fin (by kernel_rfl)
    · refine SimI.run 10 [(2, .one (lb false)), (20, .one (lb false)), (19, .tup []), (18, .tup []), (17, .tup []), (16, .one (lb false)), (15, .one (lb false)), (14, .tup []), (13, .tup []), (12, .tup [])] [] (by kernel_rfl) ?_
      refine SimI.done (by kernel_rfl) ?_
      refine SimE.thenN ?_
      refine Sim.ret ?_
      exact SimE.fin (by kernel_rfl)
  · refine SimI.run 15 [(2, .one (lb false)), (20, .one (lb false)), (19, .tup []), (18, .tup []), (17, .tup []), (16, .one (lb false)), (15, .one (lb false)), (14, .tup []), (13, .tup []), (12, .tup []), (11, .one (lb false)), (10, .one (lb false)), (9, .tup []), (8, .tup []), (7, .tup [])] [] (by kernel_rfl) ?_
    refine SimI.done (by kernel_rfl) ?_
    refine SimE.thenN ?_
    refine Sim.ret ?_
    exact SimE.fin (by kernel_rfl)


-- 39: vedette/geom.side
def F39_e : Bool → PV × List (List Lf) := fun r => (.one (lb r), [])
def F39 (n : Nat) (a0 : Int) (a1 : Int) : Option Bool :=
  if decide ((0 : Int) ≤ a0) then
    if decide (a0 ≤ a1) then
      some (decide (a1 ≤ 64))
    else
      some false
  else
    some false
theorem F39_ok (n : Nat) (a0 : Int) (a1 : Int) : ∀ r, F39 n a0 a1 = some r → D 39 [.one (li .i64 a0), .one (li .i64 a1)] [] = some (F39_e r) := by
  refine fn_to (D := D) (n := n + 8) (nt := 16) (rs := pc39_r) (c := pc39_c5) (L := [(0, .one (li .i64 a0)), (1, .one (li .i64 a1))]) (M := []) (k := 0) rfl rfl rfl rfl rfl rfl ?_
  unfold F39
  refine Sim.seq ?_
  refine Sim.region0 ?_
  refine SimI.run 1 [(4, .one (lb false))] [] (by kernel_rfl) ?_
  refine SimI.done (by kernel_rfl) ?_
  refine SimE.thenN ?_
  refine Sim.seq ?_
  refine Sim.region0 ?_
  refine SimI.run 3 [(7, .one (lb (decide ((0 : Int) ≤ a0)))), (6, .one (lb (decide ((0 : Int) ≤ a0)))), (5, .one (li .i64 a0))] [] (by kernel_rfl) ?_
  refine SimI.split 7 (decide ((0 : Int) ≤ a0)) (by kernel_rfl) ?_ ?_
  · refine SimI.run 5 [(12, .one (lb (decide (a0 ≤ a1)))), (11, .one (lb (decide (a0 ≤ a1)))), (10, .one (lb (decide (a0 ≤ a1)))), (9, .one (li .i64 a1)), (8, .one (li .i64 a0))] [] (by kernel_rfl) ?_
    refine SimI.split 12 (decide (a0 ≤ a1)) (by kernel_rfl) ?_ ?_
    · refine SimI.run 4 [(4, .one (lb (decide (a1 ≤ 64)))), (15, .one (lb (decide (a1 ≤ 64)))), (14, .one (lb (decide (a1 ≤ 64)))), (13, .one (li .i64 a1))] [] (by kernel_rfl) ?_
      refine SimI.done (by kernel_rfl) ?_
      refine SimE.thenN ?_
      refine Sim.ret ?_
      exact SimE.fin (by kernel_rfl)
    · refine SimI.run 4 [(4, .one (lb false)), (15, .one (lb false)), (14, .tup []), (13, .tup [])] [] (by kernel_rfl) ?_
      refine SimI.done (by kernel_rfl) ?_
      refine SimE.thenN ?_
      refine Sim.ret ?_
      exact SimE.fin (by kernel_rfl)
  · refine SimI.run 9 [(4, .one (lb false)), (15, .one (lb false)), (14, .tup []), (13, .tup []), (12, .one (lb false)), (11, .one (lb false)), (10, .tup []), (9, .tup []), (8, .tup [])] [] (by kernel_rfl) ?_
    refine SimI.done (by kernel_rfl) ?_
    refine SimE.thenN ?_
    refine Sim.ret ?_
    exact SimE.fin (by kernel_rfl)


-- 25: vedette/geom.Is
def F25_e : Bool → PV × List (List Lf) := fun r => (.one (lb r), [])
def F25 (n : Nat) (a0 : Rect) : Option Bool :=
  (F39 n a0.X0 a0.X1).bind fun (r1 : Bool) =>
  if r1 then
    (F39 n a0.Y0 a0.Y1).bind fun (r2 : Bool) =>
    some r2
  else
    some false
theorem F25_ok (n : Nat) (a0 : Rect) : ∀ r, F25 n a0 = some r → D 25 [.agg [li .i64 a0.X0, li .i64 a0.Y0, li .i64 a0.X1, li .i64 a0.Y1]] [] = some (F25_e r) := by
  refine fn_to (D := D) (n := n + 8) (nt := 15) (rs := pc25_r) (c := pc25_c5) (L := [(0, .agg [li .i64 a0.X0, li .i64 a0.Y0, li .i64 a0.X1, li .i64 a0.Y1])]) (M := []) (k := 0) rfl rfl rfl rfl rfl rfl ?_
  unfold F25
  refine Sim.seq ?_
  refine Sim.region0 ?_
  refine SimI.run 2 [(2, .one (lb false)), (1, .one (.ptr 1 0))] [(1, some (.cells [li .i64 a0.X0, li .i64 a0.Y0, li .i64 a0.X1, li .i64 a0.Y1]))] (by kernel_rfl) ?_
  refine SimI.done (by kernel_rfl) ?_
  refine SimE.thenN ?_
  refine Sim.seq ?_
  refine Sim.region0 ?_
  refine SimI.run 4 [(6, .one (li .i64 a0.X1)), (5, .one (.ptr 1 2)), (4, .one (li .i64 a0.X0)), (3, .one (.ptr 1 0))] [] (by kernel_rfl) ?_
  refine SimI.bind (og := F39 n a0.X0 a0.X1) { dst := some 7, op := POp.call true [[], []] 39 [Operand.tmp 4, Operand.tmp 6], guard := none, hints := [] } (fun r1 => [(7, .one (lb r1))]) (fun r1 => []) (by kernel_rfl) (fun r1 hr => pOp_eff (by kernel_rfl) (by kernel_rfl) (eff_call (ARGS := [.one (li .i64 a0.X0), .one (li .i64 a0.X1)]) (by kernel_rfl) (args_clean (by kernel_rfl) (args_clean (by kernel_rfl) args_nil)) (F39_ok n a0.X0 a0.X1 r1 hr) (by kernel_rfl))) (fun r1 => ?_)
  refine SimI.run 1 [(8, .one (lb r1))] [] (by kernel_rfl) ?_
  refine SimI.split 8 r1 (by kernel_rfl) ?_ ?_
  · refine SimI.run 4 [(12, .one (li .i64 a0.Y1)), (11, .one (.ptr 1 3)), (10, .one (li .i64 a0.Y0)), (9, .one (.ptr 1 1))] [] (by kernel_rfl) ?_
    refine SimI.bind (og := F39 n a0.Y0 a0.Y1) { dst := some 13, op := POp.call true [[], []] 39 [Operand.tmp 10, Operand.tmp 12], guard := some (8, true), hints := [] } (fun r2 => [(13, .one (lb r2))]) (fun r2 => []) (by kernel_rfl) (fun r2 hr => pOp_eff (by kernel_rfl) (by kernel_rfl) (eff_call (ARGS := [.one (li .i64 a0.Y0), .one (li .i64 a0.Y1)]) (by kernel_rfl) (args_clean (by kernel_rfl) (args_clean (by kernel_rfl) args_nil)) (F39_ok n a0.Y0 a0.Y1 r2 hr) (by kernel_rfl))) (fun r2 => ?_)
    refine SimI.run 2 [(2, .one (lb r2)), (14, .one (lb r2))] [] (by kernel_rfl) ?_
    refine SimI.done (by kernel_rfl) ?_
    refine SimE.thenN ?_
    refine Sim.ret ?_
    exact SimE.fin (by kernel_rfl)
  · refine SimI.run 7 [(2, .one (lb false)), (14, .one (lb false)), (13, .tup []), (12, .tup []), (11, .tup []), (10, .tup []), (9, .tup [])] [] (by kernel_rfl) ?_
    refine SimI.done (by kernel_rfl) ?_
    refine SimE.thenN ?_
    refine Sim.ret ?_
    exact SimE.fin (by kernel_rfl)


-- 29: vedette/geom.In
def F29_e : Bool → PV × List (List Lf) := fun r => (.one (lb r), [])
def F29 (n : Nat) (a0 : Rect) (a1 : Point) : Option Bool :=
  if decide (a0.X0 ≤ a1.X) then
    if decide (a1.X < a0.X1) then
      if decide (a0.Y0 ≤ a1.Y) then
        some (decide (a1.Y < a0.Y1))
      else
        some false
    else
      some false
  else
    some false
theorem F29_ok (n : Nat) (a0 : Rect) (a1 : Point) : ∀ r, F29 n a0 a1 = some r → D 29 [.agg [li .i64 a0.X0, li .i64 a0.Y0, li .i64 a0.X1, li .i64 a0.Y1], .agg [li .i64 a1.X, li .i64 a1.Y]] [] = some (F29_e r) := by
  refine fn_to (D := D) (n := n + 8) (nt := 31) (rs := pc29_r) (c := pc29_c5) (L := [(0, .agg [li .i64 a0.X0, li .i64 a0.Y0, li .i64 a0.X1, li .i64 a0.Y1]), (1, .agg [li .i64 a1.X, li .i64 a1.Y])]) (M := []) (k := 0) rfl rfl rfl rfl rfl rfl ?_
  unfold F29
  refine Sim.seq ?_
  refine Sim.region0 ?_
  refine SimI.run 3 [(4, .one (lb false)), (3, .one (.ptr 3 0)), (2, .one (.ptr 2 0))] [(3, some (.cells [li .i64 a1.X, li .i64 a1.Y])), (2, some (.cells [li .i64 a0.X0, li .i64 a0.Y0, li .i64 a0.X1, li .i64 a0.Y1]))] (by kernel_rfl) ?_
  refine SimI.done (by kernel_rfl) ?_
  refine SimE.thenN ?_
  refine Sim.seq ?_
  refine Sim.region0 ?_
  refine SimI.run 6 [(10, .one (lb (decide (a0.X0 ≤ a1.X)))), (9, .one (lb (decide (a0.X0 ≤ a1.X)))), (8, .one (li .i64 a0.X0)), (7, .one (.ptr 2 0)), (6, .one (li .i64 a1.X)), (5, .one (.ptr 3 0))] [] (by kernel_rfl) ?_
  refine SimI.split 10 (decide (a0.X0 ≤ a1.X)) (by kernel_rfl) ?_ ?_
  · refine SimI.run 7 [(17, .one (lb (decide (a1.X < a0.X1)))), (16, .one (lb (decide (a1.X < a0.X1)))), (15, .one (lb (decide (a1.X < a0.X1)))), (14, .one (li .i64 a0.X1)), (13, .one (.ptr 2 2)), (12, .one (li .i64 a1.X)), (11, .one (.ptr 3 0))] [] (by kernel_rfl) ?_
    refine SimI.split 17 (decide (a1.X < a0.X1)) (by kernel_rfl) ?_ ?_
    · refine SimI.run 7 [(24, .one (lb (decide (a0.Y0 ≤ a1.Y)))), (23, .one (lb (decide (a0.Y0 ≤ a1.Y)))), (22, .one (lb (decide (a0.Y0 ≤ a1.Y)))), (21, .one (li .i64 a0.Y0)), (20, .one (.ptr 2 1)), (19, .one (li .i64 a1.Y)), (18, .one (.ptr 3 1))] [] (by kernel_rfl) ?_
      refine SimI.split 24 (decide (a0.Y0 ≤ a1.Y)) (by kernel_rfl) ?_ ?_
      · refine SimI.run 7 [(4, .one (lb (decide (a1.Y < a0.Y1)))), (30, .one (lb (decide (a1.Y < a0.Y1)))), (29, .one (lb (decide (a1.Y < a0.Y1)))), (28, .one (li .i64 a0.Y1)), (27, .one (.ptr 2 3)), (26, .one (li .i64 a1.Y)), (25, .one (.ptr 3 1))] [] (by kernel_rfl) ?_
        refine SimI.done (by kernel_rfl) ?_
        refine SimE.thenN ?_
        refine Sim.ret ?_
        exact SimE.fin (by kernel_rfl)
      · refine SimI.run 7 [(4, .one (lb false)), (30, .one (lb false)), (29, .tup []), (28, .tup []), (27, .tup []), (26, .tup []), (25, .tup [])] [] (by kernel_rfl) ?_
        refine SimI.done (by kernel_rfl) ?_
        refine SimE.thenN ?_
        refine Sim.ret ?_
        exact SimE.fin (by kernel_rfl)
    · refine SimI.run 14 [(4, .one (lb false)), (30, .one (lb false)), (29, .tup []), (28, .tup []), (27, .tup []), (26, .tup []), (25, .tup []), (24, .one (lb false)), (23, .one (lb false)), (22, .tup []), (21, .tup []), (20, .tup []), (19, .tup []), (18, .tup [])] [] (by kernel_rfl) ?_
      refine SimI.done (by kernel_rfl) ?_
      refine SimE.thenN ?_
      refine Sim.ret ?_
      exact SimE.fin (by kernel_rfl)
  · refine SimI.run 21 [(4, .one (lb false)), (30, .one (lb false)), (29, .tup []), (28, .tup []), (27, .tup []), (26, .tup []), (25, .tup []), (24, .one (lb false)), (23, .one (lb false)), (22, .tup []), (21, .tup []), (20, .tup []), (19, .tup []), (18, .tup []), (17, .one (lb false)), (16, .one (lb false)), (15, .tup []), (14, .tup []), (13, .tup []), (12, .tup []), (11, .tup [])] [] (by kernel_rfl) ?_
    refine SimI.done (by kernel_rfl) ?_
    refine SimE.thenN ?_
    refine Sim.ret ?_
    exact SimE.fin (by kernel_rfl)


-- 33: vedette/geom.Area
def F33_e : Int → PV × List (List Lf) := fun r => (.one (li .i64 r), [])
def F33 (n : Nat) (a0 : Rect) : Option Int :=
  (F31 n a0 (Rect.mk 0 0 64 64)).bind fun (r1 : Rect) =>
  some (IntKind.wrap .i64 (IntKind.wrap .i64 (r1.X1 - r1.X0) * IntKind.wrap .i64 (r1.Y1 - r1.Y0)))
theorem F33_ok (n : Nat) (a0 : Rect) : ∀ r, F33 n a0 = some r → D 33 [.agg [li .i64 a0.X0, li .i64 a0.Y0, li .i64 a0.X1, li .i64 a0.Y1]] [] = some (F33_e r) := by
  refine fn_to (D := D) (n := n + 8) (nt := 17) (rs := pc33_r) (c := pc33_c7) (L := [(0, .agg [li .i64 a0.X0, li .i64 a0.Y0, li .i64 a0.X1, li .i64 a0.Y1])]) (M := []) (k := 0) rfl rfl rfl rfl rfl rfl ?_
  unfold F33
  refine Sim.seq ?_
  refine Sim.region0 ?_
  refine SimI.run 2 [(2, .one (li .i64 0)), (1, .one (.ptr 1 0))] [(1, some (.cells [li .i64 a0.X0, li .i64 a0.Y0, li .i64 a0.X1, li .i64 a0.Y1]))] (by kernel_rfl) ?_
  refine SimI.done (by kernel_rfl) ?_
  refine SimE.thenN ?_
  refine Sim.seq ?_
  refine Sim.region0 ?_
  refine SimI.run 2 [(4, .agg [li .i64 0, li .i64 0, li .i64 64, li .i64 64]), (3, .agg [li .i64 a0.X0, li .i64 a0.Y0, li .i64 a0.X1, li .i64 a0.Y1])] [] (by kernel_rfl) ?_
  refine SimI.bind (og := F31 n a0 (Rect.mk 0 0 64 64)) { dst := some 5, op := POp.call true [[], []] 31 [Operand.tmp 3, Operand.tmp 4], guard := none, hints := [] } (fun r1 => [(5, .agg [li .i64 r1.X0, li .i64 r1.Y0, li .i64 r1.X1, li .i64 r1.Y1])]) (fun r1 => []) (by kernel_rfl) (fun r1 hr => pOp_eff (by kernel_rfl) (by kernel_rfl) (eff_call (ARGS := [.agg [li .i64 a0.X0, li .i64 a0.Y0, li .i64 a0.X1, li .i64 a0.Y1], .agg [li .i64 0, li .i64 0, li .i64 64, li .i64 64]]) (by kernel_rfl) (args_clean (by kernel_rfl) (args_clean (by kernel_rfl) args_nil)) (F31_ok n a0 (Rect.mk 0 0 64 64) r1 hr) (by kernel_rfl))) (fun r1 => ?_)
  refine SimI.run 1 [] [(1, some (.cells [li .i64 r1.X0, li .i64 r1.Y0, li .i64 r1.X1, li .i64 r1.Y1]))] (by kernel_rfl) ?_
  refine SimI.done (by kernel_rfl) ?_
  refine SimE.thenN ?_
  refine Sim.seq ?_
  refine Sim.region0 ?_
  refine SimI.run 12 [(2, .one (li .i64 (IntKind.wrap .i64 (IntKind.wrap .i64 (r1.X1 - r1.X0) * IntKind.wrap .i64 (r1.Y1 - r1.Y0))))), (16, .one (li .i64 (IntKind.wrap .i64 (IntKind.wrap .i64 (r1.X1 - r1.X0) * IntKind.wrap .i64 (r1.Y1 - r1.Y0))))), (15, .one (li .i64 (IntKind.wrap .i64 (r1.Y1 - r1.Y0)))), (14, .one (li .i64 r1.Y0)), (13, .one (.ptr 1 1)), (12, .one (li .i64 r1.Y1)), (11, .one (.ptr 1 3)), (10, .one (li .i64 (IntKind.wrap .i64 (r1.X1 - r1.X0)))), (9, .one (li .i64 r1.X0)), (8, .one (.ptr 1 0)), (7, .one (li .i64 r1.X1)), (6, .one (.ptr 1 2))] [] (by kernel_rfl) ?_
  refine SimI.done (by kernel_rfl) ?_
  refine SimE.thenN ?_
  refine Sim.ret ?_
  exact SimE.fin (by kernel_rfl)


-- 35: vedette/geom.Same
def F35_e : Bool → PV × List (List Lf) := fun r => (.one (lb r), [])
def F35 (n : Nat) (a0 : Rect) (a1 : Rect) : Option Bool :=
  (F40 n a0).bind fun (r1 : Rect) =>
  (F40 n a1).bind fun (r2 : Rect) =>
  some (Rect.eqb r1 r2)
theorem F35_ok (n : Nat) (a0 : Rect) (a1 : Rect) : ∀ r, F35 n a0 a1 = some r → D 35 [.agg [li .i64 a0.X0, li .i64 a0.Y0, li .i64 a0.X1, li .i64 a0.Y1], .agg [li .i64 a1.X0, li .i64 a1.Y0, li .i64 a1.X1, li .i64 a1.Y1]] [] = some (F35_e r) := by
  refine fn_to (D := D) (n := n + 8) (nt := 10) (rs := pc35_r) (c := pc35_c5) (L := [(0, .agg [li .i64 a0.X0, li .i64 a0.Y0, li .i64 a0.X1, li .i64 a0.Y1]), (1, .agg [li .i64 a1.X0, li .i64 a1.Y0, li .i64 a1.X1, li .i64 a1.Y1])]) (M := []) (k := 0) rfl rfl rfl rfl rfl rfl ?_
  unfold F35
  refine Sim.seq ?_
  refine Sim.region0 ?_
  refine SimI.run 3 [(4, .one (lb false)), (3, .one (.ptr 3 0)), (2, .one (.ptr 2 0))] [(3, some (.cells [li .i64 a1.X0, li .i64 a1.Y0, li .i64 a1.X1, li .i64 a1.Y1])), (2, some (.cells [li .i64 a0.X0, li .i64 a0.Y0, li .i64 a0.X1, li .i64 a0.Y1]))] (by kernel_rfl) ?_
  refine SimI.done (by kernel_rfl) ?_
  refine SimE.thenN ?_
  refine Sim.seq ?_
  refine Sim.region0 ?_
  refine SimI.run 1 [(5, .agg [li .i64 a0.X0, li .i64 a0.Y0, li .i64 a0.X1, li .i64 a0.Y1])] [] (by kernel_rfl) ?_
  refine SimI.bind (og := F40 n a0) { dst := some 6, op := POp.call false [[]] 40 [Operand.tmp 5], guard := none, hints := [(5, Hint.imm)] } (fun r1 => [(6, .agg [li .i64 r1.X0, li .i64 r1.Y0, li .i64 r1.X1, li .i64 r1.Y1])]) (fun r1 => []) (by kernel_rfl) (fun r1 hr => pOp_eff (by kernel_rfl) (by kernel_rfl) (eff_call (ARGS := [.agg [li .i64 a0.X0, li .i64 a0.Y0, li .i64 a0.X1, li .i64 a0.Y1]]) (by kernel_rfl) (args_clean (by kernel_rfl) args_nil) (F40_ok n a0 r1 hr) (by kernel_rfl))) (fun r1 => ?_)
  refine SimI.run 1 [(7, .agg [li .i64 a1.X0, li .i64 a1.Y0, li .i64 a1.X1, li .i64 a1.Y1])] [] (by kernel_rfl) ?_
  refine SimI.bind (og := F40 n a1) { dst := some 8, op := POp.call false [[]] 40 [Operand.tmp 7], guard := none, hints := [(7, Hint.imm)] } (fun r2 => [(8, .agg [li .i64 r2.X0, li .i64 r2.Y0, li .i64 r2.X1, li .i64 r2.Y1])]) (fun r2 => []) (by kernel_rfl) (fun r2 hr => pOp_eff (by kernel_rfl) (by kernel_rfl) (eff_call (ARGS := [.agg [li .i64 a1.X0, li .i64 a1.Y0, li .i64 a1.X1, li .i64 a1.Y1]]) (by kernel_rfl) (args_clean (by kernel_rfl) args_nil) (F40_ok n a1 r2 hr) (by kernel_rfl))) (fun r2 => ?_)
  refine SimI.step { dst := some 9, op := POp.prim (Prim.bin BinOp.eql 35 false false) [Operand.tmp 6, Operand.tmp 8], guard := none, hints := [(6, Hint.imm), (8, Hint.imm)] } [(9, .one (lb (Rect.eqb r1 r2)))] [] (by kernel_rfl) (pOp_eff (by kernel_rfl) (by kernel_rfl) (eff_prim (by kernel_rfl) (Rect_eql r1 r2 _ _))) ?_
  refine SimI.run 1 [(4, .one (lb (Rect.eqb r1 r2)))] [] (by kernel_rfl) ?_
  refine SimI.done (by kernel_rfl) ?_
  refine SimE.thenN ?_
  refine Sim.ret ?_
  exact SimE.fin (by kernel_rfl)


-- 19: vedette/vedettelaw3.known
theorem F19_ok (n : Nat) : ∀ r, (some true : Option Bool) = some r → D 19 [] [] = some (.one (lb r), []) := by
  rintro _ ⟨⟩
  exact all_of (N := 60) (by kernel_rfl)


-- 20: vedette/vedettelaw3.few
def F20_e : Bool → PV × List (List Lf) := fun r => (.one (lb r), [])
def F20 (n : Nat) (a0 : Rect) : Option Bool :=
  if decide (((-1000000) : Int) ≤ imin (imin (imin a0.X0 a0.Y0) a0.X1) a0.Y1) then
    some (decide (imax (imax (imax a0.X0 a0.Y0) a0.X1) a0.Y1 ≤ 1000000))
  else
    some false
theorem F20_ok (n : Nat) (a0 : Rect) : ∀ r, F20 n a0 = some r → D 20 [.agg [li .i64 a0.X0, li .i64 a0.Y0, li .i64 a0.X1, li .i64 a0.Y1]] [] = some (F20_e r) := by
  refine fn_to (D := D) (n := n + 8) (nt := 25) (rs := pc20_r) (c := pc20_c5) (L := [(0, .agg [li .i64 a0.X0, li .i64 a0.Y0, li .i64 a0.X1, li .i64 a0.Y1])]) (M := []) (k := 0) rfl rfl rfl rfl rfl rfl ?_
  unfold F20
  refine Sim.seq ?_
  refine Sim.region0 ?_
  refine SimI.run 2 [(2, .one (lb false)), (1, .one (.ptr 1 0))] [(1, some (.cells [li .i64 a0.X0, li .i64 a0.Y0, li .i64 a0.X1, li .i64 a0.Y1]))] (by kernel_rfl) ?_
  refine SimI.done (by kernel_rfl) ?_
  refine SimE.thenN ?_
  refine Sim.seq ?_
  refine Sim.region0 ?_
  refine SimI.run 11 [(13, .one (lb (decide (((-1000000) : Int) ≤ imin (imin (imin a0.X0 a0.Y0) a0.X1) a0.Y1)))), (12, .one (lb (decide (((-1000000) : Int) ≤ imin (imin (imin a0.X0 a0.Y0) a0.X1) a0.Y1)))), (11, .one (li .i64 (imin (imin (imin a0.X0 a0.Y0) a0.X1) a0.Y1))), (10, .one (li .i64 a0.Y1)), (9, .one (.ptr 1 3)), (8, .one (li .i64 a0.X1)), (7, .one (.ptr 1 2)), (6, .one (li .i64 a0.Y0)), (5, .one (.ptr 1 1)), (4, .one (li .i64 a0.X0)), (3, .one (.ptr 1 0))] [] (by kernel_rfl) ?_
  refine SimI.split 13 (decide (((-1000000) : Int) ≤ imin (imin (imin a0.X0 a0.Y0) a0.X1) a0.Y1)) (by kernel_rfl) ?_ ?_
  · refine SimI.run 12 [(2, .one (lb (decide (imax (imax (imax a0.X0 a0.Y0) a0.X1) a0.Y1 ≤ 1000000)))), (24, .one (lb (decide (imax (imax (imax a0.X0 a0.Y0) a0.X1) a0.Y1 ≤ 1000000)))), (23, .one (lb (decide (imax (imax (imax a0.X0 a0.Y0) a0.X1) a0.Y1 ≤ 1000000)))), (22, .one (li .i64 (imax (imax (imax a0.X0 a0.Y0) a0.X1) a0.Y1))), (21, .one (li .i64 a0.Y1)), (20, .one (.ptr 1 3)), (19, .one (li .i64 a0.X1)), (18, .one (.ptr 1 2)), (17, .one (li .i64 a0.Y0)), (16, .one (.ptr 1 1)), (15, .one (li .i64 a0.X0)), (14, .one (.ptr 1 0))] [] (by kernel_rfl) ?_
    refine SimI.done (by kernel_rfl) ?_
    refine SimE.thenN ?_
    refine Sim.ret ?_
    exact SimE.fin (by kernel_rfl)
  · refine SimI.run 12 [(2, .one (lb false)), (24, .one (lb false)), (23, .tup []), (22, .tup []), (21, .tup []), (20, .tup []), (19, .tup []), (18, .tup []), (17, .tup []), (16, .tup []), (15, .tup []), (14, .tup [])] [] (by kernel_rfl) ?_
    refine SimI.done (by kernel_rfl) ?_
    refine SimE.thenN ?_
    refine Sim.ret ?_
    exact SimE.fin (by kernel_rfl)


-- 28: vedette/vedetteref3.Empty
def F28_e : Bool → PV × List (List Lf) := fun r => (.one (lb r), [])
def F28 (n : Nat) (a0 : Rect) : Option Bool :=
  if decide (a0.X1 ≤ a0.X0) then
    some true
  else
    some (decide (a0.Y1 ≤ a0.Y0))
theorem F28_ok (n : Nat) (a0 : Rect) : ∀ r, F28 n a0 = some r → D 28 [.agg [li .i64 a0.X0, li .i64 a0.Y0, li .i64 a0.X1, li .i64 a0.Y1]] [] = some (F28_e r) := by
  refine fn_to (D := D) (n := n + 8) (nt := 15) (rs := pc28_r) (c := pc28_c5) (L := [(0, .agg [li .i64 a0.X0, li .i64 a0.Y0, li .i64 a0.X1, li .i64 a0.Y1])]) (M := []) (k := 0) rfl rfl rfl rfl rfl rfl ?_
  unfold F28
  refine Sim.seq ?_
  refine Sim.region0 ?_
  refine SimI.run 2 [(2, .one (lb false)), (1, .one (.ptr 1 0))] [(1, some (.cells [li .i64 a0.X0, li .i64 a0.Y0, li .i64 a0.X1, li .i64 a0.Y1]))] (by kernel_rfl) ?_
  refine SimI.done (by kernel_rfl) ?_
  refine SimE.thenN ?_
  refine Sim.seq ?_
  refine Sim.region0 ?_
  refine SimI.run 6 [(8, .one (lb (decide (a0.X1 ≤ a0.X0)))), (7, .one (lb (decide (a0.X1 ≤ a0.X0)))), (6, .one (li .i64 a0.X1)), (5, .one (.ptr 1 2)), (4, .one (li .i64 a0.X0)), (3, .one (.ptr 1 0))] [] (by kernel_rfl) ?_
  refine SimI.split 8 (decide (a0.X1 ≤ a0.X0)) (by kernel_rfl) ?_ ?_
  · refine SimI.run 7 [(2, .one (lb true)), (14, .one (lb true)), (13, .tup []), (12, .tup []), (11, .tup []), (10, .tup []), (9, .tup [])] [] (by kernel_rfl) ?_
    refine SimI.done (by kernel_rfl) ?_
    refine SimE.thenN ?_
    refine Sim.ret ?_
    exact SimE.fin (by kernel_rfl)
  · refine SimI.run 7 [(2, .one (lb (decide (a0.Y1 ≤ a0.Y0)))), (14, .one (lb (decide (a0.Y1 ≤ a0.Y0)))), (13, .one (lb (decide (a0.Y1 ≤ a0.Y0)))), (12, .one (li .i64 a0.Y1)), (11, .one (.ptr 1 3)), (10, .one (li .i64 a0.Y0)), (9, .one (.ptr 1 1))] [] (by kernel_rfl) ?_
    refine SimI.done (by kernel_rfl) ?_
    refine SimE.thenN ?_
    refine Sim.ret ?_
    exact SimE.fin (by kernel_rfl)


-- 32: vedette/vedetteref3.Meet
def F32_e : Rect → PV × List (List Lf) := fun r => (.agg [li .i64 r.X0, li .i64 r.Y0, li .i64 r.X1, li .i64 r.Y1], [])
def F32 (n : Nat) (a0 : Rect) (a1 : Rect) : Option Rect :=
  (F28 n (Rect.mk (imax a0.X0 a1.X0) (imax a0.Y0 a1.Y0) (imin a0.X1 a1.X1) (imin a0.Y1 a1.Y1))).bind fun (r1 : Bool) =>
  if r1 then
    some (Rect.mk 0 0 0 0)
  else
    some (Rect.mk (imax a0.X0 a1.X0) (imax a0.Y0 a1.Y0) (imin a0.X1 a1.X1) (imin a0.Y1 a1.Y1))
theorem F32_ok (n : Nat) (a0 : Rect) (a1 : Rect) : ∀ r, F32 n a0 a1 = some r → D 32 [.agg [li .i64 a0.X0, li .i64 a0.Y0, li .i64 a0.X1, li .i64 a0.Y1], .agg [li .i64 a1.X0, li .i64 a1.Y0, li .i64 a1.X1, li .i64 a1.Y1]] [] = some (F32_e r) := by
  refine fn_to (D := D) (n := n + 8) (nt := 31) (rs := pc32_r) (c := pc32_c15) (L := [(0, .agg [li .i64 a0.X0, li .i64 a0.Y0, li .i64 a0.X1, li .i64 a0.Y1]), (1, .agg [li .i64 a1.X0, li .i64 a1.Y0, li .i64 a1.X1, li .i64 a1.Y1])]) (M := []) (k := 0) rfl rfl rfl rfl rfl rfl ?_
  unfold F32
  refine Sim.seq ?_
  refine Sim.region0 ?_
  refine SimI.run 3 [(4, .one (.ptr 4 0)), (3, .one (.ptr 3 0)), (2, .one (.ptr 2 0))] [(4, some (.cells [li .i64 0, li .i64 0, li .i64 0, li .i64 0])), (3, some (.cells [li .i64 a1.X0, li .i64 a1.Y0, li .i64 a1.X1, li .i64 a1.Y1])), (2, some (.cells [li .i64 a0.X0, li .i64 a0.Y0, li .i64 a0.X1, li .i64 a0.Y1]))] (by kernel_rfl) ?_
  refine SimI.done (by kernel_rfl) ?_
  refine SimE.thenN ?_
  refine Sim.seq ?_
  refine Sim.region0 ?_
  refine SimI.run 23 [(5, .one (.ptr 5 0)), (26, .agg [li .i64 (imax a0.X0 a1.X0), li .i64 (imax a0.Y0 a1.Y0), li .i64 (imin a0.X1 a1.X1), li .i64 (imin a0.Y1 a1.Y1)]), (25, .one (li .i64 (imin a0.Y1 a1.Y1))), (24, .one (li .i64 a1.Y1)), (23, .one (.ptr 3 3)), (22, .one (li .i64 a0.Y1)), (21, .one (.ptr 2 3)), (20, .one (li .i64 (imin a0.X1 a1.X1))), (19, .one (li .i64 a1.X1)), (18, .one (.ptr 3 2)), (17, .one (li .i64 a0.X1)), (16, .one (.ptr 2 2)), (15, .one (li .i64 (imax a0.Y0 a1.Y0))), (14, .one (li .i64 a1.Y0)), (13, .one (.ptr 3 1)), (12, .one (li .i64 a0.Y0)), (11, .one (.ptr 2 1)), (10, .one (li .i64 (imax a0.X0 a1.X0))), (9, .one (li .i64 a1.X0)), (8, .one (.ptr 3 0)), (7, .one (li .i64 a0.X0)), (6, .one (.ptr 2 0))] [(5, some (.cells [li .i64 (imax a0.X0 a1.X0), li .i64 (imax a0.Y0 a1.Y0), li .i64 (imin a0.X1 a1.X1), li .i64 (imin a0.Y1 a1.Y1)])), (5, some (.cells [li .i64 0, li .i64 0, li .i64 0, li .i64 0]))] (by kernel_rfl) ?_
  refine SimI.done (by kernel_rfl) ?_
  refine SimE.thenN ?_
  refine Sim.seq ?_
  refine Sim.seq ?_
  refine Sim.region0 ?_
  refine SimI.run 1 [(27, .agg [li .i64 (imax a0.X0 a1.X0), li .i64 (imax a0.Y0 a1.Y0), li .i64 (imin a0.X1 a1.X1), li .i64 (imin a0.Y1 a1.Y1)])] [] (by kernel_rfl) ?_
  refine SimI.bind (og := F28 n (Rect.mk (imax a0.X0 a1.X0) (imax a0.Y0 a1.Y0) (imin a0.X1 a1.X1) (imin a0.Y1 a1.Y1))) { dst := some 28, op := POp.call true [[]] 28 [Operand.tmp 27], guard := none, hints := [] } (fun r1 => [(28, .one (lb r1))]) (fun r1 => []) (by kernel_rfl) (fun r1 hr => pOp_eff (by kernel_rfl) (by kernel_rfl) (eff_call (ARGS := [.agg [li .i64 (imax a0.X0 a1.X0), li .i64 (imax a0.Y0 a1.Y0), li .i64 (imin a0.X1 a1.X1), li .i64 (imin a0.Y1 a1.Y1)]]) (by kernel_rfl) (args_clean (by kernel_rfl) args_nil) (F28_ok n (Rect.mk (imax a0.X0 a1.X0) (imax a0.Y0 a1.Y0) (imin a0.X1 a1.X1) (imin a0.Y1 a1.Y1)) r1 hr) (by kernel_rfl))) (fun r1 => ?_)
  refine SimI.done (by kernel_rfl) ?_
  refine SimE.thenN ?_
  refine Sim.cond r1 (by kernel_rfl) ?_ ?_
  · refine Sim.seq ?_
    refine Sim.region0 ?_
    refine SimI.run 2 [(29, .agg [li .i64 0, li .i64 0, li .i64 0, li .i64 0])] [(4, some (.cells [li .i64 0, li .i64 0, li .i64 0, li .i64 0]))] (by kernel_rfl) ?_
    refine SimI.done (by kernel_rfl) ?_
    refine SimE.thenN ?_
    refine Sim.ret ?_
    refine SimE.thenR ?_
    exact SimE.fin (by kernel_rfl)
  · refine Sim.skip ?_
    refine SimE.thenN ?_
    refine Sim.seq ?_
    refine Sim.region0 ?_
    refine SimI.run 2 [(30, .agg [li .i64 (imax a0.X0 a1.X0), li .i64 (imax a0.Y0 a1.Y0), li .i64 (imin a0.X1 a1.X1), li .i64 (imin a0.Y1 a1.Y1)])] [(4, some (.cells [li .i64 (imax a0.X0 a1.X0), li .i64 (imax a0.Y0 a1.Y0), li .i64 (imin a0.X1 a1.X1), li .i64 (imin a0.Y1 a1.Y1)]))] (by kernel_rfl) ?_
    refine SimI.done (by kernel_rfl) ?_
    refine SimE.thenN ?_
    refine Sim.ret ?_
    exact SimE.fin (by kernel_rfl)


-- 22: vedette/vedetteref3.Minus
def F22_e : (List Rect) → PV × List (List Lf) := fun r => (.one (vw Rect.cod r), [])
def F22_u19 (n : Nat) (l17 : (List Rect)) : Option (List Rect) :=
    some l17
theorem F22_u19_ok (n : Nat) (a0 : Rect) (r2 : Rect) (l17 : (List Rect)) (g18 : Nat) : SimL Try.prog D (n + 8) (n + 4) pc22_c33 [(6, .one (.ptr 6 0)), (7, .one (ownL 100007 g18 l17)), (8, .one (li .i64 4))] ((6, some (.cells [li .i64 a0.X0, li .i64 a0.Y0, li .i64 a0.X1, li .i64 r2.Y0, li .i64 a0.X0, li .i64 r2.Y1, li .i64 a0.X1, li .i64 a0.Y1, li .i64 a0.X0, li .i64 r2.Y0, li .i64 r2.X0, li .i64 r2.Y1, li .i64 r2.X1, li .i64 r2.Y0, li .i64 a0.X1, li .i64 r2.Y1])) :: (ownM Rect.cod 35 100007 g18 l17 [])) (F22_u19 n l17) (QB 0 (QT Try.prog D (n + 8) pc22_c39 (QF pc22_r 0 F22_e))) := by
    cases l17 with
    | nil =>
      unfold F22_u19
      refine SimL.succ ?_
      refine Sim.seq ?_
      refine Sim.seq ?_
      refine Sim.region [(6, .one (.ptr 6 0)), (7, .one (lnil)), (8, .one (li .i64 4))] ((6, some (.cells [li .i64 a0.X0, li .i64 a0.Y0, li .i64 a0.X1, li .i64 r2.Y0, li .i64 a0.X0, li .i64 r2.Y1, li .i64 a0.X1, li .i64 a0.Y1, li .i64 a0.X0, li .i64 r2.Y0, li .i64 r2.X0, li .i64 r2.Y1, li .i64 r2.X1, li .i64 r2.Y0, li .i64 a0.X1, li .i64 r2.Y1])) :: []) (by kernel_rfl) ?_
      refine SimI.run 2 [(56, .one (lb false)), (55, .one (li .i64 4))] [] (by kernel_rfl) ?_
      refine SimI.done (by kernel_rfl) ?_
      refine SimE.thenN ?_
      refine Sim.condF (by kernel_rfl) ?_
      refine Sim.exit ?_
      refine SimE.thenX ?_
      refine SimE.loopX ?_
      refine SimE.blockX ?_
      refine SimE.thenN ?_
      refine Sim.seq ?_
      refine Sim.region0 ?_
      refine SimI.run 2 [(4, .one (lnil)), (70, .one (lnil))] [] (by kernel_rfl) ?_
      refine SimI.done (by kernel_rfl) ?_
      refine SimE.thenN ?_
      refine Sim.ret ?_
      exact SimE.fin (by kernel_rfl)
    | cons l17h l17t =>
      unfold F22_u19
      refine SimL.succ ?_
      refine Sim.seq ?_
      refine Sim.seq ?_
      refine Sim.region [(6, .one (.ptr 6 0)), (7, .one (.osl 100007 g18 0 ((l17h :: l17t)).length)), (8, .one (li .i64 4))] ((6, some (.cells [li .i64 a0.X0, li .i64 a0.Y0, li .i64 a0.X1, li .i64 r2.Y0, li .i64 a0.X0, li .i64 r2.Y1, li .i64 a0.X1, li .i64 a0.Y1, li .i64 a0.X0, li .i64 r2.Y0, li .i64 r2.X0, li .i64 r2.Y1, li .i64 r2.X1, li .i64 r2.Y0, li .i64 a0.X1, li .i64 r2.Y1])) :: ((100007, some (.arr 35 Rect.cod.sz g18 ((l17h :: l17t)).length (getOf Rect.cod (l17h :: l17t)))) :: [])) (by kernel_rfl) ?_
      refine SimI.run 2 [(56, .one (lb false)), (55, .one (li .i64 4))] [] (by kernel_rfl) ?_
      refine SimI.done (by kernel_rfl) ?_
      refine SimE.thenN ?_
      refine Sim.condF (by kernel_rfl) ?_
      refine Sim.exit ?_
      refine SimE.thenX ?_
      refine SimE.loopX ?_
      refine SimE.blockX ?_
      refine SimE.thenN ?_
      refine Sim.seq ?_
      refine Sim.region0 ?_
      refine SimI.run 2 [(4, .one (.osl 100007 g18 0 ((l17h :: l17t)).length)), (70, .one (.osl 100007 g18 0 ((l17h :: l17t)).length))] [] (by kernel_rfl) ?_
      refine SimI.done (by kernel_rfl) ?_
      refine SimE.thenN ?_
      refine Sim.ret ?_
      exact SimE.fin (out_of (os := []) (ress_cons (resOf_own (c := Rect.cod) (k := 100007) (g := g18) (el := 35) (l := (l17h :: l17t)) (by kernel_rfl) (by kernel_rfl)) (ress_nil)) (by kernel_rfl) (by kernel_rfl))

def F22_u15 (n : Nat) (a0 : Rect) (r2 : Rect) (l13 : (List Rect)) : Option (List Rect) :=
    (F28 n (Rect.mk r2.X1 r2.Y0 a0.X1 r2.Y1)).bind fun (r16 : Bool) =>
    if !(r16) then
      if ((l13).length + 1) * 32 ≤ maxCells ∧ (l13).length + 1 ≤ maxCells then
        F22_u19 n (l13 ++ [(Rect.mk r2.X1 r2.Y0 a0.X1 r2.Y1)])
      else none
    else
      F22_u19 n l13
theorem F22_u15_ok (n : Nat) (a0 : Rect) (r2 : Rect) (l13 : (List Rect)) (g14 : Nat) : SimL Try.prog D (n + 8) (n + 5) pc22_c33 [(6, .one (.ptr 6 0)), (7, .one (ownL 100007 g14 l13)), (8, .one (li .i64 3))] ((6, some (.cells [li .i64 a0.X0, li .i64 a0.Y0, li .i64 a0.X1, li .i64 r2.Y0, li .i64 a0.X0, li .i64 r2.Y1, li .i64 a0.X1, li .i64 a0.Y1, li .i64 a0.X0, li .i64 r2.Y0, li .i64 r2.X0, li .i64 r2.Y1, li .i64 r2.X1, li .i64 r2.Y0, li .i64 a0.X1, li .i64 r2.Y1])) :: (ownM Rect.cod 35 100007 g14 l13 [])) (F22_u15 n a0 r2 l13) (QB 0 (QT Try.prog D (n + 8) pc22_c39 (QF pc22_r 0 F22_e))) := by
    cases l13 with
    | nil =>
      unfold F22_u15
      refine SimL.succ ?_
      refine Sim.seq ?_
      refine Sim.seq ?_
      refine Sim.region [(6, .one (.ptr 6 0)), (7, .one (lnil)), (8, .one (li .i64 3))] ((6, some (.cells [li .i64 a0.X0, li .i64 a0.Y0, li .i64 a0.X1, li .i64 r2.Y0, li .i64 a0.X0, li .i64 r2.Y1, li .i64 a0.X1, li .i64 a0.Y1, li .i64 a0.X0, li .i64 r2.Y0, li .i64 r2.X0, li .i64 r2.Y1, li .i64 r2.X1, li .i64 r2.Y0, li .i64 a0.X1, li .i64 r2.Y1])) :: []) (by kernel_rfl) ?_
      refine SimI.run 2 [(56, .one (lb true)), (55, .one (li .i64 3))] [] (by kernel_rfl) ?_
      refine SimI.done (by kernel_rfl) ?_
      refine SimE.thenN ?_
      refine Sim.condT (by kernel_rfl) ?_
      refine Sim.skip ?_
      refine SimE.thenN ?_
      refine Sim.seq ?_
      refine Sim.block ?_
      refine Sim.seq ?_
      refine Sim.region0 ?_
      refine SimI.run 3 [(61, .agg [li .i64 r2.X1, li .i64 r2.Y0, li .i64 a0.X1, li .i64 r2.Y1]), (60, .one (.ptr 6 12)), (59, .one (li .i64 3))] [] (by kernel_rfl) ?_
      refine SimI.bind (og := F28 n (Rect.mk r2.X1 r2.Y0 a0.X1 r2.Y1)) { dst := some 62, op := POp.call true [[]] 28 [Operand.tmp 61], guard := none, hints := [] } (fun r16 => [(62, .one (lb r16))]) (fun r16 => []) (by kernel_rfl) (fun r16 hr => pOp_eff (by kernel_rfl) (by kernel_rfl) (eff_call (ARGS := [.agg [li .i64 r2.X1, li .i64 r2.Y0, li .i64 a0.X1, li .i64 r2.Y1]]) (by kernel_rfl) (args_clean (by kernel_rfl) args_nil) (F28_ok n (Rect.mk r2.X1 r2.Y0 a0.X1 r2.Y1) r16 hr) (by kernel_rfl))) (fun r16 => ?_)
      refine SimI.run 1 [(63, .one (lb (!(r16))))] [] (by kernel_rfl) ?_
      refine SimI.done (by kernel_rfl) ?_
      refine SimE.thenN ?_
      refine Sim.cond (!(r16)) (by kernel_rfl) ?_ ?_
      · refine Sim.region0 ?_
        refine SimI.run 5 [(68, .one (vw Rect.cod [(Rect.mk r2.X1 r2.Y0 a0.X1 r2.Y1)])), (67, .agg [li .i64 r2.X1, li .i64 r2.Y0, li .i64 a0.X1, li .i64 r2.Y1]), (66, .one (.ptr 6 12)), (65, .one (li .i64 3)), (64, .one (lnil))] [] (by kernel_rfl) ?_
        refine SimI.guard (c := (([] : List Rect).length + 1) * 32 ≤ maxCells ∧ ([] : List Rect).length + 1 ≤ maxCells) { dst := some 69, op := POp.app 100007 35 4 32 (Operand.tmp 64) (Operand.tmp 68), guard := none, hints := [] } [(69, .one (.osl 100007 0 0 ([(Rect.mk r2.X1 r2.Y0 a0.X1 r2.Y1)]).length))] [(100007, some (.arr 35 Rect.cod.sz 0 ([(Rect.mk r2.X1 r2.Y0 a0.X1 r2.Y1)]).length (getOf Rect.cod [(Rect.mk r2.X1 r2.Y0 a0.X1 r2.Y1)])))] (by kernel_rfl) (fun hc => pOp_eff (by kernel_rfl) (by kernel_rfl) (eff_appN (c := Rect.cod) (a := (Rect.mk r2.X1 r2.Y0 a0.X1 r2.Y1)) (by kernel_rfl) (by kernel_rfl) (by kernel_rfl) (by kernel_rfl) (by kernel_rfl) (by kernel_rfl))) ?_
        refine SimI.run 1 [(7, .one (.osl 100007 0 0 ([(Rect.mk r2.X1 r2.Y0 a0.X1 r2.Y1)]).length))] [] (by kernel_rfl) ?_
        refine SimI.done (by kernel_rfl) ?_
        refine SimE.blockN ?_
        refine SimE.thenN ?_
        refine Sim.region0 ?_
        refine SimI.run 3 [(8, .one (li .i64 4)), (58, .one (li .i64 4)), (57, .one (li .i64 3))] [] (by kernel_rfl) ?_
        refine SimI.done (by kernel_rfl) ?_
        refine SimE.loopN ?_
        refine SimL.pre (ts := [6, 7, 8]) (os := [2, 3, 5, 6, 100007]) [(6, .one (.ptr 6 0)), (7, .one (ownL 100007 0 [(Rect.mk r2.X1 r2.Y0 a0.X1 r2.Y1)])), (8, .one (li .i64 4))] ((6, some (.cells [li .i64 a0.X0, li .i64 a0.Y0, li .i64 a0.X1, li .i64 r2.Y0, li .i64 a0.X0, li .i64 r2.Y1, li .i64 a0.X1, li .i64 a0.Y1, li .i64 a0.X0, li .i64 r2.Y0, li .i64 r2.X0, li .i64 r2.Y1, li .i64 r2.X1, li .i64 r2.Y0, li .i64 a0.X1, li .i64 r2.Y1])) :: (ownM Rect.cod 35 100007 0 [(Rect.mk r2.X1 r2.Y0 a0.X1 r2.Y1)] [])) (by kernel_rfl) (by kernel_rfl) (by kernel_rfl) ?_
        exact F22_u19_ok n a0 r2 [(Rect.mk r2.X1 r2.Y0 a0.X1 r2.Y1)] 0
      · refine Sim.skip ?_
        refine SimE.blockN ?_
        refine SimE.thenN ?_
        refine Sim.region0 ?_
        refine SimI.run 3 [(8, .one (li .i64 4)), (58, .one (li .i64 4)), (57, .one (li .i64 3))] [] (by kernel_rfl) ?_
        refine SimI.done (by kernel_rfl) ?_
        refine SimE.loopN ?_
        refine SimL.pre (ts := [6, 7, 8]) (os := [2, 3, 5, 6, 100007]) [(6, .one (.ptr 6 0)), (7, .one (ownL 100007 0 ([] : List Rect))), (8, .one (li .i64 4))] ((6, some (.cells [li .i64 a0.X0, li .i64 a0.Y0, li .i64 a0.X1, li .i64 r2.Y0, li .i64 a0.X0, li .i64 r2.Y1, li .i64 a0.X1, li .i64 a0.Y1, li .i64 a0.X0, li .i64 r2.Y0, li .i64 r2.X0, li .i64 r2.Y1, li .i64 r2.X1, li .i64 r2.Y0, li .i64 a0.X1, li .i64 r2.Y1])) :: (ownM Rect.cod 35 100007 0 ([] : List Rect) [])) (by kernel_rfl) (by kernel_rfl) (by kernel_rfl) ?_
        exact F22_u19_ok n a0 r2 ([] : List Rect) 0
    | cons l13h l13t =>
      unfold F22_u15
      refine SimL.succ ?_
      refine Sim.seq ?_
      refine Sim.seq ?_
      refine Sim.region [(6, .one (.ptr 6 0)), (7, .one (.osl 100007 g14 0 ((l13h :: l13t)).length)), (8, .one (li .i64 3))] ((6, some (.cells [li .i64 a0.X0, li .i64 a0.Y0, li .i64 a0.X1, li .i64 r2.Y0, li .i64 a0.X0, li .i64 r2.Y1, li .i64 a0.X1, li .i64 a0.Y1, li .i64 a0.X0, li .i64 r2.Y0, li .i64 r2.X0, li .i64 r2.Y1, li .i64 r2.X1, li .i64 r2.Y0, li .i64 a0.X1, li .i64 r2.Y1])) :: ((100007, some (.arr 35 Rect.cod.sz g14 ((l13h :: l13t)).length (getOf Rect.cod (l13h :: l13t)))) :: [])) (by kernel_rfl) ?_
      refine SimI.run 2 [(56, .one (lb true)), (55, .one (li .i64 3))] [] (by kernel_rfl) ?_
      refine SimI.done (by kernel_rfl) ?_
      refine SimE.thenN ?_
      refine Sim.condT (by kernel_rfl) ?_
      refine Sim.skip ?_
      refine SimE.thenN ?_
      refine Sim.seq ?_
      refine Sim.block ?_
      refine Sim.seq ?_
      refine Sim.region0 ?_
      refine SimI.run 3 [(61, .agg [li .i64 r2.X1, li .i64 r2.Y0, li .i64 a0.X1, li .i64 r2.Y1]), (60, .one (.ptr 6 12)), (59, .one (li .i64 3))] [] (by kernel_rfl) ?_
      refine SimI.bind (og := F28 n (Rect.mk r2.X1 r2.Y0 a0.X1 r2.Y1)) { dst := some 62, op := POp.call true [[]] 28 [Operand.tmp 61], guard := none, hints := [] } (fun r16 => [(62, .one (lb r16))]) (fun r16 => []) (by kernel_rfl) (fun r16 hr => pOp_eff (by kernel_rfl) (by kernel_rfl) (eff_call (ARGS := [.agg [li .i64 r2.X1, li .i64 r2.Y0, li .i64 a0.X1, li .i64 r2.Y1]]) (by kernel_rfl) (args_clean (by kernel_rfl) args_nil) (F28_ok n (Rect.mk r2.X1 r2.Y0 a0.X1 r2.Y1) r16 hr) (by kernel_rfl))) (fun r16 => ?_)
      refine SimI.run 1 [(63, .one (lb (!(r16))))] [] (by kernel_rfl) ?_
      refine SimI.done (by kernel_rfl) ?_
      refine SimE.thenN ?_
      refine Sim.cond (!(r16)) (by kernel_rfl) ?_ ?_
      · refine Sim.region0 ?_
        refine SimI.run 5 [(68, .one (vw Rect.cod [(Rect.mk r2.X1 r2.Y0 a0.X1 r2.Y1)])), (67, .agg [li .i64 r2.X1, li .i64 r2.Y0, li .i64 a0.X1, li .i64 r2.Y1]), (66, .one (.ptr 6 12)), (65, .one (li .i64 3)), (64, .one (.osl 100007 g14 0 ((l13h :: l13t)).length))] [] (by kernel_rfl) ?_
        refine SimI.guard (c := (((l13h :: l13t)).length + 1) * 32 ≤ maxCells ∧ ((l13h :: l13t)).length + 1 ≤ maxCells) { dst := some 69, op := POp.app 100007 35 4 32 (Operand.tmp 64) (Operand.tmp 68), guard := none, hints := [] } [(69, .one (.osl 100007 (g14 + 1) 0 (((l13h :: l13t) ++ [(Rect.mk r2.X1 r2.Y0 a0.X1 r2.Y1)])).length))] [(100007, some (.arr 35 Rect.cod.sz (g14 + 1) (((l13h :: l13t) ++ [(Rect.mk r2.X1 r2.Y0 a0.X1 r2.Y1)])).length (getOf Rect.cod ((l13h :: l13t) ++ [(Rect.mk r2.X1 r2.Y0 a0.X1 r2.Y1)]))))] (by kernel_rfl) (fun hc => pOp_eff (by kernel_rfl) (by kernel_rfl) (eff_appO (c := Rect.cod) (g := g14) (l := (l13h :: l13t)) (a := (Rect.mk r2.X1 r2.Y0 a0.X1 r2.Y1)) (by kernel_rfl) (by kernel_rfl) (by kernel_rfl) (by kernel_rfl) hc)) ?_
        refine SimI.run 1 [(7, .one (.osl 100007 (g14 + 1) 0 (((l13h :: l13t) ++ [(Rect.mk r2.X1 r2.Y0 a0.X1 r2.Y1)])).length))] [] (by kernel_rfl) ?_
        refine SimI.done (by kernel_rfl) ?_
        refine SimE.blockN ?_
        refine SimE.thenN ?_
        refine Sim.region0 ?_
        refine SimI.run 3 [(8, .one (li .i64 4)), (58, .one (li .i64 4)), (57, .one (li .i64 3))] [] (by kernel_rfl) ?_
        refine SimI.done (by kernel_rfl) ?_
        refine SimE.loopN ?_
        refine SimL.pre (ts := [6, 7, 8]) (os := [2, 3, 5, 6, 100007]) [(6, .one (.ptr 6 0)), (7, .one (ownL 100007 (g14 + 1) ((l13h :: l13t) ++ [(Rect.mk r2.X1 r2.Y0 a0.X1 r2.Y1)]))), (8, .one (li .i64 4))] ((6, some (.cells [li .i64 a0.X0, li .i64 a0.Y0, li .i64 a0.X1, li .i64 r2.Y0, li .i64 a0.X0, li .i64 r2.Y1, li .i64 a0.X1, li .i64 a0.Y1, li .i64 a0.X0, li .i64 r2.Y0, li .i64 r2.X0, li .i64 r2.Y1, li .i64 r2.X1, li .i64 r2.Y0, li .i64 a0.X1, li .i64 r2.Y1])) :: (ownM Rect.cod 35 100007 (g14 + 1) ((l13h :: l13t) ++ [(Rect.mk r2.X1 r2.Y0 a0.X1 r2.Y1)]) [])) (by kernel_rfl) (by kernel_rfl) (by kernel_rfl) ?_
        exact F22_u19_ok n a0 r2 ((l13h :: l13t) ++ [(Rect.mk r2.X1 r2.Y0 a0.X1 r2.Y1)]) (g14 + 1)
      · refine Sim.skip ?_
        refine SimE.blockN ?_
        refine SimE.thenN ?_
        refine Sim.region0 ?_
        refine SimI.run 3 [(8, .one (li .i64 4)), (58, .one (li .i64 4)), (57, .one (li .i64 3))] [] (by kernel_rfl) ?_
        refine SimI.done (by kernel_rfl) ?_
        refine SimE.loopN ?_
        refine SimL.pre (ts := [6, 7, 8]) (os := [2, 3, 5, 6, 100007]) [(6, .one (.ptr 6 0)), (7, .one (ownL 100007 g14 (l13h :: l13t))), (8, .one (li .i64 4))] ((6, some (.cells [li .i64 a0.X0, li .i64 a0.Y0, li .i64 a0.X1, li .i64 r2.Y0, li .i64 a0.X0, li .i64 r2.Y1, li .i64 a0.X1, li .i64 a0.Y1, li .i64 a0.X0, li .i64 r2.Y0, li .i64 r2.X0, li .i64 r2.Y1, li .i64 r2.X1, li .i64 r2.Y0, li .i64 a0.X1, li .i64 r2.Y1])) :: (ownM Rect.cod 35 100007 g14 (l13h :: l13t) [])) (by kernel_rfl) (by kernel_rfl) (by kernel_rfl) ?_
        exact F22_u19_ok n a0 r2 (l13h :: l13t) g14

def F22_u11 (n : Nat) (a0 : Rect) (r2 : Rect) (l9 : (List Rect)) : Option (List Rect) :=
    (F28 n (Rect.mk a0.X0 r2.Y0 r2.X0 r2.Y1)).bind fun (r12 : Bool) =>
    if !(r12) then
      if ((l9).length + 1) * 32 ≤ maxCells ∧ (l9).length + 1 ≤ maxCells then
        F22_u15 n a0 r2 (l9 ++ [(Rect.mk a0.X0 r2.Y0 r2.X0 r2.Y1)])
      else none
    else
      F22_u15 n a0 r2 l9
theorem F22_u11_ok (n : Nat) (a0 : Rect) (r2 : Rect) (l9 : (List Rect)) (g10 : Nat) : SimL Try.prog D (n + 8) (n + 6) pc22_c33 [(6, .one (.ptr 6 0)), (7, .one (ownL 100007 g10 l9)), (8, .one (li .i64 2))] ((6, some (.cells [li .i64 a0.X0, li .i64 a0.Y0, li .i64 a0.X1, li .i64 r2.Y0, li .i64 a0.X0, li .i64 r2.Y1, li .i64 a0.X1, li .i64 a0.Y1, li .i64 a0.X0, li .i64 r2.Y0, li .i64 r2.X0, li .i64 r2.Y1, li .i64 r2.X1, li .i64 r2.Y0, li .i64 a0.X1, li .i64 r2.Y1])) :: (ownM Rect.cod 35 100007 g10 l9 [])) (F22_u11 n a0 r2 l9) (QB 0 (QT Try.prog D (n + 8) pc22_c39 (QF pc22_r 0 F22_e))) := by
    cases l9 with
    | nil =>
      unfold F22_u11
      refine SimL.succ ?_
      refine Sim.seq ?_
      refine Sim.seq ?_
      refine Sim.region [(6, .one (.ptr 6 0)), (7, .one (lnil)), (8, .one (li .i64 2))] ((6, some (.cells [li .i64 a0.X0, li .i64 a0.Y0, li .i64 a0.X1, li .i64 r2.Y0, li .i64 a0.X0, li .i64 r2.Y1, li .i64 a0.X1, li .i64 a0.Y1, li .i64 a0.X0, li .i64 r2.Y0, li .i64 r2.X0, li .i64 r2.Y1, li .i64 r2.X1, li .i64 r2.Y0, li .i64 a0.X1, li .i64 r2.Y1])) :: []) (by kernel_rfl) ?_
      refine SimI.run 2 [(56, .one (lb true)), (55, .one (li .i64 2))] [] (by kernel_rfl) ?_
      refine SimI.done (by kernel_rfl) ?_
      refine SimE.thenN ?_
      refine Sim.condT (by kernel_rfl) ?_
      refine Sim.skip ?_
      refine SimE.thenN ?_
      refine Sim.seq ?_
      refine Sim.block ?_
      refine Sim.seq ?_
      refine Sim.region0 ?_
      refine SimI.run 3 [(61, .agg [li .i64 a0.X0, li .i64 r2.Y0, li .i64 r2.X0, li .i64 r2.Y1]), (60, .one (.ptr 6 8)), (59, .one (li .i64 2))] [] (by kernel_rfl) ?_
      refine SimI.bind (og := F28 n (Rect.mk a0.X0 r2.Y0 r2.X0 r2.Y1)) { dst := some 62, op := POp.call true [[]] 28 [Operand.tmp 61], guard := none, hints := [] } (fun r12 => [(62, .one (lb r12))]) (fun r12 => []) (by kernel_rfl) (fun r12 hr => pOp_eff (by kernel_rfl) (by kernel_rfl) (eff_call (ARGS := [.agg [li .i64 a0.X0, li .i64 r2.Y0, li .i64 r2.X0, li .i64 r2.Y1]]) (by kernel_rfl) (args_clean (by kernel_rfl) args_nil) (F28_ok n (Rect.mk a0.X0 r2.Y0 r2.X0 r2.Y1) r12 hr) (by kernel_rfl))) (fun r12 => ?_)
      refine SimI.run 1 [(63, .one (lb (!(r12))))] [] (by kernel_rfl) ?_
      refine SimI.done (by kernel_rfl) ?_
      refine SimE.thenN ?_
      refine Sim.cond (!(r12)) (by kernel_rfl) ?_ ?_
      · refine Sim.region0 ?_
        refine SimI.run 5 [(68, .one (vw Rect.cod [(Rect.mk a0.X0 r2.Y0 r2.X0 r2.Y1)])), (67, .agg [li .i64 a0.X0, li .i64 r2.Y0, li .i64 r2.X0, li .i64 r2.Y1]), (66, .one (.ptr 6 8)), (65, .one (li .i64 2)), (64, .one (lnil))] [] (by kernel_rfl) ?_
        refine SimI.guard (c := (([] : List Rect).length + 1) * 32 ≤ maxCells ∧ ([] : List Rect).length + 1 ≤ maxCells) { dst := some 69, op := POp.app 100007 35 4 32 (Operand.tmp 64) (Operand.tmp 68), guard := none, hints := [] } [(69, .one (.osl 100007 0 0 ([(Rect.mk a0.X0 r2.Y0 r2.X0 r2.Y1)]).length))] [(100007, some (.arr 35 Rect.cod.sz 0 ([(Rect.mk a0.X0 r2.Y0 r2.X0 r2.Y1)]).length (getOf Rect.cod [(Rect.mk a0.X0 r2.Y0 r2.X0 r2.Y1)])))] (by kernel_rfl) (fun hc => pOp_eff (by kernel_rfl) (by kernel_rfl) (eff_appN (c := Rect.cod) (a := (Rect.mk a0.X0 r2.Y0 r2.X0 r2.Y1)) (by kernel_rfl) (by kernel_rfl) (by kernel_rfl) (by kernel_rfl) (by kernel_rfl) (by kernel_rfl))) ?_
        refine SimI.run 1 [(7, .one (.osl 100007 0 0 ([(Rect.mk a0.X0 r2.Y0 r2.X0 r2.Y1)]).length))] [] (by kernel_rfl) ?_
        refine SimI.done (by kernel_rfl) ?_
        refine SimE.blockN ?_
        refine SimE.thenN ?_
        refine Sim.region0 ?_
        refine SimI.run 3 [(8, .one (li .i64 3)), (58, .one (li .i64 3)), (57, .one (li .i64 2))] [] (by kernel_rfl) ?_
        refine SimI.done (by kernel_rfl) ?_
        refine SimE.loopN ?_
        refine SimL.pre (ts := [6, 7, 8]) (os := [2, 3, 5, 6, 100007]) [(6, .one (.ptr 6 0)), (7, .one (ownL 100007 0 [(Rect.mk a0.X0 r2.Y0 r2.X0 r2.Y1)])), (8, .one (li .i64 3))] ((6, some (.cells [li .i64 a0.X0, li .i64 a0.Y0, li .i64 a0.X1, li .i64 r2.Y0, li .i64 a0.X0, li .i64 r2.Y1, li .i64 a0.X1, li .i64 a0.Y1, li .i64 a0.X0, li .i64 r2.Y0, li .i64 r2.X0, li .i64 r2.Y1, li .i64 r2.X1, li .i64 r2.Y0, li .i64 a0.X1, li .i64 r2.Y1])) :: (ownM Rect.cod 35 100007 0 [(Rect.mk a0.X0 r2.Y0 r2.X0 r2.Y1)] [])) (by kernel_rfl) (by kernel_rfl) (by kernel_rfl) ?_
        exact F22_u15_ok n a0 r2 [(Rect.mk a0.X0 r2.Y0 r2.X0 r2.Y1)] 0
      · refine Sim.skip ?_
        refine SimE.blockN ?_
        refine SimE.thenN ?_
        refine Sim.region0 ?_
        refine SimI.run 3 [(8, .one (li .i64 3)), (58, .one (li .i64 3)), (57, .one (li .i64 2))] [] (by kernel_rfl) ?_
        refine SimI.done (by kernel_rfl) ?_
        refine SimE.loopN ?_
        refine SimL.pre (ts := [6, 7, 8]) (os := [2, 3, 5, 6, 100007]) [(6, .one (.ptr 6 0)), (7, .one (ownL 100007 0 ([] : List Rect))), (8, .one (li .i64 3))] ((6, some (.cells [li .i64 a0.X0, li .i64 a0.Y0, li .i64 a0.X1, li .i64 r2.Y0, li .i64 a0.X0, li .i64 r2.Y1, li .i64 a0.X1, li .i64 a0.Y1, li .i64 a0.X0, li .i64 r2.Y0, li .i64 r2.X0, li .i64 r2.Y1, li .i64 r2.X1, li .i64 r2.Y0, li .i64 a0.X1, li .i64 r2.Y1])) :: (ownM Rect.cod 35 100007 0 ([] : List Rect) [])) (by kernel_rfl) (by kernel_rfl) (by kernel_rfl) ?_
        exact F22_u15_ok n a0 r2 ([] : List Rect) 0
    | cons l9h l9t =>
      unfold F22_u11
      refine SimL.succ ?_
      refine Sim.seq ?_
      refine Sim.seq ?_
      refine Sim.region [(6, .one (.ptr 6 0)), (7, .one (.osl 100007 g10 0 ((l9h :: l9t)).length)), (8, .one (li .i64 2))] ((6, some (.cells [li .i64 a0.X0, li .i64 a0.Y0, li .i64 a0.X1, li .i64 r2.Y0, li .i64 a0.X0, li .i64 r2.Y1, li .i64 a0.X1, li .i64 a0.Y1, li .i64 a0.X0, li .i64 r2.Y0, li .i64 r2.X0, li .i64 r2.Y1, li .i64 r2.X1, li .i64 r2.Y0, li .i64 a0.X1, li .i64 r2.Y1])) :: ((100007, some (.arr 35 Rect.cod.sz g10 ((l9h :: l9t)).length (getOf Rect.cod (l9h :: l9t)))) :: [])) (by kernel_rfl) ?_
      refine SimI.run 2 [(56, .one (lb true)), (55, .one (li .i64 2))] [] (by kernel_rfl) ?_
      refine SimI.done (by kernel_rfl) ?_
      refine SimE.thenN ?_
      refine Sim.condT (by kernel_rfl) ?_
      refine Sim.skip ?_
      refine SimE.thenN ?_
      refine Sim.seq ?_
      refine Sim.block ?_
      refine Sim.seq ?_
      refine Sim.region0 ?_
      refine SimI.run 3 [(61, .agg [li .i64 a0.X0, li .i64 r2.Y0, li .i64 r2.X0, li .i64 r2.Y1]), (60, .one (.ptr 6 8)), (59, .one (li .i64 2))] [] (by kernel_rfl) ?_
      refine SimI.bind (og := F28 n (Rect.mk a0.X0 r2.Y0 r2.X0 r2.Y1)) { dst := some 62, op := POp.call true [[]] 28 [Operand.tmp 61], guard := none, hints := [] } (fun r12 => [(62, .one (lb r12))]) (fun r12 => []) (by kernel_rfl) (fun r12 hr => pOp_eff (by kernel_rfl) (by kernel_rfl) (eff_call (ARGS := [.agg [li .i64 a0.X0, li .i64 r2.Y0, li .i64 r2.X0, li .i64 r2.Y1]]) (by kernel_rfl) (args_clean (by kernel_rfl) args_nil) (F28_ok n (Rect.mk a0.X0 r2.Y0 r2.X0 r2.Y1) r12 hr) (by kernel_rfl))) (fun r12 => ?_)
      refine SimI.run 1 [(63, .one (lb (!(r12))))] [] (by kernel_rfl) ?_
      refine SimI.done (by kernel_rfl) ?_
      refine SimE.thenN ?_
      refine Sim.cond (!(r12)) (by kernel_rfl) ?_ ?_
      · refine Sim.region0 ?_
        refine SimI.run 5 [(68, .one (vw Rect.cod [(Rect.mk a0.X0 r2.Y0 r2.X0 r2.Y1)])), (67, .agg [li .i64 a0.X0, li .i64 r2.Y0, li .i64 r2.X0, li .i64 r2.Y1]), (66, .one (.ptr 6 8)), (65, .one (li .i64 2)), (64, .one (.osl 100007 g10 0 ((l9h :: l9t)).length))] [] (by kernel_rfl) ?_
        refine SimI.guard (c := (((l9h :: l9t)).length + 1) * 32 ≤ maxCells ∧ ((l9h :: l9t)).length + 1 ≤ maxCells) { dst := some 69, op := POp.app 100007 35 4 32 (Operand.tmp 64) (Operand.tmp 68), guard := none, hints := [] } [(69, .one (.osl 100007 (g10 + 1) 0 (((l9h :: l9t) ++ [(Rect.mk a0.X0 r2.Y0 r2.X0 r2.Y1)])).length))] [(100007, some (.arr 35 Rect.cod.sz (g10 + 1) (((l9h :: l9t) ++ [(Rect.mk a0.X0 r2.Y0 r2.X0 r2.Y1)])).length (getOf Rect.cod ((l9h :: l9t) ++ [(Rect.mk a0.X0 r2.Y0 r2.X0 r2.Y1)]))))] (by kernel_rfl) (fun hc => pOp_eff (by kernel_rfl) (by kernel_rfl) (eff_appO (c := Rect.cod) (g := g10) (l := (l9h :: l9t)) (a := (Rect.mk a0.X0 r2.Y0 r2.X0 r2.Y1)) (by kernel_rfl) (by kernel_rfl) (by kernel_rfl) (by kernel_rfl) hc)) ?_
        refine SimI.run 1 [(7, .one (.osl 100007 (g10 + 1) 0 (((l9h :: l9t) ++ [(Rect.mk a0.X0 r2.Y0 r2.X0 r2.Y1)])).length))] [] (by kernel_rfl) ?_
        refine SimI.done (by kernel_rfl) ?_
        refine SimE.blockN ?_
        refine SimE.thenN ?_
        refine Sim.region0 ?_
        refine SimI.run 3 [(8, .one (li .i64 3)), (58, .one (li .i64 3)), (57, .one (li .i64 2))] [] (by kernel_rfl) ?_
        refine SimI.done (by kernel_rfl) ?_
        refine SimE.loopN ?_
        refine SimL.pre (ts := [6, 7, 8]) (os := [2, 3, 5, 6, 100007]) [(6, .one (.ptr 6 0)), (7, .one (ownL 100007 (g10 + 1) ((l9h :: l9t) ++ [(Rect.mk a0.X0 r2.Y0 r2.X0 r2.Y1)]))), (8, .one (li .i64 3))] ((6, some (.cells [li .i64 a0.X0, li .i64 a0.Y0, li .i64 a0.X1, li .i64 r2.Y0, li .i64 a0.X0, li .i64 r2.Y1, li .i64 a0.X1, li .i64 a0.Y1, li .i64 a0.X0, li .i64 r2.Y0, li .i64 r2.X0, li .i64 r2.Y1, li .i64 r2.X1, li .i64 r2.Y0, li .i64 a0.X1, li .i64 r2.Y1])) :: (ownM Rect.cod 35 100007 (g10 + 1) ((l9h :: l9t) ++ [(Rect.mk a0.X0 r2.Y0 r2.X0 r2.Y1)]) [])) (by kernel_rfl) (by kernel_rfl) (by kernel_rfl) ?_
        exact F22_u15_ok n a0 r2 ((l9h :: l9t) ++ [(Rect.mk a0.X0 r2.Y0 r2.X0 r2.Y1)]) (g10 + 1)
      · refine Sim.skip ?_
        refine SimE.blockN ?_
        refine SimE.thenN ?_
        refine Sim.region0 ?_
        refine SimI.run 3 [(8, .one (li .i64 3)), (58, .one (li .i64 3)), (57, .one (li .i64 2))] [] (by kernel_rfl) ?_
        refine SimI.done (by kernel_rfl) ?_
        refine SimE.loopN ?_
        refine SimL.pre (ts := [6, 7, 8]) (os := [2, 3, 5, 6, 100007]) [(6, .one (.ptr 6 0)), (7, .one (ownL 100007 g10 (l9h :: l9t))), (8, .one (li .i64 3))] ((6, some (.cells [li .i64 a0.X0, li .i64 a0.Y0, li .i64 a0.X1, li .i64 r2.Y0, li .i64 a0.X0, li .i64 r2.Y1, li .i64 a0.X1, li .i64 a0.Y1, li .i64 a0.X0, li .i64 r2.Y0, li .i64 r2.X0, li .i64 r2.Y1, li .i64 r2.X1, li .i64 r2.Y0, li .i64 a0.X1, li .i64 r2.Y1])) :: (ownM Rect.cod 35 100007 g10 (l9h :: l9t) [])) (by kernel_rfl) (by kernel_rfl) (by kernel_rfl) ?_
        exact F22_u15_ok n a0 r2 (l9h :: l9t) g10

def F22_u7 (n : Nat) (a0 : Rect) (r2 : Rect) (l5 : (List Rect)) : Option (List Rect) :=
    (F28 n (Rect.mk a0.X0 r2.Y1 a0.X1 a0.Y1)).bind fun (r8 : Bool) =>
    if !(r8) then
      if ((l5).length + 1) * 32 ≤ maxCells ∧ (l5).length + 1 ≤ maxCells then
        F22_u11 n a0 r2 (l5 ++ [(Rect.mk a0.X0 r2.Y1 a0.X1 a0.Y1)])
      else none
    else
      F22_u11 n a0 r2 l5
theorem F22_u7_ok (n : Nat) (a0 : Rect) (r2 : Rect) (l5 : (List Rect)) (g6 : Nat) : SimL Try.prog D (n + 8) (n + 7) pc22_c33 [(6, .one (.ptr 6 0)), (7, .one (ownL 100007 g6 l5)), (8, .one (li .i64 1))] ((6, some (.cells [li .i64 a0.X0, li .i64 a0.Y0, li .i64 a0.X1, li .i64 r2.Y0, li .i64 a0.X0, li .i64 r2.Y1, li .i64 a0.X1, li .i64 a0.Y1, li .i64 a0.X0, li .i64 r2.Y0, li .i64 r2.X0, li .i64 r2.Y1, li .i64 r2.X1, li .i64 r2.Y0, li .i64 a0.X1, li .i64 r2.Y1])) :: (ownM Rect.cod 35 100007 g6 l5 [])) (F22_u7 n a0 r2 l5) (QB 0 (QT Try.prog D (n + 8) pc22_c39 (QF pc22_r 0 F22_e))) := by
    cases l5 with
    | nil =>
      unfold F22_u7
      refine SimL.succ ?_
      refine Sim.seq ?_
      refine Sim.seq ?_
      refine Sim.region [(6, .one (.ptr 6 0)), (7, .one (lnil)), (8, .one (li .i64 1))] ((6, some (.cells [li .i64 a0.X0, li .i64 a0.Y0, li .i64 a0.X1, li .i64 r2.Y0, li .i64 a0.X0, li .i64 r2.Y1, li .i64 a0.X1, li .i64 a0.Y1, li .i64 a0.X0, li .i64 r2.Y0, li .i64 r2.X0, li .i64 r2.Y1, li .i64 r2.X1, li .i64 r2.Y0, li .i64 a0.X1, li .i64 r2.Y1])) :: []) (by kernel_rfl) ?_
      refine SimI.run 2 [(56, .one (lb true)), (55, .one (li .i64 1))] [] (by kernel_rfl) ?_
      refine SimI.done (by kernel_rfl) ?_
      refine SimE.thenN ?_
      refine Sim.condT (by kernel_rfl) ?_
      refine Sim.skip ?_
      refine SimE.thenN ?_
      refine Sim.seq ?_
      refine Sim.block ?_
      refine Sim.seq ?_
      refine Sim.region0 ?_
      refine SimI.run 3 [(61, .agg [li .i64 a0.X0, li .i64 r2.Y1, li .i64 a0.X1, li .i64 a0.Y1]), (60, .one (.ptr 6 4)), (59, .one (li .i64 1))] [] (by kernel_rfl) ?_
      refine SimI.bind (og := F28 n (Rect.mk a0.X0 r2.Y1 a0.X1 a0.Y1)) { dst := some 62, op := POp.call true [[]] 28 [Operand.tmp 61], guard := none, hints := [] } (fun r8 => [(62, .one (lb r8))]) (fun r8 => []) (by kernel_rfl) (fun r8 hr => pOp_eff (by kernel_rfl) (by kernel_rfl) (eff_call (ARGS := [.agg [li .i64 a0.X0, li .i64 r2.Y1, li .i64 a0.X1, li .i64 a0.Y1]]) (by kernel_rfl) (args_clean (by kernel_rfl) args_nil) (F28_ok n (Rect.mk a0.X0 r2.Y1 a0.X1 a0.Y1) r8 hr) (by kernel_rfl))) (fun r8 => ?_)
      refine SimI.run 1 [(63, .one (lb (!(r8))))] [] (by kernel_rfl) ?_
      refine SimI.done (by kernel_rfl) ?_
      refine SimE.thenN ?_
      refine Sim.cond (!(r8)) (by kernel_rfl) ?_ ?_
      · refine Sim.region0 ?_
        refine SimI.run 5 [(68, .one (vw Rect.cod [(Rect.mk a0.X0 r2.Y1 a0.X1 a0.Y1)])), (67, .agg [li .i64 a0.X0, li .i64 r2.Y1, li .i64 a0.X1, li .i64 a0.Y1]), (66, .one (.ptr 6 4)), (65, .one (li .i64 1)), (64, .one (lnil))] [] (by kernel_rfl) ?_
        refine SimI.guard (c := (([] : List Rect).length + 1) * 32 ≤ maxCells ∧ ([] : List Rect).length + 1 ≤ maxCells) { dst := some 69, op := POp.app 100007 35 4 32 (Operand.tmp 64) (Operand.tmp 68), guard := none, hints := [] } [(69, .one (.osl 100007 0 0 ([(Rect.mk a0.X0 r2.Y1 a0.X1 a0.Y1)]).length))] [(100007, some (.arr 35 Rect.cod.sz 0 ([(Rect.mk a0.X0 r2.Y1 a0.X1 a0.Y1)]).length (getOf Rect.cod [(Rect.mk a0.X0 r2.Y1 a0.X1 a0.Y1)])))] (by kernel_rfl) (fun hc => pOp_eff (by kernel_rfl) (by kernel_rfl) (eff_appN (c := Rect.cod) (a := (Rect.mk a0.X0 r2.Y1 a0.X1 a0.Y1)) (by kernel_rfl) (by kernel_rfl) (by kernel_rfl) (by kernel_rfl) (by kernel_rfl) (by kernel_rfl))) ?_
        refine SimI.run 1 [(7, .one (.osl 100007 0 0 ([(Rect.mk a0.X0 r2.Y1 a0.X1 a0.Y1)]).length))] [] (by kernel_rfl) ?_
        refine SimI.done (by kernel_rfl) ?_
        refine SimE.blockN ?_
        refine SimE.thenN ?_
        refine Sim.region0 ?_
        refine SimI.run 3 [(8, .one (li .i64 2)), (58, .one (li .i64 2)), (57, .one (li .i64 1))] [] (by kernel_rfl) ?_
        refine SimI.done (by kernel_rfl) ?_
        refine SimE.loopN ?_
        refine SimL.pre (ts := [6, 7, 8]) (os := [2, 3, 5, 6, 100007]) [(6, .one (.ptr 6 0)), (7, .one (ownL 100007 0 [(Rect.mk a0.X0 r2.Y1 a0.X1 a0.Y1)])), (8, .one (li .i64 2))] ((6, some (.cells [li .i64 a0.X0, li .i64 a0.Y0, li .i64 a0.X1, li .i64 r2.Y0, li .i64 a0.X0, li .i64 r2.Y1, li .i64 a0.X1, li .i64 a0.Y1, li .i64 a0.X0, li .i64 r2.Y0, li .i64 r2.X0, li .i64 r2.Y1, li .i64 r2.X1, li .i64 r2.Y0, li .i64 a0.X1, li .i64 r2.Y1])) :: (ownM Rect.cod 35 100007 0 [(Rect.mk a0.X0 r2.Y1 a0.X1 a0.Y1)] [])) (by kernel_rfl) (by kernel_rfl) (by kernel_rfl) ?_
        exact F22_u11_ok n a0 r2 [(Rect.mk a0.X0 r2.Y1 a0.X1 a0.Y1)] 0
      · refine Sim.skip ?_
        refine SimE.blockN ?_
        refine SimE.thenN ?_
        refine Sim.region0 ?_
        refine SimI.run 3 [(8, .one (li .i64 2)), (58, .one (li .i64 2)), (57, .one (li .i64 1))] [] (by kernel_rfl) ?_
        refine SimI.done (by kernel_rfl) ?_
        refine SimE.loopN ?_
        refine SimL.pre (ts := [6, 7, 8]) (os := [2, 3, 5, 6, 100007]) [(6, .one (.ptr 6 0)), (7, .one (ownL 100007 0 ([] : List Rect))), (8, .one (li .i64 2))] ((6, some (.cells [li .i64 a0.X0, li .i64 a0.Y0, li .i64 a0.X1, li .i64 r2.Y0, li .i64 a0.X0, li .i64 r2.Y1, li .i64 a0.X1, li .i64 a0.Y1, li .i64 a0.X0, li .i64 r2.Y0, li .i64 r2.X0, li .i64 r2.Y1, li .i64 r2.X1, li .i64 r2.Y0, li .i64 a0.X1, li .i64 r2.Y1])) :: (ownM Rect.cod 35 100007 0 ([] : List Rect) [])) (by kernel_rfl) (by kernel_rfl) (by kernel_rfl) ?_
        exact F22_u11_ok n a0 r2 ([] : List Rect) 0
    | cons l5h l5t =>
      unfold F22_u7
      refine SimL.succ ?_
      refine Sim.seq ?_
      refine Sim.seq ?_
      refine Sim.region [(6, .one (.ptr 6 0)), (7, .one (.osl 100007 g6 0 ((l5h :: l5t)).length)), (8, .one (li .i64 1))] ((6, some (.cells [li .i64 a0.X0, li .i64 a0.Y0, li .i64 a0.X1, li .i64 r2.Y0, li .i64 a0.X0, li .i64 r2.Y1, li .i64 a0.X1, li .i64 a0.Y1, li .i64 a0.X0, li .i64 r2.Y0, li .i64 r2.X0, li .i64 r2.Y1, li .i64 r2.X1, li .i64 r2.Y0, li .i64 a0.X1, li .i64 r2.Y1])) :: ((100007, some (.arr 35 Rect.cod.sz g6 ((l5h :: l5t)).length (getOf Rect.cod (l5h :: l5t)))) :: [])) (by kernel_rfl) ?_
      refine SimI.run 2 [(56, .one (lb true)), (55, .one (li .i64 1))] [] (by kernel_rfl) ?_
      refine SimI.done (by kernel_rfl) ?_
      refine SimE.thenN ?_
      refine Sim.condT (by kernel_rfl) ?_
      refine Sim.skip ?_
      refine SimE.thenN ?_
      refine Sim.seq ?_
      refine Sim.block ?_
      refine Sim.seq ?_
      refine Sim.region0 ?_
      refine SimI.run 3 [(61, .agg [li .i64 a0.X0, li .i64 r2.Y1, li .i64 a0.X1, li .i64 a0.Y1]), (60, .one (.ptr 6 4)), (59, .one (li .i64 1))] [] (by kernel_rfl) ?_
      refine SimI.bind (og := F28 n (Rect.mk a0.X0 r2.Y1 a0.X1 a0.Y1)) { dst := some 62, op := POp.call true [[]] 28 [Operand.tmp 61], guard := none, hints := [] } (fun r8 => [(62, .one (lb r8))]) (fun r8 => []) (by kernel_rfl) (fun r8 hr => pOp_eff (by kernel_rfl) (by kernel_rfl) (eff_call (ARGS := [.agg [li .i64 a0.X0, li .i64 r2.Y1, li .i64 a0.X1, li .i64 a0.Y1]]) (by kernel_rfl) (args_clean (by kernel_rfl) args_nil) (F28_ok n (Rect.mk a0.X0 r2.Y1 a0.X1 a0.Y1) r8 hr) (by kernel_rfl))) (fun r8 => ?_)
      refine SimI.run 1 [(63, .one (lb (!(r8))))] [] (by kernel_rfl) ?_
      refine SimI.done (by kernel_rfl) ?_
      refine SimE.thenN ?_
      refine Sim.cond (!(r8)) (by kernel_rfl) ?_ ?_
      · refine Sim.region0 ?_
        refine SimI.run 5 [(68, .one (vw Rect.cod [(Rect.mk a0.X0 r2.Y1 a0.X1 a0.Y1)])), (67, .agg [li .i64 a0.X0, li .i64 r2.Y1, li .i64 a0.X1, li .i64 a0.Y1]), (66, .one (.ptr 6 4)), (65, .one (li .i64 1)), (64, .one (.osl 100007 g6 0 ((l5h :: l5t)).length))] [] (by kernel_rfl) ?_
        refine SimI.guard (c := (((l5h :: l5t)).length + 1) * 32 ≤ maxCells ∧ ((l5h :: l5t)).length + 1 ≤ maxCells) { dst := some 69, op := POp.app 100007 35 4 32 (Operand.tmp 64) (Operand.tmp 68), guard := none, hints := [] } [(69, .one (.osl 100007 (g6 + 1) 0 (((l5h :: l5t) ++ [(Rect.mk a0.X0 r2.Y1 a0.X1 a0.Y1)])).length))] [(100007, some (.arr 35 Rect.cod.sz (g6 + 1) (((l5h :: l5t) ++ [(Rect.mk a0.X0 r2.Y1 a0.X1 a0.Y1)])).length (getOf Rect.cod ((l5h :: l5t) ++ [(Rect.mk a0.X0 r2.Y1 a0.X1 a0.Y1)]))))] (by kernel_rfl) (fun hc => pOp_eff (by kernel_rfl) (by kernel_rfl) (eff_appO (c := Rect.cod) (g := g6) (l := (l5h :: l5t)) (a := (Rect.mk a0.X0 r2.Y1 a0.X1 a0.Y1)) (by kernel_rfl) (by kernel_rfl) (by kernel_rfl) (by kernel_rfl) hc)) ?_
        refine SimI.run 1 [(7, .one (.osl 100007 (g6 + 1) 0 (((l5h :: l5t) ++ [(Rect.mk a0.X0 r2.Y1 a0.X1 a0.Y1)])).length))] [] (by kernel_rfl) ?_
        refine SimI.done (by kernel_rfl) ?_
        refine SimE.blockN ?_
        refine SimE.thenN ?_
        refine Sim.region0 ?_
        refine SimI.run 3 [(8, .one (li .i64 2)), (58, .one (li .i64 2)), (57, .one (li .i64 1))] [] (by kernel_rfl) ?_
        refine SimI.done (by kernel_rfl) ?_
        refine SimE.loopN ?_
        refine SimL.pre (ts := [6, 7, 8]) (os := [2, 3, 5, 6, 100007]) [(6, .one (.ptr 6 0)), (7, .one (ownL 100007 (g6 + 1) ((l5h :: l5t) ++ [(Rect.mk a0.X0 r2.Y1 a0.X1 a0.Y1)]))), (8, .one (li .i64 2))] ((6, some (.cells [li .i64 a0.X0, li .i64 a0.Y0, li .i64 a0.X1, li .i64 r2.Y0, li .i64 a0.X0, li .i64 r2.Y1, li .i64 a0.X1, li .i64 a0.Y1, li .i64 a0.X0, li .i64 r2.Y0, li .i64 r2.X0, li .i64 r2.Y1, li .i64 r2.X1, li .i64 r2.Y0, li .i64 a0.X1, li .i64 r2.Y1])) :: (ownM Rect.cod 35 100007 (g6 + 1) ((l5h :: l5t) ++ [(Rect.mk a0.X0 r2.Y1 a0.X1 a0.Y1)]) [])) (by kernel_rfl) (by kernel_rfl) (by kernel_rfl) ?_
        exact F22_u11_ok n a0 r2 ((l5h :: l5t) ++ [(Rect.mk a0.X0 r2.Y1 a0.X1 a0.Y1)]) (g6 + 1)
      · refine Sim.skip ?_
        refine SimE.blockN ?_
        refine SimE.thenN ?_
        refine Sim.region0 ?_
        refine SimI.run 3 [(8, .one (li .i64 2)), (58, .one (li .i64 2)), (57, .one (li .i64 1))] [] (by kernel_rfl) ?_
        refine SimI.done (by kernel_rfl) ?_
        refine SimE.loopN ?_
        refine SimL.pre (ts := [6, 7, 8]) (os := [2, 3, 5, 6, 100007]) [(6, .one (.ptr 6 0)), (7, .one (ownL 100007 g6 (l5h :: l5t))), (8, .one (li .i64 2))] ((6, some (.cells [li .i64 a0.X0, li .i64 a0.Y0, li .i64 a0.X1, li .i64 r2.Y0, li .i64 a0.X0, li .i64 r2.Y1, li .i64 a0.X1, li .i64 a0.Y1, li .i64 a0.X0, li .i64 r2.Y0, li .i64 r2.X0, li .i64 r2.Y1, li .i64 r2.X1, li .i64 r2.Y0, li .i64 a0.X1, li .i64 r2.Y1])) :: (ownM Rect.cod 35 100007 g6 (l5h :: l5t) [])) (by kernel_rfl) (by kernel_rfl) (by kernel_rfl) ?_
        exact F22_u11_ok n a0 r2 (l5h :: l5t) g6

def F22 (n : Nat) (a0 : Rect) (a1 : Rect) : Option (List Rect) :=
  (F28 n a0).bind fun (r1 : Bool) =>
  if r1 then
    some ([] : List Rect)
  else
    (F32 n a0 a1).bind fun (r2 : Rect) =>
    (F28 n r2).bind fun (r3 : Bool) =>
    if r3 then
      some [a0]
    else
      (F28 n (Rect.mk a0.X0 a0.Y0 a0.X1 r2.Y0)).bind fun (r4 : Bool) =>
      if !(r4) then
        if (([] : List Rect).length + 1) * 32 ≤ maxCells ∧ ([] : List Rect).length + 1 ≤ maxCells then
          F22_u7 n a0 r2 [(Rect.mk a0.X0 a0.Y0 a0.X1 r2.Y0)]
        else none
      else
        F22_u7 n a0 r2 ([] : List Rect)
theorem F22_ok (n : Nat) (a0 : Rect) (a1 : Rect) : ∀ r, F22 n a0 a1 = some r → D 22 [.agg [li .i64 a0.X0, li .i64 a0.Y0, li .i64 a0.X1, li .i64 a0.Y1], .agg [li .i64 a1.X0, li .i64 a1.Y0, li .i64 a1.X1, li .i64 a1.Y1]] [] = some (F22_e r) := by
  refine fn_to (D := D) (n := n + 8) (nt := 71) (rs := pc22_r) (c := pc22_c46) (L := [(0, .agg [li .i64 a0.X0, li .i64 a0.Y0, li .i64 a0.X1, li .i64 a0.Y1]), (1, .agg [li .i64 a1.X0, li .i64 a1.Y0, li .i64 a1.X1, li .i64 a1.Y1])]) (M := []) (k := 0) rfl rfl rfl rfl rfl rfl ?_
  unfold F22
  refine Sim.seq ?_
  refine Sim.region0 ?_
  refine SimI.run 3 [(4, .one (lnil)), (3, .one (.ptr 3 0)), (2, .one (.ptr 2 0))] [(3, some (.cells [li .i64 a1.X0, li .i64 a1.Y0, li .i64 a1.X1, li .i64 a1.Y1])), (2, some (.cells [li .i64 a0.X0, li .i64 a0.Y0, li .i64 a0.X1, li .i64 a0.Y1]))] (by kernel_rfl) ?_
  refine SimI.done (by kernel_rfl) ?_
  refine SimE.thenN ?_
  refine Sim.seq ?_
  refine Sim.seq ?_
  refine Sim.region0 ?_
  refine SimI.run 1 [(9, .agg [li .i64 a0.X0, li .i64 a0.Y0, li .i64 a0.X1, li .i64 a0.Y1])] [] (by kernel_rfl) ?_
  refine SimI.bind (og := F28 n a0) { dst := some 10, op := POp.call true [[]] 28 [Operand.tmp 9], guard := none, hints := [] } (fun r1 => [(10, .one (lb r1))]) (fun r1 => []) (by kernel_rfl) (fun r1 hr => pOp_eff (by kernel_rfl) (by kernel_rfl) (eff_call (ARGS := [.agg [li .i64 a0.X0, li .i64 a0.Y0, li .i64 a0.X1, li .i64 a0.Y1]]) (by kernel_rfl) (args_clean (by kernel_rfl) args_nil) (F28_ok n a0 r1 hr) (by kernel_rfl))) (fun r1 => ?_)
  refine SimI.done (by kernel_rfl) ?_
  refine SimE.thenN ?_
  refine Sim.cond r1 (by kernel_rfl) ?_ ?_
  · refine Sim.seq ?_
    refine Sim.region0 ?_
    refine SimI.run 1 [(4, .one (lnil))] [] (by kernel_rfl) ?_
    refine SimI.done (by kernel_rfl) ?_
    refine SimE.thenN ?_
    refine Sim.ret ?_
    refine SimE.thenR ?_
    exact SimE.fin (by kernel_rfl)
  · refine Sim.skip ?_
    refine SimE.thenN ?_
    refine Sim.seq ?_
    refine Sim.region0 ?_
    refine SimI.run 2 [(12, .agg [li .i64 a1.X0, li .i64 a1.Y0, li .i64 a1.X1, li .i64 a1.Y1]), (11, .agg [li .i64 a0.X0, li .i64 a0.Y0, li .i64 a0.X1, li .i64 a0.Y1])] [] (by kernel_rfl) ?_
    refine SimI.bind (og := F32 n a0 a1) { dst := some 13, op := POp.call true [[], []] 32 [Operand.tmp 11, Operand.tmp 12], guard := none, hints := [] } (fun r2 => [(13, .agg [li .i64 r2.X0, li .i64 r2.Y0, li .i64 r2.X1, li .i64 r2.Y1])]) (fun r2 => []) (by kernel_rfl) (fun r2 hr => pOp_eff (by kernel_rfl) (by kernel_rfl) (eff_call (ARGS := [.agg [li .i64 a0.X0, li .i64 a0.Y0, li .i64 a0.X1, li .i64 a0.Y1], .agg [li .i64 a1.X0, li .i64 a1.Y0, li .i64 a1.X1, li .i64 a1.Y1]]) (by kernel_rfl) (args_clean (by kernel_rfl) (args_clean (by kernel_rfl) args_nil)) (F32_ok n a0 a1 r2 hr) (by kernel_rfl))) (fun r2 => ?_)
    refine SimI.run 2 [(5, .one (.ptr 5 0))] [(5, some (.cells [li .i64 r2.X0, li .i64 r2.Y0, li .i64 r2.X1, li .i64 r2.Y1])), (5, some (.cells [li .i64 0, li .i64 0, li .i64 0, li .i64 0]))] (by kernel_rfl) ?_
    refine SimI.done (by kernel_rfl) ?_
    refine SimE.thenN ?_
    refine Sim.seq ?_
    refine Sim.seq ?_
    refine Sim.region0 ?_
    refine SimI.run 1 [(14, .agg [li .i64 r2.X0, li .i64 r2.Y0, li .i64 r2.X1, li .i64 r2.Y1])] [] (by kernel_rfl) ?_
    refine SimI.bind (og := F28 n r2) { dst := some 15, op := POp.call true [[]] 28 [Operand.tmp 14], guard := none, hints := [] } (fun r3 => [(15, .one (lb r3))]) (fun r3 => []) (by kernel_rfl) (fun r3 hr => pOp_eff (by kernel_rfl) (by kernel_rfl) (eff_call (ARGS := [.agg [li .i64 r2.X0, li .i64 r2.Y0, li .i64 r2.X1, li .i64 r2.Y1]]) (by kernel_rfl) (args_clean (by kernel_rfl) args_nil) (F28_ok n r2 r3 hr) (by kernel_rfl))) (fun r3 => ?_)
    refine SimI.done (by kernel_rfl) ?_
    refine SimE.thenN ?_
    refine Sim.cond r3 (by kernel_rfl) ?_ ?_
    · refine Sim.seq ?_
      refine Sim.region0 ?_
      refine SimI.run 3 [(4, .one (vw Rect.cod [a0])), (17, .one (vw Rect.cod [a0])), (16, .agg [li .i64 a0.X0, li .i64 a0.Y0, li .i64 a0.X1, li .i64 a0.Y1])] [] (by kernel_rfl) ?_
      refine SimI.done (by kernel_rfl) ?_
      refine SimE.thenN ?_
      refine Sim.ret ?_
      refine SimE.thenR ?_
      exact SimE.fin (by kernel_rfl)
    · refine Sim.skip ?_
      refine SimE.thenN ?_
      refine Sim.seq ?_
      refine Sim.region0 ?_
      refine SimI.run 39 [(6, .one (.ptr 6 0)), (54, .agg [li .i64 a0.X0, li .i64 a0.Y0, li .i64 a0.X1, li .i64 r2.Y0, li .i64 a0.X0, li .i64 r2.Y1, li .i64 a0.X1, li .i64 a0.Y1, li .i64 a0.X0, li .i64 r2.Y0, li .i64 r2.X0, li .i64 r2.Y1, li .i64 r2.X1, li .i64 r2.Y0, li .i64 a0.X1, li .i64 r2.Y1]), (53, .agg [li .i64 r2.X1, li .i64 r2.Y0, li .i64 a0.X1, li .i64 r2.Y1]), (52, .one (li .i64 r2.Y1)), (51, .one (.ptr 5 3)), (50, .one (li .i64 a0.X1)), (49, .one (.ptr 2 2)), (48, .one (li .i64 r2.Y0)), (47, .one (.ptr 5 1)), (46, .one (li .i64 r2.X1)), (45, .one (.ptr 5 2)), (44, .agg [li .i64 a0.X0, li .i64 r2.Y0, li .i64 r2.X0, li .i64 r2.Y1]), (43, .one (li .i64 r2.Y1)), (42, .one (.ptr 5 3)), (41, .one (li .i64 r2.X0)), (40, .one (.ptr 5 0)), (39, .one (li .i64 r2.Y0)), (38, .one (.ptr 5 1)), (37, .one (li .i64 a0.X0)), (36, .one (.ptr 2 0)), (35, .agg [li .i64 a0.X0, li .i64 r2.Y1, li .i64 a0.X1, li .i64 a0.Y1]), (34, .one (li .i64 a0.Y1)), (33, .one (.ptr 2 3)), (32, .one (li .i64 a0.X1)), (31, .one (.ptr 2 2)), (30, .one (li .i64 r2.Y1)), (29, .one (.ptr 5 3)), (28, .one (li .i64 a0.X0)), (27, .one (.ptr 2 0)), (26, .agg [li .i64 a0.X0, li .i64 a0.Y0, li .i64 a0.X1, li .i64 r2.Y0]), (25, .one (li .i64 r2.Y0)), (24, .one (.ptr 5 1)), (23, .one (li .i64 a0.X1)), (22, .one (.ptr 2 2)), (21, .one (li .i64 a0.Y0)), (20, .one (.ptr 2 1)), (19, .one (li .i64 a0.X0)), (18, .one (.ptr 2 0))] [(6, some (.cells [li .i64 a0.X0, li .i64 a0.Y0, li .i64 a0.X1, li .i64 r2.Y0, li .i64 a0.X0, li .i64 r2.Y1, li .i64 a0.X1, li .i64 a0.Y1, li .i64 a0.X0, li .i64 r2.Y0, li .i64 r2.X0, li .i64 r2.Y1, li .i64 r2.X1, li .i64 r2.Y0, li .i64 a0.X1, li .i64 r2.Y1])), (6, some (.cells [li .i64 0, li .i64 0, li .i64 0, li .i64 0, li .i64 0, li .i64 0, li .i64 0, li .i64 0, li .i64 0, li .i64 0, li .i64 0, li .i64 0, li .i64 0, li .i64 0, li .i64 0, li .i64 0]))] (by kernel_rfl) ?_
      refine SimI.done (by kernel_rfl) ?_
      refine SimE.thenN ?_
      refine Sim.seq ?_
      refine Sim.region0 ?_
      refine SimI.run 1 [(7, .one (lnil))] [] (by kernel_rfl) ?_
      refine SimI.done (by kernel_rfl) ?_
      refine SimE.thenN ?_
      refine Sim.seq ?_
      refine Sim.seq ?_
      refine Sim.region0 ?_
      refine SimI.run 1 [(8, .one (li .i64 0))] [] (by kernel_rfl) ?_
      refine SimI.done (by kernel_rfl) ?_
      refine SimE.thenN ?_
      refine Sim.block ?_
      refine Sim.loop ?_
      refine SimL.succ ?_
      refine Sim.seq ?_
      refine Sim.seq ?_
      refine Sim.region [(6, .one (.ptr 6 0)), (7, .one (lnil)), (8, .one (li .i64 0))] ((6, some (.cells [li .i64 a0.X0, li .i64 a0.Y0, li .i64 a0.X1, li .i64 r2.Y0, li .i64 a0.X0, li .i64 r2.Y1, li .i64 a0.X1, li .i64 a0.Y1, li .i64 a0.X0, li .i64 r2.Y0, li .i64 r2.X0, li .i64 r2.Y1, li .i64 r2.X1, li .i64 r2.Y0, li .i64 a0.X1, li .i64 r2.Y1])) :: []) (by kernel_rfl) ?_
      refine SimI.run 2 [(56, .one (lb true)), (55, .one (li .i64 0))] [] (by kernel_rfl) ?_
      refine SimI.done (by kernel_rfl) ?_
      refine SimE.thenN ?_
      refine Sim.condT (by kernel_rfl) ?_
      refine Sim.skip ?_
      refine SimE.thenN ?_
      refine Sim.seq ?_
      refine Sim.block ?_
      refine Sim.seq ?_
      refine Sim.region0 ?_
      refine SimI.run 3 [(61, .agg [li .i64 a0.X0, li .i64 a0.Y0, li .i64 a0.X1, li .i64 r2.Y0]), (60, .one (.ptr 6 0)), (59, .one (li .i64 0))] [] (by kernel_rfl) ?_
      refine SimI.bind (og := F28 n (Rect.mk a0.X0 a0.Y0 a0.X1 r2.Y0)) { dst := some 62, op := POp.call true [[]] 28 [Operand.tmp 61], guard := none, hints := [] } (fun r4 => [(62, .one (lb r4))]) (fun r4 => []) (by kernel_rfl) (fun r4 hr => pOp_eff (by kernel_rfl) (by kernel_rfl) (eff_call (ARGS := [.agg [li .i64 a0.X0, li .i64 a0.Y0, li .i64 a0.X1, li .i64 r2.Y0]]) (by kernel_rfl) (args_clean (by kernel_rfl) args_nil) (F28_ok n (Rect.mk a0.X0 a0.Y0 a0.X1 r2.Y0) r4 hr) (by kernel_rfl))) (fun r4 => ?_)
      refine SimI.run 1 [(63, .one (lb (!(r4))))] [] (by kernel_rfl) ?_
      refine SimI.done (by kernel_rfl) ?_
      refine SimE.thenN ?_
      refine Sim.cond (!(r4)) (by kernel_rfl) ?_ ?_
      · refine Sim.region0 ?_
        refine SimI.run 5 [(68, .one (vw Rect.cod [(Rect.mk a0.X0 a0.Y0 a0.X1 r2.Y0)])), (67, .agg [li .i64 a0.X0, li .i64 a0.Y0, li .i64 a0.X1, li .i64 r2.Y0]), (66, .one (.ptr 6 0)), (65, .one (li .i64 0)), (64, .one (lnil))] [] (by kernel_rfl) ?_
        refine SimI.guard (c := (([] : List Rect).length + 1) * 32 ≤ maxCells ∧ ([] : List Rect).length + 1 ≤ maxCells) { dst := some 69, op := POp.app 100007 35 4 32 (Operand.tmp 64) (Operand.tmp 68), guard := none, hints := [] } [(69, .one (.osl 100007 0 0 ([(Rect.mk a0.X0 a0.Y0 a0.X1 r2.Y0)]).length))] [(100007, some (.arr 35 Rect.cod.sz 0 ([(Rect.mk a0.X0 a0.Y0 a0.X1 r2.Y0)]).length (getOf Rect.cod [(Rect.mk a0.X0 a0.Y0 a0.X1 r2.Y0)])))] (by kernel_rfl) (fun hc => pOp_eff (by kernel_rfl) (by kernel_rfl) (eff_appN (c := Rect.cod) (a := (Rect.mk a0.X0 a0.Y0 a0.X1 r2.Y0)) (by kernel_rfl) (by kernel_rfl) (by kernel_rfl) (by kernel_rfl) (by kernel_rfl) (by kernel_rfl))) ?_
        refine SimI.run 1 [(7, .one (.osl 100007 0 0 ([(Rect.mk a0.X0 a0.Y0 a0.X1 r2.Y0)]).length))] [] (by kernel_rfl) ?_
        refine SimI.done (by kernel_rfl) ?_
        refine SimE.blockN ?_
        refine SimE.thenN ?_
        refine Sim.region0 ?_
        refine SimI.run 3 [(8, .one (li .i64 1)), (58, .one (li .i64 1)), (57, .one (li .i64 0))] [] (by kernel_rfl) ?_
        refine SimI.done (by kernel_rfl) ?_
        refine SimE.loopN ?_
        refine SimL.pre (ts := [6, 7, 8]) (os := [2, 3, 5, 6, 100007]) [(6, .one (.ptr 6 0)), (7, .one (ownL 100007 0 [(Rect.mk a0.X0 a0.Y0 a0.X1 r2.Y0)])), (8, .one (li .i64 1))] ((6, some (.cells [li .i64 a0.X0, li .i64 a0.Y0, li .i64 a0.X1, li .i64 r2.Y0, li .i64 a0.X0, li .i64 r2.Y1, li .i64 a0.X1, li .i64 a0.Y1, li .i64 a0.X0, li .i64 r2.Y0, li .i64 r2.X0, li .i64 r2.Y1, li .i64 r2.X1, li .i64 r2.Y0, li .i64 a0.X1, li .i64 r2.Y1])) :: (ownM Rect.cod 35 100007 0 [(Rect.mk a0.X0 a0.Y0 a0.X1 r2.Y0)] [])) (by kernel_rfl) (by kernel_rfl) (by kernel_rfl) ?_
        exact F22_u7_ok n a0 r2 [(Rect.mk a0.X0 a0.Y0 a0.X1 r2.Y0)] 0
      · refine Sim.skip ?_
        refine SimE.blockN ?_
        refine SimE.thenN ?_
        refine Sim.region0 ?_
        refine SimI.run 3 [(8, .one (li .i64 1)), (58, .one (li .i64 1)), (57, .one (li .i64 0))] [] (by kernel_rfl) ?_
        refine SimI.done (by kernel_rfl) ?_
        refine SimE.loopN ?_
        refine SimL.pre (ts := [6, 7, 8]) (os := [2, 3, 5, 6, 100007]) [(6, .one (.ptr 6 0)), (7, .one (ownL 100007 0 ([] : List Rect))), (8, .one (li .i64 1))] ((6, some (.cells [li .i64 a0.X0, li .i64 a0.Y0, li .i64 a0.X1, li .i64 r2.Y0, li .i64 a0.X0, li .i64 r2.Y1, li .i64 a0.X1, li .i64 a0.Y1, li .i64 a0.X0, li .i64 r2.Y0, li .i64 r2.X0, li .i64 r2.Y1, li .i64 r2.X1, li .i64 r2.Y0, li .i64 a0.X1, li .i64 r2.Y1])) :: (ownM Rect.cod 35 100007 0 ([] : List Rect) [])) (by kernel_rfl) (by kernel_rfl) (by kernel_rfl) ?_
        exact F22_u7_ok n a0 r2 ([] : List Rect) 0


-- 24: vedette/vedetteref3.On
def F24_e : Bool → PV × List (List Lf) := fun r => (.one (lb r), [])
def F24 (n : Nat) (a0 : Point) : Option Bool :=
  if decide ((0 : Int) ≤ a0.X) then
    if decide (a0.X < 64) then
      if decide ((0 : Int) ≤ a0.Y) then
        some (decide (a0.Y < 64))
      else
        some false
    else
      some false
  else
    some false
theorem F24_ok (n : Nat) (a0 : Point) : ∀ r, F24 n a0 = some r → D 24 [.agg [li .i64 a0.X, li .i64 a0.Y]] [] = some (F24_e r) := by
  refine fn_to (D := D) (n := n + 8) (nt := 21) (rs := pc24_r) (c := pc24_c5) (L := [(0, .agg [li .i64 a0.X, li .i64 a0.Y])]) (M := []) (k := 0) rfl rfl rfl rfl rfl rfl ?_
  unfold F24
  refine Sim.seq ?_
  refine Sim.region0 ?_
  refine SimI.run 2 [(2, .one (lb false)), (1, .one (.ptr 1 0))] [(1, some (.cells [li .i64 a0.X, li .i64 a0.Y]))] (by kernel_rfl) ?_
  refine SimI.done (by kernel_rfl) ?_
  refine SimE.thenN ?_
  refine Sim.seq ?_
  refine Sim.region0 ?_
  refine SimI.run 4 [(6, .one (lb (decide ((0 : Int) ≤ a0.X)))), (5, .one (lb (decide ((0 : Int) ≤ a0.X)))), (4, .one (li .i64 a0.X)), (3, .one (.ptr 1 0))] [] (by kernel_rfl) ?_
  refine SimI.split 6 (decide ((0 : Int) ≤ a0.X)) (by kernel_rfl) ?_ ?_
  · refine SimI.run 5 [(11, .one (lb (decide (a0.X < 64)))), (10, .one (lb (decide (a0.X < 64)))), (9, .one (lb (decide (a0.X < 64)))), (8, .one (li .i64 a0.X)), (7, .one (.ptr 1 0))] [] (by kernel_rfl) ?_
    refine SimI.split 11 (decide (a0.X < 64)) (by kernel_rfl) ?_ ?_
    · refine SimI.run 5 [(16, .one (lb (decide ((0 : Int) ≤ a0.Y)))), (15, .one (lb (decide ((0 : Int) ≤ a0.Y)))), (14, .one (lb (decide ((0 : Int) ≤ a0.Y)))), (13, .one (li .i64 a0.Y)), (12, .one (.ptr 1 1))] [] (by kernel_rfl) ?_
      refine SimI.split 16 (decide ((0 : Int) ≤ a0.Y)) (by kernel_rfl) ?_ ?_
      · refine SimI.run 5 [(2, .one (lb (decide (a0.Y < 64)))), (20, .one (lb (decide (a0.Y < 64)))), (19, .one (lb (decide (a0.Y < 64)))), (18, .one (li .i64 a0.Y)), (17, .one (.ptr 1 1))] [] (by kernel_rfl) ?_
        refine SimI.done (by kernel_rfl) ?_
        refine SimE.thenN ?_
        refine Sim.ret ?_
        exact SimE.fin (by kernel_rfl)
      · refine SimI.run 5 [(2, .one (lb false)), (20, .one (lb false)), (19, .tup []), (18, .tup []), (17, .tup [])] [] (by kernel_rfl) ?_
        refine SimI.done (by kernel_rfl) ?_
        refine SimE.thenN ?_
        refine Sim.ret ?_
        exact SimE.fin (by kernel_rfl)
    · refine SimI.run 10 [(2, .one (lb false)), (20, .one (lb false)), (19, .tup []), (18, .tup []), (17, .tup []), (16, .one (lb false)), (15, .one (lb false)), (14, .tup []), (13, .tup []), (12, .tup [])] [] (by kernel_rfl) ?_
      refine SimI.done (by kernel_rfl) ?_
      refine SimE.thenN ?_
      refine Sim.ret ?_
      exact SimE.fin (by kernel_rfl)
  · refine SimI.run 15 [(2, .one (lb false)), (20, .one (lb false)), (19, .tup []), (18, .tup []), (17, .tup []), (16, .one (lb false)), (15, .one (lb false)), (14, .tup []), (13, .tup []), (12, .tup []), (11, .one (lb false)), (10, .one (lb false)), (9, .tup []), (8, .tup []), (7, .tup [])] [] (by kernel_rfl) ?_
    refine SimI.done (by kernel_rfl) ?_
    refine SimE.thenN ?_
    refine Sim.ret ?_
    exact SimE.fin (by kernel_rfl)


-- 26: vedette/vedetteref3.Is
def F26_e : Bool → PV × List (List Lf) := fun r => (.one (lb r), [])
def F26 (n : Nat) (a0 : Rect) : Option Bool :=
  if decide ((0 : Int) ≤ a0.X0) then
    if decide (a0.X0 ≤ a0.X1) then
      if decide (a0.X1 ≤ 64) then
        if decide ((0 : Int) ≤ a0.Y0) then
          if decide (a0.Y0 ≤ a0.Y1) then
            some (decide (a0.Y1 ≤ 64))
          else
            some false
        else
          some false
      else
        some false
    else
      some false
  else
    some false
theorem F26_ok (n : Nat) (a0 : Rect) : ∀ r, F26 n a0 = some r → D 26 [.agg [li .i64 a0.X0, li .i64 a0.Y0, li .i64 a0.X1, li .i64 a0.Y1]] [] = some (F26_e r) := by
  refine fn_to (D := D) (n := n + 8) (nt := 35) (rs := pc26_r) (c := pc26_c5) (L := [(0, .agg [li .i64 a0.X0, li .i64 a0.Y0, li .i64 a0.X1, li .i64 a0.Y1])]) (M := []) (k := 0) rfl rfl rfl rfl rfl rfl ?_
  unfold F26
  refine Sim.seq ?_
  refine Sim.region0 ?_
  refine SimI.run 2 [(2, .one (lb false)), (1, .one (.ptr 1 0))] [(1, some (.cells [li .i64 a0.X0, li .i64 a0.Y0, li .i64 a0.X1, li .i64 a0.Y1]))] (by kernel_rfl) ?_
  refine SimI.done (by kernel_rfl) ?_
  refine SimE.thenN ?_
  refine Sim.seq ?_
  refine Sim.region0 ?_
  refine SimI.run 4 [(6, .one (lb (decide ((0 : Int) ≤ a0.X0)))), (5, .one (lb (decide ((0 : Int) ≤ a0.X0)))), (4, .one (li .i64 a0.X0)), (3, .one (.ptr 1 0))] [] (by kernel_rfl) ?_
  refine SimI.split 6 (decide ((0 : Int) ≤ a0.X0)) (by kernel_rfl) ?_ ?_
  · refine SimI.run 7 [(13, .one (lb (decide (a0.X0 ≤ a0.X1)))), (12, .one (lb (decide (a0.X0 ≤ a0.X1)))), (11, .one (lb (decide (a0.X0 ≤ a0.X1)))), (10, .one (li .i64 a0.X1)), (9, .one (.ptr 1 2)), (8, .one (li .i64 a0.X0)), (7, .one (.ptr 1 0))] [] (by kernel_rfl) ?_
    refine SimI.split 13 (decide (a0.X0 ≤ a0.X1)) (by kernel_rfl) ?_ ?_
    · refine SimI.run 5 [(18, .one (lb (decide (a0.X1 ≤ 64)))), (17, .one (lb (decide (a0.X1 ≤ 64)))), (16, .one (lb (decide (a0.X1 ≤ 64)))), (15, .one (li .i64 a0.X1)), (14, .one (.ptr 1 2))] [] (by kernel_rfl) ?_
      refine SimI.split 18 (decide (a0.X1 ≤ 64)) (by kernel_rfl) ?_ ?_
      · refine SimI.run 5 [(23, .one (lb (decide ((0 : Int) ≤ a0.Y0)))), (22, .one (lb (decide ((0 : Int) ≤ a0.Y0)))), (21, .one (lb (decide ((0 : Int) ≤ a0.Y0)))), (20, .one (li .i64 a0.Y0)), (19, .one (.ptr 1 1))] [] (by kernel_rfl) ?_
        refine SimI.split 23 (decide ((0 : Int) ≤ a0.Y0)) (by kernel_rfl) ?_ ?_
        · refine SimI.run 7 [(30, .one (lb (decide (a0.Y0 ≤ a0.Y1)))), (29, .one (lb (decide (a0.Y0 ≤ a0.Y1)))), (28, .one (lb (decide (a0.Y0 ≤ a0.Y1)))), (27, .one (li .i64 a0.Y1)), (26, .one (.ptr 1 3)), (25, .one (li .i64 a0.Y0)), (24, .one (.ptr 1 1))] [] (by kernel_rfl) ?_
          refine SimI.split 30 (decide (a0.Y0 ≤ a0.Y1)) (by kernel_rfl) ?_ ?_
          · refine SimI.run 5 [(2, .one (lb (decide (a0.Y1 ≤ 64)))), (34, .one (lb (decide (a0.Y1 ≤ 64)))), (33, .one (lb (decide (a0.Y1 ≤ 64)))), (32, .one (li .i64 a0.Y1)), (31, .one (.ptr 1 3))] [] (by kernel_rfl) ?_
            refine SimI.done (by kernel_rfl) ?_
            refine SimE.thenN ?_
            refine Sim.ret ?_
            exact SimE.fin (by kernel_rfl)
          · refine SimI.run 5 [(2, .one (lb false)), (34, .one (lb false)), (33, .tup []), (32, .tup []), (31, .tup [])] [] (by kernel_rfl) ?_
            refine SimI.done (by kernel_rfl) ?_
            refine SimE.thenN ?_
            refine Sim.ret ?_
            exact SimE.fin (by kernel_rfl)
        · refine SimI.run 12 [(2, .one (lb false)), (34, .one (lb false)), (33, .tup []), (32, .tup []), (31, .tup []), (30, .one (lb false)), (29, .one (lb false)), (28, .tup []), (27, .tup []), (26, .tup []), (25, .tup []), (24, .tup [])] [] (by kernel_rfl) ?_
          refine SimI.done (by kernel_rfl) ?_
          refine SimE.thenN ?_
          refine Sim.ret ?_
          exact SimE.fin (by kernel_rfl)
      · refine SimI.run 17 [(2, .one (lb false)), (34, .one (lb false)), (33, .tup []), (32, .tup []), (31, .tup []), (30, .one (lb false)), (29, .one (lb false)), (28, .tup []), (27, .tup []), (26, .tup []), (25, .tup []), (24, .tup []), (23, .one (lb false)), (22, .one (lb false)), (21, .tup []), (20, .tup []), (19, .tup [])] [] (by kernel_rfl) ?_
        refine SimI.done (by kernel_rfl) ?_
        refine SimE.thenN ?_
        refine Sim.ret ?_
        exact SimE.fin (by kernel_rfl)
    · refine SimI.run 22 [(2, .one (lb false)), (34, .one (lb false)), (33, .tup []), (32, .tup []), (31, .tup []), (30, .one (lb false)), (29, .one (lb false)), (28, .tup []), (27, .tup []), (26, .tup []), (25, .tup []), (24, .tup []), (23, .one (lb false)), (22, .one (lb false)), (21, .tup []), (20, .tup []), (19, .tup []), (18, .one (lb false)), (17, .one (lb false)), (16, .tup []), (15, .tup []), (14, .tup [])] [] (by kernel_rfl) ?_
      refine SimI.done (by kernel_rfl) ?_
      refine SimE.thenN ?_
      refine Sim.ret ?_
      exact SimE.fin (by kernel_rfl)
  · refine SimI.run 29 [(2, .one (lb false)), (34, .one (lb false)), (33, .tup []), (32, .tup []), (31, .tup []), (30, .one (lb false)), (29, .one (lb false)), (28, .tup []), (27, .tup []), (26, .tup []), (25, .tup []), (24, .tup []), (23, .one (lb false)), (22, .one (lb false)), (21, .tup []), (20, .tup []), (19, .tup []), (18, .one (lb false)), (17, .one (lb false)), (16, .tup []), (15, .tup []), (14, .tup []), (13, .one (lb false)), (12, .one (lb false)), (11, .tup []), (10, .tup []), (9, .tup []), (8, .tup []), (7, .tup [])] [] (by kernel_rfl) ?_
    refine SimI.done (by kernel_rfl) ?_
    refine SimE.thenN ?_
    refine Sim.ret ?_
    exact SimE.fin (by kernel_rfl)


-- 30: vedette/vedetteref3.In
def F30_e : Bool → PV × List (List Lf) := fun r => (.one (lb r), [])
def F30 (n : Nat) (a0 : Rect) (a1 : Point) : Option Bool :=
  if decide (a0.X0 ≤ a1.X) then
    if decide (a1.X < a0.X1) then
      if decide (a0.Y0 ≤ a1.Y) then
        some (decide (a1.Y < a0.Y1))
      else
        some false
    else
      some false
  else
    some false
theorem F30_ok (n : Nat) (a0 : Rect) (a1 : Point) : ∀ r, F30 n a0 a1 = some r → D 30 [.agg [li .i64 a0.X0, li .i64 a0.Y0, li .i64 a0.X1, li .i64 a0.Y1], .agg [li .i64 a1.X, li .i64 a1.Y]] [] = some (F30_e r) := by
  refine fn_to (D := D) (n := n + 8) (nt := 31) (rs := pc30_r) (c := pc30_c5) (L := [(0, .agg [li .i64 a0.X0, li .i64 a0.Y0, li .i64 a0.X1, li .i64 a0.Y1]), (1, .agg [li .i64 a1.X, li .i64 a1.Y])]) (M := []) (k := 0) rfl rfl rfl rfl rfl rfl ?_
  unfold F30
  refine Sim.seq ?_
  refine Sim.region0 ?_
  refine SimI.run 3 [(4, .one (lb false)), (3, .one (.ptr 3 0)), (2, .one (.ptr 2 0))] [(3, some (.cells [li .i64 a1.X, li .i64 a1.Y])), (2, some (.cells [li .i64 a0.X0, li .i64 a0.Y0, li .i64 a0.X1, li .i64 a0.Y1]))] (by kernel_rfl) ?_
  refine SimI.done (by kernel_rfl) ?_
  refine SimE.thenN ?_
  refine Sim.seq ?_
  refine Sim.region0 ?_
  refine SimI.run 6 [(10, .one (lb (decide (a0.X0 ≤ a1.X)))), (9, .one (lb (decide (a0.X0 ≤ a1.X)))), (8, .one (li .i64 a1.X)), (7, .one (.ptr 3 0)), (6, .one (li .i64 a0.X0)), (5, .one (.ptr 2 0))] [] (by kernel_rfl) ?_
  refine SimI.split 10 (decide (a0.X0 ≤ a1.X)) (by kernel_rfl) ?_ ?_
  · refine SimI.run 7 [(17, .one (lb (decide (a1.X < a0.X1)))), (16, .one (lb (decide (a1.X < a0.X1)))), (15, .one (lb (decide (a1.X < a0.X1)))), (14, .one (li .i64 a0.X1)), (13, .one (.ptr 2 2)), (12, .one (li .i64 a1.X)), (11, .one (.ptr 3 0))] [] (by kernel_rfl) ?_
    refine SimI.split 17 (decide (a1.X < a0.X1)) (by kernel_rfl) ?_ ?_
    · refine SimI.run 7 [(24, .one (lb (decide (a0.Y0 ≤ a1.Y)))), (23, .one (lb (decide (a0.Y0 ≤ a1.Y)))), (22, .one (lb (decide (a0.Y0 ≤ a1.Y)))), (21, .one (li .i64 a1.Y)), (20, .one (.ptr 3 1)), (19, .one (li .i64 a0.Y0)), (18, .one (.ptr 2 1))] [] (by kernel_rfl) ?_
      refine SimI.split 24 (decide (a0.Y0 ≤ a1.Y)) (by kernel_rfl) ?_ ?_
      · refine SimI.run 7 [(4, .one (lb (decide (a1.Y < a0.Y1)))), (30, .one (lb (decide (a1.Y < a0.Y1)))), (29, .one (lb (decide (a1.Y < a0.Y1)))), (28, .one (li .i64 a0.Y1)), (27, .one (.ptr 2 3)), (26, .one (li .i64 a1.Y)), (25, .one (.ptr 3 1))] [] (by kernel_rfl) ?_
        refine SimI.done (by kernel_rfl) ?_
        refine SimE.thenN ?_
        refine Sim.ret ?_
        exact SimE.fin (by kernel_rfl)
      · refine SimI.run 7 [(4, .one (lb false)), (30, .one (lb false)), (29, .tup []), (28, .tup []), (27, .tup []), (26, .tup []), (25, .tup [])] [] (by kernel_rfl) ?_
        refine SimI.done (by kernel_rfl) ?_
        refine SimE.thenN ?_
        refine Sim.ret ?_
        exact SimE.fin (by kernel_rfl)
    · refine SimI.run 14 [(4, .one (lb false)), (30, .one (lb false)), (29, .tup []), (28, .tup []), (27, .tup []), (26, .tup []), (25, .tup []), (24, .one (lb false)), (23, .one (lb false)), (22, .tup []), (21, .tup []), (20, .tup []), (19, .tup []), (18, .tup [])] [] (by kernel_rfl) ?_
      refine SimI.done (by kernel_rfl) ?_
      refine SimE.thenN ?_
      refine Sim.ret ?_
      exact SimE.fin (by kernel_rfl)
  · refine SimI.run 21 [(4, .one (lb false)), (30, .one (lb false)), (29, .tup []), (28, .tup []), (27, .tup []), (26, .tup []), (25, .tup []), (24, .one (lb false)), (23, .one (lb false)), (22, .tup []), (21, .tup []), (20, .tup []), (19, .tup []), (18, .tup []), (17, .one (lb false)), (16, .one (lb false)), (15, .tup []), (14, .tup []), (13, .tup []), (12, .tup []), (11, .tup [])] [] (by kernel_rfl) ?_
    refine SimI.done (by kernel_rfl) ?_
    refine SimE.thenN ?_
    refine Sim.ret ?_
    exact SimE.fin (by kernel_rfl)


-- 41: vedette/vedetteref3.Map
def F41_e : Rect → PV × List (List Lf) := fun r => (.agg [li .i64 r.X0, li .i64 r.Y0, li .i64 r.X1, li .i64 r.Y1], [])
def F41 (n : Nat) : Option Rect :=
  some (Rect.mk 0 0 64 64)
theorem F41_ok (n : Nat) : ∀ r, F41 n = some r → D 41 [] [] = some (F41_e r) := by
  refine fn_to (D := D) (n := n + 8) (nt := 2) (rs := pc41_r) (c := pc41_c5) (L := []) (M := []) (k := 0) rfl rfl rfl rfl rfl rfl ?_
  unfold F41
  refine Sim.seq ?_
  refine Sim.region0 ?_
  refine SimI.run 1 [(0, .one (.ptr 0 0))] [(0, some (.cells [li .i64 0, li .i64 0, li .i64 0, li .i64 0]))] (by kernel_rfl) ?_
  refine SimI.done (by kernel_rfl) ?_
  refine SimE.thenN ?_
  refine Sim.seq ?_
  refine Sim.region0 ?_
  refine SimI.run 2 [(1, .agg [li .i64 0, li .i64 0, li .i64 64, li .i64 64])] [(0, some (.cells [li .i64 0, li .i64 0, li .i64 64, li .i64 64]))] (by kernel_rfl) ?_
  refine SimI.done (by kernel_rfl) ?_
  refine SimE.thenN ?_
  refine Sim.ret ?_
  exact SimE.fin (by kernel_rfl)


-- 34: vedette/vedetteref3.Area
def F34_e : Int → PV × List (List Lf) := fun r => (.one (li .i64 r), [])
def F34 (n : Nat) (a0 : Rect) : Option Int :=
  (F41 n).bind fun (r1 : Rect) =>
  (F32 n a0 r1).bind fun (r2 : Rect) =>
  some (IntKind.wrap .i64 (IntKind.wrap .i64 (r2.X1 - r2.X0) * IntKind.wrap .i64 (r2.Y1 - r2.Y0)))
theorem F34_ok (n : Nat) (a0 : Rect) : ∀ r, F34 n a0 = some r → D 34 [.agg [li .i64 a0.X0, li .i64 a0.Y0, li .i64 a0.X1, li .i64 a0.Y1]] [] = some (F34_e r) := by
  refine fn_to (D := D) (n := n + 8) (nt := 18) (rs := pc34_r) (c := pc34_c7) (L := [(0, .agg [li .i64 a0.X0, li .i64 a0.Y0, li .i64 a0.X1, li .i64 a0.Y1])]) (M := []) (k := 0) rfl rfl rfl rfl rfl rfl ?_
  unfold F34
  refine Sim.seq ?_
  refine Sim.region0 ?_
  refine SimI.run 2 [(2, .one (li .i64 0)), (1, .one (.ptr 1 0))] [(1, some (.cells [li .i64 a0.X0, li .i64 a0.Y0, li .i64 a0.X1, li .i64 a0.Y1]))] (by kernel_rfl) ?_
  refine SimI.done (by kernel_rfl) ?_
  refine SimE.thenN ?_
  refine Sim.seq ?_
  refine Sim.region0 ?_
  refine SimI.run 1 [(4, .agg [li .i64 a0.X0, li .i64 a0.Y0, li .i64 a0.X1, li .i64 a0.Y1])] [] (by kernel_rfl) ?_
  refine SimI.bind (og := F41 n) { dst := some 5, op := POp.call false [] 41 [], guard := none, hints := [] } (fun r1 => [(5, .agg [li .i64 r1.X0, li .i64 r1.Y0, li .i64 r1.X1, li .i64 r1.Y1])]) (fun r1 => []) (by kernel_rfl) (fun r1 hr => pOp_eff (by kernel_rfl) (by kernel_rfl) (eff_call (ARGS := []) (by kernel_rfl) (args_nil) (F41_ok n r1 hr) (by kernel_rfl))) (fun r1 => ?_)
  refine SimI.bind (og := F32 n a0 r1) { dst := some 6, op := POp.call false [[], []] 32 [Operand.tmp 4, Operand.tmp 5], guard := none, hints := [(4, Hint.imm), (5, Hint.imm)] } (fun r2 => [(6, .agg [li .i64 r2.X0, li .i64 r2.Y0, li .i64 r2.X1, li .i64 r2.Y1])]) (fun r2 => []) (by kernel_rfl) (fun r2 hr => pOp_eff (by kernel_rfl) (by kernel_rfl) (eff_call (ARGS := [.agg [li .i64 a0.X0, li .i64 a0.Y0, li .i64 a0.X1, li .i64 a0.Y1], .agg [li .i64 r1.X0, li .i64 r1.Y0, li .i64 r1.X1, li .i64 r1.Y1]]) (by kernel_rfl) (args_clean (by kernel_rfl) (args_clean (by kernel_rfl) args_nil)) (F32_ok n a0 r1 r2 hr) (by kernel_rfl))) (fun r2 => ?_)
  refine SimI.run 2 [(3, .one (.ptr 3 0))] [(3, some (.cells [li .i64 r2.X0, li .i64 r2.Y0, li .i64 r2.X1, li .i64 r2.Y1])), (3, some (.cells [li .i64 0, li .i64 0, li .i64 0, li .i64 0]))] (by kernel_rfl) ?_
  refine SimI.done (by kernel_rfl) ?_
  refine SimE.thenN ?_
  refine Sim.seq ?_
  refine Sim.region0 ?_
  refine SimI.run 12 [(2, .one (li .i64 (IntKind.wrap .i64 (IntKind.wrap .i64 (r2.X1 - r2.X0) * IntKind.wrap .i64 (r2.Y1 - r2.Y0))))), (17, .one (li .i64 (IntKind.wrap .i64 (IntKind.wrap .i64 (r2.X1 - r2.X0) * IntKind.wrap .i64 (r2.Y1 - r2.Y0))))), (16, .one (li .i64 (IntKind.wrap .i64 (r2.Y1 - r2.Y0)))), (15, .one (li .i64 r2.Y0)), (14, .one (.ptr 3 1)), (13, .one (li .i64 r2.Y1)), (12, .one (.ptr 3 3)), (11, .one (li .i64 (IntKind.wrap .i64 (r2.X1 - r2.X0)))), (10, .one (li .i64 r2.X0)), (9, .one (.ptr 3 0)), (8, .one (li .i64 r2.X1)), (7, .one (.ptr 3 2))] [] (by kernel_rfl) ?_
  refine SimI.done (by kernel_rfl) ?_
  refine SimE.thenN ?_
  refine Sim.ret ?_
  exact SimE.fin (by kernel_rfl)


-- 36: vedette/vedetteref3.Same
def F36_e : Bool → PV × List (List Lf) := fun r => (.one (lb r), [])
def F36 (n : Nat) (a0 : Rect) (a1 : Rect) : Option Bool :=
  (F28 n a0).bind fun (r1 : Bool) =>
  if r1 then
    (F28 n a1).bind fun (r2 : Bool) =>
    if r2 then
      some true
    else
      if Rect.eqb a0 a1 then
        (F28 n a0).bind fun (r3 : Bool) =>
        some (!(r3))
      else
        some false
  else
    if Rect.eqb a0 a1 then
      (F28 n a0).bind fun (r4 : Bool) =>
      some (!(r4))
    else
      some false
theorem F36_ok (n : Nat) (a0 : Rect) (a1 : Rect) : ∀ r, F36 n a0 a1 = some r → D 36 [.agg [li .i64 a0.X0, li .i64 a0.Y0, li .i64 a0.X1, li .i64 a0.Y1], .agg [li .i64 a1.X0, li .i64 a1.Y0, li .i64 a1.X1, li .i64 a1.Y1]] [] = some (F36_e r) := by
  refine fn_to (D := D) (n := n + 8) (nt := 21) (rs := pc36_r) (c := pc36_c5) (L := [(0, .agg [li .i64 a0.X0, li .i64 a0.Y0, li .i64 a0.X1, li .i64 a0.Y1]), (1, .agg [li .i64 a1.X0, li .i64 a1.Y0, li .i64 a1.X1, li .i64 a1.Y1])]) (M := []) (k := 0) rfl rfl rfl rfl rfl rfl ?_
  unfold F36
  refine Sim.seq ?_
  refine Sim.region0 ?_
  refine SimI.run 3 [(4, .one (lb false)), (3, .one (.ptr 3 0)), (2, .one (.ptr 2 0))] [(3, some (.cells [li .i64 a1.X0, li .i64 a1.Y0, li .i64 a1.X1, li .i64 a1.Y1])), (2, some (.cells [li .i64 a0.X0, li .i64 a0.Y0, li .i64 a0.X1, li .i64 a0.Y1]))] (by kernel_rfl) ?_
  refine SimI.done (by kernel_rfl) ?_
  refine SimE.thenN ?_
  refine Sim.seq ?_
  refine Sim.region0 ?_
  refine SimI.run 1 [(5, .agg [li .i64 a0.X0, li .i64 a0.Y0, li .i64 a0.X1, li .i64 a0.Y1])] [] (by kernel_rfl) ?_
  refine SimI.bind (og := F28 n a0) { dst := some 6, op := POp.call true [[]] 28 [Operand.tmp 5], guard := none, hints := [] } (fun r1 => [(6, .one (lb r1))]) (fun r1 => []) (by kernel_rfl) (fun r1 hr => pOp_eff (by kernel_rfl) (by kernel_rfl) (eff_call (ARGS := [.agg [li .i64 a0.X0, li .i64 a0.Y0, li .i64 a0.X1, li .i64 a0.Y1]]) (by kernel_rfl) (args_clean (by kernel_rfl) args_nil) (F28_ok n a0 r1 hr) (by kernel_rfl))) (fun r1 => ?_)
  refine SimI.run 1 [(7, .one (lb r1))] [] (by kernel_rfl) ?_
  refine SimI.split 7 r1 (by kernel_rfl) ?_ ?_
  · refine SimI.run 1 [(8, .agg [li .i64 a1.X0, li .i64 a1.Y0, li .i64 a1.X1, li .i64 a1.Y1])] [] (by kernel_rfl) ?_
    refine SimI.bind (og := F28 n a1) { dst := some 9, op := POp.call true [[]] 28 [Operand.tmp 8], guard := some (7, true), hints := [] } (fun r2 => [(9, .one (lb r2))]) (fun r2 => []) (by kernel_rfl) (fun r2 hr => pOp_eff (by kernel_rfl) (by kernel_rfl) (eff_call (ARGS := [.agg [li .i64 a1.X0, li .i64 a1.Y0, li .i64 a1.X1, li .i64 a1.Y1]]) (by kernel_rfl) (args_clean (by kernel_rfl) args_nil) (F28_ok n a1 r2 hr) (by kernel_rfl))) (fun r2 => ?_)
    refine SimI.run 2 [(11, .one (lb r2)), (10, .one (lb r2))] [] (by kernel_rfl) ?_
    refine SimI.split 11 r2 (by kernel_rfl) ?_ ?_
    · refine SimI.run 10 [(4, .one (lb true)), (20, .one (lb true)), (19, .tup []), (18, .tup []), (17, .tup []), (16, .tup []), (15, .tup []), (14, .tup []), (13, .tup []), (12, .tup [])] [] (by kernel_rfl) ?_
      refine SimI.done (by kernel_rfl) ?_
      refine SimE.thenN ?_
      refine Sim.ret ?_
      exact SimE.fin (by kernel_rfl)
    · refine SimI.run 2 [(13, .agg [li .i64 a1.X0, li .i64 a1.Y0, li .i64 a1.X1, li .i64 a1.Y1]), (12, .agg [li .i64 a0.X0, li .i64 a0.Y0, li .i64 a0.X1, li .i64 a0.Y1])] [] (by kernel_rfl) ?_
      refine SimI.step { dst := some 14, op := POp.prim (Prim.bin BinOp.eql 35 false false) [Operand.tmp 12, Operand.tmp 13], guard := some (11, false), hints := [] } [(14, .one (lb (Rect.eqb a0 a1)))] [] (by kernel_rfl) (pOp_eff (by kernel_rfl) (by kernel_rfl) (eff_prim (by kernel_rfl) (Rect_eql a0 a1 _ _))) ?_
      refine SimI.run 1 [(15, .one (lb (Rect.eqb a0 a1)))] [] (by kernel_rfl) ?_
      refine SimI.split 15 (Rect.eqb a0 a1) (by kernel_rfl) ?_ ?_
      · refine SimI.run 1 [(16, .agg [li .i64 a0.X0, li .i64 a0.Y0, li .i64 a0.X1, li .i64 a0.Y1])] [] (by kernel_rfl) ?_
        refine SimI.bind (og := F28 n a0) { dst := some 17, op := POp.call true [[]] 28 [Operand.tmp 16], guard := some (15, true), hints := [] } (fun r3 => [(17, .one (lb r3))]) (fun r3 => []) (by kernel_rfl) (fun r3 hr => pOp_eff (by kernel_rfl) (by kernel_rfl) (eff_call (ARGS := [.agg [li .i64 a0.X0, li .i64 a0.Y0, li .i64 a0.X1, li .i64 a0.Y1]]) (by kernel_rfl) (args_clean (by kernel_rfl) args_nil) (F28_ok n a0 r3 hr) (by kernel_rfl))) (fun r3 => ?_)
        refine SimI.run 4 [(4, .one (lb (!(r3)))), (20, .one (lb (!(r3)))), (19, .one (lb (!(r3)))), (18, .one (lb (!(r3))))] [] (by kernel_rfl) ?_
        refine SimI.done (by kernel_rfl) ?_
        refine SimE.thenN ?_
        refine Sim.ret ?_
        exact SimE.fin (by kernel_rfl)
      · refine SimI.run 6 [(4, .one (lb false)), (20, .one (lb false)), (19, .one (lb false)), (18, .tup []), (17, .tup []), (16, .tup [])] [] (by kernel_rfl) ?_
        refine SimI.done (by kernel_rfl) ?_
        refine SimE.thenN ?_
        refine Sim.ret ?_
        exact SimE.fin (by kernel_rfl)
  · refine SimI.run 6 [(13, .agg [li .i64 a1.X0, li .i64 a1.Y0, li .i64 a1.X1, li .i64 a1.Y1]), (12, .agg [li .i64 a0.X0, li .i64 a0.Y0, li .i64 a0.X1, li .i64 a0.Y1]), (11, .one (lb false)), (10, .one (lb false)), (9, .tup []), (8, .tup [])] [] (by kernel_rfl) ?_
    refine SimI.step { dst := some 14, op := POp.prim (Prim.bin BinOp.eql 35 false false) [Operand.tmp 12, Operand.tmp 13], guard := some (11, false), hints := [] } [(14, .one (lb (Rect.eqb a0 a1)))] [] (by kernel_rfl) (pOp_eff (by kernel_rfl) (by kernel_rfl) (eff_prim (by kernel_rfl) (Rect_eql a0 a1 _ _))) ?_
    refine SimI.run 1 [(15, .one (lb (Rect.eqb a0 a1)))] [] (by kernel_rfl) ?_
    refine SimI.split 15 (Rect.eqb a0 a1) (by kernel_rfl) ?_ ?_
    · refine SimI.run 1 [(16, .agg [li .i64 a0.X0, li .i64 a0.Y0, li .i64 a0.X1, li .i64 a0.Y1])] [] (by kernel_rfl) ?_
      refine SimI.bind (og := F28 n a0) { dst := some 17, op := POp.call true [[]] 28 [Operand.tmp 16], guard := some (15, true), hints := [] } (fun r4 => [(17, .one (lb r4))]) (fun r4 => []) (by kernel_rfl) (fun r4 hr => pOp_eff (by kernel_rfl) (by kernel_rfl) (eff_call (ARGS := [.agg [li .i64 a0.X0, li .i64 a0.Y0, li .i64 a0.X1, li .i64 a0.Y1]]) (by kernel_rfl) (args_clean (by kernel_rfl) args_nil) (F28_ok n a0 r4 hr) (by kernel_rfl))) (fun r4 => ?_)
      refine SimI.run 4 [(4, .one (lb (!(r4)))), (20, .one (lb (!(r4)))), (19, .one (lb (!(r4)))), (18, .one (lb (!(r4))))] [] (by kernel_rfl) ?_
      refine SimI.done (by kernel_rfl) ?_
      refine SimE.thenN ?_
      refine Sim.ret ?_
      exact SimE.fin (by kernel_rfl)
    · refine SimI.run 6 [(4, .one (lb false)), (20, .one (lb false)), (19, .one (lb false)), (18, .tup []), (17, .tup []), (16, .tup [])] [] (by kernel_rfl) ?_
      refine SimI.done (by kernel_rfl) ?_
      refine SimE.thenN ?_
      refine Sim.ret ?_
      exact SimE.fin (by kernel_rfl)


-- 6: vedette/vedettelaw3.GeomTells
def F6_e : Bool → PV × List (List Lf) := fun r => (.one (lb r), [])
def F6_l9 (n : Nat) (a0 : Rect) (a1 : Rect) (a2 : Point) (r4 : (List Rect)) (r5 : (List Rect)) : Nat → Int → Option Bool
  | 0, _ => none
  | m + 1, i8 =>
    if decide (i8 < ((r4).length : Int)) then
      (ix r4 i8).bind fun (x10 : Rect) =>
      (ix r5 i8).bind fun (x11 : Rect) =>
      if !(Rect.eqb x10 x11) then
        some false
      else
        (F6_l9 n a0 a1 a2 r4 r5 m) (IntKind.wrap .i64 (i8 + 1))
    else
      (F23 n a2).bind fun (r12 : Bool) =>
      (F24 n a2).bind fun (r13 : Bool) =>
      if r12 == r13 then
        (F25 n a0).bind fun (r14 : Bool) =>
        (F26 n a0).bind fun (r15 : Bool) =>
        if r14 == r15 then
          (F27 n a0).bind fun (r16 : Bool) =>
          (F28 n a0).bind fun (r17 : Bool) =>
          if r16 == r17 then
            (F29 n a0 a2).bind fun (r18 : Bool) =>
            (F30 n a0 a2).bind fun (r19 : Bool) =>
            if r18 == r19 then
              (F31 n a0 a1).bind fun (r20 : Rect) =>
              (F32 n a0 a1).bind fun (r21 : Rect) =>
              if Rect.eqb r20 r21 then
                (F33 n a0).bind fun (r22 : Int) =>
                (F34 n a0).bind fun (r23 : Int) =>
                if r22 == r23 then
                  (F35 n a0 a1).bind fun (r24 : Bool) =>
                  (F36 n a0 a1).bind fun (r25 : Bool) =>
                  some (r24 == r25)
                else
                  some false
              else
                some false
            else
              some false
          else
            some false
        else
          some false
      else
        some false
theorem F6_l9_ok (n : Nat) (a0 : Rect) (a1 : Rect) (a2 : Point) (r4 : (List Rect)) (r5 : (List Rect)) : ∀ (m : Nat) (i8 : Int), SimL Try.prog D (n + 8) m pc6_c40 [(3, .one (.ptr 3 0)), (4, .one (.ptr 4 0)), (5, .one (.ptr 5 0)), (7, .one (vw Rect.cod r4)), (8, .one (vw Rect.cod r5)), (9, .one (li .i64 i8))] ((3, some (.cells [li .i64 a0.X0, li .i64 a0.Y0, li .i64 a0.X1, li .i64 a0.Y1])) :: ((4, some (.cells [li .i64 a1.X0, li .i64 a1.Y0, li .i64 a1.X1, li .i64 a1.Y1])) :: ((5, some (.cells [li .i64 a2.X, li .i64 a2.Y])) :: []))) (F6_l9 n a0 a1 a2 r4 r5 m i8) (QB 0 (QT Try.prog D (n + 8) pc6_c46 (QF pc6_r 0 F6_e))) := by
  intro m_l9
  induction m_l9 with
  | zero => intro i8; exact SimL.zero'  rfl
  | succ m_l9 ih_l9 =>
    intro i8
    refine SimL.succ ?_
    unfold F6_l9
    refine Sim.seq ?_
    refine Sim.seq ?_
    refine Sim.region [(3, .one (.ptr 3 0)), (4, .one (.ptr 4 0)), (5, .one (.ptr 5 0)), (7, .one (vw Rect.cod r4)), (8, .one (vw Rect.cod r5)), (9, .one (li .i64 i8))] ((3, some (.cells [li .i64 a0.X0, li .i64 a0.Y0, li .i64 a0.X1, li .i64 a0.Y1])) :: ((4, some (.cells [li .i64 a1.X0, li .i64 a1.Y0, li .i64 a1.X1, li .i64 a1.Y1])) :: ((5, some (.cells [li .i64 a2.X, li .i64 a2.Y])) :: []))) (by kernel_rfl) ?_
    refine SimI.run 4 [(34, .one (lb (decide (i8 < ((r4).length : Int))))), (33, .one (li .i64 ((r4).length : Int))), (32, .one (vw Rect.cod r4)), (31, .one (li .i64 i8))] [] (by kernel_rfl) ?_
    refine SimI.done (by kernel_rfl) ?_
    refine SimE.thenN ?_
    refine Sim.cond (decide (i8 < ((r4).length : Int))) (by kernel_rfl) ?_ ?_
    · refine Sim.skip ?_
      refine SimE.thenN ?_
      refine Sim.seq ?_
      refine Sim.block ?_
      refine Sim.seq ?_
      refine Sim.region0 ?_
      refine SimI.run 2 [(38, .one (li .i64 i8)), (37, .one (vw Rect.cod r4))] [] (by kernel_rfl) ?_
      refine SimI.bind (og := ix r4 i8) { dst := some 39, op := POp.iaddrS 4 (Operand.tmp 37) (Operand.tmp 38), guard := none, hints := [(37, Hint.imm), (38, Hint.imm)] } (fun x10 => [(39, .one (.eptr (Rect.cod.enc x10) 0))]) (fun x10 => []) (by kernel_rfl) (fun x10 hr => pOp_eff (by kernel_rfl) (by kernel_rfl) (eff_idx (c := Rect.cod) (l := r4) (k := .i64) (n := i8) (by kernel_rfl) (by kernel_rfl) (by kernel_rfl) hr)) (fun x10 => ?_)
      refine SimI.run 3 [(42, .one (li .i64 i8)), (41, .one (vw Rect.cod r5)), (40, .agg [li .i64 x10.X0, li .i64 x10.Y0, li .i64 x10.X1, li .i64 x10.Y1])] [] (by kernel_rfl) ?_
      refine SimI.bind (og := ix r5 i8) { dst := some 43, op := POp.iaddrS 4 (Operand.tmp 41) (Operand.tmp 42), guard := none, hints := [(41, Hint.imm), (42, Hint.imm)] } (fun x11 => [(43, .one (.eptr (Rect.cod.enc x11) 0))]) (fun x11 => []) (by kernel_rfl) (fun x11 hr => pOp_eff (by kernel_rfl) (by kernel_rfl) (eff_idx (c := Rect.cod) (l := r5) (k := .i64) (n := i8) (by kernel_rfl) (by kernel_rfl) (by kernel_rfl) hr)) (fun x11 => ?_)
      refine SimI.run 1 [(44, .agg [li .i64 x11.X0, li .i64 x11.Y0, li .i64 x11.X1, li .i64 x11.Y1])] [] (by kernel_rfl) ?_
      refine SimI.step { dst := some 45, op := POp.prim (Prim.bin BinOp.neq 35 false false) [Operand.tmp 40, Operand.tmp 44], guard := none, hints := [(40, Hint.imm), (44, Hint.imm)] } [(45, .one (lb (!(Rect.eqb x10 x11))))] [] (by kernel_rfl) (pOp_eff (by kernel_rfl) (by kernel_rfl) (eff_prim (by kernel_rfl) (Rect_eqn x10 x11 _ _))) ?_
      refine SimI.done (by kernel_rfl) ?_
      refine SimE.thenN ?_
      refine Sim.cond (!(Rect.eqb x10 x11)) (by kernel_rfl) ?_ ?_
      · refine Sim.seq ?_
        refine Sim.region0 ?_
        refine SimI.run 1 [(6, .one (lb false))] [] (by kernel_rfl) ?_
        refine SimI.done (by kernel_rfl) ?_
        refine SimE.thenN ?_
        refine Sim.ret ?_
        refine SimE.blockR ?_
        refine SimE.thenR ?_
        refine SimE.loopR ?_
        refine SimE.blockR ?_
        refine SimE.thenR ?_
        exact SimE.fin (by kernel_rfl)
      · refine Sim.skip ?_
        refine SimE.blockN ?_
        refine SimE.thenN ?_
        refine Sim.region0 ?_
        refine SimI.run 3 [(9, .one (li .i64 (IntKind.wrap .i64 (i8 + 1)))), (36, .one (li .i64 (IntKind.wrap .i64 (i8 + 1)))), (35, .one (li .i64 i8))] [] (by kernel_rfl) ?_
        refine SimI.done (by kernel_rfl) ?_
        refine SimE.loopN ?_
        refine SimL.pre (ts := [3, 4, 5, 7, 8, 9]) (os := [3, 4, 5]) [(3, .one (.ptr 3 0)), (4, .one (.ptr 4 0)), (5, .one (.ptr 5 0)), (7, .one (vw Rect.cod r4)), (8, .one (vw Rect.cod r5)), (9, .one (li .i64 (IntKind.wrap .i64 (i8 + 1))))] ((3, some (.cells [li .i64 a0.X0, li .i64 a0.Y0, li .i64 a0.X1, li .i64 a0.Y1])) :: ((4, some (.cells [li .i64 a1.X0, li .i64 a1.Y0, li .i64 a1.X1, li .i64 a1.Y1])) :: ((5, some (.cells [li .i64 a2.X, li .i64 a2.Y])) :: []))) (by kernel_rfl) (by kernel_rfl) (by kernel_rfl) ?_
        exact ih_l9 (IntKind.wrap .i64 (i8 + 1))
    · refine Sim.exit ?_
      refine SimE.thenX ?_
      refine SimE.loopX ?_
      refine SimE.blockX ?_
      refine SimE.thenN ?_
      refine Sim.seq ?_
      refine Sim.region0 ?_
      refine SimI.run 1 [(46, .agg [li .i64 a2.X, li .i64 a2.Y])] [] (by kernel_rfl) ?_
      refine SimI.bind (og := F23 n a2) { dst := some 47, op := POp.call false [[]] 23 [Operand.tmp 46], guard := none, hints := [(46, Hint.imm)] } (fun r12 => [(47, .one (lb r12))]) (fun r12 => []) (by kernel_rfl) (fun r12 hr => pOp_eff (by kernel_rfl) (by kernel_rfl) (eff_call (ARGS := [.agg [li .i64 a2.X, li .i64 a2.Y]]) (by kernel_rfl) (args_clean (by kernel_rfl) args_nil) (F23_ok n a2 r12 hr) (by kernel_rfl))) (fun r12 => ?_)
      refine SimI.run 1 [(48, .agg [li .i64 a2.X, li .i64 a2.Y])] [] (by kernel_rfl) ?_
      refine SimI.bind (og := F24 n a2) { dst := some 49, op := POp.call false [[]] 24 [Operand.tmp 48], guard := none, hints := [(48, Hint.imm)] } (fun r13 => [(49, .one (lb r13))]) (fun r13 => []) (by kernel_rfl) (fun r13 hr => pOp_eff (by kernel_rfl) (by kernel_rfl) (eff_call (ARGS := [.agg [li .i64 a2.X, li .i64 a2.Y]]) (by kernel_rfl) (args_clean (by kernel_rfl) args_nil) (F24_ok n a2 r13 hr) (by kernel_rfl))) (fun r13 => ?_)
      refine SimI.run 2 [(51, .one (lb (r12 == r13))), (50, .one (lb (r12 == r13)))] [] (by kernel_rfl) ?_
      refine SimI.split 51 (r12 == r13) (by kernel_rfl) ?_ ?_
      · refine SimI.run 1 [(52, .agg [li .i64 a0.X0, li .i64 a0.Y0, li .i64 a0.X1, li .i64 a0.Y1])] [] (by kernel_rfl) ?_
        refine SimI.bind (og := F25 n a0) { dst := some 53, op := POp.call false [[]] 25 [Operand.tmp 52], guard := some (51, true), hints := [(52, Hint.imm)] } (fun r14 => [(53, .one (lb r14))]) (fun r14 => []) (by kernel_rfl) (fun r14 hr => pOp_eff (by kernel_rfl) (by kernel_rfl) (eff_call (ARGS := [.agg [li .i64 a0.X0, li .i64 a0.Y0, li .i64 a0.X1, li .i64 a0.Y1]]) (by kernel_rfl) (args_clean (by kernel_rfl) args_nil) (F25_ok n a0 r14 hr) (by kernel_rfl))) (fun r14 => ?_)
        refine SimI.run 1 [(54, .agg [li .i64 a0.X0, li .i64 a0.Y0, li .i64 a0.X1, li .i64 a0.Y1])] [] (by kernel_rfl) ?_
        refine SimI.bind (og := F26 n a0) { dst := some 55, op := POp.call false [[]] 26 [Operand.tmp 54], guard := some (51, true), hints := [(54, Hint.imm)] } (fun r15 => [(55, .one (lb r15))]) (fun r15 => []) (by kernel_rfl) (fun r15 hr => pOp_eff (by kernel_rfl) (by kernel_rfl) (eff_call (ARGS := [.agg [li .i64 a0.X0, li .i64 a0.Y0, li .i64 a0.X1, li .i64 a0.Y1]]) (by kernel_rfl) (args_clean (by kernel_rfl) args_nil) (F26_ok n a0 r15 hr) (by kernel_rfl))) (fun r15 => ?_)
        refine SimI.run 3 [(58, .one (lb (r14 == r15))), (57, .one (lb (r14 == r15))), (56, .one (lb (r14 == r15)))] [] (by kernel_rfl) ?_
        refine SimI.split 58 (r14 == r15) (by kernel_rfl) ?_ ?_
        · refine SimI.run 1 [(59, .agg [li .i64 a0.X0, li .i64 a0.Y0, li .i64 a0.X1, li .i64 a0.Y1])] [] (by kernel_rfl) ?_
          refine SimI.bind (og := F27 n a0) { dst := some 60, op := POp.call false [[]] 27 [Operand.tmp 59], guard := some (58, true), hints := [(59, Hint.imm)] } (fun r16 => [(60, .one (lb r16))]) (fun r16 => []) (by kernel_rfl) (fun r16 hr => pOp_eff (by kernel_rfl) (by kernel_rfl) (eff_call (ARGS := [.agg [li .i64 a0.X0, li .i64 a0.Y0, li .i64 a0.X1, li .i64 a0.Y1]]) (by kernel_rfl) (args_clean (by kernel_rfl) args_nil) (F27_ok n a0 r16 hr) (by kernel_rfl))) (fun r16 => ?_)
          refine SimI.run 1 [(61, .agg [li .i64 a0.X0, li .i64 a0.Y0, li .i64 a0.X1, li .i64 a0.Y1])] [] (by kernel_rfl) ?_
          refine SimI.bind (og := F28 n a0) { dst := some 62, op := POp.call false [[]] 28 [Operand.tmp 61], guard := some (58, true), hints := [(61, Hint.imm)] } (fun r17 => [(62, .one (lb r17))]) (fun r17 => []) (by kernel_rfl) (fun r17 hr => pOp_eff (by kernel_rfl) (by kernel_rfl) (eff_call (ARGS := [.agg [li .i64 a0.X0, li .i64 a0.Y0, li .i64 a0.X1, li .i64 a0.Y1]]) (by kernel_rfl) (args_clean (by kernel_rfl) args_nil) (F28_ok n a0 r17 hr) (by kernel_rfl))) (fun r17 => ?_)
          refine SimI.run 3 [(65, .one (lb (r16 == r17))), (64, .one (lb (r16 == r17))), (63, .one (lb (r16 == r17)))] [] (by kernel_rfl) ?_
          refine SimI.split 65 (r16 == r17) (by kernel_rfl) ?_ ?_
          · refine SimI.run 2 [(67, .agg [li .i64 a2.X, li .i64 a2.Y]), (66, .agg [li .i64 a0.X0, li .i64 a0.Y0, li .i64 a0.X1, li .i64 a0.Y1])] [] (by kernel_rfl) ?_
            refine SimI.bind (og := F29 n a0 a2) { dst := some 68, op := POp.call false [[], []] 29 [Operand.tmp 66, Operand.tmp 67], guard := some (65, true), hints := [(66, Hint.imm), (67, Hint.imm)] } (fun r18 => [(68, .one (lb r18))]) (fun r18 => []) (by kernel_rfl) (fun r18 hr => pOp_eff (by kernel_rfl) (by kernel_rfl) (eff_call (ARGS := [.agg [li .i64 a0.X0, li .i64 a0.Y0, li .i64 a0.X1, li .i64 a0.Y1], .agg [li .i64 a2.X, li .i64 a2.Y]]) (by kernel_rfl) (args_clean (by kernel_rfl) (args_clean (by kernel_rfl) args_nil)) (F29_ok n a0 a2 r18 hr) (by kernel_rfl))) (fun r18 => ?_)
            refine SimI.run 2 [(70, .agg [li .i64 a2.X, li .i64 a2.Y]), (69, .agg [li .i64 a0.X0, li .i64 a0.Y0, li .i64 a0.X1, li .i64 a0.Y1])] [] (by kernel_rfl) ?_
            refine SimI.bind (og := F30 n a0 a2) { dst := some 71, op := POp.call false [[], []] 30 [Operand.tmp 69, Operand.tmp 70], guard := some (65, true), hints := [(69, Hint.imm), (70, Hint.imm)] } (fun r19 => [(71, .one (lb r19))]) (fun r19 => []) (by kernel_rfl) (fun r19 hr => pOp_eff (by kernel_rfl) (by kernel_rfl) (eff_call (ARGS := [.agg [li .i64 a0.X0, li .i64 a0.Y0, li .i64 a0.X1, li .i64 a0.Y1], .agg [li .i64 a2.X, li .i64 a2.Y]]) (by kernel_rfl) (args_clean (by kernel_rfl) (args_clean (by kernel_rfl) args_nil)) (F30_ok n a0 a2 r19 hr) (by kernel_rfl))) (fun r19 => ?_)
            refine SimI.run 3 [(74, .one (lb (r18 == r19))), (73, .one (lb (r18 == r19))), (72, .one (lb (r18 == r19)))] [] (by kernel_rfl) ?_
            refine SimI.split 74 (r18 == r19) (by kernel_rfl) ?_ ?_
            · refine SimI.run 2 [(76, .agg [li .i64 a1.X0, li .i64 a1.Y0, li .i64 a1.X1, li .i64 a1.Y1]), (75, .agg [li .i64 a0.X0, li .i64 a0.Y0, li .i64 a0.X1, li .i64 a0.Y1])] [] (by kernel_rfl) ?_
              refine SimI.bind (og := F31 n a0 a1) { dst := some 77, op := POp.call false [[], []] 31 [Operand.tmp 75, Operand.tmp 76], guard := some (74, true), hints := [(75, Hint.imm), (76, Hint.imm)] } (fun r20 => [(77, .agg [li .i64 r20.X0, li .i64 r20.Y0, li .i64 r20.X1, li .i64 r20.Y1])]) (fun r20 => []) (by kernel_rfl) (fun r20 hr => pOp_eff (by kernel_rfl) (by kernel_rfl) (eff_call (ARGS := [.agg [li .i64 a0.X0, li .i64 a0.Y0, li .i64 a0.X1, li .i64 a0.Y1], .agg [li .i64 a1.X0, li .i64 a1.Y0, li .i64 a1.X1, li .i64 a1.Y1]]) (by kernel_rfl) (args_clean (by kernel_rfl) (args_clean (by kernel_rfl) args_nil)) (F31_ok n a0 a1 r20 hr) (by kernel_rfl))) (fun r20 => ?_)
              refine SimI.run 2 [(79, .agg [li .i64 a1.X0, li .i64 a1.Y0, li .i64 a1.X1, li .i64 a1.Y1]), (78, .agg [li .i64 a0.X0, li .i64 a0.Y0, li .i64 a0.X1, li .i64 a0.Y1])] [] (by kernel_rfl) ?_
              refine SimI.bind (og := F32 n a0 a1) { dst := some 80, op := POp.call false [[], []] 32 [Operand.tmp 78, Operand.tmp 79], guard := some (74, true), hints := [(78, Hint.imm), (79, Hint.imm)] } (fun r21 => [(80, .agg [li .i64 r21.X0, li .i64 r21.Y0, li .i64 r21.X1, li .i64 r21.Y1])]) (fun r21 => []) (by kernel_rfl) (fun r21 hr => pOp_eff (by kernel_rfl) (by kernel_rfl) (eff_call (ARGS := [.agg [li .i64 a0.X0, li .i64 a0.Y0, li .i64 a0.X1, li .i64 a0.Y1], .agg [li .i64 a1.X0, li .i64 a1.Y0, li .i64 a1.X1, li .i64 a1.Y1]]) (by kernel_rfl) (args_clean (by kernel_rfl) (args_clean (by kernel_rfl) args_nil)) (F32_ok n a0 a1 r21 hr) (by kernel_rfl))) (fun r21 => ?_)
              refine SimI.step { dst := some 81, op := POp.prim (Prim.bin BinOp.eql 35 false false) [Operand.tmp 77, Operand.tmp 80], guard := some (74, true), hints := [(77, Hint.imm), (80, Hint.imm)] } [(81, .one (lb (Rect.eqb r20 r21)))] [] (by kernel_rfl) (pOp_eff (by kernel_rfl) (by kernel_rfl) (eff_prim (by kernel_rfl) (Rect_eql r20 r21 _ _))) ?_
              refine SimI.run 2 [(83, .one (lb (Rect.eqb r20 r21))), (82, .one (lb (Rect.eqb r20 r21)))] [] (by kernel_rfl) ?_
              refine SimI.split 83 (Rect.eqb r20 r21) (by kernel_rfl) ?_ ?_
              · refine SimI.run 1 [(84, .agg [li .i64 a0.X0, li .i64 a0.Y0, li .i64 a0.X1, li .i64 a0.Y1])] [] (by kernel_rfl) ?_
                refine SimI.bind (og := F33 n a0) { dst := some 85, op := POp.call false [[]] 33 [Operand.tmp 84], guard := some (83, true), hints := [(84, Hint.imm)] } (fun r22 => [(85, .one (li .i64 r22))]) (fun r22 => []) (by kernel_rfl) (fun r22 hr => pOp_eff (by kernel_rfl) (by kernel_rfl) (eff_call (ARGS := [.agg [li .i64 a0.X0, li .i64 a0.Y0, li .i64 a0.X1, li .i64 a0.Y1]]) (by kernel_rfl) (args_clean (by kernel_rfl) args_nil) (F33_ok n a0 r22 hr) (by kernel_rfl))) (fun r22 => ?_)
                refine SimI.run 1 [(86, .agg [li .i64 a0.X0, li .i64 a0.Y0, li .i64 a0.X1, li .i64 a0.Y1])] [] (by kernel_rfl) ?_
                refine SimI.bind (og := F34 n a0) { dst := some 87, op := POp.call false [[]] 34 [Operand.tmp 86], guard := some (83, true), hints := [(86, Hint.imm)] } (fun r23 => [(87, .one (li .i64 r23))]) (fun r23 => []) (by kernel_rfl) (fun r23 hr => pOp_eff (by kernel_rfl) (by kernel_rfl) (eff_call (ARGS := [.agg [li .i64 a0.X0, li .i64 a0.Y0, li .i64 a0.X1, li .i64 a0.Y1]]) (by kernel_rfl) (args_clean (by kernel_rfl) args_nil) (F34_ok n a0 r23 hr) (by kernel_rfl))) (fun r23 => ?_)
                refine SimI.run 3 [(90, .one (lb (r22 == r23))), (89, .one (lb (r22 == r23))), (88, .one (lb (r22 == r23)))] [] (by kernel_rfl) ?_
                refine SimI.split 90 (r22 == r23) (by kernel_rfl) ?_ ?_
                · refine SimI.run 2 [(92, .agg [li .i64 a1.X0, li .i64 a1.Y0, li .i64 a1.X1, li .i64 a1.Y1]), (91, .agg [li .i64 a0.X0, li .i64 a0.Y0, li .i64 a0.X1, li .i64 a0.Y1])] [] (by kernel_rfl) ?_
                  refine SimI.bind (og := F35 n a0 a1) { dst := some 93, op := POp.call false [[], []] 35 [Operand.tmp 91, Operand.tmp 92], guard := some (90, true), hints := [(91, Hint.imm), (92, Hint.imm)] } (fun r24 => [(93, .one (lb r24))]) (fun r24 => []) (by kernel_rfl) (fun r24 hr => pOp_eff (by kernel_rfl) (by kernel_rfl) (eff_call (ARGS := [.agg [li .i64 a0.X0, li .i64 a0.Y0, li .i64 a0.X1, li .i64 a0.Y1], .agg [li .i64 a1.X0, li .i64 a1.Y0, li .i64 a1.X1, li .i64 a1.Y1]]) (by kernel_rfl) (args_clean (by kernel_rfl) (args_clean (by kernel_rfl) args_nil)) (F35_ok n a0 a1 r24 hr) (by kernel_rfl))) (fun r24 => ?_)
                  refine SimI.run 2 [(95, .agg [li .i64 a1.X0, li .i64 a1.Y0, li .i64 a1.X1, li .i64 a1.Y1]), (94, .agg [li .i64 a0.X0, li .i64 a0.Y0, li .i64 a0.X1, li .i64 a0.Y1])] [] (by kernel_rfl) ?_
                  refine SimI.bind (og := F36 n a0 a1) { dst := some 96, op := POp.call false [[], []] 36 [Operand.tmp 94, Operand.tmp 95], guard := some (90, true), hints := [(94, Hint.imm), (95, Hint.imm)] } (fun r25 => [(96, .one (lb r25))]) (fun r25 => []) (by kernel_rfl) (fun r25 hr => pOp_eff (by kernel_rfl) (by kernel_rfl) (eff_call (ARGS := [.agg [li .i64 a0.X0, li .i64 a0.Y0, li .i64 a0.X1, li .i64 a0.Y1], .agg [li .i64 a1.X0, li .i64 a1.Y0, li .i64 a1.X1, li .i64 a1.Y1]]) (by kernel_rfl) (args_clean (by kernel_rfl) (args_clean (by kernel_rfl) args_nil)) (F36_ok n a0 a1 r25 hr) (by kernel_rfl))) (fun r25 => ?_)
                  refine SimI.run 3 [(6, .one (lb (r24 == r25))), (98, .one (lb (r24 == r25))), (97, .one (lb (r24 == r25)))] [] (by kernel_rfl) ?_
                  refine SimI.done (by kernel_rfl) ?_
                  refine SimE.thenN ?_
                  refine Sim.ret ?_
                  exact SimE.fin (by kernel_rfl)
                · refine SimI.run 9 [(6, .one (lb false)), (98, .one (lb false)), (97, .tup []), (96, .tup []), (95, .tup []), (94, .tup []), (93, .tup []), (92, .tup []), (91, .tup [])] [] (by kernel_rfl) ?_
                  refine SimI.done (by kernel_rfl) ?_
                  refine SimE.thenN ?_
                  refine Sim.ret ?_
                  exact SimE.fin (by kernel_rfl)
              · refine SimI.run 16 [(6, .one (lb false)), (98, .one (lb false)), (97, .tup []), (96, .tup []), (95, .tup []), (94, .tup []), (93, .tup []), (92, .tup []), (91, .tup []), (90, .one (lb false)), (89, .one (lb false)), (88, .tup []), (87, .tup []), (86, .tup []), (85, .tup []), (84, .tup [])] [] (by kernel_rfl) ?_
                refine SimI.done (by kernel_rfl) ?_
                refine SimE.thenN ?_
                refine Sim.ret ?_
                exact SimE.fin (by kernel_rfl)
            · refine SimI.run 25 [(6, .one (lb false)), (98, .one (lb false)), (97, .tup []), (96, .tup []), (95, .tup []), (94, .tup []), (93, .tup []), (92, .tup []), (91, .tup []), (90, .one (lb false)), (89, .one (lb false)), (88, .tup []), (87, .tup []), (86, .tup []), (85, .tup []), (84, .tup []), (83, .one (lb false)), (82, .one (lb false)), (81, .tup []), (80, .tup []), (79, .tup []), (78, .tup []), (77, .tup []), (76, .tup []), (75, .tup [])] [] (by kernel_rfl) ?_
              refine SimI.done (by kernel_rfl) ?_
              refine SimE.thenN ?_
              refine Sim.ret ?_
              exact SimE.fin (by kernel_rfl)
          · refine SimI.run 34 [(6, .one (lb false)), (98, .one (lb false)), (97, .tup []), (96, .tup []), (95, .tup []), (94, .tup []), (93, .tup []), (92, .tup []), (91, .tup []), (90, .one (lb false)), (89, .one (lb false)), (88, .tup []), (87, .tup []), (86, .tup []), (85, .tup []), (84, .tup []), (83, .one (lb false)), (82, .one (lb false)), (81, .tup []), (80, .tup []), (79, .tup []), (78, .tup []), (77, .tup []), (76, .tup []), (75, .tup []), (74, .one (lb false)), (73, .one (lb false)), (72, .tup []), (71, .tup []), (70, .tup []), (69, .tup []), (68, .tup []), (67, .tup []), (66, .tup [])] [] (by kernel_rfl) ?_
            refine SimI.done (by kernel_rfl) ?_
            refine SimE.thenN ?_
            refine Sim.ret ?_
            exact SimE.fin (by kernel_rfl)
        · refine SimI.run 41 [(6, .one (lb false)), (98, .one (lb false)), (97, .tup []), (96, .tup []), (95, .tup []), (94, .tup []), (93, .tup []), (92, .tup []), (91, .tup []), (90, .one (lb false)), (89, .one (lb false)), (88, .tup []), (87, .tup []), (86, .tup []), (85, .tup []), (84, .tup []), (83, .one (lb false)), (82, .one (lb false)), (81, .tup []), (80, .tup []), (79, .tup []), (78, .tup []), (77, .tup []), (76, .tup []), (75, .tup []), (74, .one (lb false)), (73, .one (lb false)), (72, .tup []), (71, .tup []), (70, .tup []), (69, .tup []), (68, .tup []), (67, .tup []), (66, .tup []), (65, .one (lb false)), (64, .one (lb false)), (63, .tup []), (62, .tup []), (61, .tup []), (60, .tup []), (59, .tup [])] [] (by kernel_rfl) ?_
          refine SimI.done (by kernel_rfl) ?_
          refine SimE.thenN ?_
          refine Sim.ret ?_
          exact SimE.fin (by kernel_rfl)
      · refine SimI.run 48 [(6, .one (lb false)), (98, .one (lb false)), (97, .tup []), (96, .tup []), (95, .tup []), (94, .tup []), (93, .tup []), (92, .tup []), (91, .tup []), (90, .one (lb false)), (89, .one (lb false)), (88, .tup []), (87, .tup []), (86, .tup []), (85, .tup []), (84, .tup []), (83, .one (lb false)), (82, .one (lb false)), (81, .tup []), (80, .tup []), (79, .tup []), (78, .tup []), (77, .tup []), (76, .tup []), (75, .tup []), (74, .one (lb false)), (73, .one (lb false)), (72, .tup []), (71, .tup []), (70, .tup []), (69, .tup []), (68, .tup []), (67, .tup []), (66, .tup []), (65, .one (lb false)), (64, .one (lb false)), (63, .tup []), (62, .tup []), (61, .tup []), (60, .tup []), (59, .tup []), (58, .one (lb false)), (57, .one (lb false)), (56, .tup []), (55, .tup []), (54, .tup []), (53, .tup []), (52, .tup [])] [] (by kernel_rfl) ?_
        refine SimI.done (by kernel_rfl) ?_
        refine SimE.thenN ?_
        refine Sim.ret ?_
        exact SimE.fin (by kernel_rfl)

def F6 (n : Nat) (a0 : Rect) (a1 : Rect) (a2 : Point) : Option Bool :=
  ((some true)).bind fun (r1 : Bool) =>
  if !(r1) then
    some false
  else
    (F20 n a0).bind fun (r2 : Bool) =>
    if !(r2) then
      some true
    else
      (F20 n a1).bind fun (r3 : Bool) =>
      if !(r3) then
        some true
      else
        (F21 n a0 a1).bind fun (r4 : (List Rect)) =>
        (F22 n a0 a1).bind fun (r5 : (List Rect)) =>
        if ((r4).length : Int) != ((r5).length : Int) then
          some false
        else
          F6_l9 n a0 a1 a2 r4 r5 (n + 8) 0
theorem F6_ok (n : Nat) (a0 : Rect) (a1 : Rect) (a2 : Point) : ∀ r, F6 n a0 a1 a2 = some r → D 6 [.agg [li .i64 a0.X0, li .i64 a0.Y0, li .i64 a0.X1, li .i64 a0.Y1], .agg [li .i64 a1.X0, li .i64 a1.Y0, li .i64 a1.X1, li .i64 a1.Y1], .agg [li .i64 a2.X, li .i64 a2.Y]] [] = some (F6_e r) := by
  refine fn_to (D := D) (n := n + 8) (nt := 99) (rs := pc6_r) (c := pc6_c52) (L := [(0, .agg [li .i64 a0.X0, li .i64 a0.Y0, li .i64 a0.X1, li .i64 a0.Y1]), (1, .agg [li .i64 a1.X0, li .i64 a1.Y0, li .i64 a1.X1, li .i64 a1.Y1]), (2, .agg [li .i64 a2.X, li .i64 a2.Y])]) (M := []) (k := 0) rfl rfl rfl rfl rfl rfl ?_
  unfold F6
  refine Sim.seq ?_
  refine Sim.region0 ?_
  refine SimI.run 4 [(6, .one (lb false)), (5, .one (.ptr 5 0)), (4, .one (.ptr 4 0)), (3, .one (.ptr 3 0))] [(5, some (.cells [li .i64 a2.X, li .i64 a2.Y])), (4, some (.cells [li .i64 a1.X0, li .i64 a1.Y0, li .i64 a1.X1, li .i64 a1.Y1])), (3, some (.cells [li .i64 a0.X0, li .i64 a0.Y0, li .i64 a0.X1, li .i64 a0.Y1]))] (by kernel_rfl) ?_
  refine SimI.done (by kernel_rfl) ?_
  refine SimE.thenN ?_
  refine Sim.seq ?_
  refine Sim.seq ?_
  refine Sim.region0 ?_
  refine SimI.bind (og := (some true)) { dst := some 10, op := POp.call true [] 19 [], guard := none, hints := [] } (fun r1 => [(10, .one (lb r1))]) (fun r1 => []) (by kernel_rfl) (fun r1 hr => pOp_eff (by kernel_rfl) (by kernel_rfl) (eff_call (ARGS := []) (by kernel_rfl) (args_nil) (F19_ok n r1 hr) (by kernel_rfl))) (fun r1 => ?_)
  refine SimI.run 1 [(11, .one (lb (!(r1))))] [] (by kernel_rfl) ?_
  refine SimI.done (by kernel_rfl) ?_
  refine SimE.thenN ?_
  refine Sim.cond (!(r1)) (by kernel_rfl) ?_ ?_
  · refine Sim.seq ?_
    refine Sim.region0 ?_
    refine SimI.run 1 [(6, .one (lb false))] [] (by kernel_rfl) ?_
    refine SimI.done (by kernel_rfl) ?_
    refine SimE.thenN ?_
    refine Sim.ret ?_
    refine SimE.thenR ?_
    exact SimE.fin (by kernel_rfl)
  · refine Sim.skip ?_
    refine SimE.thenN ?_
    refine Sim.seq ?_
    refine Sim.seq ?_
    refine Sim.region0 ?_
    refine SimI.run 1 [(12, .agg [li .i64 a0.X0, li .i64 a0.Y0, li .i64 a0.X1, li .i64 a0.Y1])] [] (by kernel_rfl) ?_
    refine SimI.bind (og := F20 n a0) { dst := some 13, op := POp.call true [[]] 20 [Operand.tmp 12], guard := none, hints := [] } (fun r2 => [(13, .one (lb r2))]) (fun r2 => []) (by kernel_rfl) (fun r2 hr => pOp_eff (by kernel_rfl) (by kernel_rfl) (eff_call (ARGS := [.agg [li .i64 a0.X0, li .i64 a0.Y0, li .i64 a0.X1, li .i64 a0.Y1]]) (by kernel_rfl) (args_clean (by kernel_rfl) args_nil) (F20_ok n a0 r2 hr) (by kernel_rfl))) (fun r2 => ?_)
    refine SimI.run 2 [(15, .one (lb (!(r2)))), (14, .one (lb (!(r2))))] [] (by kernel_rfl) ?_
    refine SimI.split 15 (!(r2)) (by kernel_rfl) ?_ ?_
    · refine SimI.run 4 [(19, .one (lb true)), (18, .tup []), (17, .tup []), (16, .tup [])] [] (by kernel_rfl) ?_
      refine SimI.done (by kernel_rfl) ?_
      refine SimE.thenN ?_
      refine Sim.condT (by kernel_rfl) ?_
      refine Sim.seq ?_
      refine Sim.region0 ?_
      refine SimI.run 1 [(6, .one (lb true))] [] (by kernel_rfl) ?_
      refine SimI.done (by kernel_rfl) ?_
      refine SimE.thenN ?_
      refine Sim.ret ?_
      refine SimE.thenR ?_
      exact SimE.fin (by kernel_rfl)
    · refine SimI.run 1 [(16, .agg [li .i64 a1.X0, li .i64 a1.Y0, li .i64 a1.X1, li .i64 a1.Y1])] [] (by kernel_rfl) ?_
      refine SimI.bind (og := F20 n a1) { dst := some 17, op := POp.call true [[]] 20 [Operand.tmp 16], guard := some (15, false), hints := [] } (fun r3 => [(17, .one (lb r3))]) (fun r3 => []) (by kernel_rfl) (fun r3 hr => pOp_eff (by kernel_rfl) (by kernel_rfl) (eff_call (ARGS := [.agg [li .i64 a1.X0, li .i64 a1.Y0, li .i64 a1.X1, li .i64 a1.Y1]]) (by kernel_rfl) (args_clean (by kernel_rfl) args_nil) (F20_ok n a1 r3 hr) (by kernel_rfl))) (fun r3 => ?_)
      refine SimI.run 2 [(19, .one (lb (!(r3)))), (18, .one (lb (!(r3))))] [] (by kernel_rfl) ?_
      refine SimI.done (by kernel_rfl) ?_
      refine SimE.thenN ?_
      refine Sim.cond (!(r3)) (by kernel_rfl) ?_ ?_
      · refine Sim.seq ?_
        refine Sim.region0 ?_
        refine SimI.run 1 [(6, .one (lb true))] [] (by kernel_rfl) ?_
        refine SimI.done (by kernel_rfl) ?_
        refine SimE.thenN ?_
        refine Sim.ret ?_
        refine SimE.thenR ?_
        exact SimE.fin (by kernel_rfl)
      · refine Sim.skip ?_
        refine SimE.thenN ?_
        refine Sim.seq ?_
        refine Sim.region0 ?_
        refine SimI.run 2 [(21, .agg [li .i64 a1.X0, li .i64 a1.Y0, li .i64 a1.X1, li .i64 a1.Y1]), (20, .agg [li .i64 a0.X0, li .i64 a0.Y0, li .i64 a0.X1, li .i64 a0.Y1])] [] (by kernel_rfl) ?_
        refine SimI.bind (og := F21 n a0 a1) { dst := some 22, op := POp.call false [[], []] 21 [Operand.tmp 20, Operand.tmp 21], guard := none, hints := [(20, Hint.imm), (21, Hint.imm)] } (fun r4 => [(22, .one (vw Rect.cod r4))]) (fun r4 => []) (by kernel_rfl) (fun r4 hr => pOp_eff (by kernel_rfl) (by kernel_rfl) (eff_call (ARGS := [.agg [li .i64 a0.X0, li .i64 a0.Y0, li .i64 a0.X1, li .i64 a0.Y1], .agg [li .i64 a1.X0, li .i64 a1.Y0, li .i64 a1.X1, li .i64 a1.Y1]]) (by kernel_rfl) (args_clean (by kernel_rfl) (args_clean (by kernel_rfl) args_nil)) (F21_ok n a0 a1 r4 hr) (by kernel_rfl))) (fun r4 => ?_)
        refine SimI.run 2 [(24, .agg [li .i64 a1.X0, li .i64 a1.Y0, li .i64 a1.X1, li .i64 a1.Y1]), (23, .agg [li .i64 a0.X0, li .i64 a0.Y0, li .i64 a0.X1, li .i64 a0.Y1])] [] (by kernel_rfl) ?_
        refine SimI.bind (og := F22 n a0 a1) { dst := some 25, op := POp.call false [[], []] 22 [Operand.tmp 23, Operand.tmp 24], guard := none, hints := [(23, Hint.imm), (24, Hint.imm)] } (fun r5 => [(25, .one (vw Rect.cod r5))]) (fun r5 => []) (by kernel_rfl) (fun r5 hr => pOp_eff (by kernel_rfl) (by kernel_rfl) (eff_call (ARGS := [.agg [li .i64 a0.X0, li .i64 a0.Y0, li .i64 a0.X1, li .i64 a0.Y1], .agg [li .i64 a1.X0, li .i64 a1.Y0, li .i64 a1.X1, li .i64 a1.Y1]]) (by kernel_rfl) (args_clean (by kernel_rfl) (args_clean (by kernel_rfl) args_nil)) (F22_ok n a0 a1 r5 hr) (by kernel_rfl))) (fun r5 => ?_)
        refine SimI.run 2 [(8, .one (vw Rect.cod r5)), (7, .one (vw Rect.cod r4))] [] (by kernel_rfl) ?_
        refine SimI.done (by kernel_rfl) ?_
        refine SimE.thenN ?_
        refine Sim.seq ?_
        refine Sim.seq ?_
        refine Sim.region0 ?_
        refine SimI.run 5 [(30, .one (lb (((r4).length : Int) != ((r5).length : Int)))), (29, .one (li .i64 ((r5).length : Int))), (28, .one (vw Rect.cod r5)), (27, .one (li .i64 ((r4).length : Int))), (26, .one (vw Rect.cod r4))] [] (by kernel_rfl) ?_
        refine SimI.done (by kernel_rfl) ?_
        refine SimE.thenN ?_
        refine Sim.cond (((r4).length : Int) != ((r5).length : Int)) (by kernel_rfl) ?_ ?_
        · refine Sim.seq ?_
          refine Sim.region0 ?_
          refine SimI.run 1 [(6, .one (lb false))] [] (by kernel_rfl) ?_
          refine SimI.done (by kernel_rfl) ?_
          refine SimE.thenN ?_
          refine Sim.ret ?_
          refine SimE.thenR ?_
          exact SimE.fin (by kernel_rfl)
        · refine Sim.skip ?_
          refine SimE.thenN ?_
          refine Sim.seq ?_
          refine Sim.seq ?_
          refine Sim.region0 ?_
          refine SimI.run 1 [(9, .one (li .i64 0))] [] (by kernel_rfl) ?_
          refine SimI.done (by kernel_rfl) ?_
          refine SimE.thenN ?_
          refine Sim.block ?_
          refine Sim.loop ?_
          refine SimL.pre (ts := [3, 4, 5, 7, 8, 9]) (os := [3, 4, 5]) [(3, .one (.ptr 3 0)), (4, .one (.ptr 4 0)), (5, .one (.ptr 5 0)), (7, .one (vw Rect.cod r4)), (8, .one (vw Rect.cod r5)), (9, .one (li .i64 0))] ((3, some (.cells [li .i64 a0.X0, li .i64 a0.Y0, li .i64 a0.X1, li .i64 a0.Y1])) :: ((4, some (.cells [li .i64 a1.X0, li .i64 a1.Y0, li .i64 a1.X1, li .i64 a1.Y1])) :: ((5, some (.cells [li .i64 a2.X, li .i64 a2.Y])) :: []))) (by kernel_rfl) (by kernel_rfl) (by kernel_rfl) ?_
          exact F6_l9_ok n a0 a1 a2 r4 r5 (n + 8) 0


-- 10: vedette/vedettelaw3.GeomMoves
def F10_e : Bool → PV × List (List Lf) := fun r => (.one (lb r), [])
def F10_l19 (n : Nat) (a0 : Int) (a1 : Int) (a2 : Int) (a3 : Int) (a4 : Int) (a5 : Int) (i7 : Int) (r12 : (List Rect)) : Nat → Int → Int → Option Bool
  | 0, _, _ => none
  | m + 1, i17, i18 =>
    if decide (i18 < ((r12).length : Int)) then
      (ix r12 i18).bind fun (x20 : Rect) =>
      (F33 n x20).bind fun (r21 : Int) =>
      (F10_l19 n a0 a1 a2 a3 a4 a5 i7 r12 m) (IntKind.wrap .i64 (i17 + r21)) (IntKind.wrap .i64 (i18 + 1))
    else
      (F33 n (Rect.mk (IntKind.wrap .i64 (IntKind.wrap .i64 (Int.tmod a0 64) + IntKind.wrap .i64 a4)) (IntKind.wrap .i64 (IntKind.wrap .i64 (Int.tmod a1 64) + IntKind.wrap .i64 a5)) (IntKind.wrap .i64 (imin (IntKind.wrap .i64 (IntKind.wrap .i64 (IntKind.wrap .i64 (Int.tmod a0 64) + IntKind.wrap .i64 (Int.tmod a2 30)) + 1)) 64 + IntKind.wrap .i64 a4)) (IntKind.wrap .i64 (imin (IntKind.wrap .i64 (IntKind.wrap .i64 (IntKind.wrap .i64 (Int.tmod a1 64) + IntKind.wrap .i64 (Int.tmod a3 30)) + 1)) 64 + IntKind.wrap .i64 a5)))).bind fun (r22 : Int) =>
      (F33 n (Rect.mk (IntKind.wrap .i64 (Int.tmod a0 64)) (IntKind.wrap .i64 (Int.tmod a1 64)) (imin (IntKind.wrap .i64 (IntKind.wrap .i64 (IntKind.wrap .i64 (Int.tmod a0 64) + IntKind.wrap .i64 (Int.tmod a2 30)) + 1)) 64) (imin (IntKind.wrap .i64 (IntKind.wrap .i64 (IntKind.wrap .i64 (Int.tmod a1 64) + IntKind.wrap .i64 (Int.tmod a3 30)) + 1)) 64))).bind fun (r23 : Int) =>
      if r22 == (IntKind.wrap .i64 (IntKind.wrap .i64 (r23 - i17) + i7)) then
        (F25 n (Rect.mk (IntKind.wrap .i64 (Int.tmod a0 64)) (IntKind.wrap .i64 (Int.tmod a1 64)) (imin (IntKind.wrap .i64 (IntKind.wrap .i64 (IntKind.wrap .i64 (Int.tmod a0 64) + IntKind.wrap .i64 (Int.tmod a2 30)) + 1)) 64) (imin (IntKind.wrap .i64 (IntKind.wrap .i64 (IntKind.wrap .i64 (Int.tmod a1 64) + IntKind.wrap .i64 (Int.tmod a3 30)) + 1)) 64))).bind fun (r24 : Bool) =>
        if r24 then
          (F25 n (Rect.mk (IntKind.wrap .i64 (IntKind.wrap .i64 (Int.tmod a0 64) + IntKind.wrap .i64 a4)) (IntKind.wrap .i64 (IntKind.wrap .i64 (Int.tmod a1 64) + IntKind.wrap .i64 a5)) (IntKind.wrap .i64 (imin (IntKind.wrap .i64 (IntKind.wrap .i64 (IntKind.wrap .i64 (Int.tmod a0 64) + IntKind.wrap .i64 (Int.tmod a2 30)) + 1)) 64 + IntKind.wrap .i64 a4)) (IntKind.wrap .i64 (imin (IntKind.wrap .i64 (IntKind.wrap .i64 (IntKind.wrap .i64 (Int.tmod a1 64) + IntKind.wrap .i64 (Int.tmod a3 30)) + 1)) 64 + IntKind.wrap .i64 a5)))).bind fun (r25 : Bool) =>
          if decide ((0 : Int) ≤ IntKind.wrap .i64 (IntKind.wrap .i64 (Int.tmod a0 64) + IntKind.wrap .i64 a4)) then
            if decide ((0 : Int) ≤ IntKind.wrap .i64 (IntKind.wrap .i64 (Int.tmod a1 64) + IntKind.wrap .i64 a5)) then
              if decide (IntKind.wrap .i64 (imin (IntKind.wrap .i64 (IntKind.wrap .i64 (IntKind.wrap .i64 (Int.tmod a0 64) + IntKind.wrap .i64 (Int.tmod a2 30)) + 1)) 64 + IntKind.wrap .i64 a4) ≤ 64) then
                some (r25 == (decide (IntKind.wrap .i64 (imin (IntKind.wrap .i64 (IntKind.wrap .i64 (IntKind.wrap .i64 (Int.tmod a1 64) + IntKind.wrap .i64 (Int.tmod a3 30)) + 1)) 64 + IntKind.wrap .i64 a5) ≤ 64)))
              else
                some (r25 == false)
            else
              some (r25 == false)
          else
            some (r25 == false)
        else
          some false
      else
        some false
theorem F10_l19_ok (n : Nat) (a0 : Int) (a1 : Int) (a2 : Int) (a3 : Int) (a4 : Int) (a5 : Int) (i7 : Int) (r12 : (List Rect)) : ∀ (m : Nat) (i17 : Int) (i18 : Int), SimL Try.prog D (n + 8) m pc10_c39 [(13, .one (.ptr 13 0)), (14, .one (.ptr 14 0)), (15, .one (li .i64 i7)), (16, .one (li .i64 i17)), (19, .one (vw Rect.cod r12)), (20, .one (li .i64 i18))] ((13, some (.cells [li .i64 (IntKind.wrap .i64 (Int.tmod a0 64)), li .i64 (IntKind.wrap .i64 (Int.tmod a1 64)), li .i64 (imin (IntKind.wrap .i64 (IntKind.wrap .i64 (IntKind.wrap .i64 (Int.tmod a0 64) + IntKind.wrap .i64 (Int.tmod a2 30)) + 1)) 64), li .i64 (imin (IntKind.wrap .i64 (IntKind.wrap .i64 (IntKind.wrap .i64 (Int.tmod a1 64) + IntKind.wrap .i64 (Int.tmod a3 30)) + 1)) 64)])) :: ((14, some (.cells [li .i64 (IntKind.wrap .i64 (IntKind.wrap .i64 (Int.tmod a0 64) + IntKind.wrap .i64 a4)), li .i64 (IntKind.wrap .i64 (IntKind.wrap .i64 (Int.tmod a1 64) + IntKind.wrap .i64 a5)), li .i64 (IntKind.wrap .i64 (imin (IntKind.wrap .i64 (IntKind.wrap .i64 (IntKind.wrap .i64 (Int.tmod a0 64) + IntKind.wrap .i64 (Int.tmod a2 30)) + 1)) 64 + IntKind.wrap .i64 a4)), li .i64 (IntKind.wrap .i64 (imin (IntKind.wrap .i64 (IntKind.wrap .i64 (IntKind.wrap .i64 (Int.tmod a1 64) + IntKind.wrap .i64 (Int.tmod a3 30)) + 1)) 64 + IntKind.wrap .i64 a5))])) :: [])) (F10_l19 n a0 a1 a2 a3 a4 a5 i7 r12 m i17 i18) (QB 2 (QT Try.prog D (n + 8) pc10_c45 (QF pc10_r 0 F10_e))) := by
  intro m_l19
  induction m_l19 with
  | zero => intro i17 i18; exact SimL.zero'  rfl
  | succ m_l19 ih_l19 =>
    intro i17 i18
    refine SimL.succ ?_
    unfold F10_l19
    refine Sim.seq ?_
    refine Sim.seq ?_
    refine Sim.region [(13, .one (.ptr 13 0)), (14, .one (.ptr 14 0)), (15, .one (li .i64 i7)), (16, .one (li .i64 i17)), (19, .one (vw Rect.cod r12)), (20, .one (li .i64 i18))] ((13, some (.cells [li .i64 (IntKind.wrap .i64 (Int.tmod a0 64)), li .i64 (IntKind.wrap .i64 (Int.tmod a1 64)), li .i64 (imin (IntKind.wrap .i64 (IntKind.wrap .i64 (IntKind.wrap .i64 (Int.tmod a0 64) + IntKind.wrap .i64 (Int.tmod a2 30)) + 1)) 64), li .i64 (imin (IntKind.wrap .i64 (IntKind.wrap .i64 (IntKind.wrap .i64 (Int.tmod a1 64) + IntKind.wrap .i64 (Int.tmod a3 30)) + 1)) 64)])) :: ((14, some (.cells [li .i64 (IntKind.wrap .i64 (IntKind.wrap .i64 (Int.tmod a0 64) + IntKind.wrap .i64 a4)), li .i64 (IntKind.wrap .i64 (IntKind.wrap .i64 (Int.tmod a1 64) + IntKind.wrap .i64 a5)), li .i64 (IntKind.wrap .i64 (imin (IntKind.wrap .i64 (IntKind.wrap .i64 (IntKind.wrap .i64 (Int.tmod a0 64) + IntKind.wrap .i64 (Int.tmod a2 30)) + 1)) 64 + IntKind.wrap .i64 a4)), li .i64 (IntKind.wrap .i64 (imin (IntKind.wrap .i64 (IntKind.wrap .i64 (IntKind.wrap .i64 (Int.tmod a1 64) + IntKind.wrap .i64 (Int.tmod a3 30)) + 1)) 64 + IntKind.wrap .i64 a5))])) :: [])) (by kernel_rfl) ?_
    refine SimI.run 4 [(91, .one (lb (decide (i18 < ((r12).length : Int))))), (90, .one (li .i64 ((r12).length : Int))), (89, .one (vw Rect.cod r12)), (88, .one (li .i64 i18))] [] (by kernel_rfl) ?_
    refine SimI.done (by kernel_rfl) ?_
    refine SimE.thenN ?_
    refine Sim.cond (decide (i18 < ((r12).length : Int))) (by kernel_rfl) ?_ ?_
    · refine Sim.skip ?_
      refine SimE.thenN ?_
      refine Sim.seq ?_
      refine Sim.block ?_
      refine Sim.region0 ?_
      refine SimI.run 3 [(96, .one (li .i64 i18)), (95, .one (vw Rect.cod r12)), (94, .one (li .i64 i17))] [] (by kernel_rfl) ?_
      refine SimI.bind (og := ix r12 i18) { dst := some 97, op := POp.iaddrS 4 (Operand.tmp 95) (Operand.tmp 96), guard := none, hints := [] } (fun x20 => [(97, .one (.eptr (Rect.cod.enc x20) 0))]) (fun x20 => []) (by kernel_rfl) (fun x20 hr => pOp_eff (by kernel_rfl) (by kernel_rfl) (eff_idx (c := Rect.cod) (l := r12) (k := .i64) (n := i18) (by kernel_rfl) (by kernel_rfl) (by kernel_rfl) hr)) (fun x20 => ?_)
      refine SimI.run 1 [(98, .agg [li .i64 x20.X0, li .i64 x20.Y0, li .i64 x20.X1, li .i64 x20.Y1])] [] (by kernel_rfl) ?_
      refine SimI.bind (og := F33 n x20) { dst := some 99, op := POp.call true [[]] 33 [Operand.tmp 98], guard := none, hints := [] } (fun r21 => [(99, .one (li .i64 r21))]) (fun r21 => []) (by kernel_rfl) (fun r21 hr => pOp_eff (by kernel_rfl) (by kernel_rfl) (eff_call (ARGS := [.agg [li .i64 x20.X0, li .i64 x20.Y0, li .i64 x20.X1, li .i64 x20.Y1]]) (by kernel_rfl) (args_clean (by kernel_rfl) args_nil) (F33_ok n x20 r21 hr) (by kernel_rfl))) (fun r21 => ?_)
      refine SimI.run 2 [(16, .one (li .i64 (IntKind.wrap .i64 (i17 + r21)))), (100, .one (li .i64 (IntKind.wrap .i64 (i17 + r21))))] [] (by kernel_rfl) ?_
      refine SimI.done (by kernel_rfl) ?_
      refine SimE.blockN ?_
      refine SimE.thenN ?_
      refine Sim.region0 ?_
      refine SimI.run 3 [(20, .one (li .i64 (IntKind.wrap .i64 (i18 + 1)))), (93, .one (li .i64 (IntKind.wrap .i64 (i18 + 1)))), (92, .one (li .i64 i18))] [] (by kernel_rfl) ?_
      refine SimI.done (by kernel_rfl) ?_
      refine SimE.loopN ?_
      refine SimL.pre (ts := [13, 14, 15, 16, 19, 20]) (os := [13, 14]) [(13, .one (.ptr 13 0)), (14, .one (.ptr 14 0)), (15, .one (li .i64 i7)), (16, .one (li .i64 (IntKind.wrap .i64 (i17 + r21)))), (19, .one (vw Rect.cod r12)), (20, .one (li .i64 (IntKind.wrap .i64 (i18 + 1))))] ((13, some (.cells [li .i64 (IntKind.wrap .i64 (Int.tmod a0 64)), li .i64 (IntKind.wrap .i64 (Int.tmod a1 64)), li .i64 (imin (IntKind.wrap .i64 (IntKind.wrap .i64 (IntKind.wrap .i64 (Int.tmod a0 64) + IntKind.wrap .i64 (Int.tmod a2 30)) + 1)) 64), li .i64 (imin (IntKind.wrap .i64 (IntKind.wrap .i64 (IntKind.wrap .i64 (Int.tmod a1 64) + IntKind.wrap .i64 (Int.tmod a3 30)) + 1)) 64)])) :: ((14, some (.cells [li .i64 (IntKind.wrap .i64 (IntKind.wrap .i64 (Int.tmod a0 64) + IntKind.wrap .i64 a4)), li .i64 (IntKind.wrap .i64 (IntKind.wrap .i64 (Int.tmod a1 64) + IntKind.wrap .i64 a5)), li .i64 (IntKind.wrap .i64 (imin (IntKind.wrap .i64 (IntKind.wrap .i64 (IntKind.wrap .i64 (Int.tmod a0 64) + IntKind.wrap .i64 (Int.tmod a2 30)) + 1)) 64 + IntKind.wrap .i64 a4)), li .i64 (IntKind.wrap .i64 (imin (IntKind.wrap .i64 (IntKind.wrap .i64 (IntKind.wrap .i64 (Int.tmod a1 64) + IntKind.wrap .i64 (Int.tmod a3 30)) + 1)) 64 + IntKind.wrap .i64 a5))])) :: [])) (by kernel_rfl) (by kernel_rfl) (by kernel_rfl) ?_
      exact ih_l19 (IntKind.wrap .i64 (i17 + r21)) (IntKind.wrap .i64 (i18 + 1))
    · refine Sim.exit ?_
      refine SimE.thenX ?_
      refine SimE.loopX ?_
      refine SimE.blockX ?_
      refine SimE.thenN ?_
      refine Sim.seq ?_
      refine Sim.region0 ?_
      refine SimI.run 1 [(101, .agg [li .i64 (IntKind.wrap .i64 (IntKind.wrap .i64 (Int.tmod a0 64) + IntKind.wrap .i64 a4)), li .i64 (IntKind.wrap .i64 (IntKind.wrap .i64 (Int.tmod a1 64) + IntKind.wrap .i64 a5)), li .i64 (IntKind.wrap .i64 (imin (IntKind.wrap .i64 (IntKind.wrap .i64 (IntKind.wrap .i64 (Int.tmod a0 64) + IntKind.wrap .i64 (Int.tmod a2 30)) + 1)) 64 + IntKind.wrap .i64 a4)), li .i64 (IntKind.wrap .i64 (imin (IntKind.wrap .i64 (IntKind.wrap .i64 (IntKind.wrap .i64 (Int.tmod a1 64) + IntKind.wrap .i64 (Int.tmod a3 30)) + 1)) 64 + IntKind.wrap .i64 a5))])] [] (by kernel_rfl) ?_
      refine SimI.bind (og := F33 n (Rect.mk (IntKind.wrap .i64 (IntKind.wrap .i64 (Int.tmod a0 64) + IntKind.wrap .i64 a4)) (IntKind.wrap .i64 (IntKind.wrap .i64 (Int.tmod a1 64) + IntKind.wrap .i64 a5)) (IntKind.wrap .i64 (imin (IntKind.wrap .i64 (IntKind.wrap .i64 (IntKind.wrap .i64 (Int.tmod a0 64) + IntKind.wrap .i64 (Int.tmod a2 30)) + 1)) 64 + IntKind.wrap .i64 a4)) (IntKind.wrap .i64 (imin (IntKind.wrap .i64 (IntKind.wrap .i64 (IntKind.wrap .i64 (Int.tmod a1 64) + IntKind.wrap .i64 (Int.tmod a3 30)) + 1)) 64 + IntKind.wrap .i64 a5)))) { dst := some 102, op := POp.call false [[]] 33 [Operand.tmp 101], guard := none, hints := [(101, Hint.imm)] } (fun r22 => [(102, .one (li .i64 r22))]) (fun r22 => []) (by kernel_rfl) (fun r22 hr => pOp_eff (by kernel_rfl) (by kernel_rfl) (eff_call (ARGS := [.agg [li .i64 (IntKind.wrap .i64 (IntKind.wrap .i64 (Int.tmod a0 64) + IntKind.wrap .i64 a4)), li .i64 (IntKind.wrap .i64 (IntKind.wrap .i64 (Int.tmod a1 64) + IntKind.wrap .i64 a5)), li .i64 (IntKind.wrap .i64 (imin (IntKind.wrap .i64 (IntKind.wrap .i64 (IntKind.wrap .i64 (Int.tmod a0 64) + IntKind.wrap .i64 (Int.tmod a2 30)) + 1)) 64 + IntKind.wrap .i64 a4)), li .i64 (IntKind.wrap .i64 (imin (IntKind.wrap .i64 (IntKind.wrap .i64 (IntKind.wrap .i64 (Int.tmod a1 64) + IntKind.wrap .i64 (Int.tmod a3 30)) + 1)) 64 + IntKind.wrap .i64 a5))]]) (by kernel_rfl) (args_clean (by kernel_rfl) args_nil) (F33_ok n (Rect.mk (IntKind.wrap .i64 (IntKind.wrap .i64 (Int.tmod a0 64) + IntKind.wrap .i64 a4)) (IntKind.wrap .i64 (IntKind.wrap .i64 (Int.tmod a1 64) + IntKind.wrap .i64 a5)) (IntKind.wrap .i64 (imin (IntKind.wrap .i64 (IntKind.wrap .i64 (IntKind.wrap .i64 (Int.tmod a0 64) + IntKind.wrap .i64 (Int.tmod a2 30)) + 1)) 64 + IntKind.wrap .i64 a4)) (IntKind.wrap .i64 (imin (IntKind.wrap .i64 (IntKind.wrap .i64 (IntKind.wrap .i64 (Int.tmod a1 64) + IntKind.wrap .i64 (Int.tmod a3 30)) + 1)) 64 + IntKind.wrap .i64 a5))) r22 hr) (by kernel_rfl))) (fun r22 => ?_)
      refine SimI.run 1 [(103, .agg [li .i64 (IntKind.wrap .i64 (Int.tmod a0 64)), li .i64 (IntKind.wrap .i64 (Int.tmod a1 64)), li .i64 (imin (IntKind.wrap .i64 (IntKind.wrap .i64 (IntKind.wrap .i64 (Int.tmod a0 64) + IntKind.wrap .i64 (Int.tmod a2 30)) + 1)) 64), li .i64 (imin (IntKind.wrap .i64 (IntKind.wrap .i64 (IntKind.wrap .i64 (Int.tmod a1 64) + IntKind.wrap .i64 (Int.tmod a3 30)) + 1)) 64)])] [] (by kernel_rfl) ?_
      refine SimI.bind (og := F33 n (Rect.mk (IntKind.wrap .i64 (Int.tmod a0 64)) (IntKind.wrap .i64 (Int.tmod a1 64)) (imin (IntKind.wrap .i64 (IntKind.wrap .i64 (IntKind.wrap .i64 (Int.tmod a0 64) + IntKind.wrap .i64 (Int.tmod a2 30)) + 1)) 64) (imin (IntKind.wrap .i64 (IntKind.wrap .i64 (IntKind.wrap .i64 (Int.tmod a1 64) + IntKind.wrap .i64 (Int.tmod a3 30)) + 1)) 64))) { dst := some 104, op := POp.call false [[]] 33 [Operand.tmp 103], guard := none, hints := [(103, Hint.imm)] } (fun r23 => [(104, .one (li .i64 r23))]) (fun r23 => []) (by kernel_rfl) (fun r23 hr => pOp_eff (by kernel_rfl) (by kernel_rfl) (eff_call (ARGS := [.agg [li .i64 (IntKind.wrap .i64 (Int.tmod a0 64)), li .i64 (IntKind.wrap .i64 (Int.tmod a1 64)), li .i64 (imin (IntKind.wrap .i64 (IntKind.wrap .i64 (IntKind.wrap .i64 (Int.tmod a0 64) + IntKind.wrap .i64 (Int.tmod a2 30)) + 1)) 64), li .i64 (imin (IntKind.wrap .i64 (IntKind.wrap .i64 (IntKind.wrap .i64 (Int.tmod a1 64) + IntKind.wrap .i64 (Int.tmod a3 30)) + 1)) 64)]]) (by kernel_rfl) (args_clean (by kernel_rfl) args_nil) (F33_ok n (Rect.mk (IntKind.wrap .i64 (Int.tmod a0 64)) (IntKind.wrap .i64 (Int.tmod a1 64)) (imin (IntKind.wrap .i64 (IntKind.wrap .i64 (IntKind.wrap .i64 (Int.tmod a0 64) + IntKind.wrap .i64 (Int.tmod a2 30)) + 1)) 64) (imin (IntKind.wrap .i64 (IntKind.wrap .i64 (IntKind.wrap .i64 (Int.tmod a1 64) + IntKind.wrap .i64 (Int.tmod a3 30)) + 1)) 64)) r23 hr) (by kernel_rfl))) (fun r23 => ?_)
      refine SimI.run 6 [(110, .one (lb (r22 == (IntKind.wrap .i64 (IntKind.wrap .i64 (r23 - i17) + i7))))), (109, .one (lb (r22 == (IntKind.wrap .i64 (IntKind.wrap .i64 (r23 - i17) + i7))))), (108, .one (li .i64 (IntKind.wrap .i64 (IntKind.wrap .i64 (r23 - i17) + i7)))), (107, .one (li .i64 i7)), (106, .one (li .i64 (IntKind.wrap .i64 (r23 - i17)))), (105, .one (li .i64 i17))] [] (by kernel_rfl) ?_
      refine SimI.split 110 (r22 == (IntKind.wrap .i64 (IntKind.wrap .i64 (r23 - i17) + i7))) (by kernel_rfl) ?_ ?_
      · refine SimI.run 1 [(111, .agg [li .i64 (IntKind.wrap .i64 (Int.tmod a0 64)), li .i64 (IntKind.wrap .i64 (Int.tmod a1 64)), li .i64 (imin (IntKind.wrap .i64 (IntKind.wrap .i64 (IntKind.wrap .i64 (Int.tmod a0 64) + IntKind.wrap .i64 (Int.tmod a2 30)) + 1)) 64), li .i64 (imin (IntKind.wrap .i64 (IntKind.wrap .i64 (IntKind.wrap .i64 (Int.tmod a1 64) + IntKind.wrap .i64 (Int.tmod a3 30)) + 1)) 64)])] [] (by kernel_rfl) ?_
        refine SimI.bind (og := F25 n (Rect.mk (IntKind.wrap .i64 (Int.tmod a0 64)) (IntKind.wrap .i64 (Int.tmod a1 64)) (imin (IntKind.wrap .i64 (IntKind.wrap .i64 (IntKind.wrap .i64 (Int.tmod a0 64) + IntKind.wrap .i64 (Int.tmod a2 30)) + 1)) 64) (imin (IntKind.wrap .i64 (IntKind.wrap .i64 (IntKind.wrap .i64 (Int.tmod a1 64) + IntKind.wrap .i64 (Int.tmod a3 30)) + 1)) 64))) { dst := some 112, op := POp.call false [[]] 25 [Operand.tmp 111], guard := some (110, true), hints := [(111, Hint.imm)] } (fun r24 => [(112, .one (lb r24))]) (fun r24 => []) (by kernel_rfl) (fun r24 hr => pOp_eff (by kernel_rfl) (by kernel_rfl) (eff_call (ARGS := [.agg [li .i64 (IntKind.wrap .i64 (Int.tmod a0 64)), li .i64 (IntKind.wrap .i64 (Int.tmod a1 64)), li .i64 (imin (IntKind.wrap .i64 (IntKind.wrap .i64 (IntKind.wrap .i64 (Int.tmod a0 64) + IntKind.wrap .i64 (Int.tmod a2 30)) + 1)) 64), li .i64 (imin (IntKind.wrap .i64 (IntKind.wrap .i64 (IntKind.wrap .i64 (Int.tmod a1 64) + IntKind.wrap .i64 (Int.tmod a3 30)) + 1)) 64)]]) (by kernel_rfl) (args_clean (by kernel_rfl) args_nil) (F25_ok n (Rect.mk (IntKind.wrap .i64 (Int.tmod a0 64)) (IntKind.wrap .i64 (Int.tmod a1 64)) (imin (IntKind.wrap .i64 (IntKind.wrap .i64 (IntKind.wrap .i64 (Int.tmod a0 64) + IntKind.wrap .i64 (Int.tmod a2 30)) + 1)) 64) (imin (IntKind.wrap .i64 (IntKind.wrap .i64 (IntKind.wrap .i64 (Int.tmod a1 64) + IntKind.wrap .i64 (Int.tmod a3 30)) + 1)) 64)) r24 hr) (by kernel_rfl))) (fun r24 => ?_)
        refine SimI.run 2 [(114, .one (lb r24)), (113, .one (lb r24))] [] (by kernel_rfl) ?_
        refine SimI.split 114 r24 (by kernel_rfl) ?_ ?_
        · refine SimI.run 1 [(115, .agg [li .i64 (IntKind.wrap .i64 (IntKind.wrap .i64 (Int.tmod a0 64) + IntKind.wrap .i64 a4)), li .i64 (IntKind.wrap .i64 (IntKind.wrap .i64 (Int.tmod a1 64) + IntKind.wrap .i64 a5)), li .i64 (IntKind.wrap .i64 (imin (IntKind.wrap .i64 (IntKind.wrap .i64 (IntKind.wrap .i64 (Int.tmod a0 64) + IntKind.wrap .i64 (Int.tmod a2 30)) + 1)) 64 + IntKind.wrap .i64 a4)), li .i64 (IntKind.wrap .i64 (imin (IntKind.wrap .i64 (IntKind.wrap .i64 (IntKind.wrap .i64 (Int.tmod a1 64) + IntKind.wrap .i64 (Int.tmod a3 30)) + 1)) 64 + IntKind.wrap .i64 a5))])] [] (by kernel_rfl) ?_
          refine SimI.bind (og := F25 n (Rect.mk (IntKind.wrap .i64 (IntKind.wrap .i64 (Int.tmod a0 64) + IntKind.wrap .i64 a4)) (IntKind.wrap .i64 (IntKind.wrap .i64 (Int.tmod a1 64) + IntKind.wrap .i64 a5)) (IntKind.wrap .i64 (imin (IntKind.wrap .i64 (IntKind.wrap .i64 (IntKind.wrap .i64 (Int.tmod a0 64) + IntKind.wrap .i64 (Int.tmod a2 30)) + 1)) 64 + IntKind.wrap .i64 a4)) (IntKind.wrap .i64 (imin (IntKind.wrap .i64 (IntKind.wrap .i64 (IntKind.wrap .i64 (Int.tmod a1 64) + IntKind.wrap .i64 (Int.tmod a3 30)) + 1)) 64 + IntKind.wrap .i64 a5)))) { dst := some 116, op := POp.call false [[]] 25 [Operand.tmp 115], guard := some (114, true), hints := [(115, Hint.imm)] } (fun r25 => [(116, .one (lb r25))]) (fun r25 => []) (by kernel_rfl) (fun r25 hr => pOp_eff (by kernel_rfl) (by kernel_rfl) (eff_call (ARGS := [.agg [li .i64 (IntKind.wrap .i64 (IntKind.wrap .i64 (Int.tmod a0 64) + IntKind.wrap .i64 a4)), li .i64 (IntKind.wrap .i64 (IntKind.wrap .i64 (Int.tmod a1 64) + IntKind.wrap .i64 a5)), li .i64 (IntKind.wrap .i64 (imin (IntKind.wrap .i64 (IntKind.wrap .i64 (IntKind.wrap .i64 (Int.tmod a0 64) + IntKind.wrap .i64 (Int.tmod a2 30)) + 1)) 64 + IntKind.wrap .i64 a4)), li .i64 (IntKind.wrap .i64 (imin (IntKind.wrap .i64 (IntKind.wrap .i64 (IntKind.wrap .i64 (Int.tmod a1 64) + IntKind.wrap .i64 (Int.tmod a3 30)) + 1)) 64 + IntKind.wrap .i64 a5))]]) (by kernel_rfl) (args_clean (by kernel_rfl) args_nil) (F25_ok n (Rect.mk (IntKind.wrap .i64 (IntKind.wrap .i64 (Int.tmod a0 64) + IntKind.wrap .i64 a4)) (IntKind.wrap .i64 (IntKind.wrap .i64 (Int.tmod a1 64) + IntKind.wrap .i64 a5)) (IntKind.wrap .i64 (imin (IntKind.wrap .i64 (IntKind.wrap .i64 (IntKind.wrap .i64 (Int.tmod a0 64) + IntKind.wrap .i64 (Int.tmod a2 30)) + 1)) 64 + IntKind.wrap .i64 a4)) (IntKind.wrap .i64 (imin (IntKind.wrap .i64 (IntKind.wrap .i64 (IntKind.wrap .i64 (Int.tmod a1 64) + IntKind.wrap .i64 (Int.tmod a3 30)) + 1)) 64 + IntKind.wrap .i64 a5))) r25 hr) (by kernel_rfl))) (fun r25 => ?_)
          refine SimI.run 4 [(120, .one (lb (decide ((0 : Int) ≤ IntKind.wrap .i64 (IntKind.wrap .i64 (Int.tmod a0 64) + IntKind.wrap .i64 a4))))), (119, .one (lb (decide ((0 : Int) ≤ IntKind.wrap .i64 (IntKind.wrap .i64 (Int.tmod a0 64) + IntKind.wrap .i64 a4))))), (118, .one (li .i64 (IntKind.wrap .i64 (IntKind.wrap .i64 (Int.tmod a0 64) + IntKind.wrap .i64 a4)))), (117, .one (.ptr 14 0))] [] (by kernel_rfl) ?_
          refine SimI.split 120 (decide ((0 : Int) ≤ IntKind.wrap .i64 (IntKind.wrap .i64 (Int.tmod a0 64) + IntKind.wrap .i64 a4))) (by kernel_rfl) ?_ ?_
          · refine SimI.run 5 [(125, .one (lb (decide ((0 : Int) ≤ IntKind.wrap .i64 (IntKind.wrap .i64 (Int.tmod a1 64) + IntKind.wrap .i64 a5))))), (124, .one (lb (decide ((0 : Int) ≤ IntKind.wrap .i64 (IntKind.wrap .i64 (Int.tmod a1 64) + IntKind.wrap .i64 a5))))), (123, .one (lb (decide ((0 : Int) ≤ IntKind.wrap .i64 (IntKind.wrap .i64 (Int.tmod a1 64) + IntKind.wrap .i64 a5))))), (122, .one (li .i64 (IntKind.wrap .i64 (IntKind.wrap .i64 (Int.tmod a1 64) + IntKind.wrap .i64 a5)))), (121, .one (.ptr 14 1))] [] (by kernel_rfl) ?_
            refine SimI.split 125 (decide ((0 : Int) ≤ IntKind.wrap .i64 (IntKind.wrap .i64 (Int.tmod a1 64) + IntKind.wrap .i64 a5))) (by kernel_rfl) ?_ ?_
            · refine SimI.run 5 [(130, .one (lb (decide (IntKind.wrap .i64 (imin (IntKind.wrap .i64 (IntKind.wrap .i64 (IntKind.wrap .i64 (Int.tmod a0 64) + IntKind.wrap .i64 (Int.tmod a2 30)) + 1)) 64 + IntKind.wrap .i64 a4) ≤ 64)))), (129, .one (lb (decide (IntKind.wrap .i64 (imin (IntKind.wrap .i64 (IntKind.wrap .i64 (IntKind.wrap .i64 (Int.tmod a0 64) + IntKind.wrap .i64 (Int.tmod a2 30)) + 1)) 64 + IntKind.wrap .i64 a4) ≤ 64)))), (128, .one (lb (decide (IntKind.wrap .i64 (imin (IntKind.wrap .i64 (IntKind.wrap .i64 (IntKind.wrap .i64 (Int.tmod a0 64) + IntKind.wrap .i64 (Int.tmod a2 30)) + 1)) 64 + IntKind.wrap .i64 a4) ≤ 64)))), (127, .one (li .i64 (IntKind.wrap .i64 (imin (IntKind.wrap .i64 (IntKind.wrap .i64 (IntKind.wrap .i64 (Int.tmod a0 64) + IntKind.wrap .i64 (Int.tmod a2 30)) + 1)) 64 + IntKind.wrap .i64 a4)))), (126, .one (.ptr 14 2))] [] (by kernel_rfl) ?_
              refine SimI.split 130 (decide (IntKind.wrap .i64 (imin (IntKind.wrap .i64 (IntKind.wrap .i64 (IntKind.wrap .i64 (Int.tmod a0 64) + IntKind.wrap .i64 (Int.tmod a2 30)) + 1)) 64 + IntKind.wrap .i64 a4) ≤ 64)) (by kernel_rfl) ?_ ?_
              · refine SimI.run 7 [(12, .one (lb (r25 == (decide (IntKind.wrap .i64 (imin (IntKind.wrap .i64 (IntKind.wrap .i64 (IntKind.wrap .i64 (Int.tmod a1 64) + IntKind.wrap .i64 (Int.tmod a3 30)) + 1)) 64 + IntKind.wrap .i64 a5) ≤ 64))))), (136, .one (lb (r25 == (decide (IntKind.wrap .i64 (imin (IntKind.wrap .i64 (IntKind.wrap .i64 (IntKind.wrap .i64 (Int.tmod a1 64) + IntKind.wrap .i64 (Int.tmod a3 30)) + 1)) 64 + IntKind.wrap .i64 a5) ≤ 64))))), (135, .one (lb (r25 == (decide (IntKind.wrap .i64 (imin (IntKind.wrap .i64 (IntKind.wrap .i64 (IntKind.wrap .i64 (Int.tmod a1 64) + IntKind.wrap .i64 (Int.tmod a3 30)) + 1)) 64 + IntKind.wrap .i64 a5) ≤ 64))))), (134, .one (lb (decide (IntKind.wrap .i64 (imin (IntKind.wrap .i64 (IntKind.wrap .i64 (IntKind.wrap .i64 (Int.tmod a1 64) + IntKind.wrap .i64 (Int.tmod a3 30)) + 1)) 64 + IntKind.wrap .i64 a5) ≤ 64)))), (133, .one (lb (decide (IntKind.wrap .i64 (imin (IntKind.wrap .i64 (IntKind.wrap .i64 (IntKind.wrap .i64 (Int.tmod a1 64) + IntKind.wrap .i64 (Int.tmod a3 30)) + 1)) 64 + IntKind.wrap .i64 a5) ≤ 64)))), (132, .one (li .i64 (IntKind.wrap .i64 (imin (IntKind.wrap .i64 (IntKind.wrap .i64 (IntKind.wrap .i64 (Int.tmod a1 64) + IntKind.wrap .i64 (Int.tmod a3 30)) + 1)) 64 + IntKind.wrap .i64 a5)))), (131, .one (.ptr 14 3))] [] (by kernel_rfl) ?_
                refine SimI.done (by kernel_rfl) ?_
                refine SimE.thenN ?_
                refine Sim.ret ?_
                exact SimE.fin (by kernel_rfl)
              · refine SimI.run 7 [(12, .one (lb (r25 == false))), (136, .one (lb (r25 == false))), (135, .one (lb (r25 == false))), (134, .one (lb false)), (133, .tup []), (132, .tup []), (131, .tup [])] [] (by kernel_rfl) ?_
                refine SimI.done (by kernel_rfl) ?_
                refine SimE.thenN ?_
                refine Sim.ret ?_
                exact SimE.fin (by kernel_rfl)
            · refine SimI.run 12 [(12, .one (lb (r25 == false))), (136, .one (lb (r25 == false))), (135, .one (lb (r25 == false))), (134, .one (lb false)), (133, .tup []), (132, .tup []), (131, .tup []), (130, .one (lb false)), (129, .one (lb false)), (128, .tup []), (127, .tup []), (126, .tup [])] [] (by kernel_rfl) ?_
              refine SimI.done (by kernel_rfl) ?_
              refine SimE.thenN ?_
              refine Sim.ret ?_
              exact SimE.fin (by kernel_rfl)
          · refine SimI.run 17 [(12, .one (lb (r25 == false))), (136, .one (lb (r25 == false))), (135, .one (lb (r25 == false))), (134, .one (lb false)), (133, .tup []), (132, .tup []), (131, .tup []), (130, .one (lb false)), (129, .one (lb false)), (128, .tup []), (127, .tup []), (126, .tup []), (125, .one (lb false)), (124, .one (lb false)), (123, .tup []), (122, .tup []), (121, .tup [])] [] (by kernel_rfl) ?_
            refine SimI.done (by kernel_rfl) ?_
            refine SimE.thenN ?_
            refine Sim.ret ?_
            exact SimE.fin (by kernel_rfl)
        · refine SimI.run 23 [(12, .one (lb false)), (136, .one (lb false)), (135, .tup []), (134, .tup []), (133, .tup []), (132, .tup []), (131, .tup []), (130, .tup []), (129, .tup []), (128, .tup []), (127, .tup []), (126, .tup []), (125, .tup []), (124, .tup []), (123, .tup []), (122, .tup []), (121, .tup []), (120, .tup []), (119, .tup []), (118, .tup []), (117, .tup []), (116, .tup []), (115, .tup [])] [] (by kernel_rfl) ?_
          refine SimI.done (by kernel_rfl) ?_
          refine SimE.thenN ?_
          refine Sim.ret ?_
          exact SimE.fin (by kernel_rfl)
      · refine SimI.run 27 [(12, .one (lb false)), (136, .one (lb false)), (135, .tup []), (134, .tup []), (133, .tup []), (132, .tup []), (131, .tup []), (130, .tup []), (129, .tup []), (128, .tup []), (127, .tup []), (126, .tup []), (125, .tup []), (124, .tup []), (123, .tup []), (122, .tup []), (121, .tup []), (120, .tup []), (119, .tup []), (118, .tup []), (117, .tup []), (116, .tup []), (115, .tup []), (114, .one (lb false)), (113, .one (lb false)), (112, .tup []), (111, .tup [])] [] (by kernel_rfl) ?_
        refine SimI.done (by kernel_rfl) ?_
        refine SimE.thenN ?_
        refine Sim.ret ?_
        exact SimE.fin (by kernel_rfl)

def F10_l9 (n : Nat) (a0 : Int) (a1 : Int) (a2 : Int) (a3 : Int) (a4 : Int) (a5 : Int) (r2 : (List Rect)) : Nat → Int → Int → Option Bool
  | 0, _, _ => none
  | m + 1, i7, i8 =>
    if decide (i8 < ((r2).length : Int)) then
      (ix r2 i8).bind fun (x10 : Rect) =>
      (F33 n x10).bind fun (r11 : Int) =>
      (F10_l9 n a0 a1 a2 a3 a4 a5 r2 m) (IntKind.wrap .i64 (i7 + r11)) (IntKind.wrap .i64 (i8 + 1))
    else
      (F21 n (Rect.mk (IntKind.wrap .i64 (Int.tmod a0 64)) (IntKind.wrap .i64 (Int.tmod a1 64)) (imin (IntKind.wrap .i64 (IntKind.wrap .i64 (IntKind.wrap .i64 (Int.tmod a0 64) + IntKind.wrap .i64 (Int.tmod a2 30)) + 1)) 64) (imin (IntKind.wrap .i64 (IntKind.wrap .i64 (IntKind.wrap .i64 (Int.tmod a1 64) + IntKind.wrap .i64 (Int.tmod a3 30)) + 1)) 64)) (Rect.mk (IntKind.wrap .i64 (IntKind.wrap .i64 (Int.tmod a0 64) + IntKind.wrap .i64 a4)) (IntKind.wrap .i64 (IntKind.wrap .i64 (Int.tmod a1 64) + IntKind.wrap .i64 a5)) (IntKind.wrap .i64 (imin (IntKind.wrap .i64 (IntKind.wrap .i64 (IntKind.wrap .i64 (Int.tmod a0 64) + IntKind.wrap .i64 (Int.tmod a2 30)) + 1)) 64 + IntKind.wrap .i64 a4)) (IntKind.wrap .i64 (imin (IntKind.wrap .i64 (IntKind.wrap .i64 (IntKind.wrap .i64 (Int.tmod a1 64) + IntKind.wrap .i64 (Int.tmod a3 30)) + 1)) 64 + IntKind.wrap .i64 a5)))).bind fun (r12 : (List Rect)) =>
      F10_l19 n a0 a1 a2 a3 a4 a5 i7 r12 (n + 8) 0 0
theorem F10_l9_ok (n : Nat) (a0 : Int) (a1 : Int) (a2 : Int) (a3 : Int) (a4 : Int) (a5 : Int) (r2 : (List Rect)) : ∀ (m : Nat) (i7 : Int) (i8 : Int), SimL Try.prog D (n + 8) m pc10_c24 [(13, .one (.ptr 13 0)), (14, .one (.ptr 14 0)), (15, .one (li .i64 i7)), (16, .one (li .i64 0)), (17, .one (vw Rect.cod r2)), (18, .one (li .i64 i8))] ((13, some (.cells [li .i64 (IntKind.wrap .i64 (Int.tmod a0 64)), li .i64 (IntKind.wrap .i64 (Int.tmod a1 64)), li .i64 (imin (IntKind.wrap .i64 (IntKind.wrap .i64 (IntKind.wrap .i64 (Int.tmod a0 64) + IntKind.wrap .i64 (Int.tmod a2 30)) + 1)) 64), li .i64 (imin (IntKind.wrap .i64 (IntKind.wrap .i64 (IntKind.wrap .i64 (Int.tmod a1 64) + IntKind.wrap .i64 (Int.tmod a3 30)) + 1)) 64)])) :: ((14, some (.cells [li .i64 (IntKind.wrap .i64 (IntKind.wrap .i64 (Int.tmod a0 64) + IntKind.wrap .i64 a4)), li .i64 (IntKind.wrap .i64 (IntKind.wrap .i64 (Int.tmod a1 64) + IntKind.wrap .i64 a5)), li .i64 (IntKind.wrap .i64 (imin (IntKind.wrap .i64 (IntKind.wrap .i64 (IntKind.wrap .i64 (Int.tmod a0 64) + IntKind.wrap .i64 (Int.tmod a2 30)) + 1)) 64 + IntKind.wrap .i64 a4)), li .i64 (IntKind.wrap .i64 (imin (IntKind.wrap .i64 (IntKind.wrap .i64 (IntKind.wrap .i64 (Int.tmod a1 64) + IntKind.wrap .i64 (Int.tmod a3 30)) + 1)) 64 + IntKind.wrap .i64 a5))])) :: [])) (F10_l9 n a0 a1 a2 a3 a4 a5 r2 m i7 i8) (QB 0 (QT Try.prog D (n + 8) pc10_c47 (QF pc10_r 0 F10_e))) := by
  intro m_l9
  induction m_l9 with
  | zero => intro i7 i8; exact SimL.zero'  rfl
  | succ m_l9 ih_l9 =>
    intro i7 i8
    refine SimL.succ ?_
    unfold F10_l9
    refine Sim.seq ?_
    refine Sim.seq ?_
    refine Sim.region [(13, .one (.ptr 13 0)), (14, .one (.ptr 14 0)), (15, .one (li .i64 i7)), (16, .one (li .i64 0)), (17, .one (vw Rect.cod r2)), (18, .one (li .i64 i8))] ((13, some (.cells [li .i64 (IntKind.wrap .i64 (Int.tmod a0 64)), li .i64 (IntKind.wrap .i64 (Int.tmod a1 64)), li .i64 (imin (IntKind.wrap .i64 (IntKind.wrap .i64 (IntKind.wrap .i64 (Int.tmod a0 64) + IntKind.wrap .i64 (Int.tmod a2 30)) + 1)) 64), li .i64 (imin (IntKind.wrap .i64 (IntKind.wrap .i64 (IntKind.wrap .i64 (Int.tmod a1 64) + IntKind.wrap .i64 (Int.tmod a3 30)) + 1)) 64)])) :: ((14, some (.cells [li .i64 (IntKind.wrap .i64 (IntKind.wrap .i64 (Int.tmod a0 64) + IntKind.wrap .i64 a4)), li .i64 (IntKind.wrap .i64 (IntKind.wrap .i64 (Int.tmod a1 64) + IntKind.wrap .i64 a5)), li .i64 (IntKind.wrap .i64 (imin (IntKind.wrap .i64 (IntKind.wrap .i64 (IntKind.wrap .i64 (Int.tmod a0 64) + IntKind.wrap .i64 (Int.tmod a2 30)) + 1)) 64 + IntKind.wrap .i64 a4)), li .i64 (IntKind.wrap .i64 (imin (IntKind.wrap .i64 (IntKind.wrap .i64 (IntKind.wrap .i64 (Int.tmod a1 64) + IntKind.wrap .i64 (Int.tmod a3 30)) + 1)) 64 + IntKind.wrap .i64 a5))])) :: [])) (by kernel_rfl) ?_
    refine SimI.run 4 [(75, .one (lb (decide (i8 < ((r2).length : Int))))), (74, .one (li .i64 ((r2).length : Int))), (73, .one (vw Rect.cod r2)), (72, .one (li .i64 i8))] [] (by kernel_rfl) ?_
    refine SimI.done (by kernel_rfl) ?_
    refine SimE.thenN ?_
    refine Sim.cond (decide (i8 < ((r2).length : Int))) (by kernel_rfl) ?_ ?_
    · refine Sim.skip ?_
      refine SimE.thenN ?_
      refine Sim.seq ?_
      refine Sim.block ?_
      refine Sim.region0 ?_
      refine SimI.run 3 [(80, .one (li .i64 i8)), (79, .one (vw Rect.cod r2)), (78, .one (li .i64 i7))] [] (by kernel_rfl) ?_
      refine SimI.bind (og := ix r2 i8) { dst := some 81, op := POp.iaddrS 4 (Operand.tmp 79) (Operand.tmp 80), guard := none, hints := [] } (fun x10 => [(81, .one (.eptr (Rect.cod.enc x10) 0))]) (fun x10 => []) (by kernel_rfl) (fun x10 hr => pOp_eff (by kernel_rfl) (by kernel_rfl) (eff_idx (c := Rect.cod) (l := r2) (k := .i64) (n := i8) (by kernel_rfl) (by kernel_rfl) (by kernel_rfl) hr)) (fun x10 => ?_)
      refine SimI.run 1 [(82, .agg [li .i64 x10.X0, li .i64 x10.Y0, li .i64 x10.X1, li .i64 x10.Y1])] [] (by kernel_rfl) ?_
      refine SimI.bind (og := F33 n x10) { dst := some 83, op := POp.call true [[]] 33 [Operand.tmp 82], guard := none, hints := [] } (fun r11 => [(83, .one (li .i64 r11))]) (fun r11 => []) (by kernel_rfl) (fun r11 hr => pOp_eff (by kernel_rfl) (by kernel_rfl) (eff_call (ARGS := [.agg [li .i64 x10.X0, li .i64 x10.Y0, li .i64 x10.X1, li .i64 x10.Y1]]) (by kernel_rfl) (args_clean (by kernel_rfl) args_nil) (F33_ok n x10 r11 hr) (by kernel_rfl))) (fun r11 => ?_)
      refine SimI.run 2 [(15, .one (li .i64 (IntKind.wrap .i64 (i7 + r11)))), (84, .one (li .i64 (IntKind.wrap .i64 (i7 + r11))))] [] (by kernel_rfl) ?_
      refine SimI.done (by kernel_rfl) ?_
      refine SimE.blockN ?_
      refine SimE.thenN ?_
      refine Sim.region0 ?_
      refine SimI.run 3 [(18, .one (li .i64 (IntKind.wrap .i64 (i8 + 1)))), (77, .one (li .i64 (IntKind.wrap .i64 (i8 + 1)))), (76, .one (li .i64 i8))] [] (by kernel_rfl) ?_
      refine SimI.done (by kernel_rfl) ?_
      refine SimE.loopN ?_
      refine SimL.pre (ts := [13, 14, 15, 16, 17, 18]) (os := [13, 14]) [(13, .one (.ptr 13 0)), (14, .one (.ptr 14 0)), (15, .one (li .i64 (IntKind.wrap .i64 (i7 + r11)))), (16, .one (li .i64 0)), (17, .one (vw Rect.cod r2)), (18, .one (li .i64 (IntKind.wrap .i64 (i8 + 1))))] ((13, some (.cells [li .i64 (IntKind.wrap .i64 (Int.tmod a0 64)), li .i64 (IntKind.wrap .i64 (Int.tmod a1 64)), li .i64 (imin (IntKind.wrap .i64 (IntKind.wrap .i64 (IntKind.wrap .i64 (Int.tmod a0 64) + IntKind.wrap .i64 (Int.tmod a2 30)) + 1)) 64), li .i64 (imin (IntKind.wrap .i64 (IntKind.wrap .i64 (IntKind.wrap .i64 (Int.tmod a1 64) + IntKind.wrap .i64 (Int.tmod a3 30)) + 1)) 64)])) :: ((14, some (.cells [li .i64 (IntKind.wrap .i64 (IntKind.wrap .i64 (Int.tmod a0 64) + IntKind.wrap .i64 a4)), li .i64 (IntKind.wrap .i64 (IntKind.wrap .i64 (Int.tmod a1 64) + IntKind.wrap .i64 a5)), li .i64 (IntKind.wrap .i64 (imin (IntKind.wrap .i64 (IntKind.wrap .i64 (IntKind.wrap .i64 (Int.tmod a0 64) + IntKind.wrap .i64 (Int.tmod a2 30)) + 1)) 64 + IntKind.wrap .i64 a4)), li .i64 (IntKind.wrap .i64 (imin (IntKind.wrap .i64 (IntKind.wrap .i64 (IntKind.wrap .i64 (Int.tmod a1 64) + IntKind.wrap .i64 (Int.tmod a3 30)) + 1)) 64 + IntKind.wrap .i64 a5))])) :: [])) (by kernel_rfl) (by kernel_rfl) (by kernel_rfl) ?_
      exact ih_l9 (IntKind.wrap .i64 (i7 + r11)) (IntKind.wrap .i64 (i8 + 1))
    · refine Sim.exit ?_
      refine SimE.thenX ?_
      refine SimE.loopX ?_
      refine SimE.blockX ?_
      refine SimE.thenN ?_
      refine Sim.seq ?_
      refine Sim.region0 ?_
      refine SimI.run 2 [(86, .agg [li .i64 (IntKind.wrap .i64 (IntKind.wrap .i64 (Int.tmod a0 64) + IntKind.wrap .i64 a4)), li .i64 (IntKind.wrap .i64 (IntKind.wrap .i64 (Int.tmod a1 64) + IntKind.wrap .i64 a5)), li .i64 (IntKind.wrap .i64 (imin (IntKind.wrap .i64 (IntKind.wrap .i64 (IntKind.wrap .i64 (Int.tmod a0 64) + IntKind.wrap .i64 (Int.tmod a2 30)) + 1)) 64 + IntKind.wrap .i64 a4)), li .i64 (IntKind.wrap .i64 (imin (IntKind.wrap .i64 (IntKind.wrap .i64 (IntKind.wrap .i64 (Int.tmod a1 64) + IntKind.wrap .i64 (Int.tmod a3 30)) + 1)) 64 + IntKind.wrap .i64 a5))]), (85, .agg [li .i64 (IntKind.wrap .i64 (Int.tmod a0 64)), li .i64 (IntKind.wrap .i64 (Int.tmod a1 64)), li .i64 (imin (IntKind.wrap .i64 (IntKind.wrap .i64 (IntKind.wrap .i64 (Int.tmod a0 64) + IntKind.wrap .i64 (Int.tmod a2 30)) + 1)) 64), li .i64 (imin (IntKind.wrap .i64 (IntKind.wrap .i64 (IntKind.wrap .i64 (Int.tmod a1 64) + IntKind.wrap .i64 (Int.tmod a3 30)) + 1)) 64)])] [] (by kernel_rfl) ?_
      refine SimI.bind (og := F21 n (Rect.mk (IntKind.wrap .i64 (Int.tmod a0 64)) (IntKind.wrap .i64 (Int.tmod a1 64)) (imin (IntKind.wrap .i64 (IntKind.wrap .i64 (IntKind.wrap .i64 (Int.tmod a0 64) + IntKind.wrap .i64 (Int.tmod a2 30)) + 1)) 64) (imin (IntKind.wrap .i64 (IntKind.wrap .i64 (IntKind.wrap .i64 (Int.tmod a1 64) + IntKind.wrap .i64 (Int.tmod a3 30)) + 1)) 64)) (Rect.mk (IntKind.wrap .i64 (IntKind.wrap .i64 (Int.tmod a0 64) + IntKind.wrap .i64 a4)) (IntKind.wrap .i64 (IntKind.wrap .i64 (Int.tmod a1 64) + IntKind.wrap .i64 a5)) (IntKind.wrap .i64 (imin (IntKind.wrap .i64 (IntKind.wrap .i64 (IntKind.wrap .i64 (Int.tmod a0 64) + IntKind.wrap .i64 (Int.tmod a2 30)) + 1)) 64 + IntKind.wrap .i64 a4)) (IntKind.wrap .i64 (imin (IntKind.wrap .i64 (IntKind.wrap .i64 (IntKind.wrap .i64 (Int.tmod a1 64) + IntKind.wrap .i64 (Int.tmod a3 30)) + 1)) 64 + IntKind.wrap .i64 a5)))) { dst := some 87, op := POp.call true [[], []] 21 [Operand.tmp 85, Operand.tmp 86], guard := none, hints := [] } (fun r12 => [(87, .one (vw Rect.cod r12))]) (fun r12 => []) (by kernel_rfl) (fun r12 hr => pOp_eff (by kernel_rfl) (by kernel_rfl) (eff_call (ARGS := [.agg [li .i64 (IntKind.wrap .i64 (Int.tmod a0 64)), li .i64 (IntKind.wrap .i64 (Int.tmod a1 64)), li .i64 (imin (IntKind.wrap .i64 (IntKind.wrap .i64 (IntKind.wrap .i64 (Int.tmod a0 64) + IntKind.wrap .i64 (Int.tmod a2 30)) + 1)) 64), li .i64 (imin (IntKind.wrap .i64 (IntKind.wrap .i64 (IntKind.wrap .i64 (Int.tmod a1 64) + IntKind.wrap .i64 (Int.tmod a3 30)) + 1)) 64)], .agg [li .i64 (IntKind.wrap .i64 (IntKind.wrap .i64 (Int.tmod a0 64) + IntKind.wrap .i64 a4)), li .i64 (IntKind.wrap .i64 (IntKind.wrap .i64 (Int.tmod a1 64) + IntKind.wrap .i64 a5)), li .i64 (IntKind.wrap .i64 (imin (IntKind.wrap .i64 (IntKind.wrap .i64 (IntKind.wrap .i64 (Int.tmod a0 64) + IntKind.wrap .i64 (Int.tmod a2 30)) + 1)) 64 + IntKind.wrap .i64 a4)), li .i64 (IntKind.wrap .i64 (imin (IntKind.wrap .i64 (IntKind.wrap .i64 (IntKind.wrap .i64 (Int.tmod a1 64) + IntKind.wrap .i64 (Int.tmod a3 30)) + 1)) 64 + IntKind.wrap .i64 a5))]]) (by kernel_rfl) (args_clean (by kernel_rfl) (args_clean (by kernel_rfl) args_nil)) (F21_ok n (Rect.mk (IntKind.wrap .i64 (Int.tmod a0 64)) (IntKind.wrap .i64 (Int.tmod a1 64)) (imin (IntKind.wrap .i64 (IntKind.wrap .i64 (IntKind.wrap .i64 (Int.tmod a0 64) + IntKind.wrap .i64 (Int.tmod a2 30)) + 1)) 64) (imin (IntKind.wrap .i64 (IntKind.wrap .i64 (IntKind.wrap .i64 (Int.tmod a1 64) + IntKind.wrap .i64 (Int.tmod a3 30)) + 1)) 64)) (Rect.mk (IntKind.wrap .i64 (IntKind.wrap .i64 (Int.tmod a0 64) + IntKind.wrap .i64 a4)) (IntKind.wrap .i64 (IntKind.wrap .i64 (Int.tmod a1 64) + IntKind.wrap .i64 a5)) (IntKind.wrap .i64 (imin (IntKind.wrap .i64 (IntKind.wrap .i64 (IntKind.wrap .i64 (Int.tmod a0 64) + IntKind.wrap .i64 (Int.tmod a2 30)) + 1)) 64 + IntKind.wrap .i64 a4)) (IntKind.wrap .i64 (imin (IntKind.wrap .i64 (IntKind.wrap .i64 (IntKind.wrap .i64 (Int.tmod a1 64) + IntKind.wrap .i64 (Int.tmod a3 30)) + 1)) 64 + IntKind.wrap .i64 a5))) r12 hr) (by kernel_rfl))) (fun r12 => ?_)
      refine SimI.run 1 [(19, .one (vw Rect.cod r12))] [] (by kernel_rfl) ?_
      refine SimI.done (by kernel_rfl) ?_
      refine SimE.thenN ?_
      refine Sim.seq ?_
      refine Sim.seq ?_
      refine Sim.region0 ?_
      refine SimI.run 1 [(20, .one (li .i64 0))] [] (by kernel_rfl) ?_
      refine SimI.done (by kernel_rfl) ?_
      refine SimE.thenN ?_
      refine Sim.block ?_
      refine Sim.loop ?_
      refine SimL.pre (ts := [13, 14, 15, 16, 19, 20]) (os := [13, 14]) [(13, .one (.ptr 13 0)), (14, .one (.ptr 14 0)), (15, .one (li .i64 i7)), (16, .one (li .i64 0)), (19, .one (vw Rect.cod r12)), (20, .one (li .i64 0))] ((13, some (.cells [li .i64 (IntKind.wrap .i64 (Int.tmod a0 64)), li .i64 (IntKind.wrap .i64 (Int.tmod a1 64)), li .i64 (imin (IntKind.wrap .i64 (IntKind.wrap .i64 (IntKind.wrap .i64 (Int.tmod a0 64) + IntKind.wrap .i64 (Int.tmod a2 30)) + 1)) 64), li .i64 (imin (IntKind.wrap .i64 (IntKind.wrap .i64 (IntKind.wrap .i64 (Int.tmod a1 64) + IntKind.wrap .i64 (Int.tmod a3 30)) + 1)) 64)])) :: ((14, some (.cells [li .i64 (IntKind.wrap .i64 (IntKind.wrap .i64 (Int.tmod a0 64) + IntKind.wrap .i64 a4)), li .i64 (IntKind.wrap .i64 (IntKind.wrap .i64 (Int.tmod a1 64) + IntKind.wrap .i64 a5)), li .i64 (IntKind.wrap .i64 (imin (IntKind.wrap .i64 (IntKind.wrap .i64 (IntKind.wrap .i64 (Int.tmod a0 64) + IntKind.wrap .i64 (Int.tmod a2 30)) + 1)) 64 + IntKind.wrap .i64 a4)), li .i64 (IntKind.wrap .i64 (imin (IntKind.wrap .i64 (IntKind.wrap .i64 (IntKind.wrap .i64 (Int.tmod a1 64) + IntKind.wrap .i64 (Int.tmod a3 30)) + 1)) 64 + IntKind.wrap .i64 a5))])) :: [])) (by kernel_rfl) (by kernel_rfl) (by kernel_rfl) ?_
      exact F10_l19_ok n a0 a1 a2 a3 a4 a5 i7 r12 (n + 8) 0 0

def F10 (n : Nat) (a0 : Int) (a1 : Int) (a2 : Int) (a3 : Int) (a4 : Int) (a5 : Int) : Option Bool :=
  ((some true)).bind fun (r1 : Bool) =>
  if !(r1) then
    some false
  else
    (F21 n (Rect.mk (IntKind.wrap .i64 (IntKind.wrap .i64 (Int.tmod a0 64) + IntKind.wrap .i64 a4)) (IntKind.wrap .i64 (IntKind.wrap .i64 (Int.tmod a1 64) + IntKind.wrap .i64 a5)) (IntKind.wrap .i64 (imin (IntKind.wrap .i64 (IntKind.wrap .i64 (IntKind.wrap .i64 (Int.tmod a0 64) + IntKind.wrap .i64 (Int.tmod a2 30)) + 1)) 64 + IntKind.wrap .i64 a4)) (IntKind.wrap .i64 (imin (IntKind.wrap .i64 (IntKind.wrap .i64 (IntKind.wrap .i64 (Int.tmod a1 64) + IntKind.wrap .i64 (Int.tmod a3 30)) + 1)) 64 + IntKind.wrap .i64 a5))) (Rect.mk (IntKind.wrap .i64 (Int.tmod a0 64)) (IntKind.wrap .i64 (Int.tmod a1 64)) (imin (IntKind.wrap .i64 (IntKind.wrap .i64 (IntKind.wrap .i64 (Int.tmod a0 64) + IntKind.wrap .i64 (Int.tmod a2 30)) + 1)) 64) (imin (IntKind.wrap .i64 (IntKind.wrap .i64 (IntKind.wrap .i64 (Int.tmod a1 64) + IntKind.wrap .i64 (Int.tmod a3 30)) + 1)) 64))).bind fun (r2 : (List Rect)) =>
    F10_l9 n a0 a1 a2 a3 a4 a5 r2 (n + 8) 0 0
theorem F10_ok (n : Nat) (a0 : Int) (a1 : Int) (a2 : Int) (a3 : Int) (a4 : Int) (a5 : Int) : ∀ r, F10 n a0 a1 a2 a3 a4 a5 = some r → D 10 [.one (li .u8 a0), .one (li .u8 a1), .one (li .u8 a2), .one (li .u8 a3), .one (li .i8 a4), .one (li .i8 a5)] [] = some (F10_e r) := by
  refine fn_to (D := D) (n := n + 8) (nt := 137) (rs := pc10_r) (c := pc10_c55) (L := [(0, .one (li .u8 a0)), (1, .one (li .u8 a1)), (2, .one (li .u8 a2)), (3, .one (li .u8 a3)), (4, .one (li .i8 a4)), (5, .one (li .i8 a5))]) (M := []) (k := 0) rfl rfl rfl rfl rfl rfl ?_
  unfold F10
  refine Sim.seq ?_
  refine Sim.region0 ?_
  refine SimI.run 1 [(12, .one (lb false))] [] (by kernel_rfl) ?_
  refine SimI.done (by kernel_rfl) ?_
  refine SimE.thenN ?_
  refine Sim.seq ?_
  refine Sim.seq ?_
  refine Sim.region0 ?_
  refine SimI.bind (og := (some true)) { dst := some 21, op := POp.call true [] 19 [], guard := none, hints := [] } (fun r1 => [(21, .one (lb r1))]) (fun r1 => []) (by kernel_rfl) (fun r1 hr => pOp_eff (by kernel_rfl) (by kernel_rfl) (eff_call (ARGS := []) (by kernel_rfl) (args_nil) (F19_ok n r1 hr) (by kernel_rfl))) (fun r1 => ?_)
  refine SimI.run 1 [(22, .one (lb (!(r1))))] [] (by kernel_rfl) ?_
  refine SimI.done (by kernel_rfl) ?_
  refine SimE.thenN ?_
  refine Sim.cond (!(r1)) (by kernel_rfl) ?_ ?_
  · refine Sim.seq ?_
    refine Sim.region0 ?_
    refine SimI.run 1 [(12, .one (lb false))] [] (by kernel_rfl) ?_
    refine SimI.done (by kernel_rfl) ?_
    refine SimE.thenN ?_
    refine Sim.ret ?_
    refine SimE.thenR ?_
    exact SimE.fin (by kernel_rfl)
  · refine Sim.skip ?_
    refine SimE.thenN ?_
    refine Sim.seq ?_
    refine Sim.region0 ?_
    refine SimI.run 9 [(13, .one (.ptr 13 0)), (29, .agg [li .i64 (IntKind.wrap .i64 (Int.tmod a0 64)), li .i64 (IntKind.wrap .i64 (Int.tmod a1 64)), li .i64 0, li .i64 0]), (28, .one (li .i64 (IntKind.wrap .i64 (Int.tmod a1 64)))), (27, .one (li .u8 (Int.tmod a1 64))), (26, .one (li .u8 a1)), (25, .one (li .i64 (IntKind.wrap .i64 (Int.tmod a0 64)))), (24, .one (li .u8 (Int.tmod a0 64))), (23, .one (li .u8 a0))] [(13, some (.cells [li .i64 (IntKind.wrap .i64 (Int.tmod a0 64)), li .i64 (IntKind.wrap .i64 (Int.tmod a1 64)), li .i64 0, li .i64 0])), (13, some (.cells [li .i64 0, li .i64 0, li .i64 0, li .i64 0]))] (by kernel_rfl) ?_
    refine SimI.done (by kernel_rfl) ?_
    refine SimE.thenN ?_
    refine Sim.seq ?_
    refine Sim.region0 ?_
    refine SimI.run 20 [(47, .one (.ptr 13 3)), (46, .one (.ptr 13 2)), (45, .one (li .i64 (imin (IntKind.wrap .i64 (IntKind.wrap .i64 (IntKind.wrap .i64 (Int.tmod a1 64) + IntKind.wrap .i64 (Int.tmod a3 30)) + 1)) 64))), (44, .one (li .i64 (IntKind.wrap .i64 (IntKind.wrap .i64 (IntKind.wrap .i64 (Int.tmod a1 64) + IntKind.wrap .i64 (Int.tmod a3 30)) + 1)))), (43, .one (li .i64 (IntKind.wrap .i64 (IntKind.wrap .i64 (Int.tmod a1 64) + IntKind.wrap .i64 (Int.tmod a3 30))))), (42, .one (li .i64 (IntKind.wrap .i64 (Int.tmod a3 30)))), (41, .one (li .u8 (Int.tmod a3 30))), (40, .one (li .u8 a3)), (39, .one (li .i64 (IntKind.wrap .i64 (Int.tmod a1 64)))), (38, .one (.ptr 13 1)), (37, .one (li .i64 (imin (IntKind.wrap .i64 (IntKind.wrap .i64 (IntKind.wrap .i64 (Int.tmod a0 64) + IntKind.wrap .i64 (Int.tmod a2 30)) + 1)) 64))), (36, .one (li .i64 (IntKind.wrap .i64 (IntKind.wrap .i64 (IntKind.wrap .i64 (Int.tmod a0 64) + IntKind.wrap .i64 (Int.tmod a2 30)) + 1)))), (35, .one (li .i64 (IntKind.wrap .i64 (IntKind.wrap .i64 (Int.tmod a0 64) + IntKind.wrap .i64 (Int.tmod a2 30))))), (34, .one (li .i64 (IntKind.wrap .i64 (Int.tmod a2 30)))), (33, .one (li .u8 (Int.tmod a2 30))), (32, .one (li .u8 a2)), (31, .one (li .i64 (IntKind.wrap .i64 (Int.tmod a0 64)))), (30, .one (.ptr 13 0))] [(13, some (.cells [li .i64 (IntKind.wrap .i64 (Int.tmod a0 64)), li .i64 (IntKind.wrap .i64 (Int.tmod a1 64)), li .i64 (imin (IntKind.wrap .i64 (IntKind.wrap .i64 (IntKind.wrap .i64 (Int.tmod a0 64) + IntKind.wrap .i64 (Int.tmod a2 30)) + 1)) 64), li .i64 (imin (IntKind.wrap .i64 (IntKind.wrap .i64 (IntKind.wrap .i64 (Int.tmod a1 64) + IntKind.wrap .i64 (Int.tmod a3 30)) + 1)) 64)])), (13, some (.cells [li .i64 (IntKind.wrap .i64 (Int.tmod a0 64)), li .i64 (IntKind.wrap .i64 (Int.tmod a1 64)), li .i64 (imin (IntKind.wrap .i64 (IntKind.wrap .i64 (IntKind.wrap .i64 (Int.tmod a0 64) + IntKind.wrap .i64 (Int.tmod a2 30)) + 1)) 64), li .i64 0]))] (by kernel_rfl) ?_
    refine SimI.done (by kernel_rfl) ?_
    refine SimE.thenN ?_
    refine Sim.seq ?_
    refine Sim.region0 ?_
    refine SimI.run 23 [(14, .one (.ptr 14 0)), (68, .agg [li .i64 (IntKind.wrap .i64 (IntKind.wrap .i64 (Int.tmod a0 64) + IntKind.wrap .i64 a4)), li .i64 (IntKind.wrap .i64 (IntKind.wrap .i64 (Int.tmod a1 64) + IntKind.wrap .i64 a5)), li .i64 (IntKind.wrap .i64 (imin (IntKind.wrap .i64 (IntKind.wrap .i64 (IntKind.wrap .i64 (Int.tmod a0 64) + IntKind.wrap .i64 (Int.tmod a2 30)) + 1)) 64 + IntKind.wrap .i64 a4)), li .i64 (IntKind.wrap .i64 (imin (IntKind.wrap .i64 (IntKind.wrap .i64 (IntKind.wrap .i64 (Int.tmod a1 64) + IntKind.wrap .i64 (Int.tmod a3 30)) + 1)) 64 + IntKind.wrap .i64 a5))]), (67, .one (li .i64 (IntKind.wrap .i64 (imin (IntKind.wrap .i64 (IntKind.wrap .i64 (IntKind.wrap .i64 (Int.tmod a1 64) + IntKind.wrap .i64 (Int.tmod a3 30)) + 1)) 64 + IntKind.wrap .i64 a5)))), (66, .one (li .i64 (IntKind.wrap .i64 a5))), (65, .one (li .i8 a5)), (64, .one (li .i64 (imin (IntKind.wrap .i64 (IntKind.wrap .i64 (IntKind.wrap .i64 (Int.tmod a1 64) + IntKind.wrap .i64 (Int.tmod a3 30)) + 1)) 64))), (63, .one (.ptr 13 3)), (62, .one (li .i64 (IntKind.wrap .i64 (imin (IntKind.wrap .i64 (IntKind.wrap .i64 (IntKind.wrap .i64 (Int.tmod a0 64) + IntKind.wrap .i64 (Int.tmod a2 30)) + 1)) 64 + IntKind.wrap .i64 a4)))), (61, .one (li .i64 (IntKind.wrap .i64 a4))), (60, .one (li .i8 a4)), (59, .one (li .i64 (imin (IntKind.wrap .i64 (IntKind.wrap .i64 (IntKind.wrap .i64 (Int.tmod a0 64) + IntKind.wrap .i64 (Int.tmod a2 30)) + 1)) 64))), (58, .one (.ptr 13 2)), (57, .one (li .i64 (IntKind.wrap .i64 (IntKind.wrap .i64 (Int.tmod a1 64) + IntKind.wrap .i64 a5)))), (56, .one (li .i64 (IntKind.wrap .i64 a5))), (55, .one (li .i8 a5)), (54, .one (li .i64 (IntKind.wrap .i64 (Int.tmod a1 64)))), (53, .one (.ptr 13 1)), (52, .one (li .i64 (IntKind.wrap .i64 (IntKind.wrap .i64 (Int.tmod a0 64) + IntKind.wrap .i64 a4)))), (51, .one (li .i64 (IntKind.wrap .i64 a4))), (50, .one (li .i8 a4)), (49, .one (li .i64 (IntKind.wrap .i64 (Int.tmod a0 64)))), (48, .one (.ptr 13 0))] [(14, some (.cells [li .i64 (IntKind.wrap .i64 (IntKind.wrap .i64 (Int.tmod a0 64) + IntKind.wrap .i64 a4)), li .i64 (IntKind.wrap .i64 (IntKind.wrap .i64 (Int.tmod a1 64) + IntKind.wrap .i64 a5)), li .i64 (IntKind.wrap .i64 (imin (IntKind.wrap .i64 (IntKind.wrap .i64 (IntKind.wrap .i64 (Int.tmod a0 64) + IntKind.wrap .i64 (Int.tmod a2 30)) + 1)) 64 + IntKind.wrap .i64 a4)), li .i64 (IntKind.wrap .i64 (imin (IntKind.wrap .i64 (IntKind.wrap .i64 (IntKind.wrap .i64 (Int.tmod a1 64) + IntKind.wrap .i64 (Int.tmod a3 30)) + 1)) 64 + IntKind.wrap .i64 a5))])), (14, some (.cells [li .i64 0, li .i64 0, li .i64 0, li .i64 0]))] (by kernel_rfl) ?_
    refine SimI.done (by kernel_rfl) ?_
    refine SimE.thenN ?_
    refine Sim.seq ?_
    refine Sim.region0 ?_
    refine SimI.run 2 [(16, .one (li .i64 0)), (15, .one (li .i64 0))] [] (by kernel_rfl) ?_
    refine SimI.done (by kernel_rfl) ?_
    refine SimE.thenN ?_
    refine Sim.seq ?_
    refine Sim.region0 ?_
    refine SimI.run 2 [(70, .agg [li .i64 (IntKind.wrap .i64 (Int.tmod a0 64)), li .i64 (IntKind.wrap .i64 (Int.tmod a1 64)), li .i64 (imin (IntKind.wrap .i64 (IntKind.wrap .i64 (IntKind.wrap .i64 (Int.tmod a0 64) + IntKind.wrap .i64 (Int.tmod a2 30)) + 1)) 64), li .i64 (imin (IntKind.wrap .i64 (IntKind.wrap .i64 (IntKind.wrap .i64 (Int.tmod a1 64) + IntKind.wrap .i64 (Int.tmod a3 30)) + 1)) 64)]), (69, .agg [li .i64 (IntKind.wrap .i64 (IntKind.wrap .i64 (Int.tmod a0 64) + IntKind.wrap .i64 a4)), li .i64 (IntKind.wrap .i64 (IntKind.wrap .i64 (Int.tmod a1 64) + IntKind.wrap .i64 a5)), li .i64 (IntKind.wrap .i64 (imin (IntKind.wrap .i64 (IntKind.wrap .i64 (IntKind.wrap .i64 (Int.tmod a0 64) + IntKind.wrap .i64 (Int.tmod a2 30)) + 1)) 64 + IntKind.wrap .i64 a4)), li .i64 (IntKind.wrap .i64 (imin (IntKind.wrap .i64 (IntKind.wrap .i64 (IntKind.wrap .i64 (Int.tmod a1 64) + IntKind.wrap .i64 (Int.tmod a3 30)) + 1)) 64 + IntKind.wrap .i64 a5))])] [] (by kernel_rfl) ?_
    refine SimI.bind (og := F21 n (Rect.mk (IntKind.wrap .i64 (IntKind.wrap .i64 (Int.tmod a0 64) + IntKind.wrap .i64 a4)) (IntKind.wrap .i64 (IntKind.wrap .i64 (Int.tmod a1 64) + IntKind.wrap .i64 a5)) (IntKind.wrap .i64 (imin (IntKind.wrap .i64 (IntKind.wrap .i64 (IntKind.wrap .i64 (Int.tmod a0 64) + IntKind.wrap .i64 (Int.tmod a2 30)) + 1)) 64 + IntKind.wrap .i64 a4)) (IntKind.wrap .i64 (imin (IntKind.wrap .i64 (IntKind.wrap .i64 (IntKind.wrap .i64 (Int.tmod a1 64) + IntKind.wrap .i64 (Int.tmod a3 30)) + 1)) 64 + IntKind.wrap .i64 a5))) (Rect.mk (IntKind.wrap .i64 (Int.tmod a0 64)) (IntKind.wrap .i64 (Int.tmod a1 64)) (imin (IntKind.wrap .i64 (IntKind.wrap .i64 (IntKind.wrap .i64 (Int.tmod a0 64) + IntKind.wrap .i64 (Int.tmod a2 30)) + 1)) 64) (imin (IntKind.wrap .i64 (IntKind.wrap .i64 (IntKind.wrap .i64 (Int.tmod a1 64) + IntKind.wrap .i64 (Int.tmod a3 30)) + 1)) 64))) { dst := some 71, op := POp.call true [[], []] 21 [Operand.tmp 69, Operand.tmp 70], guard := none, hints := [] } (fun r2 => [(71, .one (vw Rect.cod r2))]) (fun r2 => []) (by kernel_rfl) (fun r2 hr => pOp_eff (by kernel_rfl) (by kernel_rfl) (eff_call (ARGS := [.agg [li .i64 (IntKind.wrap .i64 (IntKind.wrap .i64 (Int.tmod a0 64) + IntKind.wrap .i64 a4)), li .i64 (IntKind.wrap .i64 (IntKind.wrap .i64 (Int.tmod a1 64) + IntKind.wrap .i64 a5)), li .i64 (IntKind.wrap .i64 (imin (IntKind.wrap .i64 (IntKind.wrap .i64 (IntKind.wrap .i64 (Int.tmod a0 64) + IntKind.wrap .i64 (Int.tmod a2 30)) + 1)) 64 + IntKind.wrap .i64 a4)), li .i64 (IntKind.wrap .i64 (imin (IntKind.wrap .i64 (IntKind.wrap .i64 (IntKind.wrap .i64 (Int.tmod a1 64) + IntKind.wrap .i64 (Int.tmod a3 30)) + 1)) 64 + IntKind.wrap .i64 a5))], .agg [li .i64 (IntKind.wrap .i64 (Int.tmod a0 64)), li .i64 (IntKind.wrap .i64 (Int.tmod a1 64)), li .i64 (imin (IntKind.wrap .i64 (IntKind.wrap .i64 (IntKind.wrap .i64 (Int.tmod a0 64) + IntKind.wrap .i64 (Int.tmod a2 30)) + 1)) 64), li .i64 (imin (IntKind.wrap .i64 (IntKind.wrap .i64 (IntKind.wrap .i64 (Int.tmod a1 64) + IntKind.wrap .i64 (Int.tmod a3 30)) + 1)) 64)]]) (by kernel_rfl) (args_clean (by kernel_rfl) (args_clean (by kernel_rfl) args_nil)) (F21_ok n (Rect.mk (IntKind.wrap .i64 (IntKind.wrap .i64 (Int.tmod a0 64) + IntKind.wrap .i64 a4)) (IntKind.wrap .i64 (IntKind.wrap .i64 (Int.tmod a1 64) + IntKind.wrap .i64 a5)) (IntKind.wrap .i64 (imin (IntKind.wrap .i64 (IntKind.wrap .i64 (IntKind.wrap .i64 (Int.tmod a0 64) + IntKind.wrap .i64 (Int.tmod a2 30)) + 1)) 64 + IntKind.wrap .i64 a4)) (IntKind.wrap .i64 (imin (IntKind.wrap .i64 (IntKind.wrap .i64 (IntKind.wrap .i64 (Int.tmod a1 64) + IntKind.wrap .i64 (Int.tmod a3 30)) + 1)) 64 + IntKind.wrap .i64 a5))) (Rect.mk (IntKind.wrap .i64 (Int.tmod a0 64)) (IntKind.wrap .i64 (Int.tmod a1 64)) (imin (IntKind.wrap .i64 (IntKind.wrap .i64 (IntKind.wrap .i64 (Int.tmod a0 64) + IntKind.wrap .i64 (Int.tmod a2 30)) + 1)) 64) (imin (IntKind.wrap .i64 (IntKind.wrap .i64 (IntKind.wrap .i64 (Int.tmod a1 64) + IntKind.wrap .i64 (Int.tmod a3 30)) + 1)) 64)) r2 hr) (by kernel_rfl))) (fun r2 => ?_)
    refine SimI.run 1 [(17, .one (vw Rect.cod r2))] [] (by kernel_rfl) ?_
    refine SimI.done (by kernel_rfl) ?_
    refine SimE.thenN ?_
    refine Sim.seq ?_
    refine Sim.seq ?_
    refine Sim.region0 ?_
    refine SimI.run 1 [(18, .one (li .i64 0))] [] (by kernel_rfl) ?_
    refine SimI.done (by kernel_rfl) ?_
    refine SimE.thenN ?_
    refine Sim.block ?_
    refine Sim.loop ?_
    refine SimL.pre (ts := [13, 14, 15, 16, 17, 18]) (os := [13, 14]) [(13, .one (.ptr 13 0)), (14, .one (.ptr 14 0)), (15, .one (li .i64 0)), (16, .one (li .i64 0)), (17, .one (vw Rect.cod r2)), (18, .one (li .i64 0))] ((13, some (.cells [li .i64 (IntKind.wrap .i64 (Int.tmod a0 64)), li .i64 (IntKind.wrap .i64 (Int.tmod a1 64)), li .i64 (imin (IntKind.wrap .i64 (IntKind.wrap .i64 (IntKind.wrap .i64 (Int.tmod a0 64) + IntKind.wrap .i64 (Int.tmod a2 30)) + 1)) 64), li .i64 (imin (IntKind.wrap .i64 (IntKind.wrap .i64 (IntKind.wrap .i64 (Int.tmod a1 64) + IntKind.wrap .i64 (Int.tmod a3 30)) + 1)) 64)])) :: ((14, some (.cells [li .i64 (IntKind.wrap .i64 (IntKind.wrap .i64 (Int.tmod a0 64) + IntKind.wrap .i64 a4)), li .i64 (IntKind.wrap .i64 (IntKind.wrap .i64 (Int.tmod a1 64) + IntKind.wrap .i64 a5)), li .i64 (IntKind.wrap .i64 (imin (IntKind.wrap .i64 (IntKind.wrap .i64 (IntKind.wrap .i64 (Int.tmod a0 64) + IntKind.wrap .i64 (Int.tmod a2 30)) + 1)) 64 + IntKind.wrap .i64 a4)), li .i64 (IntKind.wrap .i64 (imin (IntKind.wrap .i64 (IntKind.wrap .i64 (IntKind.wrap .i64 (Int.tmod a1 64) + IntKind.wrap .i64 (Int.tmod a3 30)) + 1)) 64 + IntKind.wrap .i64 a5))])) :: [])) (by kernel_rfl) (by kernel_rfl) (by kernel_rfl) ?_
    exact F10_l9_ok n a0 a1 a2 a3 a4 a5 r2 (n + 8) 0 0


end Go.Proofs.Ytdnfamkokhgdbaa
