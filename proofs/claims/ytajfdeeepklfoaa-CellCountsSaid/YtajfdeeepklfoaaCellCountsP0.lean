/-
  Functions of the program as functions of Lean. No condition.
-/
import Derived.Test.YtajfdeeepklfoaaCellCountsE
namespace Go.Proofs.Ytajfdeeepklfoaa
open Go Go.Rx
set_option maxRecDepth 100000
set_option linter.unusedVariables false
set_option linter.unusedSimpArgs false
-- 23: vedette/vedetteref3.In
def F23_e : Bool → PV × List (List Lf) := fun r => (.one (lb r), [])
def F23 (n : Nat) (a0 : Rect) (a1 : Point) : Option Bool :=
  if decide (a0.X0 ≤ a1.X) then
    if decide (a1.X < a0.X1) then
      if decide (a0.Y0 ≤ a1.Y) then
        some (decide (a1.Y < a0.Y1))
      else
        some false
    else
      some false
  else
    some false
theorem F23_ok (n : Nat) (a0 : Rect) (a1 : Point) : ∀ r, F23 n a0 a1 = some r → D 23 [.agg [li .i64 a0.X0, li .i64 a0.Y0, li .i64 a0.X1, li .i64 a0.Y1], .agg [li .i64 a1.X, li .i64 a1.Y]] [] = some (F23_e r) := by
  refine fn_to (D := D) (n := n + 8) (nt := 31) (rs := pc23_r) (c := pc23_c5) (L := [(0, .agg [li .i64 a0.X0, li .i64 a0.Y0, li .i64 a0.X1, li .i64 a0.Y1]), (1, .agg [li .i64 a1.X, li .i64 a1.Y])]) (M := []) (k := 0) rfl rfl rfl rfl rfl rfl ?_
  unfold F23
  refine Sim.seq ?_
  refine Sim.region0 ?_
  refine SimI.run 3 [(4, .one (lb false)), (3, .one (.ptr 3 0)), (2, .one (.ptr 2 0))] [(3, some (.cells [li .i64 a1.X, li .i64 a1.Y])), (2, some (.cells [li .i64 a0.X0, li .i64 a0.Y0, li .i64 a0.X1, li .i64 a0.Y1]))] (by kernel_rfl) ?_
  refine SimI.done (by kernel_rfl) ?_
  refine SimE.thenN ?_
  refine Sim.seq ?_
  refine Sim.region0 ?_
  refine SimI.run 6 [(10, .one (lb (decide (a0.X0 ≤ a1.X)))), (9, .one (lb (decide (a0.X0 ≤ a1.X)))), (8, .one (li .i64 a1.X)), (7, .one (.ptr 3 0)), (6, .one (li .i64 a0.X0)), (5, .one (.ptr 2 0))] [] (by kernel_rfl) ?_
  refine SimI.split 10 (decide (a0.X0 ≤ a1.X)) (by kernel_rfl) ?_ ?_
  · refine SimI.run 7 [(17, .one (lb (decide (a1.X < a0.X1)))), (16, .one (lb (decide (a1.X < a0.X1)))), (15, .one (lb (decide (a1.X < a0.X1)))), (14, .one (li .i64 a0.X1)), (13, .one (.ptr 2 2)), (12, .one (li .i64 a1.X)), (11, .one (.ptr 3 0))] [] (by kernel_rfl) ?_
    refine SimI.split 17 (decide (a1.X < a0.X1)) (by kernel_rfl) ?_ ?_
    · refine SimI.run 7 [(24, .one (lb (decide (a0.Y0 ≤ a1.Y)))), (23, .one (lb (decide (a0.Y0 ≤ a1.Y)))), (22, .one (lb (decide (a0.Y0 ≤ a1.Y)))), (21, .one (li .i64 a1.Y)), (20, .one (.ptr 3 1)), (19, .one (li .i64 a0.Y0)), (18, .one (.ptr 2 1))] [] (by kernel_rfl) ?_
      refine SimI.split 24 (decide (a0.Y0 ≤ a1.Y)) (by kernel_rfl) ?_ ?_
      · refine SimI.run 7 [(4, .one (lb (decide (a1.Y < a0.Y1)))), (30, .one (lb (decide (a1.Y < a0.Y1)))), (29, .one (lb (decide (a1.Y < a0.Y1)))), (28, .one (li .i64 a0.Y1)), (27, .one (.ptr 2 3)), (26, .one (li .i64 a1.Y)), (25, .one (.ptr 3 1))] [] (by kernel_rfl) ?_
        refine SimI.done (by kernel_rfl) ?_
        refine SimE.thenN ?_
        refine Sim.ret ?_
        exact SimE.fin (by kernel_rfl)
      · refine SimI.run 7 [(4, .one (lb false)), (30, .one (lb false)), (29, .tup []), (28, .tup []), (27, .tup []), (26, .tup []), (25, .tup [])] [] (by kernel_rfl) ?_
        refine SimI.done (by kernel_rfl) ?_
        refine SimE.thenN ?_
        refine Sim.ret ?_
        exact SimE.fin (by kernel_rfl)
    · refine SimI.run 14 [(4, .one (lb false)), (30, .one (lb false)), (29, .tup []), (28, .tup []), (27, .tup []), (26, .tup []), (25, .tup []), (24, .one (lb false)), (23, .one (lb false)), (22, .tup []), (21, .tup []), (20, .tup []), (19, .tup []), (18, .tup [])] [] (by kernel_rfl) ?_
      refine SimI.done (by kernel_rfl) ?_
      refine SimE.thenN ?_
      refine Sim.ret ?_
      exact SimE.fin (by kernel_rfl)
  · refine SimI.run 21 [(4, .one (lb false)), (30, .one (lb false)), (29, .tup []), (28, .tup []), (27, .tup []), (26, .tup []), (25, .tup []), (24, .one (lb false)), (23, .one (lb false)), (22, .tup []), (21, .tup []), (20, .tup []), (19, .tup []), (18, .tup []), (17, .one (lb false)), (16, .one (lb false)), (15, .tup []), (14, .tup []), (13, .tup []), (12, .tup []), (11, .tup [])] [] (by kernel_rfl) ?_
    refine SimI.done (by kernel_rfl) ?_
    refine SimE.thenN ?_
    refine Sim.ret ?_
    exact SimE.fin (by kernel_rfl)


-- 52: vedette/geom.On
def F52_e : Bool → PV × List (List Lf) := fun r => (.one (lb r), [])
def F52 (n : Nat) (a0 : Point) : Option Bool :=
  if decide ((0 : Int) ≤ a0.X) then
    if decide (a0.X < 64) then
      if decide ((0 : Int) ≤ a0.Y) then
        some (decide (a0.Y < 64))
      else
        some false
    else
      some false
  else
    some false
theorem F52_ok (n : Nat) (a0 : Point) : ∀ r, F52 n a0 = some r → D 52 [.agg [li .i64 a0.X, li .i64 a0.Y]] [] = some (F52_e r) := by
  refine fn_to (D := D) (n := n + 8) (nt := 21) (rs := pc52_r) (c := pc52_c5) (L := [(0, .agg [li .i64 a0.X, li .i64 a0.Y])]) (M := []) (k := 0) rfl rfl rfl rfl rfl rfl ?_
  unfold F52
  refine Sim.seq ?_
  refine Sim.region0 ?_
  refine SimI.run 2 [(2, .one (lb false)), (1, .one (.ptr 1 0))] [(1, some (.cells [li .i64 a0.X, li .i64 a0.Y]))] (by kernel_rfl) ?_
  refine SimI.done (by kernel_rfl) ?_
  refine SimE.thenN ?_
  refine Sim.seq ?_
  refine Sim.region0 ?_
  refine SimI.run 4 [(6, .one (lb (decide ((0 : Int) ≤ a0.X)))), (5, .one (lb (decide ((0 : Int) ≤ a0.X)))), (4, .one (li .i64 a0.X)), (3, .one (.ptr 1 0))] [] (by kernel_rfl) ?_
  refine SimI.split 6 (decide ((0 : Int) ≤ a0.X)) (by kernel_rfl) ?_ ?_
  · refine SimI.run 5 [(11, .one (lb (decide (a0.X < 64)))), (10, .one (lb (decide (a0.X < 64)))), (9, .one (lb (decide (a0.X < 64)))), (8, .one (li .i64 a0.X)), (7, .one (.ptr 1 0))] [] (by kernel_rfl) ?_
    refine SimI.split 11 (decide (a0.X < 64)) (by kernel_rfl) ?_ ?_
    · refine SimI.run 5 [(16, .one (lb (decide ((0 : Int) ≤ a0.Y)))), (15, .one (lb (decide ((0 : Int) ≤ a0.Y)))), (14, .one (lb (decide ((0 : Int) ≤ a0.Y)))), (13, .one (li .i64 a0.Y)), (12, .one (.ptr 1 1))] [] (by kernel_rfl) ?_
      refine SimI.split 16 (decide ((0 : Int) ≤ a0.Y)) (by kernel_rfl) ?_ ?_
      · refine SimI.run 5 [(2, .one (lb (decide (a0.Y < 64)))), (20, .one (lb (decide (a0.Y < 64)))), (19, .one (lb (decide (a0.Y < 64)))), (18, .one (li .i64 a0.Y)), (17, .one (.ptr 1 1))] [] (by kernel_rfl) ?_
        refine SimI.done (by kernel_rfl) ?_
        refine SimE.thenN ?_
        refine Sim.ret ?_
        exact SimE.fin (by kernel_rfl)
      · refine SimI.run 5 [(2, .one (lb false)), (20, .one (lb false)), (19, .tup []), (18, .tup []), (17, .tup [])] [] (by kernel_rfl) ?_
        refine SimI.done (by kernel_rfl) ?_
        refine SimE.thenN ?_
        refine Sim.ret ?_
        exact SimE.fin (by kernel_rfl)
    · refine SimI.run 10 [(2, .one (lb false)), (20, .one (lb false)), (19, .tup []), (18, .tup []), (17, .tup []), (16, .one (lb false)), (15, .one (lb false)), (14, .tup []), (13, .tup []), (12, .tup [])] [] (by kernel_rfl) ?_
      refine SimI.done (by kernel_rfl) ?_
      refine SimE.thenN ?_
      refine Sim.ret ?_
      exact SimE.fin (by kernel_rfl)
  · refine SimI.run 15 [(2, .one (lb false)), (20, .one (lb false)), (19, .tup []), (18, .tup []), (17, .tup []), (16, .one (lb false)), (15, .one (lb false)), (14, .tup []), (13, .tup []), (12, .tup []), (11, .one (lb false)), (10, .one (lb false)), (9, .tup []), (8, .tup []), (7, .tup [])] [] (by kernel_rfl) ?_
    refine SimI.done (by kernel_rfl) ?_
    refine SimE.thenN ?_
    refine Sim.ret ?_
    exact SimE.fin (by kernel_rfl)


-- 81: vedette/morton.spread
def F81_e : Int → PV × List (List Lf) := fun r => (.one (li .u32 r), [])
def F81 (n : Nat) (a0 : Int) : Option Int :=
  some (bitsI .and .u32 (bitsI .or .u32 (bitsI .and .u32 (bitsI .or .u32 (bitsI .and .u32 (bitsI .or .u32 (bitsI .and .u32 (bitsI .or .u32 a0 (shlI .u32 a0 8)) 16711935) (shlI .u32 (bitsI .and .u32 (bitsI .or .u32 a0 (shlI .u32 a0 8)) 16711935) 4)) 252645135) (shlI .u32 (bitsI .and .u32 (bitsI .or .u32 (bitsI .and .u32 (bitsI .or .u32 a0 (shlI .u32 a0 8)) 16711935) (shlI .u32 (bitsI .and .u32 (bitsI .or .u32 a0 (shlI .u32 a0 8)) 16711935) 4)) 252645135) 2)) 858993459) (shlI .u32 (bitsI .and .u32 (bitsI .or .u32 (bitsI .and .u32 (bitsI .or .u32 (bitsI .and .u32 (bitsI .or .u32 a0 (shlI .u32 a0 8)) 16711935) (shlI .u32 (bitsI .and .u32 (bitsI .or .u32 a0 (shlI .u32 a0 8)) 16711935) 4)) 252645135) (shlI .u32 (bitsI .and .u32 (bitsI .or .u32 (bitsI .and .u32 (bitsI .or .u32 a0 (shlI .u32 a0 8)) 16711935) (shlI .u32 (bitsI .and .u32 (bitsI .or .u32 a0 (shlI .u32 a0 8)) 16711935) 4)) 252645135) 2)) 858993459) 1)) 1431655765)
theorem F81_ok (n : Nat) (a0 : Int) : ∀ r, F81 n a0 = some r → D 81 [.one (li .u32 a0)] [] = some (F81_e r) := by
  refine fn_to (D := D) (n := n + 8) (nt := 24) (rs := pc81_r) (c := pc81_c22) (L := [(0, .one (li .u32 a0))]) (M := []) (k := 0) rfl rfl rfl rfl rfl rfl ?_
  unfold F81
  refine Sim.seq ?_
  refine Sim.region0 ?_
  refine SimI.run 1 [(2, .one (li .u32 0))] [] (by kernel_rfl) ?_
  refine SimI.done (by kernel_rfl) ?_
  refine SimE.thenN ?_
  refine Sim.seq ?_
  refine Sim.seq ?_
  refine Sim.region0 ?_
  refine SimI.run 6 [(10, .one (li .i64 0)), (9, .agg [li .u64 8, li .u32 16711935, li .u64 4, li .u32 252645135, li .u64 2, li .u32 858993459, li .u64 1, li .u32 1431655765]), (8, .agg [li .u64 1, li .u32 1431655765]), (7, .agg [li .u64 2, li .u32 858993459]), (6, .agg [li .u64 4, li .u32 252645135]), (5, .agg [li .u64 8, li .u32 16711935])] [] (by kernel_rfl) ?_
  refine SimI.done (by kernel_rfl) ?_
  refine SimE.thenN ?_
  refine Sim.block ?_
  refine Sim.loop ?_
  refine SimL.succ ?_
  refine Sim.seq ?_
  refine Sim.region [(0, .one (li .u32 a0)), (9, .agg [li .u64 8, li .u32 16711935, li .u64 4, li .u32 252645135, li .u64 2, li .u32 858993459, li .u64 1, li .u32 1431655765]), (10, .one (li .i64 0))] [] (by kernel_rfl) ?_
  refine SimI.run 1 [(11, .one (lb true))] [] (by kernel_rfl) ?_
  refine SimI.done (by kernel_rfl) ?_
  refine SimE.thenN ?_
  refine Sim.seq ?_
  refine Sim.condT (by kernel_rfl) ?_
  refine Sim.skip ?_
  refine SimE.thenN ?_
  refine Sim.seq ?_
  refine Sim.block ?_
  refine Sim.seq ?_
  refine Sim.region0 ?_
  refine SimI.run 3 [(4, .one (.ptr 4 0)), (12, .agg [li .u64 8, li .u32 16711935])] [(4, some (.cells [li .u64 8, li .u32 16711935])), (4, some (.cells [li .u64 0, li .u32 0]))] (by kernel_rfl) ?_
  refine SimI.done (by kernel_rfl) ?_
  refine SimE.thenN ?_
  refine Sim.region0 ?_
  refine SimI.run 10 [(0, .one (li .u32 (bitsI .and .u32 (bitsI .or .u32 a0 (shlI .u32 a0 8)) 16711935))), (21, .one (li .u32 (bitsI .and .u32 (bitsI .or .u32 a0 (shlI .u32 a0 8)) 16711935))), (20, .one (li .u32 16711935)), (19, .one (.ptr 4 1)), (18, .one (li .u32 (bitsI .or .u32 a0 (shlI .u32 a0 8)))), (17, .one (li .u32 (shlI .u32 a0 8))), (16, .one (li .u64 8)), (15, .one (.ptr 4 0)), (14, .one (li .u32 a0)), (13, .one (li .u32 a0))] [] (by kernel_rfl) ?_
  refine SimI.done (by kernel_rfl) ?_
  refine SimE.blockN ?_
  refine SimE.thenN ?_
  refine Sim.region0 ?_
  refine SimI.run 2 [(10, .one (li .i64 1)), (22, .one (li .i64 1))] [] (by kernel_rfl) ?_
  refine SimI.done (by kernel_rfl) ?_
  refine SimE.loopN ?_
  refine SimL.succ ?_
  refine Sim.seq ?_
  refine Sim.region [(0, .one (li .u32 (bitsI .and .u32 (bitsI .or .u32 a0 (shlI .u32 a0 8)) 16711935))), (9, .agg [li .u64 8, li .u32 16711935, li .u64 4, li .u32 252645135, li .u64 2, li .u32 858993459, li .u64 1, li .u32 1431655765]), (10, .one (li .i64 1))] [] (by kernel_rfl) ?_
  refine SimI.run 1 [(11, .one (lb true))] [] (by kernel_rfl) ?_
  refine SimI.done (by kernel_rfl) ?_
  refine SimE.thenN ?_
  refine Sim.seq ?_
  refine Sim.condT (by kernel_rfl) ?_
  refine Sim.skip ?_
  refine SimE.thenN ?_
  refine Sim.seq ?_
  refine Sim.block ?_
  refine Sim.seq ?_
  refine Sim.region0 ?_
  refine SimI.run 3 [(4, .one (.ptr 4 0)), (12, .agg [li .u64 4, li .u32 252645135])] [(4, some (.cells [li .u64 4, li .u32 252645135])), (4, some (.cells [li .u64 0, li .u32 0]))] (by kernel_rfl) ?_
  refine SimI.done (by kernel_rfl) ?_
  refine SimE.thenN ?_
  refine Sim.region0 ?_
  refine SimI.run 10 [(0, .one (li .u32 (bitsI .and .u32 (bitsI .or .u32 (bitsI .and .u32 (bitsI .or .u32 a0 (shlI .u32 a0 8)) 16711935) (shlI .u32 (bitsI .and .u32 (bitsI .or .u32 a0 (shlI .u32 a0 8)) 16711935) 4)) 252645135))), (21, .one (li .u32 (bitsI .and .u32 (bitsI .or .u32 (bitsI .and .u32 (bitsI .or .u32 a0 (shlI .u32 a0 8)) 16711935) (shlI .u32 (bitsI .and .u32 (bitsI .or .u32 a0 (shlI .u32 a0 8)) 16711935) 4)) 252645135))), (20, .one (li .u32 252645135)), (19, .one (.ptr 4 1)), (18, .one (li .u32 (bitsI .or .u32 (bitsI .and .u32 (bitsI .or .u32 a0 (shlI .u32 a0 8)) 16711935) (shlI .u32 (bitsI .and .u32 (bitsI .or .u32 a0 (shlI .u32 a0 8)) 16711935) 4)))), (17, .one (li .u32 (shlI .u32 (bitsI .and .u32 (bitsI .or .u32 a0 (shlI .u32 a0 8)) 16711935) 4))), (16, .one (li .u64 4)), (15, .one (.ptr 4 0)), (14, .one (li .u32 (bitsI .and .u32 (bitsI .or .u32 a0 (shlI .u32 a0 8)) 16711935))), (13, .one (li .u32 (bitsI .and .u32 (bitsI .or .u32 a0 (shlI .u32 a0 8)) 16711935)))] [] (by kernel_rfl) ?_
  refine SimI.done (by kernel_rfl) ?_
  refine SimE.blockN ?_
  refine SimE.thenN ?_
  refine Sim.region0 ?_
  refine SimI.run 2 [(10, .one (li .i64 2)), (22, .one (li .i64 2))] [] (by kernel_rfl) ?_
  refine SimI.done (by kernel_rfl) ?_
  refine SimE.loopN ?_
  refine SimL.succ ?_
  refine Sim.seq ?_
  refine Sim.region [(0, .one (li .u32 (bitsI .and .u32 (bitsI .or .u32 (bitsI .and .u32 (bitsI .or .u32 a0 (shlI .u32 a0 8)) 16711935) (shlI .u32 (bitsI .and .u32 (bitsI .or .u32 a0 (shlI .u32 a0 8)) 16711935) 4)) 252645135))), (9, .agg [li .u64 8, li .u32 16711935, li .u64 4, li .u32 252645135, li .u64 2, li .u32 858993459, li .u64 1, li .u32 1431655765]), (10, .one (li .i64 2))] [] (by kernel_rfl) ?_
  refine SimI.run 1 [(11, .one (lb true))] [] (by kernel_rfl) ?_
  refine SimI.done (by kernel_rfl) ?_
  refine SimE.thenN ?_
  refine Sim.seq ?_
  refine Sim.condT (by kernel_rfl) ?_
  refine Sim.skip ?_
  refine SimE.thenN ?_
  refine Sim.seq ?_
  refine Sim.block ?_
  refine Sim.seq ?_
  refine Sim.region0 ?_
  refine SimI.run 3 [(4, .one (.ptr 4 0)), (12, .agg [li .u64 2, li .u32 858993459])] [(4, some (.cells [li .u64 2, li .u32 858993459])), (4, some (.cells [li .u64 0, li .u32 0]))] (by kernel_rfl) ?_
  refine SimI.done (by kernel_rfl) ?_
  refine SimE.thenN ?_
  refine Sim.region0 ?_
  refine SimI.run 10 [(0, .one (li .u32 (bitsI .and .u32 (bitsI .or .u32 (bitsI .and .u32 (bitsI .or .u32 (bitsI .and .u32 (bitsI .or .u32 a0 (shlI .u32 a0 8)) 16711935) (shlI .u32 (bitsI .and .u32 (bitsI .or .u32 a0 (shlI .u32 a0 8)) 16711935) 4)) 252645135) (shlI .u32 (bitsI .and .u32 (bitsI .or .u32 (bitsI .and .u32 (bitsI .or .u32 a0 (shlI .u32 a0 8)) 16711935) (shlI .u32 (bitsI .and .u32 (bitsI .or .u32 a0 (shlI .u32 a0 8)) 16711935) 4)) 252645135) 2)) 858993459))), (21, .one (li .u32 (bitsI .and .u32 (bitsI .or .u32 (bitsI .and .u32 (bitsI .or .u32 (bitsI .and .u32 (bitsI .or .u32 a0 (shlI .u32 a0 8)) 16711935) (shlI .u32 (bitsI .and .u32 (bitsI .or .u32 a0 (shlI .u32 a0 8)) 16711935) 4)) 252645135) (shlI .u32 (bitsI .and .u32 (bitsI .or .u32 (bitsI .and .u32 (bitsI .or .u32 a0 (shlI .u32 a0 8)) 16711935) (shlI .u32 (bitsI .and .u32 (bitsI .or .u32 a0 (shlI .u32 a0 8)) 16711935) 4)) 252645135) 2)) 858993459))), (20, .one (li .u32 858993459)), (19, .one (.ptr 4 1)), (18, .one (li .u32 (bitsI .or .u32 (bitsI .and .u32 (bitsI .or .u32 (bitsI .and .u32 (bitsI .or .u32 a0 (shlI .u32 a0 8)) 16711935) (shlI .u32 (bitsI .and .u32 (bitsI .or .u32 a0 (shlI .u32 a0 8)) 16711935) 4)) 252645135) (shlI .u32 (bitsI .and .u32 (bitsI .or .u32 (bitsI .and .u32 (bitsI .or .u32 a0 (shlI .u32 a0 8)) 16711935) (shlI .u32 (bitsI .and .u32 (bitsI .or .u32 a0 (shlI .u32 a0 8)) 16711935) 4)) 252645135) 2)))), (17, .one (li .u32 (shlI .u32 (bitsI .and .u32 (bitsI .or .u32 (bitsI .and .u32 (bitsI .or .u32 a0 (shlI .u32 a0 8)) 16711935) (shlI .u32 (bitsI .and .u32 (bitsI .or .u32 a0 (shlI .u32 a0 8)) 16711935) 4)) 252645135) 2))), (16, .one (li .u64 2)), (15, .one (.ptr 4 0)), (14, .one (li .u32 (bitsI .and .u32 (bitsI .or .u32 (bitsI .and .u32 (bitsI .or .u32 a0 (shlI .u32 a0 8)) 16711935) (shlI .u32 (bitsI .and .u32 (bitsI .or .u32 a0 (shlI .u32 a0 8)) 16711935) 4)) 252645135))), (13, .one (li .u32 (bitsI .and .u32 (bitsI .or .u32 (bitsI .and .u32 (bitsI .or .u32 a0 (shlI .u32 a0 8)) 16711935) (shlI .u32 (bitsI .and .u32 (bitsI .or .u32 a0 (shlI .u32 a0 8)) 16711935) 4)) 252645135)))] [] (by kernel_rfl) ?_
  refine SimI.done (by kernel_rfl) ?_
  refine SimE.blockN ?_
  refine SimE.thenN ?_
  refine Sim.region0 ?_
  refine SimI.run 2 [(10, .one (li .i64 3)), (22, .one (li .i64 3))] [] (by kernel_rfl) ?_
  refine SimI.done (by kernel_rfl) ?_
  refine SimE.loopN ?_
  refine SimL.succ ?_
  refine Sim.seq ?_
  refine Sim.region [(0, .one (li .u32 (bitsI .and .u32 (bitsI .or .u32 (bitsI .and .u32 (bitsI .or .u32 (bitsI .and .u32 (bitsI .or .u32 a0 (shlI .u32 a0 8)) 16711935) (shlI .u32 (bitsI .and .u32 (bitsI .or .u32 a0 (shlI .u32 a0 8)) 16711935) 4)) 252645135) (shlI .u32 (bitsI .and .u32 (bitsI .or .u32 (bitsI .and .u32 (bitsI .or .u32 a0 (shlI .u32 a0 8)) 16711935) (shlI .u32 (bitsI .and .u32 (bitsI .or .u32 a0 (shlI .u32 a0 8)) 16711935) 4)) 252645135) 2)) 858993459))), (9, .agg [li .u64 8, li .u32 16711935, li .u64 4, li .u32 252645135, li .u64 2, li .u32 858993459, li .u64 1, li .u32 1431655765]), (10, .one (li .i64 3))] [] (by kernel_rfl) ?_
  refine SimI.run 1 [(11, .one (lb true))] [] (by kernel_rfl) ?_
  refine SimI.done (by kernel_rfl) ?_
  refine SimE.thenN ?_
  refine Sim.seq ?_
  refine Sim.condT (by kernel_rfl) ?_
  refine Sim.skip ?_
  refine SimE.thenN ?_
  refine Sim.seq ?_
  refine Sim.block ?_
  refine Sim.seq ?_
  refine Sim.region0 ?_
  refine SimI.run 3 [(4, .one (.ptr 4 0)), (12, .agg [li .u64 1, li .u32 1431655765])] [(4, some (.cells [li .u64 1, li .u32 1431655765])), (4, some (.cells [li .u64 0, li .u32 0]))] (by kernel_rfl) ?_
  refine SimI.done (by kernel_rfl) ?_
  refine SimE.thenN ?_
  refine Sim.region0 ?_
  refine SimI.run 10 [(0, .one (li .u32 (bitsI .and .u32 (bitsI .or .u32 (bitsI .and .u32 (bitsI .or .u32 (bitsI .and .u32 (bitsI .or .u32 (bitsI .and .u32 (bitsI .or .u32 a0 (shlI .u32 a0 8)) 16711935) (shlI .u32 (bitsI .and .u32 (bitsI .or .u32 a0 (shlI .u32 a0 8)) 16711935) 4)) 252645135) (shlI .u32 (bitsI .and .u32 (bitsI .or .u32 (bitsI .and .u32 (bitsI .or .u32 a0 (shlI .u32 a0 8)) 16711935) (shlI .u32 (bitsI .and .u32 (bitsI .or .u32 a0 (shlI .u32 a0 8)) 16711935) 4)) 252645135) 2)) 858993459) (shlI .u32 (bitsI .and .u32 (bitsI .or .u32 (bitsI .and .u32 (bitsI .or .u32 (bitsI .and .u32 (bitsI .or .u32 a0 (shlI .u32 a0 8)) 16711935) (shlI .u32 (bitsI .and .u32 (bitsI .or .u32 a0 (shlI .u32 a0 8)) 16711935) 4)) 252645135) (shlI .u32 (bitsI .and .u32 (bitsI .or .u32 (bitsI .and .u32 (bitsI .or .u32 a0 (shlI .u32 a0 8)) 16711935) (shlI .u32 (bitsI .and .u32 (bitsI .or .u32 a0 (shlI .u32 a0 8)) 16711935) 4)) 252645135) 2)) 858993459) 1)) 1431655765))), (21, .one (li .u32 (bitsI .and .u32 (bitsI .or .u32 (bitsI .and .u32 (bitsI .or .u32 (bitsI .and .u32 (bitsI .or .u32 (bitsI .and .u32 (bitsI .or .u32 a0 (shlI .u32 a0 8)) 16711935) (shlI .u32 (bitsI .and .u32 (bitsI .or .u32 a0 (shlI .u32 a0 8)) 16711935) 4)) 252645135) (shlI .u32 (bitsI .and .u32 (bitsI .or .u32 (bitsI .and .u32 (bitsI .or .u32 a0 (shlI .u32 a0 8)) 16711935) (shlI .u32 (bitsI .and .u32 (bitsI .or .u32 a0 (shlI .u32 a0 8)) 16711935) 4)) 252645135) 2)) 858993459) (shlI .u32 (bitsI .and .u32 (bitsI .or .u32 (bitsI .and .u32 (bitsI .or .u32 (bitsI .and .u32 (bitsI .or .u32 a0 (shlI .u32 a0 8)) 16711935) (shlI .u32 (bitsI .and .u32 (bitsI .or .u32 a0 (shlI .u32 a0 8)) 16711935) 4)) 252645135) (shlI .u32 (bitsI .and .u32 (bitsI .or .u32 (bitsI .and .u32 (bitsI .or .u32 a0 (shlI .u32 a0 8)) 16711935) (shlI .u32 (bitsI .and .u32 (bitsI .or .u32 a0 (shlI .u32 a0 8)) 16711935) 4)) 252645135) 2)) 858993459) 1)) 1431655765))), (20, .one (li .u32 1431655765)), (19, .one (.ptr 4 1)), (18, .one (li .u32 (bitsI .or .u32 (bitsI .and .u32 (bitsI .or .u32 (bitsI .and .u32 (bitsI .or .u32 (bitsI .and .u32 (bitsI .or .u32 a0 (shlI .u32 a0 8)) 16711935) (shlI .u32 (bitsI .and .u32 (bitsI .or .u32 a0 (shlI .u32 a0 8)) 16711935) 4)) 252645135) (shlI .u32 (bitsI .and .u32 (bitsI .or .u32 (bitsI .and .u32 (bitsI .or .u32 a0 (shlI .u32 a0 8)) 16711935) (shlI .u32 (bitsI .and .u32 (bitsI .or .u32 a0 (shlI .u32 a0 8)) 16711935) 4)) 252645135) 2)) 858993459) (shlI .u32 (bitsI .and .u32 (bitsI .or .u32 (bitsI .and .u32 (bitsI .or .u32 (bitsI .and .u32 (bitsI .or .u32 a0 (shlI .u32 a0 8)) 16711935) (shlI .u32 (bitsI .and .u32 (bitsI .or .u32 a0 (shlI .u32 a0 8)) 16711935) 4)) 252645135) (shlI .u32 (bitsI .and .u32 (bitsI .or .u32 (bitsI .and .u32 (bitsI .or .u32 a0 (shlI .u32 a0 8)) 16711935) (shlI .u32 (bitsI .and .u32 (bitsI .or .u32 a0 (shlI .u32 a0 8)) 16711935) 4)) 252645135) 2)) 858993459) 1)))), (17, .one (li .u32 (shlI .u32 (bitsI .and .u32 (bitsI .or .u32 (bitsI .and .u32 (bitsI .or .u32 (bitsI .and .u32 (bitsI .or .u32 a0 (shlI .u32 a0 8)) 16711935) (shlI .u32 (bitsI .and .u32 (bitsI .or .u32 a0 (shlI .u32 a0 8)) 16711935) 4)) 252645135) (shlI .u32 (bitsI .and .u32 (bitsI .or .u32 (bitsI .and .u32 (bitsI .or .u32 a0 (shlI .u32 a0 8)) 16711935) (shlI .u32 (bitsI .and .u32 (bitsI .or .u32 a0 (shlI .u32 a0 8)) 16711935) 4)) 252645135) 2)) 858993459) 1))), (16, .one (li .u64 1)), (15, .one (.ptr 4 0)), (14, .one (li .u32 (bitsI .and .u32 (bitsI .or .u32 (bitsI .and .u32 (bitsI .or .u32 (bitsI .and .u32 (bitsI .or .u32 a0 (shlI .u32 a0 8)) 16711935) (shlI .u32 (bitsI .and .u32 (bitsI .or .u32 a0 (shlI .u32 a0 8)) 16711935) 4)) 252645135) (shlI .u32 (bitsI .and .u32 (bitsI .or .u32 (bitsI .and .u32 (bitsI .or .u32 a0 (shlI .u32 a0 8)) 16711935) (shlI .u32 (bitsI .and .u32 (bitsI .or .u32 a0 (shlI .u32 a0 8)) 16711935) 4)) 252645135) 2)) 858993459))), (13, .one (li .u32 (bitsI .and .u32 (bitsI .or .u32 (bitsI .and .u32 (bitsI .or .u32 (bitsI .and .u32 (bitsI .or .u32 a0 (shlI .u32 a0 8)) 16711935) (shlI .u32 (bitsI .and .u32 (bitsI .or .u32 a0 (shlI .u32 a0 8)) 16711935) 4)) 252645135) (shlI .u32 (bitsI .and .u32 (bitsI .or .u32 (bitsI .and .u32 (bitsI .or .u32 a0 (shlI .u32 a0 8)) 16711935) (shlI .u32 (bitsI .and .u32 (bitsI .or .u32 a0 (shlI .u32 a0 8)) 16711935) 4)) 252645135) 2)) 858993459)))] [] (by kernel_rfl) ?_
  refine SimI.done (by kernel_rfl) ?_
  refine SimE.blockN ?_
  refine SimE.thenN ?_
  refine Sim.region0 ?_
  refine SimI.run 2 [(10, .one (li .i64 4)), (22, .one (li .i64 4))] [] (by kernel_rfl) ?_
  refine SimI.done (by kernel_rfl) ?_
  refine SimE.loopN ?_
  refine SimL.succ ?_
  refine Sim.seq ?_
  refine Sim.region [(0, .one (li .u32 (bitsI .and .u32 (bitsI .or .u32 (bitsI .and .u32 (bitsI .or .u32 (bitsI .and .u32 (bitsI .or .u32 (bitsI .and .u32 (bitsI .or .u32 a0 (shlI .u32 a0 8)) 16711935) (shlI .u32 (bitsI .and .u32 (bitsI .or .u32 a0 (shlI .u32 a0 8)) 16711935) 4)) 252645135) (shlI .u32 (bitsI .and .u32 (bitsI .or .u32 (bitsI .and .u32 (bitsI .or .u32 a0 (shlI .u32 a0 8)) 16711935) (shlI .u32 (bitsI .and .u32 (bitsI .or .u32 a0 (shlI .u32 a0 8)) 16711935) 4)) 252645135) 2)) 858993459) (shlI .u32 (bitsI .and .u32 (bitsI .or .u32 (bitsI .and .u32 (bitsI .or .u32 (bitsI .and .u32 (bitsI .or .u32 a0 (shlI .u32 a0 8)) 16711935) (shlI .u32 (bitsI .and .u32 (bitsI .or .u32 a0 (shlI .u32 a0 8)) 16711935) 4)) 252645135) (shlI .u32 (bitsI .and .u32 (bitsI .or .u32 (bitsI .and .u32 (bitsI .or .u32 a0 (shlI .u32 a0 8)) 16711935) (shlI .u32 (bitsI .and .u32 (bitsI .or .u32 a0 (shlI .u32 a0 8)) 16711935) 4)) 252645135) 2)) 858993459) 1)) 1431655765))), (9, .agg [li .u64 8, li .u32 16711935, li .u64 4, li .u32 252645135, li .u64 2, li .u32 858993459, li .u64 1, li .u32 1431655765]), (10, .one (li .i64 4))] [] (by kernel_rfl) ?_
  refine SimI.run 1 [(11, .one (lb false))] [] (by kernel_rfl) ?_
  refine SimI.done (by kernel_rfl) ?_
  refine SimE.thenN ?_
  refine Sim.seq ?_
  refine Sim.condF (by kernel_rfl) ?_
  refine Sim.exit ?_
  refine SimE.thenX ?_
  refine SimE.loopX ?_
  refine SimE.blockX ?_
  refine SimE.thenN ?_
  refine Sim.seq ?_
  refine Sim.region0 ?_
  refine SimI.run 2 [(2, .one (li .u32 (bitsI .and .u32 (bitsI .or .u32 (bitsI .and .u32 (bitsI .or .u32 (bitsI .and .u32 (bitsI .or .u32 (bitsI .and .u32 (bitsI .or .u32 a0 (shlI .u32 a0 8)) 16711935) (shlI .u32 (bitsI .and .u32 (bitsI .or .u32 a0 (shlI .u32 a0 8)) 16711935) 4)) 252645135) (shlI .u32 (bitsI .and .u32 (bitsI .or .u32 (bitsI .and .u32 (bitsI .or .u32 a0 (shlI .u32 a0 8)) 16711935) (shlI .u32 (bitsI .and .u32 (bitsI .or .u32 a0 (shlI .u32 a0 8)) 16711935) 4)) 252645135) 2)) 858993459) (shlI .u32 (bitsI .and .u32 (bitsI .or .u32 (bitsI .and .u32 (bitsI .or .u32 (bitsI .and .u32 (bitsI .or .u32 a0 (shlI .u32 a0 8)) 16711935) (shlI .u32 (bitsI .and .u32 (bitsI .or .u32 a0 (shlI .u32 a0 8)) 16711935) 4)) 252645135) (shlI .u32 (bitsI .and .u32 (bitsI .or .u32 (bitsI .and .u32 (bitsI .or .u32 a0 (shlI .u32 a0 8)) 16711935) (shlI .u32 (bitsI .and .u32 (bitsI .or .u32 a0 (shlI .u32 a0 8)) 16711935) 4)) 252645135) 2)) 858993459) 1)) 1431655765))), (23, .one (li .u32 (bitsI .and .u32 (bitsI .or .u32 (bitsI .and .u32 (bitsI .or .u32 (bitsI .and .u32 (bitsI .or .u32 (bitsI .and .u32 (bitsI .or .u32 a0 (shlI .u32 a0 8)) 16711935) (shlI .u32 (bitsI .and .u32 (bitsI .or .u32 a0 (shlI .u32 a0 8)) 16711935) 4)) 252645135) (shlI .u32 (bitsI .and .u32 (bitsI .or .u32 (bitsI .and .u32 (bitsI .or .u32 a0 (shlI .u32 a0 8)) 16711935) (shlI .u32 (bitsI .and .u32 (bitsI .or .u32 a0 (shlI .u32 a0 8)) 16711935) 4)) 252645135) 2)) 858993459) (shlI .u32 (bitsI .and .u32 (bitsI .or .u32 (bitsI .and .u32 (bitsI .or .u32 (bitsI .and .u32 (bitsI .or .u32 a0 (shlI .u32 a0 8)) 16711935) (shlI .u32 (bitsI .and .u32 (bitsI .or .u32 a0 (shlI .u32 a0 8)) 16711935) 4)) 252645135) (shlI .u32 (bitsI .and .u32 (bitsI .or .u32 (bitsI .and .u32 (bitsI .or .u32 a0 (shlI .u32 a0 8)) 16711935) (shlI .u32 (bitsI .and .u32 (bitsI .or .u32 a0 (shlI .u32 a0 8)) 16711935) 4)) 252645135) 2)) 858993459) 1)) 1431655765)))] [] (by kernel_rfl) ?_
  refine SimI.done (by kernel_rfl) ?_
  refine SimE.thenN ?_
  refine Sim.ret ?_
  exact SimE.fin (by kernel_rfl)


-- 71: vedette/morton.Weave
def F71_e : Int → PV × List (List Lf) := fun r => (.one (li .u32 r), [])
def F71 (n : Nat) (a0 : Int) (a1 : Int) : Option Int :=
  (F81 n (IntKind.wrap .u32 a0)).bind fun (r1 : Int) =>
  (F81 n (IntKind.wrap .u32 a1)).bind fun (r2 : Int) =>
  some (bitsI .or .u32 r1 (shlI .u32 r2 1))
theorem F71_ok (n : Nat) (a0 : Int) (a1 : Int) : ∀ r, F71 n a0 a1 = some r → D 71 [.one (li .u16 a0), .one (li .u16 a1)] [] = some (F71_e r) := by
  refine fn_to (D := D) (n := n + 8) (nt := 13) (rs := pc71_r) (c := pc71_c5) (L := [(0, .one (li .u16 a0)), (1, .one (li .u16 a1))]) (M := []) (k := 0) rfl rfl rfl rfl rfl rfl ?_
  unfold F71
  refine Sim.seq ?_
  refine Sim.region0 ?_
  refine SimI.run 1 [(4, .one (li .u32 0))] [] (by kernel_rfl) ?_
  refine SimI.done (by kernel_rfl) ?_
  refine SimE.thenN ?_
  refine Sim.seq ?_
  refine Sim.region0 ?_
  refine SimI.run 2 [(6, .one (li .u32 (IntKind.wrap .u32 a0))), (5, .one (li .u16 a0))] [] (by kernel_rfl) ?_
  refine SimI.bind (og := F81 n (IntKind.wrap .u32 a0)) { dst := some 7, op := POp.call true [[]] 81 [Operand.tmp 6], guard := none, hints := [] } (fun r1 => [(7, .one (li .u32 r1))]) (fun r1 => []) (by kernel_rfl) (fun r1 hr => pOp_eff (by kernel_rfl) (by kernel_rfl) (eff_call (ARGS := [.one (li .u32 (IntKind.wrap .u32 a0))]) (by kernel_rfl) (args_clean (by kernel_rfl) args_nil) (F81_ok n (IntKind.wrap .u32 a0) r1 hr) (by kernel_rfl))) (fun r1 => ?_)
  refine SimI.run 2 [(9, .one (li .u32 (IntKind.wrap .u32 a1))), (8, .one (li .u16 a1))] [] (by kernel_rfl) ?_
  refine SimI.bind (og := F81 n (IntKind.wrap .u32 a1)) { dst := some 10, op := POp.call true [[]] 81 [Operand.tmp 9], guard := none, hints := [] } (fun r2 => [(10, .one (li .u32 r2))]) (fun r2 => []) (by kernel_rfl) (fun r2 hr => pOp_eff (by kernel_rfl) (by kernel_rfl) (eff_call (ARGS := [.one (li .u32 (IntKind.wrap .u32 a1))]) (by kernel_rfl) (args_clean (by kernel_rfl) args_nil) (F81_ok n (IntKind.wrap .u32 a1) r2 hr) (by kernel_rfl))) (fun r2 => ?_)
  refine SimI.run 3 [(4, .one (li .u32 (bitsI .or .u32 r1 (shlI .u32 r2 1)))), (12, .one (li .u32 (bitsI .or .u32 r1 (shlI .u32 r2 1)))), (11, .one (li .u32 (shlI .u32 r2 1)))] [] (by kernel_rfl) ?_
  refine SimI.done (by kernel_rfl) ?_
  refine SimE.thenN ?_
  refine Sim.ret ?_
  exact SimE.fin (by kernel_rfl)


-- 53: vedette/cells.at
def F53_e : Int → PV × List (List Lf) := fun r => (.one (li .i64 r), [])
def F53 (n : Nat) (a0 : Int) (a1 : Int) : Option Int :=
  (F71 n (IntKind.wrap .u16 a0) (IntKind.wrap .u16 a1)).bind fun (r1 : Int) =>
  some (IntKind.wrap .i64 r1)
theorem F53_ok (n : Nat) (a0 : Int) (a1 : Int) : ∀ r, F53 n a0 a1 = some r → D 53 [.one (li .i64 a0), .one (li .i64 a1)] [] = some (F53_e r) := by
  refine fn_to (D := D) (n := n + 8) (nt := 11) (rs := pc53_r) (c := pc53_c5) (L := [(0, .one (li .i64 a0)), (1, .one (li .i64 a1))]) (M := []) (k := 0) rfl rfl rfl rfl rfl rfl ?_
  unfold F53
  refine Sim.seq ?_
  refine Sim.region0 ?_
  refine SimI.run 1 [(4, .one (li .i64 0))] [] (by kernel_rfl) ?_
  refine SimI.done (by kernel_rfl) ?_
  refine SimE.thenN ?_
  refine Sim.seq ?_
  refine Sim.region0 ?_
  refine SimI.run 4 [(8, .one (li .u16 (IntKind.wrap .u16 a1))), (7, .one (li .i64 a1)), (6, .one (li .u16 (IntKind.wrap .u16 a0))), (5, .one (li .i64 a0))] [] (by kernel_rfl) ?_
  refine SimI.bind (og := F71 n (IntKind.wrap .u16 a0) (IntKind.wrap .u16 a1)) { dst := some 9, op := POp.call true [[], []] 71 [Operand.tmp 6, Operand.tmp 8], guard := none, hints := [] } (fun r1 => [(9, .one (li .u32 r1))]) (fun r1 => []) (by kernel_rfl) (fun r1 hr => pOp_eff (by kernel_rfl) (by kernel_rfl) (eff_call (ARGS := [.one (li .u16 (IntKind.wrap .u16 a0)), .one (li .u16 (IntKind.wrap .u16 a1))]) (by kernel_rfl) (args_clean (by kernel_rfl) (args_clean (by kernel_rfl) args_nil)) (F71_ok n (IntKind.wrap .u16 a0) (IntKind.wrap .u16 a1) r1 hr) (by kernel_rfl))) (fun r1 => ?_)
  refine SimI.run 2 [(4, .one (li .i64 (IntKind.wrap .i64 r1))), (10, .one (li .i64 (IntKind.wrap .i64 r1)))] [] (by kernel_rfl) ?_
  refine SimI.done (by kernel_rfl) ?_
  refine SimE.thenN ?_
  refine Sim.ret ?_
  exact SimE.fin (by kernel_rfl)


-- 25: vedette/cells.Of
def F25_e : (Int × Int) → PV × List (List Lf) := fun r => (.tup [.one (li .i64 r.1), .one (li .i64 r.2)], [])
def F25 (n : Nat) (a0 : Point) : Option (Int × Int) :=
  (F52 n a0).bind fun (r1 : Bool) =>
  if !(r1) then
    some (0, 14)
  else
    (F53 n (IntKind.wrap .i64 (Int.tdiv a0.X 16)) (IntKind.wrap .i64 (Int.tdiv a0.Y 16))).bind fun (r2 : Int) =>
    some (r2, 0)
theorem F25_ok (n : Nat) (a0 : Point) : ∀ r, F25 n a0 = some r → D 25 [.agg [li .i64 a0.X, li .i64 a0.Y]] [] = some (F25_e r) := by
  refine fn_to (D := D) (n := n + 8) (nt := 14) (rs := pc25_r) (c := pc25_c13) (L := [(0, .agg [li .i64 a0.X, li .i64 a0.Y])]) (M := []) (k := 0) rfl rfl rfl rfl rfl rfl ?_
  unfold F25
  refine Sim.seq ?_
  refine Sim.region0 ?_
  refine SimI.run 3 [(3, .one (li .i64 0)), (2, .one (li .i64 0)), (1, .one (.ptr 1 0))] [(1, some (.cells [li .i64 a0.X, li .i64 a0.Y]))] (by kernel_rfl) ?_
  refine SimI.done (by kernel_rfl) ?_
  refine SimE.thenN ?_
  refine Sim.seq ?_
  refine Sim.seq ?_
  refine Sim.region0 ?_
  refine SimI.run 1 [(4, .agg [li .i64 a0.X, li .i64 a0.Y])] [] (by kernel_rfl) ?_
  refine SimI.bind (og := F52 n a0) { dst := some 5, op := POp.call true [[]] 52 [Operand.tmp 4], guard := none, hints := [] } (fun r1 => [(5, .one (lb r1))]) (fun r1 => []) (by kernel_rfl) (fun r1 hr => pOp_eff (by kernel_rfl) (by kernel_rfl) (eff_call (ARGS := [.agg [li .i64 a0.X, li .i64 a0.Y]]) (by kernel_rfl) (args_clean (by kernel_rfl) args_nil) (F52_ok n a0 r1 hr) (by kernel_rfl))) (fun r1 => ?_)
  refine SimI.run 1 [(6, .one (lb (!(r1))))] [] (by kernel_rfl) ?_
  refine SimI.done (by kernel_rfl) ?_
  refine SimE.thenN ?_
  refine Sim.cond (!(r1)) (by kernel_rfl) ?_ ?_
  · refine Sim.seq ?_
    refine Sim.region0 ?_
    refine SimI.run 2 [(3, .one (li .i64 14)), (2, .one (li .i64 0))] [] (by kernel_rfl) ?_
    refine SimI.done (by kernel_rfl) ?_
    refine SimE.thenN ?_
    refine Sim.ret ?_
    refine SimE.thenR ?_
    exact SimE.fin (by kernel_rfl)
  · refine Sim.skip ?_
    refine SimE.thenN ?_
    refine Sim.seq ?_
    refine Sim.region0 ?_
    refine SimI.run 6 [(12, .one (li .i64 (IntKind.wrap .i64 (Int.tdiv a0.Y 16)))), (11, .one (li .i64 a0.Y)), (10, .one (.ptr 1 1)), (9, .one (li .i64 (IntKind.wrap .i64 (Int.tdiv a0.X 16)))), (8, .one (li .i64 a0.X)), (7, .one (.ptr 1 0))] [] (by kernel_rfl) ?_
    refine SimI.bind (og := F53 n (IntKind.wrap .i64 (Int.tdiv a0.X 16)) (IntKind.wrap .i64 (Int.tdiv a0.Y 16))) { dst := some 13, op := POp.call true [[], []] 53 [Operand.tmp 9, Operand.tmp 12], guard := none, hints := [] } (fun r2 => [(13, .one (li .i64 r2))]) (fun r2 => []) (by kernel_rfl) (fun r2 hr => pOp_eff (by kernel_rfl) (by kernel_rfl) (eff_call (ARGS := [.one (li .i64 (IntKind.wrap .i64 (Int.tdiv a0.X 16))), .one (li .i64 (IntKind.wrap .i64 (Int.tdiv a0.Y 16)))]) (by kernel_rfl) (args_clean (by kernel_rfl) (args_clean (by kernel_rfl) args_nil)) (F53_ok n (IntKind.wrap .i64 (Int.tdiv a0.X 16)) (IntKind.wrap .i64 (Int.tdiv a0.Y 16)) r2 hr) (by kernel_rfl))) (fun r2 => ?_)
    refine SimI.run 2 [(3, .one (li .i64 0)), (2, .one (li .i64 r2))] [] (by kernel_rfl) ?_
    refine SimI.done (by kernel_rfl) ?_
    refine SimE.thenN ?_
    refine Sim.ret ?_
    exact SimE.fin (by kernel_rfl)


-- 31: vedette/cells.Is
def F31_e : Bool → PV × List (List Lf) := fun r => (.one (lb r), [])
def F31 (n : Nat) (a0 : Int) : Option Bool :=
  if decide ((0 : Int) ≤ a0) then
    some (decide (a0 < 16))
  else
    some false
theorem F31_ok (n : Nat) (a0 : Int) : ∀ r, F31 n a0 = some r → D 31 [.one (li .i64 a0)] [] = some (F31_e r) := by
  refine fn_to (D := D) (n := n + 8) (nt := 9) (rs := pc31_r) (c := pc31_c5) (L := [(0, .one (li .i64 a0))]) (M := []) (k := 0) rfl rfl rfl rfl rfl rfl ?_
  unfold F31
  refine Sim.seq ?_
  refine Sim.region0 ?_
  refine SimI.run 1 [(2, .one (lb false))] [] (by kernel_rfl) ?_
  refine SimI.done (by kernel_rfl) ?_
  refine SimE.thenN ?_
  refine Sim.seq ?_
  refine Sim.region0 ?_
  refine SimI.run 3 [(5, .one (lb (decide ((0 : Int) ≤ a0)))), (4, .one (lb (decide ((0 : Int) ≤ a0)))), (3, .one (li .i64 a0))] [] (by kernel_rfl) ?_
  refine SimI.split 5 (decide ((0 : Int) ≤ a0)) (by kernel_rfl) ?_ ?_
  · refine SimI.run 4 [(2, .one (lb (decide (a0 < 16)))), (8, .one (lb (decide (a0 < 16)))), (7, .one (lb (decide (a0 < 16)))), (6, .one (li .i64 a0))] [] (by kernel_rfl) ?_
    refine SimI.done (by kernel_rfl) ?_
    refine SimE.thenN ?_
    refine Sim.ret ?_
    exact SimE.fin (by kernel_rfl)
  · refine SimI.run 4 [(2, .one (lb false)), (8, .one (lb false)), (7, .tup []), (6, .tup [])] [] (by kernel_rfl) ?_
    refine SimI.done (by kernel_rfl) ?_
    refine SimE.thenN ?_
    refine Sim.ret ?_
    exact SimE.fin (by kernel_rfl)


-- 82: vedette/morton.gather
def F82_e : Int → PV × List (List Lf) := fun r => (.one (li .u32 r), [])
def F82 (n : Nat) (a0 : Int) : Option Int :=
  some (bitsI .and .u32 (bitsI .or .u32 (bitsI .and .u32 (bitsI .or .u32 (bitsI .and .u32 (bitsI .or .u32 (bitsI .and .u32 (bitsI .or .u32 (bitsI .and .u32 a0 1431655765) (shrI .u32 (bitsI .and .u32 a0 1431655765) 1)) 858993459) (shrI .u32 (bitsI .and .u32 (bitsI .or .u32 (bitsI .and .u32 a0 1431655765) (shrI .u32 (bitsI .and .u32 a0 1431655765) 1)) 858993459) 2)) 252645135) (shrI .u32 (bitsI .and .u32 (bitsI .or .u32 (bitsI .and .u32 (bitsI .or .u32 (bitsI .and .u32 a0 1431655765) (shrI .u32 (bitsI .and .u32 a0 1431655765) 1)) 858993459) (shrI .u32 (bitsI .and .u32 (bitsI .or .u32 (bitsI .and .u32 a0 1431655765) (shrI .u32 (bitsI .and .u32 a0 1431655765) 1)) 858993459) 2)) 252645135) 4)) 16711935) (shrI .u32 (bitsI .and .u32 (bitsI .or .u32 (bitsI .and .u32 (bitsI .or .u32 (bitsI .and .u32 (bitsI .or .u32 (bitsI .and .u32 a0 1431655765) (shrI .u32 (bitsI .and .u32 a0 1431655765) 1)) 858993459) (shrI .u32 (bitsI .and .u32 (bitsI .or .u32 (bitsI .and .u32 a0 1431655765) (shrI .u32 (bitsI .and .u32 a0 1431655765) 1)) 858993459) 2)) 252645135) (shrI .u32 (bitsI .and .u32 (bitsI .or .u32 (bitsI .and .u32 (bitsI .or .u32 (bitsI .and .u32 a0 1431655765) (shrI .u32 (bitsI .and .u32 a0 1431655765) 1)) 858993459) (shrI .u32 (bitsI .and .u32 (bitsI .or .u32 (bitsI .and .u32 a0 1431655765) (shrI .u32 (bitsI .and .u32 a0 1431655765) 1)) 858993459) 2)) 252645135) 4)) 16711935) 8)) 65535)
theorem F82_ok (n : Nat) (a0 : Int) : ∀ r, F82 n a0 = some r → D 82 [.one (li .u32 a0)] [] = some (F82_e r) := by
  refine fn_to (D := D) (n := n + 8) (nt := 26) (rs := pc82_r) (c := pc82_c24) (L := [(0, .one (li .u32 a0))]) (M := []) (k := 0) rfl rfl rfl rfl rfl rfl ?_
  unfold F82
  refine Sim.seq ?_
  refine Sim.region0 ?_
  refine SimI.run 1 [(2, .one (li .u32 0))] [] (by kernel_rfl) ?_
  refine SimI.done (by kernel_rfl) ?_
  refine SimE.thenN ?_
  refine Sim.seq ?_
  refine Sim.region0 ?_
  refine SimI.run 3 [(0, .one (li .u32 (bitsI .and .u32 a0 1431655765))), (6, .one (li .u32 (bitsI .and .u32 a0 1431655765))), (5, .one (li .u32 a0))] [] (by kernel_rfl) ?_
  refine SimI.done (by kernel_rfl) ?_
  refine SimE.thenN ?_
  refine Sim.seq ?_
  refine Sim.seq ?_
  refine Sim.region0 ?_
  refine SimI.run 6 [(12, .one (li .i64 0)), (11, .agg [li .u64 1, li .u32 858993459, li .u64 2, li .u32 252645135, li .u64 4, li .u32 16711935, li .u64 8, li .u32 65535]), (10, .agg [li .u64 8, li .u32 65535]), (9, .agg [li .u64 4, li .u32 16711935]), (8, .agg [li .u64 2, li .u32 252645135]), (7, .agg [li .u64 1, li .u32 858993459])] [] (by kernel_rfl) ?_
  refine SimI.done (by kernel_rfl) ?_
  refine SimE.thenN ?_
  refine Sim.block ?_
  refine Sim.loop ?_
  refine SimL.succ ?_
  refine Sim.seq ?_
  refine Sim.region [(0, .one (li .u32 (bitsI .and .u32 a0 1431655765))), (11, .agg [li .u64 1, li .u32 858993459, li .u64 2, li .u32 252645135, li .u64 4, li .u32 16711935, li .u64 8, li .u32 65535]), (12, .one (li .i64 0))] [] (by kernel_rfl) ?_
  refine SimI.run 1 [(13, .one (lb true))] [] (by kernel_rfl) ?_
  refine SimI.done (by kernel_rfl) ?_
  refine SimE.thenN ?_
  refine Sim.seq ?_
  refine Sim.condT (by kernel_rfl) ?_
  refine Sim.skip ?_
  refine SimE.thenN ?_
  refine Sim.seq ?_
  refine Sim.block ?_
  refine Sim.seq ?_
  refine Sim.region0 ?_
  refine SimI.run 3 [(4, .one (.ptr 4 0)), (14, .agg [li .u64 1, li .u32 858993459])] [(4, some (.cells [li .u64 1, li .u32 858993459])), (4, some (.cells [li .u64 0, li .u32 0]))] (by kernel_rfl) ?_
  refine SimI.done (by kernel_rfl) ?_
  refine SimE.thenN ?_
  refine Sim.region0 ?_
  refine SimI.run 10 [(0, .one (li .u32 (bitsI .and .u32 (bitsI .or .u32 (bitsI .and .u32 a0 1431655765) (shrI .u32 (bitsI .and .u32 a0 1431655765) 1)) 858993459))), (23, .one (li .u32 (bitsI .and .u32 (bitsI .or .u32 (bitsI .and .u32 a0 1431655765) (shrI .u32 (bitsI .and .u32 a0 1431655765) 1)) 858993459))), (22, .one (li .u32 858993459)), (21, .one (.ptr 4 1)), (20, .one (li .u32 (bitsI .or .u32 (bitsI .and .u32 a0 1431655765) (shrI .u32 (bitsI .and .u32 a0 1431655765) 1)))), (19, .one (li .u32 (shrI .u32 (bitsI .and .u32 a0 1431655765) 1))), (18, .one (li .u64 1)), (17, .one (.ptr 4 0)), (16, .one (li .u32 (bitsI .and .u32 a0 1431655765))), (15, .one (li .u32 (bitsI .and .u32 a0 1431655765)))] [] (by kernel_rfl) ?_
  refine SimI.done (by kernel_rfl) ?_
  refine SimE.blockN ?_
  refine SimE.thenN ?_
  refine Sim.region0 ?_
  refine SimI.run 2 [(12, .one (li .i64 1)), (24, .one (li .i64 1))] [] (by kernel_rfl) ?_
  refine SimI.done (by kernel_rfl) ?_
  refine SimE.loopN ?_
  refine SimL.succ ?_
  refine Sim.seq ?_
  refine Sim.region [(0, .one (li .u32 (bitsI .and .u32 (bitsI .or .u32 (bitsI .and .u32 a0 1431655765) (shrI .u32 (bitsI .and .u32 a0 1431655765) 1)) 858993459))), (11, .agg [li .u64 1, li .u32 858993459, li .u64 2, li .u32 252645135, li .u64 4, li .u32 16711935, li .u64 8, li .u32 65535]), (12, .one (li .i64 1))] [] (by kernel_rfl) ?_
  refine SimI.run 1 [(13, .one (lb true))] [] (by kernel_rfl) ?_
  refine SimI.done (by kernel_rfl) ?_
  refine SimE.thenN ?_
  refine Sim.seq ?_
  refine Sim.condT (by kernel_rfl) ?_
  refine Sim.skip ?_
  refine SimE.thenN ?_
  refine Sim.seq ?_
  refine Sim.block ?_
  refine Sim.seq ?_
  refine Sim.region0 ?_
  refine SimI.run 3 [(4, .one (.ptr 4 0)), (14, .agg [li .u64 2, li .u32 252645135])] [(4, some (.cells [li .u64 2, li .u32 252645135])), (4, some (.cells [li .u64 0, li .u32 0]))] (by kernel_rfl) ?_
  refine SimI.done (by kernel_rfl) ?_
  refine SimE.thenN ?_
  refine Sim.region0 ?_
  refine SimI.run 10 [(0, .one (li .u32 (bitsI .and .u32 (bitsI .or .u32 (bitsI .and .u32 (bitsI .or .u32 (bitsI .and .u32 a0 1431655765) (shrI .u32 (bitsI .and .u32 a0 1431655765) 1)) 858993459) (shrI .u32 (bitsI .and .u32 (bitsI .or .u32 (bitsI .and .u32 a0 1431655765) (shrI .u32 (bitsI .and .u32 a0 1431655765) 1)) 858993459) 2)) 252645135))), (23, .one (li .u32 (bitsI .and .u32 (bitsI .or .u32 (bitsI .and .u32 (bitsI .or .u32 (bitsI .and .u32 a0 1431655765) (shrI .u32 (bitsI .and .u32 a0 1431655765) 1)) 858993459) (shrI .u32 (bitsI .and .u32 (bitsI .or .u32 (bitsI .and .u32 a0 1431655765) (shrI .u32 (bitsI .and .u32 a0 1431655765) 1)) 858993459) 2)) 252645135))), (22, .one (li .u32 252645135)), (21, .one (.ptr 4 1)), (20, .one (li .u32 (bitsI .or .u32 (bitsI .and .u32 (bitsI .or .u32 (bitsI .and .u32 a0 1431655765) (shrI .u32 (bitsI .and .u32 a0 1431655765) 1)) 858993459) (shrI .u32 (bitsI .and .u32 (bitsI .or .u32 (bitsI .and .u32 a0 1431655765) (shrI .u32 (bitsI .and .u32 a0 1431655765) 1)) 858993459) 2)))), (19, .one (li .u32 (shrI .u32 (bitsI .and .u32 (bitsI .or .u32 (bitsI .and .u32 a0 1431655765) (shrI .u32 (bitsI .and .u32 a0 1431655765) 1)) 858993459) 2))), (18, .one (li .u64 2)), (17, .one (.ptr 4 0)), (16, .one (li .u32 (bitsI .and .u32 (bitsI .or .u32 (bitsI .and .u32 a0 1431655765) (shrI .u32 (bitsI .and .u32 a0 1431655765) 1)) 858993459))), (15, .one (li .u32 (bitsI .and .u32 (bitsI .or .u32 (bitsI .and .u32 a0 1431655765) (shrI .u32 (bitsI .and .u32 a0 1431655765) 1)) 858993459)))] [] (by kernel_rfl) ?_
  refine SimI.done (by kernel_rfl) ?_
  refine SimE.blockN ?_
  refine SimE.thenN ?_
  refine Sim.region0 ?_
  refine SimI.run 2 [(12, .one (li .i64 2)), (24, .one (li .i64 2))] [] (by kernel_rfl) ?_
  refine SimI.done (by kernel_rfl) ?_
  refine SimE.loopN ?_
  refine SimL.succ ?_
  refine Sim.seq ?_
  refine Sim.region [(0, .one (li .u32 (bitsI .and .u32 (bitsI .or .u32 (bitsI .and .u32 (bitsI .or .u32 (bitsI .and .u32 a0 1431655765) (shrI .u32 (bitsI .and .u32 a0 1431655765) 1)) 858993459) (shrI .u32 (bitsI .and .u32 (bitsI .or .u32 (bitsI .and .u32 a0 1431655765) (shrI .u32 (bitsI .and .u32 a0 1431655765) 1)) 858993459) 2)) 252645135))), (11, .agg [li .u64 1, li .u32 858993459, li .u64 2, li .u32 252645135, li .u64 4, li .u32 16711935, li .u64 8, li .u32 65535]), (12, .one (li .i64 2))] [] (by kernel_rfl) ?_
  refine SimI.run 1 [(13, .one (lb true))] [] (by kernel_rfl) ?_
  refine SimI.done (by kernel_rfl) ?_
  refine SimE.thenN ?_
  refine Sim.seq ?_
  refine Sim.condT (by kernel_rfl) ?_
  refine Sim.skip ?_
  refine SimE.thenN ?_
  refine Sim.seq ?_
  refine Sim.block ?_
  refine Sim.seq ?_
  refine Sim.region0 ?_
  refine SimI.run 3 [(4, .one (.ptr 4 0)), (14, .agg [li .u64 4, li .u32 16711935])] [(4, some (.cells [li .u64 4, li .u32 16711935])), (4, some (.cells [li .u64 0, li .u32 0]))] (by kernel_rfl) ?_
  refine SimI.done (by kernel_rfl) ?_
  refine SimE.thenN ?_
  refine Sim.region0 ?_
  refine SimI.run 10 [(0, .one (li .u32 (bitsI .and .u32 (bitsI .or .u32 (bitsI .and .u32 (bitsI .or .u32 (bitsI .and .u32 (bitsI .or .u32 (bitsI .and .u32 a0 1431655765) (shrI .u32 (bitsI .and .u32 a0 1431655765) 1)) 858993459) (shrI .u32 (bitsI .and .u32 (bitsI .or .u32 (bitsI .and .u32 a0 1431655765) (shrI .u32 (bitsI .and .u32 a0 1431655765) 1)) 858993459) 2)) 252645135) (shrI .u32 (bitsI .and .u32 (bitsI .or .u32 (bitsI .and .u32 (bitsI .or .u32 (bitsI .and .u32 a0 1431655765) (shrI .u32 (bitsI .and .u32 a0 1431655765) 1)) 858993459) (shrI .u32 (bitsI .and .u32 (bitsI .or .u32 (bitsI .and .u32 a0 1431655765) (shrI .u32 (bitsI .and .u32 a0 1431655765) 1)) 858993459) 2)) 252645135) 4)) 16711935))), (23, .one (li .u32 (bitsI .and .u32 (bitsI .or .u32 (bitsI .and .u32 (bitsI .or .u32 (bitsI .and .u32 (bitsI .or .u32 (bitsI .and .u32 a0 1431655765) (shrI .u32 (bitsI .and .u32 a0 1431655765) 1)) 858993459) (shrI .u32 (bitsI .and .u32 (bitsI .or .u32 (bitsI .and .u32 a0 1431655765) (shrI .u32 (bitsI .and .u32 a0 1431655765) 1)) 858993459) 2)) 252645135) (shrI .u32 (bitsI .and .u32 (bitsI .or .u32 (bitsI .and .u32 (bitsI .or .u32 (bitsI .and .u32 a0 1431655765) (shrI .u32 (bitsI .and .u32 a0 1431655765) 1)) 858993459) (shrI .u32 (bitsI .and .u32 (bitsI .or .u32 (bitsI .and .u32 a0 1431655765) (shrI .u32 (bitsI .and .u32 a0 1431655765) 1)) 858993459) 2)) 252645135) 4)) 16711935))), (22, .one (li .u32 16711935)), (21, .one (.ptr 4 1)), (20, .one (li .u32 (bitsI .or .u32 (bitsI .and .u32 (bitsI .or .u32 (bitsI .and .u32 (bitsI .or .u32 (bitsI .and .u32 a0 1431655765) (shrI .u32 (bitsI .and .u32 a0 1431655765) 1)) 858993459) (shrI .u32 (bitsI .and .u32 (bitsI .or .u32 (bitsI .and .u32 a0 1431655765) (shrI .u32 (bitsI .and .u32 a0 1431655765) 1)) 858993459) 2)) 252645135) (shrI .u32 (bitsI .and .u32 (bitsI .or .u32 (bitsI .and .u32 (bitsI .or .u32 (bitsI .and .u32 a0 1431655765) (shrI .u32 (bitsI .and .u32 a0 1431655765) 1)) 858993459) (shrI .u32 (bitsI .and .u32 (bitsI .or .u32 (bitsI .and .u32 a0 1431655765) (shrI .u32 (bitsI .and .u32 a0 1431655765) 1)) 858993459) 2)) 252645135) 4)))), (19, .one (li .u32 (shrI .u32 (bitsI .and .u32 (bitsI .or .u32 (bitsI .and .u32 (bitsI .or .u32 (bitsI .and .u32 a0 1431655765) (shrI .u32 (bitsI .and .u32 a0 1431655765) 1)) 858993459) (shrI .u32 (bitsI .and .u32 (bitsI .or .u32 (bitsI .and .u32 a0 1431655765) (shrI .u32 (bitsI .and .u32 a0 1431655765) 1)) 858993459) 2)) 252645135) 4))), (18, .one (li .u64 4)), (17, .one (.ptr 4 0)), (16, .one (li .u32 (bitsI .and .u32 (bitsI .or .u32 (bitsI .and .u32 (bitsI .or .u32 (bitsI .and .u32 a0 1431655765) (shrI .u32 (bitsI .and .u32 a0 1431655765) 1)) 858993459) (shrI .u32 (bitsI .and .u32 (bitsI .or .u32 (bitsI .and .u32 a0 1431655765) (shrI .u32 (bitsI .and .u32 a0 1431655765) 1)) 858993459) 2)) 252645135))), (15, .one (li .u32 (bitsI .and .u32 (bitsI .or .u32 (bitsI .and .u32 (bitsI .or .u32 (bitsI .and .u32 a0 1431655765) (shrI .u32 (bitsI .and .u32 a0 1431655765) 1)) 858993459) (shrI .u32 (bitsI .and .u32 (bitsI .or .u32 (bitsI .and .u32 a0 1431655765) (shrI .u32 (bitsI .and .u32 a0 1431655765) 1)) 858993459) 2)) 252645135)))] [] (by kernel_rfl) ?_
  refine SimI.done (by kernel_rfl) ?_
  refine SimE.blockN ?_
  refine SimE.thenN ?_
  refine Sim.region0 ?_
  refine SimI.run 2 [(12, .one (li .i64 3)), (24, .one (li .i64 3))] [] (by kernel_rfl) ?_
  refine SimI.done (by kernel_rfl) ?_
  refine SimE.loopN ?_
  refine SimL.succ ?_
  refine Sim.seq ?_
  refine Sim.region [(0, .one (li .u32 (bitsI .and .u32 (bitsI .or .u32 (bitsI .and .u32 (bitsI .or .u32 (bitsI .and .u32 (bitsI .or .u32 (bitsI .and .u32 a0 1431655765) (shrI .u32 (bitsI .and .u32 a0 1431655765) 1)) 858993459) (shrI .u32 (bitsI .and .u32 (bitsI .or .u32 (bitsI .and .u32 a0 1431655765) (shrI .u32 (bitsI .and .u32 a0 1431655765) 1)) 858993459) 2)) 252645135) (shrI .u32 (bitsI .and .u32 (bitsI .or .u32 (bitsI .and .u32 (bitsI .or .u32 (bitsI .and .u32 a0 1431655765) (shrI .u32 (bitsI .and .u32 a0 1431655765) 1)) 858993459) (shrI .u32 (bitsI .and .u32 (bitsI .or .u32 (bitsI .and .u32 a0 1431655765) (shrI .u32 (bitsI .and .u32 a0 1431655765) 1)) 858993459) 2)) 252645135) 4)) 16711935))), (11, .agg [li .u64 1, li .u32 858993459, li .u64 2, li .u32 252645135, li .u64 4, li .u32 16711935, li .u64 8, li .u32 65535]), (12, .one (li .i64 3))] [] (by kernel_rfl) ?_
  refine SimI.run 1 [(13, .one (lb true))] [] (by kernel_rfl) ?_
  refine SimI.done (by kernel_rfl) ?_
  refine SimE.thenN ?_
  refine Sim.seq ?_
  refine Sim.condT (by kernel_rfl) ?_
  refine Sim.skip ?_
  refine SimE.thenN ?_
  refine Sim.seq ?_
  refine Sim.block ?_
  refine Sim.seq ?_
  refine Sim.region0 ?_
  refine SimI.run 3 [(4, .one (.ptr 4 0)), (14, .agg [li .u64 8, li .u32 65535])] [(4, some (.cells [li .u64 8, li .u32 65535])), (4, some (.cells [li .u64 0, li .u32 0]))] (by kernel_rfl) ?_
  refine SimI.done (by kernel_rfl) ?_
  refine SimE.thenN ?_
  refine Sim.region0 ?_
  refine SimI.run 10 [(0, .one (li .u32 (bitsI .and .u32 (bitsI .or .u32 (bitsI .and .u32 (bitsI .or .u32 (bitsI .and .u32 (bitsI .or .u32 (bitsI .and .u32 (bitsI .or .u32 (bitsI .and .u32 a0 1431655765) (shrI .u32 (bitsI .and .u32 a0 1431655765) 1)) 858993459) (shrI .u32 (bitsI .and .u32 (bitsI .or .u32 (bitsI .and .u32 a0 1431655765) (shrI .u32 (bitsI .and .u32 a0 1431655765) 1)) 858993459) 2)) 252645135) (shrI .u32 (bitsI .and .u32 (bitsI .or .u32 (bitsI .and .u32 (bitsI .or .u32 (bitsI .and .u32 a0 1431655765) (shrI .u32 (bitsI .and .u32 a0 1431655765) 1)) 858993459) (shrI .u32 (bitsI .and .u32 (bitsI .or .u32 (bitsI .and .u32 a0 1431655765) (shrI .u32 (bitsI .and .u32 a0 1431655765) 1)) 858993459) 2)) 252645135) 4)) 16711935) (shrI .u32 (bitsI .and .u32 (bitsI .or .u32 (bitsI .and .u32 (bitsI .or .u32 (bitsI .and .u32 (bitsI .or .u32 (bitsI .and .u32 a0 1431655765) (shrI .u32 (bitsI .and .u32 a0 1431655765) 1)) 858993459) (shrI .u32 (bitsI .and .u32 (bitsI .or .u32 (bitsI .and .u32 a0 1431655765) (shrI .u32 (bitsI .and .u32 a0 1431655765) 1)) 858993459) 2)) 252645135) (shrI .u32 (bitsI .and .u32 (bitsI .or .u32 (bitsI .and .u32 (bitsI .or .u32 (bitsI .and .u32 a0 1431655765) (shrI .u32 (bitsI .and .u32 a0 1431655765) 1)) 858993459) (shrI .u32 (bitsI .and .u32 (bitsI .or .u32 (bitsI .and .u32 a0 1431655765) (shrI .u32 (bitsI .and .u32 a0 1431655765) 1)) 858993459) 2)) 252645135) 4)) 16711935) 8)) 65535))), (23, .one (li .u32 (bitsI .and .u32 (bitsI .or .u32 (bitsI .and .u32 (bitsI .or .u32 (bitsI .and .u32 (bitsI .or .u32 (bitsI .and .u32 (bitsI .or .u32 (bitsI .and .u32 a0 1431655765) (shrI .u32 (bitsI .and .u32 a0 1431655765) 1)) 858993459) (shrI .u32 (bitsI .and .u32 (bitsI .or .u32 (bitsI .and .u32 a0 1431655765) (shrI .u32 (bitsI .and .u32 a0 1431655765) 1)) 858993459) 2)) 252645135) (shrI .u32 (bitsI .and .u32 (bitsI .or .u32 (bitsI .and .u32 (bitsI .or .u32 (bitsI .and .u32 a0 1431655765) (shrI .u32 (bitsI .and .u32 a0 1431655765) 1)) 858993459) (shrI .u32 (bitsI .and .u32 (bitsI .or .u32 (bitsI .and .u32 a0 1431655765) (shrI .u32 (bitsI .and .u32 a0 1431655765) 1)) 858993459) 2)) 252645135) 4)) 16711935) (shrI .u32 (bitsI .and .u32 (bitsI .or .u32 (bitsI .and .u32 (bitsI .or .u32 (bitsI .and .u32 (bitsI .or .u32 (bitsI .and .u32 a0 1431655765) (shrI .u32 (bitsI .and .u32 a0 1431655765) 1)) 858993459) (shrI .u32 (bitsI .and .u32 (bitsI .or .u32 (bitsI .and .u32 a0 1431655765) (shrI .u32 (bitsI .and .u32 a0 1431655765) 1)) 858993459) 2)) 252645135) (shrI .u32 (bitsI .and .u32 (bitsI .or .u32 (bitsI .and .u32 (bitsI .or .u32 (bitsI .and .u32 a0 1431655765) (shrI .u32 (bitsI .and .u32 a0 1431655765) 1)) 858993459) (shrI .u32 (bitsI .and .u32 (bitsI .or .u32 (bitsI .and .u32 a0 1431655765) (shrI .u32 (bitsI .and .u32 a0 1431655765) 1)) 858993459) 2)) 252645135) 4)) 16711935) 8)) 65535))), (22, .one (li .u32 65535)), (21, .one (.ptr 4 1)), (20, .one (li .u32 (bitsI .or .u32 (bitsI .and .u32 (bitsI .or .u32 (bitsI .and .u32 (bitsI .or .u32 (bitsI .and .u32 (bitsI .or .u32 (bitsI .and .u32 a0 1431655765) (shrI .u32 (bitsI .and .u32 a0 1431655765) 1)) 858993459) (shrI .u32 (bitsI .and .u32 (bitsI .or .u32 (bitsI .and .u32 a0 1431655765) (shrI .u32 (bitsI .and .u32 a0 1431655765) 1)) 858993459) 2)) 252645135) (shrI .u32 (bitsI .and .u32 (bitsI .or .u32 (bitsI .and .u32 (bitsI .or .u32 (bitsI .and .u32 a0 1431655765) (shrI .u32 (bitsI .and .u32 a0 1431655765) 1)) 858993459) (shrI .u32 (bitsI .and .u32 (bitsI .or .u32 (bitsI .and .u32 a0 1431655765) (shrI .u32 (bitsI .and .u32 a0 1431655765) 1)) 858993459) 2)) 252645135) 4)) 16711935) (shrI .u32 (bitsI .and .u32 (bitsI .or .u32 (bitsI .and .u32 (bitsI .or .u32 (bitsI .and .u32 (bitsI .or .u32 (bitsI .and .u32 a0 1431655765) (shrI .u32 (bitsI .and .u32 a0 1431655765) 1)) 858993459) (shrI .u32 (bitsI .and .u32 (bitsI .or .u32 (bitsI .and .u32 a0 1431655765) (shrI .u32 (bitsI .and .u32 a0 1431655765) 1)) 858993459) 2)) 252645135) (shrI .u32 (bitsI .and .u32 (bitsI .or .u32 (bitsI .and .u32 (bitsI .or .u32 (bitsI .and .u32 a0 1431655765) (shrI .u32 (bitsI .and .u32 a0 1431655765) 1)) 858993459) (shrI .u32 (bitsI .and .u32 (bitsI .or .u32 (bitsI .and .u32 a0 1431655765) (shrI .u32 (bitsI .and .u32 a0 1431655765) 1)) 858993459) 2)) 252645135) 4)) 16711935) 8)))), (19, .one (li .u32 (shrI .u32 (bitsI .and .u32 (bitsI .or .u32 (bitsI .and .u32 (bitsI .or .u32 (bitsI .and .u32 (bitsI .or .u32 (bitsI .and .u32 a0 1431655765) (shrI .u32 (bitsI .and .u32 a0 1431655765) 1)) 858993459) (shrI .u32 (bitsI .and .u32 (bitsI .or .u32 (bitsI .and .u32 a0 1431655765) (shrI .u32 (bitsI .and .u32 a0 1431655765) 1)) 858993459) 2)) 252645135) (shrI .u32 (bitsI .and .u32 (bitsI .or .u32 (bitsI .and .u32 (bitsI .or .u32 (bitsI .and .u32 a0 1431655765) (shrI .u32 (bitsI .and .u32 a0 1431655765) 1)) 858993459) (shrI .u32 (bitsI .and .u32 (bitsI .or .u32 (bitsI .and .u32 a0 1431655765) (shrI .u32 (bitsI .and .u32 a0 1431655765) 1)) 858993459) 2)) 252645135) 4)) 16711935) 8))), (18, .one (li .u64 8)), (17, .one (.ptr 4 0)), (16, .one (li .u32 (bitsI .and .u32 (bitsI .or .u32 (bitsI .and .u32 (bitsI .or .u32 (bitsI .and .u32 (bitsI .or .u32 (bitsI .and .u32 a0 1431655765) (shrI .u32 (bitsI .and .u32 a0 1431655765) 1)) 858993459) (shrI .u32 (bitsI .and .u32 (bitsI .or .u32 (bitsI .and .u32 a0 1431655765) (shrI .u32 (bitsI .and .u32 a0 1431655765) 1)) 858993459) 2)) 252645135) (shrI .u32 (bitsI .and .u32 (bitsI .or .u32 (bitsI .and .u32 (bitsI .or .u32 (bitsI .and .u32 a0 1431655765) (shrI .u32 (bitsI .and .u32 a0 1431655765) 1)) 858993459) (shrI .u32 (bitsI .and .u32 (bitsI .or .u32 (bitsI .and .u32 a0 1431655765) (shrI .u32 (bitsI .and .u32 a0 1431655765) 1)) 858993459) 2)) 252645135) 4)) 16711935))), (15, .one (li .u32 (bitsI .and .u32 (bitsI .or .u32 (bitsI .and .u32 (bitsI .or .u32 (bitsI .and .u32 (bitsI .or .u32 (bitsI .and .u32 a0 1431655765) (shrI .u32 (bitsI .and .u32 a0 1431655765) 1)) 858993459) (shrI .u32 (bitsI .and .u32 (bitsI .or .u32 (bitsI .and .u32 a0 1431655765) (shrI .u32 (bitsI .and .u32 a0 1431655765) 1)) 858993459) 2)) 252645135) (shrI .u32 (bitsI .and .u32 (bitsI .or .u32 (bitsI .and .u32 (bitsI .or .u32 (bitsI .and .u32 a0 1431655765) (shrI .u32 (bitsI .and .u32 a0 1431655765) 1)) 858993459) (shrI .u32 (bitsI .and .u32 (bitsI .or .u32 (bitsI .and .u32 a0 1431655765) (shrI .u32 (bitsI .and .u32 a0 1431655765) 1)) 858993459) 2)) 252645135) 4)) 16711935)))] [] (by kernel_rfl) ?_
  refine SimI.done (by kernel_rfl) ?_
  refine SimE.blockN ?_
  refine SimE.thenN ?_
  refine Sim.region0 ?_
  refine SimI.run 2 [(12, .one (li .i64 4)), (24, .one (li .i64 4))] [] (by kernel_rfl) ?_
  refine SimI.done (by kernel_rfl) ?_
  refine SimE.loopN ?_
  refine SimL.succ ?_
  refine Sim.seq ?_
  refine Sim.region [(0, .one (li .u32 (bitsI .and .u32 (bitsI .or .u32 (bitsI .and .u32 (bitsI .or .u32 (bitsI .and .u32 (bitsI .or .u32 (bitsI .and .u32 (bitsI .or .u32 (bitsI .and .u32 a0 1431655765) (shrI .u32 (bitsI .and .u32 a0 1431655765) 1)) 858993459) (shrI .u32 (bitsI .and .u32 (bitsI .or .u32 (bitsI .and .u32 a0 1431655765) (shrI .u32 (bitsI .and .u32 a0 1431655765) 1)) 858993459) 2)) 252645135) (shrI .u32 (bitsI .and .u32 (bitsI .or .u32 (bitsI .and .u32 (bitsI .or .u32 (bitsI .and .u32 a0 1431655765) (shrI .u32 (bitsI .and .u32 a0 1431655765) 1)) 858993459) (shrI .u32 (bitsI .and .u32 (bitsI .or .u32 (bitsI .and .u32 a0 1431655765) (shrI .u32 (bitsI .and .u32 a0 1431655765) 1)) 858993459) 2)) 252645135) 4)) 16711935) (shrI .u32 (bitsI .and .u32 (bitsI .or .u32 (bitsI .and .u32 (bitsI .or .u32 (bitsI .and .u32 (bitsI .or .u32 (bitsI .and .u32 a0 1431655765) (shrI .u32 (bitsI .and .u32 a0 1431655765) 1)) 858993459) (shrI .u32 (bitsI .and .u32 (bitsI .or .u32 (bitsI .and .u32 a0 1431655765) (shrI .u32 (bitsI .and .u32 a0 1431655765) 1)) 858993459) 2)) 252645135) (shrI .u32 (bitsI .and .u32 (bitsI .or .u32 (bitsI .and .u32 (bitsI .or .u32 (bitsI .and .u32 a0 1431655765) (shrI .u32 (bitsI .and .u32 a0 1431655765) 1)) 858993459) (shrI .u32 (bitsI .and .u32 (bitsI .or .u32 (bitsI .and .u32 a0 1431655765) (shrI .u32 (bitsI .and .u32 a0 1431655765) 1)) 858993459) 2)) 252645135) 4)) 16711935) 8)) 65535))), (11, .agg [li .u64 1, li .u32 858993459, li .u64 2, li .u32 252645135, li .u64 4, li .u32 16711935, li .u64 8, li .u32 65535]), (12, .one (li .i64 4))] [] (by kernel_rfl) ?_
  refine SimI.run 1 [(13, .one (lb false))] [] (by kernel_rfl) ?_
  refine SimI.done (by kernel_rfl) ?_
  refine SimE.thenN ?_
  refine Sim.seq ?_
  refine Sim.condF (by kernel_rfl) ?_
  refine Sim.exit ?_
  refine SimE.thenX ?_
  refine SimE.loopX ?_
  refine SimE.blockX ?_
  refine SimE.thenN ?_
  refine Sim.seq ?_
  refine Sim.region0 ?_
  refine SimI.run 2 [(2, .one (li .u32 (bitsI .and .u32 (bitsI .or .u32 (bitsI .and .u32 (bitsI .or .u32 (bitsI .and .u32 (bitsI .or .u32 (bitsI .and .u32 (bitsI .or .u32 (bitsI .and .u32 a0 1431655765) (shrI .u32 (bitsI .and .u32 a0 1431655765) 1)) 858993459) (shrI .u32 (bitsI .and .u32 (bitsI .or .u32 (bitsI .and .u32 a0 1431655765) (shrI .u32 (bitsI .and .u32 a0 1431655765) 1)) 858993459) 2)) 252645135) (shrI .u32 (bitsI .and .u32 (bitsI .or .u32 (bitsI .and .u32 (bitsI .or .u32 (bitsI .and .u32 a0 1431655765) (shrI .u32 (bitsI .and .u32 a0 1431655765) 1)) 858993459) (shrI .u32 (bitsI .and .u32 (bitsI .or .u32 (bitsI .and .u32 a0 1431655765) (shrI .u32 (bitsI .and .u32 a0 1431655765) 1)) 858993459) 2)) 252645135) 4)) 16711935) (shrI .u32 (bitsI .and .u32 (bitsI .or .u32 (bitsI .and .u32 (bitsI .or .u32 (bitsI .and .u32 (bitsI .or .u32 (bitsI .and .u32 a0 1431655765) (shrI .u32 (bitsI .and .u32 a0 1431655765) 1)) 858993459) (shrI .u32 (bitsI .and .u32 (bitsI .or .u32 (bitsI .and .u32 a0 1431655765) (shrI .u32 (bitsI .and .u32 a0 1431655765) 1)) 858993459) 2)) 252645135) (shrI .u32 (bitsI .and .u32 (bitsI .or .u32 (bitsI .and .u32 (bitsI .or .u32 (bitsI .and .u32 a0 1431655765) (shrI .u32 (bitsI .and .u32 a0 1431655765) 1)) 858993459) (shrI .u32 (bitsI .and .u32 (bitsI .or .u32 (bitsI .and .u32 a0 1431655765) (shrI .u32 (bitsI .and .u32 a0 1431655765) 1)) 858993459) 2)) 252645135) 4)) 16711935) 8)) 65535))), (25, .one (li .u32 (bitsI .and .u32 (bitsI .or .u32 (bitsI .and .u32 (bitsI .or .u32 (bitsI .and .u32 (bitsI .or .u32 (bitsI .and .u32 (bitsI .or .u32 (bitsI .and .u32 a0 1431655765) (shrI .u32 (bitsI .and .u32 a0 1431655765) 1)) 858993459) (shrI .u32 (bitsI .and .u32 (bitsI .or .u32 (bitsI .and .u32 a0 1431655765) (shrI .u32 (bitsI .and .u32 a0 1431655765) 1)) 858993459) 2)) 252645135) (shrI .u32 (bitsI .and .u32 (bitsI .or .u32 (bitsI .and .u32 (bitsI .or .u32 (bitsI .and .u32 a0 1431655765) (shrI .u32 (bitsI .and .u32 a0 1431655765) 1)) 858993459) (shrI .u32 (bitsI .and .u32 (bitsI .or .u32 (bitsI .and .u32 a0 1431655765) (shrI .u32 (bitsI .and .u32 a0 1431655765) 1)) 858993459) 2)) 252645135) 4)) 16711935) (shrI .u32 (bitsI .and .u32 (bitsI .or .u32 (bitsI .and .u32 (bitsI .or .u32 (bitsI .and .u32 (bitsI .or .u32 (bitsI .and .u32 a0 1431655765) (shrI .u32 (bitsI .and .u32 a0 1431655765) 1)) 858993459) (shrI .u32 (bitsI .and .u32 (bitsI .or .u32 (bitsI .and .u32 a0 1431655765) (shrI .u32 (bitsI .and .u32 a0 1431655765) 1)) 858993459) 2)) 252645135) (shrI .u32 (bitsI .and .u32 (bitsI .or .u32 (bitsI .and .u32 (bitsI .or .u32 (bitsI .and .u32 a0 1431655765) (shrI .u32 (bitsI .and .u32 a0 1431655765) 1)) 858993459) (shrI .u32 (bitsI .and .u32 (bitsI .or .u32 (bitsI .and .u32 a0 1431655765) (shrI .u32 (bitsI .and .u32 a0 1431655765) 1)) 858993459) 2)) 252645135) 4)) 16711935) 8)) 65535)))] [] (by kernel_rfl) ?_
  refine SimI.done (by kernel_rfl) ?_
  refine SimE.thenN ?_
  refine Sim.ret ?_
  exact SimE.fin (by kernel_rfl)


-- 72: vedette/morton.Split
def F72_e : (Int × Int) → PV × List (List Lf) := fun r => (.tup [.one (li .u16 r.1), .one (li .u16 r.2)], [])
def F72 (n : Nat) (a0 : Int) : Option (Int × Int) :=
  (F82 n a0).bind fun (r1 : Int) =>
  (F82 n (shrI .u32 a0 1)).bind fun (r2 : Int) =>
  some (IntKind.wrap .u16 r1, IntKind.wrap .u16 r2)
theorem F72_ok (n : Nat) (a0 : Int) : ∀ r, F72 n a0 = some r → D 72 [.one (li .u32 a0)] [] = some (F72_e r) := by
  refine fn_to (D := D) (n := n + 8) (nt := 11) (rs := pc72_r) (c := pc72_c5) (L := [(0, .one (li .u32 a0))]) (M := []) (k := 0) rfl rfl rfl rfl rfl rfl ?_
  unfold F72
  refine Sim.seq ?_
  refine Sim.region0 ?_
  refine SimI.run 2 [(3, .one (li .u16 0)), (2, .one (li .u16 0))] [] (by kernel_rfl) ?_
  refine SimI.done (by kernel_rfl) ?_
  refine SimE.thenN ?_
  refine Sim.seq ?_
  refine Sim.region0 ?_
  refine SimI.run 1 [(4, .one (li .u32 a0))] [] (by kernel_rfl) ?_
  refine SimI.bind (og := F82 n a0) { dst := some 5, op := POp.call true [[]] 82 [Operand.tmp 4], guard := none, hints := [] } (fun r1 => [(5, .one (li .u32 r1))]) (fun r1 => []) (by kernel_rfl) (fun r1 hr => pOp_eff (by kernel_rfl) (by kernel_rfl) (eff_call (ARGS := [.one (li .u32 a0)]) (by kernel_rfl) (args_clean (by kernel_rfl) args_nil) (F82_ok n a0 r1 hr) (by kernel_rfl))) (fun r1 => ?_)
  refine SimI.run 3 [(8, .one (li .u32 (shrI .u32 a0 1))), (7, .one (li .u32 a0)), (6, .one (li .u16 (IntKind.wrap .u16 r1)))] [] (by kernel_rfl) ?_
  refine SimI.bind (og := F82 n (shrI .u32 a0 1)) { dst := some 9, op := POp.call true [[]] 82 [Operand.tmp 8], guard := none, hints := [] } (fun r2 => [(9, .one (li .u32 r2))]) (fun r2 => []) (by kernel_rfl) (fun r2 hr => pOp_eff (by kernel_rfl) (by kernel_rfl) (eff_call (ARGS := [.one (li .u32 (shrI .u32 a0 1))]) (by kernel_rfl) (args_clean (by kernel_rfl) args_nil) (F82_ok n (shrI .u32 a0 1) r2 hr) (by kernel_rfl))) (fun r2 => ?_)
  refine SimI.run 3 [(3, .one (li .u16 (IntKind.wrap .u16 r2))), (2, .one (li .u16 (IntKind.wrap .u16 r1))), (10, .one (li .u16 (IntKind.wrap .u16 r2)))] [] (by kernel_rfl) ?_
  refine SimI.done (by kernel_rfl) ?_
  refine SimE.thenN ?_
  refine Sim.ret ?_
  exact SimE.fin (by kernel_rfl)


-- 56: vedette/cells.place
def F56_e : (Int × Int) → PV × List (List Lf) := fun r => (.tup [.one (li .i64 r.1), .one (li .i64 r.2)], [])
def F56 (n : Nat) (a0 : Int) : Option (Int × Int) :=
  (F72 n (IntKind.wrap .u32 a0)).bind fun (r1 : (Int × Int)) =>
  some (IntKind.wrap .i64 r1.1, IntKind.wrap .i64 r1.2)
theorem F56_ok (n : Nat) (a0 : Int) : ∀ r, F56 n a0 = some r → D 56 [.one (li .i64 a0)] [] = some (F56_e r) := by
  refine fn_to (D := D) (n := n + 8) (nt := 16) (rs := pc56_r) (c := pc56_c7) (L := [(0, .one (li .i64 a0))]) (M := []) (k := 0) rfl rfl rfl rfl rfl rfl ?_
  unfold F56
  refine Sim.seq ?_
  refine Sim.region0 ?_
  refine SimI.run 2 [(3, .one (li .i64 0)), (2, .one (li .i64 0))] [] (by kernel_rfl) ?_
  refine SimI.done (by kernel_rfl) ?_
  refine SimE.thenN ?_
  refine Sim.seq ?_
  refine Sim.region0 ?_
  refine SimI.run 2 [(8, .one (li .u32 (IntKind.wrap .u32 a0))), (7, .one (li .i64 a0))] [] (by kernel_rfl) ?_
  refine SimI.bind (og := F72 n (IntKind.wrap .u32 a0)) { dst := some 9, op := POp.call true [[]] 72 [Operand.tmp 8], guard := none, hints := [] } (fun r1 => [(9, .tup [.one (li .u16 r1.1), .one (li .u16 r1.2)])]) (fun r1 => []) (by kernel_rfl) (fun r1 hr => pOp_eff (by kernel_rfl) (by kernel_rfl) (eff_call (ARGS := [.one (li .u32 (IntKind.wrap .u32 a0))]) (by kernel_rfl) (args_clean (by kernel_rfl) args_nil) (F72_ok n (IntKind.wrap .u32 a0) r1 hr) (by kernel_rfl))) (fun r1 => ?_)
  refine SimI.run 5 [(5, .one (li .u16 r1.2)), (4, .one (li .u16 r1.1)), (11, .one (li .u16 r1.2)), (10, .one (li .u16 r1.1)), (6, .tup [.one (li .u16 r1.1), .one (li .u16 r1.2)])] [] (by kernel_rfl) ?_
  refine SimI.done (by kernel_rfl) ?_
  refine SimE.thenN ?_
  refine Sim.seq ?_
  refine Sim.region0 ?_
  refine SimI.run 6 [(3, .one (li .i64 (IntKind.wrap .i64 r1.2))), (2, .one (li .i64 (IntKind.wrap .i64 r1.1))), (15, .one (li .i64 (IntKind.wrap .i64 r1.2))), (14, .one (li .u16 r1.2)), (13, .one (li .i64 (IntKind.wrap .i64 r1.1))), (12, .one (li .u16 r1.1))] [] (by kernel_rfl) ?_
  refine SimI.done (by kernel_rfl) ?_
  refine SimE.thenN ?_
  refine Sim.ret ?_
  exact SimE.fin (by kernel_rfl)


-- 27: vedette/cells.Rect
def F27_e : (Rect × Bool) → PV × List (List Lf) := fun r => (.tup [.agg [li .i64 r.1.X0, li .i64 r.1.Y0, li .i64 r.1.X1, li .i64 r.1.Y1], .one (lb r.2)], [])
def F27 (n : Nat) (a0 : Int) : Option (Rect × Bool) :=
  (F31 n a0).bind fun (r1 : Bool) =>
  if !(r1) then
    some ((Rect.mk 0 0 0 0), false)
  else
    (F56 n a0).bind fun (r2 : (Int × Int)) =>
    some ((Rect.mk (IntKind.wrap .i64 (r2.1 * 16)) (IntKind.wrap .i64 (r2.2 * 16)) (IntKind.wrap .i64 (IntKind.wrap .i64 (r2.1 + 1) * 16)) (IntKind.wrap .i64 (IntKind.wrap .i64 (r2.2 + 1) * 16))), true)
theorem F27_ok (n : Nat) (a0 : Int) : ∀ r, F27 n a0 = some r → D 27 [.one (li .i64 a0)] [] = some (F27_e r) := by
  refine fn_to (D := D) (n := n + 8) (nt := 26) (rs := pc27_r) (c := pc27_c15) (L := [(0, .one (li .i64 a0))]) (M := []) (k := 0) rfl rfl rfl rfl rfl rfl ?_
  unfold F27
  refine Sim.seq ?_
  refine Sim.region0 ?_
  refine SimI.run 2 [(3, .one (lb false)), (2, .one (.ptr 2 0))] [(2, some (.cells [li .i64 0, li .i64 0, li .i64 0, li .i64 0]))] (by kernel_rfl) ?_
  refine SimI.done (by kernel_rfl) ?_
  refine SimE.thenN ?_
  refine Sim.seq ?_
  refine Sim.seq ?_
  refine Sim.region0 ?_
  refine SimI.run 1 [(6, .one (li .i64 a0))] [] (by kernel_rfl) ?_
  refine SimI.bind (og := F31 n a0) { dst := some 7, op := POp.call true [[]] 31 [Operand.tmp 6], guard := none, hints := [] } (fun r1 => [(7, .one (lb r1))]) (fun r1 => []) (by kernel_rfl) (fun r1 hr => pOp_eff (by kernel_rfl) (by kernel_rfl) (eff_call (ARGS := [.one (li .i64 a0)]) (by kernel_rfl) (args_clean (by kernel_rfl) args_nil) (F31_ok n a0 r1 hr) (by kernel_rfl))) (fun r1 => ?_)
  refine SimI.run 1 [(8, .one (lb (!(r1))))] [] (by kernel_rfl) ?_
  refine SimI.done (by kernel_rfl) ?_
  refine SimE.thenN ?_
  refine Sim.cond (!(r1)) (by kernel_rfl) ?_ ?_
  · refine Sim.seq ?_
    refine Sim.region0 ?_
    refine SimI.run 3 [(3, .one (lb false)), (9, .agg [li .i64 0, li .i64 0, li .i64 0, li .i64 0])] [(2, some (.cells [li .i64 0, li .i64 0, li .i64 0, li .i64 0]))] (by kernel_rfl) ?_
    refine SimI.done (by kernel_rfl) ?_
    refine SimE.thenN ?_
    refine Sim.ret ?_
    refine SimE.thenR ?_
    exact SimE.fin (by kernel_rfl)
  · refine Sim.skip ?_
    refine SimE.thenN ?_
    refine Sim.seq ?_
    refine Sim.region0 ?_
    refine SimI.run 1 [(11, .one (li .i64 a0))] [] (by kernel_rfl) ?_
    refine SimI.bind (og := F56 n a0) { dst := some 12, op := POp.call true [[]] 56 [Operand.tmp 11], guard := none, hints := [] } (fun r2 => [(12, .tup [.one (li .i64 r2.1), .one (li .i64 r2.2)])]) (fun r2 => []) (by kernel_rfl) (fun r2 hr => pOp_eff (by kernel_rfl) (by kernel_rfl) (eff_call (ARGS := [.one (li .i64 a0)]) (by kernel_rfl) (args_clean (by kernel_rfl) args_nil) (F56_ok n a0 r2 hr) (by kernel_rfl))) (fun r2 => ?_)
    refine SimI.run 5 [(5, .one (li .i64 r2.2)), (4, .one (li .i64 r2.1)), (14, .one (li .i64 r2.2)), (13, .one (li .i64 r2.1)), (10, .tup [.one (li .i64 r2.1), .one (li .i64 r2.2)])] [] (by kernel_rfl) ?_
    refine SimI.done (by kernel_rfl) ?_
    refine SimE.thenN ?_
    refine Sim.seq ?_
    refine Sim.region0 ?_
    refine SimI.run 13 [(3, .one (lb true)), (25, .agg [li .i64 (IntKind.wrap .i64 (r2.1 * 16)), li .i64 (IntKind.wrap .i64 (r2.2 * 16)), li .i64 (IntKind.wrap .i64 (IntKind.wrap .i64 (r2.1 + 1) * 16)), li .i64 (IntKind.wrap .i64 (IntKind.wrap .i64 (r2.2 + 1) * 16))]), (24, .one (li .i64 (IntKind.wrap .i64 (IntKind.wrap .i64 (r2.2 + 1) * 16)))), (23, .one (li .i64 (IntKind.wrap .i64 (r2.2 + 1)))), (22, .one (li .i64 r2.2)), (21, .one (li .i64 (IntKind.wrap .i64 (IntKind.wrap .i64 (r2.1 + 1) * 16)))), (20, .one (li .i64 (IntKind.wrap .i64 (r2.1 + 1)))), (19, .one (li .i64 r2.1)), (18, .one (li .i64 (IntKind.wrap .i64 (r2.2 * 16)))), (17, .one (li .i64 r2.2)), (16, .one (li .i64 (IntKind.wrap .i64 (r2.1 * 16)))), (15, .one (li .i64 r2.1))] [(2, some (.cells [li .i64 (IntKind.wrap .i64 (r2.1 * 16)), li .i64 (IntKind.wrap .i64 (r2.2 * 16)), li .i64 (IntKind.wrap .i64 (IntKind.wrap .i64 (r2.1 + 1) * 16)), li .i64 (IntKind.wrap .i64 (IntKind.wrap .i64 (r2.2 + 1) * 16))]))] (by kernel_rfl) ?_
    refine SimI.done (by kernel_rfl) ?_
    refine SimE.thenN ?_
    refine Sim.ret ?_
    exact SimE.fin (by kernel_rfl)


-- 58: vedette/geom.Empty
def F58_e : Bool → PV × List (List Lf) := fun r => (.one (lb r), [])
def F58 (n : Nat) (a0 : Rect) : Option Bool :=
  if decide (a0.X1 ≤ a0.X0) then
    some true
  else
    some (decide (a0.Y1 ≤ a0.Y0))
theorem F58_ok (n : Nat) (a0 : Rect) : ∀ r, F58 n a0 = some r → D 58 [.agg [li .i64 a0.X0, li .i64 a0.Y0, li .i64 a0.X1, li .i64 a0.Y1]] [] = some (F58_e r) := by
  refine fn_to (D := D) (n := n + 8) (nt := 15) (rs := pc58_r) (c := pc58_c5) (L := [(0, .agg [li .i64 a0.X0, li .i64 a0.Y0, li .i64 a0.X1, li .i64 a0.Y1])]) (M := []) (k := 0) rfl rfl rfl rfl rfl rfl ?_
  unfold F58
  refine Sim.seq ?_
  refine Sim.region0 ?_
  refine SimI.run 2 [(2, .one (lb false)), (1, .one (.ptr 1 0))] [(1, some (.cells [li .i64 a0.X0, li .i64 a0.Y0, li .i64 a0.X1, li .i64 a0.Y1]))] (by kernel_rfl) ?_
  refine SimI.done (by kernel_rfl) ?_
  refine SimE.thenN ?_
  refine Sim.seq ?_
  refine Sim.region0 ?_
  refine SimI.run 6 [(8, .one (lb (decide (a0.X1 ≤ a0.X0)))), (7, .one (lb (decide (a0.X1 ≤ a0.X0)))), (6, .one (li .i64 a0.X1)), (5, .one (.ptr 1 2)), (4, .one (li .i64 a0.X0)), (3, .one (.ptr 1 0))] [] (by kernel_rfl) ?_
  refine SimI.split 8 (decide (a0.X1 ≤ a0.X0)) (by kernel_rfl) ?_ ?_
  · refine SimI.run 7 [(2, .one (lb true)), (14, .one (lb true)), (13, .tup []), (12, .tup []), (11, .tup []), (10, .tup []), (9, .tup [])] [] (by kernel_rfl) ?_
    refine SimI.done (by kernel_rfl) ?_
    refine SimE.thenN ?_
    refine Sim.ret ?_
    exact SimE.fin (by kernel_rfl)
  · refine SimI.run 7 [(2, .one (lb (decide (a0.Y1 ≤ a0.Y0)))), (14, .one (lb (decide (a0.Y1 ≤ a0.Y0)))), (13, .one (lb (decide (a0.Y1 ≤ a0.Y0)))), (12, .one (li .i64 a0.Y1)), (11, .one (.ptr 1 3)), (10, .one (li .i64 a0.Y0)), (9, .one (.ptr 1 1))] [] (by kernel_rfl) ?_
    refine SimI.done (by kernel_rfl) ?_
    refine SimE.thenN ?_
    refine Sim.ret ?_
    exact SimE.fin (by kernel_rfl)


-- 29: vedette/cells.Cover
def F29_e : (List Int) → PV × List (List Lf) := fun r => (.one (vw (codI .i64) r), [])
def F29_l10 (n : Nat) (a0 : Rect) : Nat → (List Int) → Int → Option (List Int)
  | 0, _, _ => none
  | m + 1, l7, i9 =>
    if decide (i9 < 16) then
      (F27 n i9).bind fun (r11 : (Rect × Bool)) =>
      if decide (a0.X1 ≤ r11.1.X0) then
        (F29_l10 n a0 m) l7 (IntKind.wrap .i64 (i9 + 1))
      else
        (F58 n a0).bind fun (r12 : Bool) =>
        if r12 then
          (F29_l10 n a0 m) l7 (IntKind.wrap .i64 (i9 + 1))
        else
          if decide (r11.1.X1 ≤ a0.X0) then
            (F29_l10 n a0 m) l7 (IntKind.wrap .i64 (i9 + 1))
          else
            (F58 n a0).bind fun (r13 : Bool) =>
            if r13 then
              (F29_l10 n a0 m) l7 (IntKind.wrap .i64 (i9 + 1))
            else
              if decide (a0.Y1 ≤ r11.1.Y0) then
                (F29_l10 n a0 m) l7 (IntKind.wrap .i64 (i9 + 1))
              else
                (F58 n a0).bind fun (r14 : Bool) =>
                if r14 then
                  (F29_l10 n a0 m) l7 (IntKind.wrap .i64 (i9 + 1))
                else
                  if decide (r11.1.Y1 ≤ a0.Y0) then
                    (F29_l10 n a0 m) l7 (IntKind.wrap .i64 (i9 + 1))
                  else
                    (F58 n a0).bind fun (r15 : Bool) =>
                    if r15 then
                      (F29_l10 n a0 m) l7 (IntKind.wrap .i64 (i9 + 1))
                    else
                      if ((l7).length + 1) * 8 ≤ maxCells ∧ (l7).length + 1 ≤ maxCells then
                        (F29_l10 n a0 m) (l7 ++ [i9]) (IntKind.wrap .i64 (i9 + 1))
                      else none
    else
      some l7
theorem F29_l10_ok (n : Nat) (a0 : Rect) : ∀ (m : Nat) (l7 : (List Int)) (i9 : Int) (g8 : Nat), SimL Try.prog D (n + 8) m pc29_c39 [(1, .one (.ptr 1 0)), (3, .one (ownL 100003 g8 l7)), (9, .one (li .i64 i9))] ((1, some (.cells [li .i64 a0.X0, li .i64 a0.Y0, li .i64 a0.X1, li .i64 a0.Y1])) :: (ownM (codI .i64) 3 100003 g8 l7 [])) (F29_l10 n a0 m l7 i9) (QB 0 (QT Try.prog D (n + 8) pc29_c45 (QF pc29_r 0 F29_e))) := by
  intro m_l10
  induction m_l10 with
  | zero => intro l7 i9 g8; exact SimL.zero'  rfl
  | succ m_l10 ih_l10 =>
    intro l7 i9 g8
    cases l7 with
    | nil =>
      refine SimL.succ ?_
      unfold F29_l10
      refine Sim.seq ?_
      refine Sim.region [(1, .one (.ptr 1 0)), (3, .one (lnil)), (9, .one (li .i64 i9))] ((1, some (.cells [li .i64 a0.X0, li .i64 a0.Y0, li .i64 a0.X1, li .i64 a0.Y1])) :: []) (by kernel_rfl) ?_
      refine SimI.run 1 [(10, .one (lb (decide (i9 < 16))))] [] (by kernel_rfl) ?_
      refine SimI.done (by kernel_rfl) ?_
      refine SimE.thenN ?_
      refine Sim.seq ?_
      refine Sim.cond (decide (i9 < 16)) (by kernel_rfl) ?_ ?_
      · refine Sim.skip ?_
        refine SimE.thenN ?_
        refine Sim.seq ?_
        refine Sim.block ?_
        refine Sim.seq ?_
        refine Sim.region0 ?_
        refine SimI.run 2 [(4, .one (li .i64 i9)), (11, .one (li .i64 i9))] [] (by kernel_rfl) ?_
        refine SimI.done (by kernel_rfl) ?_
        refine SimE.thenN ?_
        refine Sim.seq ?_
        refine Sim.region0 ?_
        refine SimI.run 1 [(13, .one (li .i64 i9))] [] (by kernel_rfl) ?_
        refine SimI.bind (og := F27 n i9) { dst := some 14, op := POp.call true [[]] 27 [Operand.tmp 13], guard := none, hints := [] } (fun r11 => [(14, .tup [.agg [li .i64 r11.1.X0, li .i64 r11.1.Y0, li .i64 r11.1.X1, li .i64 r11.1.Y1], .one (lb r11.2)])]) (fun r11 => []) (by kernel_rfl) (fun r11 hr => pOp_eff (by kernel_rfl) (by kernel_rfl) (eff_call (ARGS := [.one (li .i64 i9)]) (by kernel_rfl) (args_clean (by kernel_rfl) args_nil) (F27_ok n i9 r11 hr) (by kernel_rfl))) (fun r11 => ?_)
        refine SimI.run 6 [(6, .one (lb r11.2)), (5, .one (.ptr 5 0)), (16, .one (lb r11.2)), (15, .agg [li .i64 r11.1.X0, li .i64 r11.1.Y0, li .i64 r11.1.X1, li .i64 r11.1.Y1]), (12, .tup [.agg [li .i64 r11.1.X0, li .i64 r11.1.Y0, li .i64 r11.1.X1, li .i64 r11.1.Y1], .one (lb r11.2)])] [(5, some (.cells [li .i64 r11.1.X0, li .i64 r11.1.Y0, li .i64 r11.1.X1, li .i64 r11.1.Y1])), (5, some (.cells [li .i64 0, li .i64 0, li .i64 0, li .i64 0]))] (by kernel_rfl) ?_
        refine SimI.done (by kernel_rfl) ?_
        refine SimE.thenN ?_
        refine Sim.seq ?_
        refine Sim.seq ?_
        refine Sim.region0 ?_
        refine SimI.run 22 [(38, .one (li .i64 0)), (37, .agg [lb (decide (a0.X1 ≤ r11.1.X0)), lb (decide (r11.1.X1 ≤ a0.X0)), lb (decide (a0.Y1 ≤ r11.1.Y0)), lb (decide (r11.1.Y1 ≤ a0.Y0))]), (36, .one (lb (decide (r11.1.Y1 ≤ a0.Y0)))), (35, .one (li .i64 a0.Y0)), (34, .one (.ptr 1 1)), (33, .one (li .i64 r11.1.Y1)), (32, .one (.ptr 5 3)), (31, .one (lb (decide (a0.Y1 ≤ r11.1.Y0)))), (30, .one (li .i64 a0.Y1)), (29, .one (.ptr 1 3)), (28, .one (li .i64 r11.1.Y0)), (27, .one (.ptr 5 1)), (26, .one (lb (decide (r11.1.X1 ≤ a0.X0)))), (25, .one (li .i64 a0.X0)), (24, .one (.ptr 1 0)), (23, .one (li .i64 r11.1.X1)), (22, .one (.ptr 5 2)), (21, .one (lb (decide (a0.X1 ≤ r11.1.X0)))), (20, .one (li .i64 a0.X1)), (19, .one (.ptr 1 2)), (18, .one (li .i64 r11.1.X0)), (17, .one (.ptr 5 0))] [] (by kernel_rfl) ?_
        refine SimI.done (by kernel_rfl) ?_
        refine SimE.thenN ?_
        refine Sim.block ?_
        refine Sim.loop ?_
        refine SimL.succ ?_
        refine Sim.seq ?_
        refine Sim.region [(1, .one (.ptr 1 0)), (3, .one (lnil)), (4, .one (li .i64 i9)), (9, .one (li .i64 i9)), (37, .agg [lb (decide (a0.X1 ≤ r11.1.X0)), lb (decide (r11.1.X1 ≤ a0.X0)), lb (decide (a0.Y1 ≤ r11.1.Y0)), lb (decide (r11.1.Y1 ≤ a0.Y0))]), (38, .one (li .i64 0))] ((1, some (.cells [li .i64 a0.X0, li .i64 a0.Y0, li .i64 a0.X1, li .i64 a0.Y1])) :: []) (by kernel_rfl) ?_
        refine SimI.run 1 [(39, .one (lb true))] [] (by kernel_rfl) ?_
        refine SimI.done (by kernel_rfl) ?_
        refine SimE.thenN ?_
        refine Sim.seq ?_
        refine Sim.condT (by kernel_rfl) ?_
        refine Sim.skip ?_
        refine SimE.thenN ?_
        refine Sim.seq ?_
        refine Sim.block ?_
        refine Sim.seq ?_
        refine Sim.region0 ?_
        refine SimI.run 2 [(8, .one (lb (decide (a0.X1 ≤ r11.1.X0)))), (40, .one (lb (decide (a0.X1 ≤ r11.1.X0))))] [] (by kernel_rfl) ?_
        refine SimI.done (by kernel_rfl) ?_
        refine SimE.thenN ?_
        refine Sim.seq ?_
        refine Sim.region0 ?_
        refine SimI.run 2 [(42, .one (lb (decide (a0.X1 ≤ r11.1.X0)))), (41, .one (lb (decide (a0.X1 ≤ r11.1.X0))))] [] (by kernel_rfl) ?_
        refine SimI.split 42 (decide (a0.X1 ≤ r11.1.X0)) (by kernel_rfl) ?_ ?_
        · refine SimI.run 3 [(45, .one (lb true)), (44, .tup []), (43, .tup [])] [] (by kernel_rfl) ?_
          refine SimI.done (by kernel_rfl) ?_
          refine SimE.thenN ?_
          refine Sim.condT (by kernel_rfl) ?_
          refine Sim.exit ?_
          refine SimE.blockY rfl ?_
          refine SimE.thenX ?_
          refine SimE.loopX ?_
          refine SimE.blockY rfl ?_
          refine SimE.thenX ?_
          refine SimE.blockX ?_
          refine SimE.thenN ?_
          refine Sim.region0 ?_
          refine SimI.run 2 [(9, .one (li .i64 (IntKind.wrap .i64 (i9 + 1)))), (51, .one (li .i64 (IntKind.wrap .i64 (i9 + 1))))] [] (by kernel_rfl) ?_
          refine SimI.done (by kernel_rfl) ?_
          refine SimE.loopN ?_
          refine SimL.pre (ts := [1, 3, 9]) (os := [1, 100003]) [(1, .one (.ptr 1 0)), (3, .one (ownL 100003 0 ([] : List Int))), (9, .one (li .i64 (IntKind.wrap .i64 (i9 + 1))))] ((1, some (.cells [li .i64 a0.X0, li .i64 a0.Y0, li .i64 a0.X1, li .i64 a0.Y1])) :: (ownM (codI .i64) 3 100003 0 ([] : List Int) [])) (by kernel_rfl) (by kernel_rfl) (by kernel_rfl) ?_
          exact ih_l10 ([] : List Int) (IntKind.wrap .i64 (i9 + 1)) 0
        · refine SimI.run 1 [(43, .agg [li .i64 a0.X0, li .i64 a0.Y0, li .i64 a0.X1, li .i64 a0.Y1])] [] (by kernel_rfl) ?_
          refine SimI.bind (og := F58 n a0) { dst := some 44, op := POp.call true [[]] 58 [Operand.tmp 43], guard := some (42, false), hints := [] } (fun r12 => [(44, .one (lb r12))]) (fun r12 => []) (by kernel_rfl) (fun r12 hr => pOp_eff (by kernel_rfl) (by kernel_rfl) (eff_call (ARGS := [.agg [li .i64 a0.X0, li .i64 a0.Y0, li .i64 a0.X1, li .i64 a0.Y1]]) (by kernel_rfl) (args_clean (by kernel_rfl) args_nil) (F58_ok n a0 r12 hr) (by kernel_rfl))) (fun r12 => ?_)
          refine SimI.run 1 [(45, .one (lb r12))] [] (by kernel_rfl) ?_
          refine SimI.done (by kernel_rfl) ?_
          refine SimE.thenN ?_
          refine Sim.cond r12 (by kernel_rfl) ?_ ?_
          · refine Sim.exit ?_
            refine SimE.blockY rfl ?_
            refine SimE.thenX ?_
            refine SimE.loopX ?_
            refine SimE.blockY rfl ?_
            refine SimE.thenX ?_
            refine SimE.blockX ?_
            refine SimE.thenN ?_
            refine Sim.region0 ?_
            refine SimI.run 2 [(9, .one (li .i64 (IntKind.wrap .i64 (i9 + 1)))), (51, .one (li .i64 (IntKind.wrap .i64 (i9 + 1))))] [] (by kernel_rfl) ?_
            refine SimI.done (by kernel_rfl) ?_
            refine SimE.loopN ?_
            refine SimL.pre (ts := [1, 3, 9]) (os := [1, 100003]) [(1, .one (.ptr 1 0)), (3, .one (ownL 100003 0 ([] : List Int))), (9, .one (li .i64 (IntKind.wrap .i64 (i9 + 1))))] ((1, some (.cells [li .i64 a0.X0, li .i64 a0.Y0, li .i64 a0.X1, li .i64 a0.Y1])) :: (ownM (codI .i64) 3 100003 0 ([] : List Int) [])) (by kernel_rfl) (by kernel_rfl) (by kernel_rfl) ?_
            exact ih_l10 ([] : List Int) (IntKind.wrap .i64 (i9 + 1)) 0
          · refine Sim.skip ?_
            refine SimE.blockN ?_
            refine SimE.thenN ?_
            refine Sim.region0 ?_
            refine SimI.run 2 [(38, .one (li .i64 1)), (46, .one (li .i64 1))] [] (by kernel_rfl) ?_
            refine SimI.done (by kernel_rfl) ?_
            refine SimE.loopN ?_
            refine SimL.succ ?_
            refine Sim.seq ?_
            refine Sim.region [(1, .one (.ptr 1 0)), (3, .one (lnil)), (4, .one (li .i64 i9)), (9, .one (li .i64 i9)), (37, .agg [lb (decide (a0.X1 ≤ r11.1.X0)), lb (decide (r11.1.X1 ≤ a0.X0)), lb (decide (a0.Y1 ≤ r11.1.Y0)), lb (decide (r11.1.Y1 ≤ a0.Y0))]), (38, .one (li .i64 1))] ((1, some (.cells [li .i64 a0.X0, li .i64 a0.Y0, li .i64 a0.X1, li .i64 a0.Y1])) :: []) (by kernel_rfl) ?_
            refine SimI.run 1 [(39, .one (lb true))] [] (by kernel_rfl) ?_
            refine SimI.done (by kernel_rfl) ?_
            refine SimE.thenN ?_
            refine Sim.seq ?_
            refine Sim.condT (by kernel_rfl) ?_
            refine Sim.skip ?_
            refine SimE.thenN ?_
            refine Sim.seq ?_
            refine Sim.block ?_
            refine Sim.seq ?_
            refine Sim.region0 ?_
            refine SimI.run 2 [(8, .one (lb (decide (r11.1.X1 ≤ a0.X0)))), (40, .one (lb (decide (r11.1.X1 ≤ a0.X0))))] [] (by kernel_rfl) ?_
            refine SimI.done (by kernel_rfl) ?_
            refine SimE.thenN ?_
            refine Sim.seq ?_
            refine Sim.region0 ?_
            refine SimI.run 2 [(42, .one (lb (decide (r11.1.X1 ≤ a0.X0)))), (41, .one (lb (decide (r11.1.X1 ≤ a0.X0))))] [] (by kernel_rfl) ?_
            refine SimI.split 42 (decide (r11.1.X1 ≤ a0.X0)) (by kernel_rfl) ?_ ?_
            · refine SimI.run 3 [(45, .one (lb true)), (44, .tup []), (43, .tup [])] [] (by kernel_rfl) ?_
              refine SimI.done (by kernel_rfl) ?_
              refine SimE.thenN ?_
              refine Sim.condT (by kernel_rfl) ?_
              refine Sim.exit ?_
              refine SimE.blockY rfl ?_
              refine SimE.thenX ?_
              refine SimE.loopX ?_
              refine SimE.blockY rfl ?_
              refine SimE.thenX ?_
              refine SimE.blockX ?_
              refine SimE.thenN ?_
              refine Sim.region0 ?_
              refine SimI.run 2 [(9, .one (li .i64 (IntKind.wrap .i64 (i9 + 1)))), (51, .one (li .i64 (IntKind.wrap .i64 (i9 + 1))))] [] (by kernel_rfl) ?_
              refine SimI.done (by kernel_rfl) ?_
              refine SimE.loopN ?_
              refine SimL.pre (ts := [1, 3, 9]) (os := [1, 100003]) [(1, .one (.ptr 1 0)), (3, .one (ownL 100003 0 ([] : List Int))), (9, .one (li .i64 (IntKind.wrap .i64 (i9 + 1))))] ((1, some (.cells [li .i64 a0.X0, li .i64 a0.Y0, li .i64 a0.X1, li .i64 a0.Y1])) :: (ownM (codI .i64) 3 100003 0 ([] : List Int) [])) (by kernel_rfl) (by kernel_rfl) (by kernel_rfl) ?_
              exact ih_l10 ([] : List Int) (IntKind.wrap .i64 (i9 + 1)) 0
            · refine SimI.run 1 [(43, .agg [li .i64 a0.X0, li .i64 a0.Y0, li .i64 a0.X1, li .i64 a0.Y1])] [] (by kernel_rfl) ?_
              refine SimI.bind (og := F58 n a0) { dst := some 44, op := POp.call true [[]] 58 [Operand.tmp 43], guard := some (42, false), hints := [] } (fun r13 => [(44, .one (lb r13))]) (fun r13 => []) (by kernel_rfl) (fun r13 hr => pOp_eff (by kernel_rfl) (by kernel_rfl) (eff_call (ARGS := [.agg [li .i64 a0.X0, li .i64 a0.Y0, li .i64 a0.X1, li .i64 a0.Y1]]) (by kernel_rfl) (args_clean (by kernel_rfl) args_nil) (F58_ok n a0 r13 hr) (by kernel_rfl))) (fun r13 => ?_)
              refine SimI.run 1 [(45, .one (lb r13))] [] (by kernel_rfl) ?_
              refine SimI.done (by kernel_rfl) ?_
              refine SimE.thenN ?_
              refine Sim.cond r13 (by kernel_rfl) ?_ ?_
              · refine Sim.exit ?_
                refine SimE.blockY rfl ?_
                refine SimE.thenX ?_
                refine SimE.loopX ?_
                refine SimE.blockY rfl ?_
                refine SimE.thenX ?_
                refine SimE.blockX ?_
                refine SimE.thenN ?_
                refine Sim.region0 ?_
                refine SimI.run 2 [(9, .one (li .i64 (IntKind.wrap .i64 (i9 + 1)))), (51, .one (li .i64 (IntKind.wrap .i64 (i9 + 1))))] [] (by kernel_rfl) ?_
                refine SimI.done (by kernel_rfl) ?_
                refine SimE.loopN ?_
                refine SimL.pre (ts := [1, 3, 9]) (os := [1, 100003]) [(1, .one (.ptr 1 0)), (3, .one (ownL 100003 0 ([] : List Int))), (9, .one (li .i64 (IntKind.wrap .i64 (i9 + 1))))] ((1, some (.cells [li .i64 a0.X0, li .i64 a0.Y0, li .i64 a0.X1, li .i64 a0.Y1])) :: (ownM (codI .i64) 3 100003 0 ([] : List Int) [])) (by kernel_rfl) (by kernel_rfl) (by kernel_rfl) ?_
                exact ih_l10 ([] : List Int) (IntKind.wrap .i64 (i9 + 1)) 0
              · refine Sim.skip ?_
                refine SimE.blockN ?_
                refine SimE.thenN ?_
                refine Sim.region0 ?_
                refine SimI.run 2 [(38, .one (li .i64 2)), (46, .one (li .i64 2))] [] (by kernel_rfl) ?_
                refine SimI.done (by kernel_rfl) ?_
                refine SimE.loopN ?_
                refine SimL.succ ?_
                refine Sim.seq ?_
                refine Sim.region [(1, .one (.ptr 1 0)), (3, .one (lnil)), (4, .one (li .i64 i9)), (9, .one (li .i64 i9)), (37, .agg [lb (decide (a0.X1 ≤ r11.1.X0)), lb (decide (r11.1.X1 ≤ a0.X0)), lb (decide (a0.Y1 ≤ r11.1.Y0)), lb (decide (r11.1.Y1 ≤ a0.Y0))]), (38, .one (li .i64 2))] ((1, some (.cells [li .i64 a0.X0, li .i64 a0.Y0, li .i64 a0.X1, li .i64 a0.Y1])) :: []) (by kernel_rfl) ?_
                refine SimI.run 1 [(39, .one (lb true))] [] (by kernel_rfl) ?_
                refine SimI.done (by kernel_rfl) ?_
                refine SimE.thenN ?_
                refine Sim.seq ?_
                refine Sim.condT (by kernel_rfl) ?_
                refine Sim.skip ?_
                refine SimE.thenN ?_
                refine Sim.seq ?_
                refine Sim.block ?_
                refine Sim.seq ?_
                refine Sim.region0 ?_
                refine SimI.run 2 [(8, .one (lb (decide (a0.Y1 ≤ r11.1.Y0)))), (40, .one (lb (decide (a0.Y1 ≤ r11.1.Y0))))] [] (by kernel_rfl) ?_
                refine SimI.done (by kernel_rfl) ?_
                refine SimE.thenN ?_
                refine Sim.seq ?_
                refine Sim.region0 ?_
                refine SimI.run 2 [(42, .one (lb (decide (a0.Y1 ≤ r11.1.Y0)))), (41, .one (lb (decide (a0.Y1 ≤ r11.1.Y0))))] [] (by kernel_rfl) ?_
                refine SimI.split 42 (decide (a0.Y1 ≤ r11.1.Y0)) (by kernel_rfl) ?_ ?_
                · refine SimI.run 3 [(45, .one (lb true)), (44, .tup []), (43, .tup [])] [] (by kernel_rfl) ?_
                  refine SimI.done (by kernel_rfl) ?_
                  refine SimE.thenN ?_
                  refine Sim.condT (by kernel_rfl) ?_
                  refine Sim.exit ?_
                  refine SimE.blockY rfl ?_
                  refine SimE.thenX ?_
                  refine SimE.loopX ?_
                  refine SimE.blockY rfl ?_
                  refine SimE.thenX ?_
                  refine SimE.blockX ?_
                  refine SimE.thenN ?_
                  refine Sim.region0 ?_
                  refine SimI.run 2 [(9, .one (li .i64 (IntKind.wrap .i64 (i9 + 1)))), (51, .one (li .i64 (IntKind.wrap .i64 (i9 + 1))))] [] (by kernel_rfl) ?_
                  refine SimI.done (by kernel_rfl) ?_
                  refine SimE.loopN ?_
                  refine SimL.pre (ts := [1, 3, 9]) (os := [1, 100003]) [(1, .one (.ptr 1 0)), (3, .one (ownL 100003 0 ([] : List Int))), (9, .one (li .i64 (IntKind.wrap .i64 (i9 + 1))))] ((1, some (.cells [li .i64 a0.X0, li .i64 a0.Y0, li .i64 a0.X1, li .i64 a0.Y1])) :: (ownM (codI .i64) 3 100003 0 ([] : List Int) [])) (by kernel_rfl) (by kernel_rfl) (by kernel_rfl) ?_
                  exact ih_l10 ([] : List Int) (IntKind.wrap .i64 (i9 + 1)) 0
                · refine SimI.run 1 [(43, .agg [li .i64 a0.X0, li .i64 a0.Y0, li .i64 a0.X1, li .i64 a0.Y1])] [] (by kernel_rfl) ?_
                  refine SimI.bind (og := F58 n a0) { dst := some 44, op := POp.call true [[]] 58 [Operand.tmp 43], guard := some (42, false), hints := [] } (fun r14 => [(44, .one (lb r14))]) (fun r14 => []) (by kernel_rfl) (fun r14 hr => pOp_eff (by kernel_rfl) (by kernel_rfl) (eff_call (ARGS := [.agg [li .i64 a0.X0, li .i64 a0.Y0, li .i64 a0.X1, li .i64 a0.Y1]]) (by kernel_rfl) (args_clean (by kernel_rfl) args_nil) (F58_ok n a0 r14 hr) (by kernel_rfl))) (fun r14 => ?_)
                  refine SimI.run 1 [(45, .one (lb r14))] [] (by kernel_rfl) ?_
                  refine SimI.done (by kernel_rfl) ?_
                  refine SimE.thenN ?_
                  refine Sim.cond r14 (by kernel_rfl) ?_ ?_
                  · refine Sim.exit ?_
                    refine SimE.blockY rfl ?_
                    refine SimE.thenX ?_
                    refine SimE.loopX ?_
                    refine SimE.blockY rfl ?_
                    refine SimE.thenX ?_
                    refine SimE.blockX ?_
                    refine SimE.thenN ?_
                    refine Sim.region0 ?_
                    refine SimI.run 2 [(9, .one (li .i64 (IntKind.wrap .i64 (i9 + 1)))), (51, .one (li .i64 (IntKind.wrap .i64 (i9 + 1))))] [] (by kernel_rfl) ?_
                    refine SimI.done (by kernel_rfl) ?_
                    refine SimE.loopN ?_
                    refine SimL.pre (ts := [1, 3, 9]) (os := [1, 100003]) [(1, .one (.ptr 1 0)), (3, .one (ownL 100003 0 ([] : List Int))), (9, .one (li .i64 (IntKind.wrap .i64 (i9 + 1))))] ((1, some (.cells [li .i64 a0.X0, li .i64 a0.Y0, li .i64 a0.X1, li .i64 a0.Y1])) :: (ownM (codI .i64) 3 100003 0 ([] : List Int) [])) (by kernel_rfl) (by kernel_rfl) (by kernel_rfl) ?_
                    exact ih_l10 ([] : List Int) (IntKind.wrap .i64 (i9 + 1)) 0
                  · refine Sim.skip ?_
                    refine SimE.blockN ?_
                    refine SimE.thenN ?_
                    refine Sim.region0 ?_
                    refine SimI.run 2 [(38, .one (li .i64 3)), (46, .one (li .i64 3))] [] (by kernel_rfl) ?_
                    refine SimI.done (by kernel_rfl) ?_
                    refine SimE.loopN ?_
                    refine SimL.succ ?_
                    refine Sim.seq ?_
                    refine Sim.region [(1, .one (.ptr 1 0)), (3, .one (lnil)), (4, .one (li .i64 i9)), (9, .one (li .i64 i9)), (37, .agg [lb (decide (a0.X1 ≤ r11.1.X0)), lb (decide (r11.1.X1 ≤ a0.X0)), lb (decide (a0.Y1 ≤ r11.1.Y0)), lb (decide (r11.1.Y1 ≤ a0.Y0))]), (38, .one (li .i64 3))] ((1, some (.cells [li .i64 a0.X0, li .i64 a0.Y0, li .i64 a0.X1, li .i64 a0.Y1])) :: []) (by kernel_rfl) ?_
                    refine SimI.run 1 [(39, .one (lb true))] [] (by kernel_rfl) ?_
                    refine SimI.done (by kernel_rfl) ?_
                    refine SimE.thenN ?_
                    refine Sim.seq ?_
                    refine Sim.condT (by kernel_rfl) ?_
                    refine Sim.skip ?_
                    refine SimE.thenN ?_
                    refine Sim.seq ?_
                    refine Sim.block ?_
                    refine Sim.seq ?_
                    refine Sim.region0 ?_
                    refine SimI.run 2 [(8, .one (lb (decide (r11.1.Y1 ≤ a0.Y0)))), (40, .one (lb (decide (r11.1.Y1 ≤ a0.Y0))))] [] (by kernel_rfl) ?_
                    refine SimI.done (by kernel_rfl) ?_
                    refine SimE.thenN ?_
                    refine Sim.seq ?_
                    refine Sim.region0 ?_
                    refine SimI.run 2 [(42, .one (lb (decide (r11.1.Y1 ≤ a0.Y0)))), (41, .one (lb (decide (r11.1.Y1 ≤ a0.Y0))))] [] (by kernel_rfl) ?_
                    refine SimI.split 42 (decide (r11.1.Y1 ≤ a0.Y0)) (by kernel_rfl) ?_ ?_
                    · refine SimI.run 3 [(45, .one (lb true)), (44, .tup []), (43, .tup [])] [] (by kernel_rfl) ?_
                      refine SimI.done (by kernel_rfl) ?_
                      refine SimE.thenN ?_
                      refine Sim.condT (by kernel_rfl) ?_
                      refine Sim.exit ?_
                      refine SimE.blockY rfl ?_
                      refine SimE.thenX ?_
                      refine SimE.loopX ?_
                      refine SimE.blockY rfl ?_
                      refine SimE.thenX ?_
                      refine SimE.blockX ?_
                      refine SimE.thenN ?_
                      refine Sim.region0 ?_
                      refine SimI.run 2 [(9, .one (li .i64 (IntKind.wrap .i64 (i9 + 1)))), (51, .one (li .i64 (IntKind.wrap .i64 (i9 + 1))))] [] (by kernel_rfl) ?_
                      refine SimI.done (by kernel_rfl) ?_
                      refine SimE.loopN ?_
                      refine SimL.pre (ts := [1, 3, 9]) (os := [1, 100003]) [(1, .one (.ptr 1 0)), (3, .one (ownL 100003 0 ([] : List Int))), (9, .one (li .i64 (IntKind.wrap .i64 (i9 + 1))))] ((1, some (.cells [li .i64 a0.X0, li .i64 a0.Y0, li .i64 a0.X1, li .i64 a0.Y1])) :: (ownM (codI .i64) 3 100003 0 ([] : List Int) [])) (by kernel_rfl) (by kernel_rfl) (by kernel_rfl) ?_
                      exact ih_l10 ([] : List Int) (IntKind.wrap .i64 (i9 + 1)) 0
                    · refine SimI.run 1 [(43, .agg [li .i64 a0.X0, li .i64 a0.Y0, li .i64 a0.X1, li .i64 a0.Y1])] [] (by kernel_rfl) ?_
                      refine SimI.bind (og := F58 n a0) { dst := some 44, op := POp.call true [[]] 58 [Operand.tmp 43], guard := some (42, false), hints := [] } (fun r15 => [(44, .one (lb r15))]) (fun r15 => []) (by kernel_rfl) (fun r15 hr => pOp_eff (by kernel_rfl) (by kernel_rfl) (eff_call (ARGS := [.agg [li .i64 a0.X0, li .i64 a0.Y0, li .i64 a0.X1, li .i64 a0.Y1]]) (by kernel_rfl) (args_clean (by kernel_rfl) args_nil) (F58_ok n a0 r15 hr) (by kernel_rfl))) (fun r15 => ?_)
                      refine SimI.run 1 [(45, .one (lb r15))] [] (by kernel_rfl) ?_
                      refine SimI.done (by kernel_rfl) ?_
                      refine SimE.thenN ?_
                      refine Sim.cond r15 (by kernel_rfl) ?_ ?_
                      · refine Sim.exit ?_
                        refine SimE.blockY rfl ?_
                        refine SimE.thenX ?_
                        refine SimE.loopX ?_
                        refine SimE.blockY rfl ?_
                        refine SimE.thenX ?_
                        refine SimE.blockX ?_
                        refine SimE.thenN ?_
                        refine Sim.region0 ?_
                        refine SimI.run 2 [(9, .one (li .i64 (IntKind.wrap .i64 (i9 + 1)))), (51, .one (li .i64 (IntKind.wrap .i64 (i9 + 1))))] [] (by kernel_rfl) ?_
                        refine SimI.done (by kernel_rfl) ?_
                        refine SimE.loopN ?_
                        refine SimL.pre (ts := [1, 3, 9]) (os := [1, 100003]) [(1, .one (.ptr 1 0)), (3, .one (ownL 100003 0 ([] : List Int))), (9, .one (li .i64 (IntKind.wrap .i64 (i9 + 1))))] ((1, some (.cells [li .i64 a0.X0, li .i64 a0.Y0, li .i64 a0.X1, li .i64 a0.Y1])) :: (ownM (codI .i64) 3 100003 0 ([] : List Int) [])) (by kernel_rfl) (by kernel_rfl) (by kernel_rfl) ?_
                        exact ih_l10 ([] : List Int) (IntKind.wrap .i64 (i9 + 1)) 0
                      · refine Sim.skip ?_
                        refine SimE.blockN ?_
                        refine SimE.thenN ?_
                        refine Sim.region0 ?_
                        refine SimI.run 2 [(38, .one (li .i64 4)), (46, .one (li .i64 4))] [] (by kernel_rfl) ?_
                        refine SimI.done (by kernel_rfl) ?_
                        refine SimE.loopN ?_
                        refine SimL.succ ?_
                        refine Sim.seq ?_
                        refine Sim.region [(1, .one (.ptr 1 0)), (3, .one (lnil)), (4, .one (li .i64 i9)), (9, .one (li .i64 i9)), (37, .agg [lb (decide (a0.X1 ≤ r11.1.X0)), lb (decide (r11.1.X1 ≤ a0.X0)), lb (decide (a0.Y1 ≤ r11.1.Y0)), lb (decide (r11.1.Y1 ≤ a0.Y0))]), (38, .one (li .i64 4))] ((1, some (.cells [li .i64 a0.X0, li .i64 a0.Y0, li .i64 a0.X1, li .i64 a0.Y1])) :: []) (by kernel_rfl) ?_
                        refine SimI.run 1 [(39, .one (lb false))] [] (by kernel_rfl) ?_
                        refine SimI.done (by kernel_rfl) ?_
                        refine SimE.thenN ?_
                        refine Sim.seq ?_
                        refine Sim.condF (by kernel_rfl) ?_
                        refine Sim.exit ?_
                        refine SimE.thenX ?_
                        refine SimE.loopX ?_
                        refine SimE.blockX ?_
                        refine SimE.thenN ?_
                        refine Sim.region0 ?_
                        refine SimI.run 3 [(49, .one (vw (codI .i64) [i9])), (48, .one (li .i64 i9)), (47, .one (lnil))] [] (by kernel_rfl) ?_
                        refine SimI.guard (c := (([] : List Int).length + 1) * 8 ≤ maxCells ∧ ([] : List Int).length + 1 ≤ maxCells) { dst := some 50, op := POp.app 100003 3 1 8 (Operand.tmp 47) (Operand.tmp 49), guard := none, hints := [] } [(50, .one (.osl 100003 0 0 ([i9]).length))] [(100003, some (.arr 3 (codI .i64).sz 0 ([i9]).length (getOf (codI .i64) [i9])))] (by kernel_rfl) (fun hc => pOp_eff (by kernel_rfl) (by kernel_rfl) (eff_appN (c := (codI .i64)) (a := i9) (by kernel_rfl) (by kernel_rfl) (by kernel_rfl) (by kernel_rfl) (by kernel_rfl) (by kernel_rfl))) ?_
                        refine SimI.run 1 [(3, .one (.osl 100003 0 0 ([i9]).length))] [] (by kernel_rfl) ?_
                        refine SimI.done (by kernel_rfl) ?_
                        refine SimE.blockN ?_
                        refine SimE.thenN ?_
                        refine Sim.region0 ?_
                        refine SimI.run 2 [(9, .one (li .i64 (IntKind.wrap .i64 (i9 + 1)))), (51, .one (li .i64 (IntKind.wrap .i64 (i9 + 1))))] [] (by kernel_rfl) ?_
                        refine SimI.done (by kernel_rfl) ?_
                        refine SimE.loopN ?_
                        refine SimL.pre (ts := [1, 3, 9]) (os := [1, 100003]) [(1, .one (.ptr 1 0)), (3, .one (ownL 100003 0 [i9])), (9, .one (li .i64 (IntKind.wrap .i64 (i9 + 1))))] ((1, some (.cells [li .i64 a0.X0, li .i64 a0.Y0, li .i64 a0.X1, li .i64 a0.Y1])) :: (ownM (codI .i64) 3 100003 0 [i9] [])) (by kernel_rfl) (by kernel_rfl) (by kernel_rfl) ?_
                        exact ih_l10 [i9] (IntKind.wrap .i64 (i9 + 1)) 0
      · refine Sim.exit ?_
        refine SimE.thenX ?_
        refine SimE.loopX ?_
        refine SimE.blockX ?_
        refine SimE.thenN ?_
        refine Sim.seq ?_
        refine Sim.region0 ?_
        refine SimI.run 2 [(2, .one (lnil)), (52, .one (lnil))] [] (by kernel_rfl) ?_
        refine SimI.done (by kernel_rfl) ?_
        refine SimE.thenN ?_
        refine Sim.ret ?_
        exact SimE.fin (by kernel_rfl)
    | cons l7h l7t =>
      refine SimL.succ ?_
      unfold F29_l10
      refine Sim.seq ?_
      refine Sim.region [(1, .one (.ptr 1 0)), (3, .one (.osl 100003 g8 0 ((l7h :: l7t)).length)), (9, .one (li .i64 i9))] ((1, some (.cells [li .i64 a0.X0, li .i64 a0.Y0, li .i64 a0.X1, li .i64 a0.Y1])) :: ((100003, some (.arr 3 (codI .i64).sz g8 ((l7h :: l7t)).length (getOf (codI .i64) (l7h :: l7t)))) :: [])) (by kernel_rfl) ?_
      refine SimI.run 1 [(10, .one (lb (decide (i9 < 16))))] [] (by kernel_rfl) ?_
      refine SimI.done (by kernel_rfl) ?_
      refine SimE.thenN ?_
      refine Sim.seq ?_
      refine Sim.cond (decide (i9 < 16)) (by kernel_rfl) ?_ ?_
      · refine Sim.skip ?_
        refine SimE.thenN ?_
        refine Sim.seq ?_
        refine Sim.block ?_
        refine Sim.seq ?_
        refine Sim.region0 ?_
        refine SimI.run 2 [(4, .one (li .i64 i9)), (11, .one (li .i64 i9))] [] (by kernel_rfl) ?_
        refine SimI.done (by kernel_rfl) ?_
        refine SimE.thenN ?_
        refine Sim.seq ?_
        refine Sim.region0 ?_
        refine SimI.run 1 [(13, .one (li .i64 i9))] [] (by kernel_rfl) ?_
        refine SimI.bind (og := F27 n i9) { dst := some 14, op := POp.call true [[]] 27 [Operand.tmp 13], guard := none, hints := [] } (fun r11 => [(14, .tup [.agg [li .i64 r11.1.X0, li .i64 r11.1.Y0, li .i64 r11.1.X1, li .i64 r11.1.Y1], .one (lb r11.2)])]) (fun r11 => []) (by kernel_rfl) (fun r11 hr => pOp_eff (by kernel_rfl) (by kernel_rfl) (eff_call (ARGS := [.one (li .i64 i9)]) (by kernel_rfl) (args_clean (by kernel_rfl) args_nil) (F27_ok n i9 r11 hr) (by kernel_rfl))) (fun r11 => ?_)
        refine SimI.run 6 [(6, .one (lb r11.2)), (5, .one (.ptr 5 0)), (16, .one (lb r11.2)), (15, .agg [li .i64 r11.1.X0, li .i64 r11.1.Y0, li .i64 r11.1.X1, li .i64 r11.1.Y1]), (12, .tup [.agg [li .i64 r11.1.X0, li .i64 r11.1.Y0, li .i64 r11.1.X1, li .i64 r11.1.Y1], .one (lb r11.2)])] [(5, some (.cells [li .i64 r11.1.X0, li .i64 r11.1.Y0, li .i64 r11.1.X1, li .i64 r11.1.Y1])), (5, some (.cells [li .i64 0, li .i64 0, li .i64 0, li .i64 0]))] (by kernel_rfl) ?_
        refine SimI.done (by kernel_rfl) ?_
        refine SimE.thenN ?_
        refine Sim.seq ?_
        refine Sim.seq ?_
        refine Sim.region0 ?_
        refine SimI.run 22 [(38, .one (li .i64 0)), (37, .agg [lb (decide (a0.X1 ≤ r11.1.X0)), lb (decide (r11.1.X1 ≤ a0.X0)), lb (decide (a0.Y1 ≤ r11.1.Y0)), lb (decide (r11.1.Y1 ≤ a0.Y0))]), (36, .one (lb (decide (r11.1.Y1 ≤ a0.Y0)))), (35, .one (li .i64 a0.Y0)), (34, .one (.ptr 1 1)), (33, .one (li .i64 r11.1.Y1)), (32, .one (.ptr 5 3)), (31, .one (lb (decide (a0.Y1 ≤ r11.1.Y0)))), (30, .one (li .i64 a0.Y1)), (29, .one (.ptr 1 3)), (28, .one (li .i64 r11.1.Y0)), (27, .one (.ptr 5 1)), (26, .one (lb (decide (r11.1.X1 ≤ a0.X0)))), (25, .one (li .i64 a0.X0)), (24, .one (.ptr 1 0)), (23, .one (li .i64 r11.1.X1)), (22, .one (.ptr 5 2)), (21, .one (lb (decide (a0.X1 ≤ r11.1.X0)))), (20, .one (li .i64 a0.X1)), (19, .one (.ptr 1 2)), (18, .one (li .i64 r11.1.X0)), (17, .one (.ptr 5 0))] [] (by kernel_rfl) ?_
        refine SimI.done (by kernel_rfl) ?_
        refine SimE.thenN ?_
        refine Sim.block ?_
        refine Sim.loop ?_
        refine SimL.succ ?_
        refine Sim.seq ?_
        refine Sim.region [(1, .one (.ptr 1 0)), (3, .one (.osl 100003 g8 0 ((l7h :: l7t)).length)), (4, .one (li .i64 i9)), (9, .one (li .i64 i9)), (37, .agg [lb (decide (a0.X1 ≤ r11.1.X0)), lb (decide (r11.1.X1 ≤ a0.X0)), lb (decide (a0.Y1 ≤ r11.1.Y0)), lb (decide (r11.1.Y1 ≤ a0.Y0))]), (38, .one (li .i64 0))] ((1, some (.cells [li .i64 a0.X0, li .i64 a0.Y0, li .i64 a0.X1, li .i64 a0.Y1])) :: ((100003, some (.arr 3 (codI .i64).sz g8 ((l7h :: l7t)).length (getOf (codI .i64) (l7h :: l7t)))) :: [])) (by kernel_rfl) ?_
        refine SimI.run 1 [(39, .one (lb true))] [] (by kernel_rfl) ?_
        refine SimI.done (by kernel_rfl) ?_
        refine SimE.thenN ?_
        refine Sim.seq ?_
        refine Sim.condT (by kernel_rfl) ?_
        refine Sim.skip ?_
        refine SimE.thenN ?_
        refine Sim.seq ?_
        refine Sim.block ?_
        refine Sim.seq ?_
        refine Sim.region0 ?_
        refine SimI.run 2 [(8, .one (lb (decide (a0.X1 ≤ r11.1.X0)))), (40, .one (lb (decide (a0.X1 ≤ r11.1.X0))))] [] (by kernel_rfl) ?_
        refine SimI.done (by kernel_rfl) ?_
        refine SimE.thenN ?_
        refine Sim.seq ?_
        refine Sim.region0 ?_
        refine SimI.run 2 [(42, .one (lb (decide (a0.X1 ≤ r11.1.X0)))), (41, .one (lb (decide (a0.X1 ≤ r11.1.X0))))] [] (by kernel_rfl) ?_
        refine SimI.split 42 (decide (a0.X1 ≤ r11.1.X0)) (by kernel_rfl) ?_ ?_
        · refine SimI.run 3 [(45, .one (lb true)), (44, .tup []), (43, .tup [])] [] (by kernel_rfl) ?_
          refine SimI.done (by kernel_rfl) ?_
          refine SimE.thenN ?_
          refine Sim.condT (by kernel_rfl) ?_
          refine Sim.exit ?_
          refine SimE.blockY rfl ?_
          refine SimE.thenX ?_
          refine SimE.loopX ?_
          refine SimE.blockY rfl ?_
          refine SimE.thenX ?_
          refine SimE.blockX ?_
          refine SimE.thenN ?_
          refine Sim.region0 ?_
          refine SimI.run 2 [(9, .one (li .i64 (IntKind.wrap .i64 (i9 + 1)))), (51, .one (li .i64 (IntKind.wrap .i64 (i9 + 1))))] [] (by kernel_rfl) ?_
          refine SimI.done (by kernel_rfl) ?_
          refine SimE.loopN ?_
          refine SimL.pre (ts := [1, 3, 9]) (os := [1, 100003]) [(1, .one (.ptr 1 0)), (3, .one (ownL 100003 g8 (l7h :: l7t))), (9, .one (li .i64 (IntKind.wrap .i64 (i9 + 1))))] ((1, some (.cells [li .i64 a0.X0, li .i64 a0.Y0, li .i64 a0.X1, li .i64 a0.Y1])) :: (ownM (codI .i64) 3 100003 g8 (l7h :: l7t) [])) (by kernel_rfl) (by kernel_rfl) (by kernel_rfl) ?_
          exact ih_l10 (l7h :: l7t) (IntKind.wrap .i64 (i9 + 1)) g8
        · refine SimI.run 1 [(43, .agg [li .i64 a0.X0, li .i64 a0.Y0, li .i64 a0.X1, li .i64 a0.Y1])] [] (by kernel_rfl) ?_
          refine SimI.bind (og := F58 n a0) { dst := some 44, op := POp.call true [[]] 58 [Operand.tmp 43], guard := some (42, false), hints := [] } (fun r12 => [(44, .one (lb r12))]) (fun r12 => []) (by kernel_rfl) (fun r12 hr => pOp_eff (by kernel_rfl) (by kernel_rfl) (eff_call (ARGS := [.agg [li .i64 a0.X0, li .i64 a0.Y0, li .i64 a0.X1, li .i64 a0.Y1]]) (by kernel_rfl) (args_clean (by kernel_rfl) args_nil) (F58_ok n a0 r12 hr) (by kernel_rfl))) (fun r12 => ?_)
          refine SimI.run 1 [(45, .one (lb r12))] [] (by kernel_rfl) ?_
          refine SimI.done (by kernel_rfl) ?_
          refine SimE.thenN ?_
          refine Sim.cond r12 (by kernel_rfl) ?_ ?_
          · refine Sim.exit ?_
            refine SimE.blockY rfl ?_
            refine SimE.thenX ?_
            refine SimE.loopX ?_
            refine SimE.blockY rfl ?_
            refine SimE.thenX ?_
            refine SimE.blockX ?_
            refine SimE.thenN ?_
            refine Sim.region0 ?_
            refine SimI.run 2 [(9, .one (li .i64 (IntKind.wrap .i64 (i9 + 1)))), (51, .one (li .i64 (IntKind.wrap .i64 (i9 + 1))))] [] (by kernel_rfl) ?_
            refine SimI.done (by kernel_rfl) ?_
            refine SimE.loopN ?_
            refine SimL.pre (ts := [1, 3, 9]) (os := [1, 100003]) [(1, .one (.ptr 1 0)), (3, .one (ownL 100003 g8 (l7h :: l7t))), (9, .one (li .i64 (IntKind.wrap .i64 (i9 + 1))))] ((1, some (.cells [li .i64 a0.X0, li .i64 a0.Y0, li .i64 a0.X1, li .i64 a0.Y1])) :: (ownM (codI .i64) 3 100003 g8 (l7h :: l7t) [])) (by kernel_rfl) (by kernel_rfl) (by kernel_rfl) ?_
            exact ih_l10 (l7h :: l7t) (IntKind.wrap .i64 (i9 + 1)) g8
          · refine Sim.skip ?_
            refine SimE.blockN ?_
            refine SimE.thenN ?_
            refine Sim.region0 ?_
            refine SimI.run 2 [(38, .one (li .i64 1)), (46, .one (li .i64 1))] [] (by kernel_rfl) ?_
            refine SimI.done (by kernel_rfl) ?_
            refine SimE.loopN ?_
            refine SimL.succ ?_
            refine Sim.seq ?_
            refine Sim.region [(1, .one (.ptr 1 0)), (3, .one (.osl 100003 g8 0 ((l7h :: l7t)).length)), (4, .one (li .i64 i9)), (9, .one (li .i64 i9)), (37, .agg [lb (decide (a0.X1 ≤ r11.1.X0)), lb (decide (r11.1.X1 ≤ a0.X0)), lb (decide (a0.Y1 ≤ r11.1.Y0)), lb (decide (r11.1.Y1 ≤ a0.Y0))]), (38, .one (li .i64 1))] ((1, some (.cells [li .i64 a0.X0, li .i64 a0.Y0, li .i64 a0.X1, li .i64 a0.Y1])) :: ((100003, some (.arr 3 (codI .i64).sz g8 ((l7h :: l7t)).length (getOf (codI .i64) (l7h :: l7t)))) :: [])) (by kernel_rfl) ?_
            refine SimI.run 1 [(39, .one (lb true))] [] (by kernel_rfl) ?_
            refine SimI.done (by kernel_rfl) ?_
            refine SimE.thenN ?_
            refine Sim.seq ?_
            refine Sim.condT (by kernel_rfl) ?_
            refine Sim.skip ?_
            refine SimE.thenN ?_
            refine Sim.seq ?_
            refine Sim.block ?_
            refine Sim.seq ?_
            refine Sim.region0 ?_
            refine SimI.run 2 [(8, .one (lb (decide (r11.1.X1 ≤ a0.X0)))), (40, .one (lb (decide (r11.1.X1 ≤ a0.X0))))] [] (by kernel_rfl) ?_
            refine SimI.done (by kernel_rfl) ?_
            refine SimE.thenN ?_
            refine Sim.seq ?_
            refine Sim.region0 ?_
            refine SimI.run 2 [(42, .one (lb (decide (r11.1.X1 ≤ a0.X0)))), (41, .one (lb (decide (r11.1.X1 ≤ a0.X0))))] [] (by kernel_rfl) ?_
            refine SimI.split 42 (decide (r11.1.X1 ≤ a0.X0)) (by kernel_rfl) ?_ ?_
            · refine SimI.run 3 [(45, .one (lb true)), (44, .tup []), (43, .tup [])] [] (by kernel_rfl) ?_
              refine SimI.done (by kernel_rfl) ?_
              refine SimE.thenN ?_
              refine Sim.condT (by kernel_rfl) ?_
              refine Sim.exit ?_
              refine SimE.blockY rfl ?_
              refine SimE.thenX ?_
              refine SimE.loopX ?_
              refine SimE.blockY rfl ?_
              refine SimE.thenX ?_
              refine SimE.blockX ?_
              refine SimE.thenN ?_
              refine Sim.region0 ?_
              refine SimI.run 2 [(9, .one (li .i64 (IntKind.wrap .i64 (i9 + 1)))), (51, .one (li .i64 (IntKind.wrap .i64 (i9 + 1))))] [] (by kernel_rfl) ?_
              refine SimI.done (by kernel_rfl) ?_
              refine SimE.loopN ?_
              refine SimL.pre (ts := [1, 3, 9]) (os := [1, 100003]) [(1, .one (.ptr 1 0)), (3, .one (ownL 100003 g8 (l7h :: l7t))), (9, .one (li .i64 (IntKind.wrap .i64 (i9 + 1))))] ((1, some (.cells [li .i64 a0.X0, li .i64 a0.Y0, li .i64 a0.X1, li .i64 a0.Y1])) :: (ownM (codI .i64) 3 100003 g8 (l7h :: l7t) [])) (by kernel_rfl) (by kernel_rfl) (by kernel_rfl) ?_
              exact ih_l10 (l7h :: l7t) (IntKind.wrap .i64 (i9 + 1)) g8
            · refine SimI.run 1 [(43, .agg [li .i64 a0.X0, li .i64 a0.Y0, li .i64 a0.X1, li .i64 a0.Y1])] [] (by kernel_rfl) ?_
              refine SimI.bind (og := F58 n a0) { dst := some 44, op := POp.call true [[]] 58 [Operand.tmp 43], guard := some (42, false), hints := [] } (fun r13 => [(44, .one (lb r13))]) (fun r13 => []) (by kernel_rfl) (fun r13 hr => pOp_eff (by kernel_rfl) (by kernel_rfl) (eff_call (ARGS := [.agg [li .i64 a0.X0, li .i64 a0.Y0, li .i64 a0.X1, li .i64 a0.Y1]]) (by kernel_rfl) (args_clean (by kernel_rfl) args_nil) (F58_ok n a0 r13 hr) (by kernel_rfl))) (fun r13 => ?_)
              refine SimI.run 1 [(45, .one (lb r13))] [] (by kernel_rfl) ?_
              refine SimI.done (by kernel_rfl) ?_
              refine SimE.thenN ?_
              refine Sim.cond r13 (by kernel_rfl) ?_ ?_
              · refine Sim.exit ?_
                refine SimE.blockY rfl ?_
                refine SimE.thenX ?_
                refine SimE.loopX ?_
                refine SimE.blockY rfl ?_
                refine SimE.thenX ?_
                refine SimE.blockX ?_
                refine SimE.thenN ?_
                refine Sim.region0 ?_
                refine SimI.run 2 [(9, .one (li .i64 (IntKind.wrap .i64 (i9 + 1)))), (51, .one (li .i64 (IntKind.wrap .i64 (i9 + 1))))] [] (by kernel_rfl) ?_
                refine SimI.done (by kernel_rfl) ?_
                refine SimE.loopN ?_
                refine SimL.pre (ts := [1, 3, 9]) (os := [1, 100003]) [(1, .one (.ptr 1 0)), (3, .one (ownL 100003 g8 (l7h :: l7t))), (9, .one (li .i64 (IntKind.wrap .i64 (i9 + 1))))] ((1, some (.cells [li .i64 a0.X0, li .i64 a0.Y0, li .i64 a0.X1, li .i64 a0.Y1])) :: (ownM (codI .i64) 3 100003 g8 (l7h :: l7t) [])) (by kernel_rfl) (by kernel_rfl) (by kernel_rfl) ?_
                exact ih_l10 (l7h :: l7t) (IntKind.wrap .i64 (i9 + 1)) g8
              · refine Sim.skip ?_
                refine SimE.blockN ?_
                refine SimE.thenN ?_
                refine Sim.region0 ?_
                refine SimI.run 2 [(38, .one (li .i64 2)), (46, .one (li .i64 2))] [] (by kernel_rfl) ?_
                refine SimI.done (by kernel_rfl) ?_
                refine SimE.loopN ?_
                refine SimL.succ ?_
                refine Sim.seq ?_
                refine Sim.region [(1, .one (.ptr 1 0)), (3, .one (.osl 100003 g8 0 ((l7h :: l7t)).length)), (4, .one (li .i64 i9)), (9, .one (li .i64 i9)), (37, .agg [lb (decide (a0.X1 ≤ r11.1.X0)), lb (decide (r11.1.X1 ≤ a0.X0)), lb (decide (a0.Y1 ≤ r11.1.Y0)), lb (decide (r11.1.Y1 ≤ a0.Y0))]), (38, .one (li .i64 2))] ((1, some (.cells [li .i64 a0.X0, li .i64 a0.Y0, li .i64 a0.X1, li .i64 a0.Y1])) :: ((100003, some (.arr 3 (codI .i64).sz g8 ((l7h :: l7t)).length (getOf (codI .i64) (l7h :: l7t)))) :: [])) (by kernel_rfl) ?_
                refine SimI.run 1 [(39, .one (lb true))] [] (by kernel_rfl) ?_
                refine SimI.done (by kernel_rfl) ?_
                refine SimE.thenN ?_
                refine Sim.seq ?_
                refine Sim.condT (by kernel_rfl) ?_
                refine Sim.skip ?_
                refine SimE.thenN ?_
                refine Sim.seq ?_
                refine Sim.block ?_
                refine Sim.seq ?_
                refine Sim.region0 ?_
                refine SimI.run 2 [(8, .one (lb (decide (a0.Y1 ≤ r11.1.Y0)))), (40, .one (lb (decide (a0.Y1 ≤ r11.1.Y0))))] [] (by kernel_rfl) ?_
                refine SimI.done (by kernel_rfl) ?_
                refine SimE.thenN ?_
                refine Sim.seq ?_
                refine Sim.region0 ?_
                refine SimI.run 2 [(42, .one (lb (decide (a0.Y1 ≤ r11.1.Y0)))), (41, .one (lb (decide (a0.Y1 ≤ r11.1.Y0))))] [] (by kernel_rfl) ?_
                refine SimI.split 42 (decide (a0.Y1 ≤ r11.1.Y0)) (by kernel_rfl) ?_ ?_
                · refine SimI.run 3 [(45, .one (lb true)), (44, .tup []), (43, .tup [])] [] (by kernel_rfl) ?_
                  refine SimI.done (by kernel_rfl) ?_
                  refine SimE.thenN ?_
                  refine Sim.condT (by kernel_rfl) ?_
                  refine Sim.exit ?_
                  refine SimE.blockY rfl ?_
                  refine SimE.thenX ?_
                  refine SimE.loopX ?_
                  refine SimE.blockY rfl ?_
                  refine SimE.thenX ?_
                  refine SimE.blockX ?_
                  refine SimE.thenN ?_
                  refine Sim.region0 ?_
                  refine SimI.run 2 [(9, .one (li .i64 (IntKind.wrap .i64 (i9 + 1)))), (51, .one (li .i64 (IntKind.wrap .i64 (i9 + 1))))] [] (by kernel_rfl) ?_
                  refine SimI.done (by kernel_rfl) ?_
                  refine SimE.loopN ?_
                  refine SimL.pre (ts := [1, 3, 9]) (os := [1, 100003]) [(1, .one (.ptr 1 0)), (3, .one (ownL 100003 g8 (l7h :: l7t))), (9, .one (li .i64 (IntKind.wrap .i64 (i9 + 1))))] ((1, some (.cells [li .i64 a0.X0, li .i64 a0.Y0, li .i64 a0.X1, li .i64 a0.Y1])) :: (ownM (codI .i64) 3 100003 g8 (l7h :: l7t) [])) (by kernel_rfl) (by kernel_rfl) (by kernel_rfl) ?_
                  exact ih_l10 (l7h :: l7t) (IntKind.wrap .i64 (i9 + 1)) g8
                · refine SimI.run 1 [(43, .agg [li .i64 a0.X0, li .i64 a0.Y0, li .i64 a0.X1, li .i64 a0.Y1])] [] (by kernel_rfl) ?_
                  refine SimI.bind (og := F58 n a0) { dst := some 44, op := POp.call true [[]] 58 [Operand.tmp 43], guard := some (42, false), hints := [] } (fun r14 => [(44, .one (lb r14))]) (fun r14 => []) (by kernel_rfl) (fun r14 hr => pOp_eff (by kernel_rfl) (by kernel_rfl) (eff_call (ARGS := [.agg [li .i64 a0.X0, li .i64 a0.Y0, li .i64 a0.X1, li .i64 a0.Y1]]) (by kernel_rfl) (args_clean (by kernel_rfl) args_nil) (F58_ok n a0 r14 hr) (by kernel_rfl))) (fun r14 => ?_)
                  refine SimI.run 1 [(45, .one (lb r14))] [] (by kernel_rfl) ?_
                  refine SimI.done (by kernel_rfl) ?_
                  refine SimE.thenN ?_
                  refine Sim.cond r14 (by kernel_rfl) ?_ ?_
                  · refine Sim.exit ?_
                    refine SimE.blockY rfl ?_
                    refine SimE.thenX ?_
                    refine SimE.loopX ?_
                    refine SimE.blockY rfl ?_
                    refine SimE.thenX ?_
                    refine SimE.blockX ?_
                    refine SimE.thenN ?_
                    refine Sim.region0 ?_
                    refine SimI.run 2 [(9, .one (li .i64 (IntKind.wrap .i64 (i9 + 1)))), (51, .one (li .i64 (IntKind.wrap .i64 (i9 + 1))))] [] (by kernel_rfl) ?_
                    refine SimI.done (by kernel_rfl) ?_
                    refine SimE.loopN ?_
                    refine SimL.pre (ts := [1, 3, 9]) (os := [1, 100003]) [(1, .one (.ptr 1 0)), (3, .one (ownL 100003 g8 (l7h :: l7t))), (9, .one (li .i64 (IntKind.wrap .i64 (i9 + 1))))] ((1, some (.cells [li .i64 a0.X0, li .i64 a0.Y0, li .i64 a0.X1, li .i64 a0.Y1])) :: (ownM (codI .i64) 3 100003 g8 (l7h :: l7t) [])) (by kernel_rfl) (by kernel_rfl) (by kernel_rfl) ?_
                    exact ih_l10 (l7h :: l7t) (IntKind.wrap .i64 (i9 + 1)) g8
                  · refine Sim.skip ?_
                    refine SimE.blockN ?_
                    refine SimE.thenN ?_
                    refine Sim.region0 ?_
                    refine SimI.run 2 [(38, .one (li .i64 3)), (46, .one (li .i64 3))] [] (by kernel_rfl) ?_
                    refine SimI.done (by kernel_rfl) ?_
                    refine SimE.loopN ?_
                    refine SimL.succ ?_
                    refine Sim.seq ?_
                    refine Sim.region [(1, .one (.ptr 1 0)), (3, .one (.osl 100003 g8 0 ((l7h :: l7t)).length)), (4, .one (li .i64 i9)), (9, .one (li .i64 i9)), (37, .agg [lb (decide (a0.X1 ≤ r11.1.X0)), lb (decide (r11.1.X1 ≤ a0.X0)), lb (decide (a0.Y1 ≤ r11.1.Y0)), lb (decide (r11.1.Y1 ≤ a0.Y0))]), (38, .one (li .i64 3))] ((1, some (.cells [li .i64 a0.X0, li .i64 a0.Y0, li .i64 a0.X1, li .i64 a0.Y1])) :: ((100003, some (.arr 3 (codI .i64).sz g8 ((l7h :: l7t)).length (getOf (codI .i64) (l7h :: l7t)))) :: [])) (by kernel_rfl) ?_
                    refine SimI.run 1 [(39, .one (lb true))] [] (by kernel_rfl) ?_
                    refine SimI.done (by kernel_rfl) ?_
                    refine SimE.thenN ?_
                    refine Sim.seq ?_
                    refine Sim.condT (by kernel_rfl) ?_
                    refine Sim.skip ?_
                    refine SimE.thenN ?_
                    refine Sim.seq ?_
                    refine Sim.block ?_
                    refine Sim.seq ?_
                    refine Sim.region0 ?_
                    refine SimI.run 2 [(8, .one (lb (decide (r11.1.Y1 ≤ a0.Y0)))), (40, .one (lb (decide (r11.1.Y1 ≤ a0.Y0))))] [] (by kernel_rfl) ?_
                    refine SimI.done (by kernel_rfl) ?_
                    refine SimE.thenN ?_
                    refine Sim.seq ?_
                    refine Sim.region0 ?_
                    refine SimI.run 2 [(42, .one (lb (decide (r11.1.Y1 ≤ a0.Y0)))), (41, .one (lb (decide (r11.1.Y1 ≤ a0.Y0))))] [] (by kernel_rfl) ?_
                    refine SimI.split 42 (decide (r11.1.Y1 ≤ a0.Y0)) (by kernel_rfl) ?_ ?_
                    · refine SimI.run 3 [(45, .one (lb true)), (44, .tup []), (43, .tup [])] [] (by kernel_rfl) ?_
                      refine SimI.done (by kernel_rfl) ?_
                      refine SimE.thenN ?_
                      refine Sim.condT (by kernel_rfl) ?_
                      refine Sim.exit ?_
                      refine SimE.blockY rfl ?_
                      refine SimE.thenX ?_
                      refine SimE.loopX ?_
                      refine SimE.blockY rfl ?_
                      refine SimE.thenX ?_
                      refine SimE.blockX ?_
                      refine SimE.thenN ?_
                      refine Sim.region0 ?_
                      refine SimI.run 2 [(9, .one (li .i64 (IntKind.wrap .i64 (i9 + 1)))), (51, .one (li .i64 (IntKind.wrap .i64 (i9 + 1))))] [] (by kernel_rfl) ?_
                      refine SimI.done (by kernel_rfl) ?_
                      refine SimE.loopN ?_
                      refine SimL.pre (ts := [1, 3, 9]) (os := [1, 100003]) [(1, .one (.ptr 1 0)), (3, .one (ownL 100003 g8 (l7h :: l7t))), (9, .one (li .i64 (IntKind.wrap .i64 (i9 + 1))))] ((1, some (.cells [li .i64 a0.X0, li .i64 a0.Y0, li .i64 a0.X1, li .i64 a0.Y1])) :: (ownM (codI .i64) 3 100003 g8 (l7h :: l7t) [])) (by kernel_rfl) (by kernel_rfl) (by kernel_rfl) ?_
                      exact ih_l10 (l7h :: l7t) (IntKind.wrap .i64 (i9 + 1)) g8
                    · refine SimI.run 1 [(43, .agg [li .i64 a0.X0, li .i64 a0.Y0, li .i64 a0.X1, li .i64 a0.Y1])] [] (by kernel_rfl) ?_
                      refine SimI.bind (og := F58 n a0) { dst := some 44, op := POp.call true [[]] 58 [Operand.tmp 43], guard := some (42, false), hints := [] } (fun r15 => [(44, .one (lb r15))]) (fun r15 => []) (by kernel_rfl) (fun r15 hr => pOp_eff (by kernel_rfl) (by kernel_rfl) (eff_call (ARGS := [.agg [li .i64 a0.X0, li .i64 a0.Y0, li .i64 a0.X1, li .i64 a0.Y1]]) (by kernel_rfl) (args_clean (by kernel_rfl) args_nil) (F58_ok n a0 r15 hr) (by kernel_rfl))) (fun r15 => ?_)
                      refine SimI.run 1 [(45, .one (lb r15))] [] (by kernel_rfl) ?_
                      refine SimI.done (by kernel_rfl) ?_
                      refine SimE.thenN ?_
                      refine Sim.cond r15 (by kernel_rfl) ?_ ?_
                      · refine Sim.exit ?_
                        refine SimE.blockY rfl ?_
                        refine SimE.thenX ?_
                        refine SimE.loopX ?_
                        refine SimE.blockY rfl ?_
                        refine SimE.thenX ?_
                        refine SimE.blockX ?_
                        refine SimE.thenN ?_
                        refine Sim.region0 ?_
                        refine SimI.run 2 [(9, .one (li .i64 (IntKind.wrap .i64 (i9 + 1)))), (51, .one (li .i64 (IntKind.wrap .i64 (i9 + 1))))] [] (by kernel_rfl) ?_
                        refine SimI.done (by kernel_rfl) ?_
                        refine SimE.loopN ?_
                        refine SimL.pre (ts := [1, 3, 9]) (os := [1, 100003]) [(1, .one (.ptr 1 0)), (3, .one (ownL 100003 g8 (l7h :: l7t))), (9, .one (li .i64 (IntKind.wrap .i64 (i9 + 1))))] ((1, some (.cells [li .i64 a0.X0, li .i64 a0.Y0, li .i64 a0.X1, li .i64 a0.Y1])) :: (ownM (codI .i64) 3 100003 g8 (l7h :: l7t) [])) (by kernel_rfl) (by kernel_rfl) (by kernel_rfl) ?_
                        exact ih_l10 (l7h :: l7t) (IntKind.wrap .i64 (i9 + 1)) g8
                      · refine Sim.skip ?_
                        refine SimE.blockN ?_
                        refine SimE.thenN ?_
                        refine Sim.region0 ?_
                        refine SimI.run 2 [(38, .one (li .i64 4)), (46, .one (li .i64 4))] [] (by kernel_rfl) ?_
                        refine SimI.done (by kernel_rfl) ?_
                        refine SimE.loopN ?_
                        refine SimL.succ ?_
                        refine Sim.seq ?_
                        refine Sim.region [(1, .one (.ptr 1 0)), (3, .one (.osl 100003 g8 0 ((l7h :: l7t)).length)), (4, .one (li .i64 i9)), (9, .one (li .i64 i9)), (37, .agg [lb (decide (a0.X1 ≤ r11.1.X0)), lb (decide (r11.1.X1 ≤ a0.X0)), lb (decide (a0.Y1 ≤ r11.1.Y0)), lb (decide (r11.1.Y1 ≤ a0.Y0))]), (38, .one (li .i64 4))] ((1, some (.cells [li .i64 a0.X0, li .i64 a0.Y0, li .i64 a0.X1, li .i64 a0.Y1])) :: ((100003, some (.arr 3 (codI .i64).sz g8 ((l7h :: l7t)).length (getOf (codI .i64) (l7h :: l7t)))) :: [])) (by kernel_rfl) ?_
                        refine SimI.run 1 [(39, .one (lb false))] [] (by kernel_rfl) ?_
                        refine SimI.done (by kernel_rfl) ?_
                        refine SimE.thenN ?_
                        refine Sim.seq ?_
                        refine Sim.condF (by kernel_rfl) ?_
                        refine Sim.exit ?_
                        refine SimE.thenX ?_
                        refine SimE.loopX ?_
                        refine SimE.blockX ?_
                        refine SimE.thenN ?_
                        refine Sim.region0 ?_
                        refine SimI.run 3 [(49, .one (vw (codI .i64) [i9])), (48, .one (li .i64 i9)), (47, .one (.osl 100003 g8 0 ((l7h :: l7t)).length))] [] (by kernel_rfl) ?_
                        refine SimI.guard (c := (((l7h :: l7t)).length + 1) * 8 ≤ maxCells ∧ ((l7h :: l7t)).length + 1 ≤ maxCells) { dst := some 50, op := POp.app 100003 3 1 8 (Operand.tmp 47) (Operand.tmp 49), guard := none, hints := [] } [(50, .one (.osl 100003 (g8 + 1) 0 (((l7h :: l7t) ++ [i9])).length))] [(100003, some (.arr 3 (codI .i64).sz (g8 + 1) (((l7h :: l7t) ++ [i9])).length (getOf (codI .i64) ((l7h :: l7t) ++ [i9]))))] (by kernel_rfl) (fun hc => pOp_eff (by kernel_rfl) (by kernel_rfl) (eff_appO (c := (codI .i64)) (g := g8) (l := (l7h :: l7t)) (a := i9) (by kernel_rfl) (by kernel_rfl) (by kernel_rfl) (by kernel_rfl) hc)) ?_
                        refine SimI.run 1 [(3, .one (.osl 100003 (g8 + 1) 0 (((l7h :: l7t) ++ [i9])).length))] [] (by kernel_rfl) ?_
                        refine SimI.done (by kernel_rfl) ?_
                        refine SimE.blockN ?_
                        refine SimE.thenN ?_
                        refine Sim.region0 ?_
                        refine SimI.run 2 [(9, .one (li .i64 (IntKind.wrap .i64 (i9 + 1)))), (51, .one (li .i64 (IntKind.wrap .i64 (i9 + 1))))] [] (by kernel_rfl) ?_
                        refine SimI.done (by kernel_rfl) ?_
                        refine SimE.loopN ?_
                        refine SimL.pre (ts := [1, 3, 9]) (os := [1, 100003]) [(1, .one (.ptr 1 0)), (3, .one (ownL 100003 (g8 + 1) ((l7h :: l7t) ++ [i9]))), (9, .one (li .i64 (IntKind.wrap .i64 (i9 + 1))))] ((1, some (.cells [li .i64 a0.X0, li .i64 a0.Y0, li .i64 a0.X1, li .i64 a0.Y1])) :: (ownM (codI .i64) 3 100003 (g8 + 1) ((l7h :: l7t) ++ [i9]) [])) (by kernel_rfl) (by kernel_rfl) (by kernel_rfl) ?_
                        exact ih_l10 ((l7h :: l7t) ++ [i9]) (IntKind.wrap .i64 (i9 + 1)) (g8 + 1)
      · refine Sim.exit ?_
        refine SimE.thenX ?_
        refine SimE.loopX ?_
        refine SimE.blockX ?_
        refine SimE.thenN ?_
        refine Sim.seq ?_
        refine Sim.region0 ?_
        refine SimI.run 2 [(2, .one (.osl 100003 g8 0 ((l7h :: l7t)).length)), (52, .one (.osl 100003 g8 0 ((l7h :: l7t)).length))] [] (by kernel_rfl) ?_
        refine SimI.done (by kernel_rfl) ?_
        refine SimE.thenN ?_
        refine Sim.ret ?_
        exact SimE.fin (out_of (os := []) (ress_cons (resOf_own (c := (codI .i64)) (k := 100003) (g := g8) (el := 3) (l := (l7h :: l7t)) (by kernel_rfl) (by kernel_rfl)) (ress_nil)) (by kernel_rfl) (by kernel_rfl))

def F29 (n : Nat) (a0 : Rect) : Option (List Int) :=
  F29_l10 n a0 (n + 8) ([] : List Int) 0
theorem F29_ok (n : Nat) (a0 : Rect) : ∀ r, F29 n a0 = some r → D 29 [.agg [li .i64 a0.X0, li .i64 a0.Y0, li .i64 a0.X1, li .i64 a0.Y1]] [] = some (F29_e r) := by
  refine fn_to (D := D) (n := n + 8) (nt := 53) (rs := pc29_r) (c := pc29_c50) (L := [(0, .agg [li .i64 a0.X0, li .i64 a0.Y0, li .i64 a0.X1, li .i64 a0.Y1])]) (M := []) (k := 0) rfl rfl rfl rfl rfl rfl ?_
  unfold F29
  refine Sim.seq ?_
  refine Sim.region0 ?_
  refine SimI.run 2 [(2, .one (lnil)), (1, .one (.ptr 1 0))] [(1, some (.cells [li .i64 a0.X0, li .i64 a0.Y0, li .i64 a0.X1, li .i64 a0.Y1]))] (by kernel_rfl) ?_
  refine SimI.done (by kernel_rfl) ?_
  refine SimE.thenN ?_
  refine Sim.scope ?_
  refine Sim.seq ?_
  refine Sim.region0 ?_
  refine SimI.run 1 [(3, .one (lnil))] [] (by kernel_rfl) ?_
  refine SimI.done (by kernel_rfl) ?_
  refine SimE.thenN ?_
  refine Sim.seq ?_
  refine Sim.label ?_
  refine SimE.thenN ?_
  refine Sim.seq ?_
  refine Sim.seq ?_
  refine Sim.region0 ?_
  refine SimI.run 1 [(9, .one (li .i64 0))] [] (by kernel_rfl) ?_
  refine SimI.done (by kernel_rfl) ?_
  refine SimE.thenN ?_
  refine Sim.block ?_
  refine Sim.loop ?_
  refine SimL.pre (ts := [1, 3, 9]) (os := [1, 100003]) [(1, .one (.ptr 1 0)), (3, .one (ownL 100003 0 ([] : List Int))), (9, .one (li .i64 0))] ((1, some (.cells [li .i64 a0.X0, li .i64 a0.Y0, li .i64 a0.X1, li .i64 a0.Y1])) :: (ownM (codI .i64) 3 100003 0 ([] : List Int) [])) (by kernel_rfl) (by kernel_rfl) (by kernel_rfl) ?_
  exact F29_l10_ok n a0 (n + 8) ([] : List Int) 0 0


-- 61: vedette/cells.Beside$1
def F61_e : Bool → PV × List (List Lf) := fun r => (.one (lb r), [])
def F61 (n : Nat) (a0 : Int) (a1 : Int) : Option Bool :=
  some (decide (IntKind.wrap .i64 (imax a0 a1 - imin a0 a1) ≤ 1))
theorem F61_ok (n : Nat) (a0 : Int) (a1 : Int) : ∀ r, F61 n a0 a1 = some r → D 61 [.one (li .i64 a0), .one (li .i64 a1)] [] = some (F61_e r) := by
  refine fn_to (D := D) (n := n + 8) (nt := 13) (rs := pc61_r) (c := pc61_c5) (L := [(0, .one (li .i64 a0)), (1, .one (li .i64 a1))]) (M := []) (k := 0) rfl rfl rfl rfl rfl rfl ?_
  unfold F61
  refine Sim.seq ?_
  refine Sim.region0 ?_
  refine SimI.run 1 [(4, .one (lb false))] [] (by kernel_rfl) ?_
  refine SimI.done (by kernel_rfl) ?_
  refine SimE.thenN ?_
  refine Sim.seq ?_
  refine Sim.region0 ?_
  refine SimI.run 9 [(4, .one (lb (decide (IntKind.wrap .i64 (imax a0 a1 - imin a0 a1) ≤ 1)))), (12, .one (lb (decide (IntKind.wrap .i64 (imax a0 a1 - imin a0 a1) ≤ 1)))), (11, .one (li .i64 (IntKind.wrap .i64 (imax a0 a1 - imin a0 a1)))), (10, .one (li .i64 (imin a0 a1))), (9, .one (li .i64 a1)), (8, .one (li .i64 a0)), (7, .one (li .i64 (imax a0 a1))), (6, .one (li .i64 a1)), (5, .one (li .i64 a0))] [] (by kernel_rfl) ?_
  refine SimI.done (by kernel_rfl) ?_
  refine SimE.thenN ?_
  refine Sim.ret ?_
  exact SimE.fin (by kernel_rfl)


-- 33: vedette/cells.Beside
def F33_e : Bool → PV × List (List Lf) := fun r => (.one (lb r), [])
def F33 (n : Nat) (a0 : Int) (a1 : Int) : Option Bool :=
  (F31 n a0).bind fun (r1 : Bool) =>
  if !(r1) then
    some false
  else
    (F31 n a1).bind fun (r2 : Bool) =>
    if !(r2) then
      some false
    else
      if a0 == a1 then
        some false
      else
        (F56 n a0).bind fun (r3 : (Int × Int)) =>
        (F56 n a1).bind fun (r4 : (Int × Int)) =>
        (F61 n r3.1 r4.1).bind fun (r5 : Bool) =>
        if r5 then
          (F61 n r3.2 r4.2).bind fun (r6 : Bool) =>
          some r6
        else
          some false
theorem F33_ok (n : Nat) (a0 : Int) (a1 : Int) : ∀ r, F33 n a0 a1 = some r → D 33 [.one (li .i64 a0), .one (li .i64 a1)] [] = some (F33_e r) := by
  refine fn_to (D := D) (n := n + 8) (nt := 43) (rs := pc33_r) (c := pc33_c19) (L := [(0, .one (li .i64 a0)), (1, .one (li .i64 a1))]) (M := []) (k := 0) rfl rfl rfl rfl rfl rfl ?_
  unfold F33
  refine Sim.seq ?_
  refine Sim.region0 ?_
  refine SimI.run 1 [(4, .one (lb false))] [] (by kernel_rfl) ?_
  refine SimI.done (by kernel_rfl) ?_
  refine SimE.thenN ?_
  refine Sim.seq ?_
  refine Sim.seq ?_
  refine Sim.region0 ?_
  refine SimI.run 1 [(10, .one (li .i64 a0))] [] (by kernel_rfl) ?_
  refine SimI.bind (og := F31 n a0) { dst := some 11, op := POp.call true [[]] 31 [Operand.tmp 10], guard := none, hints := [] } (fun r1 => [(11, .one (lb r1))]) (fun r1 => []) (by kernel_rfl) (fun r1 hr => pOp_eff (by kernel_rfl) (by kernel_rfl) (eff_call (ARGS := [.one (li .i64 a0)]) (by kernel_rfl) (args_clean (by kernel_rfl) args_nil) (F31_ok n a0 r1 hr) (by kernel_rfl))) (fun r1 => ?_)
  refine SimI.run 2 [(13, .one (lb (!(r1)))), (12, .one (lb (!(r1))))] [] (by kernel_rfl) ?_
  refine SimI.split 13 (!(r1)) (by kernel_rfl) ?_ ?_
  · refine SimI.run 9 [(22, .one (lb true)), (21, .tup []), (20, .tup []), (19, .tup []), (18, .one (lb true)), (17, .one (lb true)), (16, .tup []), (15, .tup []), (14, .tup [])] [] (by kernel_rfl) ?_
    refine SimI.done (by kernel_rfl) ?_
    refine SimE.thenN ?_
    refine Sim.condT (by kernel_rfl) ?_
    refine Sim.seq ?_
    refine Sim.region0 ?_
    refine SimI.run 1 [(4, .one (lb false))] [] (by kernel_rfl) ?_
    refine SimI.done (by kernel_rfl) ?_
    refine SimE.thenN ?_
    refine Sim.ret ?_
    refine SimE.thenR ?_
    exact SimE.fin (by kernel_rfl)
  · refine SimI.run 1 [(14, .one (li .i64 a1))] [] (by kernel_rfl) ?_
    refine SimI.bind (og := F31 n a1) { dst := some 15, op := POp.call true [[]] 31 [Operand.tmp 14], guard := some (13, false), hints := [] } (fun r2 => [(15, .one (lb r2))]) (fun r2 => []) (by kernel_rfl) (fun r2 hr => pOp_eff (by kernel_rfl) (by kernel_rfl) (eff_call (ARGS := [.one (li .i64 a1)]) (by kernel_rfl) (args_clean (by kernel_rfl) args_nil) (F31_ok n a1 r2 hr) (by kernel_rfl))) (fun r2 => ?_)
    refine SimI.run 3 [(18, .one (lb (!(r2)))), (17, .one (lb (!(r2)))), (16, .one (lb (!(r2))))] [] (by kernel_rfl) ?_
    refine SimI.split 18 (!(r2)) (by kernel_rfl) ?_ ?_
    · refine SimI.run 4 [(22, .one (lb true)), (21, .tup []), (20, .tup []), (19, .tup [])] [] (by kernel_rfl) ?_
      refine SimI.done (by kernel_rfl) ?_
      refine SimE.thenN ?_
      refine Sim.condT (by kernel_rfl) ?_
      refine Sim.seq ?_
      refine Sim.region0 ?_
      refine SimI.run 1 [(4, .one (lb false))] [] (by kernel_rfl) ?_
      refine SimI.done (by kernel_rfl) ?_
      refine SimE.thenN ?_
      refine Sim.ret ?_
      refine SimE.thenR ?_
      exact SimE.fin (by kernel_rfl)
    · refine SimI.run 4 [(22, .one (lb (a0 == a1))), (21, .one (lb (a0 == a1))), (20, .one (li .i64 a1)), (19, .one (li .i64 a0))] [] (by kernel_rfl) ?_
      refine SimI.done (by kernel_rfl) ?_
      refine SimE.thenN ?_
      refine Sim.cond (a0 == a1) (by kernel_rfl) ?_ ?_
      · refine Sim.seq ?_
        refine Sim.region0 ?_
        refine SimI.run 1 [(4, .one (lb false))] [] (by kernel_rfl) ?_
        refine SimI.done (by kernel_rfl) ?_
        refine SimE.thenN ?_
        refine Sim.ret ?_
        refine SimE.thenR ?_
        exact SimE.fin (by kernel_rfl)
      · refine Sim.skip ?_
        refine SimE.thenN ?_
        refine Sim.seq ?_
        refine Sim.region0 ?_
        refine SimI.run 1 [(24, .one (li .i64 a0))] [] (by kernel_rfl) ?_
        refine SimI.bind (og := F56 n a0) { dst := some 25, op := POp.call true [[]] 56 [Operand.tmp 24], guard := none, hints := [] } (fun r3 => [(25, .tup [.one (li .i64 r3.1), .one (li .i64 r3.2)])]) (fun r3 => []) (by kernel_rfl) (fun r3 hr => pOp_eff (by kernel_rfl) (by kernel_rfl) (eff_call (ARGS := [.one (li .i64 a0)]) (by kernel_rfl) (args_clean (by kernel_rfl) args_nil) (F56_ok n a0 r3 hr) (by kernel_rfl))) (fun r3 => ?_)
        refine SimI.run 5 [(6, .one (li .i64 r3.2)), (5, .one (li .i64 r3.1)), (27, .one (li .i64 r3.2)), (26, .one (li .i64 r3.1)), (23, .tup [.one (li .i64 r3.1), .one (li .i64 r3.2)])] [] (by kernel_rfl) ?_
        refine SimI.done (by kernel_rfl) ?_
        refine SimE.thenN ?_
        refine Sim.seq ?_
        refine Sim.region0 ?_
        refine SimI.run 1 [(29, .one (li .i64 a1))] [] (by kernel_rfl) ?_
        refine SimI.bind (og := F56 n a1) { dst := some 30, op := POp.call true [[]] 56 [Operand.tmp 29], guard := none, hints := [] } (fun r4 => [(30, .tup [.one (li .i64 r4.1), .one (li .i64 r4.2)])]) (fun r4 => []) (by kernel_rfl) (fun r4 hr => pOp_eff (by kernel_rfl) (by kernel_rfl) (eff_call (ARGS := [.one (li .i64 a1)]) (by kernel_rfl) (args_clean (by kernel_rfl) args_nil) (F56_ok n a1 r4 hr) (by kernel_rfl))) (fun r4 => ?_)
        refine SimI.run 5 [(8, .one (li .i64 r4.2)), (7, .one (li .i64 r4.1)), (32, .one (li .i64 r4.2)), (31, .one (li .i64 r4.1)), (28, .tup [.one (li .i64 r4.1), .one (li .i64 r4.2)])] [] (by kernel_rfl) ?_
        refine SimI.done (by kernel_rfl) ?_
        refine SimE.thenN ?_
        refine Sim.seq ?_
        refine Sim.region0 ?_
        refine SimI.run 1 [(9, .one (.val (.func (.func 61) #[] #[])))] [] (by kernel_rfl) ?_
        refine SimI.done (by kernel_rfl) ?_
        refine SimE.thenN ?_
        refine Sim.seq ?_
        refine Sim.region0 ?_
        refine SimI.run 3 [(35, .one (li .i64 r4.1)), (34, .one (li .i64 r3.1)), (33, .one (.val (.func (.func 61) #[] #[])))] [] (by kernel_rfl) ?_
        refine SimI.bind (og := F61 n r3.1 r4.1) { dst := some 36, op := POp.callv true [[], []] (Operand.tmp 33) [Operand.tmp 34, Operand.tmp 35], guard := none, hints := [] } (fun r5 => [(36, .one (lb r5))]) (fun r5 => []) (by kernel_rfl) (fun r5 hr => pOp_eff (by kernel_rfl) (by kernel_rfl) (eff_callvv (by kernel_rfl) (ARGS := [.one (li .i64 r3.1), .one (li .i64 r4.1)]) (by kernel_rfl) (args_clean (by kernel_rfl) (args_clean (by kernel_rfl) args_nil)) (F61_ok n r3.1 r4.1 r5 hr) (by kernel_rfl))) (fun r5 => ?_)
        refine SimI.run 1 [(37, .one (lb r5))] [] (by kernel_rfl) ?_
        refine SimI.split 37 r5 (by kernel_rfl) ?_ ?_
        · refine SimI.run 3 [(40, .one (li .i64 r4.2)), (39, .one (li .i64 r3.2)), (38, .one (.val (.func (.func 61) #[] #[])))] [] (by kernel_rfl) ?_
          refine SimI.bind (og := F61 n r3.2 r4.2) { dst := some 41, op := POp.callv true [[], []] (Operand.tmp 38) [Operand.tmp 39, Operand.tmp 40], guard := some (37, true), hints := [] } (fun r6 => [(41, .one (lb r6))]) (fun r6 => []) (by kernel_rfl) (fun r6 hr => pOp_eff (by kernel_rfl) (by kernel_rfl) (eff_callvv (by kernel_rfl) (ARGS := [.one (li .i64 r3.2), .one (li .i64 r4.2)]) (by kernel_rfl) (args_clean (by kernel_rfl) (args_clean (by kernel_rfl) args_nil)) (F61_ok n r3.2 r4.2 r6 hr) (by kernel_rfl))) (fun r6 => ?_)
          refine SimI.run 2 [(4, .one (lb r6)), (42, .one (lb r6))] [] (by kernel_rfl) ?_
          refine SimI.done (by kernel_rfl) ?_
          refine SimE.thenN ?_
          refine Sim.ret ?_
          exact SimE.fin (by kernel_rfl)
        · refine SimI.run 6 [(4, .one (lb false)), (42, .one (lb false)), (41, .tup []), (40, .tup []), (39, .tup []), (38, .tup [])] [] (by kernel_rfl) ?_
          refine SimI.done (by kernel_rfl) ?_
          refine SimE.thenN ?_
          refine Sim.ret ?_
          exact SimE.fin (by kernel_rfl)


-- 24: vedette/vedettelaw5.known
theorem F24_ok (n : Nat) : ∀ r, (some true : Option Bool) = some r → D 24 [] [] = some (.one (lb r), []) := by
  rintro _ ⟨⟩
  exact all_of (N := 60) (by kernel_rfl)


-- 8: vedette/vedettelaw5.CellWhole
def F8_e : Bool → PV × List (List Lf) := fun r => (.one (lb r), [])
def F8_l19 (n : Nat) (a0 : Point) (a1 : Rect) (r2 : (Int × Int)) (i7 : Int) (r12 : (List Int)) : Nat → Bool → Int → Option Bool
  | 0, _, _ => none
  | m + 1, b17, i18 =>
    if decide (i18 < ((r12).length : Int)) then
      if b17 then
        (F8_l19 n a0 a1 r2 i7 r12 m) true (IntKind.wrap .i64 (i18 + 1))
      else
        (ix r12 i18).bind fun (x20 : Int) =>
        (F8_l19 n a0 a1 r2 i7 r12 m) (x20 == r2.1) (IntKind.wrap .i64 (i18 + 1))
    else
      if i7 == 1 then
        (F23 n a1 a0).bind fun (r21 : Bool) =>
        if !(r21) then
          some true
        else
          some b17
      else
        some false
theorem F8_l19_ok (n : Nat) (a0 : Point) (a1 : Rect) (r2 : (Int × Int)) (i7 : Int) (r12 : (List Int)) : ∀ (m : Nat) (b17 : Bool) (i18 : Int), SimL Try.prog D (n + 8) m pc8_c66 [(2, .one (.ptr 2 0)), (3, .one (.ptr 3 0)), (5, .one (li .i64 r2.1)), (7, .one (li .i64 i7)), (11, .one (vw (codI .i64) r12)), (12, .one (lb b17)), (13, .one (li .i64 i18))] ((2, some (.cells [li .i64 a0.X, li .i64 a0.Y])) :: ((3, some (.cells [li .i64 a1.X0, li .i64 a1.Y0, li .i64 a1.X1, li .i64 a1.Y1])) :: [])) (F8_l19 n a0 a1 r2 i7 r12 m b17 i18) (QB 2 (QT Try.prog D (n + 8) pc8_c72 (QF pc8_r 0 F8_e))) := by
  intro m_l19
  induction m_l19 with
  | zero => intro b17 i18; exact SimL.zero'  rfl
  | succ m_l19 ih_l19 =>
    intro b17 i18
    refine SimL.succ ?_
    unfold F8_l19
    refine Sim.seq ?_
    refine Sim.seq ?_
    refine Sim.region [(2, .one (.ptr 2 0)), (3, .one (.ptr 3 0)), (5, .one (li .i64 r2.1)), (7, .one (li .i64 i7)), (11, .one (vw (codI .i64) r12)), (12, .one (lb b17)), (13, .one (li .i64 i18))] ((2, some (.cells [li .i64 a0.X, li .i64 a0.Y])) :: ((3, some (.cells [li .i64 a1.X0, li .i64 a1.Y0, li .i64 a1.X1, li .i64 a1.Y1])) :: [])) (by kernel_rfl) ?_
    refine SimI.run 4 [(53, .one (lb (decide (i18 < ((r12).length : Int))))), (52, .one (li .i64 ((r12).length : Int))), (51, .one (vw (codI .i64) r12)), (50, .one (li .i64 i18))] [] (by kernel_rfl) ?_
    refine SimI.done (by kernel_rfl) ?_
    refine SimE.thenN ?_
    refine Sim.cond (decide (i18 < ((r12).length : Int))) (by kernel_rfl) ?_ ?_
    · refine Sim.skip ?_
      refine SimE.thenN ?_
      refine Sim.seq ?_
      refine Sim.block ?_
      refine Sim.region0 ?_
      refine SimI.run 2 [(57, .one (lb b17)), (56, .one (lb b17))] [] (by kernel_rfl) ?_
      refine SimI.split 57 b17 (by kernel_rfl) ?_ ?_
      · refine SimI.run 8 [(12, .one (lb true)), (64, .one (lb true)), (63, .tup []), (62, .tup []), (61, .tup []), (60, .tup []), (59, .tup []), (58, .tup [])] [] (by kernel_rfl) ?_
        refine SimI.done (by kernel_rfl) ?_
        refine SimE.blockN ?_
        refine SimE.thenN ?_
        refine Sim.region0 ?_
        refine SimI.run 3 [(13, .one (li .i64 (IntKind.wrap .i64 (i18 + 1)))), (55, .one (li .i64 (IntKind.wrap .i64 (i18 + 1)))), (54, .one (li .i64 i18))] [] (by kernel_rfl) ?_
        refine SimI.done (by kernel_rfl) ?_
        refine SimE.loopN ?_
        refine SimL.pre (ts := [2, 3, 5, 7, 11, 12, 13]) (os := [2, 3]) [(2, .one (.ptr 2 0)), (3, .one (.ptr 3 0)), (5, .one (li .i64 r2.1)), (7, .one (li .i64 i7)), (11, .one (vw (codI .i64) r12)), (12, .one (lb true)), (13, .one (li .i64 (IntKind.wrap .i64 (i18 + 1))))] ((2, some (.cells [li .i64 a0.X, li .i64 a0.Y])) :: ((3, some (.cells [li .i64 a1.X0, li .i64 a1.Y0, li .i64 a1.X1, li .i64 a1.Y1])) :: [])) (by kernel_rfl) (by kernel_rfl) (by kernel_rfl) ?_
        exact ih_l19 true (IntKind.wrap .i64 (i18 + 1))
      · refine SimI.run 2 [(59, .one (li .i64 i18)), (58, .one (vw (codI .i64) r12))] [] (by kernel_rfl) ?_
        refine SimI.bind (og := ix r12 i18) { dst := some 60, op := POp.iaddrS 1 (Operand.tmp 58) (Operand.tmp 59), guard := some (57, false), hints := [] } (fun x20 => [(60, .one (.eptr ((codI .i64).enc x20) 0))]) (fun x20 => []) (by kernel_rfl) (fun x20 hr => pOp_eff (by kernel_rfl) (by kernel_rfl) (eff_idx (c := (codI .i64)) (l := r12) (k := .i64) (n := i18) (by kernel_rfl) (by kernel_rfl) (by kernel_rfl) hr)) (fun x20 => ?_)
        refine SimI.run 5 [(12, .one (lb (x20 == r2.1))), (64, .one (lb (x20 == r2.1))), (63, .one (lb (x20 == r2.1))), (62, .one (li .i64 r2.1)), (61, .one (li .i64 x20))] [] (by kernel_rfl) ?_
        refine SimI.done (by kernel_rfl) ?_
        refine SimE.blockN ?_
        refine SimE.thenN ?_
        refine Sim.region0 ?_
        refine SimI.run 3 [(13, .one (li .i64 (IntKind.wrap .i64 (i18 + 1)))), (55, .one (li .i64 (IntKind.wrap .i64 (i18 + 1)))), (54, .one (li .i64 i18))] [] (by kernel_rfl) ?_
        refine SimI.done (by kernel_rfl) ?_
        refine SimE.loopN ?_
        refine SimL.pre (ts := [2, 3, 5, 7, 11, 12, 13]) (os := [2, 3]) [(2, .one (.ptr 2 0)), (3, .one (.ptr 3 0)), (5, .one (li .i64 r2.1)), (7, .one (li .i64 i7)), (11, .one (vw (codI .i64) r12)), (12, .one (lb (x20 == r2.1))), (13, .one (li .i64 (IntKind.wrap .i64 (i18 + 1))))] ((2, some (.cells [li .i64 a0.X, li .i64 a0.Y])) :: ((3, some (.cells [li .i64 a1.X0, li .i64 a1.Y0, li .i64 a1.X1, li .i64 a1.Y1])) :: [])) (by kernel_rfl) (by kernel_rfl) (by kernel_rfl) ?_
        exact ih_l19 (x20 == r2.1) (IntKind.wrap .i64 (i18 + 1))
    · refine Sim.exit ?_
      refine SimE.thenX ?_
      refine SimE.loopX ?_
      refine SimE.blockX ?_
      refine SimE.thenN ?_
      refine Sim.seq ?_
      refine Sim.region0 ?_
      refine SimI.run 3 [(67, .one (lb (i7 == 1))), (66, .one (lb (i7 == 1))), (65, .one (li .i64 i7))] [] (by kernel_rfl) ?_
      refine SimI.split 67 (i7 == 1) (by kernel_rfl) ?_ ?_
      · refine SimI.run 2 [(69, .agg [li .i64 a0.X, li .i64 a0.Y]), (68, .agg [li .i64 a1.X0, li .i64 a1.Y0, li .i64 a1.X1, li .i64 a1.Y1])] [] (by kernel_rfl) ?_
        refine SimI.bind (og := F23 n a1 a0) { dst := some 70, op := POp.call true [[], []] 23 [Operand.tmp 68, Operand.tmp 69], guard := some (67, true), hints := [] } (fun r21 => [(70, .one (lb r21))]) (fun r21 => []) (by kernel_rfl) (fun r21 hr => pOp_eff (by kernel_rfl) (by kernel_rfl) (eff_call (ARGS := [.agg [li .i64 a1.X0, li .i64 a1.Y0, li .i64 a1.X1, li .i64 a1.Y1], .agg [li .i64 a0.X, li .i64 a0.Y]]) (by kernel_rfl) (args_clean (by kernel_rfl) (args_clean (by kernel_rfl) args_nil)) (F23_ok n a1 a0 r21 hr) (by kernel_rfl))) (fun r21 => ?_)
        refine SimI.run 2 [(72, .one (lb (!(r21)))), (71, .one (lb (!(r21))))] [] (by kernel_rfl) ?_
        refine SimI.split 72 (!(r21)) (by kernel_rfl) ?_ ?_
        · refine SimI.run 4 [(4, .one (lb true)), (75, .one (lb true)), (74, .one (lb true)), (73, .tup [])] [] (by kernel_rfl) ?_
          refine SimI.done (by kernel_rfl) ?_
          refine SimE.thenN ?_
          refine Sim.ret ?_
          exact SimE.fin (by kernel_rfl)
        · refine SimI.run 4 [(4, .one (lb b17)), (75, .one (lb b17)), (74, .one (lb b17)), (73, .one (lb b17))] [] (by kernel_rfl) ?_
          refine SimI.done (by kernel_rfl) ?_
          refine SimE.thenN ?_
          refine Sim.ret ?_
          exact SimE.fin (by kernel_rfl)
      · refine SimI.run 9 [(4, .one (lb false)), (75, .one (lb false)), (74, .tup []), (73, .tup []), (72, .tup []), (71, .tup []), (70, .tup []), (69, .tup []), (68, .tup [])] [] (by kernel_rfl) ?_
        refine SimI.done (by kernel_rfl) ?_
        refine SimE.thenN ?_
        refine Sim.ret ?_
        exact SimE.fin (by kernel_rfl)

def F8_l9 (n : Nat) (a0 : Point) (a1 : Rect) (r2 : (Int × Int)) : Nat → Int → Int → Option Bool
  | 0, _, _ => none
  | m + 1, i7, i8 =>
    if decide (i8 < 16) then
      (F27 n i8).bind fun (r10 : (Rect × Bool)) =>
      if !(r10.2) then
        some false
      else
        (F23 n r10.1 a0).bind fun (r11 : Bool) =>
        if r11 then
          if i8 != r2.1 then
            some false
          else
            (F8_l9 n a0 a1 r2 m) (IntKind.wrap .i64 (i7 + 1)) (IntKind.wrap .i64 (i8 + 1))
        else
          (F8_l9 n a0 a1 r2 m) i7 (IntKind.wrap .i64 (i8 + 1))
    else
      if r2.2 != 0 then
        if i7 == 0 then
          some (r2.2 == 14)
        else
          some false
      else
        (F29 n a1).bind fun (r12 : (List Int)) =>
        F8_l19 n a0 a1 r2 i7 r12 (n + 8) false 0
theorem F8_l9_ok (n : Nat) (a0 : Point) (a1 : Rect) (r2 : (Int × Int)) : ∀ (m : Nat) (i7 : Int) (i8 : Int), SimL Try.prog D (n + 8) m pc8_c43 [(2, .one (.ptr 2 0)), (3, .one (.ptr 3 0)), (5, .one (li .i64 r2.1)), (6, .one (li .i64 r2.2)), (7, .one (li .i64 i7)), (8, .one (li .i64 i8))] ((2, some (.cells [li .i64 a0.X, li .i64 a0.Y])) :: ((3, some (.cells [li .i64 a1.X0, li .i64 a1.Y0, li .i64 a1.X1, li .i64 a1.Y1])) :: [])) (F8_l9 n a0 a1 r2 m i7 i8) (QB 0 (QT Try.prog D (n + 8) pc8_c76 (QF pc8_r 0 F8_e))) := by
  intro m_l9
  induction m_l9 with
  | zero => intro i7 i8; exact SimL.zero'  rfl
  | succ m_l9 ih_l9 =>
    intro i7 i8
    refine SimL.succ ?_
    unfold F8_l9
    refine Sim.seq ?_
    refine Sim.seq ?_
    refine Sim.region [(2, .one (.ptr 2 0)), (3, .one (.ptr 3 0)), (5, .one (li .i64 r2.1)), (6, .one (li .i64 r2.2)), (7, .one (li .i64 i7)), (8, .one (li .i64 i8))] ((2, some (.cells [li .i64 a0.X, li .i64 a0.Y])) :: ((3, some (.cells [li .i64 a1.X0, li .i64 a1.Y0, li .i64 a1.X1, li .i64 a1.Y1])) :: [])) (by kernel_rfl) ?_
    refine SimI.run 2 [(22, .one (lb (decide (i8 < 16)))), (21, .one (li .i64 i8))] [] (by kernel_rfl) ?_
    refine SimI.done (by kernel_rfl) ?_
    refine SimE.thenN ?_
    refine Sim.cond (decide (i8 < 16)) (by kernel_rfl) ?_ ?_
    · refine Sim.skip ?_
      refine SimE.thenN ?_
      refine Sim.seq ?_
      refine Sim.block ?_
      refine Sim.seq ?_
      refine Sim.region0 ?_
      refine SimI.run 1 [(26, .one (li .i64 i8))] [] (by kernel_rfl) ?_
      refine SimI.bind (og := F27 n i8) { dst := some 27, op := POp.call true [[]] 27 [Operand.tmp 26], guard := none, hints := [] } (fun r10 => [(27, .tup [.agg [li .i64 r10.1.X0, li .i64 r10.1.Y0, li .i64 r10.1.X1, li .i64 r10.1.Y1], .one (lb r10.2)])]) (fun r10 => []) (by kernel_rfl) (fun r10 hr => pOp_eff (by kernel_rfl) (by kernel_rfl) (eff_call (ARGS := [.one (li .i64 i8)]) (by kernel_rfl) (args_clean (by kernel_rfl) args_nil) (F27_ok n i8 r10 hr) (by kernel_rfl))) (fun r10 => ?_)
      refine SimI.run 6 [(10, .one (lb r10.2)), (9, .one (.ptr 9 0)), (29, .one (lb r10.2)), (28, .agg [li .i64 r10.1.X0, li .i64 r10.1.Y0, li .i64 r10.1.X1, li .i64 r10.1.Y1]), (25, .tup [.agg [li .i64 r10.1.X0, li .i64 r10.1.Y0, li .i64 r10.1.X1, li .i64 r10.1.Y1], .one (lb r10.2)])] [(9, some (.cells [li .i64 r10.1.X0, li .i64 r10.1.Y0, li .i64 r10.1.X1, li .i64 r10.1.Y1])), (9, some (.cells [li .i64 0, li .i64 0, li .i64 0, li .i64 0]))] (by kernel_rfl) ?_
      refine SimI.done (by kernel_rfl) ?_
      refine SimE.thenN ?_
      refine Sim.seq ?_
      refine Sim.seq ?_
      refine Sim.region0 ?_
      refine SimI.run 2 [(31, .one (lb (!(r10.2)))), (30, .one (lb r10.2))] [] (by kernel_rfl) ?_
      refine SimI.done (by kernel_rfl) ?_
      refine SimE.thenN ?_
      refine Sim.cond (!(r10.2)) (by kernel_rfl) ?_ ?_
      · refine Sim.seq ?_
        refine Sim.region0 ?_
        refine SimI.run 1 [(4, .one (lb false))] [] (by kernel_rfl) ?_
        refine SimI.done (by kernel_rfl) ?_
        refine SimE.thenN ?_
        refine Sim.ret ?_
        refine SimE.thenR ?_
        refine SimE.blockR ?_
        refine SimE.thenR ?_
        refine SimE.loopR ?_
        refine SimE.blockR ?_
        refine SimE.thenR ?_
        exact SimE.fin (by kernel_rfl)
      · refine Sim.skip ?_
        refine SimE.thenN ?_
        refine Sim.seq ?_
        refine Sim.region0 ?_
        refine SimI.run 2 [(33, .agg [li .i64 a0.X, li .i64 a0.Y]), (32, .agg [li .i64 r10.1.X0, li .i64 r10.1.Y0, li .i64 r10.1.X1, li .i64 r10.1.Y1])] [] (by kernel_rfl) ?_
        refine SimI.bind (og := F23 n r10.1 a0) { dst := some 34, op := POp.call true [[], []] 23 [Operand.tmp 32, Operand.tmp 33], guard := none, hints := [] } (fun r11 => [(34, .one (lb r11))]) (fun r11 => []) (by kernel_rfl) (fun r11 hr => pOp_eff (by kernel_rfl) (by kernel_rfl) (eff_call (ARGS := [.agg [li .i64 r10.1.X0, li .i64 r10.1.Y0, li .i64 r10.1.X1, li .i64 r10.1.Y1], .agg [li .i64 a0.X, li .i64 a0.Y]]) (by kernel_rfl) (args_clean (by kernel_rfl) (args_clean (by kernel_rfl) args_nil)) (F23_ok n r10.1 a0 r11 hr) (by kernel_rfl))) (fun r11 => ?_)
        refine SimI.done (by kernel_rfl) ?_
        refine SimE.thenN ?_
        refine Sim.cond r11 (by kernel_rfl) ?_ ?_
        · refine Sim.seq ?_
          refine Sim.region0 ?_
          refine SimI.run 3 [(7, .one (li .i64 (IntKind.wrap .i64 (i7 + 1)))), (36, .one (li .i64 (IntKind.wrap .i64 (i7 + 1)))), (35, .one (li .i64 i7))] [] (by kernel_rfl) ?_
          refine SimI.done (by kernel_rfl) ?_
          refine SimE.thenN ?_
          refine Sim.seq ?_
          refine Sim.region0 ?_
          refine SimI.run 3 [(39, .one (lb (i8 != r2.1))), (38, .one (li .i64 r2.1)), (37, .one (li .i64 i8))] [] (by kernel_rfl) ?_
          refine SimI.done (by kernel_rfl) ?_
          refine SimE.thenN ?_
          refine Sim.cond (i8 != r2.1) (by kernel_rfl) ?_ ?_
          · refine Sim.seq ?_
            refine Sim.region0 ?_
            refine SimI.run 1 [(4, .one (lb false))] [] (by kernel_rfl) ?_
            refine SimI.done (by kernel_rfl) ?_
            refine SimE.thenN ?_
            refine Sim.ret ?_
            refine SimE.blockR ?_
            refine SimE.thenR ?_
            refine SimE.loopR ?_
            refine SimE.blockR ?_
            refine SimE.thenR ?_
            exact SimE.fin (by kernel_rfl)
          · refine Sim.skip ?_
            refine SimE.blockN ?_
            refine SimE.thenN ?_
            refine Sim.region0 ?_
            refine SimI.run 3 [(8, .one (li .i64 (IntKind.wrap .i64 (i8 + 1)))), (24, .one (li .i64 (IntKind.wrap .i64 (i8 + 1)))), (23, .one (li .i64 i8))] [] (by kernel_rfl) ?_
            refine SimI.done (by kernel_rfl) ?_
            refine SimE.loopN ?_
            refine SimL.pre (ts := [2, 3, 5, 6, 7, 8]) (os := [2, 3, 9]) [(2, .one (.ptr 2 0)), (3, .one (.ptr 3 0)), (5, .one (li .i64 r2.1)), (6, .one (li .i64 r2.2)), (7, .one (li .i64 (IntKind.wrap .i64 (i7 + 1)))), (8, .one (li .i64 (IntKind.wrap .i64 (i8 + 1))))] ((2, some (.cells [li .i64 a0.X, li .i64 a0.Y])) :: ((3, some (.cells [li .i64 a1.X0, li .i64 a1.Y0, li .i64 a1.X1, li .i64 a1.Y1])) :: [])) (by kernel_rfl) (by kernel_rfl) (by kernel_rfl) ?_
            exact ih_l9 (IntKind.wrap .i64 (i7 + 1)) (IntKind.wrap .i64 (i8 + 1))
        · refine Sim.skip ?_
          refine SimE.blockN ?_
          refine SimE.thenN ?_
          refine Sim.region0 ?_
          refine SimI.run 3 [(8, .one (li .i64 (IntKind.wrap .i64 (i8 + 1)))), (24, .one (li .i64 (IntKind.wrap .i64 (i8 + 1)))), (23, .one (li .i64 i8))] [] (by kernel_rfl) ?_
          refine SimI.done (by kernel_rfl) ?_
          refine SimE.loopN ?_
          refine SimL.pre (ts := [2, 3, 5, 6, 7, 8]) (os := [2, 3, 9]) [(2, .one (.ptr 2 0)), (3, .one (.ptr 3 0)), (5, .one (li .i64 r2.1)), (6, .one (li .i64 r2.2)), (7, .one (li .i64 i7)), (8, .one (li .i64 (IntKind.wrap .i64 (i8 + 1))))] ((2, some (.cells [li .i64 a0.X, li .i64 a0.Y])) :: ((3, some (.cells [li .i64 a1.X0, li .i64 a1.Y0, li .i64 a1.X1, li .i64 a1.Y1])) :: [])) (by kernel_rfl) (by kernel_rfl) (by kernel_rfl) ?_
          exact ih_l9 i7 (IntKind.wrap .i64 (i8 + 1))
    · refine Sim.exit ?_
      refine SimE.thenX ?_
      refine SimE.loopX ?_
      refine SimE.blockX ?_
      refine SimE.thenN ?_
      refine Sim.seq ?_
      refine Sim.seq ?_
      refine Sim.region0 ?_
      refine SimI.run 2 [(41, .one (lb (r2.2 != 0))), (40, .one (li .i64 r2.2))] [] (by kernel_rfl) ?_
      refine SimI.done (by kernel_rfl) ?_
      refine SimE.thenN ?_
      refine Sim.cond (r2.2 != 0) (by kernel_rfl) ?_ ?_
      · refine Sim.seq ?_
        refine Sim.region0 ?_
        refine SimI.run 3 [(44, .one (lb (i7 == 0))), (43, .one (lb (i7 == 0))), (42, .one (li .i64 i7))] [] (by kernel_rfl) ?_
        refine SimI.split 44 (i7 == 0) (by kernel_rfl) ?_ ?_
        · refine SimI.run 4 [(4, .one (lb (r2.2 == 14))), (47, .one (lb (r2.2 == 14))), (46, .one (lb (r2.2 == 14))), (45, .one (li .i64 r2.2))] [] (by kernel_rfl) ?_
          refine SimI.done (by kernel_rfl) ?_
          refine SimE.thenN ?_
          refine Sim.ret ?_
          refine SimE.thenR ?_
          exact SimE.fin (by kernel_rfl)
        · refine SimI.run 4 [(4, .one (lb false)), (47, .one (lb false)), (46, .tup []), (45, .tup [])] [] (by kernel_rfl) ?_
          refine SimI.done (by kernel_rfl) ?_
          refine SimE.thenN ?_
          refine Sim.ret ?_
          refine SimE.thenR ?_
          exact SimE.fin (by kernel_rfl)
      · refine Sim.skip ?_
        refine SimE.thenN ?_
        refine Sim.seq ?_
        refine Sim.region0 ?_
        refine SimI.run 1 [(48, .agg [li .i64 a1.X0, li .i64 a1.Y0, li .i64 a1.X1, li .i64 a1.Y1])] [] (by kernel_rfl) ?_
        refine SimI.bind (og := F29 n a1) { dst := some 49, op := POp.call true [[]] 29 [Operand.tmp 48], guard := none, hints := [] } (fun r12 => [(49, .one (vw (codI .i64) r12))]) (fun r12 => []) (by kernel_rfl) (fun r12 hr => pOp_eff (by kernel_rfl) (by kernel_rfl) (eff_call (ARGS := [.agg [li .i64 a1.X0, li .i64 a1.Y0, li .i64 a1.X1, li .i64 a1.Y1]]) (by kernel_rfl) (args_clean (by kernel_rfl) args_nil) (F29_ok n a1 r12 hr) (by kernel_rfl))) (fun r12 => ?_)
        refine SimI.run 1 [(11, .one (vw (codI .i64) r12))] [] (by kernel_rfl) ?_
        refine SimI.done (by kernel_rfl) ?_
        refine SimE.thenN ?_
        refine Sim.seq ?_
        refine Sim.region0 ?_
        refine SimI.run 1 [(12, .one (lb false))] [] (by kernel_rfl) ?_
        refine SimI.done (by kernel_rfl) ?_
        refine SimE.thenN ?_
        refine Sim.seq ?_
        refine Sim.seq ?_
        refine Sim.region0 ?_
        refine SimI.run 1 [(13, .one (li .i64 0))] [] (by kernel_rfl) ?_
        refine SimI.done (by kernel_rfl) ?_
        refine SimE.thenN ?_
        refine Sim.block ?_
        refine Sim.loop ?_
        refine SimL.pre (ts := [2, 3, 5, 7, 11, 12, 13]) (os := [2, 3]) [(2, .one (.ptr 2 0)), (3, .one (.ptr 3 0)), (5, .one (li .i64 r2.1)), (7, .one (li .i64 i7)), (11, .one (vw (codI .i64) r12)), (12, .one (lb false)), (13, .one (li .i64 0))] ((2, some (.cells [li .i64 a0.X, li .i64 a0.Y])) :: ((3, some (.cells [li .i64 a1.X0, li .i64 a1.Y0, li .i64 a1.X1, li .i64 a1.Y1])) :: [])) (by kernel_rfl) (by kernel_rfl) (by kernel_rfl) ?_
        exact F8_l19_ok n a0 a1 r2 i7 r12 (n + 8) false 0

def F8 (n : Nat) (a0 : Point) (a1 : Rect) : Option Bool :=
  ((some true)).bind fun (r1 : Bool) =>
  if !(r1) then
    some false
  else
    (F25 n a0).bind fun (r2 : (Int × Int)) =>
    F8_l9 n a0 a1 r2 (n + 8) 0 0
theorem F8_ok (n : Nat) (a0 : Point) (a1 : Rect) : ∀ r, F8 n a0 a1 = some r → D 8 [.agg [li .i64 a0.X, li .i64 a0.Y], .agg [li .i64 a1.X0, li .i64 a1.Y0, li .i64 a1.X1, li .i64 a1.Y1]] [] = some (F8_e r) := by
  refine fn_to (D := D) (n := n + 8) (nt := 76) (rs := pc8_r) (c := pc8_c81) (L := [(0, .agg [li .i64 a0.X, li .i64 a0.Y]), (1, .agg [li .i64 a1.X0, li .i64 a1.Y0, li .i64 a1.X1, li .i64 a1.Y1])]) (M := []) (k := 0) rfl rfl rfl rfl rfl rfl ?_
  unfold F8
  refine Sim.seq ?_
  refine Sim.region0 ?_
  refine SimI.run 3 [(4, .one (lb false)), (3, .one (.ptr 3 0)), (2, .one (.ptr 2 0))] [(3, some (.cells [li .i64 a1.X0, li .i64 a1.Y0, li .i64 a1.X1, li .i64 a1.Y1])), (2, some (.cells [li .i64 a0.X, li .i64 a0.Y]))] (by kernel_rfl) ?_
  refine SimI.done (by kernel_rfl) ?_
  refine SimE.thenN ?_
  refine Sim.seq ?_
  refine Sim.seq ?_
  refine Sim.region0 ?_
  refine SimI.bind (og := (some true)) { dst := some 14, op := POp.call true [] 24 [], guard := none, hints := [] } (fun r1 => [(14, .one (lb r1))]) (fun r1 => []) (by kernel_rfl) (fun r1 hr => pOp_eff (by kernel_rfl) (by kernel_rfl) (eff_call (ARGS := []) (by kernel_rfl) (args_nil) (F24_ok n r1 hr) (by kernel_rfl))) (fun r1 => ?_)
  refine SimI.run 1 [(15, .one (lb (!(r1))))] [] (by kernel_rfl) ?_
  refine SimI.done (by kernel_rfl) ?_
  refine SimE.thenN ?_
  refine Sim.cond (!(r1)) (by kernel_rfl) ?_ ?_
  · refine Sim.seq ?_
    refine Sim.region0 ?_
    refine SimI.run 1 [(4, .one (lb false))] [] (by kernel_rfl) ?_
    refine SimI.done (by kernel_rfl) ?_
    refine SimE.thenN ?_
    refine Sim.ret ?_
    refine SimE.thenR ?_
    exact SimE.fin (by kernel_rfl)
  · refine Sim.skip ?_
    refine SimE.thenN ?_
    refine Sim.seq ?_
    refine Sim.region0 ?_
    refine SimI.run 1 [(17, .agg [li .i64 a0.X, li .i64 a0.Y])] [] (by kernel_rfl) ?_
    refine SimI.bind (og := F25 n a0) { dst := some 18, op := POp.call true [[]] 25 [Operand.tmp 17], guard := none, hints := [] } (fun r2 => [(18, .tup [.one (li .i64 r2.1), .one (li .i64 r2.2)])]) (fun r2 => []) (by kernel_rfl) (fun r2 hr => pOp_eff (by kernel_rfl) (by kernel_rfl) (eff_call (ARGS := [.agg [li .i64 a0.X, li .i64 a0.Y]]) (by kernel_rfl) (args_clean (by kernel_rfl) args_nil) (F25_ok n a0 r2 hr) (by kernel_rfl))) (fun r2 => ?_)
    refine SimI.run 5 [(6, .one (li .i64 r2.2)), (5, .one (li .i64 r2.1)), (20, .one (li .i64 r2.2)), (19, .one (li .i64 r2.1)), (16, .tup [.one (li .i64 r2.1), .one (li .i64 r2.2)])] [] (by kernel_rfl) ?_
    refine SimI.done (by kernel_rfl) ?_
    refine SimE.thenN ?_
    refine Sim.seq ?_
    refine Sim.region0 ?_
    refine SimI.run 1 [(7, .one (li .i64 0))] [] (by kernel_rfl) ?_
    refine SimI.done (by kernel_rfl) ?_
    refine SimE.thenN ?_
    refine Sim.seq ?_
    refine Sim.seq ?_
    refine Sim.region0 ?_
    refine SimI.run 1 [(8, .one (li .i64 0))] [] (by kernel_rfl) ?_
    refine SimI.done (by kernel_rfl) ?_
    refine SimE.thenN ?_
    refine Sim.block ?_
    refine Sim.loop ?_
    refine SimL.pre (ts := [2, 3, 5, 6, 7, 8]) (os := [2, 3, 9]) [(2, .one (.ptr 2 0)), (3, .one (.ptr 3 0)), (5, .one (li .i64 r2.1)), (6, .one (li .i64 r2.2)), (7, .one (li .i64 0)), (8, .one (li .i64 0))] ((2, some (.cells [li .i64 a0.X, li .i64 a0.Y])) :: ((3, some (.cells [li .i64 a1.X0, li .i64 a1.Y0, li .i64 a1.X1, li .i64 a1.Y1])) :: [])) (by kernel_rfl) (by kernel_rfl) (by kernel_rfl) ?_
    exact F8_l9_ok n a0 a1 r2 (n + 8) 0 0


-- 9: vedette/vedettelaw5.CellNeighbours
def F9_e : Bool → PV × List (List Lf) := fun r => (.one (lb r), [])
def F9_j12 (n : Nat) (a0 : Int) (a1 : Int) (a2 : Point) (i6 : Int) (i10 : Int) (i11 : Int) : Option Bool :=
    (F25 n a2).bind fun (r13 : (Int × Int)) =>
    (F25 n (Point.mk i10 i11)).bind fun (r14 : (Int × Int)) =>
    (F33 n (IntKind.wrap .i64 (Int.tmod a0 16)) (IntKind.wrap .i64 (Int.tmod a1 16))).bind fun (r15 : Bool) =>
    (F33 n (IntKind.wrap .i64 (Int.tmod a1 16)) (IntKind.wrap .i64 (Int.tmod a0 16))).bind fun (r16 : Bool) =>
    if r15 == r16 then
      if i6 == 3 then
        if r13.2 != 0 then
          some true
        else
          if r14.2 != 0 then
            some true
          else
            if r13.1 == r14.1 then
              some true
            else
              (F33 n r13.1 r14.1).bind fun (r17 : Bool) =>
              some r17
      else
        if i6 == 5 then
          if r13.2 != 0 then
            some true
          else
            if r14.2 != 0 then
              some true
            else
              if r13.1 == r14.1 then
                some true
              else
                (F33 n r13.1 r14.1).bind fun (r18 : Bool) =>
                some r18
        else
          if i6 == 8 then
            if r13.2 != 0 then
              some true
            else
              if r14.2 != 0 then
                some true
              else
                if r13.1 == r14.1 then
                  some true
                else
                  (F33 n r13.1 r14.1).bind fun (r19 : Bool) =>
                  some r19
          else
            some false
    else
      some false
theorem F9_j12_ok (n : Nat) (a0 : Int) (a1 : Int) (a2 : Point) (i6 : Int) (i10 : Int) (i11 : Int) : Sim Try.prog D (n + 8) pc9_c41 [(7, .one (.ptr 7 0)), (11, .one (li .i64 (IntKind.wrap .i64 (Int.tmod a0 16)))), (12, .one (li .i64 (IntKind.wrap .i64 (Int.tmod a1 16)))), (13, .one (li .i64 i6)), (15, .one (.ptr 15 0))] ((7, some (.cells [li .i64 a2.X, li .i64 a2.Y])) :: ((15, some (.cells [li .i64 i10, li .i64 i11])) :: [])) (F9_j12 n a0 a1 a2 i6 i10 i11) (QF pc9_r 0 F9_e) := by
    unfold F9_j12
    refine Sim.seq ?_
    refine Sim.region [(7, .one (.ptr 7 0)), (11, .one (li .i64 (IntKind.wrap .i64 (Int.tmod a0 16)))), (12, .one (li .i64 (IntKind.wrap .i64 (Int.tmod a1 16)))), (13, .one (li .i64 i6)), (15, .one (.ptr 15 0))] ((7, some (.cells [li .i64 a2.X, li .i64 a2.Y])) :: ((15, some (.cells [li .i64 i10, li .i64 i11])) :: [])) (by kernel_rfl) ?_
    refine SimI.run 1 [(72, .agg [li .i64 a2.X, li .i64 a2.Y])] [] (by kernel_rfl) ?_
    refine SimI.bind (og := F25 n a2) { dst := some 73, op := POp.call true [[]] 25 [Operand.tmp 72], guard := none, hints := [] } (fun r13 => [(73, .tup [.one (li .i64 r13.1), .one (li .i64 r13.2)])]) (fun r13 => []) (by kernel_rfl) (fun r13 hr => pOp_eff (by kernel_rfl) (by kernel_rfl) (eff_call (ARGS := [.agg [li .i64 a2.X, li .i64 a2.Y]]) (by kernel_rfl) (args_clean (by kernel_rfl) args_nil) (F25_ok n a2 r13 hr) (by kernel_rfl))) (fun r13 => ?_)
    refine SimI.run 5 [(17, .one (li .i64 r13.2)), (16, .one (li .i64 r13.1)), (75, .one (li .i64 r13.2)), (74, .one (li .i64 r13.1)), (71, .tup [.one (li .i64 r13.1), .one (li .i64 r13.2)])] [] (by kernel_rfl) ?_
    refine SimI.done (by kernel_rfl) ?_
    refine SimE.thenN ?_
    refine Sim.seq ?_
    refine Sim.region0 ?_
    refine SimI.run 1 [(77, .agg [li .i64 i10, li .i64 i11])] [] (by kernel_rfl) ?_
    refine SimI.bind (og := F25 n (Point.mk i10 i11)) { dst := some 78, op := POp.call true [[]] 25 [Operand.tmp 77], guard := none, hints := [] } (fun r14 => [(78, .tup [.one (li .i64 r14.1), .one (li .i64 r14.2)])]) (fun r14 => []) (by kernel_rfl) (fun r14 hr => pOp_eff (by kernel_rfl) (by kernel_rfl) (eff_call (ARGS := [.agg [li .i64 i10, li .i64 i11]]) (by kernel_rfl) (args_clean (by kernel_rfl) args_nil) (F25_ok n (Point.mk i10 i11) r14 hr) (by kernel_rfl))) (fun r14 => ?_)
    refine SimI.run 5 [(19, .one (li .i64 r14.2)), (18, .one (li .i64 r14.1)), (80, .one (li .i64 r14.2)), (79, .one (li .i64 r14.1)), (76, .tup [.one (li .i64 r14.1), .one (li .i64 r14.2)])] [] (by kernel_rfl) ?_
    refine SimI.done (by kernel_rfl) ?_
    refine SimE.thenN ?_
    refine Sim.seq ?_
    refine Sim.region0 ?_
    refine SimI.run 2 [(82, .one (li .i64 (IntKind.wrap .i64 (Int.tmod a1 16)))), (81, .one (li .i64 (IntKind.wrap .i64 (Int.tmod a0 16))))] [] (by kernel_rfl) ?_
    refine SimI.bind (og := F33 n (IntKind.wrap .i64 (Int.tmod a0 16)) (IntKind.wrap .i64 (Int.tmod a1 16))) { dst := some 83, op := POp.call true [[], []] 33 [Operand.tmp 81, Operand.tmp 82], guard := none, hints := [] } (fun r15 => [(83, .one (lb r15))]) (fun r15 => []) (by kernel_rfl) (fun r15 hr => pOp_eff (by kernel_rfl) (by kernel_rfl) (eff_call (ARGS := [.one (li .i64 (IntKind.wrap .i64 (Int.tmod a0 16))), .one (li .i64 (IntKind.wrap .i64 (Int.tmod a1 16)))]) (by kernel_rfl) (args_clean (by kernel_rfl) (args_clean (by kernel_rfl) args_nil)) (F33_ok n (IntKind.wrap .i64 (Int.tmod a0 16)) (IntKind.wrap .i64 (Int.tmod a1 16)) r15 hr) (by kernel_rfl))) (fun r15 => ?_)
    refine SimI.run 2 [(85, .one (li .i64 (IntKind.wrap .i64 (Int.tmod a0 16)))), (84, .one (li .i64 (IntKind.wrap .i64 (Int.tmod a1 16))))] [] (by kernel_rfl) ?_
    refine SimI.bind (og := F33 n (IntKind.wrap .i64 (Int.tmod a1 16)) (IntKind.wrap .i64 (Int.tmod a0 16))) { dst := some 86, op := POp.call true [[], []] 33 [Operand.tmp 84, Operand.tmp 85], guard := none, hints := [] } (fun r16 => [(86, .one (lb r16))]) (fun r16 => []) (by kernel_rfl) (fun r16 hr => pOp_eff (by kernel_rfl) (by kernel_rfl) (eff_call (ARGS := [.one (li .i64 (IntKind.wrap .i64 (Int.tmod a1 16))), .one (li .i64 (IntKind.wrap .i64 (Int.tmod a0 16)))]) (by kernel_rfl) (args_clean (by kernel_rfl) (args_clean (by kernel_rfl) args_nil)) (F33_ok n (IntKind.wrap .i64 (Int.tmod a1 16)) (IntKind.wrap .i64 (Int.tmod a0 16)) r16 hr) (by kernel_rfl))) (fun r16 => ?_)
    refine SimI.run 2 [(88, .one (lb (r15 == r16))), (87, .one (lb (r15 == r16)))] [] (by kernel_rfl) ?_
    refine SimI.split 88 (r15 == r16) (by kernel_rfl) ?_ ?_
    · refine SimI.run 3 [(91, .one (lb (i6 == 3))), (90, .one (lb (i6 == 3))), (89, .one (li .i64 i6))] [] (by kernel_rfl) ?_
      refine SimI.split 91 (i6 == 3) (by kernel_rfl) ?_ ?_
      · refine SimI.run 12 [(103, .one (lb (r13.2 != 0))), (102, .one (lb (r13.2 != 0))), (101, .one (li .i64 r13.2)), (100, .one (lb true)), (99, .one (lb true)), (98, .one (lb true)), (97, .tup []), (96, .tup []), (95, .one (lb true)), (94, .one (lb true)), (93, .tup []), (92, .tup [])] [] (by kernel_rfl) ?_
        refine SimI.split 103 (r13.2 != 0) (by kernel_rfl) ?_ ?_
        · refine SimI.run 15 [(10, .one (lb true)), (117, .one (lb true)), (116, .one (lb true)), (115, .tup []), (114, .tup []), (113, .tup []), (112, .one (lb true)), (111, .one (lb true)), (110, .tup []), (109, .tup []), (108, .tup []), (107, .one (lb true)), (106, .one (lb true)), (105, .tup []), (104, .tup [])] [] (by kernel_rfl) ?_
          refine SimI.done (by kernel_rfl) ?_
          refine SimE.thenN ?_
          refine Sim.ret ?_
          exact SimE.fin (by kernel_rfl)
        · refine SimI.run 4 [(107, .one (lb (r14.2 != 0))), (106, .one (lb (r14.2 != 0))), (105, .one (lb (r14.2 != 0))), (104, .one (li .i64 r14.2))] [] (by kernel_rfl) ?_
          refine SimI.split 107 (r14.2 != 0) (by kernel_rfl) ?_ ?_
          · refine SimI.run 11 [(10, .one (lb true)), (117, .one (lb true)), (116, .one (lb true)), (115, .tup []), (114, .tup []), (113, .tup []), (112, .one (lb true)), (111, .one (lb true)), (110, .tup []), (109, .tup []), (108, .tup [])] [] (by kernel_rfl) ?_
            refine SimI.done (by kernel_rfl) ?_
            refine SimE.thenN ?_
            refine Sim.ret ?_
            exact SimE.fin (by kernel_rfl)
          · refine SimI.run 5 [(112, .one (lb (r13.1 == r14.1))), (111, .one (lb (r13.1 == r14.1))), (110, .one (lb (r13.1 == r14.1))), (109, .one (li .i64 r14.1)), (108, .one (li .i64 r13.1))] [] (by kernel_rfl) ?_
            refine SimI.split 112 (r13.1 == r14.1) (by kernel_rfl) ?_ ?_
            · refine SimI.run 6 [(10, .one (lb true)), (117, .one (lb true)), (116, .one (lb true)), (115, .tup []), (114, .tup []), (113, .tup [])] [] (by kernel_rfl) ?_
              refine SimI.done (by kernel_rfl) ?_
              refine SimE.thenN ?_
              refine Sim.ret ?_
              exact SimE.fin (by kernel_rfl)
            · refine SimI.run 2 [(114, .one (li .i64 r14.1)), (113, .one (li .i64 r13.1))] [] (by kernel_rfl) ?_
              refine SimI.bind (og := F33 n r13.1 r14.1) { dst := some 115, op := POp.call true [[], []] 33 [Operand.tmp 113, Operand.tmp 114], guard := some (112, false), hints := [] } (fun r17 => [(115, .one (lb r17))]) (fun r17 => []) (by kernel_rfl) (fun r17 hr => pOp_eff (by kernel_rfl) (by kernel_rfl) (eff_call (ARGS := [.one (li .i64 r13.1), .one (li .i64 r14.1)]) (by kernel_rfl) (args_clean (by kernel_rfl) (args_clean (by kernel_rfl) args_nil)) (F33_ok n r13.1 r14.1 r17 hr) (by kernel_rfl))) (fun r17 => ?_)
              refine SimI.run 3 [(10, .one (lb r17)), (117, .one (lb r17)), (116, .one (lb r17))] [] (by kernel_rfl) ?_
              refine SimI.done (by kernel_rfl) ?_
              refine SimE.thenN ?_
              refine Sim.ret ?_
              exact SimE.fin (by kernel_rfl)
      · refine SimI.run 4 [(95, .one (lb (i6 == 5))), (94, .one (lb (i6 == 5))), (93, .one (lb (i6 == 5))), (92, .one (li .i64 i6))] [] (by kernel_rfl) ?_
        refine SimI.split 95 (i6 == 5) (by kernel_rfl) ?_ ?_
        · refine SimI.run 8 [(103, .one (lb (r13.2 != 0))), (102, .one (lb (r13.2 != 0))), (101, .one (li .i64 r13.2)), (100, .one (lb true)), (99, .one (lb true)), (98, .one (lb true)), (97, .tup []), (96, .tup [])] [] (by kernel_rfl) ?_
          refine SimI.split 103 (r13.2 != 0) (by kernel_rfl) ?_ ?_
          · refine SimI.run 15 [(10, .one (lb true)), (117, .one (lb true)), (116, .one (lb true)), (115, .tup []), (114, .tup []), (113, .tup []), (112, .one (lb true)), (111, .one (lb true)), (110, .tup []), (109, .tup []), (108, .tup []), (107, .one (lb true)), (106, .one (lb true)), (105, .tup []), (104, .tup [])] [] (by kernel_rfl) ?_
            refine SimI.done (by kernel_rfl) ?_
            refine SimE.thenN ?_
            refine Sim.ret ?_
            exact SimE.fin (by kernel_rfl)
          · refine SimI.run 4 [(107, .one (lb (r14.2 != 0))), (106, .one (lb (r14.2 != 0))), (105, .one (lb (r14.2 != 0))), (104, .one (li .i64 r14.2))] [] (by kernel_rfl) ?_
            refine SimI.split 107 (r14.2 != 0) (by kernel_rfl) ?_ ?_
            · refine SimI.run 11 [(10, .one (lb true)), (117, .one (lb true)), (116, .one (lb true)), (115, .tup []), (114, .tup []), (113, .tup []), (112, .one (lb true)), (111, .one (lb true)), (110, .tup []), (109, .tup []), (108, .tup [])] [] (by kernel_rfl) ?_
              refine SimI.done (by kernel_rfl) ?_
              refine SimE.thenN ?_
              refine Sim.ret ?_
              exact SimE.fin (by kernel_rfl)
            · refine SimI.run 5 [(112, .one (lb (r13.1 == r14.1))), (111, .one (lb (r13.1 == r14.1))), (110, .one (lb (r13.1 == r14.1))), (109, .one (li .i64 r14.1)), (108, .one (li .i64 r13.1))] [] (by kernel_rfl) ?_
              refine SimI.split 112 (r13.1 == r14.1) (by kernel_rfl) ?_ ?_
              · refine SimI.run 6 [(10, .one (lb true)), (117, .one (lb true)), (116, .one (lb true)), (115, .tup []), (114, .tup []), (113, .tup [])] [] (by kernel_rfl) ?_
                refine SimI.done (by kernel_rfl) ?_
                refine SimE.thenN ?_
                refine Sim.ret ?_
                exact SimE.fin (by kernel_rfl)
              · refine SimI.run 2 [(114, .one (li .i64 r14.1)), (113, .one (li .i64 r13.1))] [] (by kernel_rfl) ?_
                refine SimI.bind (og := F33 n r13.1 r14.1) { dst := some 115, op := POp.call true [[], []] 33 [Operand.tmp 113, Operand.tmp 114], guard := some (112, false), hints := [] } (fun r18 => [(115, .one (lb r18))]) (fun r18 => []) (by kernel_rfl) (fun r18 hr => pOp_eff (by kernel_rfl) (by kernel_rfl) (eff_call (ARGS := [.one (li .i64 r13.1), .one (li .i64 r14.1)]) (by kernel_rfl) (args_clean (by kernel_rfl) (args_clean (by kernel_rfl) args_nil)) (F33_ok n r13.1 r14.1 r18 hr) (by kernel_rfl))) (fun r18 => ?_)
                refine SimI.run 3 [(10, .one (lb r18)), (117, .one (lb r18)), (116, .one (lb r18))] [] (by kernel_rfl) ?_
                refine SimI.done (by kernel_rfl) ?_
                refine SimE.thenN ?_
                refine Sim.ret ?_
                exact SimE.fin (by kernel_rfl)
        · refine SimI.run 5 [(100, .one (lb (i6 == 8))), (99, .one (lb (i6 == 8))), (98, .one (lb (i6 == 8))), (97, .one (lb (i6 == 8))), (96, .one (li .i64 i6))] [] (by kernel_rfl) ?_
          refine SimI.split 100 (i6 == 8) (by kernel_rfl) ?_ ?_
          · refine SimI.run 3 [(103, .one (lb (r13.2 != 0))), (102, .one (lb (r13.2 != 0))), (101, .one (li .i64 r13.2))] [] (by kernel_rfl) ?_
            refine SimI.split 103 (r13.2 != 0) (by kernel_rfl) ?_ ?_
            · refine SimI.run 15 [(10, .one (lb true)), (117, .one (lb true)), (116, .one (lb true)), (115, .tup []), (114, .tup []), (113, .tup []), (112, .one (lb true)), (111, .one (lb true)), (110, .tup []), (109, .tup []), (108, .tup []), (107, .one (lb true)), (106, .one (lb true)), (105, .tup []), (104, .tup [])] [] (by kernel_rfl) ?_
              refine SimI.done (by kernel_rfl) ?_
              refine SimE.thenN ?_
              refine Sim.ret ?_
              exact SimE.fin (by kernel_rfl)
            · refine SimI.run 4 [(107, .one (lb (r14.2 != 0))), (106, .one (lb (r14.2 != 0))), (105, .one (lb (r14.2 != 0))), (104, .one (li .i64 r14.2))] [] (by kernel_rfl) ?_
              refine SimI.split 107 (r14.2 != 0) (by kernel_rfl) ?_ ?_
              · refine SimI.run 11 [(10, .one (lb true)), (117, .one (lb true)), (116, .one (lb true)), (115, .tup []), (114, .tup []), (113, .tup []), (112, .one (lb true)), (111, .one (lb true)), (110, .tup []), (109, .tup []), (108, .tup [])] [] (by kernel_rfl) ?_
                refine SimI.done (by kernel_rfl) ?_
                refine SimE.thenN ?_
                refine Sim.ret ?_
                exact SimE.fin (by kernel_rfl)
              · refine SimI.run 5 [(112, .one (lb (r13.1 == r14.1))), (111, .one (lb (r13.1 == r14.1))), (110, .one (lb (r13.1 == r14.1))), (109, .one (li .i64 r14.1)), (108, .one (li .i64 r13.1))] [] (by kernel_rfl) ?_
                refine SimI.split 112 (r13.1 == r14.1) (by kernel_rfl) ?_ ?_
                · refine SimI.run 6 [(10, .one (lb true)), (117, .one (lb true)), (116, .one (lb true)), (115, .tup []), (114, .tup []), (113, .tup [])] [] (by kernel_rfl) ?_
                  refine SimI.done (by kernel_rfl) ?_
                  refine SimE.thenN ?_
                  refine Sim.ret ?_
                  exact SimE.fin (by kernel_rfl)
                · refine SimI.run 2 [(114, .one (li .i64 r14.1)), (113, .one (li .i64 r13.1))] [] (by kernel_rfl) ?_
                  refine SimI.bind (og := F33 n r13.1 r14.1) { dst := some 115, op := POp.call true [[], []] 33 [Operand.tmp 113, Operand.tmp 114], guard := some (112, false), hints := [] } (fun r19 => [(115, .one (lb r19))]) (fun r19 => []) (by kernel_rfl) (fun r19 hr => pOp_eff (by kernel_rfl) (by kernel_rfl) (eff_call (ARGS := [.one (li .i64 r13.1), .one (li .i64 r14.1)]) (by kernel_rfl) (args_clean (by kernel_rfl) (args_clean (by kernel_rfl) args_nil)) (F33_ok n r13.1 r14.1 r19 hr) (by kernel_rfl))) (fun r19 => ?_)
                  refine SimI.run 3 [(10, .one (lb r19)), (117, .one (lb r19)), (116, .one (lb r19))] [] (by kernel_rfl) ?_
                  refine SimI.done (by kernel_rfl) ?_
                  refine SimE.thenN ?_
                  refine Sim.ret ?_
                  exact SimE.fin (by kernel_rfl)
          · refine SimI.run 18 [(10, .one (lb false)), (117, .one (lb false)), (116, .tup []), (115, .tup []), (114, .tup []), (113, .tup []), (112, .tup []), (111, .tup []), (110, .tup []), (109, .tup []), (108, .tup []), (107, .tup []), (106, .tup []), (105, .tup []), (104, .tup []), (103, .tup []), (102, .tup []), (101, .tup [])] [] (by kernel_rfl) ?_
            refine SimI.done (by kernel_rfl) ?_
            refine SimE.thenN ?_
            refine Sim.ret ?_
            exact SimE.fin (by kernel_rfl)
    · refine SimI.run 30 [(10, .one (lb false)), (117, .one (lb false)), (116, .tup []), (115, .tup []), (114, .tup []), (113, .tup []), (112, .tup []), (111, .tup []), (110, .tup []), (109, .tup []), (108, .tup []), (107, .tup []), (106, .tup []), (105, .tup []), (104, .tup []), (103, .tup []), (102, .tup []), (101, .tup []), (100, .one (lb false)), (99, .one (lb false)), (98, .tup []), (97, .tup []), (96, .tup []), (95, .tup []), (94, .tup []), (93, .tup []), (92, .tup []), (91, .tup []), (90, .tup []), (89, .tup [])] [] (by kernel_rfl) ?_
      refine SimI.done (by kernel_rfl) ?_
      refine SimE.thenN ?_
      refine Sim.ret ?_
      exact SimE.fin (by kernel_rfl)

def F9_l8 (n : Nat) (a0 : Int) (a1 : Int) (a2 : Point) (a3 : Int) (a4 : Int) : Nat → Int → Int → Option Bool
  | 0, _, _ => none
  | m + 1, i6, i7 =>
    if decide (i7 < 16) then
      (F33 n (IntKind.wrap .i64 (Int.tmod a0 16)) i7).bind fun (r9 : Bool) =>
      if r9 then
        (F9_l8 n a0 a1 a2 a3 a4 m) (IntKind.wrap .i64 (i6 + 1)) (IntKind.wrap .i64 (i7 + 1))
      else
        (F9_l8 n a0 a1 a2 a3 a4 m) i6 (IntKind.wrap .i64 (i7 + 1))
    else
      if decide (a2.X < 0) then
        F9_j12 n a0 a1 a2 i6 a2.X a2.Y
      else
        if decide ((64 : Int) ≤ a2.X) then
          F9_j12 n a0 a1 a2 i6 a2.X a2.Y
        else
          if decide (a2.Y < 0) then
            F9_j12 n a0 a1 a2 i6 a2.X a2.Y
          else
            if decide ((64 : Int) ≤ a2.Y) then
              F9_j12 n a0 a1 a2 i6 a2.X a2.Y
            else
              F9_j12 n a0 a1 a2 i6 (IntKind.wrap .i64 (IntKind.wrap .i64 (a2.X + IntKind.wrap .i64 (Int.tmod a3 3)) - 1)) (IntKind.wrap .i64 (IntKind.wrap .i64 (a2.Y + IntKind.wrap .i64 (Int.tmod a4 3)) - 1))
theorem F9_l8_ok (n : Nat) (a0 : Int) (a1 : Int) (a2 : Point) (a3 : Int) (a4 : Int) : ∀ (m : Nat) (i6 : Int) (i7 : Int), SimL Try.prog D (n + 8) m pc9_c25 [(3, .one (li .u8 a3)), (4, .one (li .u8 a4)), (7, .one (.ptr 7 0)), (11, .one (li .i64 (IntKind.wrap .i64 (Int.tmod a0 16)))), (12, .one (li .i64 (IntKind.wrap .i64 (Int.tmod a1 16)))), (13, .one (li .i64 i6)), (14, .one (li .i64 i7))] ((7, some (.cells [li .i64 a2.X, li .i64 a2.Y])) :: []) (F9_l8 n a0 a1 a2 a3 a4 m i6 i7) (QB 0 (QT Try.prog D (n + 8) pc9_c43 (QF pc9_r 0 F9_e))) := by
  intro m_l8
  induction m_l8 with
  | zero => intro i6 i7; exact SimL.zero'  rfl
  | succ m_l8 ih_l8 =>
    intro i6 i7
    refine SimL.succ ?_
    unfold F9_l8
    refine Sim.seq ?_
    refine Sim.seq ?_
    refine Sim.region [(3, .one (li .u8 a3)), (4, .one (li .u8 a4)), (7, .one (.ptr 7 0)), (11, .one (li .i64 (IntKind.wrap .i64 (Int.tmod a0 16)))), (12, .one (li .i64 (IntKind.wrap .i64 (Int.tmod a1 16)))), (13, .one (li .i64 i6)), (14, .one (li .i64 i7))] ((7, some (.cells [li .i64 a2.X, li .i64 a2.Y])) :: []) (by kernel_rfl) ?_
    refine SimI.run 2 [(29, .one (lb (decide (i7 < 16)))), (28, .one (li .i64 i7))] [] (by kernel_rfl) ?_
    refine SimI.done (by kernel_rfl) ?_
    refine SimE.thenN ?_
    refine Sim.cond (decide (i7 < 16)) (by kernel_rfl) ?_ ?_
    · refine Sim.skip ?_
      refine SimE.thenN ?_
      refine Sim.seq ?_
      refine Sim.block ?_
      refine Sim.seq ?_
      refine Sim.region0 ?_
      refine SimI.run 2 [(33, .one (li .i64 i7)), (32, .one (li .i64 (IntKind.wrap .i64 (Int.tmod a0 16))))] [] (by kernel_rfl) ?_
      refine SimI.bind (og := F33 n (IntKind.wrap .i64 (Int.tmod a0 16)) i7) { dst := some 34, op := POp.call true [[], []] 33 [Operand.tmp 32, Operand.tmp 33], guard := none, hints := [] } (fun r9 => [(34, .one (lb r9))]) (fun r9 => []) (by kernel_rfl) (fun r9 hr => pOp_eff (by kernel_rfl) (by kernel_rfl) (eff_call (ARGS := [.one (li .i64 (IntKind.wrap .i64 (Int.tmod a0 16))), .one (li .i64 i7)]) (by kernel_rfl) (args_clean (by kernel_rfl) (args_clean (by kernel_rfl) args_nil)) (F33_ok n (IntKind.wrap .i64 (Int.tmod a0 16)) i7 r9 hr) (by kernel_rfl))) (fun r9 => ?_)
      refine SimI.done (by kernel_rfl) ?_
      refine SimE.thenN ?_
      refine Sim.cond r9 (by kernel_rfl) ?_ ?_
      · refine Sim.region0 ?_
        refine SimI.run 3 [(13, .one (li .i64 (IntKind.wrap .i64 (i6 + 1)))), (36, .one (li .i64 (IntKind.wrap .i64 (i6 + 1)))), (35, .one (li .i64 i6))] [] (by kernel_rfl) ?_
        refine SimI.done (by kernel_rfl) ?_
        refine SimE.blockN ?_
        refine SimE.thenN ?_
        refine Sim.region0 ?_
        refine SimI.run 3 [(14, .one (li .i64 (IntKind.wrap .i64 (i7 + 1)))), (31, .one (li .i64 (IntKind.wrap .i64 (i7 + 1)))), (30, .one (li .i64 i7))] [] (by kernel_rfl) ?_
        refine SimI.done (by kernel_rfl) ?_
        refine SimE.loopN ?_
        refine SimL.pre (ts := [3, 4, 7, 11, 12, 13, 14]) (os := [7]) [(3, .one (li .u8 a3)), (4, .one (li .u8 a4)), (7, .one (.ptr 7 0)), (11, .one (li .i64 (IntKind.wrap .i64 (Int.tmod a0 16)))), (12, .one (li .i64 (IntKind.wrap .i64 (Int.tmod a1 16)))), (13, .one (li .i64 (IntKind.wrap .i64 (i6 + 1)))), (14, .one (li .i64 (IntKind.wrap .i64 (i7 + 1))))] ((7, some (.cells [li .i64 a2.X, li .i64 a2.Y])) :: []) (by kernel_rfl) (by kernel_rfl) (by kernel_rfl) ?_
        exact ih_l8 (IntKind.wrap .i64 (i6 + 1)) (IntKind.wrap .i64 (i7 + 1))
      · refine Sim.skip ?_
        refine SimE.blockN ?_
        refine SimE.thenN ?_
        refine Sim.region0 ?_
        refine SimI.run 3 [(14, .one (li .i64 (IntKind.wrap .i64 (i7 + 1)))), (31, .one (li .i64 (IntKind.wrap .i64 (i7 + 1)))), (30, .one (li .i64 i7))] [] (by kernel_rfl) ?_
        refine SimI.done (by kernel_rfl) ?_
        refine SimE.loopN ?_
        refine SimL.pre (ts := [3, 4, 7, 11, 12, 13, 14]) (os := [7]) [(3, .one (li .u8 a3)), (4, .one (li .u8 a4)), (7, .one (.ptr 7 0)), (11, .one (li .i64 (IntKind.wrap .i64 (Int.tmod a0 16)))), (12, .one (li .i64 (IntKind.wrap .i64 (Int.tmod a1 16)))), (13, .one (li .i64 i6)), (14, .one (li .i64 (IntKind.wrap .i64 (i7 + 1))))] ((7, some (.cells [li .i64 a2.X, li .i64 a2.Y])) :: []) (by kernel_rfl) (by kernel_rfl) (by kernel_rfl) ?_
        exact ih_l8 i6 (IntKind.wrap .i64 (i7 + 1))
    · refine Sim.exit ?_
      refine SimE.thenX ?_
      refine SimE.loopX ?_
      refine SimE.blockX ?_
      refine SimE.thenN ?_
      refine Sim.seq ?_
      refine Sim.region0 ?_
      refine SimI.run 17 [(15, .one (.ptr 15 0)), (51, .agg [li .i64 (IntKind.wrap .i64 (IntKind.wrap .i64 (a2.X + IntKind.wrap .i64 (Int.tmod a3 3)) - 1)), li .i64 (IntKind.wrap .i64 (IntKind.wrap .i64 (a2.Y + IntKind.wrap .i64 (Int.tmod a4 3)) - 1))]), (50, .one (li .i64 (IntKind.wrap .i64 (IntKind.wrap .i64 (a2.Y + IntKind.wrap .i64 (Int.tmod a4 3)) - 1)))), (49, .one (li .i64 (IntKind.wrap .i64 (a2.Y + IntKind.wrap .i64 (Int.tmod a4 3))))), (48, .one (li .i64 (IntKind.wrap .i64 (Int.tmod a4 3)))), (47, .one (li .u8 (Int.tmod a4 3))), (46, .one (li .u8 a4)), (45, .one (li .i64 a2.Y)), (44, .one (.ptr 7 1)), (43, .one (li .i64 (IntKind.wrap .i64 (IntKind.wrap .i64 (a2.X + IntKind.wrap .i64 (Int.tmod a3 3)) - 1)))), (42, .one (li .i64 (IntKind.wrap .i64 (a2.X + IntKind.wrap .i64 (Int.tmod a3 3))))), (41, .one (li .i64 (IntKind.wrap .i64 (Int.tmod a3 3)))), (40, .one (li .u8 (Int.tmod a3 3))), (39, .one (li .u8 a3)), (38, .one (li .i64 a2.X)), (37, .one (.ptr 7 0))] [(15, some (.cells [li .i64 (IntKind.wrap .i64 (IntKind.wrap .i64 (a2.X + IntKind.wrap .i64 (Int.tmod a3 3)) - 1)), li .i64 (IntKind.wrap .i64 (IntKind.wrap .i64 (a2.Y + IntKind.wrap .i64 (Int.tmod a4 3)) - 1))])), (15, some (.cells [li .i64 0, li .i64 0]))] (by kernel_rfl) ?_
      refine SimI.done (by kernel_rfl) ?_
      refine SimE.thenN ?_
      refine Sim.seq ?_
      refine Sim.seq ?_
      refine Sim.region0 ?_
      refine SimI.run 4 [(55, .one (lb (decide (a2.X < 0)))), (54, .one (lb (decide (a2.X < 0)))), (53, .one (li .i64 a2.X)), (52, .one (.ptr 7 0))] [] (by kernel_rfl) ?_
      refine SimI.split 55 (decide (a2.X < 0)) (by kernel_rfl) ?_ ?_
      · refine SimI.run 14 [(69, .one (lb true)), (68, .tup []), (67, .tup []), (66, .tup []), (65, .one (lb true)), (64, .one (lb true)), (63, .tup []), (62, .tup []), (61, .tup []), (60, .one (lb true)), (59, .one (lb true)), (58, .tup []), (57, .tup []), (56, .tup [])] [] (by kernel_rfl) ?_
        refine SimI.done (by kernel_rfl) ?_
        refine SimE.thenN ?_
        refine Sim.condT (by kernel_rfl) ?_
        refine Sim.region0 ?_
        refine SimI.run 2 [(70, .agg [li .i64 a2.X, li .i64 a2.Y])] [(15, some (.cells [li .i64 a2.X, li .i64 a2.Y]))] (by kernel_rfl) ?_
        refine SimI.done (by kernel_rfl) ?_
        refine SimE.thenN ?_
        refine Sim.pre (ts := [7, 11, 12, 13, 15]) (os := [7, 15]) [(7, .one (.ptr 7 0)), (11, .one (li .i64 (IntKind.wrap .i64 (Int.tmod a0 16)))), (12, .one (li .i64 (IntKind.wrap .i64 (Int.tmod a1 16)))), (13, .one (li .i64 i6)), (15, .one (.ptr 15 0))] ((7, some (.cells [li .i64 a2.X, li .i64 a2.Y])) :: ((15, some (.cells [li .i64 a2.X, li .i64 a2.Y])) :: [])) (by kernel_rfl) (by kernel_rfl) (by kernel_rfl) ?_
        exact F9_j12_ok n a0 a1 a2 i6 a2.X a2.Y
      · refine SimI.run 5 [(60, .one (lb (decide ((64 : Int) ≤ a2.X)))), (59, .one (lb (decide ((64 : Int) ≤ a2.X)))), (58, .one (lb (decide ((64 : Int) ≤ a2.X)))), (57, .one (li .i64 a2.X)), (56, .one (.ptr 7 0))] [] (by kernel_rfl) ?_
        refine SimI.split 60 (decide ((64 : Int) ≤ a2.X)) (by kernel_rfl) ?_ ?_
        · refine SimI.run 9 [(69, .one (lb true)), (68, .tup []), (67, .tup []), (66, .tup []), (65, .one (lb true)), (64, .one (lb true)), (63, .tup []), (62, .tup []), (61, .tup [])] [] (by kernel_rfl) ?_
          refine SimI.done (by kernel_rfl) ?_
          refine SimE.thenN ?_
          refine Sim.condT (by kernel_rfl) ?_
          refine Sim.region0 ?_
          refine SimI.run 2 [(70, .agg [li .i64 a2.X, li .i64 a2.Y])] [(15, some (.cells [li .i64 a2.X, li .i64 a2.Y]))] (by kernel_rfl) ?_
          refine SimI.done (by kernel_rfl) ?_
          refine SimE.thenN ?_
          refine Sim.pre (ts := [7, 11, 12, 13, 15]) (os := [7, 15]) [(7, .one (.ptr 7 0)), (11, .one (li .i64 (IntKind.wrap .i64 (Int.tmod a0 16)))), (12, .one (li .i64 (IntKind.wrap .i64 (Int.tmod a1 16)))), (13, .one (li .i64 i6)), (15, .one (.ptr 15 0))] ((7, some (.cells [li .i64 a2.X, li .i64 a2.Y])) :: ((15, some (.cells [li .i64 a2.X, li .i64 a2.Y])) :: [])) (by kernel_rfl) (by kernel_rfl) (by kernel_rfl) ?_
          exact F9_j12_ok n a0 a1 a2 i6 a2.X a2.Y
        · refine SimI.run 5 [(65, .one (lb (decide (a2.Y < 0)))), (64, .one (lb (decide (a2.Y < 0)))), (63, .one (lb (decide (a2.Y < 0)))), (62, .one (li .i64 a2.Y)), (61, .one (.ptr 7 1))] [] (by kernel_rfl) ?_
          refine SimI.split 65 (decide (a2.Y < 0)) (by kernel_rfl) ?_ ?_
          · refine SimI.run 4 [(69, .one (lb true)), (68, .tup []), (67, .tup []), (66, .tup [])] [] (by kernel_rfl) ?_
            refine SimI.done (by kernel_rfl) ?_
            refine SimE.thenN ?_
            refine Sim.condT (by kernel_rfl) ?_
            refine Sim.region0 ?_
            refine SimI.run 2 [(70, .agg [li .i64 a2.X, li .i64 a2.Y])] [(15, some (.cells [li .i64 a2.X, li .i64 a2.Y]))] (by kernel_rfl) ?_
            refine SimI.done (by kernel_rfl) ?_
            refine SimE.thenN ?_
            refine Sim.pre (ts := [7, 11, 12, 13, 15]) (os := [7, 15]) [(7, .one (.ptr 7 0)), (11, .one (li .i64 (IntKind.wrap .i64 (Int.tmod a0 16)))), (12, .one (li .i64 (IntKind.wrap .i64 (Int.tmod a1 16)))), (13, .one (li .i64 i6)), (15, .one (.ptr 15 0))] ((7, some (.cells [li .i64 a2.X, li .i64 a2.Y])) :: ((15, some (.cells [li .i64 a2.X, li .i64 a2.Y])) :: [])) (by kernel_rfl) (by kernel_rfl) (by kernel_rfl) ?_
            exact F9_j12_ok n a0 a1 a2 i6 a2.X a2.Y
          · refine SimI.run 4 [(69, .one (lb (decide ((64 : Int) ≤ a2.Y)))), (68, .one (lb (decide ((64 : Int) ≤ a2.Y)))), (67, .one (li .i64 a2.Y)), (66, .one (.ptr 7 1))] [] (by kernel_rfl) ?_
            refine SimI.done (by kernel_rfl) ?_
            refine SimE.thenN ?_
            refine Sim.cond (decide ((64 : Int) ≤ a2.Y)) (by kernel_rfl) ?_ ?_
            · refine Sim.region0 ?_
              refine SimI.run 2 [(70, .agg [li .i64 a2.X, li .i64 a2.Y])] [(15, some (.cells [li .i64 a2.X, li .i64 a2.Y]))] (by kernel_rfl) ?_
              refine SimI.done (by kernel_rfl) ?_
              refine SimE.thenN ?_
              refine Sim.pre (ts := [7, 11, 12, 13, 15]) (os := [7, 15]) [(7, .one (.ptr 7 0)), (11, .one (li .i64 (IntKind.wrap .i64 (Int.tmod a0 16)))), (12, .one (li .i64 (IntKind.wrap .i64 (Int.tmod a1 16)))), (13, .one (li .i64 i6)), (15, .one (.ptr 15 0))] ((7, some (.cells [li .i64 a2.X, li .i64 a2.Y])) :: ((15, some (.cells [li .i64 a2.X, li .i64 a2.Y])) :: [])) (by kernel_rfl) (by kernel_rfl) (by kernel_rfl) ?_
              exact F9_j12_ok n a0 a1 a2 i6 a2.X a2.Y
            · refine Sim.skip ?_
              refine SimE.thenN ?_
              refine Sim.pre (ts := [7, 11, 12, 13, 15]) (os := [7, 15]) [(7, .one (.ptr 7 0)), (11, .one (li .i64 (IntKind.wrap .i64 (Int.tmod a0 16)))), (12, .one (li .i64 (IntKind.wrap .i64 (Int.tmod a1 16)))), (13, .one (li .i64 i6)), (15, .one (.ptr 15 0))] ((7, some (.cells [li .i64 a2.X, li .i64 a2.Y])) :: ((15, some (.cells [li .i64 (IntKind.wrap .i64 (IntKind.wrap .i64 (a2.X + IntKind.wrap .i64 (Int.tmod a3 3)) - 1)), li .i64 (IntKind.wrap .i64 (IntKind.wrap .i64 (a2.Y + IntKind.wrap .i64 (Int.tmod a4 3)) - 1))])) :: [])) (by kernel_rfl) (by kernel_rfl) (by kernel_rfl) ?_
              exact F9_j12_ok n a0 a1 a2 i6 (IntKind.wrap .i64 (IntKind.wrap .i64 (a2.X + IntKind.wrap .i64 (Int.tmod a3 3)) - 1)) (IntKind.wrap .i64 (IntKind.wrap .i64 (a2.Y + IntKind.wrap .i64 (Int.tmod a4 3)) - 1))

def F9 (n : Nat) (a0 : Int) (a1 : Int) (a2 : Point) (a3 : Int) (a4 : Int) : Option Bool :=
  ((some true)).bind fun (r1 : Bool) =>
  if !(r1) then
    some false
  else
    F9_l8 n a0 a1 a2 a3 a4 (n + 8) 0 0
theorem F9_ok (n : Nat) (a0 : Int) (a1 : Int) (a2 : Point) (a3 : Int) (a4 : Int) : ∀ r, F9 n a0 a1 a2 a3 a4 = some r → D 9 [.one (li .u8 a0), .one (li .u8 a1), .agg [li .i64 a2.X, li .i64 a2.Y], .one (li .u8 a3), .one (li .u8 a4)] [] = some (F9_e r) := by
  refine fn_to (D := D) (n := n + 8) (nt := 118) (rs := pc9_r) (c := pc9_c48) (L := [(0, .one (li .u8 a0)), (1, .one (li .u8 a1)), (2, .agg [li .i64 a2.X, li .i64 a2.Y]), (3, .one (li .u8 a3)), (4, .one (li .u8 a4))]) (M := []) (k := 0) rfl rfl rfl rfl rfl rfl ?_
  unfold F9
  refine Sim.seq ?_
  refine Sim.region0 ?_
  refine SimI.run 2 [(10, .one (lb false)), (7, .one (.ptr 7 0))] [(7, some (.cells [li .i64 a2.X, li .i64 a2.Y]))] (by kernel_rfl) ?_
  refine SimI.done (by kernel_rfl) ?_
  refine SimE.thenN ?_
  refine Sim.seq ?_
  refine Sim.seq ?_
  refine Sim.region0 ?_
  refine SimI.bind (og := (some true)) { dst := some 20, op := POp.call true [] 24 [], guard := none, hints := [] } (fun r1 => [(20, .one (lb r1))]) (fun r1 => []) (by kernel_rfl) (fun r1 hr => pOp_eff (by kernel_rfl) (by kernel_rfl) (eff_call (ARGS := []) (by kernel_rfl) (args_nil) (F24_ok n r1 hr) (by kernel_rfl))) (fun r1 => ?_)
  refine SimI.run 1 [(21, .one (lb (!(r1))))] [] (by kernel_rfl) ?_
  refine SimI.done (by kernel_rfl) ?_
  refine SimE.thenN ?_
  refine Sim.cond (!(r1)) (by kernel_rfl) ?_ ?_
  · refine Sim.seq ?_
    refine Sim.region0 ?_
    refine SimI.run 1 [(10, .one (lb false))] [] (by kernel_rfl) ?_
    refine SimI.done (by kernel_rfl) ?_
    refine SimE.thenN ?_
    refine Sim.ret ?_
    refine SimE.thenR ?_
    exact SimE.fin (by kernel_rfl)
  · refine Sim.skip ?_
    refine SimE.thenN ?_
    refine Sim.seq ?_
    refine Sim.region0 ?_
    refine SimI.run 8 [(12, .one (li .i64 (IntKind.wrap .i64 (Int.tmod a1 16)))), (11, .one (li .i64 (IntKind.wrap .i64 (Int.tmod a0 16)))), (27, .one (li .i64 (IntKind.wrap .i64 (Int.tmod a1 16)))), (26, .one (li .u8 (Int.tmod a1 16))), (25, .one (li .u8 a1)), (24, .one (li .i64 (IntKind.wrap .i64 (Int.tmod a0 16)))), (23, .one (li .u8 (Int.tmod a0 16))), (22, .one (li .u8 a0))] [] (by kernel_rfl) ?_
    refine SimI.done (by kernel_rfl) ?_
    refine SimE.thenN ?_
    refine Sim.seq ?_
    refine Sim.region0 ?_
    refine SimI.run 1 [(13, .one (li .i64 0))] [] (by kernel_rfl) ?_
    refine SimI.done (by kernel_rfl) ?_
    refine SimE.thenN ?_
    refine Sim.seq ?_
    refine Sim.seq ?_
    refine Sim.region0 ?_
    refine SimI.run 1 [(14, .one (li .i64 0))] [] (by kernel_rfl) ?_
    refine SimI.done (by kernel_rfl) ?_
    refine SimE.thenN ?_
    refine Sim.block ?_
    refine Sim.loop ?_
    refine SimL.pre (ts := [3, 4, 7, 11, 12, 13, 14]) (os := [7]) [(3, .one (li .u8 a3)), (4, .one (li .u8 a4)), (7, .one (.ptr 7 0)), (11, .one (li .i64 (IntKind.wrap .i64 (Int.tmod a0 16)))), (12, .one (li .i64 (IntKind.wrap .i64 (Int.tmod a1 16)))), (13, .one (li .i64 0)), (14, .one (li .i64 0))] ((7, some (.cells [li .i64 a2.X, li .i64 a2.Y])) :: []) (by kernel_rfl) (by kernel_rfl) (by kernel_rfl) ?_
    exact F9_l8_ok n a0 a1 a2 a3 a4 (n + 8) 0 0


-- 10: vedette/vedettelaw5.CellCounts
def F10_e : Bool → PV × List (List Lf) := fun r => (.one (lb r), [])
def F10_l6 (n : Nat) (a0 : Int) (a1 : Int) (a2 : Int) (a3 : Int) (r2 : (List Int)) : Nat → Int → Option Bool
  | 0, _ => none
  | m + 1, i5 =>
    if decide (i5 < ((r2).length : Int)) then
      (ix r2 (IntKind.wrap .i64 (i5 - 1))).bind fun (x7 : Int) =>
      (ix r2 i5).bind fun (x8 : Int) =>
      if decide (x8 ≤ x7) then
        some false
      else
        (F10_l6 n a0 a1 a2 a3 r2 m) (IntKind.wrap .i64 (i5 + 1))
    else
      if ((r2).length : Int) == (IntKind.wrap .i64 (IntKind.wrap .i64 (IntKind.wrap .i64 (IntKind.wrap .i64 (Int.tdiv (IntKind.wrap .i64 (imin (IntKind.wrap .i64 (IntKind.wrap .i64 (IntKind.wrap .i64 (Int.tmod a0 64) + IntKind.wrap .i64 (Int.tmod a2 64)) + 1)) 64 - 1)) 16) - IntKind.wrap .i64 (Int.tdiv (IntKind.wrap .i64 (Int.tmod a0 64)) 16)) + 1) * IntKind.wrap .i64 (IntKind.wrap .i64 (IntKind.wrap .i64 (Int.tdiv (IntKind.wrap .i64 (imin (IntKind.wrap .i64 (IntKind.wrap .i64 (IntKind.wrap .i64 (Int.tmod a1 64) + IntKind.wrap .i64 (Int.tmod a3 64)) + 1)) 64 - 1)) 16) - IntKind.wrap .i64 (Int.tdiv (IntKind.wrap .i64 (Int.tmod a1 64)) 16)) + 1))) then
        (F29 n (Rect.mk (IntKind.wrap .i64 (Int.tmod a0 64)) 0 (IntKind.wrap .i64 (Int.tmod a0 64)) 64)).bind fun (r9 : (List Int)) =>
        some (((r9).length : Int) == 0)
      else
        some false
theorem F10_l6_ok (n : Nat) (a0 : Int) (a1 : Int) (a2 : Int) (a3 : Int) (r2 : (List Int)) : ∀ (m : Nat) (i5 : Int), SimL Try.prog D (n + 8) m pc10_c30 [(9, .one (.ptr 9 0)), (10, .one (li .i64 (IntKind.wrap .i64 (IntKind.wrap .i64 (IntKind.wrap .i64 (Int.tdiv (IntKind.wrap .i64 (imin (IntKind.wrap .i64 (IntKind.wrap .i64 (IntKind.wrap .i64 (Int.tmod a0 64) + IntKind.wrap .i64 (Int.tmod a2 64)) + 1)) 64 - 1)) 16) - IntKind.wrap .i64 (Int.tdiv (IntKind.wrap .i64 (Int.tmod a0 64)) 16)) + 1)))), (11, .one (li .i64 (IntKind.wrap .i64 (IntKind.wrap .i64 (IntKind.wrap .i64 (Int.tdiv (IntKind.wrap .i64 (imin (IntKind.wrap .i64 (IntKind.wrap .i64 (IntKind.wrap .i64 (Int.tmod a1 64) + IntKind.wrap .i64 (Int.tmod a3 64)) + 1)) 64 - 1)) 16) - IntKind.wrap .i64 (Int.tdiv (IntKind.wrap .i64 (Int.tmod a1 64)) 16)) + 1)))), (12, .one (vw (codI .i64) r2)), (13, .one (li .i64 i5))] ((9, some (.cells [li .i64 (IntKind.wrap .i64 (Int.tmod a0 64)), li .i64 (IntKind.wrap .i64 (Int.tmod a1 64)), li .i64 (imin (IntKind.wrap .i64 (IntKind.wrap .i64 (IntKind.wrap .i64 (Int.tmod a0 64) + IntKind.wrap .i64 (Int.tmod a2 64)) + 1)) 64), li .i64 (imin (IntKind.wrap .i64 (IntKind.wrap .i64 (IntKind.wrap .i64 (Int.tmod a1 64) + IntKind.wrap .i64 (Int.tmod a3 64)) + 1)) 64)])) :: []) (F10_l6 n a0 a1 a2 a3 r2 m i5) (QB 0 (QT Try.prog D (n + 8) pc10_c36 (QF pc10_r 0 F10_e))) := by
  intro m_l6
  induction m_l6 with
  | zero => intro i5; exact SimL.zero'  rfl
  | succ m_l6 ih_l6 =>
    intro i5
    refine SimL.succ ?_
    unfold F10_l6
    refine Sim.seq ?_
    refine Sim.seq ?_
    refine Sim.region [(9, .one (.ptr 9 0)), (10, .one (li .i64 (IntKind.wrap .i64 (IntKind.wrap .i64 (IntKind.wrap .i64 (Int.tdiv (IntKind.wrap .i64 (imin (IntKind.wrap .i64 (IntKind.wrap .i64 (IntKind.wrap .i64 (Int.tmod a0 64) + IntKind.wrap .i64 (Int.tmod a2 64)) + 1)) 64 - 1)) 16) - IntKind.wrap .i64 (Int.tdiv (IntKind.wrap .i64 (Int.tmod a0 64)) 16)) + 1)))), (11, .one (li .i64 (IntKind.wrap .i64 (IntKind.wrap .i64 (IntKind.wrap .i64 (Int.tdiv (IntKind.wrap .i64 (imin (IntKind.wrap .i64 (IntKind.wrap .i64 (IntKind.wrap .i64 (Int.tmod a1 64) + IntKind.wrap .i64 (Int.tmod a3 64)) + 1)) 64 - 1)) 16) - IntKind.wrap .i64 (Int.tdiv (IntKind.wrap .i64 (Int.tmod a1 64)) 16)) + 1)))), (12, .one (vw (codI .i64) r2)), (13, .one (li .i64 i5))] ((9, some (.cells [li .i64 (IntKind.wrap .i64 (Int.tmod a0 64)), li .i64 (IntKind.wrap .i64 (Int.tmod a1 64)), li .i64 (imin (IntKind.wrap .i64 (IntKind.wrap .i64 (IntKind.wrap .i64 (Int.tmod a0 64) + IntKind.wrap .i64 (Int.tmod a2 64)) + 1)) 64), li .i64 (imin (IntKind.wrap .i64 (IntKind.wrap .i64 (IntKind.wrap .i64 (Int.tmod a1 64) + IntKind.wrap .i64 (Int.tmod a3 64)) + 1)) 64)])) :: []) (by kernel_rfl) ?_
    refine SimI.run 4 [(64, .one (lb (decide (i5 < ((r2).length : Int))))), (63, .one (li .i64 ((r2).length : Int))), (62, .one (vw (codI .i64) r2)), (61, .one (li .i64 i5))] [] (by kernel_rfl) ?_
    refine SimI.done (by kernel_rfl) ?_
    refine SimE.thenN ?_
    refine Sim.cond (decide (i5 < ((r2).length : Int))) (by kernel_rfl) ?_ ?_
    · refine Sim.skip ?_
      refine SimE.thenN ?_
      refine Sim.seq ?_
      refine Sim.block ?_
      refine Sim.seq ?_
      refine Sim.region0 ?_
      refine SimI.run 3 [(69, .one (li .i64 (IntKind.wrap .i64 (i5 - 1)))), (68, .one (li .i64 i5)), (67, .one (vw (codI .i64) r2))] [] (by kernel_rfl) ?_
      refine SimI.bind (og := ix r2 (IntKind.wrap .i64 (i5 - 1))) { dst := some 70, op := POp.iaddrS 1 (Operand.tmp 67) (Operand.tmp 69), guard := none, hints := [(67, Hint.imm), (69, Hint.imm)] } (fun x7 => [(70, .one (.eptr ((codI .i64).enc x7) 0))]) (fun x7 => []) (by kernel_rfl) (fun x7 hr => pOp_eff (by kernel_rfl) (by kernel_rfl) (eff_idx (c := (codI .i64)) (l := r2) (k := .i64) (n := IntKind.wrap .i64 (i5 - 1)) (by kernel_rfl) (by kernel_rfl) (by kernel_rfl) hr)) (fun x7 => ?_)
      refine SimI.run 3 [(73, .one (li .i64 i5)), (72, .one (vw (codI .i64) r2)), (71, .one (li .i64 x7))] [] (by kernel_rfl) ?_
      refine SimI.bind (og := ix r2 i5) { dst := some 74, op := POp.iaddrS 1 (Operand.tmp 72) (Operand.tmp 73), guard := none, hints := [(72, Hint.imm), (73, Hint.imm)] } (fun x8 => [(74, .one (.eptr ((codI .i64).enc x8) 0))]) (fun x8 => []) (by kernel_rfl) (fun x8 hr => pOp_eff (by kernel_rfl) (by kernel_rfl) (eff_idx (c := (codI .i64)) (l := r2) (k := .i64) (n := i5) (by kernel_rfl) (by kernel_rfl) (by kernel_rfl) hr)) (fun x8 => ?_)
      refine SimI.run 2 [(76, .one (lb (decide (x8 ≤ x7)))), (75, .one (li .i64 x8))] [] (by kernel_rfl) ?_
      refine SimI.done (by kernel_rfl) ?_
      refine SimE.thenN ?_
      refine Sim.cond (decide (x8 ≤ x7)) (by kernel_rfl) ?_ ?_
      · refine Sim.seq ?_
        refine Sim.region0 ?_
        refine SimI.run 1 [(8, .one (lb false))] [] (by kernel_rfl) ?_
        refine SimI.done (by kernel_rfl) ?_
        refine SimE.thenN ?_
        refine Sim.ret ?_
        refine SimE.blockR ?_
        refine SimE.thenR ?_
        refine SimE.loopR ?_
        refine SimE.blockR ?_
        refine SimE.thenR ?_
        exact SimE.fin (by kernel_rfl)
      · refine Sim.skip ?_
        refine SimE.blockN ?_
        refine SimE.thenN ?_
        refine Sim.region0 ?_
        refine SimI.run 3 [(13, .one (li .i64 (IntKind.wrap .i64 (i5 + 1)))), (66, .one (li .i64 (IntKind.wrap .i64 (i5 + 1)))), (65, .one (li .i64 i5))] [] (by kernel_rfl) ?_
        refine SimI.done (by kernel_rfl) ?_
        refine SimE.loopN ?_
        refine SimL.pre (ts := [9, 10, 11, 12, 13]) (os := [9]) [(9, .one (.ptr 9 0)), (10, .one (li .i64 (IntKind.wrap .i64 (IntKind.wrap .i64 (IntKind.wrap .i64 (Int.tdiv (IntKind.wrap .i64 (imin (IntKind.wrap .i64 (IntKind.wrap .i64 (IntKind.wrap .i64 (Int.tmod a0 64) + IntKind.wrap .i64 (Int.tmod a2 64)) + 1)) 64 - 1)) 16) - IntKind.wrap .i64 (Int.tdiv (IntKind.wrap .i64 (Int.tmod a0 64)) 16)) + 1)))), (11, .one (li .i64 (IntKind.wrap .i64 (IntKind.wrap .i64 (IntKind.wrap .i64 (Int.tdiv (IntKind.wrap .i64 (imin (IntKind.wrap .i64 (IntKind.wrap .i64 (IntKind.wrap .i64 (Int.tmod a1 64) + IntKind.wrap .i64 (Int.tmod a3 64)) + 1)) 64 - 1)) 16) - IntKind.wrap .i64 (Int.tdiv (IntKind.wrap .i64 (Int.tmod a1 64)) 16)) + 1)))), (12, .one (vw (codI .i64) r2)), (13, .one (li .i64 (IntKind.wrap .i64 (i5 + 1))))] ((9, some (.cells [li .i64 (IntKind.wrap .i64 (Int.tmod a0 64)), li .i64 (IntKind.wrap .i64 (Int.tmod a1 64)), li .i64 (imin (IntKind.wrap .i64 (IntKind.wrap .i64 (IntKind.wrap .i64 (Int.tmod a0 64) + IntKind.wrap .i64 (Int.tmod a2 64)) + 1)) 64), li .i64 (imin (IntKind.wrap .i64 (IntKind.wrap .i64 (IntKind.wrap .i64 (Int.tmod a1 64) + IntKind.wrap .i64 (Int.tmod a3 64)) + 1)) 64)])) :: []) (by kernel_rfl) (by kernel_rfl) (by kernel_rfl) ?_
        exact ih_l6 (IntKind.wrap .i64 (i5 + 1))
    · refine Sim.exit ?_
      refine SimE.thenX ?_
      refine SimE.loopX ?_
      refine SimE.blockX ?_
      refine SimE.thenN ?_
      refine Sim.seq ?_
      refine Sim.region0 ?_
      refine SimI.run 7 [(83, .one (lb (((r2).length : Int) == (IntKind.wrap .i64 (IntKind.wrap .i64 (IntKind.wrap .i64 (IntKind.wrap .i64 (Int.tdiv (IntKind.wrap .i64 (imin (IntKind.wrap .i64 (IntKind.wrap .i64 (IntKind.wrap .i64 (Int.tmod a0 64) + IntKind.wrap .i64 (Int.tmod a2 64)) + 1)) 64 - 1)) 16) - IntKind.wrap .i64 (Int.tdiv (IntKind.wrap .i64 (Int.tmod a0 64)) 16)) + 1) * IntKind.wrap .i64 (IntKind.wrap .i64 (IntKind.wrap .i64 (Int.tdiv (IntKind.wrap .i64 (imin (IntKind.wrap .i64 (IntKind.wrap .i64 (IntKind.wrap .i64 (Int.tmod a1 64) + IntKind.wrap .i64 (Int.tmod a3 64)) + 1)) 64 - 1)) 16) - IntKind.wrap .i64 (Int.tdiv (IntKind.wrap .i64 (Int.tmod a1 64)) 16)) + 1)))))), (82, .one (lb (((r2).length : Int) == (IntKind.wrap .i64 (IntKind.wrap .i64 (IntKind.wrap .i64 (IntKind.wrap .i64 (Int.tdiv (IntKind.wrap .i64 (imin (IntKind.wrap .i64 (IntKind.wrap .i64 (IntKind.wrap .i64 (Int.tmod a0 64) + IntKind.wrap .i64 (Int.tmod a2 64)) + 1)) 64 - 1)) 16) - IntKind.wrap .i64 (Int.tdiv (IntKind.wrap .i64 (Int.tmod a0 64)) 16)) + 1) * IntKind.wrap .i64 (IntKind.wrap .i64 (IntKind.wrap .i64 (Int.tdiv (IntKind.wrap .i64 (imin (IntKind.wrap .i64 (IntKind.wrap .i64 (IntKind.wrap .i64 (Int.tmod a1 64) + IntKind.wrap .i64 (Int.tmod a3 64)) + 1)) 64 - 1)) 16) - IntKind.wrap .i64 (Int.tdiv (IntKind.wrap .i64 (Int.tmod a1 64)) 16)) + 1)))))), (81, .one (li .i64 (IntKind.wrap .i64 (IntKind.wrap .i64 (IntKind.wrap .i64 (IntKind.wrap .i64 (Int.tdiv (IntKind.wrap .i64 (imin (IntKind.wrap .i64 (IntKind.wrap .i64 (IntKind.wrap .i64 (Int.tmod a0 64) + IntKind.wrap .i64 (Int.tmod a2 64)) + 1)) 64 - 1)) 16) - IntKind.wrap .i64 (Int.tdiv (IntKind.wrap .i64 (Int.tmod a0 64)) 16)) + 1) * IntKind.wrap .i64 (IntKind.wrap .i64 (IntKind.wrap .i64 (Int.tdiv (IntKind.wrap .i64 (imin (IntKind.wrap .i64 (IntKind.wrap .i64 (IntKind.wrap .i64 (Int.tmod a1 64) + IntKind.wrap .i64 (Int.tmod a3 64)) + 1)) 64 - 1)) 16) - IntKind.wrap .i64 (Int.tdiv (IntKind.wrap .i64 (Int.tmod a1 64)) 16)) + 1))))), (80, .one (li .i64 (IntKind.wrap .i64 (IntKind.wrap .i64 (IntKind.wrap .i64 (Int.tdiv (IntKind.wrap .i64 (imin (IntKind.wrap .i64 (IntKind.wrap .i64 (IntKind.wrap .i64 (Int.tmod a1 64) + IntKind.wrap .i64 (Int.tmod a3 64)) + 1)) 64 - 1)) 16) - IntKind.wrap .i64 (Int.tdiv (IntKind.wrap .i64 (Int.tmod a1 64)) 16)) + 1)))), (79, .one (li .i64 (IntKind.wrap .i64 (IntKind.wrap .i64 (IntKind.wrap .i64 (Int.tdiv (IntKind.wrap .i64 (imin (IntKind.wrap .i64 (IntKind.wrap .i64 (IntKind.wrap .i64 (Int.tmod a0 64) + IntKind.wrap .i64 (Int.tmod a2 64)) + 1)) 64 - 1)) 16) - IntKind.wrap .i64 (Int.tdiv (IntKind.wrap .i64 (Int.tmod a0 64)) 16)) + 1)))), (78, .one (li .i64 ((r2).length : Int))), (77, .one (vw (codI .i64) r2))] [] (by kernel_rfl) ?_
      refine SimI.split 83 (((r2).length : Int) == (IntKind.wrap .i64 (IntKind.wrap .i64 (IntKind.wrap .i64 (IntKind.wrap .i64 (Int.tdiv (IntKind.wrap .i64 (imin (IntKind.wrap .i64 (IntKind.wrap .i64 (IntKind.wrap .i64 (Int.tmod a0 64) + IntKind.wrap .i64 (Int.tmod a2 64)) + 1)) 64 - 1)) 16) - IntKind.wrap .i64 (Int.tdiv (IntKind.wrap .i64 (Int.tmod a0 64)) 16)) + 1) * IntKind.wrap .i64 (IntKind.wrap .i64 (IntKind.wrap .i64 (Int.tdiv (IntKind.wrap .i64 (imin (IntKind.wrap .i64 (IntKind.wrap .i64 (IntKind.wrap .i64 (Int.tmod a1 64) + IntKind.wrap .i64 (Int.tmod a3 64)) + 1)) 64 - 1)) 16) - IntKind.wrap .i64 (Int.tdiv (IntKind.wrap .i64 (Int.tmod a1 64)) 16)) + 1)))) (by kernel_rfl) ?_ ?_
      · refine SimI.run 5 [(88, .agg [li .i64 (IntKind.wrap .i64 (Int.tmod a0 64)), li .i64 0, li .i64 (IntKind.wrap .i64 (Int.tmod a0 64)), li .i64 64]), (87, .one (li .i64 (IntKind.wrap .i64 (Int.tmod a0 64)))), (86, .one (.ptr 9 0)), (85, .one (li .i64 (IntKind.wrap .i64 (Int.tmod a0 64)))), (84, .one (.ptr 9 0))] [] (by kernel_rfl) ?_
        refine SimI.bind (og := F29 n (Rect.mk (IntKind.wrap .i64 (Int.tmod a0 64)) 0 (IntKind.wrap .i64 (Int.tmod a0 64)) 64)) { dst := some 89, op := POp.call true [[]] 29 [Operand.tmp 88], guard := some (83, true), hints := [] } (fun r9 => [(89, .one (vw (codI .i64) r9))]) (fun r9 => []) (by kernel_rfl) (fun r9 hr => pOp_eff (by kernel_rfl) (by kernel_rfl) (eff_call (ARGS := [.agg [li .i64 (IntKind.wrap .i64 (Int.tmod a0 64)), li .i64 0, li .i64 (IntKind.wrap .i64 (Int.tmod a0 64)), li .i64 64]]) (by kernel_rfl) (args_clean (by kernel_rfl) args_nil) (F29_ok n (Rect.mk (IntKind.wrap .i64 (Int.tmod a0 64)) 0 (IntKind.wrap .i64 (Int.tmod a0 64)) 64) r9 hr) (by kernel_rfl))) (fun r9 => ?_)
        refine SimI.run 4 [(8, .one (lb (((r9).length : Int) == 0))), (92, .one (lb (((r9).length : Int) == 0))), (91, .one (lb (((r9).length : Int) == 0))), (90, .one (li .i64 ((r9).length : Int)))] [] (by kernel_rfl) ?_
        refine SimI.done (by kernel_rfl) ?_
        refine SimE.thenN ?_
        refine Sim.ret ?_
        exact SimE.fin (by kernel_rfl)
      · refine SimI.run 10 [(8, .one (lb false)), (92, .one (lb false)), (91, .tup []), (90, .tup []), (89, .tup []), (88, .tup []), (87, .tup []), (86, .tup []), (85, .tup []), (84, .tup [])] [] (by kernel_rfl) ?_
        refine SimI.done (by kernel_rfl) ?_
        refine SimE.thenN ?_
        refine Sim.ret ?_
        exact SimE.fin (by kernel_rfl)

def F10 (n : Nat) (a0 : Int) (a1 : Int) (a2 : Int) (a3 : Int) : Option Bool :=
  ((some true)).bind fun (r1 : Bool) =>
  if !(r1) then
    some false
  else
    (F29 n (Rect.mk (IntKind.wrap .i64 (Int.tmod a0 64)) (IntKind.wrap .i64 (Int.tmod a1 64)) (imin (IntKind.wrap .i64 (IntKind.wrap .i64 (IntKind.wrap .i64 (Int.tmod a0 64) + IntKind.wrap .i64 (Int.tmod a2 64)) + 1)) 64) (imin (IntKind.wrap .i64 (IntKind.wrap .i64 (IntKind.wrap .i64 (Int.tmod a1 64) + IntKind.wrap .i64 (Int.tmod a3 64)) + 1)) 64))).bind fun (r2 : (List Int)) =>
    F10_l6 n a0 a1 a2 a3 r2 (n + 8) 1
theorem F10_ok (n : Nat) (a0 : Int) (a1 : Int) (a2 : Int) (a3 : Int) : ∀ r, F10 n a0 a1 a2 a3 = some r → D 10 [.one (li .u8 a0), .one (li .u8 a1), .one (li .u8 a2), .one (li .u8 a3)] [] = some (F10_e r) := by
  refine fn_to (D := D) (n := n + 8) (nt := 93) (rs := pc10_r) (c := pc10_c44) (L := [(0, .one (li .u8 a0)), (1, .one (li .u8 a1)), (2, .one (li .u8 a2)), (3, .one (li .u8 a3))]) (M := []) (k := 0) rfl rfl rfl rfl rfl rfl ?_
  unfold F10
  refine Sim.seq ?_
  refine Sim.region0 ?_
  refine SimI.run 1 [(8, .one (lb false))] [] (by kernel_rfl) ?_
  refine SimI.done (by kernel_rfl) ?_
  refine SimE.thenN ?_
  refine Sim.seq ?_
  refine Sim.seq ?_
  refine Sim.region0 ?_
  refine SimI.bind (og := (some true)) { dst := some 14, op := POp.call true [] 24 [], guard := none, hints := [] } (fun r1 => [(14, .one (lb r1))]) (fun r1 => []) (by kernel_rfl) (fun r1 hr => pOp_eff (by kernel_rfl) (by kernel_rfl) (eff_call (ARGS := []) (by kernel_rfl) (args_nil) (F24_ok n r1 hr) (by kernel_rfl))) (fun r1 => ?_)
  refine SimI.run 1 [(15, .one (lb (!(r1))))] [] (by kernel_rfl) ?_
  refine SimI.done (by kernel_rfl) ?_
  refine SimE.thenN ?_
  refine Sim.cond (!(r1)) (by kernel_rfl) ?_ ?_
  · refine Sim.seq ?_
    refine Sim.region0 ?_
    refine SimI.run 1 [(8, .one (lb false))] [] (by kernel_rfl) ?_
    refine SimI.done (by kernel_rfl) ?_
    refine SimE.thenN ?_
    refine Sim.ret ?_
    refine SimE.thenR ?_
    exact SimE.fin (by kernel_rfl)
  · refine Sim.skip ?_
    refine SimE.thenN ?_
    refine Sim.seq ?_
    refine Sim.region0 ?_
    refine SimI.run 9 [(9, .one (.ptr 9 0)), (22, .agg [li .i64 (IntKind.wrap .i64 (Int.tmod a0 64)), li .i64 (IntKind.wrap .i64 (Int.tmod a1 64)), li .i64 0, li .i64 0]), (21, .one (li .i64 (IntKind.wrap .i64 (Int.tmod a1 64)))), (20, .one (li .u8 (Int.tmod a1 64))), (19, .one (li .u8 a1)), (18, .one (li .i64 (IntKind.wrap .i64 (Int.tmod a0 64)))), (17, .one (li .u8 (Int.tmod a0 64))), (16, .one (li .u8 a0))] [(9, some (.cells [li .i64 (IntKind.wrap .i64 (Int.tmod a0 64)), li .i64 (IntKind.wrap .i64 (Int.tmod a1 64)), li .i64 0, li .i64 0])), (9, some (.cells [li .i64 0, li .i64 0, li .i64 0, li .i64 0]))] (by kernel_rfl) ?_
    refine SimI.done (by kernel_rfl) ?_
    refine SimE.thenN ?_
    refine Sim.seq ?_
    refine Sim.region0 ?_
    refine SimI.run 20 [(40, .one (.ptr 9 3)), (39, .one (.ptr 9 2)), (38, .one (li .i64 (imin (IntKind.wrap .i64 (IntKind.wrap .i64 (IntKind.wrap .i64 (Int.tmod a1 64) + IntKind.wrap .i64 (Int.tmod a3 64)) + 1)) 64))), (37, .one (li .i64 (IntKind.wrap .i64 (IntKind.wrap .i64 (IntKind.wrap .i64 (Int.tmod a1 64) + IntKind.wrap .i64 (Int.tmod a3 64)) + 1)))), (36, .one (li .i64 (IntKind.wrap .i64 (IntKind.wrap .i64 (Int.tmod a1 64) + IntKind.wrap .i64 (Int.tmod a3 64))))), (35, .one (li .i64 (IntKind.wrap .i64 (Int.tmod a3 64)))), (34, .one (li .u8 (Int.tmod a3 64))), (33, .one (li .u8 a3)), (32, .one (li .i64 (IntKind.wrap .i64 (Int.tmod a1 64)))), (31, .one (.ptr 9 1)), (30, .one (li .i64 (imin (IntKind.wrap .i64 (IntKind.wrap .i64 (IntKind.wrap .i64 (Int.tmod a0 64) + IntKind.wrap .i64 (Int.tmod a2 64)) + 1)) 64))), (29, .one (li .i64 (IntKind.wrap .i64 (IntKind.wrap .i64 (IntKind.wrap .i64 (Int.tmod a0 64) + IntKind.wrap .i64 (Int.tmod a2 64)) + 1)))), (28, .one (li .i64 (IntKind.wrap .i64 (IntKind.wrap .i64 (Int.tmod a0 64) + IntKind.wrap .i64 (Int.tmod a2 64))))), (27, .one (li .i64 (IntKind.wrap .i64 (Int.tmod a2 64)))), (26, .one (li .u8 (Int.tmod a2 64))), (25, .one (li .u8 a2)), (24, .one (li .i64 (IntKind.wrap .i64 (Int.tmod a0 64)))), (23, .one (.ptr 9 0))] [(9, some (.cells [li .i64 (IntKind.wrap .i64 (Int.tmod a0 64)), li .i64 (IntKind.wrap .i64 (Int.tmod a1 64)), li .i64 (imin (IntKind.wrap .i64 (IntKind.wrap .i64 (IntKind.wrap .i64 (Int.tmod a0 64) + IntKind.wrap .i64 (Int.tmod a2 64)) + 1)) 64), li .i64 (imin (IntKind.wrap .i64 (IntKind.wrap .i64 (IntKind.wrap .i64 (Int.tmod a1 64) + IntKind.wrap .i64 (Int.tmod a3 64)) + 1)) 64)])), (9, some (.cells [li .i64 (IntKind.wrap .i64 (Int.tmod a0 64)), li .i64 (IntKind.wrap .i64 (Int.tmod a1 64)), li .i64 (imin (IntKind.wrap .i64 (IntKind.wrap .i64 (IntKind.wrap .i64 (Int.tmod a0 64) + IntKind.wrap .i64 (Int.tmod a2 64)) + 1)) 64), li .i64 0]))] (by kernel_rfl) ?_
    refine SimI.done (by kernel_rfl) ?_
    refine SimE.thenN ?_
    refine Sim.seq ?_
    refine Sim.region0 ?_
    refine SimI.run 10 [(10, .one (li .i64 (IntKind.wrap .i64 (IntKind.wrap .i64 (IntKind.wrap .i64 (Int.tdiv (IntKind.wrap .i64 (imin (IntKind.wrap .i64 (IntKind.wrap .i64 (IntKind.wrap .i64 (Int.tmod a0 64) + IntKind.wrap .i64 (Int.tmod a2 64)) + 1)) 64 - 1)) 16) - IntKind.wrap .i64 (Int.tdiv (IntKind.wrap .i64 (Int.tmod a0 64)) 16)) + 1)))), (49, .one (li .i64 (IntKind.wrap .i64 (IntKind.wrap .i64 (IntKind.wrap .i64 (Int.tdiv (IntKind.wrap .i64 (imin (IntKind.wrap .i64 (IntKind.wrap .i64 (IntKind.wrap .i64 (Int.tmod a0 64) + IntKind.wrap .i64 (Int.tmod a2 64)) + 1)) 64 - 1)) 16) - IntKind.wrap .i64 (Int.tdiv (IntKind.wrap .i64 (Int.tmod a0 64)) 16)) + 1)))), (48, .one (li .i64 (IntKind.wrap .i64 (IntKind.wrap .i64 (Int.tdiv (IntKind.wrap .i64 (imin (IntKind.wrap .i64 (IntKind.wrap .i64 (IntKind.wrap .i64 (Int.tmod a0 64) + IntKind.wrap .i64 (Int.tmod a2 64)) + 1)) 64 - 1)) 16) - IntKind.wrap .i64 (Int.tdiv (IntKind.wrap .i64 (Int.tmod a0 64)) 16))))), (47, .one (li .i64 (IntKind.wrap .i64 (Int.tdiv (IntKind.wrap .i64 (Int.tmod a0 64)) 16)))), (46, .one (li .i64 (IntKind.wrap .i64 (Int.tmod a0 64)))), (45, .one (.ptr 9 0)), (44, .one (li .i64 (IntKind.wrap .i64 (Int.tdiv (IntKind.wrap .i64 (imin (IntKind.wrap .i64 (IntKind.wrap .i64 (IntKind.wrap .i64 (Int.tmod a0 64) + IntKind.wrap .i64 (Int.tmod a2 64)) + 1)) 64 - 1)) 16)))), (43, .one (li .i64 (IntKind.wrap .i64 (imin (IntKind.wrap .i64 (IntKind.wrap .i64 (IntKind.wrap .i64 (Int.tmod a0 64) + IntKind.wrap .i64 (Int.tmod a2 64)) + 1)) 64 - 1)))), (42, .one (li .i64 (imin (IntKind.wrap .i64 (IntKind.wrap .i64 (IntKind.wrap .i64 (Int.tmod a0 64) + IntKind.wrap .i64 (Int.tmod a2 64)) + 1)) 64))), (41, .one (.ptr 9 2))] [] (by kernel_rfl) ?_
    refine SimI.done (by kernel_rfl) ?_
    refine SimE.thenN ?_
    refine Sim.seq ?_
    refine Sim.region0 ?_
    refine SimI.run 10 [(11, .one (li .i64 (IntKind.wrap .i64 (IntKind.wrap .i64 (IntKind.wrap .i64 (Int.tdiv (IntKind.wrap .i64 (imin (IntKind.wrap .i64 (IntKind.wrap .i64 (IntKind.wrap .i64 (Int.tmod a1 64) + IntKind.wrap .i64 (Int.tmod a3 64)) + 1)) 64 - 1)) 16) - IntKind.wrap .i64 (Int.tdiv (IntKind.wrap .i64 (Int.tmod a1 64)) 16)) + 1)))), (58, .one (li .i64 (IntKind.wrap .i64 (IntKind.wrap .i64 (IntKind.wrap .i64 (Int.tdiv (IntKind.wrap .i64 (imin (IntKind.wrap .i64 (IntKind.wrap .i64 (IntKind.wrap .i64 (Int.tmod a1 64) + IntKind.wrap .i64 (Int.tmod a3 64)) + 1)) 64 - 1)) 16) - IntKind.wrap .i64 (Int.tdiv (IntKind.wrap .i64 (Int.tmod a1 64)) 16)) + 1)))), (57, .one (li .i64 (IntKind.wrap .i64 (IntKind.wrap .i64 (Int.tdiv (IntKind.wrap .i64 (imin (IntKind.wrap .i64 (IntKind.wrap .i64 (IntKind.wrap .i64 (Int.tmod a1 64) + IntKind.wrap .i64 (Int.tmod a3 64)) + 1)) 64 - 1)) 16) - IntKind.wrap .i64 (Int.tdiv (IntKind.wrap .i64 (Int.tmod a1 64)) 16))))), (56, .one (li .i64 (IntKind.wrap .i64 (Int.tdiv (IntKind.wrap .i64 (Int.tmod a1 64)) 16)))), (55, .one (li .i64 (IntKind.wrap .i64 (Int.tmod a1 64)))), (54, .one (.ptr 9 1)), (53, .one (li .i64 (IntKind.wrap .i64 (Int.tdiv (IntKind.wrap .i64 (imin (IntKind.wrap .i64 (IntKind.wrap .i64 (IntKind.wrap .i64 (Int.tmod a1 64) + IntKind.wrap .i64 (Int.tmod a3 64)) + 1)) 64 - 1)) 16)))), (52, .one (li .i64 (IntKind.wrap .i64 (imin (IntKind.wrap .i64 (IntKind.wrap .i64 (IntKind.wrap .i64 (Int.tmod a1 64) + IntKind.wrap .i64 (Int.tmod a3 64)) + 1)) 64 - 1)))), (51, .one (li .i64 (imin (IntKind.wrap .i64 (IntKind.wrap .i64 (IntKind.wrap .i64 (Int.tmod a1 64) + IntKind.wrap .i64 (Int.tmod a3 64)) + 1)) 64))), (50, .one (.ptr 9 3))] [] (by kernel_rfl) ?_
    refine SimI.done (by kernel_rfl) ?_
    refine SimE.thenN ?_
    refine Sim.seq ?_
    refine Sim.region0 ?_
    refine SimI.run 1 [(59, .agg [li .i64 (IntKind.wrap .i64 (Int.tmod a0 64)), li .i64 (IntKind.wrap .i64 (Int.tmod a1 64)), li .i64 (imin (IntKind.wrap .i64 (IntKind.wrap .i64 (IntKind.wrap .i64 (Int.tmod a0 64) + IntKind.wrap .i64 (Int.tmod a2 64)) + 1)) 64), li .i64 (imin (IntKind.wrap .i64 (IntKind.wrap .i64 (IntKind.wrap .i64 (Int.tmod a1 64) + IntKind.wrap .i64 (Int.tmod a3 64)) + 1)) 64)])] [] (by kernel_rfl) ?_
    refine SimI.bind (og := F29 n (Rect.mk (IntKind.wrap .i64 (Int.tmod a0 64)) (IntKind.wrap .i64 (Int.tmod a1 64)) (imin (IntKind.wrap .i64 (IntKind.wrap .i64 (IntKind.wrap .i64 (Int.tmod a0 64) + IntKind.wrap .i64 (Int.tmod a2 64)) + 1)) 64) (imin (IntKind.wrap .i64 (IntKind.wrap .i64 (IntKind.wrap .i64 (Int.tmod a1 64) + IntKind.wrap .i64 (Int.tmod a3 64)) + 1)) 64))) { dst := some 60, op := POp.call true [[]] 29 [Operand.tmp 59], guard := none, hints := [] } (fun r2 => [(60, .one (vw (codI .i64) r2))]) (fun r2 => []) (by kernel_rfl) (fun r2 hr => pOp_eff (by kernel_rfl) (by kernel_rfl) (eff_call (ARGS := [.agg [li .i64 (IntKind.wrap .i64 (Int.tmod a0 64)), li .i64 (IntKind.wrap .i64 (Int.tmod a1 64)), li .i64 (imin (IntKind.wrap .i64 (IntKind.wrap .i64 (IntKind.wrap .i64 (Int.tmod a0 64) + IntKind.wrap .i64 (Int.tmod a2 64)) + 1)) 64), li .i64 (imin (IntKind.wrap .i64 (IntKind.wrap .i64 (IntKind.wrap .i64 (Int.tmod a1 64) + IntKind.wrap .i64 (Int.tmod a3 64)) + 1)) 64)]]) (by kernel_rfl) (args_clean (by kernel_rfl) args_nil) (F29_ok n (Rect.mk (IntKind.wrap .i64 (Int.tmod a0 64)) (IntKind.wrap .i64 (Int.tmod a1 64)) (imin (IntKind.wrap .i64 (IntKind.wrap .i64 (IntKind.wrap .i64 (Int.tmod a0 64) + IntKind.wrap .i64 (Int.tmod a2 64)) + 1)) 64) (imin (IntKind.wrap .i64 (IntKind.wrap .i64 (IntKind.wrap .i64 (Int.tmod a1 64) + IntKind.wrap .i64 (Int.tmod a3 64)) + 1)) 64)) r2 hr) (by kernel_rfl))) (fun r2 => ?_)
    refine SimI.run 1 [(12, .one (vw (codI .i64) r2))] [] (by kernel_rfl) ?_
    refine SimI.done (by kernel_rfl) ?_
    refine SimE.thenN ?_
    refine Sim.seq ?_
    refine Sim.seq ?_
    refine Sim.region0 ?_
    refine SimI.run 1 [(13, .one (li .i64 1))] [] (by kernel_rfl) ?_
    refine SimI.done (by kernel_rfl) ?_
    refine SimE.thenN ?_
    refine Sim.block ?_
    refine Sim.loop ?_
    refine SimL.pre (ts := [9, 10, 11, 12, 13]) (os := [9]) [(9, .one (.ptr 9 0)), (10, .one (li .i64 (IntKind.wrap .i64 (IntKind.wrap .i64 (IntKind.wrap .i64 (Int.tdiv (IntKind.wrap .i64 (imin (IntKind.wrap .i64 (IntKind.wrap .i64 (IntKind.wrap .i64 (Int.tmod a0 64) + IntKind.wrap .i64 (Int.tmod a2 64)) + 1)) 64 - 1)) 16) - IntKind.wrap .i64 (Int.tdiv (IntKind.wrap .i64 (Int.tmod a0 64)) 16)) + 1)))), (11, .one (li .i64 (IntKind.wrap .i64 (IntKind.wrap .i64 (IntKind.wrap .i64 (Int.tdiv (IntKind.wrap .i64 (imin (IntKind.wrap .i64 (IntKind.wrap .i64 (IntKind.wrap .i64 (Int.tmod a1 64) + IntKind.wrap .i64 (Int.tmod a3 64)) + 1)) 64 - 1)) 16) - IntKind.wrap .i64 (Int.tdiv (IntKind.wrap .i64 (Int.tmod a1 64)) 16)) + 1)))), (12, .one (vw (codI .i64) r2)), (13, .one (li .i64 1))] ((9, some (.cells [li .i64 (IntKind.wrap .i64 (Int.tmod a0 64)), li .i64 (IntKind.wrap .i64 (Int.tmod a1 64)), li .i64 (imin (IntKind.wrap .i64 (IntKind.wrap .i64 (IntKind.wrap .i64 (Int.tmod a0 64) + IntKind.wrap .i64 (Int.tmod a2 64)) + 1)) 64), li .i64 (imin (IntKind.wrap .i64 (IntKind.wrap .i64 (IntKind.wrap .i64 (Int.tmod a1 64) + IntKind.wrap .i64 (Int.tmod a3 64)) + 1)) 64)])) :: []) (by kernel_rfl) (by kernel_rfl) (by kernel_rfl) ?_
    exact F10_l6_ok n a0 a1 a2 a3 r2 (n + 8) 1


end Go.Proofs.Ytajfdeeepklfoaa
