/-
  Functions of the program as functions of Lean. No condition.
-/
import Derived.Test.YtajfdeeepklfoaaCellTellsE
namespace Go.Proofs.Ytajfdeeepklfoaa
open Go Go.Rx
set_option maxRecDepth 100000
set_option linter.unusedVariables false
set_option linter.unusedSimpArgs false
-- 52: vedette/geom.On
def F52_e : Bool → PV × List (List Lf) := fun r => (.one (lb r), [])
def F52 (n : Nat) (a0 : Point) : Option Bool :=
  if decide ((0 : Int) ≤ a0.X) then
    if decide (a0.X < 64) then
      if decide ((0 : Int) ≤ a0.Y) then
        some (decide (a0.Y < 64))
      else
        some false
    else
      some false
  else
    some false
theorem F52_ok (n : Nat) (a0 : Point) : ∀ r, F52 n a0 = some r → D 52 [.agg [li .i64 a0.X, li .i64 a0.Y]] [] = some (F52_e r) := by
  refine fn_to (D := D) (n := n + 8) (nt := 21) (rs := pc52_r) (c := pc52_c5) (L := [(0, .agg [li .i64 a0.X, li .i64 a0.Y])]) (M := []) (k := 0) rfl rfl rfl rfl rfl rfl ?_
  unfold F52
  refine Sim.seq ?_
  refine Sim.region0 ?_
  refine SimI.run 2 [(2, .one (lb false)), (1, .one (.ptr 1 0))] [(1, some (.cells [li .i64 a0.X, li .i64 a0.Y]))] (by kernel_rfl) ?_
  refine SimI.done (by kernel_rfl) ?_
  refine SimE.thenN ?_
  refine Sim.seq ?_
  refine Sim.region0 ?_
  refine SimI.run 4 [(6, .one (lb (decide ((0 : Int) ≤ a0.X)))), (5, .one (lb (decide ((0 : Int) ≤ a0.X)))), (4, .one (li .i64 a0.X)), (3, .one (.ptr 1 0))] [] (by kernel_rfl) ?_
  refine SimI.split 6 (decide ((0 : Int) ≤ a0.X)) (by kernel_rfl) ?_ ?_
  · refine SimI.run 5 [(11, .one (lb (decide (a0.X < 64)))), (10, .one (lb (decide (a0.X < 64)))), (9, .one (lb (decide (a0.X < 64)))), (8, .one (li .i64 a0.X)), (7, .one (.ptr 1 0))] [] (by kernel_rfl) ?_
    refine SimI.split 11 (decide (a0.X < 64)) (by kernel_rfl) ?_ ?_
    · refine SimI.run 5 [(16, .one (lb (decide ((0 : Int) ≤ a0.Y)))), (15, .one (lb (decide ((0 : Int) ≤ a0.Y)))), (14, .one (lb (decide ((0 : Int) ≤ a0.Y)))), (13, .one (li .i64 a0.Y)), (12, .one (.ptr 1 1))] [] (by kernel_rfl) ?_
      refine SimI.split 16 (decide ((0 : Int) ≤ a0.Y)) (by kernel_rfl) ?_ ?_
      · refine SimI.run 5 [(2, .one (lb (decide (a0.Y < 64)))), (20, .one (lb (decide (a0.Y < 64)))), (19, .one (lb (decide (a0.Y < 64)))), (18, .one (li .i64 a0.Y)), (17, .one (.ptr 1 1))] [] (by kernel_rfl) ?_
        refine SimI.done (by kernel_rfl) ?_
        refine SimE.thenN ?_
        refine Sim.ret ?_
        exact SimE.fin (by kernel_rfl)
      · refine SimI.run 5 [(2, .one (lb false)), (20, .one (lb false)), (19, .tup []), (18, .tup []), (17, .tup [])] [] (by kernel_rfl) ?_
        refine SimI.done (by kernel_rfl) ?_
        refine SimE.thenN ?_
        refine Sim.ret ?_
        exact SimE.fin (by kernel_rfl)
    · refine SimI.run 10 [(2, .one (lb false)), (20, .one (lb false)), (19, .tup []), (18, .tup []), (17, .tup []), (16, .one (lb false)), (15, .one (lb false)), (14, .tup []), (13, .tup []), (12, .tup [])] [] (by kernel_rfl) ?_
      refine SimI.done (by kernel_rfl) ?_
      refine SimE.thenN ?_
      refine Sim.ret ?_
      exact SimE.fin (by kernel_rfl)
  · refine SimI.run 15 [(2, .one (lb false)), (20, .one (lb false)), (19, .tup []), (18, .tup []), (17, .tup []), (16, .one (lb false)), (15, .one (lb false)), (14, .tup []), (13, .tup []), (12, .tup []), (11, .one (lb false)), (10, .one (lb false)), (9, .tup []), (8, .tup []), (7, .tup [])] [] (by kernel_rfl) ?_
    refine SimI.done (by kernel_rfl) ?_
    refine SimE.thenN ?_
    refine Sim.ret ?_
    exact SimE.fin (by kernel_rfl)


-- 81: vedette/morton.spread
def F81_e : Int → PV × List (List Lf) := fun r => (.one (li .u32 r), [])
def F81 (n : Nat) (a0 : Int) : Option Int :=
  some (bitsI .and .u32 (bitsI .or .u32 (bitsI .and .u32 (bitsI .or .u32 (bitsI .and .u32 (bitsI .or .u32 (bitsI .and .u32 (bitsI .or .u32 a0 (shlI .u32 a0 8)) 16711935) (shlI .u32 (bitsI .and .u32 (bitsI .or .u32 a0 (shlI .u32 a0 8)) 16711935) 4)) 252645135) (shlI .u32 (bitsI .and .u32 (bitsI .or .u32 (bitsI .and .u32 (bitsI .or .u32 a0 (shlI .u32 a0 8)) 16711935) (shlI .u32 (bitsI .and .u32 (bitsI .or .u32 a0 (shlI .u32 a0 8)) 16711935) 4)) 252645135) 2)) 858993459) (shlI .u32 (bitsI .and .u32 (bitsI .or .u32 (bitsI .and .u32 (bitsI .or .u32 (bitsI .and .u32 (bitsI .or .u32 a0 (shlI .u32 a0 8)) 16711935) (shlI .u32 (bitsI .and .u32 (bitsI .or .u32 a0 (shlI .u32 a0 8)) 16711935) 4)) 252645135) (shlI .u32 (bitsI .and .u32 (bitsI .or .u32 (bitsI .and .u32 (bitsI .or .u32 a0 (shlI .u32 a0 8)) 16711935) (shlI .u32 (bitsI .and .u32 (bitsI .or .u32 a0 (shlI .u32 a0 8)) 16711935) 4)) 252645135) 2)) 858993459) 1)) 1431655765)
theorem F81_ok (n : Nat) (a0 : Int) : ∀ r, F81 n a0 = some r → D 81 [.one (li .u32 a0)] [] = some (F81_e r) := by
  refine fn_to (D := D) (n := n + 8) (nt := 24) (rs := pc81_r) (c := pc81_c22) (L := [(0, .one (li .u32 a0))]) (M := []) (k := 0) rfl rfl rfl rfl rfl rfl ?_
  unfold F81
  refine Sim.seq ?_
  refine Sim.region0 ?_
  refine SimI.run 1 [(2, .one (li .u32 0))] [] (by kernel_rfl) ?_
  refine SimI.done (by kernel_rfl) ?_
  refine SimE.thenN ?_
  refine Sim.seq ?_
  refine Sim.seq ?_
  refine Sim.region0 ?_
  refine SimI.run 6 [(10, .one (li .i64 0)), (9, .agg [li .u64 8, li .u32 16711935, li .u64 4, li .u32 252645135, li .u64 2, li .u32 858993459, li .u64 1, li .u32 1431655765]), (8, .agg [li .u64 1, li .u32 1431655765]), (7, .agg [li .u64 2, li .u32 858993459]), (6, .agg [li .u64 4, li .u32 252645135]), (5, .agg [li .u64 8, li .u32 16711935])] [] (by kernel_rfl) ?_
  refine SimI.done (by kernel_rfl) ?_
  refine SimE.thenN ?_
  refine Sim.block ?_
  refine Sim.loop ?_
  refine SimL.succ ?_
  refine Sim.seq ?_
  refine Sim.region [(0, .one (li .u32 a0)), (9, .agg [li .u64 8, li .u32 16711935, li .u64 4, li .u32 252645135, li .u64 2, li .u32 858993459, li .u64 1, li .u32 1431655765]), (10, .one (li .i64 0))] [] (by kernel_rfl) ?_
  refine SimI.run 1 [(11, .one (lb true))] [] (by kernel_rfl) ?_
  refine SimI.done (by kernel_rfl) ?_
  refine SimE.thenN ?_
  refine Sim.seq ?_
  refine Sim.condT (by kernel_rfl) ?_
  refine Sim.skip ?_
  refine SimE.thenN ?_
  refine Sim.seq ?_
  refine Sim.block ?_
  refine Sim.seq ?_
  refine Sim.region0 ?_
  refine SimI.run 3 [(4, .one (.ptr 4 0)), (12, .agg [li .u64 8, li .u32 16711935])] [(4, some (.cells [li .u64 8, li .u32 16711935])), (4, some (.cells [li .u64 0, li .u32 0]))] (by kernel_rfl) ?_
  refine SimI.done (by kernel_rfl) ?_
  refine SimE.thenN ?_
  refine Sim.region0 ?_
  refine SimI.run 10 [(0, .one (li .u32 (bitsI .and .u32 (bitsI .or .u32 a0 (shlI .u32 a0 8)) 16711935))), (21, .one (li .u32 (bitsI .and .u32 (bitsI .or .u32 a0 (shlI .u32 a0 8)) 16711935))), (20, .one (li .u32 16711935)), (19, .one (.ptr 4 1)), (18, .one (li .u32 (bitsI .or .u32 a0 (shlI .u32 a0 8)))), (17, .one (li .u32 (shlI .u32 a0 8))), (16, .one (li .u64 8)), (15, .one (.ptr 4 0)), (14, .one (li .u32 a0)), (13, .one (li .u32 a0))] [] (by kernel_rfl) ?_
  refine SimI.done (by kernel_rfl) ?_
  refine SimE.blockN ?_
  refine SimE.thenN ?_
  refine Sim.region0 ?_
  refine SimI.run 2 [(10, .one (li .i64 1)), (22, .one (li .i64 1))] [] (by kernel_rfl) ?_
  refine SimI.done (by kernel_rfl) ?_
  refine SimE.loopN ?_
  refine SimL.succ ?_
  refine Sim.seq ?_
  refine Sim.region [(0, .one (li .u32 (bitsI .and .u32 (bitsI .or .u32 a0 (shlI .u32 a0 8)) 16711935))), (9, .agg [li .u64 8, li .u32 16711935, li .u64 4, li .u32 252645135, li .u64 2, li .u32 858993459, li .u64 1, li .u32 1431655765]), (10, .one (li .i64 1))] [] (by kernel_rfl) ?_
  refine SimI.run 1 [(11, .one (lb true))] [] (by kernel_rfl) ?_
  refine SimI.done (by kernel_rfl) ?_
  refine SimE.thenN ?_
  refine Sim.seq ?_
  refine Sim.condT (by kernel_rfl) ?_
  refine Sim.skip ?_
  refine SimE.thenN ?_
  refine Sim.seq ?_
  refine Sim.block ?_
  refine Sim.seq ?_
  refine Sim.region0 ?_
  refine SimI.run 3 [(4, .one (.ptr 4 0)), (12, .agg [li .u64 4, li .u32 252645135])] [(4, some (.cells [li .u64 4, li .u32 252645135])), (4, some (.cells [li .u64 0, li .u32 0]))] (by kernel_rfl) ?_
  refine SimI.done (by kernel_rfl) ?_
  refine SimE.thenN ?_
  refine Sim.region0 ?_
  refine SimI.run 10 [(0, .one (li .u32 (bitsI .and .u32 (bitsI .or .u32 (bitsI .and .u32 (bitsI .or .u32 a0 (shlI .u32 a0 8)) 16711935) (shlI .u32 (bitsI .and .u32 (bitsI .or .u32 a0 (shlI .u32 a0 8)) 16711935) 4)) 252645135))), (21, .one (li .u32 (bitsI .and .u32 (bitsI .or .u32 (bitsI .and .u32 (bitsI .or .u32 a0 (shlI .u32 a0 8)) 16711935) (shlI .u32 (bitsI .and .u32 (bitsI .or .u32 a0 (shlI .u32 a0 8)) 16711935) 4)) 252645135))), (20, .one (li .u32 252645135)), (19, .one (.ptr 4 1)), (18, .one (li .u32 (bitsI .or .u32 (bitsI .and .u32 (bitsI .or .u32 a0 (shlI .u32 a0 8)) 16711935) (shlI .u32 (bitsI .and .u32 (bitsI .or .u32 a0 (shlI .u32 a0 8)) 16711935) 4)))), (17, .one (li .u32 (shlI .u32 (bitsI .and .u32 (bitsI .or .u32 a0 (shlI .u32 a0 8)) 16711935) 4))), (16, .one (li .u64 4)), (15, .one (.ptr 4 0)), (14, .one (li .u32 (bitsI .and .u32 (bitsI .or .u32 a0 (shlI .u32 a0 8)) 16711935))), (13, .one (li .u32 (bitsI .and .u32 (bitsI .or .u32 a0 (shlI .u32 a0 8)) 16711935)))] [] (by kernel_rfl) ?_
  refine SimI.done (by kernel_rfl) ?_
  refine SimE.blockN ?_
  refine SimE.thenN ?_
  refine Sim.region0 ?_
  refine SimI.run 2 [(10, .one (li .i64 2)), (22, .one (li .i64 2))] [] (by kernel_rfl) ?_
  refine SimI.done (by kernel_rfl) ?_
  refine SimE.loopN ?_
  refine SimL.succ ?_
  refine Sim.seq ?_
  refine Sim.region [(0, .one (li .u32 (bitsI .and .u32 (bitsI .or .u32 (bitsI .and .u32 (bitsI .or .u32 a0 (shlI .u32 a0 8)) 16711935) (shlI .u32 (bitsI .and .u32 (bitsI .or .u32 a0 (shlI .u32 a0 8)) 16711935) 4)) 252645135))), (9, .agg [li .u64 8, li .u32 16711935, li .u64 4, li .u32 252645135, li .u64 2, li .u32 858993459, li .u64 1, li .u32 1431655765]), (10, .one (li .i64 2))] [] (by kernel_rfl) ?_
  refine SimI.run 1 [(11, .one (lb true))] [] (by kernel_rfl) ?_
  refine SimI.done (by kernel_rfl) ?_
  refine SimE.thenN ?_
  refine Sim.seq ?_
  refine Sim.condT (by kernel_rfl) ?_
  refine Sim.skip ?_
  refine SimE.thenN ?_
  refine Sim.seq ?_
  refine Sim.block ?_
  refine Sim.seq ?_
  refine Sim.region0 ?_
  refine SimI.run 3 [(4, .one (.ptr 4 0)), (12, .agg [li .u64 2, li .u32 858993459])] [(4, some (.cells [li .u64 2, li .u32 858993459])), (4, some (.cells [li .u64 0, li .u32 0]))] (by kernel_rfl) ?_
  refine SimI.done (by kernel_rfl) ?_
  refine SimE.thenN ?_
  refine Sim.region0 ?_
  refine SimI.run 10 [(0, .one (li .u32 (bitsI .and .u32 (bitsI .or .u32 (bitsI .and .u32 (bitsI .or .u32 (bitsI .and .u32 (bitsI .or .u32 a0 (shlI .u32 a0 8)) 16711935) (shlI .u32 (bitsI .and .u32 (bitsI .or .u32 a0 (shlI .u32 a0 8)) 16711935) 4)) 252645135) (shlI .u32 (bitsI .and .u32 (bitsI .or .u32 (bitsI .and .u32 (bitsI .or .u32 a0 (shlI .u32 a0 8)) 16711935) (shlI .u32 (bitsI .and .u32 (bitsI .or .u32 a0 (shlI .u32 a0 8)) 16711935) 4)) 252645135) 2)) 858993459))), (21, .one (li .u32 (bitsI .and .u32 (bitsI .or .u32 (bitsI .and .u32 (bitsI .or .u32 (bitsI .and .u32 (bitsI .or .u32 a0 (shlI .u32 a0 8)) 16711935) (shlI .u32 (bitsI .and .u32 (bitsI .or .u32 a0 (shlI .u32 a0 8)) 16711935) 4)) 252645135) (shlI .u32 (bitsI .and .u32 (bitsI .or .u32 (bitsI .and .u32 (bitsI .or .u32 a0 (shlI .u32 a0 8)) 16711935) (shlI .u32 (bitsI .and .u32 (bitsI .or .u32 a0 (shlI .u32 a0 8)) 16711935) 4)) 252645135) 2)) 858993459))), (20, .one (li .u32 858993459)), (19, .one (.ptr 4 1)), (18, .one (li .u32 (bitsI .or .u32 (bitsI .and .u32 (bitsI .or .u32 (bitsI .and .u32 (bitsI .or .u32 a0 (shlI .u32 a0 8)) 16711935) (shlI .u32 (bitsI .and .u32 (bitsI .or .u32 a0 (shlI .u32 a0 8)) 16711935) 4)) 252645135) (shlI .u32 (bitsI .and .u32 (bitsI .or .u32 (bitsI .and .u32 (bitsI .or .u32 a0 (shlI .u32 a0 8)) 16711935) (shlI .u32 (bitsI .and .u32 (bitsI .or .u32 a0 (shlI .u32 a0 8)) 16711935) 4)) 252645135) 2)))), (17, .one (li .u32 (shlI .u32 (bitsI .and .u32 (bitsI .or .u32 (bitsI .and .u32 (bitsI .or .u32 a0 (shlI .u32 a0 8)) 16711935) (shlI .u32 (bitsI .and .u32 (bitsI .or .u32 a0 (shlI .u32 a0 8)) 16711935) 4)) 252645135) 2))), (16, .one (li .u64 2)), (15, .one (.ptr 4 0)), (14, .one (li .u32 (bitsI .and .u32 (bitsI .or .u32 (bitsI .and .u32 (bitsI .or .u32 a0 (shlI .u32 a0 8)) 16711935) (shlI .u32 (bitsI .and .u32 (bitsI .or .u32 a0 (shlI .u32 a0 8)) 16711935) 4)) 252645135))), (13, .one (li .u32 (bitsI .and .u32 (bitsI .or .u32 (bitsI .and .u32 (bitsI .or .u32 a0 (shlI .u32 a0 8)) 16711935) (shlI .u32 (bitsI .and .u32 (bitsI .or .u32 a0 (shlI .u32 a0 8)) 16711935) 4)) 252645135)))] [] (by kernel_rfl) ?_
  refine SimI.done (by kernel_rfl) ?_
  refine SimE.blockN ?_
  refine SimE.thenN ?_
  refine Sim.region0 ?_
  refine SimI.run 2 [(10, .one (li .i64 3)), (22, .one (li .i64 3))] [] (by kernel_rfl) ?_
  refine SimI.done (by kernel_rfl) ?_
  refine SimE.loopN ?_
  refine SimL.succ ?_
  refine Sim.seq ?_
  refine Sim.region [(0, .one (li .u32 (bitsI .and .u32 (bitsI .or .u32 (bitsI .and .u32 (bitsI .or .u32 (bitsI .and .u32 (bitsI .or .u32 a0 (shlI .u32 a0 8)) 16711935) (shlI .u32 (bitsI .and .u32 (bitsI .or .u32 a0 (shlI .u32 a0 8)) 16711935) 4)) 252645135) (shlI .u32 (bitsI .and .u32 (bitsI .or .u32 (bitsI .and .u32 (bitsI .or .u32 a0 (shlI .u32 a0 8)) 16711935) (shlI .u32 (bitsI .and .u32 (bitsI .or .u32 a0 (shlI .u32 a0 8)) 16711935) 4)) 252645135) 2)) 858993459))), (9, .agg [li .u64 8, li .u32 16711935, li .u64 4, li .u32 252645135, li .u64 2, li .u32 858993459, li .u64 1, li .u32 1431655765]), (10, .one (li .i64 3))] [] (by kernel_rfl) ?_
  refine SimI.run 1 [(11, .one (lb true))] [] (by kernel_rfl) ?_
  refine SimI.done (by kernel_rfl) ?_
  refine SimE.thenN ?_
  refine Sim.seq ?_
  refine Sim.condT (by kernel_rfl) ?_
  refine Sim.skip ?_
  refine SimE.thenN ?_
  refine Sim.seq ?_
  refine Sim.block ?_
  refine Sim.seq ?_
  refine Sim.region0 ?_
  refine SimI.run 3 [(4, .one (.ptr 4 0)), (12, .agg [li .u64 1, li .u32 1431655765])] [(4, some (.cells [li .u64 1, li .u32 1431655765])), (4, some (.cells [li .u64 0, li .u32 0]))] (by kernel_rfl) ?_
  refine SimI.done (by kernel_rfl) ?_
  refine SimE.thenN ?_
  refine Sim.region0 ?_
  refine SimI.run 10 [(0, .one (li .u32 (bitsI .and .u32 (bitsI .or .u32 (bitsI .and .u32 (bitsI .or .u32 (bitsI .and .u32 (bitsI .or .u32 (bitsI .and .u32 (bitsI .or .u32 a0 (shlI .u32 a0 8)) 16711935) (shlI .u32 (bitsI .and .u32 (bitsI .or .u32 a0 (shlI .u32 a0 8)) 16711935) 4)) 252645135) (shlI .u32 (bitsI .and .u32 (bitsI .or .u32 (bitsI .and .u32 (bitsI .or .u32 a0 (shlI .u32 a0 8)) 16711935) (shlI .u32 (bitsI .and .u32 (bitsI .or .u32 a0 (shlI .u32 a0 8)) 16711935) 4)) 252645135) 2)) 858993459) (shlI .u32 (bitsI .and .u32 (bitsI .or .u32 (bitsI .and .u32 (bitsI .or .u32 (bitsI .and .u32 (bitsI .or .u32 a0 (shlI .u32 a0 8)) 16711935) (shlI .u32 (bitsI .and .u32 (bitsI .or .u32 a0 (shlI .u32 a0 8)) 16711935) 4)) 252645135) (shlI .u32 (bitsI .and .u32 (bitsI .or .u32 (bitsI .and .u32 (bitsI .or .u32 a0 (shlI .u32 a0 8)) 16711935) (shlI .u32 (bitsI .and .u32 (bitsI .or .u32 a0 (shlI .u32 a0 8)) 16711935) 4)) 252645135) 2)) 858993459) 1)) 1431655765))), (21, .one (li .u32 (bitsI .and .u32 (bitsI .or .u32 (bitsI .and .u32 (bitsI .or .u32 (bitsI .and .u32 (bitsI .or .u32 (bitsI .and .u32 (bitsI .or .u32 a0 (shlI .u32 a0 8)) 16711935) (shlI .u32 (bitsI .and .u32 (bitsI .or .u32 a0 (shlI .u32 a0 8)) 16711935) 4)) 252645135) (shlI .u32 (bitsI .and .u32 (bitsI .or .u32 (bitsI .and .u32 (bitsI .or .u32 a0 (shlI .u32 a0 8)) 16711935) (shlI .u32 (bitsI .and .u32 (bitsI .or .u32 a0 (shlI .u32 a0 8)) 16711935) 4)) 252645135) 2)) 858993459) (shlI .u32 (bitsI .and .u32 (bitsI .or .u32 (bitsI .and .u32 (bitsI .or .u32 (bitsI .and .u32 (bitsI .or .u32 a0 (shlI .u32 a0 8)) 16711935) (shlI .u32 (bitsI .and .u32 (bitsI .or .u32 a0 (shlI .u32 a0 8)) 16711935) 4)) 252645135) (shlI .u32 (bitsI .and .u32 (bitsI .or .u32 (bitsI .and .u32 (bitsI .or .u32 a0 (shlI .u32 a0 8)) 16711935) (shlI .u32 (bitsI .and .u32 (bitsI .or .u32 a0 (shlI .u32 a0 8)) 16711935) 4)) 252645135) 2)) 858993459) 1)) 1431655765))), (20, .one (li .u32 1431655765)), (19, .one (.ptr 4 1)), (18, .one (li .u32 (bitsI .or .u32 (bitsI .and .u32 (bitsI .or .u32 (bitsI .and .u32 (bitsI .or .u32 (bitsI .and .u32 (bitsI .or .u32 a0 (shlI .u32 a0 8)) 16711935) (shlI .u32 (bitsI .and .u32 (bitsI .or .u32 a0 (shlI .u32 a0 8)) 16711935) 4)) 252645135) (shlI .u32 (bitsI .and .u32 (bitsI .or .u32 (bitsI .and .u32 (bitsI .or .u32 a0 (shlI .u32 a0 8)) 16711935) (shlI .u32 (bitsI .and .u32 (bitsI .or .u32 a0 (shlI .u32 a0 8)) 16711935) 4)) 252645135) 2)) 858993459) (shlI .u32 (bitsI .and .u32 (bitsI .or .u32 (bitsI .and .u32 (bitsI .or .u32 (bitsI .and .u32 (bitsI .or .u32 a0 (shlI .u32 a0 8)) 16711935) (shlI .u32 (bitsI .and .u32 (bitsI .or .u32 a0 (shlI .u32 a0 8)) 16711935) 4)) 252645135) (shlI .u32 (bitsI .and .u32 (bitsI .or .u32 (bitsI .and .u32 (bitsI .or .u32 a0 (shlI .u32 a0 8)) 16711935) (shlI .u32 (bitsI .and .u32 (bitsI .or .u32 a0 (shlI .u32 a0 8)) 16711935) 4)) 252645135) 2)) 858993459) 1)))), (17, .one (li .u32 (shlI .u32 (bitsI .and .u32 (bitsI .or .u32 (bitsI .and .u32 (bitsI .or .u32 (bitsI .and .u32 (bitsI .or .u32 a0 (shlI .u32 a0 8)) 16711935) (shlI .u32 (bitsI .and .u32 (bitsI .or .u32 a0 (shlI .u32 a0 8)) 16711935) 4)) 252645135) (shlI .u32 (bitsI .and .u32 (bitsI .or .u32 (bitsI .and .u32 (bitsI .or .u32 a0 (shlI .u32 a0 8)) 16711935) (shlI .u32 (bitsI .and .u32 (bitsI .or .u32 a0 (shlI .u32 a0 8)) 16711935) 4)) 252645135) 2)) 858993459) 1))), (16, .one (li .u64 1)), (15, .one (.ptr 4 0)), (14, .one (li .u32 (bitsI .and .u32 (bitsI .or .u32 (bitsI .and .u32 (bitsI .or .u32 (bitsI .and .u32 (bitsI .or .u32 a0 (shlI .u32 a0 8)) 16711935) (shlI .u32 (bitsI .and .u32 (bitsI .or .u32 a0 (shlI .u32 a0 8)) 16711935) 4)) 252645135) (shlI .u32 (bitsI .and .u32 (bitsI .or .u32 (bitsI .and .u32 (bitsI .or .u32 a0 (shlI .u32 a0 8)) 16711935) (shlI .u32 (bitsI .and .u32 (bitsI .or .u32 a0 (shlI .u32 a0 8)) 16711935) 4)) 252645135) 2)) 858993459))), (13, .one (li .u32 (bitsI .and .u32 (bitsI .or .u32 (bitsI .and .u32 (bitsI .or .u32 (bitsI .and .u32 (bitsI .or .u32 a0 (shlI .u32 a0 8)) 16711935) (shlI .u32 (bitsI .and .u32 (bitsI .or .u32 a0 (shlI .u32 a0 8)) 16711935) 4)) 252645135) (shlI .u32 (bitsI .and .u32 (bitsI .or .u32 (bitsI .and .u32 (bitsI .or .u32 a0 (shlI .u32 a0 8)) 16711935) (shlI .u32 (bitsI .and .u32 (bitsI .or .u32 a0 (shlI .u32 a0 8)) 16711935) 4)) 252645135) 2)) 858993459)))] [] (by kernel_rfl) ?_
  refine SimI.done (by kernel_rfl) ?_
  refine SimE.blockN ?_
  refine SimE.thenN ?_
  refine Sim.region0 ?_
  refine SimI.run 2 [(10, .one (li .i64 4)), (22, .one (li .i64 4))] [] (by kernel_rfl) ?_
  refine SimI.done (by kernel_rfl) ?_
  refine SimE.loopN ?_
  refine SimL.succ ?_
  refine Sim.seq ?_
  refine Sim.region [(0, .one (li .u32 (bitsI .and .u32 (bitsI .or .u32 (bitsI .and .u32 (bitsI .or .u32 (bitsI .and .u32 (bitsI .or .u32 (bitsI .and .u32 (bitsI .or .u32 a0 (shlI .u32 a0 8)) 16711935) (shlI .u32 (bitsI .and .u32 (bitsI .or .u32 a0 (shlI .u32 a0 8)) 16711935) 4)) 252645135) (shlI .u32 (bitsI .and .u32 (bitsI .or .u32 (bitsI .and .u32 (bitsI .or .u32 a0 (shlI .u32 a0 8)) 16711935) (shlI .u32 (bitsI .and .u32 (bitsI .or .u32 a0 (shlI .u32 a0 8)) 16711935) 4)) 252645135) 2)) 858993459) (shlI .u32 (bitsI .and .u32 (bitsI .or .u32 (bitsI .and .u32 (bitsI .or .u32 (bitsI .and .u32 (bitsI .or .u32 a0 (shlI .u32 a0 8)) 16711935) (shlI .u32 (bitsI .and .u32 (bitsI .or .u32 a0 (shlI .u32 a0 8)) 16711935) 4)) 252645135) (shlI .u32 (bitsI .and .u32 (bitsI .or .u32 (bitsI .and .u32 (bitsI .or .u32 a0 (shlI .u32 a0 8)) 16711935) (shlI .u32 (bitsI .and .u32 (bitsI .or .u32 a0 (shlI .u32 a0 8)) 16711935) 4)) 252645135) 2)) 858993459) 1)) 1431655765))), (9, .agg [li .u64 8, li .u32 16711935, li .u64 4, li .u32 252645135, li .u64 2, li .u32 858993459, li .u64 1, li .u32 1431655765]), (10, .one (li .i64 4))] [] (by kernel_rfl) ?_
  refine SimI.run 1 [(11, .one (lb false))] [] (by kernel_rfl) ?_
  refine SimI.done (by kernel_rfl) ?_
  refine SimE.thenN ?_
  refine Sim.seq ?_
  refine Sim.condF (by kernel_rfl) ?_
  refine Sim.exit ?_
  refine SimE.thenX ?_
  refine SimE.loopX ?_
  refine SimE.blockX ?_
  refine SimE.thenN ?_
  refine Sim.seq ?_
  refine Sim.region0 ?_
  refine SimI.run 2 [(2, .one (li .u32 (bitsI .and .u32 (bitsI .or .u32 (bitsI .and .u32 (bitsI .or .u32 (bitsI .and .u32 (bitsI .or .u32 (bitsI .and .u32 (bitsI .or .u32 a0 (shlI .u32 a0 8)) 16711935) (shlI .u32 (bitsI .and .u32 (bitsI .or .u32 a0 (shlI .u32 a0 8)) 16711935) 4)) 252645135) (shlI .u32 (bitsI .and .u32 (bitsI .or .u32 (bitsI .and .u32 (bitsI .or .u32 a0 (shlI .u32 a0 8)) 16711935) (shlI .u32 (bitsI .and .u32 (bitsI .or .u32 a0 (shlI .u32 a0 8)) 16711935) 4)) 252645135) 2)) 858993459) (shlI .u32 (bitsI .and .u32 (bitsI .or .u32 (bitsI .and .u32 (bitsI .or .u32 (bitsI .and .u32 (bitsI .or .u32 a0 (shlI .u32 a0 8)) 16711935) (shlI .u32 (bitsI .and .u32 (bitsI .or .u32 a0 (shlI .u32 a0 8)) 16711935) 4)) 252645135) (shlI .u32 (bitsI .and .u32 (bitsI .or .u32 (bitsI .and .u32 (bitsI .or .u32 a0 (shlI .u32 a0 8)) 16711935) (shlI .u32 (bitsI .and .u32 (bitsI .or .u32 a0 (shlI .u32 a0 8)) 16711935) 4)) 252645135) 2)) 858993459) 1)) 1431655765))), (23, .one (li .u32 (bitsI .and .u32 (bitsI .or .u32 (bitsI .and .u32 (bitsI .or .u32 (bitsI .and .u32 (bitsI .or .u32 (bitsI .and .u32 (bitsI .or .u32 a0 (shlI .u32 a0 8)) 16711935) (shlI .u32 (bitsI .and .u32 (bitsI .or .u32 a0 (shlI .u32 a0 8)) 16711935) 4)) 252645135) (shlI .u32 (bitsI .and .u32 (bitsI .or .u32 (bitsI .and .u32 (bitsI .or .u32 a0 (shlI .u32 a0 8)) 16711935) (shlI .u32 (bitsI .and .u32 (bitsI .or .u32 a0 (shlI .u32 a0 8)) 16711935) 4)) 252645135) 2)) 858993459) (shlI .u32 (bitsI .and .u32 (bitsI .or .u32 (bitsI .and .u32 (bitsI .or .u32 (bitsI .and .u32 (bitsI .or .u32 a0 (shlI .u32 a0 8)) 16711935) (shlI .u32 (bitsI .and .u32 (bitsI .or .u32 a0 (shlI .u32 a0 8)) 16711935) 4)) 252645135) (shlI .u32 (bitsI .and .u32 (bitsI .or .u32 (bitsI .and .u32 (bitsI .or .u32 a0 (shlI .u32 a0 8)) 16711935) (shlI .u32 (bitsI .and .u32 (bitsI .or .u32 a0 (shlI .u32 a0 8)) 16711935) 4)) 252645135) 2)) 858993459) 1)) 1431655765)))] [] (by kernel_rfl) ?_
  refine SimI.done (by kernel_rfl) ?_
  refine SimE.thenN ?_
  refine Sim.ret ?_
  exact SimE.fin (by kernel_rfl)


-- 71: vedette/morton.Weave
def F71_e : Int → PV × List (List Lf) := fun r => (.one (li .u32 r), [])
def F71 (n : Nat) (a0 : Int) (a1 : Int) : Option Int :=
  (F81 n (IntKind.wrap .u32 a0)).bind fun (r1 : Int) =>
  (F81 n (IntKind.wrap .u32 a1)).bind fun (r2 : Int) =>
  some (bitsI .or .u32 r1 (shlI .u32 r2 1))
theorem F71_ok (n : Nat) (a0 : Int) (a1 : Int) : ∀ r, F71 n a0 a1 = some r → D 71 [.one (li .u16 a0), .one (li .u16 a1)] [] = some (F71_e r) := by
  refine fn_to (D := D) (n := n + 8) (nt := 13) (rs := pc71_r) (c := pc71_c5) (L := [(0, .one (li .u16 a0)), (1, .one (li .u16 a1))]) (M := []) (k := 0) rfl rfl rfl rfl rfl rfl ?_
  unfold F71
  refine Sim.seq ?_
  refine Sim.region0 ?_
  refine SimI.run 1 [(4, .one (li .u32 0))] [] (by kernel_rfl) ?_
  refine SimI.done (by kernel_rfl) ?_
  refine SimE.thenN ?_
  refine Sim.seq ?_
  refine Sim.region0 ?_
  refine SimI.run 2 [(6, .one (li .u32 (IntKind.wrap .u32 a0))), (5, .one (li .u16 a0))] [] (by kernel_rfl) ?_
  refine SimI.bind (og := F81 n (IntKind.wrap .u32 a0)) { dst := some 7, op := POp.call true [[]] 81 [Operand.tmp 6], guard := none, hints := [] } (fun r1 => [(7, .one (li .u32 r1))]) (fun r1 => []) (by kernel_rfl) (fun r1 hr => pOp_eff (by kernel_rfl) (by kernel_rfl) (eff_call (ARGS := [.one (li .u32 (IntKind.wrap .u32 a0))]) (by kernel_rfl) (args_clean (by kernel_rfl) args_nil) (F81_ok n (IntKind.wrap .u32 a0) r1 hr) (by kernel_rfl))) (fun r1 => ?_)
  refine SimI.run 2 [(9, .one (li .u32 (IntKind.wrap .u32 a1))), (8, .one (li .u16 a1))] [] (by kernel_rfl) ?_
  refine SimI.bind (og := F81 n (IntKind.wrap .u32 a1)) { dst := some 10, op := POp.call true [[]] 81 [Operand.tmp 9], guard := none, hints := [] } (fun r2 => [(10, .one (li .u32 r2))]) (fun r2 => []) (by kernel_rfl) (fun r2 hr => pOp_eff (by kernel_rfl) (by kernel_rfl) (eff_call (ARGS := [.one (li .u32 (IntKind.wrap .u32 a1))]) (by kernel_rfl) (args_clean (by kernel_rfl) args_nil) (F81_ok n (IntKind.wrap .u32 a1) r2 hr) (by kernel_rfl))) (fun r2 => ?_)
  refine SimI.run 3 [(4, .one (li .u32 (bitsI .or .u32 r1 (shlI .u32 r2 1)))), (12, .one (li .u32 (bitsI .or .u32 r1 (shlI .u32 r2 1)))), (11, .one (li .u32 (shlI .u32 r2 1)))] [] (by kernel_rfl) ?_
  refine SimI.done (by kernel_rfl) ?_
  refine SimE.thenN ?_
  refine Sim.ret ?_
  exact SimE.fin (by kernel_rfl)


-- 53: vedette/cells.at
def F53_e : Int → PV × List (List Lf) := fun r => (.one (li .i64 r), [])
def F53 (n : Nat) (a0 : Int) (a1 : Int) : Option Int :=
  (F71 n (IntKind.wrap .u16 a0) (IntKind.wrap .u16 a1)).bind fun (r1 : Int) =>
  some (IntKind.wrap .i64 r1)
theorem F53_ok (n : Nat) (a0 : Int) (a1 : Int) : ∀ r, F53 n a0 a1 = some r → D 53 [.one (li .i64 a0), .one (li .i64 a1)] [] = some (F53_e r) := by
  refine fn_to (D := D) (n := n + 8) (nt := 11) (rs := pc53_r) (c := pc53_c5) (L := [(0, .one (li .i64 a0)), (1, .one (li .i64 a1))]) (M := []) (k := 0) rfl rfl rfl rfl rfl rfl ?_
  unfold F53
  refine Sim.seq ?_
  refine Sim.region0 ?_
  refine SimI.run 1 [(4, .one (li .i64 0))] [] (by kernel_rfl) ?_
  refine SimI.done (by kernel_rfl) ?_
  refine SimE.thenN ?_
  refine Sim.seq ?_
  refine Sim.region0 ?_
  refine SimI.run 4 [(8, .one (li .u16 (IntKind.wrap .u16 a1))), (7, .one (li .i64 a1)), (6, .one (li .u16 (IntKind.wrap .u16 a0))), (5, .one (li .i64 a0))] [] (by kernel_rfl) ?_
  refine SimI.bind (og := F71 n (IntKind.wrap .u16 a0) (IntKind.wrap .u16 a1)) { dst := some 9, op := POp.call true [[], []] 71 [Operand.tmp 6, Operand.tmp 8], guard := none, hints := [] } (fun r1 => [(9, .one (li .u32 r1))]) (fun r1 => []) (by kernel_rfl) (fun r1 hr => pOp_eff (by kernel_rfl) (by kernel_rfl) (eff_call (ARGS := [.one (li .u16 (IntKind.wrap .u16 a0)), .one (li .u16 (IntKind.wrap .u16 a1))]) (by kernel_rfl) (args_clean (by kernel_rfl) (args_clean (by kernel_rfl) args_nil)) (F71_ok n (IntKind.wrap .u16 a0) (IntKind.wrap .u16 a1) r1 hr) (by kernel_rfl))) (fun r1 => ?_)
  refine SimI.run 2 [(4, .one (li .i64 (IntKind.wrap .i64 r1))), (10, .one (li .i64 (IntKind.wrap .i64 r1)))] [] (by kernel_rfl) ?_
  refine SimI.done (by kernel_rfl) ?_
  refine SimE.thenN ?_
  refine Sim.ret ?_
  exact SimE.fin (by kernel_rfl)


-- 25: vedette/cells.Of
def F25_e : (Int × Int) → PV × List (List Lf) := fun r => (.tup [.one (li .i64 r.1), .one (li .i64 r.2)], [])
def F25 (n : Nat) (a0 : Point) : Option (Int × Int) :=
  (F52 n a0).bind fun (r1 : Bool) =>
  if !(r1) then
    some (0, 14)
  else
    (F53 n (IntKind.wrap .i64 (Int.tdiv a0.X 16)) (IntKind.wrap .i64 (Int.tdiv a0.Y 16))).bind fun (r2 : Int) =>
    some (r2, 0)
theorem F25_ok (n : Nat) (a0 : Point) : ∀ r, F25 n a0 = some r → D 25 [.agg [li .i64 a0.X, li .i64 a0.Y]] [] = some (F25_e r) := by
  refine fn_to (D := D) (n := n + 8) (nt := 14) (rs := pc25_r) (c := pc25_c13) (L := [(0, .agg [li .i64 a0.X, li .i64 a0.Y])]) (M := []) (k := 0) rfl rfl rfl rfl rfl rfl ?_
  unfold F25
  refine Sim.seq ?_
  refine Sim.region0 ?_
  refine SimI.run 3 [(3, .one (li .i64 0)), (2, .one (li .i64 0)), (1, .one (.ptr 1 0))] [(1, some (.cells [li .i64 a0.X, li .i64 a0.Y]))] (by kernel_rfl) ?_
  refine SimI.done (by kernel_rfl) ?_
  refine SimE.thenN ?_
  refine Sim.seq ?_
  refine Sim.seq ?_
  refine Sim.region0 ?_
  refine SimI.run 1 [(4, .agg [li .i64 a0.X, li .i64 a0.Y])] [] (by kernel_rfl) ?_
  refine SimI.bind (og := F52 n a0) { dst := some 5, op := POp.call true [[]] 52 [Operand.tmp 4], guard := none, hints := [] } (fun r1 => [(5, .one (lb r1))]) (fun r1 => []) (by kernel_rfl) (fun r1 hr => pOp_eff (by kernel_rfl) (by kernel_rfl) (eff_call (ARGS := [.agg [li .i64 a0.X, li .i64 a0.Y]]) (by kernel_rfl) (args_clean (by kernel_rfl) args_nil) (F52_ok n a0 r1 hr) (by kernel_rfl))) (fun r1 => ?_)
  refine SimI.run 1 [(6, .one (lb (!(r1))))] [] (by kernel_rfl) ?_
  refine SimI.done (by kernel_rfl) ?_
  refine SimE.thenN ?_
  refine Sim.cond (!(r1)) (by kernel_rfl) ?_ ?_
  · refine Sim.seq ?_
    refine Sim.region0 ?_
    refine SimI.run 2 [(3, .one (li .i64 14)), (2, .one (li .i64 0))] [] (by kernel_rfl) ?_
    refine SimI.done (by kernel_rfl) ?_
    refine SimE.thenN ?_
    refine Sim.ret ?_
    refine SimE.thenR ?_
    exact SimE.fin (by kernel_rfl)
  · refine Sim.skip ?_
    refine SimE.thenN ?_
    refine Sim.seq ?_
    refine Sim.region0 ?_
    refine SimI.run 6 [(12, .one (li .i64 (IntKind.wrap .i64 (Int.tdiv a0.Y 16)))), (11, .one (li .i64 a0.Y)), (10, .one (.ptr 1 1)), (9, .one (li .i64 (IntKind.wrap .i64 (Int.tdiv a0.X 16)))), (8, .one (li .i64 a0.X)), (7, .one (.ptr 1 0))] [] (by kernel_rfl) ?_
    refine SimI.bind (og := F53 n (IntKind.wrap .i64 (Int.tdiv a0.X 16)) (IntKind.wrap .i64 (Int.tdiv a0.Y 16))) { dst := some 13, op := POp.call true [[], []] 53 [Operand.tmp 9, Operand.tmp 12], guard := none, hints := [] } (fun r2 => [(13, .one (li .i64 r2))]) (fun r2 => []) (by kernel_rfl) (fun r2 hr => pOp_eff (by kernel_rfl) (by kernel_rfl) (eff_call (ARGS := [.one (li .i64 (IntKind.wrap .i64 (Int.tdiv a0.X 16))), .one (li .i64 (IntKind.wrap .i64 (Int.tdiv a0.Y 16)))]) (by kernel_rfl) (args_clean (by kernel_rfl) (args_clean (by kernel_rfl) args_nil)) (F53_ok n (IntKind.wrap .i64 (Int.tdiv a0.X 16)) (IntKind.wrap .i64 (Int.tdiv a0.Y 16)) r2 hr) (by kernel_rfl))) (fun r2 => ?_)
    refine SimI.run 2 [(3, .one (li .i64 0)), (2, .one (li .i64 r2))] [] (by kernel_rfl) ?_
    refine SimI.done (by kernel_rfl) ?_
    refine SimE.thenN ?_
    refine Sim.ret ?_
    exact SimE.fin (by kernel_rfl)


-- 31: vedette/cells.Is
def F31_e : Bool → PV × List (List Lf) := fun r => (.one (lb r), [])
def F31 (n : Nat) (a0 : Int) : Option Bool :=
  if decide ((0 : Int) ≤ a0) then
    some (decide (a0 < 16))
  else
    some false
theorem F31_ok (n : Nat) (a0 : Int) : ∀ r, F31 n a0 = some r → D 31 [.one (li .i64 a0)] [] = some (F31_e r) := by
  refine fn_to (D := D) (n := n + 8) (nt := 9) (rs := pc31_r) (c := pc31_c5) (L := [(0, .one (li .i64 a0))]) (M := []) (k := 0) rfl rfl rfl rfl rfl rfl ?_
  unfold F31
  refine Sim.seq ?_
  refine Sim.region0 ?_
  refine SimI.run 1 [(2, .one (lb false))] [] (by kernel_rfl) ?_
  refine SimI.done (by kernel_rfl) ?_
  refine SimE.thenN ?_
  refine Sim.seq ?_
  refine Sim.region0 ?_
  refine SimI.run 3 [(5, .one (lb (decide ((0 : Int) ≤ a0)))), (4, .one (lb (decide ((0 : Int) ≤ a0)))), (3, .one (li .i64 a0))] [] (by kernel_rfl) ?_
  refine SimI.split 5 (decide ((0 : Int) ≤ a0)) (by kernel_rfl) ?_ ?_
  · refine SimI.run 4 [(2, .one (lb (decide (a0 < 16)))), (8, .one (lb (decide (a0 < 16)))), (7, .one (lb (decide (a0 < 16)))), (6, .one (li .i64 a0))] [] (by kernel_rfl) ?_
    refine SimI.done (by kernel_rfl) ?_
    refine SimE.thenN ?_
    refine Sim.ret ?_
    exact SimE.fin (by kernel_rfl)
  · refine SimI.run 4 [(2, .one (lb false)), (8, .one (lb false)), (7, .tup []), (6, .tup [])] [] (by kernel_rfl) ?_
    refine SimI.done (by kernel_rfl) ?_
    refine SimE.thenN ?_
    refine Sim.ret ?_
    exact SimE.fin (by kernel_rfl)


-- 82: vedette/morton.gather
def F82_e : Int → PV × List (List Lf) := fun r => (.one (li .u32 r), [])
def F82 (n : Nat) (a0 : Int) : Option Int :=
  some (bitsI .and .u32 (bitsI .or .u32 (bitsI .and .u32 (bitsI .or .u32 (bitsI .and .u32 (bitsI .or .u32 (bitsI .and .u32 (bitsI .or .u32 (bitsI .and .u32 a0 1431655765) (shrI .u32 (bitsI .and .u32 a0 1431655765) 1)) 858993459) (shrI .u32 (bitsI .and .u32 (bitsI .or .u32 (bitsI .and .u32 a0 1431655765) (shrI .u32 (bitsI .and .u32 a0 1431655765) 1)) 858993459) 2)) 252645135) (shrI .u32 (bitsI .and .u32 (bitsI .or .u32 (bitsI .and .u32 (bitsI .or .u32 (bitsI .and .u32 a0 1431655765) (shrI .u32 (bitsI .and .u32 a0 1431655765) 1)) 858993459) (shrI .u32 (bitsI .and .u32 (bitsI .or .u32 (bitsI .and .u32 a0 1431655765) (shrI .u32 (bitsI .and .u32 a0 1431655765) 1)) 858993459) 2)) 252645135) 4)) 16711935) (shrI .u32 (bitsI .and .u32 (bitsI .or .u32 (bitsI .and .u32 (bitsI .or .u32 (bitsI .and .u32 (bitsI .or .u32 (bitsI .and .u32 a0 1431655765) (shrI .u32 (bitsI .and .u32 a0 1431655765) 1)) 858993459) (shrI .u32 (bitsI .and .u32 (bitsI .or .u32 (bitsI .and .u32 a0 1431655765) (shrI .u32 (bitsI .and .u32 a0 1431655765) 1)) 858993459) 2)) 252645135) (shrI .u32 (bitsI .and .u32 (bitsI .or .u32 (bitsI .and .u32 (bitsI .or .u32 (bitsI .and .u32 a0 1431655765) (shrI .u32 (bitsI .and .u32 a0 1431655765) 1)) 858993459) (shrI .u32 (bitsI .and .u32 (bitsI .or .u32 (bitsI .and .u32 a0 1431655765) (shrI .u32 (bitsI .and .u32 a0 1431655765) 1)) 858993459) 2)) 252645135) 4)) 16711935) 8)) 65535)
theorem F82_ok (n : Nat) (a0 : Int) : ∀ r, F82 n a0 = some r → D 82 [.one (li .u32 a0)] [] = some (F82_e r) := by
  refine fn_to (D := D) (n := n + 8) (nt := 26) (rs := pc82_r) (c := pc82_c24) (L := [(0, .one (li .u32 a0))]) (M := []) (k := 0) rfl rfl rfl rfl rfl rfl ?_
  unfold F82
  refine Sim.seq ?_
  refine Sim.region0 ?_
  refine SimI.run 1 [(2, .one (li .u32 0))] [] (by kernel_rfl) ?_
  refine SimI.done (by kernel_rfl) ?_
  refine SimE.thenN ?_
  refine Sim.seq ?_
  refine Sim.region0 ?_
  refine SimI.run 3 [(0, .one (li .u32 (bitsI .and .u32 a0 1431655765))), (6, .one (li .u32 (bitsI .and .u32 a0 1431655765))), (5, .one (li .u32 a0))] [] (by kernel_rfl) ?_
  refine SimI.done (by kernel_rfl) ?_
  refine SimE.thenN ?_
  refine Sim.seq ?_
  refine Sim.seq ?_
  refine Sim.region0 ?_
  refine SimI.run 6 [(12, .one (li .i64 0)), (11, .agg [li .u64 1, li .u32 858993459, li .u64 2, li .u32 252645135, li .u64 4, li .u32 16711935, li .u64 8, li .u32 65535]), (10, .agg [li .u64 8, li .u32 65535]), (9, .agg [li .u64 4, li .u32 16711935]), (8, .agg [li .u64 2, li .u32 252645135]), (7, .agg [li .u64 1, li .u32 858993459])] [] (by kernel_rfl) ?_
  refine SimI.done (by kernel_rfl) ?_
  refine SimE.thenN ?_
  refine Sim.block ?_
  refine Sim.loop ?_
  refine SimL.succ ?_
  refine Sim.seq ?_
  refine Sim.region [(0, .one (li .u32 (bitsI .and .u32 a0 1431655765))), (11, .agg [li .u64 1, li .u32 858993459, li .u64 2, li .u32 252645135, li .u64 4, li .u32 16711935, li .u64 8, li .u32 65535]), (12, .one (li .i64 0))] [] (by kernel_rfl) ?_
  refine SimI.run 1 [(13, .one (lb true))] [] (by kernel_rfl) ?_
  refine SimI.done (by kernel_rfl) ?_
  refine SimE.thenN ?_
  refine Sim.seq ?_
  refine Sim.condT (by kernel_rfl) ?_
  refine Sim.skip ?_
  refine SimE.thenN ?_
  refine Sim.seq ?_
  refine Sim.block ?_
  refine Sim.seq ?_
  refine Sim.region0 ?_
  refine SimI.run 3 [(4, .one (.ptr 4 0)), (14, .agg [li .u64 1, li .u32 858993459])] [(4, some (.cells [li .u64 1, li .u32 858993459])), (4, some (.cells [li .u64 0, li .u32 0]))] (by kernel_rfl) ?_
  refine SimI.done (by kernel_rfl) ?_
  refine SimE.thenN ?_
  refine Sim.region0 ?_
  refine SimI.run 10 [(0, .one (li .u32 (bitsI .and .u32 (bitsI .or .u32 (bitsI .and .u32 a0 1431655765) (shrI .u32 (bitsI .and .u32 a0 1431655765) 1)) 858993459))), (23, .one (li .u32 (bitsI .and .u32 (bitsI .or .u32 (bitsI .and .u32 a0 1431655765) (shrI .u32 (bitsI .and .u32 a0 1431655765) 1)) 858993459))), (22, .one (li .u32 858993459)), (21, .one (.ptr 4 1)), (20, .one (li .u32 (bitsI .or .u32 (bitsI .and .u32 a0 1431655765) (shrI .u32 (bitsI .and .u32 a0 1431655765) 1)))), (19, .one (li .u32 (shrI .u32 (bitsI .and .u32 a0 1431655765) 1))), (18, .one (li .u64 1)), (17, .one (.ptr 4 0)), (16, .one (li .u32 (bitsI .and .u32 a0 1431655765))), (15, .one (li .u32 (bitsI .and .u32 a0 1431655765)))] [] (by kernel_rfl) ?_
  refine SimI.done (by kernel_rfl) ?_
  refine SimE.blockN ?_
  refine SimE.thenN ?_
  refine Sim.region0 ?_
  refine SimI.run 2 [(12, .one (li .i64 1)), (24, .one (li .i64 1))] [] (by kernel_rfl) ?_
  refine SimI.done (by kernel_rfl) ?_
  refine SimE.loopN ?_
  refine SimL.succ ?_
  refine Sim.seq ?_
  refine Sim.region [(0, .one (li .u32 (bitsI .and .u32 (bitsI .or .u32 (bitsI .and .u32 a0 1431655765) (shrI .u32 (bitsI .and .u32 a0 1431655765) 1)) 858993459))), (11, .agg [li .u64 1, li .u32 858993459, li .u64 2, li .u32 252645135, li .u64 4, li .u32 16711935, li .u64 8, li .u32 65535]), (12, .one (li .i64 1))] [] (by kernel_rfl) ?_
  refine SimI.run 1 [(13, .one (lb true))] [] (by kernel_rfl) ?_
  refine SimI.done (by kernel_rfl) ?_
  refine SimE.thenN ?_
  refine Sim.seq ?_
  refine Sim.condT (by kernel_rfl) ?_
  refine Sim.skip ?_
  refine SimE.thenN ?_
  refine Sim.seq ?_
  refine Sim.block ?_
  refine Sim.seq ?_
  refine Sim.region0 ?_
  refine SimI.run 3 [(4, .one (.ptr 4 0)), (14, .agg [li .u64 2, li .u32 252645135])] [(4, some (.cells [li .u64 2, li .u32 252645135])), (4, some (.cells [li .u64 0, li .u32 0]))] (by kernel_rfl) ?_
  refine SimI.done (by kernel_rfl) ?_
  refine SimE.thenN ?_
  refine Sim.region0 ?_
  refine SimI.run 10 [(0, .one (li .u32 (bitsI .and .u32 (bitsI .or .u32 (bitsI .and .u32 (bitsI .or .u32 (bitsI .and .u32 a0 1431655765) (shrI .u32 (bitsI .and .u32 a0 1431655765) 1)) 858993459) (shrI .u32 (bitsI .and .u32 (bitsI .or .u32 (bitsI .and .u32 a0 1431655765) (shrI .u32 (bitsI .and .u32 a0 1431655765) 1)) 858993459) 2)) 252645135))), (23, .one (li .u32 (bitsI .and .u32 (bitsI .or .u32 (bitsI .and .u32 (bitsI .or .u32 (bitsI .and .u32 a0 1431655765) (shrI .u32 (bitsI .and .u32 a0 1431655765) 1)) 858993459) (shrI .u32 (bitsI .and .u32 (bitsI .or .u32 (bitsI .and .u32 a0 1431655765) (shrI .u32 (bitsI .and .u32 a0 1431655765) 1)) 858993459) 2)) 252645135))), (22, .one (li .u32 252645135)), (21, .one (.ptr 4 1)), (20, .one (li .u32 (bitsI .or .u32 (bitsI .and .u32 (bitsI .or .u32 (bitsI .and .u32 a0 1431655765) (shrI .u32 (bitsI .and .u32 a0 1431655765) 1)) 858993459) (shrI .u32 (bitsI .and .u32 (bitsI .or .u32 (bitsI .and .u32 a0 1431655765) (shrI .u32 (bitsI .and .u32 a0 1431655765) 1)) 858993459) 2)))), (19, .one (li .u32 (shrI .u32 (bitsI .and .u32 (bitsI .or .u32 (bitsI .and .u32 a0 1431655765) (shrI .u32 (bitsI .and .u32 a0 1431655765) 1)) 858993459) 2))), (18, .one (li .u64 2)), (17, .one (.ptr 4 0)), (16, .one (li .u32 (bitsI .and .u32 (bitsI .or .u32 (bitsI .and .u32 a0 1431655765) (shrI .u32 (bitsI .and .u32 a0 1431655765) 1)) 858993459))), (15, .one (li .u32 (bitsI .and .u32 (bitsI .or .u32 (bitsI .and .u32 a0 1431655765) (shrI .u32 (bitsI .and .u32 a0 1431655765) 1)) 858993459)))] [] (by kernel_rfl) ?_
  refine SimI.done (by kernel_rfl) ?_
  refine SimE.blockN ?_
  refine SimE.thenN ?_
  refine Sim.region0 ?_
  refine SimI.run 2 [(12, .one (li .i64 2)), (24, .one (li .i64 2))] [] (by kernel_rfl) ?_
  refine SimI.done (by kernel_rfl) ?_
  refine SimE.loopN ?_
  refine SimL.succ ?_
  refine Sim.seq ?_
  refine Sim.region [(0, .one (li .u32 (bitsI .and .u32 (bitsI .or .u32 (bitsI .and .u32 (bitsI .or .u32 (bitsI .and .u32 a0 1431655765) (shrI .u32 (bitsI .and .u32 a0 1431655765) 1)) 858993459) (shrI .u32 (bitsI .and .u32 (bitsI .or .u32 (bitsI .and .u32 a0 1431655765) (shrI .u32 (bitsI .and .u32 a0 1431655765) 1)) 858993459) 2)) 252645135))), (11, .agg [li .u64 1, li .u32 858993459, li .u64 2, li .u32 252645135, li .u64 4, li .u32 16711935, li .u64 8, li .u32 65535]), (12, .one (li .i64 2))] [] (by kernel_rfl) ?_
  refine SimI.run 1 [(13, .one (lb true))] [] (by kernel_rfl) ?_
  refine SimI.done (by kernel_rfl) ?_
  refine SimE.thenN ?_
  refine Sim.seq ?_
  refine Sim.condT (by kernel_rfl) ?_
  refine Sim.skip ?_
  refine SimE.thenN ?_
  refine Sim.seq ?_
  refine Sim.block ?_
  refine Sim.seq ?_
  refine Sim.region0 ?_
  refine SimI.run 3 [(4, .one (.ptr 4 0)), (14, .agg [li .u64 4, li .u32 16711935])] [(4, some (.cells [li .u64 4, li .u32 16711935])), (4, some (.cells [li .u64 0, li .u32 0]))] (by kernel_rfl) ?_
  refine SimI.done (by kernel_rfl) ?_
  refine SimE.thenN ?_
  refine Sim.region0 ?_
  refine SimI.run 10 [(0, .one (li .u32 (bitsI .and .u32 (bitsI .or .u32 (bitsI .and .u32 (bitsI .or .u32 (bitsI .and .u32 (bitsI .or .u32 (bitsI .and .u32 a0 1431655765) (shrI .u32 (bitsI .and .u32 a0 1431655765) 1)) 858993459) (shrI .u32 (bitsI .and .u32 (bitsI .or .u32 (bitsI .and .u32 a0 1431655765) (shrI .u32 (bitsI .and .u32 a0 1431655765) 1)) 858993459) 2)) 252645135) (shrI .u32 (bitsI .and .u32 (bitsI .or .u32 (bitsI .and .u32 (bitsI .or .u32 (bitsI .and .u32 a0 1431655765) (shrI .u32 (bitsI .and .u32 a0 1431655765) 1)) 858993459) (shrI .u32 (bitsI .and .u32 (bitsI .or .u32 (bitsI .and .u32 a0 1431655765) (shrI .u32 (bitsI .and .u32 a0 1431655765) 1)) 858993459) 2)) 252645135) 4)) 16711935))), (23, .one (li .u32 (bitsI .and .u32 (bitsI .or .u32 (bitsI .and .u32 (bitsI .or .u32 (bitsI .and .u32 (bitsI .or .u32 (bitsI .and .u32 a0 1431655765) (shrI .u32 (bitsI .and .u32 a0 1431655765) 1)) 858993459) (shrI .u32 (bitsI .and .u32 (bitsI .or .u32 (bitsI .and .u32 a0 1431655765) (shrI .u32 (bitsI .and .u32 a0 1431655765) 1)) 858993459) 2)) 252645135) (shrI .u32 (bitsI .and .u32 (bitsI .or .u32 (bitsI .and .u32 (bitsI .or .u32 (bitsI .and .u32 a0 1431655765) (shrI .u32 (bitsI .and .u32 a0 1431655765) 1)) 858993459) (shrI .u32 (bitsI .and .u32 (bitsI .or .u32 (bitsI .and .u32 a0 1431655765) (shrI .u32 (bitsI .and .u32 a0 1431655765) 1)) 858993459) 2)) 252645135) 4)) 16711935))), (22, .one (li .u32 16711935)), (21, .one (.ptr 4 1)), (20, .one (li .u32 (bitsI .or .u32 (bitsI .and .u32 (bitsI .or .u32 (bitsI .and .u32 (bitsI .or .u32 (bitsI .and .u32 a0 1431655765) (shrI .u32 (bitsI .and .u32 a0 1431655765) 1)) 858993459) (shrI .u32 (bitsI .and .u32 (bitsI .or .u32 (bitsI .and .u32 a0 1431655765) (shrI .u32 (bitsI .and .u32 a0 1431655765) 1)) 858993459) 2)) 252645135) (shrI .u32 (bitsI .and .u32 (bitsI .or .u32 (bitsI .and .u32 (bitsI .or .u32 (bitsI .and .u32 a0 1431655765) (shrI .u32 (bitsI .and .u32 a0 1431655765) 1)) 858993459) (shrI .u32 (bitsI .and .u32 (bitsI .or .u32 (bitsI .and .u32 a0 1431655765) (shrI .u32 (bitsI .and .u32 a0 1431655765) 1)) 858993459) 2)) 252645135) 4)))), (19, .one (li .u32 (shrI .u32 (bitsI .and .u32 (bitsI .or .u32 (bitsI .and .u32 (bitsI .or .u32 (bitsI .and .u32 a0 1431655765) (shrI .u32 (bitsI .and .u32 a0 1431655765) 1)) 858993459) (shrI .u32 (bitsI .and .u32 (bitsI .or .u32 (bitsI .and .u32 a0 1431655765) (shrI .u32 (bitsI .and .u32 a0 1431655765) 1)) 858993459) 2)) 252645135) 4))), (18, .one (li .u64 4)), (17, .one (.ptr 4 0)), (16, .one (li .u32 (bitsI .and .u32 (bitsI .or .u32 (bitsI .and .u32 (bitsI .or .u32 (bitsI .and .u32 a0 1431655765) (shrI .u32 (bitsI .and .u32 a0 1431655765) 1)) 858993459) (shrI .u32 (bitsI .and .u32 (bitsI .or .u32 (bitsI .and .u32 a0 1431655765) (shrI .u32 (bitsI .and .u32 a0 1431655765) 1)) 858993459) 2)) 252645135))), (15, .one (li .u32 (bitsI .and .u32 (bitsI .or .u32 (bitsI .and .u32 (bitsI .or .u32 (bitsI .and .u32 a0 1431655765) (shrI .u32 (bitsI .and .u32 a0 1431655765) 1)) 858993459) (shrI .u32 (bitsI .and .u32 (bitsI .or .u32 (bitsI .and .u32 a0 1431655765) (shrI .u32 (bitsI .and .u32 a0 1431655765) 1)) 858993459) 2)) 252645135)))] [] (by kernel_rfl) ?_
  refine SimI.done (by kernel_rfl) ?_
  refine SimE.blockN ?_
  refine SimE.thenN ?_
  refine Sim.region0 ?_
  refine SimI.run 2 [(12, .one (li .i64 3)), (24, .one (li .i64 3))] [] (by kernel_rfl) ?_
  refine SimI.done (by kernel_rfl) ?_
  refine SimE.loopN ?_
  refine SimL.succ ?_
  refine Sim.seq ?_
  refine Sim.region [(0, .one (li .u32 (bitsI .and .u32 (bitsI .or .u32 (bitsI .and .u32 (bitsI .or .u32 (bitsI .and .u32 (bitsI .or .u32 (bitsI .and .u32 a0 1431655765) (shrI .u32 (bitsI .and .u32 a0 1431655765) 1)) 858993459) (shrI .u32 (bitsI .and .u32 (bitsI .or .u32 (bitsI .and .u32 a0 1431655765) (shrI .u32 (bitsI .and .u32 a0 1431655765) 1)) 858993459) 2)) 252645135) (shrI .u32 (bitsI .and .u32 (bitsI .or .u32 (bitsI .and .u32 (bitsI .or .u32 (bitsI .and .u32 a0 1431655765) (shrI .u32 (bitsI .and .u32 a0 1431655765) 1)) 858993459) (shrI .u32 (bitsI .and .u32 (bitsI .or .u32 (bitsI .and .u32 a0 1431655765) (shrI .u32 (bitsI .and .u32 a0 1431655765) 1)) 858993459) 2)) 252645135) 4)) 16711935))), (11, .agg [li .u64 1, li .u32 858993459, li .u64 2, li .u32 252645135, li .u64 4, li .u32 16711935, li .u64 8, li .u32 65535]), (12, .one (li .i64 3))] [] (by kernel_rfl) ?_
  refine SimI.run 1 [(13, .one (lb true))] [] (by kernel_rfl) ?_
  refine SimI.done (by kernel_rfl) ?_
  refine SimE.thenN ?_
  refine Sim.seq ?_
  refine Sim.condT (by kernel_rfl) ?_
  refine Sim.skip ?_
  refine SimE.thenN ?_
  refine Sim.seq ?_
  refine Sim.block ?_
  refine Sim.seq ?_
  refine Sim.region0 ?_
  refine SimI.run 3 [(4, .one (.ptr 4 0)), (14, .agg [li .u64 8, li .u32 65535])] [(4, some (.cells [li .u64 8, li .u32 65535])), (4, some (.cells [li .u64 0, li .u32 0]))] (by kernel_rfl) ?_
  refine SimI.done (by kernel_rfl) ?_
  refine SimE.thenN ?_
  refine Sim.region0 ?_
  refine SimI.run 10 [(0, .one (li .u32 (bitsI .and .u32 (bitsI .or .u32 (bitsI .and .u32 (bitsI .or .u32 (bitsI .and .u32 (bitsI .or .u32 (bitsI .and .u32 (bitsI .or .u32 (bitsI .and .u32 a0 1431655765) (shrI .u32 (bitsI .and .u32 a0 1431655765) 1)) 858993459) (shrI .u32 (bitsI .and .u32 (bitsI .or .u32 (bitsI .and .u32 a0 1431655765) (shrI .u32 (bitsI .and .u32 a0 1431655765) 1)) 858993459) 2)) 252645135) (shrI .u32 (bitsI .and .u32 (bitsI .or .u32 (bitsI .and .u32 (bitsI .or .u32 (bitsI .and .u32 a0 1431655765) (shrI .u32 (bitsI .and .u32 a0 1431655765) 1)) 858993459) (shrI .u32 (bitsI .and .u32 (bitsI .or .u32 (bitsI .and .u32 a0 1431655765) (shrI .u32 (bitsI .and .u32 a0 1431655765) 1)) 858993459) 2)) 252645135) 4)) 16711935) (shrI .u32 (bitsI .and .u32 (bitsI .or .u32 (bitsI .and .u32 (bitsI .or .u32 (bitsI .and .u32 (bitsI .or .u32 (bitsI .and .u32 a0 1431655765) (shrI .u32 (bitsI .and .u32 a0 1431655765) 1)) 858993459) (shrI .u32 (bitsI .and .u32 (bitsI .or .u32 (bitsI .and .u32 a0 1431655765) (shrI .u32 (bitsI .and .u32 a0 1431655765) 1)) 858993459) 2)) 252645135) (shrI .u32 (bitsI .and .u32 (bitsI .or .u32 (bitsI .and .u32 (bitsI .or .u32 (bitsI .and .u32 a0 1431655765) (shrI .u32 (bitsI .and .u32 a0 1431655765) 1)) 858993459) (shrI .u32 (bitsI .and .u32 (bitsI .or .u32 (bitsI .and .u32 a0 1431655765) (shrI .u32 (bitsI .and .u32 a0 1431655765) 1)) 858993459) 2)) 252645135) 4)) 16711935) 8)) 65535))), (23, .one (li .u32 (bitsI .and .u32 (bitsI .or .u32 (bitsI .and .u32 (bitsI .or .u32 (bitsI .and .u32 (bitsI .or .u32 (bitsI .and .u32 (bitsI .or .u32 (bitsI .and .u32 a0 1431655765) (shrI .u32 (bitsI .and .u32 a0 1431655765) 1)) 858993459) (shrI .u32 (bitsI .and .u32 (bitsI .or .u32 (bitsI .and .u32 a0 1431655765) (shrI .u32 (bitsI .and .u32 a0 1431655765) 1)) 858993459) 2)) 252645135) (shrI .u32 (bitsI .and .u32 (bitsI .or .u32 (bitsI .and .u32 (bitsI .or .u32 (bitsI .and .u32 a0 1431655765) (shrI .u32 (bitsI .and .u32 a0 1431655765) 1)) 858993459) (shrI .u32 (bitsI .and .u32 (bitsI .or .u32 (bitsI .and .u32 a0 1431655765) (shrI .u32 (bitsI .and .u32 a0 1431655765) 1)) 858993459) 2)) 252645135) 4)) 16711935) (shrI .u32 (bitsI .and .u32 (bitsI .or .u32 (bitsI .and .u32 (bitsI .or .u32 (bitsI .and .u32 (bitsI .or .u32 (bitsI .and .u32 a0 1431655765) (shrI .u32 (bitsI .and .u32 a0 1431655765) 1)) 858993459) (shrI .u32 (bitsI .and .u32 (bitsI .or .u32 (bitsI .and .u32 a0 1431655765) (shrI .u32 (bitsI .and .u32 a0 1431655765) 1)) 858993459) 2)) 252645135) (shrI .u32 (bitsI .and .u32 (bitsI .or .u32 (bitsI .and .u32 (bitsI .or .u32 (bitsI .and .u32 a0 1431655765) (shrI .u32 (bitsI .and .u32 a0 1431655765) 1)) 858993459) (shrI .u32 (bitsI .and .u32 (bitsI .or .u32 (bitsI .and .u32 a0 1431655765) (shrI .u32 (bitsI .and .u32 a0 1431655765) 1)) 858993459) 2)) 252645135) 4)) 16711935) 8)) 65535))), (22, .one (li .u32 65535)), (21, .one (.ptr 4 1)), (20, .one (li .u32 (bitsI .or .u32 (bitsI .and .u32 (bitsI .or .u32 (bitsI .and .u32 (bitsI .or .u32 (bitsI .and .u32 (bitsI .or .u32 (bitsI .and .u32 a0 1431655765) (shrI .u32 (bitsI .and .u32 a0 1431655765) 1)) 858993459) (shrI .u32 (bitsI .and .u32 (bitsI .or .u32 (bitsI .and .u32 a0 1431655765) (shrI .u32 (bitsI .and .u32 a0 1431655765) 1)) 858993459) 2)) 252645135) (shrI .u32 (bitsI .and .u32 (bitsI .or .u32 (bitsI .and .u32 (bitsI .or .u32 (bitsI .and .u32 a0 1431655765) (shrI .u32 (bitsI .and .u32 a0 1431655765) 1)) 858993459) (shrI .u32 (bitsI .and .u32 (bitsI .or .u32 (bitsI .and .u32 a0 1431655765) (shrI .u32 (bitsI .and .u32 a0 1431655765) 1)) 858993459) 2)) 252645135) 4)) 16711935) (shrI .u32 (bitsI .and .u32 (bitsI .or .u32 (bitsI .and .u32 (bitsI .or .u32 (bitsI .and .u32 (bitsI .or .u32 (bitsI .and .u32 a0 1431655765) (shrI .u32 (bitsI .and .u32 a0 1431655765) 1)) 858993459) (shrI .u32 (bitsI .and .u32 (bitsI .or .u32 (bitsI .and .u32 a0 1431655765) (shrI .u32 (bitsI .and .u32 a0 1431655765) 1)) 858993459) 2)) 252645135) (shrI .u32 (bitsI .and .u32 (bitsI .or .u32 (bitsI .and .u32 (bitsI .or .u32 (bitsI .and .u32 a0 1431655765) (shrI .u32 (bitsI .and .u32 a0 1431655765) 1)) 858993459) (shrI .u32 (bitsI .and .u32 (bitsI .or .u32 (bitsI .and .u32 a0 1431655765) (shrI .u32 (bitsI .and .u32 a0 1431655765) 1)) 858993459) 2)) 252645135) 4)) 16711935) 8)))), (19, .one (li .u32 (shrI .u32 (bitsI .and .u32 (bitsI .or .u32 (bitsI .and .u32 (bitsI .or .u32 (bitsI .and .u32 (bitsI .or .u32 (bitsI .and .u32 a0 1431655765) (shrI .u32 (bitsI .and .u32 a0 1431655765) 1)) 858993459) (shrI .u32 (bitsI .and .u32 (bitsI .or .u32 (bitsI .and .u32 a0 1431655765) (shrI .u32 (bitsI .and .u32 a0 1431655765) 1)) 858993459) 2)) 252645135) (shrI .u32 (bitsI .and .u32 (bitsI .or .u32 (bitsI .and .u32 (bitsI .or .u32 (bitsI .and .u32 a0 1431655765) (shrI .u32 (bitsI .and .u32 a0 1431655765) 1)) 858993459) (shrI .u32 (bitsI .and .u32 (bitsI .or .u32 (bitsI .and .u32 a0 1431655765) (shrI .u32 (bitsI .and .u32 a0 1431655765) 1)) 858993459) 2)) 252645135) 4)) 16711935) 8))), (18, .one (li .u64 8)), (17, .one (.ptr 4 0)), (16, .one (li .u32 (bitsI .and .u32 (bitsI .or .u32 (bitsI .and .u32 (bitsI .or .u32 (bitsI .and .u32 (bitsI .or .u32 (bitsI .and .u32 a0 1431655765) (shrI .u32 (bitsI .and .u32 a0 1431655765) 1)) 858993459) (shrI .u32 (bitsI .and .u32 (bitsI .or .u32 (bitsI .and .u32 a0 1431655765) (shrI .u32 (bitsI .and .u32 a0 1431655765) 1)) 858993459) 2)) 252645135) (shrI .u32 (bitsI .and .u32 (bitsI .or .u32 (bitsI .and .u32 (bitsI .or .u32 (bitsI .and .u32 a0 1431655765) (shrI .u32 (bitsI .and .u32 a0 1431655765) 1)) 858993459) (shrI .u32 (bitsI .and .u32 (bitsI .or .u32 (bitsI .and .u32 a0 1431655765) (shrI .u32 (bitsI .and .u32 a0 1431655765) 1)) 858993459) 2)) 252645135) 4)) 16711935))), (15, .one (li .u32 (bitsI .and .u32 (bitsI .or .u32 (bitsI .and .u32 (bitsI .or .u32 (bitsI .and .u32 (bitsI .or .u32 (bitsI .and .u32 a0 1431655765) (shrI .u32 (bitsI .and .u32 a0 1431655765) 1)) 858993459) (shrI .u32 (bitsI .and .u32 (bitsI .or .u32 (bitsI .and .u32 a0 1431655765) (shrI .u32 (bitsI .and .u32 a0 1431655765) 1)) 858993459) 2)) 252645135) (shrI .u32 (bitsI .and .u32 (bitsI .or .u32 (bitsI .and .u32 (bitsI .or .u32 (bitsI .and .u32 a0 1431655765) (shrI .u32 (bitsI .and .u32 a0 1431655765) 1)) 858993459) (shrI .u32 (bitsI .and .u32 (bitsI .or .u32 (bitsI .and .u32 a0 1431655765) (shrI .u32 (bitsI .and .u32 a0 1431655765) 1)) 858993459) 2)) 252645135) 4)) 16711935)))] [] (by kernel_rfl) ?_
  refine SimI.done (by kernel_rfl) ?_
  refine SimE.blockN ?_
  refine SimE.thenN ?_
  refine Sim.region0 ?_
  refine SimI.run 2 [(12, .one (li .i64 4)), (24, .one (li .i64 4))] [] (by kernel_rfl) ?_
  refine SimI.done (by kernel_rfl) ?_
  refine SimE.loopN ?_
  refine SimL.succ ?_
  refine Sim.seq ?_
  refine Sim.region [(0, .one (li .u32 (bitsI .and .u32 (bitsI .or .u32 (bitsI .and .u32 (bitsI .or .u32 (bitsI .and .u32 (bitsI .or .u32 (bitsI .and .u32 (bitsI .or .u32 (bitsI .and .u32 a0 1431655765) (shrI .u32 (bitsI .and .u32 a0 1431655765) 1)) 858993459) (shrI .u32 (bitsI .and .u32 (bitsI .or .u32 (bitsI .and .u32 a0 1431655765) (shrI .u32 (bitsI .and .u32 a0 1431655765) 1)) 858993459) 2)) 252645135) (shrI .u32 (bitsI .and .u32 (bitsI .or .u32 (bitsI .and .u32 (bitsI .or .u32 (bitsI .and .u32 a0 1431655765) (shrI .u32 (bitsI .and .u32 a0 1431655765) 1)) 858993459) (shrI .u32 (bitsI .and .u32 (bitsI .or .u32 (bitsI .and .u32 a0 1431655765) (shrI .u32 (bitsI .and .u32 a0 1431655765) 1)) 858993459) 2)) 252645135) 4)) 16711935) (shrI .u32 (bitsI .and .u32 (bitsI .or .u32 (bitsI .and .u32 (bitsI .or .u32 (bitsI .and .u32 (bitsI .or .u32 (bitsI .and .u32 a0 1431655765) (shrI .u32 (bitsI .and .u32 a0 1431655765) 1)) 858993459) (shrI .u32 (bitsI .and .u32 (bitsI .or .u32 (bitsI .and .u32 a0 1431655765) (shrI .u32 (bitsI .and .u32 a0 1431655765) 1)) 858993459) 2)) 252645135) (shrI .u32 (bitsI .and .u32 (bitsI .or .u32 (bitsI .and .u32 (bitsI .or .u32 (bitsI .and .u32 a0 1431655765) (shrI .u32 (bitsI .and .u32 a0 1431655765) 1)) 858993459) (shrI .u32 (bitsI .and .u32 (bitsI .or .u32 (bitsI .and .u32 a0 1431655765) (shrI .u32 (bitsI .and .u32 a0 1431655765) 1)) 858993459) 2)) 252645135) 4)) 16711935) 8)) 65535))), (11, .agg [li .u64 1, li .u32 858993459, li .u64 2, li .u32 252645135, li .u64 4, li .u32 16711935, li .u64 8, li .u32 65535]), (12, .one (li .i64 4))] [] (by kernel_rfl) ?_
  refine SimI.run 1 [(13, .one (lb false))] [] (by kernel_rfl) ?_
  refine SimI.done (by kernel_rfl) ?_
  refine SimE.thenN ?_
  refine Sim.seq ?_
  refine Sim.condF (by kernel_rfl) ?_
  refine Sim.exit ?_
  refine SimE.thenX ?_
  refine SimE.loopX ?_
  refine SimE.blockX ?_
  refine SimE.thenN ?_
  refine Sim.seq ?_
  refine Sim.region0 ?_
  refine SimI.run 2 [(2, .one (li .u32 (bitsI .and .u32 (bitsI .or .u32 (bitsI .and .u32 (bitsI .or .u32 (bitsI .and .u32 (bitsI .or .u32 (bitsI .and .u32 (bitsI .or .u32 (bitsI .and .u32 a0 1431655765) (shrI .u32 (bitsI .and .u32 a0 1431655765) 1)) 858993459) (shrI .u32 (bitsI .and .u32 (bitsI .or .u32 (bitsI .and .u32 a0 1431655765) (shrI .u32 (bitsI .and .u32 a0 1431655765) 1)) 858993459) 2)) 252645135) (shrI .u32 (bitsI .and .u32 (bitsI .or .u32 (bitsI .and .u32 (bitsI .or .u32 (bitsI .and .u32 a0 1431655765) (shrI .u32 (bitsI .and .u32 a0 1431655765) 1)) 858993459) (shrI .u32 (bitsI .and .u32 (bitsI .or .u32 (bitsI .and .u32 a0 1431655765) (shrI .u32 (bitsI .and .u32 a0 1431655765) 1)) 858993459) 2)) 252645135) 4)) 16711935) (shrI .u32 (bitsI .and .u32 (bitsI .or .u32 (bitsI .and .u32 (bitsI .or .u32 (bitsI .and .u32 (bitsI .or .u32 (bitsI .and .u32 a0 1431655765) (shrI .u32 (bitsI .and .u32 a0 1431655765) 1)) 858993459) (shrI .u32 (bitsI .and .u32 (bitsI .or .u32 (bitsI .and .u32 a0 1431655765) (shrI .u32 (bitsI .and .u32 a0 1431655765) 1)) 858993459) 2)) 252645135) (shrI .u32 (bitsI .and .u32 (bitsI .or .u32 (bitsI .and .u32 (bitsI .or .u32 (bitsI .and .u32 a0 1431655765) (shrI .u32 (bitsI .and .u32 a0 1431655765) 1)) 858993459) (shrI .u32 (bitsI .and .u32 (bitsI .or .u32 (bitsI .and .u32 a0 1431655765) (shrI .u32 (bitsI .and .u32 a0 1431655765) 1)) 858993459) 2)) 252645135) 4)) 16711935) 8)) 65535))), (25, .one (li .u32 (bitsI .and .u32 (bitsI .or .u32 (bitsI .and .u32 (bitsI .or .u32 (bitsI .and .u32 (bitsI .or .u32 (bitsI .and .u32 (bitsI .or .u32 (bitsI .and .u32 a0 1431655765) (shrI .u32 (bitsI .and .u32 a0 1431655765) 1)) 858993459) (shrI .u32 (bitsI .and .u32 (bitsI .or .u32 (bitsI .and .u32 a0 1431655765) (shrI .u32 (bitsI .and .u32 a0 1431655765) 1)) 858993459) 2)) 252645135) (shrI .u32 (bitsI .and .u32 (bitsI .or .u32 (bitsI .and .u32 (bitsI .or .u32 (bitsI .and .u32 a0 1431655765) (shrI .u32 (bitsI .and .u32 a0 1431655765) 1)) 858993459) (shrI .u32 (bitsI .and .u32 (bitsI .or .u32 (bitsI .and .u32 a0 1431655765) (shrI .u32 (bitsI .and .u32 a0 1431655765) 1)) 858993459) 2)) 252645135) 4)) 16711935) (shrI .u32 (bitsI .and .u32 (bitsI .or .u32 (bitsI .and .u32 (bitsI .or .u32 (bitsI .and .u32 (bitsI .or .u32 (bitsI .and .u32 a0 1431655765) (shrI .u32 (bitsI .and .u32 a0 1431655765) 1)) 858993459) (shrI .u32 (bitsI .and .u32 (bitsI .or .u32 (bitsI .and .u32 a0 1431655765) (shrI .u32 (bitsI .and .u32 a0 1431655765) 1)) 858993459) 2)) 252645135) (shrI .u32 (bitsI .and .u32 (bitsI .or .u32 (bitsI .and .u32 (bitsI .or .u32 (bitsI .and .u32 a0 1431655765) (shrI .u32 (bitsI .and .u32 a0 1431655765) 1)) 858993459) (shrI .u32 (bitsI .and .u32 (bitsI .or .u32 (bitsI .and .u32 a0 1431655765) (shrI .u32 (bitsI .and .u32 a0 1431655765) 1)) 858993459) 2)) 252645135) 4)) 16711935) 8)) 65535)))] [] (by kernel_rfl) ?_
  refine SimI.done (by kernel_rfl) ?_
  refine SimE.thenN ?_
  refine Sim.ret ?_
  exact SimE.fin (by kernel_rfl)


-- 72: vedette/morton.Split
def F72_e : (Int × Int) → PV × List (List Lf) := fun r => (.tup [.one (li .u16 r.1), .one (li .u16 r.2)], [])
def F72 (n : Nat) (a0 : Int) : Option (Int × Int) :=
  (F82 n a0).bind fun (r1 : Int) =>
  (F82 n (shrI .u32 a0 1)).bind fun (r2 : Int) =>
  some (IntKind.wrap .u16 r1, IntKind.wrap .u16 r2)
theorem F72_ok (n : Nat) (a0 : Int) : ∀ r, F72 n a0 = some r → D 72 [.one (li .u32 a0)] [] = some (F72_e r) := by
  refine fn_to (D := D) (n := n + 8) (nt := 11) (rs := pc72_r) (c := pc72_c5) (L := [(0, .one (li .u32 a0))]) (M := []) (k := 0) rfl rfl rfl rfl rfl rfl ?_
  unfold F72
  refine Sim.seq ?_
  refine Sim.region0 ?_
  refine SimI.run 2 [(3, .one (li .u16 0)), (2, .one (li .u16 0))] [] (by kernel_rfl) ?_
  refine SimI.done (by kernel_rfl) ?_
  refine SimE.thenN ?_
  refine Sim.seq ?_
  refine Sim.region0 ?_
  refine SimI.run 1 [(4, .one (li .u32 a0))] [] (by kernel_rfl) ?_
  refine SimI.bind (og := F82 n a0) { dst := some 5, op := POp.call true [[]] 82 [Operand.tmp 4], guard := none, hints := [] } (fun r1 => [(5, .one (li .u32 r1))]) (fun r1 => []) (by kernel_rfl) (fun r1 hr => pOp_eff (by kernel_rfl) (by kernel_rfl) (eff_call (ARGS := [.one (li .u32 a0)]) (by kernel_rfl) (args_clean (by kernel_rfl) args_nil) (F82_ok n a0 r1 hr) (by kernel_rfl))) (fun r1 => ?_)
  refine SimI.run 3 [(8, .one (li .u32 (shrI .u32 a0 1))), (7, .one (li .u32 a0)), (6, .one (li .u16 (IntKind.wrap .u16 r1)))] [] (by kernel_rfl) ?_
  refine SimI.bind (og := F82 n (shrI .u32 a0 1)) { dst := some 9, op := POp.call true [[]] 82 [Operand.tmp 8], guard := none, hints := [] } (fun r2 => [(9, .one (li .u32 r2))]) (fun r2 => []) (by kernel_rfl) (fun r2 hr => pOp_eff (by kernel_rfl) (by kernel_rfl) (eff_call (ARGS := [.one (li .u32 (shrI .u32 a0 1))]) (by kernel_rfl) (args_clean (by kernel_rfl) args_nil) (F82_ok n (shrI .u32 a0 1) r2 hr) (by kernel_rfl))) (fun r2 => ?_)
  refine SimI.run 3 [(3, .one (li .u16 (IntKind.wrap .u16 r2))), (2, .one (li .u16 (IntKind.wrap .u16 r1))), (10, .one (li .u16 (IntKind.wrap .u16 r2)))] [] (by kernel_rfl) ?_
  refine SimI.done (by kernel_rfl) ?_
  refine SimE.thenN ?_
  refine Sim.ret ?_
  exact SimE.fin (by kernel_rfl)


-- 56: vedette/cells.place
def F56_e : (Int × Int) → PV × List (List Lf) := fun r => (.tup [.one (li .i64 r.1), .one (li .i64 r.2)], [])
def F56 (n : Nat) (a0 : Int) : Option (Int × Int) :=
  (F72 n (IntKind.wrap .u32 a0)).bind fun (r1 : (Int × Int)) =>
  some (IntKind.wrap .i64 r1.1, IntKind.wrap .i64 r1.2)
theorem F56_ok (n : Nat) (a0 : Int) : ∀ r, F56 n a0 = some r → D 56 [.one (li .i64 a0)] [] = some (F56_e r) := by
  refine fn_to (D := D) (n := n + 8) (nt := 16) (rs := pc56_r) (c := pc56_c7) (L := [(0, .one (li .i64 a0))]) (M := []) (k := 0) rfl rfl rfl rfl rfl rfl ?_
  unfold F56
  refine Sim.seq ?_
  refine Sim.region0 ?_
  refine SimI.run 2 [(3, .one (li .i64 0)), (2, .one (li .i64 0))] [] (by kernel_rfl) ?_
  refine SimI.done (by kernel_rfl) ?_
  refine SimE.thenN ?_
  refine Sim.seq ?_
  refine Sim.region0 ?_
  refine SimI.run 2 [(8, .one (li .u32 (IntKind.wrap .u32 a0))), (7, .one (li .i64 a0))] [] (by kernel_rfl) ?_
  refine SimI.bind (og := F72 n (IntKind.wrap .u32 a0)) { dst := some 9, op := POp.call true [[]] 72 [Operand.tmp 8], guard := none, hints := [] } (fun r1 => [(9, .tup [.one (li .u16 r1.1), .one (li .u16 r1.2)])]) (fun r1 => []) (by kernel_rfl) (fun r1 hr => pOp_eff (by kernel_rfl) (by kernel_rfl) (eff_call (ARGS := [.one (li .u32 (IntKind.wrap .u32 a0))]) (by kernel_rfl) (args_clean (by kernel_rfl) args_nil) (F72_ok n (IntKind.wrap .u32 a0) r1 hr) (by kernel_rfl))) (fun r1 => ?_)
  refine SimI.run 5 [(5, .one (li .u16 r1.2)), (4, .one (li .u16 r1.1)), (11, .one (li .u16 r1.2)), (10, .one (li .u16 r1.1)), (6, .tup [.one (li .u16 r1.1), .one (li .u16 r1.2)])] [] (by kernel_rfl) ?_
  refine SimI.done (by kernel_rfl) ?_
  refine SimE.thenN ?_
  refine Sim.seq ?_
  refine Sim.region0 ?_
  refine SimI.run 6 [(3, .one (li .i64 (IntKind.wrap .i64 r1.2))), (2, .one (li .i64 (IntKind.wrap .i64 r1.1))), (15, .one (li .i64 (IntKind.wrap .i64 r1.2))), (14, .one (li .u16 r1.2)), (13, .one (li .i64 (IntKind.wrap .i64 r1.1))), (12, .one (li .u16 r1.1))] [] (by kernel_rfl) ?_
  refine SimI.done (by kernel_rfl) ?_
  refine SimE.thenN ?_
  refine Sim.ret ?_
  exact SimE.fin (by kernel_rfl)


-- 27: vedette/cells.Rect
def F27_e : (Rect × Bool) → PV × List (List Lf) := fun r => (.tup [.agg [li .i64 r.1.X0, li .i64 r.1.Y0, li .i64 r.1.X1, li .i64 r.1.Y1], .one (lb r.2)], [])
def F27 (n : Nat) (a0 : Int) : Option (Rect × Bool) :=
  (F31 n a0).bind fun (r1 : Bool) =>
  if !(r1) then
    some ((Rect.mk 0 0 0 0), false)
  else
    (F56 n a0).bind fun (r2 : (Int × Int)) =>
    some ((Rect.mk (IntKind.wrap .i64 (r2.1 * 16)) (IntKind.wrap .i64 (r2.2 * 16)) (IntKind.wrap .i64 (IntKind.wrap .i64 (r2.1 + 1) * 16)) (IntKind.wrap .i64 (IntKind.wrap .i64 (r2.2 + 1) * 16))), true)
theorem F27_ok (n : Nat) (a0 : Int) : ∀ r, F27 n a0 = some r → D 27 [.one (li .i64 a0)] [] = some (F27_e r) := by
  refine fn_to (D := D) (n := n + 8) (nt := 26) (rs := pc27_r) (c := pc27_c15) (L := [(0, .one (li .i64 a0))]) (M := []) (k := 0) rfl rfl rfl rfl rfl rfl ?_
  unfold F27
  refine Sim.seq ?_
  refine Sim.region0 ?_
  refine SimI.run 2 [(3, .one (lb false)), (2, .one (.ptr 2 0))] [(2, some (.cells [li .i64 0, li .i64 0, li .i64 0, li .i64 0]))] (by kernel_rfl) ?_
  refine SimI.done (by kernel_rfl) ?_
  refine SimE.thenN ?_
  refine Sim.seq ?_
  refine Sim.seq ?_
  refine Sim.region0 ?_
  refine SimI.run 1 [(6, .one (li .i64 a0))] [] (by kernel_rfl) ?_
  refine SimI.bind (og := F31 n a0) { dst := some 7, op := POp.call true [[]] 31 [Operand.tmp 6], guard := none, hints := [] } (fun r1 => [(7, .one (lb r1))]) (fun r1 => []) (by kernel_rfl) (fun r1 hr => pOp_eff (by kernel_rfl) (by kernel_rfl) (eff_call (ARGS := [.one (li .i64 a0)]) (by kernel_rfl) (args_clean (by kernel_rfl) args_nil) (F31_ok n a0 r1 hr) (by kernel_rfl))) (fun r1 => ?_)
  refine SimI.run 1 [(8, .one (lb (!(r1))))] [] (by kernel_rfl) ?_
  refine SimI.done (by kernel_rfl) ?_
  refine SimE.thenN ?_
  refine Sim.cond (!(r1)) (by kernel_rfl) ?_ ?_
  · refine Sim.seq ?_
    refine Sim.region0 ?_
    refine SimI.run 3 [(3, .one (lb false)), (9, .agg [li .i64 0, li .i64 0, li .i64 0, li .i64 0])] [(2, some (.cells [li .i64 0, li .i64 0, li .i64 0, li .i64 0]))] (by kernel_rfl) ?_
    refine SimI.done (by kernel_rfl) ?_
    refine SimE.thenN ?_
    refine Sim.ret ?_
    refine SimE.thenR ?_
    exact SimE.fin (by kernel_rfl)
  · refine Sim.skip ?_
    refine SimE.thenN ?_
    refine Sim.seq ?_
    refine Sim.region0 ?_
    refine SimI.run 1 [(11, .one (li .i64 a0))] [] (by kernel_rfl) ?_
    refine SimI.bind (og := F56 n a0) { dst := some 12, op := POp.call true [[]] 56 [Operand.tmp 11], guard := none, hints := [] } (fun r2 => [(12, .tup [.one (li .i64 r2.1), .one (li .i64 r2.2)])]) (fun r2 => []) (by kernel_rfl) (fun r2 hr => pOp_eff (by kernel_rfl) (by kernel_rfl) (eff_call (ARGS := [.one (li .i64 a0)]) (by kernel_rfl) (args_clean (by kernel_rfl) args_nil) (F56_ok n a0 r2 hr) (by kernel_rfl))) (fun r2 => ?_)
    refine SimI.run 5 [(5, .one (li .i64 r2.2)), (4, .one (li .i64 r2.1)), (14, .one (li .i64 r2.2)), (13, .one (li .i64 r2.1)), (10, .tup [.one (li .i64 r2.1), .one (li .i64 r2.2)])] [] (by kernel_rfl) ?_
    refine SimI.done (by kernel_rfl) ?_
    refine SimE.thenN ?_
    refine Sim.seq ?_
    refine Sim.region0 ?_
    refine SimI.run 13 [(3, .one (lb true)), (25, .agg [li .i64 (IntKind.wrap .i64 (r2.1 * 16)), li .i64 (IntKind.wrap .i64 (r2.2 * 16)), li .i64 (IntKind.wrap .i64 (IntKind.wrap .i64 (r2.1 + 1) * 16)), li .i64 (IntKind.wrap .i64 (IntKind.wrap .i64 (r2.2 + 1) * 16))]), (24, .one (li .i64 (IntKind.wrap .i64 (IntKind.wrap .i64 (r2.2 + 1) * 16)))), (23, .one (li .i64 (IntKind.wrap .i64 (r2.2 + 1)))), (22, .one (li .i64 r2.2)), (21, .one (li .i64 (IntKind.wrap .i64 (IntKind.wrap .i64 (r2.1 + 1) * 16)))), (20, .one (li .i64 (IntKind.wrap .i64 (r2.1 + 1)))), (19, .one (li .i64 r2.1)), (18, .one (li .i64 (IntKind.wrap .i64 (r2.2 * 16)))), (17, .one (li .i64 r2.2)), (16, .one (li .i64 (IntKind.wrap .i64 (r2.1 * 16)))), (15, .one (li .i64 r2.1))] [(2, some (.cells [li .i64 (IntKind.wrap .i64 (r2.1 * 16)), li .i64 (IntKind.wrap .i64 (r2.2 * 16)), li .i64 (IntKind.wrap .i64 (IntKind.wrap .i64 (r2.1 + 1) * 16)), li .i64 (IntKind.wrap .i64 (IntKind.wrap .i64 (r2.2 + 1) * 16))]))] (by kernel_rfl) ?_
    refine SimI.done (by kernel_rfl) ?_
    refine SimE.thenN ?_
    refine Sim.ret ?_
    exact SimE.fin (by kernel_rfl)


-- 58: vedette/geom.Empty
def F58_e : Bool → PV × List (List Lf) := fun r => (.one (lb r), [])
def F58 (n : Nat) (a0 : Rect) : Option Bool :=
  if decide (a0.X1 ≤ a0.X0) then
    some true
  else
    some (decide (a0.Y1 ≤ a0.Y0))
theorem F58_ok (n : Nat) (a0 : Rect) : ∀ r, F58 n a0 = some r → D 58 [.agg [li .i64 a0.X0, li .i64 a0.Y0, li .i64 a0.X1, li .i64 a0.Y1]] [] = some (F58_e r) := by
  refine fn_to (D := D) (n := n + 8) (nt := 15) (rs := pc58_r) (c := pc58_c5) (L := [(0, .agg [li .i64 a0.X0, li .i64 a0.Y0, li .i64 a0.X1, li .i64 a0.Y1])]) (M := []) (k := 0) rfl rfl rfl rfl rfl rfl ?_
  unfold F58
  refine Sim.seq ?_
  refine Sim.region0 ?_
  refine SimI.run 2 [(2, .one (lb false)), (1, .one (.ptr 1 0))] [(1, some (.cells [li .i64 a0.X0, li .i64 a0.Y0, li .i64 a0.X1, li .i64 a0.Y1]))] (by kernel_rfl) ?_
  refine SimI.done (by kernel_rfl) ?_
  refine SimE.thenN ?_
  refine Sim.seq ?_
  refine Sim.region0 ?_
  refine SimI.run 6 [(8, .one (lb (decide (a0.X1 ≤ a0.X0)))), (7, .one (lb (decide (a0.X1 ≤ a0.X0)))), (6, .one (li .i64 a0.X1)), (5, .one (.ptr 1 2)), (4, .one (li .i64 a0.X0)), (3, .one (.ptr 1 0))] [] (by kernel_rfl) ?_
  refine SimI.split 8 (decide (a0.X1 ≤ a0.X0)) (by kernel_rfl) ?_ ?_
  · refine SimI.run 7 [(2, .one (lb true)), (14, .one (lb true)), (13, .tup []), (12, .tup []), (11, .tup []), (10, .tup []), (9, .tup [])] [] (by kernel_rfl) ?_
    refine SimI.done (by kernel_rfl) ?_
    refine SimE.thenN ?_
    refine Sim.ret ?_
    exact SimE.fin (by kernel_rfl)
  · refine SimI.run 7 [(2, .one (lb (decide (a0.Y1 ≤ a0.Y0)))), (14, .one (lb (decide (a0.Y1 ≤ a0.Y0)))), (13, .one (lb (decide (a0.Y1 ≤ a0.Y0)))), (12, .one (li .i64 a0.Y1)), (11, .one (.ptr 1 3)), (10, .one (li .i64 a0.Y0)), (9, .one (.ptr 1 1))] [] (by kernel_rfl) ?_
    refine SimI.done (by kernel_rfl) ?_
    refine SimE.thenN ?_
    refine Sim.ret ?_
    exact SimE.fin (by kernel_rfl)


-- 29: vedette/cells.Cover
def F29_e : (List Int) → PV × List (List Lf) := fun r => (.one (vw (codI .i64) r), [])
def F29_l10 (n : Nat) (a0 : Rect) : Nat → (List Int) → Int → Option (List Int)
  | 0, _, _ => none
  | m + 1, l7, i9 =>
    if decide (i9 < 16) then
      (F27 n i9).bind fun (r11 : (Rect × Bool)) =>
      if decide (a0.X1 ≤ r11.1.X0) then
        (F29_l10 n a0 m) l7 (IntKind.wrap .i64 (i9 + 1))
      else
        (F58 n a0).bind fun (r12 : Bool) =>
        if r12 then
          (F29_l10 n a0 m) l7 (IntKind.wrap .i64 (i9 + 1))
        else
          if decide (r11.1.X1 ≤ a0.X0) then
            (F29_l10 n a0 m) l7 (IntKind.wrap .i64 (i9 + 1))
          else
            (F58 n a0).bind fun (r13 : Bool) =>
            if r13 then
              (F29_l10 n a0 m) l7 (IntKind.wrap .i64 (i9 + 1))
            else
              if decide (a0.Y1 ≤ r11.1.Y0) then
                (F29_l10 n a0 m) l7 (IntKind.wrap .i64 (i9 + 1))
              else
                (F58 n a0).bind fun (r14 : Bool) =>
                if r14 then
                  (F29_l10 n a0 m) l7 (IntKind.wrap .i64 (i9 + 1))
                else
                  if decide (r11.1.Y1 ≤ a0.Y0) then
                    (F29_l10 n a0 m) l7 (IntKind.wrap .i64 (i9 + 1))
                  else
                    (F58 n a0).bind fun (r15 : Bool) =>
                    if r15 then
                      (F29_l10 n a0 m) l7 (IntKind.wrap .i64 (i9 + 1))
                    else
                      if ((l7).length + 1) * 8 ≤ maxCells ∧ (l7).length + 1 ≤ maxCells then
                        (F29_l10 n a0 m) (l7 ++ [i9]) (IntKind.wrap .i64 (i9 + 1))
                      else none
    else
      some l7
theorem F29_l10_ok (n : Nat) (a0 : Rect) : ∀ (m : Nat) (l7 : (List Int)) (i9 : Int) (g8 : Nat), SimL Try.prog D (n + 8) m pc29_c39 [(1, .one (.ptr 1 0)), (3, .one (ownL 100003 g8 l7)), (9, .one (li .i64 i9))] ((1, some (.cells [li .i64 a0.X0, li .i64 a0.Y0, li .i64 a0.X1, li .i64 a0.Y1])) :: (ownM (codI .i64) 3 100003 g8 l7 [])) (F29_l10 n a0 m l7 i9) (QB 0 (QT Try.prog D (n + 8) pc29_c45 (QF pc29_r 0 F29_e))) := by
  intro m_l10
  induction m_l10 with
  | zero => intro l7 i9 g8; exact SimL.zero'  rfl
  | succ m_l10 ih_l10 =>
    intro l7 i9 g8
    cases l7 with
    | nil =>
      refine SimL.succ ?_
      unfold F29_l10
      refine Sim.seq ?_
      refine Sim.region [(1, .one (.ptr 1 0)), (3, .one (lnil)), (9, .one (li .i64 i9))] ((1, some (.cells [li .i64 a0.X0, li .i64 a0.Y0, li .i64 a0.X1, li .i64 a0.Y1])) :: []) (by kernel_rfl) ?_
      refine SimI.run 1 [(10, .one (lb (decide (i9 < 16))))] [] (by kernel_rfl) ?_
      refine SimI.done (by kernel_rfl) ?_
      refine SimE.thenN ?_
      refine Sim.seq ?_
      refine Sim.cond (decide (i9 < 16)) (by kernel_rfl) ?_ ?_
      · refine Sim.skip ?_
        refine SimE.thenN ?_
        refine Sim.seq ?_
        refine Sim.block ?_
        refine Sim.seq ?_
        refine Sim.region0 ?_
        refine SimI.run 2 [(4, .one (li .i64 i9)), (11, .one (li .i64 i9))] [] (by kernel_rfl) ?_
        refine SimI.done (by kernel_rfl) ?_
        refine SimE.thenN ?_
        refine Sim.seq ?_
        refine Sim.region0 ?_
        refine SimI.run 1 [(13, .one (li .i64 i9))] [] (by kernel_rfl) ?_
        refine SimI.bind (og := F27 n i9) { dst := some 14, op := POp.call true [[]] 27 [Operand.tmp 13], guard := none, hints := [] } (fun r11 => [(14, .tup [.agg [li .i64 r11.1.X0, li .i64 r11.1.Y0, li .i64 r11.1.X1, li .i64 r11.1.Y1], .one (lb r11.2)])]) (fun r11 => []) (by kernel_rfl) (fun r11 hr => pOp_eff (by kernel_rfl) (by kernel_rfl) (eff_call (ARGS := [.one (li .i64 i9)]) (by kernel_rfl) (args_clean (by kernel_rfl) args_nil) (F27_ok n i9 r11 hr) (by kernel_rfl))) (fun r11 => ?_)
        refine SimI.run 6 [(6, .one (lb r11.2)), (5, .one (.ptr 5 0)), (16, .one (lb r11.2)), (15, .agg [li .i64 r11.1.X0, li .i64 r11.1.Y0, li .i64 r11.1.X1, li .i64 r11.1.Y1]), (12, .tup [.agg [li .i64 r11.1.X0, li .i64 r11.1.Y0, li .i64 r11.1.X1, li .i64 r11.1.Y1], .one (lb r11.2)])] [(5, some (.cells [li .i64 r11.1.X0, li .i64 r11.1.Y0, li .i64 r11.1.X1, li .i64 r11.1.Y1])), (5, some (.cells [li .i64 0, li .i64 0, li .i64 0, li .i64 0]))] (by kernel_rfl) ?_
        refine SimI.done (by kernel_rfl) ?_
        refine SimE.thenN ?_
        refine Sim.seq ?_
        refine Sim.seq ?_
        refine Sim.region0 ?_
        refine SimI.run 22 [(38, .one (li .i64 0)), (37, .agg [lb (decide (a0.X1 ≤ r11.1.X0)), lb (decide (r11.1.X1 ≤ a0.X0)), lb (decide (a0.Y1 ≤ r11.1.Y0)), lb (decide (r11.1.Y1 ≤ a0.Y0))]), (36, .one (lb (decide (r11.1.Y1 ≤ a0.Y0)))), (35, .one (li .i64 a0.Y0)), (34, .one (.ptr 1 1)), (33, .one (li .i64 r11.1.Y1)), (32, .one (.ptr 5 3)), (31, .one (lb (decide (a0.Y1 ≤ r11.1.Y0)))), (30, .one (li .i64 a0.Y1)), (29, .one (.ptr 1 3)), (28, .one (li .i64 r11.1.Y0)), (27, .one (.ptr 5 1)), (26, .one (lb (decide (r11.1.X1 ≤ a0.X0)))), (25, .one (li .i64 a0.X0)), (24, .one (.ptr 1 0)), (23, .one (li .i64 r11.1.X1)), (22, .one (.ptr 5 2)), (21, .one (lb (decide (a0.X1 ≤ r11.1.X0)))), (20, .one (li .i64 a0.X1)), (19, .one (.ptr 1 2)), (18, .one (li .i64 r11.1.X0)), (17, .one (.ptr 5 0))] [] (by kernel_rfl) ?_
        refine SimI.done (by kernel_rfl) ?_
        refine SimE.thenN ?_
        refine Sim.block ?_
        refine Sim.loop ?_
        refine SimL.succ ?_
        refine Sim.seq ?_
        refine Sim.region [(1, .one (.ptr 1 0)), (3, .one (lnil)), (4, .one (li .i64 i9)), (9, .one (li .i64 i9)), (37, .agg [lb (decide (a0.X1 ≤ r11.1.X0)), lb (decide (r11.1.X1 ≤ a0.X0)), lb (decide (a0.Y1 ≤ r11.1.Y0)), lb (decide (r11.1.Y1 ≤ a0.Y0))]), (38, .one (li .i64 0))] ((1, some (.cells [li .i64 a0.X0, li .i64 a0.Y0, li .i64 a0.X1, li .i64 a0.Y1])) :: []) (by kernel_rfl) ?_
        refine SimI.run 1 [(39, .one (lb true))] [] (by kernel_rfl) ?_
        refine SimI.done (by kernel_rfl) ?_
        refine SimE.thenN ?_
        refine Sim.seq ?_
        refine Sim.condT (by kernel_rfl) ?_
        refine Sim.skip ?_
        refine SimE.thenN ?_
        refine Sim.seq ?_
        refine Sim.block ?_
        refine Sim.seq ?_
        refine Sim.region0 ?_
        refine SimI.run 2 [(8, .one (lb (decide (a0.X1 ≤ r11.1.X0)))), (40, .one (lb (decide (a0.X1 ≤ r11.1.X0))))] [] (by kernel_rfl) ?_
        refine SimI.done (by kernel_rfl) ?_
        refine SimE.thenN ?_
        refine Sim.seq ?_
        refine Sim.region0 ?_
        refine SimI.run 2 [(42, .one (lb (decide (a0.X1 ≤ r11.1.X0)))), (41, .one (lb (decide (a0.X1 ≤ r11.1.X0))))] [] (by kernel_rfl) ?_
        refine SimI.split 42 (decide (a0.X1 ≤ r11.1.X0)) (by kernel_rfl) ?_ ?_
        · refine SimI.run 3 [(45, .one (lb true)), (44, .tup []), (43, .tup [])] [] (by kernel_rfl) ?_
          refine SimI.done (by kernel_rfl) ?_
          refine SimE.thenN ?_
          refine Sim.condT (by kernel_rfl) ?_
          refine Sim.exit ?_
          refine SimE.blockY rfl ?_
          refine SimE.thenX ?_
          refine SimE.loopX ?_
          refine SimE.blockY rfl ?_
          refine SimE.thenX ?_
          refine SimE.blockX ?_
          refine SimE.thenN ?_
          refine Sim.region0 ?_
          refine SimI.run 2 [(9, .one (li .i64 (IntKind.wrap .i64 (i9 + 1)))), (51, .one (li .i64 (IntKind.wrap .i64 (i9 + 1))))] [] (by kernel_rfl) ?_
          refine SimI.done (by kernel_rfl) ?_
          refine SimE.loopN ?_
          refine SimL.pre (ts := [1, 3, 9]) (os := [1, 100003]) [(1, .one (.ptr 1 0)), (3, .one (ownL 100003 0 ([] : List Int))), (9, .one (li .i64 (IntKind.wrap .i64 (i9 + 1))))] ((1, some (.cells [li .i64 a0.X0, li .i64 a0.Y0, li .i64 a0.X1, li .i64 a0.Y1])) :: (ownM (codI .i64) 3 100003 0 ([] : List Int) [])) (by kernel_rfl) (by kernel_rfl) (by kernel_rfl) ?_
          exact ih_l10 ([] : List Int) (IntKind.wrap .i64 (i9 + 1)) 0
        · refine SimI.run 1 [(43, .agg [li .i64 a0.X0, li .i64 a0.Y0, li .i64 a0.X1, li .i64 a0.Y1])] [] (by kernel_rfl) ?_
          refine SimI.bind (og := F58 n a0) { dst := some 44, op := POp.call true [[]] 58 [Operand.tmp 43], guard := some (42, false), hints := [] } (fun r12 => [(44, .one (lb r12))]) (fun r12 => []) (by kernel_rfl) (fun r12 hr => pOp_eff (by kernel_rfl) (by kernel_rfl) (eff_call (ARGS := [.agg [li .i64 a0.X0, li .i64 a0.Y0, li .i64 a0.X1, li .i64 a0.Y1]]) (by kernel_rfl) (args_clean (by kernel_rfl) args_nil) (F58_ok n a0 r12 hr) (by kernel_rfl))) (fun r12 => ?_)
          refine SimI.run 1 [(45, .one (lb r12))] [] (by kernel_rfl) ?_
          refine SimI.done (by kernel_rfl) ?_
          refine SimE.thenN ?_
          refine Sim.cond r12 (by kernel_rfl) ?_ ?_
          · refine Sim.exit ?_
            refine SimE.blockY rfl ?_
            refine SimE.thenX ?_
            refine SimE.loopX ?_
            refine SimE.blockY rfl ?_
            refine SimE.thenX ?_
            refine SimE.blockX ?_
            refine SimE.thenN ?_
            refine Sim.region0 ?_
            refine SimI.run 2 [(9, .one (li .i64 (IntKind.wrap .i64 (i9 + 1)))), (51, .one (li .i64 (IntKind.wrap .i64 (i9 + 1))))] [] (by kernel_rfl) ?_
            refine SimI.done (by kernel_rfl) ?_
            refine SimE.loopN ?_
            refine SimL.pre (ts := [1, 3, 9]) (os := [1, 100003]) [(1, .one (.ptr 1 0)), (3, .one (ownL 100003 0 ([] : List Int))), (9, .one (li .i64 (IntKind.wrap .i64 (i9 + 1))))] ((1, some (.cells [li .i64 a0.X0, li .i64 a0.Y0, li .i64 a0.X1, li .i64 a0.Y1])) :: (ownM (codI .i64) 3 100003 0 ([] : List Int) [])) (by kernel_rfl) (by kernel_rfl) (by kernel_rfl) ?_
            exact ih_l10 ([] : List Int) (IntKind.wrap .i64 (i9 + 1)) 0
          · refine Sim.skip ?_
            refine SimE.blockN ?_
            refine SimE.thenN ?_
            refine Sim.region0 ?_
            refine SimI.run 2 [(38, .one (li .i64 1)), (46, .one (li .i64 1))] [] (by kernel_rfl) ?_
            refine SimI.done (by kernel_rfl) ?_
            refine SimE.loopN ?_
            refine SimL.succ ?_
            refine Sim.seq ?_
            refine Sim.region [(1, .one (.ptr 1 0)), (3, .one (lnil)), (4, .one (li .i64 i9)), (9, .one (li .i64 i9)), (37, .agg [lb (decide (a0.X1 ≤ r11.1.X0)), lb (decide (r11.1.X1 ≤ a0.X0)), lb (decide (a0.Y1 ≤ r11.1.Y0)), lb (decide (r11.1.Y1 ≤ a0.Y0))]), (38, .one (li .i64 1))] ((1, some (.cells [li .i64 a0.X0, li .i64 a0.Y0, li .i64 a0.X1, li .i64 a0.Y1])) :: []) (by kernel_rfl) ?_
            refine SimI.run 1 [(39, .one (lb true))] [] (by kernel_rfl) ?_
            refine SimI.done (by kernel_rfl) ?_
            refine SimE.thenN ?_
            refine Sim.seq ?_
            refine Sim.condT (by kernel_rfl) ?_
            refine Sim.skip ?_
            refine SimE.thenN ?_
            refine Sim.seq ?_
            refine Sim.block ?_
            refine Sim.seq ?_
            refine Sim.region0 ?_
            refine SimI.run 2 [(8, .one (lb (decide (r11.1.X1 ≤ a0.X0)))), (40, .one (lb (decide (r11.1.X1 ≤ a0.X0))))] [] (by kernel_rfl) ?_
            refine SimI.done (by kernel_rfl) ?_
            refine SimE.thenN ?_
            refine Sim.seq ?_
            refine Sim.region0 ?_
            refine SimI.run 2 [(42, .one (lb (decide (r11.1.X1 ≤ a0.X0)))), (41, .one (lb (decide (r11.1.X1 ≤ a0.X0))))] [] (by kernel_rfl) ?_
            refine SimI.split 42 (decide (r11.1.X1 ≤ a0.X0)) (by kernel_rfl) ?_ ?_
            · refine SimI.run 3 [(45, .one (lb true)), (44, .tup []), (43, .tup [])] [] (by kernel_rfl) ?_
              refine SimI.done (by kernel_rfl) ?_
              refine SimE.thenN ?_
              refine Sim.condT (by kernel_rfl) ?_
              refine Sim.exit ?_
              refine SimE.blockY rfl ?_
              refine SimE.thenX ?_
              refine SimE.loopX ?_
              refine SimE.blockY rfl ?_
              refine SimE.thenX ?_
              refine SimE.blockX ?_
              refine SimE.thenN ?_
              refine Sim.region0 ?_
              refine SimI.run 2 [(9, .one (li .i64 (IntKind.wrap .i64 (i9 + 1)))), (51, .one (li .i64 (IntKind.wrap .i64 (i9 + 1))))] [] (by kernel_rfl) ?_
              refine SimI.done (by kernel_rfl) ?_
              refine SimE.loopN ?_
              refine SimL.pre (ts := [1, 3, 9]) (os := [1, 100003]) [(1, .one (.ptr 1 0)), (3, .one (ownL 100003 0 ([] : List Int))), (9, .one (li .i64 (IntKind.wrap .i64 (i9 + 1))))] ((1, some (.cells [li .i64 a0.X0, li .i64 a0.Y0, li .i64 a0.X1, li .i64 a0.Y1])) :: (ownM (codI .i64) 3 100003 0 ([] : List Int) [])) (by kernel_rfl) (by kernel_rfl) (by kernel_rfl) ?_
              exact ih_l10 ([] : List Int) (IntKind.wrap .i64 (i9 + 1)) 0
            · refine SimI.run 1 [(43, .agg [li .i64 a0.X0, li .i64 a0.Y0, li .i64 a0.X1, li .i64 a0.Y1])] [] (by kernel_rfl) ?_
              refine SimI.bind (og := F58 n a0) { dst := some 44, op := POp.call true [[]] 58 [Operand.tmp 43], guard := some (42, false), hints := [] } (fun r13 => [(44, .one (lb r13))]) (fun r13 => []) (by kernel_rfl) (fun r13 hr => pOp_eff (by kernel_rfl) (by kernel_rfl) (eff_call (ARGS := [.agg [li .i64 a0.X0, li .i64 a0.Y0, li .i64 a0.X1, li .i64 a0.Y1]]) (by kernel_rfl) (args_clean (by kernel_rfl) args_nil) (F58_ok n a0 r13 hr) (by kernel_rfl))) (fun r13 => ?_)
              refine SimI.run 1 [(45, .one (lb r13))] [] (by kernel_rfl) ?_
              refine SimI.done (by kernel_rfl) ?_
              refine SimE.thenN ?_
              refine Sim.cond r13 (by kernel_rfl) ?_ ?_
              · refine Sim.exit ?_
                refine SimE.blockY rfl ?_
                refine SimE.thenX ?_
                refine SimE.loopX ?_
                refine SimE.blockY rfl ?_
                refine SimE.thenX ?_
                refine SimE.blockX ?_
                refine SimE.thenN ?_
                refine Sim.region0 ?_
                refine SimI.run 2 [(9, .one (li .i64 (IntKind.wrap .i64 (i9 + 1)))), (51, .one (li .i64 (IntKind.wrap .i64 (i9 + 1))))] [] (by kernel_rfl) ?_
                refine SimI.done (by kernel_rfl) ?_
                refine SimE.loopN ?_
                refine SimL.pre (ts := [1, 3, 9]) (os := [1, 100003]) [(1, .one (.ptr 1 0)), (3, .one (ownL 100003 0 ([] : List Int))), (9, .one (li .i64 (IntKind.wrap .i64 (i9 + 1))))] ((1, some (.cells [li .i64 a0.X0, li .i64 a0.Y0, li .i64 a0.X1, li .i64 a0.Y1])) :: (ownM (codI .i64) 3 100003 0 ([] : List Int) [])) (by kernel_rfl) (by kernel_rfl) (by kernel_rfl) ?_
                exact ih_l10 ([] : List Int) (IntKind.wrap .i64 (i9 + 1)) 0
              · refine Sim.skip ?_
                refine SimE.blockN ?_
                refine SimE.thenN ?_
                refine Sim.region0 ?_
                refine SimI.run 2 [(38, .one (li .i64 2)), (46, .one (li .i64 2))] [] (by kernel_rfl) ?_
                refine SimI.done (by kernel_rfl) ?_
                refine SimE.loopN ?_
                refine SimL.succ ?_
                refine Sim.seq ?_
                refine Sim.region [(1, .one (.ptr 1 0)), (3, .one (lnil)), (4, .one (li .i64 i9)), (9, .one (li .i64 i9)), (37, .agg [lb (decide (a0.X1 ≤ r11.1.X0)), lb (decide (r11.1.X1 ≤ a0.X0)), lb (decide (a0.Y1 ≤ r11.1.Y0)), lb (decide (r11.1.Y1 ≤ a0.Y0))]), (38, .one (li .i64 2))] ((1, some (.cells [li .i64 a0.X0, li .i64 a0.Y0, li .i64 a0.X1, li .i64 a0.Y1])) :: []) (by kernel_rfl) ?_
                refine SimI.run 1 [(39, .one (lb true))] [] (by kernel_rfl) ?_
                refine SimI.done (by kernel_rfl) ?_
                refine SimE.thenN ?_
                refine Sim.seq ?_
                refine Sim.condT (by kernel_rfl) ?_
                refine Sim.skip ?_
                refine SimE.thenN ?_
                refine Sim.seq ?_
                refine Sim.block ?_
                refine Sim.seq ?_
                refine Sim.region0 ?_
                refine SimI.run 2 [(8, .one (lb (decide (a0.Y1 ≤ r11.1.Y0)))), (40, .one (lb (decide (a0.Y1 ≤ r11.1.Y0))))] [] (by kernel_rfl) ?_
                refine SimI.done (by kernel_rfl) ?_
                refine SimE.thenN ?_
                refine Sim.seq ?_
                refine Sim.region0 ?_
                refine SimI.run 2 [(42, .one (lb (decide (a0.Y1 ≤ r11.1.Y0)))), (41, .one (lb (decide (a0.Y1 ≤ r11.1.Y0))))] [] (by kernel_rfl) ?_
                refine SimI.split 42 (decide (a0.Y1 ≤ r11.1.Y0)) (by kernel_rfl) ?_ ?_
                · refine SimI.run 3 [(45, .one (lb true)), (44, .tup []), (43, .tup [])] [] (by kernel_rfl) ?_
                  refine SimI.done (by kernel_rfl) ?_
                  refine SimE.thenN ?_
                  refine Sim.condT (by kernel_rfl) ?_
                  refine Sim.exit ?_
                  refine SimE.blockY rfl ?_
                  refine SimE.thenX ?_
                  refine SimE.loopX ?_
                  refine SimE.blockY rfl ?_
                  refine SimE.thenX ?_
                  refine SimE.blockX ?_
                  refine SimE.thenN ?_
                  refine Sim.region0 ?_
                  refine SimI.run 2 [(9, .one (li .i64 (IntKind.wrap .i64 (i9 + 1)))), (51, .one (li .i64 (IntKind.wrap .i64 (i9 + 1))))] [] (by kernel_rfl) ?_
                  refine SimI.done (by kernel_rfl) ?_
                  refine SimE.loopN ?_
                  refine SimL.pre (ts := [1, 3, 9]) (os := [1, 100003]) [(1, .one (.ptr 1 0)), (3, .one (ownL 100003 0 ([] : List Int))), (9, .one (li .i64 (IntKind.wrap .i64 (i9 + 1))))] ((1, some (.cells [li .i64 a0.X0, li .i64 a0.Y0, li .i64 a0.X1, li .i64 a0.Y1])) :: (ownM (codI .i64) 3 100003 0 ([] : List Int) [])) (by kernel_rfl) (by kernel_rfl) (by kernel_rfl) ?_
                  exact ih_l10 ([] : List Int) (IntKind.wrap .i64 (i9 + 1)) 0
                · refine SimI.run 1 [(43, .agg [li .i64 a0.X0, li .i64 a0.Y0, li .i64 a0.X1, li .i64 a0.Y1])] [] (by kernel_rfl) ?_
                  refine SimI.bind (og := F58 n a0) { dst := some 44, op := POp.call true [[]] 58 [Operand.tmp 43], guard := some (42, false), hints := [] } (fun r14 => [(44, .one (lb r14))]) (fun r14 => []) (by kernel_rfl) (fun r14 hr => pOp_eff (by kernel_rfl) (by kernel_rfl) (eff_call (ARGS := [.agg [li .i64 a0.X0, li .i64 a0.Y0, li .i64 a0.X1, li .i64 a0.Y1]]) (by kernel_rfl) (args_clean (by kernel_rfl) args_nil) (F58_ok n a0 r14 hr) (by kernel_rfl))) (fun r14 => ?_)
                  refine SimI.run 1 [(45, .one (lb r14))] [] (by kernel_rfl) ?_
                  refine SimI.done (by kernel_rfl) ?_
                  refine SimE.thenN ?_
                  refine Sim.cond r14 (by kernel_rfl) ?_ ?_
                  · refine Sim.exit ?_
                    refine SimE.blockY rfl ?_
                    refine SimE.thenX ?_
                    refine SimE.loopX ?_
                    refine SimE.blockY rfl ?_
                    refine SimE.thenX ?_
                    refine SimE.blockX ?_
                    refine SimE.thenN ?_
                    refine Sim.region0 ?_
                    refine SimI.run 2 [(9, .one (li .i64 (IntKind.wrap .i64 (i9 + 1)))), (51, .one (li .i64 (IntKind.wrap .i64 (i9 + 1))))] [] (by kernel_rfl) ?_
                    refine SimI.done (by kernel_rfl) ?_
                    refine SimE.loopN ?_
                    refine SimL.pre (ts := [1, 3, 9]) (os := [1, 100003]) [(1, .one (.ptr 1 0)), (3, .one (ownL 100003 0 ([] : List Int))), (9, .one (li .i64 (IntKind.wrap .i64 (i9 + 1))))] ((1, some (.cells [li .i64 a0.X0, li .i64 a0.Y0, li .i64 a0.X1, li .i64 a0.Y1])) :: (ownM (codI .i64) 3 100003 0 ([] : List Int) [])) (by kernel_rfl) (by kernel_rfl) (by kernel_rfl) ?_
                    exact ih_l10 ([] : List Int) (IntKind.wrap .i64 (i9 + 1)) 0
                  · refine Sim.skip ?_
                    refine SimE.blockN ?_
                    refine SimE.thenN ?_
                    refine Sim.region0 ?_
                    refine SimI.run 2 [(38, .one (li .i64 3)), (46, .one (li .i64 3))] [] (by kernel_rfl) ?_
                    refine SimI.done (by kernel_rfl) ?_
                    refine SimE.loopN ?_
                    refine SimL.succ ?_
                    refine Sim.seq ?_
                    refine Sim.region [(1, .one (.ptr 1 0)), (3, .one (lnil)), (4, .one (li .i64 i9)), (9, .one (li .i64 i9)), (37, .agg [lb (decide (a0.X1 ≤ r11.1.X0)), lb (decide (r11.1.X1 ≤ a0.X0)), lb (decide (a0.Y1 ≤ r11.1.Y0)), lb (decide (r11.1.Y1 ≤ a0.Y0))]), (38, .one (li .i64 3))] ((1, some (.cells [li .i64 a0.X0, li .i64 a0.Y0, li .i64 a0.X1, li .i64 a0.Y1])) :: []) (by kernel_rfl) ?_
                    refine SimI.run 1 [(39, .one (lb true))] [] (by kernel_rfl) ?_
                    refine SimI.done (by kernel_rfl) ?_
                    refine SimE.thenN ?_
                    refine Sim.seq ?_
                    refine Sim.condT (by kernel_rfl) ?_
                    refine Sim.skip ?_
                    refine SimE.thenN ?_
                    refine Sim.seq ?_
                    refine Sim.block ?_
                    refine Sim.seq ?_
                    refine Sim.region0 ?_
                    refine SimI.run 2 [(8, .one (lb (decide (r11.1.Y1 ≤ a0.Y0)))), (40, .one (lb (decide (r11.1.Y1 ≤ a0.Y0))))] [] (by kernel_rfl) ?_
                    refine SimI.done (by kernel_rfl) ?_
                    refine SimE.thenN ?_
                    refine Sim.seq ?_
                    refine Sim.region0 ?_
                    refine SimI.run 2 [(42, .one (lb (decide (r11.1.Y1 ≤ a0.Y0)))), (41, .one (lb (decide (r11.1.Y1 ≤ a0.Y0))))] [] (by kernel_rfl) ?_
                    refine SimI.split 42 (decide (r11.1.Y1 ≤ a0.Y0)) (by kernel_rfl) ?_ ?_
                    · refine SimI.run 3 [(45, .one (lb true)), (44, .tup []), (43, .tup [])] [] (by kernel_rfl) ?_
                      refine SimI.done (by kernel_rfl) ?_
                      refine SimE.thenN ?_
                      refine Sim.condT (by kernel_rfl) ?_
                      refine Sim.exit ?_
                      refine SimE.blockY rfl ?_
                      refine SimE.thenX ?_
                      refine SimE.loopX ?_
                      refine SimE.blockY rfl ?_
                      refine SimE.thenX ?_
                      refine SimE.blockX ?_
                      refine SimE.thenN ?_
                      refine Sim.region0 ?_
                      refine SimI.run 2 [(9, .one (li .i64 (IntKind.wrap .i64 (i9 + 1)))), (51, .one (li .i64 (IntKind.wrap .i64 (i9 + 1))))] [] (by kernel_rfl) ?_
                      refine SimI.done (by kernel_rfl) ?_
                      refine SimE.loopN ?_
                      refine SimL.pre (ts := [1, 3, 9]) (os := [1, 100003]) [(1, .one (.ptr 1 0)), (3, .one (ownL 100003 0 ([] : List Int))), (9, .one (li .i64 (IntKind.wrap .i64 (i9 + 1))))] ((1, some (.cells [li .i64 a0.X0, li .i64 a0.Y0, li .i64 a0.X1, li .i64 a0.Y1])) :: (ownM (codI .i64) 3 100003 0 ([] : List Int) [])) (by kernel_rfl) (by kernel_rfl) (by kernel_rfl) ?_
                      exact ih_l10 ([] : List Int) (IntKind.wrap .i64 (i9 + 1)) 0
                    · refine SimI.run 1 [(43, .agg [li .i64 a0.X0, li .i64 a0.Y0, li .i64 a0.X1, li .i64 a0.Y1])] [] (by kernel_rfl) ?_
                      refine SimI.bind (og := F58 n a0) { dst := some 44, op := POp.call true [[]] 58 [Operand.tmp 43], guard := some (42, false), hints := [] } (fun r15 => [(44, .one (lb r15))]) (fun r15 => []) (by kernel_rfl) (fun r15 hr => pOp_eff (by kernel_rfl) (by kernel_rfl) (eff_call (ARGS := [.agg [li .i64 a0.X0, li .i64 a0.Y0, li .i64 a0.X1, li .i64 a0.Y1]]) (by kernel_rfl) (args_clean (by kernel_rfl) args_nil) (F58_ok n a0 r15 hr) (by kernel_rfl))) (fun r15 => ?_)
                      refine SimI.run 1 [(45, .one (lb r15))] [] (by kernel_rfl) ?_
                      refine SimI.done (by kernel_rfl) ?_
                      refine SimE.thenN ?_
                      refine Sim.cond r15 (by kernel_rfl) ?_ ?_
                      · refine Sim.exit ?_
                        refine SimE.blockY rfl ?_
                        refine SimE.thenX ?_
                        refine SimE.loopX ?_
                        refine SimE.blockY rfl ?_
                        refine SimE.thenX ?_
                        refine SimE.blockX ?_
                        refine SimE.thenN ?_
                        refine Sim.region0 ?_
                        refine SimI.run 2 [(9, .one (li .i64 (IntKind.wrap .i64 (i9 + 1)))), (51, .one (li .i64 (IntKind.wrap .i64 (i9 + 1))))] [] (by kernel_rfl) ?_
                        refine SimI.done (by kernel_rfl) ?_
                        refine SimE.loopN ?_
                        refine SimL.pre (ts := [1, 3, 9]) (os := [1, 100003]) [(1, .one (.ptr 1 0)), (3, .one (ownL 100003 0 ([] : List Int))), (9, .one (li .i64 (IntKind.wrap .i64 (i9 + 1))))] ((1, some (.cells [li .i64 a0.X0, li .i64 a0.Y0, li .i64 a0.X1, li .i64 a0.Y1])) :: (ownM (codI .i64) 3 100003 0 ([] : List Int) [])) (by kernel_rfl) (by kernel_rfl) (by kernel_rfl) ?_
                        exact ih_l10 ([] : List Int) (IntKind.wrap .i64 (i9 + 1)) 0
                      · refine Sim.skip ?_
                        refine SimE.blockN ?_
                        refine SimE.thenN ?_
                        refine Sim.region0 ?_
                        refine SimI.run 2 [(38, .one (li .i64 4)), (46, .one (li .i64 4))] [] (by kernel_rfl) ?_
                        refine SimI.done (by kernel_rfl) ?_
                        refine SimE.loopN ?_
                        refine SimL.succ ?_
                        refine Sim.seq ?_
                        refine Sim.region [(1, .one (.ptr 1 0)), (3, .one (lnil)), (4, .one (li .i64 i9)), (9, .one (li .i64 i9)), (37, .agg [lb (decide (a0.X1 ≤ r11.1.X0)), lb (decide (r11.1.X1 ≤ a0.X0)), lb (decide (a0.Y1 ≤ r11.1.Y0)), lb (decide (r11.1.Y1 ≤ a0.Y0))]), (38, .one (li .i64 4))] ((1, some (.cells [li .i64 a0.X0, li .i64 a0.Y0, li .i64 a0.X1, li .i64 a0.Y1])) :: []) (by kernel_rfl) ?_
                        refine SimI.run 1 [(39, .one (lb false))] [] (by kernel_rfl) ?_
                        refine SimI.done (by kernel_rfl) ?_
                        refine SimE.thenN ?_
                        refine Sim.seq ?_
                        refine Sim.condF (by kernel_rfl) ?_
                        refine Sim.exit ?_
                        refine SimE.thenX ?_
                        refine SimE.loopX ?_
                        refine SimE.blockX ?_
                        refine SimE.thenN ?_
                        refine Sim.region0 ?_
                        refine SimI.run 3 [(49, .one (vw (codI .i64) [i9])), (48, .one (li .i64 i9)), (47, .one (lnil))] [] (by kernel_rfl) ?_
                        refine SimI.guard (c := (([] : List Int).length + 1) * 8 ≤ maxCells ∧ ([] : List Int).length + 1 ≤ maxCells) { dst := some 50, op := POp.app 100003 3 1 8 (Operand.tmp 47) (Operand.tmp 49), guard := none, hints := [] } [(50, .one (.osl 100003 0 0 ([i9]).length))] [(100003, some (.arr 3 (codI .i64).sz 0 ([i9]).length (getOf (codI .i64) [i9])))] (by kernel_rfl) (fun hc => pOp_eff (by kernel_rfl) (by kernel_rfl) (eff_appN (c := (codI .i64)) (a := i9) (by kernel_rfl) (by kernel_rfl) (by kernel_rfl) (by kernel_rfl) (by kernel_rfl) (by kernel_rfl))) ?_
                        refine SimI.run 1 [(3, .one (.osl 100003 0 0 ([i9]).length))] [] (by kernel_rfl) ?_
                        refine SimI.done (by kernel_rfl) ?_
                        refine SimE.blockN ?_
                        refine SimE.thenN ?_
                        refine Sim.region0 ?_
                        refine SimI.run 2 [(9, .one (li .i64 (IntKind.wrap .i64 (i9 + 1)))), (51, .one (li .i64 (IntKind.wrap .i64 (i9 + 1))))] [] (by kernel_rfl) ?_
                        refine SimI.done (by kernel_rfl) ?_
                        refine SimE.loopN ?_
                        refine SimL.pre (ts := [1, 3, 9]) (os := [1, 100003]) [(1, .one (.ptr 1 0)), (3, .one (ownL 100003 0 [i9])), (9, .one (li .i64 (IntKind.wrap .i64 (i9 + 1))))] ((1, some (.cells [li .i64 a0.X0, li .i64 a0.Y0, li .i64 a0.X1, li .i64 a0.Y1])) :: (ownM (codI .i64) 3 100003 0 [i9] [])) (by kernel_rfl) (by kernel_rfl) (by kernel_rfl) ?_
                        exact ih_l10 [i9] (IntKind.wrap .i64 (i9 + 1)) 0
      · refine Sim.exit ?_
        refine SimE.thenX ?_
        refine SimE.loopX ?_
        refine SimE.blockX ?_
        refine SimE.thenN ?_
        refine Sim.seq ?_
        refine Sim.region0 ?_
        refine SimI.run 2 [(2, .one (lnil)), (52, .one (lnil))] [] (by kernel_rfl) ?_
        refine SimI.done (by kernel_rfl) ?_
        refine SimE.thenN ?_
        refine Sim.ret ?_
        exact SimE.fin (by kernel_rfl)
    | cons l7h l7t =>
      refine SimL.succ ?_
      unfold F29_l10
      refine Sim.seq ?_
      refine Sim.region [(1, .one (.ptr 1 0)), (3, .one (.osl 100003 g8 0 ((l7h :: l7t)).length)), (9, .one (li .i64 i9))] ((1, some (.cells [li .i64 a0.X0, li .i64 a0.Y0, li .i64 a0.X1, li .i64 a0.Y1])) :: ((100003, some (.arr 3 (codI .i64).sz g8 ((l7h :: l7t)).length (getOf (codI .i64) (l7h :: l7t)))) :: [])) (by kernel_rfl) ?_
      refine SimI.run 1 [(10, .one (lb (decide (i9 < 16))))] [] (by kernel_rfl) ?_
      refine SimI.done (by kernel_rfl) ?_
      refine SimE.thenN ?_
      refine Sim.seq ?_
      refine Sim.cond (decide (i9 < 16)) (by kernel_rfl) ?_ ?_
      · refine Sim.skip ?_
        refine SimE.thenN ?_
        refine Sim.seq ?_
        refine Sim.block ?_
        refine Sim.seq ?_
        refine Sim.region0 ?_
        refine SimI.run 2 [(4, .one (li .i64 i9)), (11, .one (li .i64 i9))] [] (by kernel_rfl) ?_
        refine SimI.done (by kernel_rfl) ?_
        refine SimE.thenN ?_
        refine Sim.seq ?_
        refine Sim.region0 ?_
        refine SimI.run 1 [(13, .one (li .i64 i9))] [] (by kernel_rfl) ?_
        refine SimI.bind (og := F27 n i9) { dst := some 14, op := POp.call true [[]] 27 [Operand.tmp 13], guard := none, hints := [] } (fun r11 => [(14, .tup [.agg [li .i64 r11.1.X0, li .i64 r11.1.Y0, li .i64 r11.1.X1, li .i64 r11.1.Y1], .one (lb r11.2)])]) (fun r11 => []) (by kernel_rfl) (fun r11 hr => pOp_eff (by kernel_rfl) (by kernel_rfl) (eff_call (ARGS := [.one (li .i64 i9)]) (by kernel_rfl) (args_clean (by kernel_rfl) args_nil) (F27_ok n i9 r11 hr) (by kernel_rfl))) (fun r11 => ?_)
        refine SimI.run 6 [(6, .one (lb r11.2)), (5, .one (.ptr 5 0)), (16, .one (lb r11.2)), (15, .agg [li .i64 r11.1.X0, li .i64 r11.1.Y0, li .i64 r11.1.X1, li .i64 r11.1.Y1]), (12, .tup [.agg [li .i64 r11.1.X0, li .i64 r11.1.Y0, li .i64 r11.1.X1, li .i64 r11.1.Y1], .one (lb r11.2)])] [(5, some (.cells [li .i64 r11.1.X0, li .i64 r11.1.Y0, li .i64 r11.1.X1, li .i64 r11.1.Y1])), (5, some (.cells [li .i64 0, li .i64 0, li .i64 0, li .i64 0]))] (by kernel_rfl) ?_
        refine SimI.done (by kernel_rfl) ?_
        refine SimE.thenN ?_
        refine Sim.seq ?_
        refine Sim.seq ?_
        refine Sim.region0 ?_
        refine SimI.run 22 [(38, .one (li .i64 0)), (37, .agg [lb (decide (a0.X1 ≤ r11.1.X0)), lb (decide (r11.1.X1 ≤ a0.X0)), lb (decide (a0.Y1 ≤ r11.1.Y0)), lb (decide (r11.1.Y1 ≤ a0.Y0))]), (36, .one (lb (decide (r11.1.Y1 ≤ a0.Y0)))), (35, .one (li .i64 a0.Y0)), (34, .one (.ptr 1 1)), (33, .one (li .i64 r11.1.Y1)), (32, .one (.ptr 5 3)), (31, .one (lb (decide (a0.Y1 ≤ r11.1.Y0)))), (30, .one (li .i64 a0.Y1)), (29, .one (.ptr 1 3)), (28, .one (li .i64 r11.1.Y0)), (27, .one (.ptr 5 1)), (26, .one (lb (decide (r11.1.X1 ≤ a0.X0)))), (25, .one (li .i64 a0.X0)), (24, .one (.ptr 1 0)), (23, .one (li .i64 r11.1.X1)), (22, .one (.ptr 5 2)), (21, .one (lb (decide (a0.X1 ≤ r11.1.X0)))), (20, .one (li .i64 a0.X1)), (19, .one (.ptr 1 2)), (18, .one (li .i64 r11.1.X0)), (17, .one (.ptr 5 0))] [] (by kernel_rfl) ?_
        refine SimI.done (by kernel_rfl) ?_
        refine SimE.thenN ?_
        refine Sim.block ?_
        refine Sim.loop ?_
        refine SimL.succ ?_
        refine Sim.seq ?_
        refine Sim.region [(1, .one (.ptr 1 0)), (3, .one (.osl 100003 g8 0 ((l7h :: l7t)).length)), (4, .one (li .i64 i9)), (9, .one (li .i64 i9)), (37, .agg [lb (decide (a0.X1 ≤ r11.1.X0)), lb (decide (r11.1.X1 ≤ a0.X0)), lb (decide (a0.Y1 ≤ r11.1.Y0)), lb (decide (r11.1.Y1 ≤ a0.Y0))]), (38, .one (li .i64 0))] ((1, some (.cells [li .i64 a0.X0, li .i64 a0.Y0, li .i64 a0.X1, li .i64 a0.Y1])) :: ((100003, some (.arr 3 (codI .i64).sz g8 ((l7h :: l7t)).length (getOf (codI .i64) (l7h :: l7t)))) :: [])) (by kernel_rfl) ?_
        refine SimI.run 1 [(39, .one (lb true))] [] (by kernel_rfl) ?_
        refine SimI.done (by kernel_rfl) ?_
        refine SimE.thenN ?_
        refine Sim.seq ?_
        refine Sim.condT (by kernel_rfl) ?_
        refine Sim.skip ?_
        refine SimE.thenN ?_
        refine Sim.seq ?_
        refine Sim.block ?_
        refine Sim.seq ?_
        refine Sim.region0 ?_
        refine SimI.run 2 [(8, .one (lb (decide (a0.X1 ≤ r11.1.X0)))), (40, .one (lb (decide (a0.X1 ≤ r11.1.X0))))] [] (by kernel_rfl) ?_
        refine SimI.done (by kernel_rfl) ?_
        refine SimE.thenN ?_
        refine Sim.seq ?_
        refine Sim.region0 ?_
        refine SimI.run 2 [(42, .one (lb (decide (a0.X1 ≤ r11.1.X0)))), (41, .one (lb (decide (a0.X1 ≤ r11.1.X0))))] [] (by kernel_rfl) ?_
        refine SimI.split 42 (decide (a0.X1 ≤ r11.1.X0)) (by kernel_rfl) ?_ ?_
        · refine SimI.run 3 [(45, .one (lb true)), (44, .tup []), (43, .tup [])] [] (by kernel_rfl) ?_
          refine SimI.done (by kernel_rfl) ?_
          refine SimE.thenN ?_
          refine Sim.condT (by kernel_rfl) ?_
          refine Sim.exit ?_
          refine SimE.blockY rfl ?_
          refine SimE.thenX ?_
          refine SimE.loopX ?_
          refine SimE.blockY rfl ?_
          refine SimE.thenX ?_
          refine SimE.blockX ?_
          refine SimE.thenN ?_
          refine Sim.region0 ?_
          refine SimI.run 2 [(9, .one (li .i64 (IntKind.wrap .i64 (i9 + 1)))), (51, .one (li .i64 (IntKind.wrap .i64 (i9 + 1))))] [] (by kernel_rfl) ?_
          refine SimI.done (by kernel_rfl) ?_
          refine SimE.loopN ?_
          refine SimL.pre (ts := [1, 3, 9]) (os := [1, 100003]) [(1, .one (.ptr 1 0)), (3, .one (ownL 100003 g8 (l7h :: l7t))), (9, .one (li .i64 (IntKind.wrap .i64 (i9 + 1))))] ((1, some (.cells [li .i64 a0.X0, li .i64 a0.Y0, li .i64 a0.X1, li .i64 a0.Y1])) :: (ownM (codI .i64) 3 100003 g8 (l7h :: l7t) [])) (by kernel_rfl) (by kernel_rfl) (by kernel_rfl) ?_
          exact ih_l10 (l7h :: l7t) (IntKind.wrap .i64 (i9 + 1)) g8
        · refine SimI.run 1 [(43, .agg [li .i64 a0.X0, li .i64 a0.Y0, li .i64 a0.X1, li .i64 a0.Y1])] [] (by kernel_rfl) ?_
          refine SimI.bind (og := F58 n a0) { dst := some 44, op := POp.call true [[]] 58 [Operand.tmp 43], guard := some (42, false), hints := [] } (fun r12 => [(44, .one (lb r12))]) (fun r12 => []) (by kernel_rfl) (fun r12 hr => pOp_eff (by kernel_rfl) (by kernel_rfl) (eff_call (ARGS := [.agg [li .i64 a0.X0, li .i64 a0.Y0, li .i64 a0.X1, li .i64 a0.Y1]]) (by kernel_rfl) (args_clean (by kernel_rfl) args_nil) (F58_ok n a0 r12 hr) (by kernel_rfl))) (fun r12 => ?_)
          refine SimI.run 1 [(45, .one (lb r12))] [] (by kernel_rfl) ?_
          refine SimI.done (by kernel_rfl) ?_
          refine SimE.thenN ?_
          refine Sim.cond r12 (by kernel_rfl) ?_ ?_
          · refine Sim.exit ?_
            refine SimE.blockY rfl ?_
            refine SimE.thenX ?_
            refine SimE.loopX ?_
            refine SimE.blockY rfl ?_
            refine SimE.thenX ?_
            refine SimE.blockX ?_
            refine SimE.thenN ?_
            refine Sim.region0 ?_
            refine SimI.run 2 [(9, .one (li .i64 (IntKind.wrap .i64 (i9 + 1)))), (51, .one (li .i64 (IntKind.wrap .i64 (i9 + 1))))] [] (by kernel_rfl) ?_
            refine SimI.done (by kernel_rfl) ?_
            refine SimE.loopN ?_
            refine SimL.pre (ts := [1, 3, 9]) (os := [1, 100003]) [(1, .one (.ptr 1 0)), (3, .one (ownL 100003 g8 (l7h :: l7t))), (9, .one (li .i64 (IntKind.wrap .i64 (i9 + 1))))] ((1, some (.cells [li .i64 a0.X0, li .i64 a0.Y0, li .i64 a0.X1, li .i64 a0.Y1])) :: (ownM (codI .i64) 3 100003 g8 (l7h :: l7t) [])) (by kernel_rfl) (by kernel_rfl) (by kernel_rfl) ?_
            exact ih_l10 (l7h :: l7t) (IntKind.wrap .i64 (i9 + 1)) g8
          · refine Sim.skip ?_
            refine SimE.blockN ?_
            refine SimE.thenN ?_
            refine Sim.region0 ?_
            refine SimI.run 2 [(38, .one (li .i64 1)), (46, .one (li .i64 1))] [] (by kernel_rfl) ?_
            refine SimI.done (by kernel_rfl) ?_
            refine SimE.loopN ?_
            refine SimL.succ ?_
            refine Sim.seq ?_
            refine Sim.region [(1, .one (.ptr 1 0)), (3, .one (.osl 100003 g8 0 ((l7h :: l7t)).length)), (4, .one (li .i64 i9)), (9, .one (li .i64 i9)), (37, .agg [lb (decide (a0.X1 ≤ r11.1.X0)), lb (decide (r11.1.X1 ≤ a0.X0)), lb (decide (a0.Y1 ≤ r11.1.Y0)), lb (decide (r11.1.Y1 ≤ a0.Y0))]), (38, .one (li .i64 1))] ((1, some (.cells [li .i64 a0.X0, li .i64 a0.Y0, li .i64 a0.X1, li .i64 a0.Y1])) :: ((100003, some (.arr 3 (codI .i64).sz g8 ((l7h :: l7t)).length (getOf (codI .i64) (l7h :: l7t)))) :: [])) (by kernel_rfl) ?_
            refine SimI.run 1 [(39, .one (lb true))] [] (by kernel_rfl) ?_
            refine SimI.done (by kernel_rfl) ?_
            refine SimE.thenN ?_
            refine Sim.seq ?_
            refine Sim.condT (by kernel_rfl) ?_
            refine Sim.skip ?_
            refine SimE.thenN ?_
            refine Sim.seq ?_
            refine Sim.block ?_
            refine Sim.seq ?_
            refine Sim.region0 ?_
            refine SimI.run 2 [(8, .one (lb (decide (r11.1.X1 ≤ a0.X0)))), (40, .one (lb (decide (r11.1.X1 ≤ a0.X0))))] [] (by kernel_rfl) ?_
            refine SimI.done (by kernel_rfl) ?_
            refine SimE.thenN ?_
            refine Sim.seq ?_
            refine Sim.region0 ?_
            refine SimI.run 2 [(42, .one (lb (decide (r11.1.X1 ≤ a0.X0)))), (41, .one (lb (decide (r11.1.X1 ≤ a0.X0))))] [] (by kernel_rfl) ?_
            refine SimI.split 42 (decide (r11.1.X1 ≤ a0.X0)) (by kernel_rfl) ?_ ?_
            · refine SimI.run 3 [(45, .one (lb true)), (44, .tup []), (43, .tup [])] [] (by kernel_rfl) ?_
              refine SimI.done (by kernel_rfl) ?_
              refine SimE.thenN ?_
              refine Sim.condT (by kernel_rfl) ?_
              refine Sim.exit ?_
              refine SimE.blockY rfl ?_
              refine SimE.thenX ?_
              refine SimE.loopX ?_
              refine SimE.blockY rfl ?_
              refine SimE.thenX ?_
              refine SimE.blockX ?_
              refine SimE.thenN ?_
              refine Sim.region0 ?_
              refine SimI.run 2 [(9, .one (li .i64 (IntKind.wrap .i64 (i9 + 1)))), (51, .one (li .i64 (IntKind.wrap .i64 (i9 + 1))))] [] (by kernel_rfl) ?_
              refine SimI.done (by kernel_rfl) ?_
              refine SimE.loopN ?_
              refine SimL.pre (ts := [1, 3, 9]) (os := [1, 100003]) [(1, .one (.ptr 1 0)), (3, .one (ownL 100003 g8 (l7h :: l7t))), (9, .one (li .i64 (IntKind.wrap .i64 (i9 + 1))))] ((1, some (.cells [li .i64 a0.X0, li .i64 a0.Y0, li .i64 a0.X1, li .i64 a0.Y1])) :: (ownM (codI .i64) 3 100003 g8 (l7h :: l7t) [])) (by kernel_rfl) (by kernel_rfl) (by kernel_rfl) ?_
              exact ih_l10 (l7h :: l7t) (IntKind.wrap .i64 (i9 + 1)) g8
            · refine SimI.run 1 [(43, .agg [li .i64 a0.X0, li .i64 a0.Y0, li .i64 a0.X1, li .i64 a0.Y1])] [] (by kernel_rfl) ?_
              refine SimI.bind (og := F58 n a0) { dst := some 44, op := POp.call true [[]] 58 [Operand.tmp 43], guard := some (42, false), hints := [] } (fun r13 => [(44, .one (lb r13))]) (fun r13 => []) (by kernel_rfl) (fun r13 hr => pOp_eff (by kernel_rfl) (by kernel_rfl) (eff_call (ARGS := [.agg [li .i64 a0.X0, li .i64 a0.Y0, li .i64 a0.X1, li .i64 a0.Y1]]) (by kernel_rfl) (args_clean (by kernel_rfl) args_nil) (F58_ok n a0 r13 hr) (by kernel_rfl))) (fun r13 => ?_)
              refine SimI.run 1 [(45, .one (lb r13))] [] (by kernel_rfl) ?_
              refine SimI.done (by kernel_rfl) ?_
              refine SimE.thenN ?_
              refine Sim.cond r13 (by kernel_rfl) ?_ ?_
              · refine Sim.exit ?_
                refine SimE.blockY rfl ?_
                refine SimE.thenX ?_
                refine SimE.loopX ?_
                refine SimE.blockY rfl ?_
                refine SimE.thenX ?_
                refine SimE.blockX ?_
                refine SimE.thenN ?_
                refine Sim.region0 ?_
                refine SimI.run 2 [(9, .one (li .i64 (IntKind.wrap .i64 (i9 + 1)))), (51, .one (li .i64 (IntKind.wrap .i64 (i9 + 1))))] [] (by kernel_rfl) ?_
                refine SimI.done (by kernel_rfl) ?_
                refine SimE.loopN ?_
                refine SimL.pre (ts := [1, 3, 9]) (os := [1, 100003]) [(1, .one (.ptr 1 0)), (3, .one (ownL 100003 g8 (l7h :: l7t))), (9, .one (li .i64 (IntKind.wrap .i64 (i9 + 1))))] ((1, some (.cells [li .i64 a0.X0, li .i64 a0.Y0, li .i64 a0.X1, li .i64 a0.Y1])) :: (ownM (codI .i64) 3 100003 g8 (l7h :: l7t) [])) (by kernel_rfl) (by kernel_rfl) (by kernel_rfl) ?_
                exact ih_l10 (l7h :: l7t) (IntKind.wrap .i64 (i9 + 1)) g8
              · refine Sim.skip ?_
                refine SimE.blockN ?_
                refine SimE.thenN ?_
                refine Sim.region0 ?_
                refine SimI.run 2 [(38, .one (li .i64 2)), (46, .one (li .i64 2))] [] (by kernel_rfl) ?_
                refine SimI.done (by kernel_rfl) ?_
                refine SimE.loopN ?_
                refine SimL.succ ?_
                refine Sim.seq ?_
                refine Sim.region [(1, .one (.ptr 1 0)), (3, .one (.osl 100003 g8 0 ((l7h :: l7t)).length)), (4, .one (li .i64 i9)), (9, .one (li .i64 i9)), (37, .agg [lb (decide (a0.X1 ≤ r11.1.X0)), lb (decide (r11.1.X1 ≤ a0.X0)), lb (decide (a0.Y1 ≤ r11.1.Y0)), lb (decide (r11.1.Y1 ≤ a0.Y0))]), (38, .one (li .i64 2))] ((1, some (.cells [li .i64 a0.X0, li .i64 a0.Y0, li .i64 a0.X1, li .i64 a0.Y1])) :: ((100003, some (.arr 3 (codI .i64).sz g8 ((l7h :: l7t)).length (getOf (codI .i64) (l7h :: l7t)))) :: [])) (by kernel_rfl) ?_
                refine SimI.run 1 [(39, .one (lb true))] [] (by kernel_rfl) ?_
                refine SimI.done (by kernel_rfl) ?_
                refine SimE.thenN ?_
                refine Sim.seq ?_
                refine Sim.condT (by kernel_rfl) ?_
                refine Sim.skip ?_
                refine SimE.thenN ?_
                refine Sim.seq ?_
                refine Sim.block ?_
                refine Sim.seq ?_
                refine Sim.region0 ?_
                refine SimI.run 2 [(8, .one (lb (decide (a0.Y1 ≤ r11.1.Y0)))), (40, .one (lb (decide (a0.Y1 ≤ r11.1.Y0))))] [] (by kernel_rfl) ?_
                refine SimI.done (by kernel_rfl) ?_
                refine SimE.thenN ?_
                refine Sim.seq ?_
                refine Sim.region0 ?_
                refine SimI.run 2 [(42, .one (lb (decide (a0.Y1 ≤ r11.1.Y0)))), (41, .one (lb (decide (a0.Y1 ≤ r11.1.Y0))))] [] (by kernel_rfl) ?_
                refine SimI.split 42 (decide (a0.Y1 ≤ r11.1.Y0)) (by kernel_rfl) ?_ ?_
                · refine SimI.run 3 [(45, .one (lb true)), (44, .tup []), (43, .tup [])] [] (by kernel_rfl) ?_
                  refine SimI.done (by kernel_rfl) ?_
                  refine SimE.thenN ?_
                  refine Sim.condT (by kernel_rfl) ?_
                  refine Sim.exit ?_
                  refine SimE.blockY rfl ?_
                  refine SimE.thenX ?_
                  refine SimE.loopX ?_
                  refine SimE.blockY rfl ?_
                  refine SimE.thenX ?_
                  refine SimE.blockX ?_
                  refine SimE.thenN ?_
                  refine Sim.region0 ?_
                  refine SimI.run 2 [(9, .one (li .i64 (IntKind.wrap .i64 (i9 + 1)))), (51, .one (li .i64 (IntKind.wrap .i64 (i9 + 1))))] [] (by kernel_rfl) ?_
                  refine SimI.done (by kernel_rfl) ?_
                  refine SimE.loopN ?_
                  refine SimL.pre (ts := [1, 3, 9]) (os := [1, 100003]) [(1, .one (.ptr 1 0)), (3, .one (ownL 100003 g8 (l7h :: l7t))), (9, .one (li .i64 (IntKind.wrap .i64 (i9 + 1))))] ((1, some (.cells [li .i64 a0.X0, li .i64 a0.Y0, li .i64 a0.X1, li .i64 a0.Y1])) :: (ownM (codI .i64) 3 100003 g8 (l7h :: l7t) [])) (by kernel_rfl) (by kernel_rfl) (by kernel_rfl) ?_
                  exact ih_l10 (l7h :: l7t) (IntKind.wrap .i64 (i9 + 1)) g8
                · refine SimI.run 1 [(43, .agg [li .i64 a0.X0, li .i64 a0.Y0, li .i64 a0.X1, li .i64 a0.Y1])] [] (by kernel_rfl) ?_
                  refine SimI.bind (og := F58 n a0) { dst := some 44, op := POp.call true [[]] 58 [Operand.tmp 43], guard := some (42, false), hints := [] } (fun r14 => [(44, .one (lb r14))]) (fun r14 => []) (by kernel_rfl) (fun r14 hr => pOp_eff (by kernel_rfl) (by kernel_rfl) (eff_call (ARGS := [.agg [li .i64 a0.X0, li .i64 a0.Y0, li .i64 a0.X1, li .i64 a0.Y1]]) (by kernel_rfl) (args_clean (by kernel_rfl) args_nil) (F58_ok n a0 r14 hr) (by kernel_rfl))) (fun r14 => ?_)
                  refine SimI.run 1 [(45, .one (lb r14))] [] (by kernel_rfl) ?_
                  refine SimI.done (by kernel_rfl) ?_
                  refine SimE.thenN ?_
                  refine Sim.cond r14 (by kernel_rfl) ?_ ?_
                  · refine Sim.exit ?_
                    refine SimE.blockY rfl ?_
                    refine SimE.thenX ?_
                    refine SimE.loopX ?_
                    refine SimE.blockY rfl ?_
                    refine SimE.thenX ?_
                    refine SimE.blockX ?_
                    refine SimE.thenN ?_
                    refine Sim.region0 ?_
                    refine SimI.run 2 [(9, .one (li .i64 (IntKind.wrap .i64 (i9 + 1)))), (51, .one (li .i64 (IntKind.wrap .i64 (i9 + 1))))] [] (by kernel_rfl) ?_
                    refine SimI.done (by kernel_rfl) ?_
                    refine SimE.loopN ?_
                    refine SimL.pre (ts := [1, 3, 9]) (os := [1, 100003]) [(1, .one (.ptr 1 0)), (3, .one (ownL 100003 g8 (l7h :: l7t))), (9, .one (li .i64 (IntKind.wrap .i64 (i9 + 1))))] ((1, some (.cells [li .i64 a0.X0, li .i64 a0.Y0, li .i64 a0.X1, li .i64 a0.Y1])) :: (ownM (codI .i64) 3 100003 g8 (l7h :: l7t) [])) (by kernel_rfl) (by kernel_rfl) (by kernel_rfl) ?_
                    exact ih_l10 (l7h :: l7t) (IntKind.wrap .i64 (i9 + 1)) g8
                  · refine Sim.skip ?_
                    refine SimE.blockN ?_
                    refine SimE.thenN ?_
                    refine Sim.region0 ?_
                    refine SimI.run 2 [(38, .one (li .i64 3)), (46, .one (li .i64 3))] [] (by kernel_rfl) ?_
                    refine SimI.done (by kernel_rfl) ?_
                    refine SimE.loopN ?_
                    refine SimL.succ ?_
                    refine Sim.seq ?_
                    refine Sim.region [(1, .one (.ptr 1 0)), (3, .one (.osl 100003 g8 0 ((l7h :: l7t)).length)), (4, .one (li .i64 i9)), (9, .one (li .i64 i9)), (37, .agg [lb (decide (a0.X1 ≤ r11.1.X0)), lb (decide (r11.1.X1 ≤ a0.X0)), lb (decide (a0.Y1 ≤ r11.1.Y0)), lb (decide (r11.1.Y1 ≤ a0.Y0))]), (38, .one (li .i64 3))] ((1, some (.cells [li .i64 a0.X0, li .i64 a0.Y0, li .i64 a0.X1, li .i64 a0.Y1])) :: ((100003, some (.arr 3 (codI .i64).sz g8 ((l7h :: l7t)).length (getOf (codI .i64) (l7h :: l7t)))) :: [])) (by kernel_rfl) ?_
                    refine SimI.run 1 [(39, .one (lb true))] [] (by kernel_rfl) ?_
                    refine SimI.done (by kernel_rfl) ?_
                    refine SimE.thenN ?_
                    refine Sim.seq ?_
                    refine Sim.condT (by kernel_rfl) ?_
                    refine Sim.skip ?_
                    refine SimE.thenN ?_
                    refine Sim.seq ?_
                    refine Sim.block ?_
                    refine Sim.seq ?_
                    refine Sim.region0 ?_
                    refine SimI.run 2 [(8, .one (lb (decide (r11.1.Y1 ≤ a0.Y0)))), (40, .one (lb (decide (r11.1.Y1 ≤ a0.Y0))))] [] (by kernel_rfl) ?_
                    refine SimI.done (by kernel_rfl) ?_
                    refine SimE.thenN ?_
                    refine Sim.seq ?_
                    refine Sim.region0 ?_
                    refine SimI.run 2 [(42, .one (lb (decide (r11.1.Y1 ≤ a0.Y0)))), (41, .one (lb (decide (r11.1.Y1 ≤ a0.Y0))))] [] (by kernel_rfl) ?_
                    refine SimI.split 42 (decide (r11.1.Y1 ≤ a0.Y0)) (by kernel_rfl) ?_ ?_
                    · refine SimI.run 3 [(45, .one (lb true)), (44, .tup []), (43, .tup [])] [] (by kernel_rfl) ?_
                      refine SimI.done (by kernel_rfl) ?_
                      refine SimE.thenN ?_
                      refine Sim.condT (by kernel_rfl) ?_
                      refine Sim.exit ?_
                      refine SimE.blockY rfl ?_
                      refine SimE.thenX ?_
                      refine SimE.loopX ?_
                      refine SimE.blockY rfl ?_
                      refine SimE.thenX ?_
                      refine SimE.blockX ?_
                      refine SimE.thenN ?_
                      refine Sim.region0 ?_
                      refine SimI.run 2 [(9, .one (li .i64 (IntKind.wrap .i64 (i9 + 1)))), (51, .one (li .i64 (IntKind.wrap .i64 (i9 + 1))))] [] (by kernel_rfl) ?_
                      refine SimI.done (by kernel_rfl) ?_
                      refine SimE.loopN ?_
                      refine SimL.pre (ts := [1, 3, 9]) (os := [1, 100003]) [(1, .one (.ptr 1 0)), (3, .one (ownL 100003 g8 (l7h :: l7t))), (9, .one (li .i64 (IntKind.wrap .i64 (i9 + 1))))] ((1, some (.cells [li .i64 a0.X0, li .i64 a0.Y0, li .i64 a0.X1, li .i64 a0.Y1])) :: (ownM (codI .i64) 3 100003 g8 (l7h :: l7t) [])) (by kernel_rfl) (by kernel_rfl) (by kernel_rfl) ?_
                      exact ih_l10 (l7h :: l7t) (IntKind.wrap .i64 (i9 + 1)) g8
                    · refine SimI.run 1 [(43, .agg [li .i64 a0.X0, li .i64 a0.Y0, li .i64 a0.X1, li .i64 a0.Y1])] [] (by kernel_rfl) ?_
                      refine SimI.bind (og := F58 n a0) { dst := some 44, op := POp.call true [[]] 58 [Operand.tmp 43], guard := some (42, false), hints := [] } (fun r15 => [(44, .one (lb r15))]) (fun r15 => []) (by kernel_rfl) (fun r15 hr => pOp_eff (by kernel_rfl) (by kernel_rfl) (eff_call (ARGS := [.agg [li .i64 a0.X0, li .i64 a0.Y0, li .i64 a0.X1, li .i64 a0.Y1]]) (by kernel_rfl) (args_clean (by kernel_rfl) args_nil) (F58_ok n a0 r15 hr) (by kernel_rfl))) (fun r15 => ?_)
                      refine SimI.run 1 [(45, .one (lb r15))] [] (by kernel_rfl) ?_
                      refine SimI.done (by kernel_rfl) ?_
                      refine SimE.thenN ?_
                      refine Sim.cond r15 (by kernel_rfl) ?_ ?_
                      · refine Sim.exit ?_
                        refine SimE.blockY rfl ?_
                        refine SimE.thenX ?_
                        refine SimE.loopX ?_
                        refine SimE.blockY rfl ?_
                        refine SimE.thenX ?_
                        refine SimE.blockX ?_
                        refine SimE.thenN ?_
                        refine Sim.region0 ?_
                        refine SimI.run 2 [(9, .one (li .i64 (IntKind.wrap .i64 (i9 + 1)))), (51, .one (li .i64 (IntKind.wrap .i64 (i9 + 1))))] [] (by kernel_rfl) ?_
                        refine SimI.done (by kernel_rfl) ?_
                        refine SimE.loopN ?_
                        refine SimL.pre (ts := [1, 3, 9]) (os := [1, 100003]) [(1, .one (.ptr 1 0)), (3, .one (ownL 100003 g8 (l7h :: l7t))), (9, .one (li .i64 (IntKind.wrap .i64 (i9 + 1))))] ((1, some (.cells [li .i64 a0.X0, li .i64 a0.Y0, li .i64 a0.X1, li .i64 a0.Y1])) :: (ownM (codI .i64) 3 100003 g8 (l7h :: l7t) [])) (by kernel_rfl) (by kernel_rfl) (by kernel_rfl) ?_
                        exact ih_l10 (l7h :: l7t) (IntKind.wrap .i64 (i9 + 1)) g8
                      · refine Sim.skip ?_
                        refine SimE.blockN ?_
                        refine SimE.thenN ?_
                        refine Sim.region0 ?_
                        refine SimI.run 2 [(38, .one (li .i64 4)), (46, .one (li .i64 4))] [] (by kernel_rfl) ?_
                        refine SimI.done (by kernel_rfl) ?_
                        refine SimE.loopN ?_
                        refine SimL.succ ?_
                        refine Sim.seq ?_
                        refine Sim.region [(1, .one (.ptr 1 0)), (3, .one (.osl 100003 g8 0 ((l7h :: l7t)).length)), (4, .one (li .i64 i9)), (9, .one (li .i64 i9)), (37, .agg [lb (decide (a0.X1 ≤ r11.1.X0)), lb (decide (r11.1.X1 ≤ a0.X0)), lb (decide (a0.Y1 ≤ r11.1.Y0)), lb (decide (r11.1.Y1 ≤ a0.Y0))]), (38, .one (li .i64 4))] ((1, some (.cells [li .i64 a0.X0, li .i64 a0.Y0, li .i64 a0.X1, li .i64 a0.Y1])) :: ((100003, some (.arr 3 (codI .i64).sz g8 ((l7h :: l7t)).length (getOf (codI .i64) (l7h :: l7t)))) :: [])) (by kernel_rfl) ?_
                        refine SimI.run 1 [(39, .one (lb false))] [] (by kernel_rfl) ?_
                        refine SimI.done (by kernel_rfl) ?_
                        refine SimE.thenN ?_
                        refine Sim.seq ?_
                        refine Sim.condF (by kernel_rfl) ?_
                        refine Sim.exit ?_
                        refine SimE.thenX ?_
                        refine SimE.loopX ?_
                        refine SimE.blockX ?_
                        refine SimE.thenN ?_
                        refine Sim.region0 ?_
                        refine SimI.run 3 [(49, .one (vw (codI .i64) [i9])), (48, .one (li .i64 i9)), (47, .one (.osl 100003 g8 0 ((l7h :: l7t)).length))] [] (by kernel_rfl) ?_
                        refine SimI.guard (c := (((l7h :: l7t)).length + 1) * 8 ≤ maxCells ∧ ((l7h :: l7t)).length + 1 ≤ maxCells) { dst := some 50, op := POp.app 100003 3 1 8 (Operand.tmp 47) (Operand.tmp 49), guard := none, hints := [] } [(50, .one (.osl 100003 (g8 + 1) 0 (((l7h :: l7t) ++ [i9])).length))] [(100003, some (.arr 3 (codI .i64).sz (g8 + 1) (((l7h :: l7t) ++ [i9])).length (getOf (codI .i64) ((l7h :: l7t) ++ [i9]))))] (by kernel_rfl) (fun hc => pOp_eff (by kernel_rfl) (by kernel_rfl) (eff_appO (c := (codI .i64)) (g := g8) (l := (l7h :: l7t)) (a := i9) (by kernel_rfl) (by kernel_rfl) (by kernel_rfl) (by kernel_rfl) hc)) ?_
                        refine SimI.run 1 [(3, .one (.osl 100003 (g8 + 1) 0 (((l7h :: l7t) ++ [i9])).length))] [] (by kernel_rfl) ?_
                        refine SimI.done (by kernel_rfl) ?_
                        refine SimE.blockN ?_
                        refine SimE.thenN ?_
                        refine Sim.region0 ?_
                        refine SimI.run 2 [(9, .one (li .i64 (IntKind.wrap .i64 (i9 + 1)))), (51, .one (li .i64 (IntKind.wrap .i64 (i9 + 1))))] [] (by kernel_rfl) ?_
                        refine SimI.done (by kernel_rfl) ?_
                        refine SimE.loopN ?_
                        refine SimL.pre (ts := [1, 3, 9]) (os := [1, 100003]) [(1, .one (.ptr 1 0)), (3, .one (ownL 100003 (g8 + 1) ((l7h :: l7t) ++ [i9]))), (9, .one (li .i64 (IntKind.wrap .i64 (i9 + 1))))] ((1, some (.cells [li .i64 a0.X0, li .i64 a0.Y0, li .i64 a0.X1, li .i64 a0.Y1])) :: (ownM (codI .i64) 3 100003 (g8 + 1) ((l7h :: l7t) ++ [i9]) [])) (by kernel_rfl) (by kernel_rfl) (by kernel_rfl) ?_
                        exact ih_l10 ((l7h :: l7t) ++ [i9]) (IntKind.wrap .i64 (i9 + 1)) (g8 + 1)
      · refine Sim.exit ?_
        refine SimE.thenX ?_
        refine SimE.loopX ?_
        refine SimE.blockX ?_
        refine SimE.thenN ?_
        refine Sim.seq ?_
        refine Sim.region0 ?_
        refine SimI.run 2 [(2, .one (.osl 100003 g8 0 ((l7h :: l7t)).length)), (52, .one (.osl 100003 g8 0 ((l7h :: l7t)).length))] [] (by kernel_rfl) ?_
        refine SimI.done (by kernel_rfl) ?_
        refine SimE.thenN ?_
        refine Sim.ret ?_
        exact SimE.fin (out_of (os := []) (ress_cons (resOf_own (c := (codI .i64)) (k := 100003) (g := g8) (el := 3) (l := (l7h :: l7t)) (by kernel_rfl) (by kernel_rfl)) (ress_nil)) (by kernel_rfl) (by kernel_rfl))

def F29 (n : Nat) (a0 : Rect) : Option (List Int) :=
  F29_l10 n a0 (n + 8) ([] : List Int) 0
theorem F29_ok (n : Nat) (a0 : Rect) : ∀ r, F29 n a0 = some r → D 29 [.agg [li .i64 a0.X0, li .i64 a0.Y0, li .i64 a0.X1, li .i64 a0.Y1]] [] = some (F29_e r) := by
  refine fn_to (D := D) (n := n + 8) (nt := 53) (rs := pc29_r) (c := pc29_c50) (L := [(0, .agg [li .i64 a0.X0, li .i64 a0.Y0, li .i64 a0.X1, li .i64 a0.Y1])]) (M := []) (k := 0) rfl rfl rfl rfl rfl rfl ?_
  unfold F29
  refine Sim.seq ?_
  refine Sim.region0 ?_
  refine SimI.run 2 [(2, .one (lnil)), (1, .one (.ptr 1 0))] [(1, some (.cells [li .i64 a0.X0, li .i64 a0.Y0, li .i64 a0.X1, li .i64 a0.Y1]))] (by kernel_rfl) ?_
  refine SimI.done (by kernel_rfl) ?_
  refine SimE.thenN ?_
  refine Sim.scope ?_
  refine Sim.seq ?_
  refine Sim.region0 ?_
  refine SimI.run 1 [(3, .one (lnil))] [] (by kernel_rfl) ?_
  refine SimI.done (by kernel_rfl) ?_
  refine SimE.thenN ?_
  refine Sim.seq ?_
  refine Sim.label ?_
  refine SimE.thenN ?_
  refine Sim.seq ?_
  refine Sim.seq ?_
  refine Sim.region0 ?_
  refine SimI.run 1 [(9, .one (li .i64 0))] [] (by kernel_rfl) ?_
  refine SimI.done (by kernel_rfl) ?_
  refine SimE.thenN ?_
  refine Sim.block ?_
  refine Sim.loop ?_
  refine SimL.pre (ts := [1, 3, 9]) (os := [1, 100003]) [(1, .one (.ptr 1 0)), (3, .one (ownL 100003 0 ([] : List Int))), (9, .one (li .i64 0))] ((1, some (.cells [li .i64 a0.X0, li .i64 a0.Y0, li .i64 a0.X1, li .i64 a0.Y1])) :: (ownM (codI .i64) 3 100003 0 ([] : List Int) [])) (by kernel_rfl) (by kernel_rfl) (by kernel_rfl) ?_
  exact F29_l10_ok n a0 (n + 8) ([] : List Int) 0 0


-- 61: vedette/cells.Beside$1
def F61_e : Bool → PV × List (List Lf) := fun r => (.one (lb r), [])
def F61 (n : Nat) (a0 : Int) (a1 : Int) : Option Bool :=
  some (decide (IntKind.wrap .i64 (imax a0 a1 - imin a0 a1) ≤ 1))
theorem F61_ok (n : Nat) (a0 : Int) (a1 : Int) : ∀ r, F61 n a0 a1 = some r → D 61 [.one (li .i64 a0), .one (li .i64 a1)] [] = some (F61_e r) := by
  refine fn_to (D := D) (n := n + 8) (nt := 13) (rs := pc61_r) (c := pc61_c5) (L := [(0, .one (li .i64 a0)), (1, .one (li .i64 a1))]) (M := []) (k := 0) rfl rfl rfl rfl rfl rfl ?_
  unfold F61
  refine Sim.seq ?_
  refine Sim.region0 ?_
  refine SimI.run 1 [(4, .one (lb false))] [] (by kernel_rfl) ?_
  refine SimI.done (by kernel_rfl) ?_
  refine SimE.thenN ?_
  refine Sim.seq ?_
  refine Sim.region0 ?_
  refine SimI.run 9 [(4, .one (lb (decide (IntKind.wrap .i64 (imax a0 a1 - imin a0 a1) ≤ 1)))), (12, .one (lb (decide (IntKind.wrap .i64 (imax a0 a1 - imin a0 a1) ≤ 1)))), (11, .one (li .i64 (IntKind.wrap .i64 (imax a0 a1 - imin a0 a1)))), (10, .one (li .i64 (imin a0 a1))), (9, .one (li .i64 a1)), (8, .one (li .i64 a0)), (7, .one (li .i64 (imax a0 a1))), (6, .one (li .i64 a1)), (5, .one (li .i64 a0))] [] (by kernel_rfl) ?_
  refine SimI.done (by kernel_rfl) ?_
  refine SimE.thenN ?_
  refine Sim.ret ?_
  exact SimE.fin (by kernel_rfl)


-- 33: vedette/cells.Beside
def F33_e : Bool → PV × List (List Lf) := fun r => (.one (lb r), [])
def F33 (n : Nat) (a0 : Int) (a1 : Int) : Option Bool :=
  (F31 n a0).bind fun (r1 : Bool) =>
  if !(r1) then
    some false
  else
    (F31 n a1).bind fun (r2 : Bool) =>
    if !(r2) then
      some false
    else
      if a0 == a1 then
        some false
      else
        (F56 n a0).bind fun (r3 : (Int × Int)) =>
        (F56 n a1).bind fun (r4 : (Int × Int)) =>
        (F61 n r3.1 r4.1).bind fun (r5 : Bool) =>
        if r5 then
          (F61 n r3.2 r4.2).bind fun (r6 : Bool) =>
          some r6
        else
          some false
theorem F33_ok (n : Nat) (a0 : Int) (a1 : Int) : ∀ r, F33 n a0 a1 = some r → D 33 [.one (li .i64 a0), .one (li .i64 a1)] [] = some (F33_e r) := by
  refine fn_to (D := D) (n := n + 8) (nt := 43) (rs := pc33_r) (c := pc33_c19) (L := [(0, .one (li .i64 a0)), (1, .one (li .i64 a1))]) (M := []) (k := 0) rfl rfl rfl rfl rfl rfl ?_
  unfold F33
  refine Sim.seq ?_
  refine Sim.region0 ?_
  refine SimI.run 1 [(4, .one (lb false))] [] (by kernel_rfl) ?_
  refine SimI.done (by kernel_rfl) ?_
  refine SimE.thenN ?_
  refine Sim.seq ?_
  refine Sim.seq ?_
  refine Sim.region0 ?_
  refine SimI.run 1 [(10, .one (li .i64 a0))] [] (by kernel_rfl) ?_
  refine SimI.bind (og := F31 n a0) { dst := some 11, op := POp.call true [[]] 31 [Operand.tmp 10], guard := none, hints := [] } (fun r1 => [(11, .one (lb r1))]) (fun r1 => []) (by kernel_rfl) (fun r1 hr => pOp_eff (by kernel_rfl) (by kernel_rfl) (eff_call (ARGS := [.one (li .i64 a0)]) (by kernel_rfl) (args_clean (by kernel_rfl) args_nil) (F31_ok n a0 r1 hr) (by kernel_rfl))) (fun r1 => ?_)
  refine SimI.run 2 [(13, .one (lb (!(r1)))), (12, .one (lb (!(r1))))] [] (by kernel_rfl) ?_
  refine SimI.split 13 (!(r1)) (by kernel_rfl) ?_ ?_
  · refine SimI.run 9 [(22, .one (lb true)), (21, .tup []), (20, .tup []), (19, .tup []), (18, .one (lb true)), (17, .one (lb true)), (16, .tup []), (15, .tup []), (14, .tup [])] [] (by kernel_rfl) ?_
    refine SimI.done (by kernel_rfl) ?_
    refine SimE.thenN ?_
    refine Sim.condT (by kernel_rfl) ?_
    refine Sim.seq ?_
    refine Sim.region0 ?_
    refine SimI.run 1 [(4, .one (lb false))] [] (by kernel_rfl) ?_
    refine SimI.done (by kernel_rfl) ?_
    refine SimE.thenN ?_
    refine Sim.ret ?_
    refine SimE.thenR ?_
    exact SimE.fin (by kernel_rfl)
  · refine SimI.run 1 [(14, .one (li .i64 a1))] [] (by kernel_rfl) ?_
    refine SimI.bind (og := F31 n a1) { dst := some 15, op := POp.call true [[]] 31 [Operand.tmp 14], guard := some (13, false), hints := [] } (fun r2 => [(15, .one (lb r2))]) (fun r2 => []) (by kernel_rfl) (fun r2 hr => pOp_eff (by kernel_rfl) (by kernel_rfl) (eff_call (ARGS := [.one (li .i64 a1)]) (by kernel_rfl) (args_clean (by kernel_rfl) args_nil) (F31_ok n a1 r2 hr) (by kernel_rfl))) (fun r2 => ?_)
    refine SimI.run 3 [(18, .one (lb (!(r2)))), (17, .one (lb (!(r2)))), (16, .one (lb (!(r2))))] [] (by kernel_rfl) ?_
    refine SimI.split 18 (!(r2)) (by kernel_rfl) ?_ ?_
    · refine SimI.run 4 [(22, .one (lb true)), (21, .tup []), (20, .tup []), (19, .tup [])] [] (by kernel_rfl) ?_
      refine SimI.done (by kernel_rfl) ?_
      refine SimE.thenN ?_
      refine Sim.condT (by kernel_rfl) ?_
      refine Sim.seq ?_
      refine Sim.region0 ?_
      refine SimI.run 1 [(4, .one (lb false))] [] (by kernel_rfl) ?_
      refine SimI.done (by kernel_rfl) ?_
      refine SimE.thenN ?_
      refine Sim.ret ?_
      refine SimE.thenR ?_
      exact SimE.fin (by kernel_rfl)
    · refine SimI.run 4 [(22, .one (lb (a0 == a1))), (21, .one (lb (a0 == a1))), (20, .one (li .i64 a1)), (19, .one (li .i64 a0))] [] (by kernel_rfl) ?_
      refine SimI.done (by kernel_rfl) ?_
      refine SimE.thenN ?_
      refine Sim.cond (a0 == a1) (by kernel_rfl) ?_ ?_
      · refine Sim.seq ?_
        refine Sim.region0 ?_
        refine SimI.run 1 [(4, .one (lb false))] [] (by kernel_rfl) ?_
        refine SimI.done (by kernel_rfl) ?_
        refine SimE.thenN ?_
        refine Sim.ret ?_
        refine SimE.thenR ?_
        exact SimE.fin (by kernel_rfl)
      · refine Sim.skip ?_
        refine SimE.thenN ?_
        refine Sim.seq ?_
        refine Sim.region0 ?_
        refine SimI.run 1 [(24, .one (li .i64 a0))] [] (by kernel_rfl) ?_
        refine SimI.bind (og := F56 n a0) { dst := some 25, op := POp.call true [[]] 56 [Operand.tmp 24], guard := none, hints := [] } (fun r3 => [(25, .tup [.one (li .i64 r3.1), .one (li .i64 r3.2)])]) (fun r3 => []) (by kernel_rfl) (fun r3 hr => pOp_eff (by kernel_rfl) (by kernel_rfl) (eff_call (ARGS := [.one (li .i64 a0)]) (by kernel_rfl) (args_clean (by kernel_rfl) args_nil) (F56_ok n a0 r3 hr) (by kernel_rfl))) (fun r3 => ?_)
        refine SimI.run 5 [(6, .one (li .i64 r3.2)), (5, .one (li .i64 r3.1)), (27, .one (li .i64 r3.2)), (26, .one (li .i64 r3.1)), (23, .tup [.one (li .i64 r3.1), .one (li .i64 r3.2)])] [] (by kernel_rfl) ?_
        refine SimI.done (by kernel_rfl) ?_
        refine SimE.thenN ?_
        refine Sim.seq ?_
        refine Sim.region0 ?_
        refine SimI.run 1 [(29, .one (li .i64 a1))] [] (by kernel_rfl) ?_
        refine SimI.bind (og := F56 n a1) { dst := some 30, op := POp.call true [[]] 56 [Operand.tmp 29], guard := none, hints := [] } (fun r4 => [(30, .tup [.one (li .i64 r4.1), .one (li .i64 r4.2)])]) (fun r4 => []) (by kernel_rfl) (fun r4 hr => pOp_eff (by kernel_rfl) (by kernel_rfl) (eff_call (ARGS := [.one (li .i64 a1)]) (by kernel_rfl) (args_clean (by kernel_rfl) args_nil) (F56_ok n a1 r4 hr) (by kernel_rfl))) (fun r4 => ?_)
        refine SimI.run 5 [(8, .one (li .i64 r4.2)), (7, .one (li .i64 r4.1)), (32, .one (li .i64 r4.2)), (31, .one (li .i64 r4.1)), (28, .tup [.one (li .i64 r4.1), .one (li .i64 r4.2)])] [] (by kernel_rfl) ?_
        refine SimI.done (by kernel_rfl) ?_
        refine SimE.thenN ?_
        refine Sim.seq ?_
        refine Sim.region0 ?_
        refine SimI.run 1 [(9, .one (.val (.func (.func 61) #[] #[])))] [] (by kernel_rfl) ?_
        refine SimI.done (by kernel_rfl) ?_
        refine SimE.thenN ?_
        refine Sim.seq ?_
        refine Sim.region0 ?_
        refine SimI.run 3 [(35, .one (li .i64 r4.1)), (34, .one (li .i64 r3.1)), (33, .one (.val (.func (.func 61) #[] #[])))] [] (by kernel_rfl) ?_
        refine SimI.bind (og := F61 n r3.1 r4.1) { dst := some 36, op := POp.callv true [[], []] (Operand.tmp 33) [Operand.tmp 34, Operand.tmp 35], guard := none, hints := [] } (fun r5 => [(36, .one (lb r5))]) (fun r5 => []) (by kernel_rfl) (fun r5 hr => pOp_eff (by kernel_rfl) (by kernel_rfl) (eff_callvv (by kernel_rfl) (ARGS := [.one (li .i64 r3.1), .one (li .i64 r4.1)]) (by kernel_rfl) (args_clean (by kernel_rfl) (args_clean (by kernel_rfl) args_nil)) (F61_ok n r3.1 r4.1 r5 hr) (by kernel_rfl))) (fun r5 => ?_)
        refine SimI.run 1 [(37, .one (lb r5))] [] (by kernel_rfl) ?_
        refine SimI.split 37 r5 (by kernel_rfl) ?_ ?_
        · refine SimI.run 3 [(40, .one (li .i64 r4.2)), (39, .one (li .i64 r3.2)), (38, .one (.val (.func (.func 61) #[] #[])))] [] (by kernel_rfl) ?_
          refine SimI.bind (og := F61 n r3.2 r4.2) { dst := some 41, op := POp.callv true [[], []] (Operand.tmp 38) [Operand.tmp 39, Operand.tmp 40], guard := some (37, true), hints := [] } (fun r6 => [(41, .one (lb r6))]) (fun r6 => []) (by kernel_rfl) (fun r6 hr => pOp_eff (by kernel_rfl) (by kernel_rfl) (eff_callvv (by kernel_rfl) (ARGS := [.one (li .i64 r3.2), .one (li .i64 r4.2)]) (by kernel_rfl) (args_clean (by kernel_rfl) (args_clean (by kernel_rfl) args_nil)) (F61_ok n r3.2 r4.2 r6 hr) (by kernel_rfl))) (fun r6 => ?_)
          refine SimI.run 2 [(4, .one (lb r6)), (42, .one (lb r6))] [] (by kernel_rfl) ?_
          refine SimI.done (by kernel_rfl) ?_
          refine SimE.thenN ?_
          refine Sim.ret ?_
          exact SimE.fin (by kernel_rfl)
        · refine SimI.run 6 [(4, .one (lb false)), (42, .one (lb false)), (41, .tup []), (40, .tup []), (39, .tup []), (38, .tup [])] [] (by kernel_rfl) ?_
          refine SimI.done (by kernel_rfl) ?_
          refine SimE.thenN ?_
          refine Sim.ret ?_
          exact SimE.fin (by kernel_rfl)


-- 24: vedette/vedettelaw5.known
theorem F24_ok (n : Nat) : ∀ r, (some true : Option Bool) = some r → D 24 [] [] = some (.one (lb r), []) := by
  rintro _ ⟨⟩
  exact all_of (N := 60) (by kernel_rfl)


-- 54: vedette/vedetteref3.On
def F54_e : Bool → PV × List (List Lf) := fun r => (.one (lb r), [])
def F54 (n : Nat) (a0 : Point) : Option Bool :=
  if decide ((0 : Int) ≤ a0.X) then
    if decide (a0.X < 64) then
      if decide ((0 : Int) ≤ a0.Y) then
        some (decide (a0.Y < 64))
      else
        some false
    else
      some false
  else
    some false
theorem F54_ok (n : Nat) (a0 : Point) : ∀ r, F54 n a0 = some r → D 54 [.agg [li .i64 a0.X, li .i64 a0.Y]] [] = some (F54_e r) := by
  refine fn_to (D := D) (n := n + 8) (nt := 21) (rs := pc54_r) (c := pc54_c5) (L := [(0, .agg [li .i64 a0.X, li .i64 a0.Y])]) (M := []) (k := 0) rfl rfl rfl rfl rfl rfl ?_
  unfold F54
  refine Sim.seq ?_
  refine Sim.region0 ?_
  refine SimI.run 2 [(2, .one (lb false)), (1, .one (.ptr 1 0))] [(1, some (.cells [li .i64 a0.X, li .i64 a0.Y]))] (by kernel_rfl) ?_
  refine SimI.done (by kernel_rfl) ?_
  refine SimE.thenN ?_
  refine Sim.seq ?_
  refine Sim.region0 ?_
  refine SimI.run 4 [(6, .one (lb (decide ((0 : Int) ≤ a0.X)))), (5, .one (lb (decide ((0 : Int) ≤ a0.X)))), (4, .one (li .i64 a0.X)), (3, .one (.ptr 1 0))] [] (by kernel_rfl) ?_
  refine SimI.split 6 (decide ((0 : Int) ≤ a0.X)) (by kernel_rfl) ?_ ?_
  · refine SimI.run 5 [(11, .one (lb (decide (a0.X < 64)))), (10, .one (lb (decide (a0.X < 64)))), (9, .one (lb (decide (a0.X < 64)))), (8, .one (li .i64 a0.X)), (7, .one (.ptr 1 0))] [] (by kernel_rfl) ?_
    refine SimI.split 11 (decide (a0.X < 64)) (by kernel_rfl) ?_ ?_
    · refine SimI.run 5 [(16, .one (lb (decide ((0 : Int) ≤ a0.Y)))), (15, .one (lb (decide ((0 : Int) ≤ a0.Y)))), (14, .one (lb (decide ((0 : Int) ≤ a0.Y)))), (13, .one (li .i64 a0.Y)), (12, .one (.ptr 1 1))] [] (by kernel_rfl) ?_
      refine SimI.split 16 (decide ((0 : Int) ≤ a0.Y)) (by kernel_rfl) ?_ ?_
      · refine SimI.run 5 [(2, .one (lb (decide (a0.Y < 64)))), (20, .one (lb (decide (a0.Y < 64)))), (19, .one (lb (decide (a0.Y < 64)))), (18, .one (li .i64 a0.Y)), (17, .one (.ptr 1 1))] [] (by kernel_rfl) ?_
        refine SimI.done (by kernel_rfl) ?_
        refine SimE.thenN ?_
        refine Sim.ret ?_
        exact SimE.fin (by kernel_rfl)
      · refine SimI.run 5 [(2, .one (lb false)), (20, .one (lb false)), (19, .tup []), (18, .tup []), (17, .tup [])] [] (by kernel_rfl) ?_
        refine SimI.done (by kernel_rfl) ?_
        refine SimE.thenN ?_
        refine Sim.ret ?_
        exact SimE.fin (by kernel_rfl)
    · refine SimI.run 10 [(2, .one (lb false)), (20, .one (lb false)), (19, .tup []), (18, .tup []), (17, .tup []), (16, .one (lb false)), (15, .one (lb false)), (14, .tup []), (13, .tup []), (12, .tup [])] [] (by kernel_rfl) ?_
      refine SimI.done (by kernel_rfl) ?_
      refine SimE.thenN ?_
      refine Sim.ret ?_
      exact SimE.fin (by kernel_rfl)
  · refine SimI.run 15 [(2, .one (lb false)), (20, .one (lb false)), (19, .tup []), (18, .tup []), (17, .tup []), (16, .one (lb false)), (15, .one (lb false)), (14, .tup []), (13, .tup []), (12, .tup []), (11, .one (lb false)), (10, .one (lb false)), (9, .tup []), (8, .tup []), (7, .tup [])] [] (by kernel_rfl) ?_
    refine SimI.done (by kernel_rfl) ?_
    refine SimE.thenN ?_
    refine Sim.ret ?_
    exact SimE.fin (by kernel_rfl)


-- 55: vedette/vedetteref3.Weave
def F55_e : Int → PV × List (List Lf) := fun r => (.one (li .u32 r), [])
def F55_l7 (n : Nat) (a0 : Int) (a1 : Int) : Nat → Int → Int → Option Int
  | 0, _, _ => none
  | m + 1, i5, i6 =>
    if decide (i6 < 16) then
      if ¬ (IntKind.wrap .u64 i6 < 0) then
        if ¬ (IntKind.wrap .u64 (IntKind.wrap .i64 (2 * i6)) < 0) then
          if ¬ (IntKind.wrap .u64 i6 < 0) then
            if ¬ (IntKind.wrap .u64 (IntKind.wrap .i64 (IntKind.wrap .i64 (2 * i6) + 1)) < 0) then
              (F55_l7 n a0 a1 m) (bitsI .or .u32 (bitsI .or .u32 i5 (shlI .u32 (IntKind.wrap .u32 (bitsI .and .u16 (shrI .u16 a0 (IntKind.wrap .u64 i6)) 1)) (IntKind.wrap .u64 (IntKind.wrap .i64 (2 * i6))))) (shlI .u32 (IntKind.wrap .u32 (bitsI .and .u16 (shrI .u16 a1 (IntKind.wrap .u64 i6)) 1)) (IntKind.wrap .u64 (IntKind.wrap .i64 (IntKind.wrap .i64 (2 * i6) + 1))))) (IntKind.wrap .i64 (i6 + 1))
            else none
          else none
        else none
      else none
    else
      some i5
theorem F55_l7_ok (n : Nat) (a0 : Int) (a1 : Int) : ∀ (m : Nat) (i5 : Int) (i6 : Int), SimL Try.prog D (n + 8) m pc55_c13 [(0, .one (li .u16 a0)), (1, .one (li .u16 a1)), (5, .one (li .u32 i5)), (6, .one (li .i64 i6))] [] (F55_l7 n a0 a1 m i5 i6) (QB 0 (QT Try.prog D (n + 8) pc55_c19 (QF pc55_r 0 F55_e))) := by
  intro m_l7
  induction m_l7 with
  | zero => intro i5 i6; exact SimL.zero'  rfl
  | succ m_l7 ih_l7 =>
    intro i5 i6
    refine SimL.succ ?_
    unfold F55_l7
    refine Sim.seq ?_
    refine Sim.seq ?_
    refine Sim.region [(0, .one (li .u16 a0)), (1, .one (li .u16 a1)), (5, .one (li .u32 i5)), (6, .one (li .i64 i6))] [] (by kernel_rfl) ?_
    refine SimI.run 2 [(8, .one (lb (decide (i6 < 16)))), (7, .one (li .i64 i6))] [] (by kernel_rfl) ?_
    refine SimI.done (by kernel_rfl) ?_
    refine SimE.thenN ?_
    refine Sim.cond (decide (i6 < 16)) (by kernel_rfl) ?_ ?_
    · refine Sim.skip ?_
      refine SimE.thenN ?_
      refine Sim.seq ?_
      refine Sim.block ?_
      refine Sim.region0 ?_
      refine SimI.run 4 [(14, .one (li .u64 (IntKind.wrap .u64 i6))), (13, .one (li .i64 i6)), (12, .one (li .u16 a0)), (11, .one (li .u32 i5))] [] (by kernel_rfl) ?_
      refine SimI.guard (c := ¬ (IntKind.wrap .u64 i6 < 0)) { dst := some 15, op := POp.prim (Prim.bin BinOp.shr 93 false false) [Operand.tmp 12, Operand.tmp 14], guard := none, hints := [] } [(15, .one (li .u16 (shrI .u16 a0 (IntKind.wrap .u64 i6))))] [] (by kernel_rfl) (fun hc => pOp_eff (by kernel_rfl) (by kernel_rfl) (eff_prim (by kernel_rfl) (pr_shr _ _ _ .u16 .u64 a0 (IntKind.wrap .u64 i6) hc))) ?_
      refine SimI.run 5 [(20, .one (li .u64 (IntKind.wrap .u64 (IntKind.wrap .i64 (2 * i6))))), (19, .one (li .i64 (IntKind.wrap .i64 (2 * i6)))), (18, .one (li .i64 i6)), (17, .one (li .u32 (IntKind.wrap .u32 (bitsI .and .u16 (shrI .u16 a0 (IntKind.wrap .u64 i6)) 1)))), (16, .one (li .u16 (bitsI .and .u16 (shrI .u16 a0 (IntKind.wrap .u64 i6)) 1)))] [] (by kernel_rfl) ?_
      refine SimI.guard (c := ¬ (IntKind.wrap .u64 (IntKind.wrap .i64 (2 * i6)) < 0)) { dst := some 21, op := POp.prim (Prim.bin BinOp.shl 91 false false) [Operand.tmp 17, Operand.tmp 20], guard := none, hints := [] } [(21, .one (li .u32 (shlI .u32 (IntKind.wrap .u32 (bitsI .and .u16 (shrI .u16 a0 (IntKind.wrap .u64 i6)) 1)) (IntKind.wrap .u64 (IntKind.wrap .i64 (2 * i6))))))] [] (by kernel_rfl) (fun hc => pOp_eff (by kernel_rfl) (by kernel_rfl) (eff_prim (by kernel_rfl) (pr_shl _ _ _ .u32 .u64 (IntKind.wrap .u32 (bitsI .and .u16 (shrI .u16 a0 (IntKind.wrap .u64 i6)) 1)) (IntKind.wrap .u64 (IntKind.wrap .i64 (2 * i6))) hc))) ?_
      refine SimI.run 4 [(25, .one (li .u64 (IntKind.wrap .u64 i6))), (24, .one (li .i64 i6)), (23, .one (li .u16 a1)), (22, .one (li .u32 (bitsI .or .u32 i5 (shlI .u32 (IntKind.wrap .u32 (bitsI .and .u16 (shrI .u16 a0 (IntKind.wrap .u64 i6)) 1)) (IntKind.wrap .u64 (IntKind.wrap .i64 (2 * i6)))))))] [] (by kernel_rfl) ?_
      refine SimI.guard (c := ¬ (IntKind.wrap .u64 i6 < 0)) { dst := some 26, op := POp.prim (Prim.bin BinOp.shr 93 false false) [Operand.tmp 23, Operand.tmp 25], guard := none, hints := [] } [(26, .one (li .u16 (shrI .u16 a1 (IntKind.wrap .u64 i6))))] [] (by kernel_rfl) (fun hc => pOp_eff (by kernel_rfl) (by kernel_rfl) (eff_prim (by kernel_rfl) (pr_shr _ _ _ .u16 .u64 a1 (IntKind.wrap .u64 i6) hc))) ?_
      refine SimI.run 6 [(32, .one (li .u64 (IntKind.wrap .u64 (IntKind.wrap .i64 (IntKind.wrap .i64 (2 * i6) + 1))))), (31, .one (li .i64 (IntKind.wrap .i64 (IntKind.wrap .i64 (2 * i6) + 1)))), (30, .one (li .i64 (IntKind.wrap .i64 (2 * i6)))), (29, .one (li .i64 i6)), (28, .one (li .u32 (IntKind.wrap .u32 (bitsI .and .u16 (shrI .u16 a1 (IntKind.wrap .u64 i6)) 1)))), (27, .one (li .u16 (bitsI .and .u16 (shrI .u16 a1 (IntKind.wrap .u64 i6)) 1)))] [] (by kernel_rfl) ?_
      refine SimI.guard (c := ¬ (IntKind.wrap .u64 (IntKind.wrap .i64 (IntKind.wrap .i64 (2 * i6) + 1)) < 0)) { dst := some 33, op := POp.prim (Prim.bin BinOp.shl 91 false false) [Operand.tmp 28, Operand.tmp 32], guard := none, hints := [] } [(33, .one (li .u32 (shlI .u32 (IntKind.wrap .u32 (bitsI .and .u16 (shrI .u16 a1 (IntKind.wrap .u64 i6)) 1)) (IntKind.wrap .u64 (IntKind.wrap .i64 (IntKind.wrap .i64 (2 * i6) + 1))))))] [] (by kernel_rfl) (fun hc => pOp_eff (by kernel_rfl) (by kernel_rfl) (eff_prim (by kernel_rfl) (pr_shl _ _ _ .u32 .u64 (IntKind.wrap .u32 (bitsI .and .u16 (shrI .u16 a1 (IntKind.wrap .u64 i6)) 1)) (IntKind.wrap .u64 (IntKind.wrap .i64 (IntKind.wrap .i64 (2 * i6) + 1))) hc))) ?_
      refine SimI.run 2 [(5, .one (li .u32 (bitsI .or .u32 (bitsI .or .u32 i5 (shlI .u32 (IntKind.wrap .u32 (bitsI .and .u16 (shrI .u16 a0 (IntKind.wrap .u64 i6)) 1)) (IntKind.wrap .u64 (IntKind.wrap .i64 (2 * i6))))) (shlI .u32 (IntKind.wrap .u32 (bitsI .and .u16 (shrI .u16 a1 (IntKind.wrap .u64 i6)) 1)) (IntKind.wrap .u64 (IntKind.wrap .i64 (IntKind.wrap .i64 (2 * i6) + 1))))))), (34, .one (li .u32 (bitsI .or .u32 (bitsI .or .u32 i5 (shlI .u32 (IntKind.wrap .u32 (bitsI .and .u16 (shrI .u16 a0 (IntKind.wrap .u64 i6)) 1)) (IntKind.wrap .u64 (IntKind.wrap .i64 (2 * i6))))) (shlI .u32 (IntKind.wrap .u32 (bitsI .and .u16 (shrI .u16 a1 (IntKind.wrap .u64 i6)) 1)) (IntKind.wrap .u64 (IntKind.wrap .i64 (IntKind.wrap .i64 (2 * i6) + 1)))))))] [] (by kernel_rfl) ?_
      refine SimI.done (by kernel_rfl) ?_
      refine SimE.blockN ?_
      refine SimE.thenN ?_
      refine Sim.region0 ?_
      refine SimI.run 3 [(6, .one (li .i64 (IntKind.wrap .i64 (i6 + 1)))), (10, .one (li .i64 (IntKind.wrap .i64 (i6 + 1)))), (9, .one (li .i64 i6))] [] (by kernel_rfl) ?_
      refine SimI.done (by kernel_rfl) ?_
      refine SimE.loopN ?_
      refine SimL.pre (ts := [0, 1, 5, 6]) (os := []) [(0, .one (li .u16 a0)), (1, .one (li .u16 a1)), (5, .one (li .u32 (bitsI .or .u32 (bitsI .or .u32 i5 (shlI .u32 (IntKind.wrap .u32 (bitsI .and .u16 (shrI .u16 a0 (IntKind.wrap .u64 i6)) 1)) (IntKind.wrap .u64 (IntKind.wrap .i64 (2 * i6))))) (shlI .u32 (IntKind.wrap .u32 (bitsI .and .u16 (shrI .u16 a1 (IntKind.wrap .u64 i6)) 1)) (IntKind.wrap .u64 (IntKind.wrap .i64 (IntKind.wrap .i64 (2 * i6) + 1))))))), (6, .one (li .i64 (IntKind.wrap .i64 (i6 + 1))))] [] (by kernel_rfl) (by kernel_rfl) (by kernel_rfl) ?_
      exact ih_l7 (bitsI .or .u32 (bitsI .or .u32 i5 (shlI .u32 (IntKind.wrap .u32 (bitsI .and .u16 (shrI .u16 a0 (IntKind.wrap .u64 i6)) 1)) (IntKind.wrap .u64 (IntKind.wrap .i64 (2 * i6))))) (shlI .u32 (IntKind.wrap .u32 (bitsI .and .u16 (shrI .u16 a1 (IntKind.wrap .u64 i6)) 1)) (IntKind.wrap .u64 (IntKind.wrap .i64 (IntKind.wrap .i64 (2 * i6) + 1))))) (IntKind.wrap .i64 (i6 + 1))
    · refine Sim.exit ?_
      refine SimE.thenX ?_
      refine SimE.loopX ?_
      refine SimE.blockX ?_
      refine SimE.thenN ?_
      refine Sim.seq ?_
      refine Sim.region0 ?_
      refine SimI.run 2 [(4, .one (li .u32 i5)), (35, .one (li .u32 i5))] [] (by kernel_rfl) ?_
      refine SimI.done (by kernel_rfl) ?_
      refine SimE.thenN ?_
      refine Sim.ret ?_
      exact SimE.fin (by kernel_rfl)

def F55 (n : Nat) (a0 : Int) (a1 : Int) : Option Int :=
  F55_l7 n a0 a1 (n + 8) 0 0
theorem F55_ok (n : Nat) (a0 : Int) (a1 : Int) : ∀ r, F55 n a0 a1 = some r → D 55 [.one (li .u16 a0), .one (li .u16 a1)] [] = some (F55_e r) := by
  refine fn_to (D := D) (n := n + 8) (nt := 36) (rs := pc55_r) (c := pc55_c22) (L := [(0, .one (li .u16 a0)), (1, .one (li .u16 a1))]) (M := []) (k := 0) rfl rfl rfl rfl rfl rfl ?_
  unfold F55
  refine Sim.seq ?_
  refine Sim.region0 ?_
  refine SimI.run 1 [(4, .one (li .u32 0))] [] (by kernel_rfl) ?_
  refine SimI.done (by kernel_rfl) ?_
  refine SimE.thenN ?_
  refine Sim.seq ?_
  refine Sim.region0 ?_
  refine SimI.run 1 [(5, .one (li .u32 0))] [] (by kernel_rfl) ?_
  refine SimI.done (by kernel_rfl) ?_
  refine SimE.thenN ?_
  refine Sim.seq ?_
  refine Sim.seq ?_
  refine Sim.region0 ?_
  refine SimI.run 1 [(6, .one (li .i64 0))] [] (by kernel_rfl) ?_
  refine SimI.done (by kernel_rfl) ?_
  refine SimE.thenN ?_
  refine Sim.block ?_
  refine Sim.loop ?_
  refine SimL.pre (ts := [0, 1, 5, 6]) (os := []) [(0, .one (li .u16 a0)), (1, .one (li .u16 a1)), (5, .one (li .u32 0)), (6, .one (li .i64 0))] [] (by kernel_rfl) (by kernel_rfl) (by kernel_rfl) ?_
  exact F55_l7_ok n a0 a1 (n + 8) 0 0


-- 26: vedette/vedetteref3.Cell
def F26_e : (Int × Int) → PV × List (List Lf) := fun r => (.tup [.one (li .i64 r.1), .one (li .i64 r.2)], [])
def F26 (n : Nat) (a0 : Point) : Option (Int × Int) :=
  (F54 n a0).bind fun (r1 : Bool) =>
  if !(r1) then
    some (0, 14)
  else
    (F55 n (IntKind.wrap .u16 (IntKind.wrap .i64 (Int.tdiv a0.X 16))) (IntKind.wrap .u16 (IntKind.wrap .i64 (Int.tdiv a0.Y 16)))).bind fun (r2 : Int) =>
    some (IntKind.wrap .i64 r2, 0)
theorem F26_ok (n : Nat) (a0 : Point) : ∀ r, F26 n a0 = some r → D 26 [.agg [li .i64 a0.X, li .i64 a0.Y]] [] = some (F26_e r) := by
  refine fn_to (D := D) (n := n + 8) (nt := 17) (rs := pc26_r) (c := pc26_c13) (L := [(0, .agg [li .i64 a0.X, li .i64 a0.Y])]) (M := []) (k := 0) rfl rfl rfl rfl rfl rfl ?_
  unfold F26
  refine Sim.seq ?_
  refine Sim.region0 ?_
  refine SimI.run 3 [(3, .one (li .i64 0)), (2, .one (li .i64 0)), (1, .one (.ptr 1 0))] [(1, some (.cells [li .i64 a0.X, li .i64 a0.Y]))] (by kernel_rfl) ?_
  refine SimI.done (by kernel_rfl) ?_
  refine SimE.thenN ?_
  refine Sim.seq ?_
  refine Sim.seq ?_
  refine Sim.region0 ?_
  refine SimI.run 1 [(4, .agg [li .i64 a0.X, li .i64 a0.Y])] [] (by kernel_rfl) ?_
  refine SimI.bind (og := F54 n a0) { dst := some 5, op := POp.call true [[]] 54 [Operand.tmp 4], guard := none, hints := [] } (fun r1 => [(5, .one (lb r1))]) (fun r1 => []) (by kernel_rfl) (fun r1 hr => pOp_eff (by kernel_rfl) (by kernel_rfl) (eff_call (ARGS := [.agg [li .i64 a0.X, li .i64 a0.Y]]) (by kernel_rfl) (args_clean (by kernel_rfl) args_nil) (F54_ok n a0 r1 hr) (by kernel_rfl))) (fun r1 => ?_)
  refine SimI.run 1 [(6, .one (lb (!(r1))))] [] (by kernel_rfl) ?_
  refine SimI.done (by kernel_rfl) ?_
  refine SimE.thenN ?_
  refine Sim.cond (!(r1)) (by kernel_rfl) ?_ ?_
  · refine Sim.seq ?_
    refine Sim.region0 ?_
    refine SimI.run 2 [(3, .one (li .i64 14)), (2, .one (li .i64 0))] [] (by kernel_rfl) ?_
    refine SimI.done (by kernel_rfl) ?_
    refine SimE.thenN ?_
    refine Sim.ret ?_
    refine SimE.thenR ?_
    exact SimE.fin (by kernel_rfl)
  · refine Sim.skip ?_
    refine SimE.thenN ?_
    refine Sim.seq ?_
    refine Sim.region0 ?_
    refine SimI.run 8 [(14, .one (li .u16 (IntKind.wrap .u16 (IntKind.wrap .i64 (Int.tdiv a0.Y 16))))), (13, .one (li .i64 (IntKind.wrap .i64 (Int.tdiv a0.Y 16)))), (12, .one (li .i64 a0.Y)), (11, .one (.ptr 1 1)), (10, .one (li .u16 (IntKind.wrap .u16 (IntKind.wrap .i64 (Int.tdiv a0.X 16))))), (9, .one (li .i64 (IntKind.wrap .i64 (Int.tdiv a0.X 16)))), (8, .one (li .i64 a0.X)), (7, .one (.ptr 1 0))] [] (by kernel_rfl) ?_
    refine SimI.bind (og := F55 n (IntKind.wrap .u16 (IntKind.wrap .i64 (Int.tdiv a0.X 16))) (IntKind.wrap .u16 (IntKind.wrap .i64 (Int.tdiv a0.Y 16)))) { dst := some 15, op := POp.call true [[], []] 55 [Operand.tmp 10, Operand.tmp 14], guard := none, hints := [] } (fun r2 => [(15, .one (li .u32 r2))]) (fun r2 => []) (by kernel_rfl) (fun r2 hr => pOp_eff (by kernel_rfl) (by kernel_rfl) (eff_call (ARGS := [.one (li .u16 (IntKind.wrap .u16 (IntKind.wrap .i64 (Int.tdiv a0.X 16)))), .one (li .u16 (IntKind.wrap .u16 (IntKind.wrap .i64 (Int.tdiv a0.Y 16))))]) (by kernel_rfl) (args_clean (by kernel_rfl) (args_clean (by kernel_rfl) args_nil)) (F55_ok n (IntKind.wrap .u16 (IntKind.wrap .i64 (Int.tdiv a0.X 16))) (IntKind.wrap .u16 (IntKind.wrap .i64 (Int.tdiv a0.Y 16))) r2 hr) (by kernel_rfl))) (fun r2 => ?_)
    refine SimI.run 3 [(3, .one (li .i64 0)), (2, .one (li .i64 (IntKind.wrap .i64 r2))), (16, .one (li .i64 (IntKind.wrap .i64 r2)))] [] (by kernel_rfl) ?_
    refine SimI.done (by kernel_rfl) ?_
    refine SimE.thenN ?_
    refine Sim.ret ?_
    exact SimE.fin (by kernel_rfl)


-- 32: vedette/vedetteref3.IsCell
def F32_e : Bool → PV × List (List Lf) := fun r => (.one (lb r), [])
def F32 (n : Nat) (a0 : Int) : Option Bool :=
  if decide ((0 : Int) ≤ a0) then
    some (decide (a0 < 16))
  else
    some false
theorem F32_ok (n : Nat) (a0 : Int) : ∀ r, F32 n a0 = some r → D 32 [.one (li .i64 a0)] [] = some (F32_e r) := by
  refine fn_to (D := D) (n := n + 8) (nt := 9) (rs := pc32_r) (c := pc32_c5) (L := [(0, .one (li .i64 a0))]) (M := []) (k := 0) rfl rfl rfl rfl rfl rfl ?_
  unfold F32
  refine Sim.seq ?_
  refine Sim.region0 ?_
  refine SimI.run 1 [(2, .one (lb false))] [] (by kernel_rfl) ?_
  refine SimI.done (by kernel_rfl) ?_
  refine SimE.thenN ?_
  refine Sim.seq ?_
  refine Sim.region0 ?_
  refine SimI.run 3 [(5, .one (lb (decide ((0 : Int) ≤ a0)))), (4, .one (lb (decide ((0 : Int) ≤ a0)))), (3, .one (li .i64 a0))] [] (by kernel_rfl) ?_
  refine SimI.split 5 (decide ((0 : Int) ≤ a0)) (by kernel_rfl) ?_ ?_
  · refine SimI.run 4 [(2, .one (lb (decide (a0 < 16)))), (8, .one (lb (decide (a0 < 16)))), (7, .one (lb (decide (a0 < 16)))), (6, .one (li .i64 a0))] [] (by kernel_rfl) ?_
    refine SimI.done (by kernel_rfl) ?_
    refine SimE.thenN ?_
    refine Sim.ret ?_
    exact SimE.fin (by kernel_rfl)
  · refine SimI.run 4 [(2, .one (lb false)), (8, .one (lb false)), (7, .tup []), (6, .tup [])] [] (by kernel_rfl) ?_
    refine SimI.done (by kernel_rfl) ?_
    refine SimE.thenN ?_
    refine Sim.ret ?_
    exact SimE.fin (by kernel_rfl)


-- 57: vedette/vedetteref3.Split
def F57_e : (Int × Int) → PV × List (List Lf) := fun r => (.tup [.one (li .u16 r.1), .one (li .u16 r.2)], [])
def F57_l10 (n : Nat) (a0 : Int) : Nat → Int → Int → Int → Option (Int × Int)
  | 0, _, _, _ => none
  | m + 1, i7, i8, i9 =>
    if decide (i9 < 16) then
      if ¬ (IntKind.wrap .u64 (IntKind.wrap .i64 (2 * i9)) < 0) then
        if ¬ (IntKind.wrap .u64 i9 < 0) then
          if ¬ (IntKind.wrap .u64 (IntKind.wrap .i64 (IntKind.wrap .i64 (2 * i9) + 1)) < 0) then
            if ¬ (IntKind.wrap .u64 i9 < 0) then
              (F57_l10 n a0 m) (bitsI .or .u16 i7 (shlI .u16 (IntKind.wrap .u16 (bitsI .and .u32 (shrI .u32 a0 (IntKind.wrap .u64 (IntKind.wrap .i64 (2 * i9)))) 1)) (IntKind.wrap .u64 i9))) (bitsI .or .u16 i8 (shlI .u16 (IntKind.wrap .u16 (bitsI .and .u32 (shrI .u32 a0 (IntKind.wrap .u64 (IntKind.wrap .i64 (IntKind.wrap .i64 (2 * i9) + 1)))) 1)) (IntKind.wrap .u64 i9))) (IntKind.wrap .i64 (i9 + 1))
            else none
          else none
        else none
      else none
    else
      some (i7, i8)
theorem F57_l10_ok (n : Nat) (a0 : Int) : ∀ (m : Nat) (i7 : Int) (i8 : Int) (i9 : Int), SimL Try.prog D (n + 8) m pc57_c15 [(0, .one (li .u32 a0)), (4, .one (li .u16 i7)), (5, .one (li .u16 i8)), (6, .one (li .i64 i9))] [] (F57_l10 n a0 m i7 i8 i9) (QB 0 (QT Try.prog D (n + 8) pc57_c21 (QF pc57_r 0 F57_e))) := by
  intro m_l10
  induction m_l10 with
  | zero => intro i7 i8 i9; exact SimL.zero'  rfl
  | succ m_l10 ih_l10 =>
    intro i7 i8 i9
    refine SimL.succ ?_
    unfold F57_l10
    refine Sim.seq ?_
    refine Sim.seq ?_
    refine Sim.region [(0, .one (li .u32 a0)), (4, .one (li .u16 i7)), (5, .one (li .u16 i8)), (6, .one (li .i64 i9))] [] (by kernel_rfl) ?_
    refine SimI.run 2 [(8, .one (lb (decide (i9 < 16)))), (7, .one (li .i64 i9))] [] (by kernel_rfl) ?_
    refine SimI.done (by kernel_rfl) ?_
    refine SimE.thenN ?_
    refine Sim.cond (decide (i9 < 16)) (by kernel_rfl) ?_ ?_
    · refine Sim.skip ?_
      refine SimE.thenN ?_
      refine Sim.seq ?_
      refine Sim.block ?_
      refine Sim.seq ?_
      refine Sim.region0 ?_
      refine SimI.run 5 [(15, .one (li .u64 (IntKind.wrap .u64 (IntKind.wrap .i64 (2 * i9))))), (14, .one (li .i64 (IntKind.wrap .i64 (2 * i9)))), (13, .one (li .i64 i9)), (12, .one (li .u32 a0)), (11, .one (li .u16 i7))] [] (by kernel_rfl) ?_
      refine SimI.guard (c := ¬ (IntKind.wrap .u64 (IntKind.wrap .i64 (2 * i9)) < 0)) { dst := some 16, op := POp.prim (Prim.bin BinOp.shr 91 false false) [Operand.tmp 12, Operand.tmp 15], guard := none, hints := [] } [(16, .one (li .u32 (shrI .u32 a0 (IntKind.wrap .u64 (IntKind.wrap .i64 (2 * i9))))))] [] (by kernel_rfl) (fun hc => pOp_eff (by kernel_rfl) (by kernel_rfl) (eff_prim (by kernel_rfl) (pr_shr _ _ _ .u32 .u64 a0 (IntKind.wrap .u64 (IntKind.wrap .i64 (2 * i9))) hc))) ?_
      refine SimI.run 4 [(20, .one (li .u64 (IntKind.wrap .u64 i9))), (19, .one (li .i64 i9)), (18, .one (li .u16 (IntKind.wrap .u16 (bitsI .and .u32 (shrI .u32 a0 (IntKind.wrap .u64 (IntKind.wrap .i64 (2 * i9)))) 1)))), (17, .one (li .u32 (bitsI .and .u32 (shrI .u32 a0 (IntKind.wrap .u64 (IntKind.wrap .i64 (2 * i9)))) 1)))] [] (by kernel_rfl) ?_
      refine SimI.guard (c := ¬ (IntKind.wrap .u64 i9 < 0)) { dst := some 21, op := POp.prim (Prim.bin BinOp.shl 93 false false) [Operand.tmp 18, Operand.tmp 20], guard := none, hints := [] } [(21, .one (li .u16 (shlI .u16 (IntKind.wrap .u16 (bitsI .and .u32 (shrI .u32 a0 (IntKind.wrap .u64 (IntKind.wrap .i64 (2 * i9)))) 1)) (IntKind.wrap .u64 i9))))] [] (by kernel_rfl) (fun hc => pOp_eff (by kernel_rfl) (by kernel_rfl) (eff_prim (by kernel_rfl) (pr_shl _ _ _ .u16 .u64 (IntKind.wrap .u16 (bitsI .and .u32 (shrI .u32 a0 (IntKind.wrap .u64 (IntKind.wrap .i64 (2 * i9)))) 1)) (IntKind.wrap .u64 i9) hc))) ?_
      refine SimI.run 2 [(4, .one (li .u16 (bitsI .or .u16 i7 (shlI .u16 (IntKind.wrap .u16 (bitsI .and .u32 (shrI .u32 a0 (IntKind.wrap .u64 (IntKind.wrap .i64 (2 * i9)))) 1)) (IntKind.wrap .u64 i9))))), (22, .one (li .u16 (bitsI .or .u16 i7 (shlI .u16 (IntKind.wrap .u16 (bitsI .and .u32 (shrI .u32 a0 (IntKind.wrap .u64 (IntKind.wrap .i64 (2 * i9)))) 1)) (IntKind.wrap .u64 i9)))))] [] (by kernel_rfl) ?_
      refine SimI.done (by kernel_rfl) ?_
      refine SimE.thenN ?_
      refine Sim.region0 ?_
      refine SimI.run 6 [(28, .one (li .u64 (IntKind.wrap .u64 (IntKind.wrap .i64 (IntKind.wrap .i64 (2 * i9) + 1))))), (27, .one (li .i64 (IntKind.wrap .i64 (IntKind.wrap .i64 (2 * i9) + 1)))), (26, .one (li .i64 (IntKind.wrap .i64 (2 * i9)))), (25, .one (li .i64 i9)), (24, .one (li .u32 a0)), (23, .one (li .u16 i8))] [] (by kernel_rfl) ?_
      refine SimI.guard (c := ¬ (IntKind.wrap .u64 (IntKind.wrap .i64 (IntKind.wrap .i64 (2 * i9) + 1)) < 0)) { dst := some 29, op := POp.prim (Prim.bin BinOp.shr 91 false false) [Operand.tmp 24, Operand.tmp 28], guard := none, hints := [] } [(29, .one (li .u32 (shrI .u32 a0 (IntKind.wrap .u64 (IntKind.wrap .i64 (IntKind.wrap .i64 (2 * i9) + 1))))))] [] (by kernel_rfl) (fun hc => pOp_eff (by kernel_rfl) (by kernel_rfl) (eff_prim (by kernel_rfl) (pr_shr _ _ _ .u32 .u64 a0 (IntKind.wrap .u64 (IntKind.wrap .i64 (IntKind.wrap .i64 (2 * i9) + 1))) hc))) ?_
      refine SimI.run 4 [(33, .one (li .u64 (IntKind.wrap .u64 i9))), (32, .one (li .i64 i9)), (31, .one (li .u16 (IntKind.wrap .u16 (bitsI .and .u32 (shrI .u32 a0 (IntKind.wrap .u64 (IntKind.wrap .i64 (IntKind.wrap .i64 (2 * i9) + 1)))) 1)))), (30, .one (li .u32 (bitsI .and .u32 (shrI .u32 a0 (IntKind.wrap .u64 (IntKind.wrap .i64 (IntKind.wrap .i64 (2 * i9) + 1)))) 1)))] [] (by kernel_rfl) ?_
      refine SimI.guard (c := ¬ (IntKind.wrap .u64 i9 < 0)) { dst := some 34, op := POp.prim (Prim.bin BinOp.shl 93 false false) [Operand.tmp 31, Operand.tmp 33], guard := none, hints := [] } [(34, .one (li .u16 (shlI .u16 (IntKind.wrap .u16 (bitsI .and .u32 (shrI .u32 a0 (IntKind.wrap .u64 (IntKind.wrap .i64 (IntKind.wrap .i64 (2 * i9) + 1)))) 1)) (IntKind.wrap .u64 i9))))] [] (by kernel_rfl) (fun hc => pOp_eff (by kernel_rfl) (by kernel_rfl) (eff_prim (by kernel_rfl) (pr_shl _ _ _ .u16 .u64 (IntKind.wrap .u16 (bitsI .and .u32 (shrI .u32 a0 (IntKind.wrap .u64 (IntKind.wrap .i64 (IntKind.wrap .i64 (2 * i9) + 1)))) 1)) (IntKind.wrap .u64 i9) hc))) ?_
      refine SimI.run 2 [(5, .one (li .u16 (bitsI .or .u16 i8 (shlI .u16 (IntKind.wrap .u16 (bitsI .and .u32 (shrI .u32 a0 (IntKind.wrap .u64 (IntKind.wrap .i64 (IntKind.wrap .i64 (2 * i9) + 1)))) 1)) (IntKind.wrap .u64 i9))))), (35, .one (li .u16 (bitsI .or .u16 i8 (shlI .u16 (IntKind.wrap .u16 (bitsI .and .u32 (shrI .u32 a0 (IntKind.wrap .u64 (IntKind.wrap .i64 (IntKind.wrap .i64 (2 * i9) + 1)))) 1)) (IntKind.wrap .u64 i9)))))] [] (by kernel_rfl) ?_
      refine SimI.done (by kernel_rfl) ?_
      refine SimE.blockN ?_
      refine SimE.thenN ?_
      refine Sim.region0 ?_
      refine SimI.run 3 [(6, .one (li .i64 (IntKind.wrap .i64 (i9 + 1)))), (10, .one (li .i64 (IntKind.wrap .i64 (i9 + 1)))), (9, .one (li .i64 i9))] [] (by kernel_rfl) ?_
      refine SimI.done (by kernel_rfl) ?_
      refine SimE.loopN ?_
      refine SimL.pre (ts := [0, 4, 5, 6]) (os := []) [(0, .one (li .u32 a0)), (4, .one (li .u16 (bitsI .or .u16 i7 (shlI .u16 (IntKind.wrap .u16 (bitsI .and .u32 (shrI .u32 a0 (IntKind.wrap .u64 (IntKind.wrap .i64 (2 * i9)))) 1)) (IntKind.wrap .u64 i9))))), (5, .one (li .u16 (bitsI .or .u16 i8 (shlI .u16 (IntKind.wrap .u16 (bitsI .and .u32 (shrI .u32 a0 (IntKind.wrap .u64 (IntKind.wrap .i64 (IntKind.wrap .i64 (2 * i9) + 1)))) 1)) (IntKind.wrap .u64 i9))))), (6, .one (li .i64 (IntKind.wrap .i64 (i9 + 1))))] [] (by kernel_rfl) (by kernel_rfl) (by kernel_rfl) ?_
      exact ih_l10 (bitsI .or .u16 i7 (shlI .u16 (IntKind.wrap .u16 (bitsI .and .u32 (shrI .u32 a0 (IntKind.wrap .u64 (IntKind.wrap .i64 (2 * i9)))) 1)) (IntKind.wrap .u64 i9))) (bitsI .or .u16 i8 (shlI .u16 (IntKind.wrap .u16 (bitsI .and .u32 (shrI .u32 a0 (IntKind.wrap .u64 (IntKind.wrap .i64 (IntKind.wrap .i64 (2 * i9) + 1)))) 1)) (IntKind.wrap .u64 i9))) (IntKind.wrap .i64 (i9 + 1))
    · refine Sim.exit ?_
      refine SimE.thenX ?_
      refine SimE.loopX ?_
      refine SimE.blockX ?_
      refine SimE.thenN ?_
      refine Sim.seq ?_
      refine Sim.region0 ?_
      refine SimI.run 4 [(3, .one (li .u16 i8)), (2, .one (li .u16 i7)), (37, .one (li .u16 i8)), (36, .one (li .u16 i7))] [] (by kernel_rfl) ?_
      refine SimI.done (by kernel_rfl) ?_
      refine SimE.thenN ?_
      refine Sim.ret ?_
      exact SimE.fin (by kernel_rfl)

def F57 (n : Nat) (a0 : Int) : Option (Int × Int) :=
  F57_l10 n a0 (n + 8) 0 0 0
theorem F57_ok (n : Nat) (a0 : Int) : ∀ r, F57 n a0 = some r → D 57 [.one (li .u32 a0)] [] = some (F57_e r) := by
  refine fn_to (D := D) (n := n + 8) (nt := 38) (rs := pc57_r) (c := pc57_c24) (L := [(0, .one (li .u32 a0))]) (M := []) (k := 0) rfl rfl rfl rfl rfl rfl ?_
  unfold F57
  refine Sim.seq ?_
  refine Sim.region0 ?_
  refine SimI.run 2 [(3, .one (li .u16 0)), (2, .one (li .u16 0))] [] (by kernel_rfl) ?_
  refine SimI.done (by kernel_rfl) ?_
  refine SimE.thenN ?_
  refine Sim.seq ?_
  refine Sim.region0 ?_
  refine SimI.run 2 [(5, .one (li .u16 0)), (4, .one (li .u16 0))] [] (by kernel_rfl) ?_
  refine SimI.done (by kernel_rfl) ?_
  refine SimE.thenN ?_
  refine Sim.seq ?_
  refine Sim.seq ?_
  refine Sim.region0 ?_
  refine SimI.run 1 [(6, .one (li .i64 0))] [] (by kernel_rfl) ?_
  refine SimI.done (by kernel_rfl) ?_
  refine SimE.thenN ?_
  refine Sim.block ?_
  refine Sim.loop ?_
  refine SimL.pre (ts := [0, 4, 5, 6]) (os := []) [(0, .one (li .u32 a0)), (4, .one (li .u16 0)), (5, .one (li .u16 0)), (6, .one (li .i64 0))] [] (by kernel_rfl) (by kernel_rfl) (by kernel_rfl) ?_
  exact F57_l10_ok n a0 (n + 8) 0 0 0


-- 28: vedette/vedetteref3.Rect
def F28_e : (Rect × Bool) → PV × List (List Lf) := fun r => (.tup [.agg [li .i64 r.1.X0, li .i64 r.1.Y0, li .i64 r.1.X1, li .i64 r.1.Y1], .one (lb r.2)], [])
def F28 (n : Nat) (a0 : Int) : Option (Rect × Bool) :=
  (F32 n a0).bind fun (r1 : Bool) =>
  if !(r1) then
    some ((Rect.mk 0 0 0 0), false)
  else
    (F57 n (IntKind.wrap .u32 a0)).bind fun (r2 : (Int × Int)) =>
    some ((Rect.mk (IntKind.wrap .i64 (IntKind.wrap .i64 r2.1 * 16)) (IntKind.wrap .i64 (IntKind.wrap .i64 r2.2 * 16)) (IntKind.wrap .i64 (IntKind.wrap .i64 (IntKind.wrap .i64 r2.1 * 16) + 16)) (IntKind.wrap .i64 (IntKind.wrap .i64 (IntKind.wrap .i64 r2.2 * 16) + 16))), true)
theorem F28_ok (n : Nat) (a0 : Int) : ∀ r, F28 n a0 = some r → D 28 [.one (li .i64 a0)] [] = some (F28_e r) := by
  refine fn_to (D := D) (n := n + 8) (nt := 31) (rs := pc28_r) (c := pc28_c15) (L := [(0, .one (li .i64 a0))]) (M := []) (k := 0) rfl rfl rfl rfl rfl rfl ?_
  unfold F28
  refine Sim.seq ?_
  refine Sim.region0 ?_
  refine SimI.run 2 [(3, .one (lb false)), (2, .one (.ptr 2 0))] [(2, some (.cells [li .i64 0, li .i64 0, li .i64 0, li .i64 0]))] (by kernel_rfl) ?_
  refine SimI.done (by kernel_rfl) ?_
  refine SimE.thenN ?_
  refine Sim.seq ?_
  refine Sim.seq ?_
  refine Sim.region0 ?_
  refine SimI.run 1 [(6, .one (li .i64 a0))] [] (by kernel_rfl) ?_
  refine SimI.bind (og := F32 n a0) { dst := some 7, op := POp.call true [[]] 32 [Operand.tmp 6], guard := none, hints := [] } (fun r1 => [(7, .one (lb r1))]) (fun r1 => []) (by kernel_rfl) (fun r1 hr => pOp_eff (by kernel_rfl) (by kernel_rfl) (eff_call (ARGS := [.one (li .i64 a0)]) (by kernel_rfl) (args_clean (by kernel_rfl) args_nil) (F32_ok n a0 r1 hr) (by kernel_rfl))) (fun r1 => ?_)
  refine SimI.run 1 [(8, .one (lb (!(r1))))] [] (by kernel_rfl) ?_
  refine SimI.done (by kernel_rfl) ?_
  refine SimE.thenN ?_
  refine Sim.cond (!(r1)) (by kernel_rfl) ?_ ?_
  · refine Sim.seq ?_
    refine Sim.region0 ?_
    refine SimI.run 3 [(3, .one (lb false)), (9, .agg [li .i64 0, li .i64 0, li .i64 0, li .i64 0])] [(2, some (.cells [li .i64 0, li .i64 0, li .i64 0, li .i64 0]))] (by kernel_rfl) ?_
    refine SimI.done (by kernel_rfl) ?_
    refine SimE.thenN ?_
    refine Sim.ret ?_
    refine SimE.thenR ?_
    exact SimE.fin (by kernel_rfl)
  · refine Sim.skip ?_
    refine SimE.thenN ?_
    refine Sim.seq ?_
    refine Sim.region0 ?_
    refine SimI.run 2 [(12, .one (li .u32 (IntKind.wrap .u32 a0))), (11, .one (li .i64 a0))] [] (by kernel_rfl) ?_
    refine SimI.bind (og := F57 n (IntKind.wrap .u32 a0)) { dst := some 13, op := POp.call true [[]] 57 [Operand.tmp 12], guard := none, hints := [] } (fun r2 => [(13, .tup [.one (li .u16 r2.1), .one (li .u16 r2.2)])]) (fun r2 => []) (by kernel_rfl) (fun r2 hr => pOp_eff (by kernel_rfl) (by kernel_rfl) (eff_call (ARGS := [.one (li .u32 (IntKind.wrap .u32 a0))]) (by kernel_rfl) (args_clean (by kernel_rfl) args_nil) (F57_ok n (IntKind.wrap .u32 a0) r2 hr) (by kernel_rfl))) (fun r2 => ?_)
    refine SimI.run 5 [(5, .one (li .u16 r2.2)), (4, .one (li .u16 r2.1)), (15, .one (li .u16 r2.2)), (14, .one (li .u16 r2.1)), (10, .tup [.one (li .u16 r2.1), .one (li .u16 r2.2)])] [] (by kernel_rfl) ?_
    refine SimI.done (by kernel_rfl) ?_
    refine SimE.thenN ?_
    refine Sim.seq ?_
    refine Sim.region0 ?_
    refine SimI.run 17 [(3, .one (lb true)), (30, .agg [li .i64 (IntKind.wrap .i64 (IntKind.wrap .i64 r2.1 * 16)), li .i64 (IntKind.wrap .i64 (IntKind.wrap .i64 r2.2 * 16)), li .i64 (IntKind.wrap .i64 (IntKind.wrap .i64 (IntKind.wrap .i64 r2.1 * 16) + 16)), li .i64 (IntKind.wrap .i64 (IntKind.wrap .i64 (IntKind.wrap .i64 r2.2 * 16) + 16))]), (29, .one (li .i64 (IntKind.wrap .i64 (IntKind.wrap .i64 (IntKind.wrap .i64 r2.2 * 16) + 16)))), (28, .one (li .i64 (IntKind.wrap .i64 (IntKind.wrap .i64 r2.2 * 16)))), (27, .one (li .i64 (IntKind.wrap .i64 r2.2))), (26, .one (li .u16 r2.2)), (25, .one (li .i64 (IntKind.wrap .i64 (IntKind.wrap .i64 (IntKind.wrap .i64 r2.1 * 16) + 16)))), (24, .one (li .i64 (IntKind.wrap .i64 (IntKind.wrap .i64 r2.1 * 16)))), (23, .one (li .i64 (IntKind.wrap .i64 r2.1))), (22, .one (li .u16 r2.1)), (21, .one (li .i64 (IntKind.wrap .i64 (IntKind.wrap .i64 r2.2 * 16)))), (20, .one (li .i64 (IntKind.wrap .i64 r2.2))), (19, .one (li .u16 r2.2)), (18, .one (li .i64 (IntKind.wrap .i64 (IntKind.wrap .i64 r2.1 * 16)))), (17, .one (li .i64 (IntKind.wrap .i64 r2.1))), (16, .one (li .u16 r2.1))] [(2, some (.cells [li .i64 (IntKind.wrap .i64 (IntKind.wrap .i64 r2.1 * 16)), li .i64 (IntKind.wrap .i64 (IntKind.wrap .i64 r2.2 * 16)), li .i64 (IntKind.wrap .i64 (IntKind.wrap .i64 (IntKind.wrap .i64 r2.1 * 16) + 16)), li .i64 (IntKind.wrap .i64 (IntKind.wrap .i64 (IntKind.wrap .i64 r2.2 * 16) + 16))]))] (by kernel_rfl) ?_
    refine SimI.done (by kernel_rfl) ?_
    refine SimE.thenN ?_
    refine Sim.ret ?_
    exact SimE.fin (by kernel_rfl)


-- 59: vedette/vedetteref3.Empty
def F59_e : Bool → PV × List (List Lf) := fun r => (.one (lb r), [])
def F59 (n : Nat) (a0 : Rect) : Option Bool :=
  if decide (a0.X1 ≤ a0.X0) then
    some true
  else
    some (decide (a0.Y1 ≤ a0.Y0))
theorem F59_ok (n : Nat) (a0 : Rect) : ∀ r, F59 n a0 = some r → D 59 [.agg [li .i64 a0.X0, li .i64 a0.Y0, li .i64 a0.X1, li .i64 a0.Y1]] [] = some (F59_e r) := by
  refine fn_to (D := D) (n := n + 8) (nt := 15) (rs := pc59_r) (c := pc59_c5) (L := [(0, .agg [li .i64 a0.X0, li .i64 a0.Y0, li .i64 a0.X1, li .i64 a0.Y1])]) (M := []) (k := 0) rfl rfl rfl rfl rfl rfl ?_
  unfold F59
  refine Sim.seq ?_
  refine Sim.region0 ?_
  refine SimI.run 2 [(2, .one (lb false)), (1, .one (.ptr 1 0))] [(1, some (.cells [li .i64 a0.X0, li .i64 a0.Y0, li .i64 a0.X1, li .i64 a0.Y1]))] (by kernel_rfl) ?_
  refine SimI.done (by kernel_rfl) ?_
  refine SimE.thenN ?_
  refine Sim.seq ?_
  refine Sim.region0 ?_
  refine SimI.run 6 [(8, .one (lb (decide (a0.X1 ≤ a0.X0)))), (7, .one (lb (decide (a0.X1 ≤ a0.X0)))), (6, .one (li .i64 a0.X1)), (5, .one (.ptr 1 2)), (4, .one (li .i64 a0.X0)), (3, .one (.ptr 1 0))] [] (by kernel_rfl) ?_
  refine SimI.split 8 (decide (a0.X1 ≤ a0.X0)) (by kernel_rfl) ?_ ?_
  · refine SimI.run 7 [(2, .one (lb true)), (14, .one (lb true)), (13, .tup []), (12, .tup []), (11, .tup []), (10, .tup []), (9, .tup [])] [] (by kernel_rfl) ?_
    refine SimI.done (by kernel_rfl) ?_
    refine SimE.thenN ?_
    refine Sim.ret ?_
    exact SimE.fin (by kernel_rfl)
  · refine SimI.run 7 [(2, .one (lb (decide (a0.Y1 ≤ a0.Y0)))), (14, .one (lb (decide (a0.Y1 ≤ a0.Y0)))), (13, .one (lb (decide (a0.Y1 ≤ a0.Y0)))), (12, .one (li .i64 a0.Y1)), (11, .one (.ptr 1 3)), (10, .one (li .i64 a0.Y0)), (9, .one (.ptr 1 1))] [] (by kernel_rfl) ?_
    refine SimI.done (by kernel_rfl) ?_
    refine SimE.thenN ?_
    refine Sim.ret ?_
    exact SimE.fin (by kernel_rfl)


-- 60: vedette/vedetteref3.Meet
def F60_e : Rect → PV × List (List Lf) := fun r => (.agg [li .i64 r.X0, li .i64 r.Y0, li .i64 r.X1, li .i64 r.Y1], [])
def F60 (n : Nat) (a0 : Rect) (a1 : Rect) : Option Rect :=
  (F59 n (Rect.mk (imax a0.X0 a1.X0) (imax a0.Y0 a1.Y0) (imin a0.X1 a1.X1) (imin a0.Y1 a1.Y1))).bind fun (r1 : Bool) =>
  if r1 then
    some (Rect.mk 0 0 0 0)
  else
    some (Rect.mk (imax a0.X0 a1.X0) (imax a0.Y0 a1.Y0) (imin a0.X1 a1.X1) (imin a0.Y1 a1.Y1))
theorem F60_ok (n : Nat) (a0 : Rect) (a1 : Rect) : ∀ r, F60 n a0 a1 = some r → D 60 [.agg [li .i64 a0.X0, li .i64 a0.Y0, li .i64 a0.X1, li .i64 a0.Y1], .agg [li .i64 a1.X0, li .i64 a1.Y0, li .i64 a1.X1, li .i64 a1.Y1]] [] = some (F60_e r) := by
  refine fn_to (D := D) (n := n + 8) (nt := 31) (rs := pc60_r) (c := pc60_c15) (L := [(0, .agg [li .i64 a0.X0, li .i64 a0.Y0, li .i64 a0.X1, li .i64 a0.Y1]), (1, .agg [li .i64 a1.X0, li .i64 a1.Y0, li .i64 a1.X1, li .i64 a1.Y1])]) (M := []) (k := 0) rfl rfl rfl rfl rfl rfl ?_
  unfold F60
  refine Sim.seq ?_
  refine Sim.region0 ?_
  refine SimI.run 3 [(4, .one (.ptr 4 0)), (3, .one (.ptr 3 0)), (2, .one (.ptr 2 0))] [(4, some (.cells [li .i64 0, li .i64 0, li .i64 0, li .i64 0])), (3, some (.cells [li .i64 a1.X0, li .i64 a1.Y0, li .i64 a1.X1, li .i64 a1.Y1])), (2, some (.cells [li .i64 a0.X0, li .i64 a0.Y0, li .i64 a0.X1, li .i64 a0.Y1]))] (by kernel_rfl) ?_
  refine SimI.done (by kernel_rfl) ?_
  refine SimE.thenN ?_
  refine Sim.seq ?_
  refine Sim.region0 ?_
  refine SimI.run 23 [(5, .one (.ptr 5 0)), (26, .agg [li .i64 (imax a0.X0 a1.X0), li .i64 (imax a0.Y0 a1.Y0), li .i64 (imin a0.X1 a1.X1), li .i64 (imin a0.Y1 a1.Y1)]), (25, .one (li .i64 (imin a0.Y1 a1.Y1))), (24, .one (li .i64 a1.Y1)), (23, .one (.ptr 3 3)), (22, .one (li .i64 a0.Y1)), (21, .one (.ptr 2 3)), (20, .one (li .i64 (imin a0.X1 a1.X1))), (19, .one (li .i64 a1.X1)), (18, .one (.ptr 3 2)), (17, .one (li .i64 a0.X1)), (16, .one (.ptr 2 2)), (15, .one (li .i64 (imax a0.Y0 a1.Y0))), (14, .one (li .i64 a1.Y0)), (13, .one (.ptr 3 1)), (12, .one (li .i64 a0.Y0)), (11, .one (.ptr 2 1)), (10, .one (li .i64 (imax a0.X0 a1.X0))), (9, .one (li .i64 a1.X0)), (8, .one (.ptr 3 0)), (7, .one (li .i64 a0.X0)), (6, .one (.ptr 2 0))] [(5, some (.cells [li .i64 (imax a0.X0 a1.X0), li .i64 (imax a0.Y0 a1.Y0), li .i64 (imin a0.X1 a1.X1), li .i64 (imin a0.Y1 a1.Y1)])), (5, some (.cells [li .i64 0, li .i64 0, li .i64 0, li .i64 0]))] (by kernel_rfl) ?_
  refine SimI.done (by kernel_rfl) ?_
  refine SimE.thenN ?_
  refine Sim.seq ?_
  refine Sim.seq ?_
  refine Sim.region0 ?_
  refine SimI.run 1 [(27, .agg [li .i64 (imax a0.X0 a1.X0), li .i64 (imax a0.Y0 a1.Y0), li .i64 (imin a0.X1 a1.X1), li .i64 (imin a0.Y1 a1.Y1)])] [] (by kernel_rfl) ?_
  refine SimI.bind (og := F59 n (Rect.mk (imax a0.X0 a1.X0) (imax a0.Y0 a1.Y0) (imin a0.X1 a1.X1) (imin a0.Y1 a1.Y1))) { dst := some 28, op := POp.call true [[]] 59 [Operand.tmp 27], guard := none, hints := [] } (fun r1 => [(28, .one (lb r1))]) (fun r1 => []) (by kernel_rfl) (fun r1 hr => pOp_eff (by kernel_rfl) (by kernel_rfl) (eff_call (ARGS := [.agg [li .i64 (imax a0.X0 a1.X0), li .i64 (imax a0.Y0 a1.Y0), li .i64 (imin a0.X1 a1.X1), li .i64 (imin a0.Y1 a1.Y1)]]) (by kernel_rfl) (args_clean (by kernel_rfl) args_nil) (F59_ok n (Rect.mk (imax a0.X0 a1.X0) (imax a0.Y0 a1.Y0) (imin a0.X1 a1.X1) (imin a0.Y1 a1.Y1)) r1 hr) (by kernel_rfl))) (fun r1 => ?_)
  refine SimI.done (by kernel_rfl) ?_
  refine SimE.thenN ?_
  refine Sim.cond r1 (by kernel_rfl) ?_ ?_
  · refine Sim.seq ?_
    refine Sim.region0 ?_
    refine SimI.run 2 [(29, .agg [li .i64 0, li .i64 0, li .i64 0, li .i64 0])] [(4, some (.cells [li .i64 0, li .i64 0, li .i64 0, li .i64 0]))] (by kernel_rfl) ?_
    refine SimI.done (by kernel_rfl) ?_
    refine SimE.thenN ?_
    refine Sim.ret ?_
    refine SimE.thenR ?_
    exact SimE.fin (by kernel_rfl)
  · refine Sim.skip ?_
    refine SimE.thenN ?_
    refine Sim.seq ?_
    refine Sim.region0 ?_
    refine SimI.run 2 [(30, .agg [li .i64 (imax a0.X0 a1.X0), li .i64 (imax a0.Y0 a1.Y0), li .i64 (imin a0.X1 a1.X1), li .i64 (imin a0.Y1 a1.Y1)])] [(4, some (.cells [li .i64 (imax a0.X0 a1.X0), li .i64 (imax a0.Y0 a1.Y0), li .i64 (imin a0.X1 a1.X1), li .i64 (imin a0.Y1 a1.Y1)]))] (by kernel_rfl) ?_
    refine SimI.done (by kernel_rfl) ?_
    refine SimE.thenN ?_
    refine Sim.ret ?_
    exact SimE.fin (by kernel_rfl)


-- 30: vedette/vedetteref3.Cover
def F30_e : (List Int) → PV × List (List Lf) := fun r => (.one (vw (codI .i64) r), [])
def F30_l10 (n : Nat) (a0 : Rect) : Nat → (List Int) → Int → Option (List Int)
  | 0, _, _ => none
  | m + 1, l7, i9 =>
    if decide (i9 < 16) then
      (F28 n i9).bind fun (r11 : (Rect × Bool)) =>
      (F60 n r11.1 a0).bind fun (r12 : Rect) =>
      (F59 n r12).bind fun (r13 : Bool) =>
      if !(r13) then
        if ((l7).length + 1) * 8 ≤ maxCells ∧ (l7).length + 1 ≤ maxCells then
          (F30_l10 n a0 m) (l7 ++ [i9]) (IntKind.wrap .i64 (i9 + 1))
        else none
      else
        (F30_l10 n a0 m) l7 (IntKind.wrap .i64 (i9 + 1))
    else
      some l7
theorem F30_l10_ok (n : Nat) (a0 : Rect) : ∀ (m : Nat) (l7 : (List Int)) (i9 : Int) (g8 : Nat), SimL Try.prog D (n + 8) m pc30_c19 [(1, .one (.ptr 1 0)), (3, .one (ownL 100003 g8 l7)), (4, .one (li .i64 i9))] ((1, some (.cells [li .i64 a0.X0, li .i64 a0.Y0, li .i64 a0.X1, li .i64 a0.Y1])) :: (ownM (codI .i64) 3 100003 g8 l7 [])) (F30_l10 n a0 m l7 i9) (QB 0 (QT Try.prog D (n + 8) pc30_c25 (QF pc30_r 0 F30_e))) := by
  intro m_l10
  induction m_l10 with
  | zero => intro l7 i9 g8; exact SimL.zero'  rfl
  | succ m_l10 ih_l10 =>
    intro l7 i9 g8
    cases l7 with
    | nil =>
      refine SimL.succ ?_
      unfold F30_l10
      refine Sim.seq ?_
      refine Sim.seq ?_
      refine Sim.region [(1, .one (.ptr 1 0)), (3, .one (lnil)), (4, .one (li .i64 i9))] ((1, some (.cells [li .i64 a0.X0, li .i64 a0.Y0, li .i64 a0.X1, li .i64 a0.Y1])) :: []) (by kernel_rfl) ?_
      refine SimI.run 2 [(8, .one (lb (decide (i9 < 16)))), (7, .one (li .i64 i9))] [] (by kernel_rfl) ?_
      refine SimI.done (by kernel_rfl) ?_
      refine SimE.thenN ?_
      refine Sim.cond (decide (i9 < 16)) (by kernel_rfl) ?_ ?_
      · refine Sim.skip ?_
        refine SimE.thenN ?_
        refine Sim.seq ?_
        refine Sim.block ?_
        refine Sim.seq ?_
        refine Sim.region0 ?_
        refine SimI.run 1 [(12, .one (li .i64 i9))] [] (by kernel_rfl) ?_
        refine SimI.bind (og := F28 n i9) { dst := some 13, op := POp.call true [[]] 28 [Operand.tmp 12], guard := none, hints := [] } (fun r11 => [(13, .tup [.agg [li .i64 r11.1.X0, li .i64 r11.1.Y0, li .i64 r11.1.X1, li .i64 r11.1.Y1], .one (lb r11.2)])]) (fun r11 => []) (by kernel_rfl) (fun r11 hr => pOp_eff (by kernel_rfl) (by kernel_rfl) (eff_call (ARGS := [.one (li .i64 i9)]) (by kernel_rfl) (args_clean (by kernel_rfl) args_nil) (F28_ok n i9 r11 hr) (by kernel_rfl))) (fun r11 => ?_)
        refine SimI.run 6 [(6, .one (lb r11.2)), (5, .one (.ptr 5 0)), (15, .one (lb r11.2)), (14, .agg [li .i64 r11.1.X0, li .i64 r11.1.Y0, li .i64 r11.1.X1, li .i64 r11.1.Y1]), (11, .tup [.agg [li .i64 r11.1.X0, li .i64 r11.1.Y0, li .i64 r11.1.X1, li .i64 r11.1.Y1], .one (lb r11.2)])] [(5, some (.cells [li .i64 r11.1.X0, li .i64 r11.1.Y0, li .i64 r11.1.X1, li .i64 r11.1.Y1])), (5, some (.cells [li .i64 0, li .i64 0, li .i64 0, li .i64 0]))] (by kernel_rfl) ?_
        refine SimI.done (by kernel_rfl) ?_
        refine SimE.thenN ?_
        refine Sim.seq ?_
        refine Sim.region0 ?_
        refine SimI.run 2 [(17, .agg [li .i64 a0.X0, li .i64 a0.Y0, li .i64 a0.X1, li .i64 a0.Y1]), (16, .agg [li .i64 r11.1.X0, li .i64 r11.1.Y0, li .i64 r11.1.X1, li .i64 r11.1.Y1])] [] (by kernel_rfl) ?_
        refine SimI.bind (og := F60 n r11.1 a0) { dst := some 18, op := POp.call true [[], []] 60 [Operand.tmp 16, Operand.tmp 17], guard := none, hints := [] } (fun r12 => [(18, .agg [li .i64 r12.X0, li .i64 r12.Y0, li .i64 r12.X1, li .i64 r12.Y1])]) (fun r12 => []) (by kernel_rfl) (fun r12 hr => pOp_eff (by kernel_rfl) (by kernel_rfl) (eff_call (ARGS := [.agg [li .i64 r11.1.X0, li .i64 r11.1.Y0, li .i64 r11.1.X1, li .i64 r11.1.Y1], .agg [li .i64 a0.X0, li .i64 a0.Y0, li .i64 a0.X1, li .i64 a0.Y1]]) (by kernel_rfl) (args_clean (by kernel_rfl) (args_clean (by kernel_rfl) args_nil)) (F60_ok n r11.1 a0 r12 hr) (by kernel_rfl))) (fun r12 => ?_)
        refine SimI.bind (og := F59 n r12) { dst := some 19, op := POp.call true [[]] 59 [Operand.tmp 18], guard := none, hints := [] } (fun r13 => [(19, .one (lb r13))]) (fun r13 => []) (by kernel_rfl) (fun r13 hr => pOp_eff (by kernel_rfl) (by kernel_rfl) (eff_call (ARGS := [.agg [li .i64 r12.X0, li .i64 r12.Y0, li .i64 r12.X1, li .i64 r12.Y1]]) (by kernel_rfl) (args_clean (by kernel_rfl) args_nil) (F59_ok n r12 r13 hr) (by kernel_rfl))) (fun r13 => ?_)
        refine SimI.run 1 [(20, .one (lb (!(r13))))] [] (by kernel_rfl) ?_
        refine SimI.done (by kernel_rfl) ?_
        refine SimE.thenN ?_
        refine Sim.cond (!(r13)) (by kernel_rfl) ?_ ?_
        · refine Sim.region0 ?_
          refine SimI.run 3 [(23, .one (vw (codI .i64) [i9])), (22, .one (li .i64 i9)), (21, .one (lnil))] [] (by kernel_rfl) ?_
          refine SimI.guard (c := (([] : List Int).length + 1) * 8 ≤ maxCells ∧ ([] : List Int).length + 1 ≤ maxCells) { dst := some 24, op := POp.app 100003 3 1 8 (Operand.tmp 21) (Operand.tmp 23), guard := none, hints := [] } [(24, .one (.osl 100003 0 0 ([i9]).length))] [(100003, some (.arr 3 (codI .i64).sz 0 ([i9]).length (getOf (codI .i64) [i9])))] (by kernel_rfl) (fun hc => pOp_eff (by kernel_rfl) (by kernel_rfl) (eff_appN (c := (codI .i64)) (a := i9) (by kernel_rfl) (by kernel_rfl) (by kernel_rfl) (by kernel_rfl) (by kernel_rfl) (by kernel_rfl))) ?_
          refine SimI.run 1 [(3, .one (.osl 100003 0 0 ([i9]).length))] [] (by kernel_rfl) ?_
          refine SimI.done (by kernel_rfl) ?_
          refine SimE.blockN ?_
          refine SimE.thenN ?_
          refine Sim.region0 ?_
          refine SimI.run 3 [(4, .one (li .i64 (IntKind.wrap .i64 (i9 + 1)))), (10, .one (li .i64 (IntKind.wrap .i64 (i9 + 1)))), (9, .one (li .i64 i9))] [] (by kernel_rfl) ?_
          refine SimI.done (by kernel_rfl) ?_
          refine SimE.loopN ?_
          refine SimL.pre (ts := [1, 3, 4]) (os := [1, 5, 100003]) [(1, .one (.ptr 1 0)), (3, .one (ownL 100003 0 [i9])), (4, .one (li .i64 (IntKind.wrap .i64 (i9 + 1))))] ((1, some (.cells [li .i64 a0.X0, li .i64 a0.Y0, li .i64 a0.X1, li .i64 a0.Y1])) :: (ownM (codI .i64) 3 100003 0 [i9] [])) (by kernel_rfl) (by kernel_rfl) (by kernel_rfl) ?_
          exact ih_l10 [i9] (IntKind.wrap .i64 (i9 + 1)) 0
        · refine Sim.skip ?_
          refine SimE.blockN ?_
          refine SimE.thenN ?_
          refine Sim.region0 ?_
          refine SimI.run 3 [(4, .one (li .i64 (IntKind.wrap .i64 (i9 + 1)))), (10, .one (li .i64 (IntKind.wrap .i64 (i9 + 1)))), (9, .one (li .i64 i9))] [] (by kernel_rfl) ?_
          refine SimI.done (by kernel_rfl) ?_
          refine SimE.loopN ?_
          refine SimL.pre (ts := [1, 3, 4]) (os := [1, 5, 100003]) [(1, .one (.ptr 1 0)), (3, .one (ownL 100003 0 ([] : List Int))), (4, .one (li .i64 (IntKind.wrap .i64 (i9 + 1))))] ((1, some (.cells [li .i64 a0.X0, li .i64 a0.Y0, li .i64 a0.X1, li .i64 a0.Y1])) :: (ownM (codI .i64) 3 100003 0 ([] : List Int) [])) (by kernel_rfl) (by kernel_rfl) (by kernel_rfl) ?_
          exact ih_l10 ([] : List Int) (IntKind.wrap .i64 (i9 + 1)) 0
      · refine Sim.exit ?_
        refine SimE.thenX ?_
        refine SimE.loopX ?_
        refine SimE.blockX ?_
        refine SimE.thenN ?_
        refine Sim.seq ?_
        refine Sim.region0 ?_
        refine SimI.run 2 [(2, .one (lnil)), (25, .one (lnil))] [] (by kernel_rfl) ?_
        refine SimI.done (by kernel_rfl) ?_
        refine SimE.thenN ?_
        refine Sim.ret ?_
        exact SimE.fin (by kernel_rfl)
    | cons l7h l7t =>
      refine SimL.succ ?_
      unfold F30_l10
      refine Sim.seq ?_
      refine Sim.seq ?_
      refine Sim.region [(1, .one (.ptr 1 0)), (3, .one (.osl 100003 g8 0 ((l7h :: l7t)).length)), (4, .one (li .i64 i9))] ((1, some (.cells [li .i64 a0.X0, li .i64 a0.Y0, li .i64 a0.X1, li .i64 a0.Y1])) :: ((100003, some (.arr 3 (codI .i64).sz g8 ((l7h :: l7t)).length (getOf (codI .i64) (l7h :: l7t)))) :: [])) (by kernel_rfl) ?_
      refine SimI.run 2 [(8, .one (lb (decide (i9 < 16)))), (7, .one (li .i64 i9))] [] (by kernel_rfl) ?_
      refine SimI.done (by kernel_rfl) ?_
      refine SimE.thenN ?_
      refine Sim.cond (decide (i9 < 16)) (by kernel_rfl) ?_ ?_
      · refine Sim.skip ?_
        refine SimE.thenN ?_
        refine Sim.seq ?_
        refine Sim.block ?_
        refine Sim.seq ?_
        refine Sim.region0 ?_
        refine SimI.run 1 [(12, .one (li .i64 i9))] [] (by kernel_rfl) ?_
        refine SimI.bind (og := F28 n i9) { dst := some 13, op := POp.call true [[]] 28 [Operand.tmp 12], guard := none, hints := [] } (fun r11 => [(13, .tup [.agg [li .i64 r11.1.X0, li .i64 r11.1.Y0, li .i64 r11.1.X1, li .i64 r11.1.Y1], .one (lb r11.2)])]) (fun r11 => []) (by kernel_rfl) (fun r11 hr => pOp_eff (by kernel_rfl) (by kernel_rfl) (eff_call (ARGS := [.one (li .i64 i9)]) (by kernel_rfl) (args_clean (by kernel_rfl) args_nil) (F28_ok n i9 r11 hr) (by kernel_rfl))) (fun r11 => ?_)
        refine SimI.run 6 [(6, .one (lb r11.2)), (5, .one (.ptr 5 0)), (15, .one (lb r11.2)), (14, .agg [li .i64 r11.1.X0, li .i64 r11.1.Y0, li .i64 r11.1.X1, li .i64 r11.1.Y1]), (11, .tup [.agg [li .i64 r11.1.X0, li .i64 r11.1.Y0, li .i64 r11.1.X1, li .i64 r11.1.Y1], .one (lb r11.2)])] [(5, some (.cells [li .i64 r11.1.X0, li .i64 r11.1.Y0, li .i64 r11.1.X1, li .i64 r11.1.Y1])), (5, some (.cells [li .i64 0, li .i64 0, li .i64 0, li .i64 0]))] (by kernel_rfl) ?_
        refine SimI.done (by kernel_rfl) ?_
        refine SimE.thenN ?_
        refine Sim.seq ?_
        refine Sim.region0 ?_
        refine SimI.run 2 [(17, .agg [li .i64 a0.X0, li .i64 a0.Y0, li .i64 a0.X1, li .i64 a0.Y1]), (16, .agg [li .i64 r11.1.X0, li .i64 r11.1.Y0, li .i64 r11.1.X1, li .i64 r11.1.Y1])] [] (by kernel_rfl) ?_
        refine SimI.bind (og := F60 n r11.1 a0) { dst := some 18, op := POp.call true [[], []] 60 [Operand.tmp 16, Operand.tmp 17], guard := none, hints := [] } (fun r12 => [(18, .agg [li .i64 r12.X0, li .i64 r12.Y0, li .i64 r12.X1, li .i64 r12.Y1])]) (fun r12 => []) (by kernel_rfl) (fun r12 hr => pOp_eff (by kernel_rfl) (by kernel_rfl) (eff_call (ARGS := [.agg [li .i64 r11.1.X0, li .i64 r11.1.Y0, li .i64 r11.1.X1, li .i64 r11.1.Y1], .agg [li .i64 a0.X0, li .i64 a0.Y0, li .i64 a0.X1, li .i64 a0.Y1]]) (by kernel_rfl) (args_clean (by kernel_rfl) (args_clean (by kernel_rfl) args_nil)) (F60_ok n r11.1 a0 r12 hr) (by kernel_rfl))) (fun r12 => ?_)
        refine SimI.bind (og := F59 n r12) { dst := some 19, op := POp.call true [[]] 59 [Operand.tmp 18], guard := none, hints := [] } (fun r13 => [(19, .one (lb r13))]) (fun r13 => []) (by kernel_rfl) (fun r13 hr => pOp_eff (by kernel_rfl) (by kernel_rfl) (eff_call (ARGS := [.agg [li .i64 r12.X0, li .i64 r12.Y0, li .i64 r12.X1, li .i64 r12.Y1]]) (by kernel_rfl) (args_clean (by kernel_rfl) args_nil) (F59_ok n r12 r13 hr) (by kernel_rfl))) (fun r13 => ?_)
        refine SimI.run 1 [(20, .one (lb (!(r13))))] [] (by kernel_rfl) ?_
        refine SimI.done (by kernel_rfl) ?_
        refine SimE.thenN ?_
        refine Sim.cond (!(r13)) (by kernel_rfl) ?_ ?_
        · refine Sim.region0 ?_
          refine SimI.run 3 [(23, .one (vw (codI .i64) [i9])), (22, .one (li .i64 i9)), (21, .one (.osl 100003 g8 0 ((l7h :: l7t)).length))] [] (by kernel_rfl) ?_
          refine SimI.guard (c := (((l7h :: l7t)).length + 1) * 8 ≤ maxCells ∧ ((l7h :: l7t)).length + 1 ≤ maxCells) { dst := some 24, op := POp.app 100003 3 1 8 (Operand.tmp 21) (Operand.tmp 23), guard := none, hints := [] } [(24, .one (.osl 100003 (g8 + 1) 0 (((l7h :: l7t) ++ [i9])).length))] [(100003, some (.arr 3 (codI .i64).sz (g8 + 1) (((l7h :: l7t) ++ [i9])).length (getOf (codI .i64) ((l7h :: l7t) ++ [i9]))))] (by kernel_rfl) (fun hc => pOp_eff (by kernel_rfl) (by kernel_rfl) (eff_appO (c := (codI .i64)) (g := g8) (l := (l7h :: l7t)) (a := i9) (by kernel_rfl) (by kernel_rfl) (by kernel_rfl) (by kernel_rfl) hc)) ?_
          refine SimI.run 1 [(3, .one (.osl 100003 (g8 + 1) 0 (((l7h :: l7t) ++ [i9])).length))] [] (by kernel_rfl) ?_
          refine SimI.done (by kernel_rfl) ?_
          refine SimE.blockN ?_
          refine SimE.thenN ?_
          refine Sim.region0 ?_
          refine SimI.run 3 [(4, .one (li .i64 (IntKind.wrap .i64 (i9 + 1)))), (10, .one (li .i64 (IntKind.wrap .i64 (i9 + 1)))), (9, .one (li .i64 i9))] [] (by kernel_rfl) ?_
          refine SimI.done (by kernel_rfl) ?_
          refine SimE.loopN ?_
          refine SimL.pre (ts := [1, 3, 4]) (os := [1, 5, 100003]) [(1, .one (.ptr 1 0)), (3, .one (ownL 100003 (g8 + 1) ((l7h :: l7t) ++ [i9]))), (4, .one (li .i64 (IntKind.wrap .i64 (i9 + 1))))] ((1, some (.cells [li .i64 a0.X0, li .i64 a0.Y0, li .i64 a0.X1, li .i64 a0.Y1])) :: (ownM (codI .i64) 3 100003 (g8 + 1) ((l7h :: l7t) ++ [i9]) [])) (by kernel_rfl) (by kernel_rfl) (by kernel_rfl) ?_
          exact ih_l10 ((l7h :: l7t) ++ [i9]) (IntKind.wrap .i64 (i9 + 1)) (g8 + 1)
        · refine Sim.skip ?_
          refine SimE.blockN ?_
          refine SimE.thenN ?_
          refine Sim.region0 ?_
          refine SimI.run 3 [(4, .one (li .i64 (IntKind.wrap .i64 (i9 + 1)))), (10, .one (li .i64 (IntKind.wrap .i64 (i9 + 1)))), (9, .one (li .i64 i9))] [] (by kernel_rfl) ?_
          refine SimI.done (by kernel_rfl) ?_
          refine SimE.loopN ?_
          refine SimL.pre (ts := [1, 3, 4]) (os := [1, 5, 100003]) [(1, .one (.ptr 1 0)), (3, .one (ownL 100003 g8 (l7h :: l7t))), (4, .one (li .i64 (IntKind.wrap .i64 (i9 + 1))))] ((1, some (.cells [li .i64 a0.X0, li .i64 a0.Y0, li .i64 a0.X1, li .i64 a0.Y1])) :: (ownM (codI .i64) 3 100003 g8 (l7h :: l7t) [])) (by kernel_rfl) (by kernel_rfl) (by kernel_rfl) ?_
          exact ih_l10 (l7h :: l7t) (IntKind.wrap .i64 (i9 + 1)) g8
      · refine Sim.exit ?_
        refine SimE.thenX ?_
        refine SimE.loopX ?_
        refine SimE.blockX ?_
        refine SimE.thenN ?_
        refine Sim.seq ?_
        refine Sim.region0 ?_
        refine SimI.run 2 [(2, .one (.osl 100003 g8 0 ((l7h :: l7t)).length)), (25, .one (.osl 100003 g8 0 ((l7h :: l7t)).length))] [] (by kernel_rfl) ?_
        refine SimI.done (by kernel_rfl) ?_
        refine SimE.thenN ?_
        refine Sim.ret ?_
        exact SimE.fin (out_of (os := []) (ress_cons (resOf_own (c := (codI .i64)) (k := 100003) (g := g8) (el := 3) (l := (l7h :: l7t)) (by kernel_rfl) (by kernel_rfl)) (ress_nil)) (by kernel_rfl) (by kernel_rfl))

def F30 (n : Nat) (a0 : Rect) : Option (List Int) :=
  F30_l10 n a0 (n + 8) ([] : List Int) 0
theorem F30_ok (n : Nat) (a0 : Rect) : ∀ r, F30 n a0 = some r → D 30 [.agg [li .i64 a0.X0, li .i64 a0.Y0, li .i64 a0.X1, li .i64 a0.Y1]] [] = some (F30_e r) := by
  refine fn_to (D := D) (n := n + 8) (nt := 26) (rs := pc30_r) (c := pc30_c28) (L := [(0, .agg [li .i64 a0.X0, li .i64 a0.Y0, li .i64 a0.X1, li .i64 a0.Y1])]) (M := []) (k := 0) rfl rfl rfl rfl rfl rfl ?_
  unfold F30
  refine Sim.seq ?_
  refine Sim.region0 ?_
  refine SimI.run 2 [(2, .one (lnil)), (1, .one (.ptr 1 0))] [(1, some (.cells [li .i64 a0.X0, li .i64 a0.Y0, li .i64 a0.X1, li .i64 a0.Y1]))] (by kernel_rfl) ?_
  refine SimI.done (by kernel_rfl) ?_
  refine SimE.thenN ?_
  refine Sim.seq ?_
  refine Sim.region0 ?_
  refine SimI.run 1 [(3, .one (lnil))] [] (by kernel_rfl) ?_
  refine SimI.done (by kernel_rfl) ?_
  refine SimE.thenN ?_
  refine Sim.seq ?_
  refine Sim.seq ?_
  refine Sim.region0 ?_
  refine SimI.run 1 [(4, .one (li .i64 0))] [] (by kernel_rfl) ?_
  refine SimI.done (by kernel_rfl) ?_
  refine SimE.thenN ?_
  refine Sim.block ?_
  refine Sim.loop ?_
  refine SimL.pre (ts := [1, 3, 4]) (os := [1, 5, 100003]) [(1, .one (.ptr 1 0)), (3, .one (ownL 100003 0 ([] : List Int))), (4, .one (li .i64 0))] ((1, some (.cells [li .i64 a0.X0, li .i64 a0.Y0, li .i64 a0.X1, li .i64 a0.Y1])) :: (ownM (codI .i64) 3 100003 0 ([] : List Int) [])) (by kernel_rfl) (by kernel_rfl) (by kernel_rfl) ?_
  exact F30_l10_ok n a0 (n + 8) ([] : List Int) 0 0


-- 34: vedette/vedetteref3.Beside
def F34_e : Bool → PV × List (List Lf) := fun r => (.one (lb r), [])
def F34 (n : Nat) (a0 : Int) (a1 : Int) : Option Bool :=
  (F32 n a0).bind fun (r1 : Bool) =>
  if !(r1) then
    some false
  else
    (F32 n a1).bind fun (r2 : Bool) =>
    if !(r2) then
      some false
    else
      if a0 == a1 then
        some false
      else
        (F57 n (IntKind.wrap .u32 a0)).bind fun (r3 : (Int × Int)) =>
        (F57 n (IntKind.wrap .u32 a1)).bind fun (r4 : (Int × Int)) =>
        if decide (((-1) : Int) ≤ IntKind.wrap .i64 (IntKind.wrap .i64 r3.1 - IntKind.wrap .i64 r4.1)) then
          if decide (IntKind.wrap .i64 (IntKind.wrap .i64 r3.1 - IntKind.wrap .i64 r4.1) ≤ 1) then
            if decide (((-1) : Int) ≤ IntKind.wrap .i64 (IntKind.wrap .i64 r3.2 - IntKind.wrap .i64 r4.2)) then
              some (decide (IntKind.wrap .i64 (IntKind.wrap .i64 r3.2 - IntKind.wrap .i64 r4.2) ≤ 1))
            else
              some false
          else
            some false
        else
          some false
theorem F34_ok (n : Nat) (a0 : Int) (a1 : Int) : ∀ r, F34 n a0 a1 = some r → D 34 [.one (li .i64 a0), .one (li .i64 a1)] [] = some (F34_e r) := by
  refine fn_to (D := D) (n := n + 8) (nt := 60) (rs := pc34_r) (c := pc34_c19) (L := [(0, .one (li .i64 a0)), (1, .one (li .i64 a1))]) (M := []) (k := 0) rfl rfl rfl rfl rfl rfl ?_
  unfold F34
  refine Sim.seq ?_
  refine Sim.region0 ?_
  refine SimI.run 1 [(4, .one (lb false))] [] (by kernel_rfl) ?_
  refine SimI.done (by kernel_rfl) ?_
  refine SimE.thenN ?_
  refine Sim.seq ?_
  refine Sim.seq ?_
  refine Sim.region0 ?_
  refine SimI.run 1 [(11, .one (li .i64 a0))] [] (by kernel_rfl) ?_
  refine SimI.bind (og := F32 n a0) { dst := some 12, op := POp.call true [[]] 32 [Operand.tmp 11], guard := none, hints := [] } (fun r1 => [(12, .one (lb r1))]) (fun r1 => []) (by kernel_rfl) (fun r1 hr => pOp_eff (by kernel_rfl) (by kernel_rfl) (eff_call (ARGS := [.one (li .i64 a0)]) (by kernel_rfl) (args_clean (by kernel_rfl) args_nil) (F32_ok n a0 r1 hr) (by kernel_rfl))) (fun r1 => ?_)
  refine SimI.run 2 [(14, .one (lb (!(r1)))), (13, .one (lb (!(r1))))] [] (by kernel_rfl) ?_
  refine SimI.split 14 (!(r1)) (by kernel_rfl) ?_ ?_
  · refine SimI.run 9 [(23, .one (lb true)), (22, .tup []), (21, .tup []), (20, .tup []), (19, .one (lb true)), (18, .one (lb true)), (17, .tup []), (16, .tup []), (15, .tup [])] [] (by kernel_rfl) ?_
    refine SimI.done (by kernel_rfl) ?_
    refine SimE.thenN ?_
    refine Sim.condT (by kernel_rfl) ?_
    refine Sim.seq ?_
    refine Sim.region0 ?_
    refine SimI.run 1 [(4, .one (lb false))] [] (by kernel_rfl) ?_
    refine SimI.done (by kernel_rfl) ?_
    refine SimE.thenN ?_
    refine Sim.ret ?_
    refine SimE.thenR ?_
    exact SimE.fin (by kernel_rfl)
  · refine SimI.run 1 [(15, .one (li .i64 a1))] [] (by kernel_rfl) ?_
    refine SimI.bind (og := F32 n a1) { dst := some 16, op := POp.call true [[]] 32 [Operand.tmp 15], guard := some (14, false), hints := [] } (fun r2 => [(16, .one (lb r2))]) (fun r2 => []) (by kernel_rfl) (fun r2 hr => pOp_eff (by kernel_rfl) (by kernel_rfl) (eff_call (ARGS := [.one (li .i64 a1)]) (by kernel_rfl) (args_clean (by kernel_rfl) args_nil) (F32_ok n a1 r2 hr) (by kernel_rfl))) (fun r2 => ?_)
    refine SimI.run 3 [(19, .one (lb (!(r2)))), (18, .one (lb (!(r2)))), (17, .one (lb (!(r2))))] [] (by kernel_rfl) ?_
    refine SimI.split 19 (!(r2)) (by kernel_rfl) ?_ ?_
    · refine SimI.run 4 [(23, .one (lb true)), (22, .tup []), (21, .tup []), (20, .tup [])] [] (by kernel_rfl) ?_
      refine SimI.done (by kernel_rfl) ?_
      refine SimE.thenN ?_
      refine Sim.condT (by kernel_rfl) ?_
      refine Sim.seq ?_
      refine Sim.region0 ?_
      refine SimI.run 1 [(4, .one (lb false))] [] (by kernel_rfl) ?_
      refine SimI.done (by kernel_rfl) ?_
      refine SimE.thenN ?_
      refine Sim.ret ?_
      refine SimE.thenR ?_
      exact SimE.fin (by kernel_rfl)
    · refine SimI.run 4 [(23, .one (lb (a0 == a1))), (22, .one (lb (a0 == a1))), (21, .one (li .i64 a1)), (20, .one (li .i64 a0))] [] (by kernel_rfl) ?_
      refine SimI.done (by kernel_rfl) ?_
      refine SimE.thenN ?_
      refine Sim.cond (a0 == a1) (by kernel_rfl) ?_ ?_
      · refine Sim.seq ?_
        refine Sim.region0 ?_
        refine SimI.run 1 [(4, .one (lb false))] [] (by kernel_rfl) ?_
        refine SimI.done (by kernel_rfl) ?_
        refine SimE.thenN ?_
        refine Sim.ret ?_
        refine SimE.thenR ?_
        exact SimE.fin (by kernel_rfl)
      · refine Sim.skip ?_
        refine SimE.thenN ?_
        refine Sim.seq ?_
        refine Sim.region0 ?_
        refine SimI.run 2 [(26, .one (li .u32 (IntKind.wrap .u32 a0))), (25, .one (li .i64 a0))] [] (by kernel_rfl) ?_
        refine SimI.bind (og := F57 n (IntKind.wrap .u32 a0)) { dst := some 27, op := POp.call true [[]] 57 [Operand.tmp 26], guard := none, hints := [] } (fun r3 => [(27, .tup [.one (li .u16 r3.1), .one (li .u16 r3.2)])]) (fun r3 => []) (by kernel_rfl) (fun r3 hr => pOp_eff (by kernel_rfl) (by kernel_rfl) (eff_call (ARGS := [.one (li .u32 (IntKind.wrap .u32 a0))]) (by kernel_rfl) (args_clean (by kernel_rfl) args_nil) (F57_ok n (IntKind.wrap .u32 a0) r3 hr) (by kernel_rfl))) (fun r3 => ?_)
        refine SimI.run 5 [(6, .one (li .u16 r3.2)), (5, .one (li .u16 r3.1)), (29, .one (li .u16 r3.2)), (28, .one (li .u16 r3.1)), (24, .tup [.one (li .u16 r3.1), .one (li .u16 r3.2)])] [] (by kernel_rfl) ?_
        refine SimI.done (by kernel_rfl) ?_
        refine SimE.thenN ?_
        refine Sim.seq ?_
        refine Sim.region0 ?_
        refine SimI.run 2 [(32, .one (li .u32 (IntKind.wrap .u32 a1))), (31, .one (li .i64 a1))] [] (by kernel_rfl) ?_
        refine SimI.bind (og := F57 n (IntKind.wrap .u32 a1)) { dst := some 33, op := POp.call true [[]] 57 [Operand.tmp 32], guard := none, hints := [] } (fun r4 => [(33, .tup [.one (li .u16 r4.1), .one (li .u16 r4.2)])]) (fun r4 => []) (by kernel_rfl) (fun r4 hr => pOp_eff (by kernel_rfl) (by kernel_rfl) (eff_call (ARGS := [.one (li .u32 (IntKind.wrap .u32 a1))]) (by kernel_rfl) (args_clean (by kernel_rfl) args_nil) (F57_ok n (IntKind.wrap .u32 a1) r4 hr) (by kernel_rfl))) (fun r4 => ?_)
        refine SimI.run 5 [(8, .one (li .u16 r4.2)), (7, .one (li .u16 r4.1)), (35, .one (li .u16 r4.2)), (34, .one (li .u16 r4.1)), (30, .tup [.one (li .u16 r4.1), .one (li .u16 r4.2)])] [] (by kernel_rfl) ?_
        refine SimI.done (by kernel_rfl) ?_
        refine SimE.thenN ?_
        refine Sim.seq ?_
        refine Sim.region0 ?_
        refine SimI.run 12 [(10, .one (li .i64 (IntKind.wrap .i64 (IntKind.wrap .i64 r3.2 - IntKind.wrap .i64 r4.2)))), (9, .one (li .i64 (IntKind.wrap .i64 (IntKind.wrap .i64 r3.1 - IntKind.wrap .i64 r4.1)))), (45, .one (li .i64 (IntKind.wrap .i64 (IntKind.wrap .i64 r3.2 - IntKind.wrap .i64 r4.2)))), (44, .one (li .i64 (IntKind.wrap .i64 r4.2))), (43, .one (li .u16 r4.2)), (42, .one (li .i64 (IntKind.wrap .i64 r3.2))), (41, .one (li .u16 r3.2)), (40, .one (li .i64 (IntKind.wrap .i64 (IntKind.wrap .i64 r3.1 - IntKind.wrap .i64 r4.1)))), (39, .one (li .i64 (IntKind.wrap .i64 r4.1))), (38, .one (li .u16 r4.1)), (37, .one (li .i64 (IntKind.wrap .i64 r3.1))), (36, .one (li .u16 r3.1))] [] (by kernel_rfl) ?_
        refine SimI.done (by kernel_rfl) ?_
        refine SimE.thenN ?_
        refine Sim.seq ?_
        refine Sim.region0 ?_
        refine SimI.run 3 [(48, .one (lb (decide (((-1) : Int) ≤ IntKind.wrap .i64 (IntKind.wrap .i64 r3.1 - IntKind.wrap .i64 r4.1))))), (47, .one (lb (decide (((-1) : Int) ≤ IntKind.wrap .i64 (IntKind.wrap .i64 r3.1 - IntKind.wrap .i64 r4.1))))), (46, .one (li .i64 (IntKind.wrap .i64 (IntKind.wrap .i64 r3.1 - IntKind.wrap .i64 r4.1))))] [] (by kernel_rfl) ?_
        refine SimI.split 48 (decide (((-1) : Int) ≤ IntKind.wrap .i64 (IntKind.wrap .i64 r3.1 - IntKind.wrap .i64 r4.1))) (by kernel_rfl) ?_ ?_
        · refine SimI.run 4 [(52, .one (lb (decide (IntKind.wrap .i64 (IntKind.wrap .i64 r3.1 - IntKind.wrap .i64 r4.1) ≤ 1)))), (51, .one (lb (decide (IntKind.wrap .i64 (IntKind.wrap .i64 r3.1 - IntKind.wrap .i64 r4.1) ≤ 1)))), (50, .one (lb (decide (IntKind.wrap .i64 (IntKind.wrap .i64 r3.1 - IntKind.wrap .i64 r4.1) ≤ 1)))), (49, .one (li .i64 (IntKind.wrap .i64 (IntKind.wrap .i64 r3.1 - IntKind.wrap .i64 r4.1))))] [] (by kernel_rfl) ?_
          refine SimI.split 52 (decide (IntKind.wrap .i64 (IntKind.wrap .i64 r3.1 - IntKind.wrap .i64 r4.1) ≤ 1)) (by kernel_rfl) ?_ ?_
          · refine SimI.run 4 [(56, .one (lb (decide (((-1) : Int) ≤ IntKind.wrap .i64 (IntKind.wrap .i64 r3.2 - IntKind.wrap .i64 r4.2))))), (55, .one (lb (decide (((-1) : Int) ≤ IntKind.wrap .i64 (IntKind.wrap .i64 r3.2 - IntKind.wrap .i64 r4.2))))), (54, .one (lb (decide (((-1) : Int) ≤ IntKind.wrap .i64 (IntKind.wrap .i64 r3.2 - IntKind.wrap .i64 r4.2))))), (53, .one (li .i64 (IntKind.wrap .i64 (IntKind.wrap .i64 r3.2 - IntKind.wrap .i64 r4.2))))] [] (by kernel_rfl) ?_
            refine SimI.split 56 (decide (((-1) : Int) ≤ IntKind.wrap .i64 (IntKind.wrap .i64 r3.2 - IntKind.wrap .i64 r4.2))) (by kernel_rfl) ?_ ?_
            · refine SimI.run 4 [(4, .one (lb (decide (IntKind.wrap .i64 (IntKind.wrap .i64 r3.2 - IntKind.wrap .i64 r4.2) ≤ 1)))), (59, .one (lb (decide (IntKind.wrap .i64 (IntKind.wrap .i64 r3.2 - IntKind.wrap .i64 r4.2) ≤ 1)))), (58, .one (lb (decide (IntKind.wrap .i64 (IntKind.wrap .i64 r3.2 - IntKind.wrap .i64 r4.2) ≤ 1)))), (57, .one (li .i64 (IntKind.wrap .i64 (IntKind.wrap .i64 r3.2 - IntKind.wrap .i64 r4.2))))] [] (by kernel_rfl) ?_
              refine SimI.done (by kernel_rfl) ?_
              refine SimE.thenN ?_
              refine Sim.ret ?_
              exact SimE.fin (by kernel_rfl)
            · refine SimI.run 4 [(4, .one (lb false)), (59, .one (lb false)), (58, .tup []), (57, .tup [])] [] (by kernel_rfl) ?_
              refine SimI.done (by kernel_rfl) ?_
              refine SimE.thenN ?_
              refine Sim.ret ?_
              exact SimE.fin (by kernel_rfl)
          · refine SimI.run 8 [(4, .one (lb false)), (59, .one (lb false)), (58, .tup []), (57, .tup []), (56, .one (lb false)), (55, .one (lb false)), (54, .tup []), (53, .tup [])] [] (by kernel_rfl) ?_
            refine SimI.done (by kernel_rfl) ?_
            refine SimE.thenN ?_
            refine Sim.ret ?_
            exact SimE.fin (by kernel_rfl)
        · refine SimI.run 12 [(4, .one (lb false)), (59, .one (lb false)), (58, .tup []), (57, .tup []), (56, .one (lb false)), (55, .one (lb false)), (54, .tup []), (53, .tup []), (52, .one (lb false)), (51, .one (lb false)), (50, .tup []), (49, .tup [])] [] (by kernel_rfl) ?_
          refine SimI.done (by kernel_rfl) ?_
          refine SimE.thenN ?_
          refine Sim.ret ?_
          exact SimE.fin (by kernel_rfl)


-- 7: vedette/vedettelaw5.CellTells
def F7_e : Bool → PV × List (List Lf) := fun r => (.one (lb r), [])
def F7_l11 (n : Nat) (a2 : Int) (a3 : Int) (r2 : (Int × Int)) (r3 : (Int × Int)) (r4 : (Rect × Bool)) (r5 : (Rect × Bool)) (r6 : (List Int)) (r7 : (List Int)) : Nat → Int → Option Bool
  | 0, _ => none
  | m + 1, i10 =>
    if decide (i10 < ((r6).length : Int)) then
      (ix r6 i10).bind fun (x12 : Int) =>
      (ix r7 i10).bind fun (x13 : Int) =>
      if x12 != x13 then
        some false
      else
        (F7_l11 n a2 a3 r2 r3 r4 r5 r6 r7 m) (IntKind.wrap .i64 (i10 + 1))
    else
      if r2.1 == r3.1 then
        if r2.2 == r3.2 then
          if Rect.eqb r4.1 r5.1 then
            if r4.2 == r5.2 then
              (F31 n a2).bind fun (r14 : Bool) =>
              (F32 n a2).bind fun (r15 : Bool) =>
              if r14 == r15 then
                (F33 n a2 a3).bind fun (r16 : Bool) =>
                (F34 n a2 a3).bind fun (r17 : Bool) =>
                some (r16 == r17)
              else
                some false
            else
              some false
          else
            some false
        else
          some false
      else
        some false
theorem F7_l11_ok (n : Nat) (a2 : Int) (a3 : Int) (r2 : (Int × Int)) (r3 : (Int × Int)) (r4 : (Rect × Bool)) (r5 : (Rect × Bool)) (r6 : (List Int)) (r7 : (List Int)) : ∀ (m : Nat) (i10 : Int), SimL Try.prog D (n + 8) m pc7_c37 [(2, .one (li .i64 a2)), (3, .one (li .i64 a3)), (9, .one (li .i64 r2.1)), (10, .one (li .i64 r2.2)), (11, .one (li .i64 r3.1)), (12, .one (li .i64 r3.2)), (13, .one (.ptr 13 0)), (14, .one (lb r4.2)), (15, .one (.ptr 15 0)), (16, .one (lb r5.2)), (17, .one (vw (codI .i64) r6)), (18, .one (vw (codI .i64) r7)), (19, .one (li .i64 i10))] ((13, some (.cells [li .i64 r4.1.X0, li .i64 r4.1.Y0, li .i64 r4.1.X1, li .i64 r4.1.Y1])) :: ((15, some (.cells [li .i64 r5.1.X0, li .i64 r5.1.Y0, li .i64 r5.1.X1, li .i64 r5.1.Y1])) :: [])) (F7_l11 n a2 a3 r2 r3 r4 r5 r6 r7 m i10) (QB 0 (QT Try.prog D (n + 8) pc7_c43 (QF pc7_r 0 F7_e))) := by
  intro m_l11
  induction m_l11 with
  | zero => intro i10; exact SimL.zero'  rfl
  | succ m_l11 ih_l11 =>
    intro i10
    refine SimL.succ ?_
    unfold F7_l11
    refine Sim.seq ?_
    refine Sim.seq ?_
    refine Sim.region [(2, .one (li .i64 a2)), (3, .one (li .i64 a3)), (9, .one (li .i64 r2.1)), (10, .one (li .i64 r2.2)), (11, .one (li .i64 r3.1)), (12, .one (li .i64 r3.2)), (13, .one (.ptr 13 0)), (14, .one (lb r4.2)), (15, .one (.ptr 15 0)), (16, .one (lb r5.2)), (17, .one (vw (codI .i64) r6)), (18, .one (vw (codI .i64) r7)), (19, .one (li .i64 i10))] ((13, some (.cells [li .i64 r4.1.X0, li .i64 r4.1.Y0, li .i64 r4.1.X1, li .i64 r4.1.Y1])) :: ((15, some (.cells [li .i64 r5.1.X0, li .i64 r5.1.Y0, li .i64 r5.1.X1, li .i64 r5.1.Y1])) :: [])) (by kernel_rfl) ?_
    refine SimI.run 4 [(54, .one (lb (decide (i10 < ((r6).length : Int))))), (53, .one (li .i64 ((r6).length : Int))), (52, .one (vw (codI .i64) r6)), (51, .one (li .i64 i10))] [] (by kernel_rfl) ?_
    refine SimI.done (by kernel_rfl) ?_
    refine SimE.thenN ?_
    refine Sim.cond (decide (i10 < ((r6).length : Int))) (by kernel_rfl) ?_ ?_
    · refine Sim.skip ?_
      refine SimE.thenN ?_
      refine Sim.seq ?_
      refine Sim.block ?_
      refine Sim.seq ?_
      refine Sim.region0 ?_
      refine SimI.run 2 [(58, .one (li .i64 i10)), (57, .one (vw (codI .i64) r6))] [] (by kernel_rfl) ?_
      refine SimI.bind (og := ix r6 i10) { dst := some 59, op := POp.iaddrS 1 (Operand.tmp 57) (Operand.tmp 58), guard := none, hints := [(57, Hint.imm), (58, Hint.imm)] } (fun x12 => [(59, .one (.eptr ((codI .i64).enc x12) 0))]) (fun x12 => []) (by kernel_rfl) (fun x12 hr => pOp_eff (by kernel_rfl) (by kernel_rfl) (eff_idx (c := (codI .i64)) (l := r6) (k := .i64) (n := i10) (by kernel_rfl) (by kernel_rfl) (by kernel_rfl) hr)) (fun x12 => ?_)
      refine SimI.run 3 [(62, .one (li .i64 i10)), (61, .one (vw (codI .i64) r7)), (60, .one (li .i64 x12))] [] (by kernel_rfl) ?_
      refine SimI.bind (og := ix r7 i10) { dst := some 63, op := POp.iaddrS 1 (Operand.tmp 61) (Operand.tmp 62), guard := none, hints := [(61, Hint.imm), (62, Hint.imm)] } (fun x13 => [(63, .one (.eptr ((codI .i64).enc x13) 0))]) (fun x13 => []) (by kernel_rfl) (fun x13 hr => pOp_eff (by kernel_rfl) (by kernel_rfl) (eff_idx (c := (codI .i64)) (l := r7) (k := .i64) (n := i10) (by kernel_rfl) (by kernel_rfl) (by kernel_rfl) hr)) (fun x13 => ?_)
      refine SimI.run 2 [(65, .one (lb (x12 != x13))), (64, .one (li .i64 x13))] [] (by kernel_rfl) ?_
      refine SimI.done (by kernel_rfl) ?_
      refine SimE.thenN ?_
      refine Sim.cond (x12 != x13) (by kernel_rfl) ?_ ?_
      · refine Sim.seq ?_
        refine Sim.region0 ?_
        refine SimI.run 1 [(8, .one (lb false))] [] (by kernel_rfl) ?_
        refine SimI.done (by kernel_rfl) ?_
        refine SimE.thenN ?_
        refine Sim.ret ?_
        refine SimE.blockR ?_
        refine SimE.thenR ?_
        refine SimE.loopR ?_
        refine SimE.blockR ?_
        refine SimE.thenR ?_
        exact SimE.fin (by kernel_rfl)
      · refine Sim.skip ?_
        refine SimE.blockN ?_
        refine SimE.thenN ?_
        refine Sim.region0 ?_
        refine SimI.run 3 [(19, .one (li .i64 (IntKind.wrap .i64 (i10 + 1)))), (56, .one (li .i64 (IntKind.wrap .i64 (i10 + 1)))), (55, .one (li .i64 i10))] [] (by kernel_rfl) ?_
        refine SimI.done (by kernel_rfl) ?_
        refine SimE.loopN ?_
        refine SimL.pre (ts := [2, 3, 9, 10, 11, 12, 13, 14, 15, 16, 17, 18, 19]) (os := [4, 5, 13, 15]) [(2, .one (li .i64 a2)), (3, .one (li .i64 a3)), (9, .one (li .i64 r2.1)), (10, .one (li .i64 r2.2)), (11, .one (li .i64 r3.1)), (12, .one (li .i64 r3.2)), (13, .one (.ptr 13 0)), (14, .one (lb r4.2)), (15, .one (.ptr 15 0)), (16, .one (lb r5.2)), (17, .one (vw (codI .i64) r6)), (18, .one (vw (codI .i64) r7)), (19, .one (li .i64 (IntKind.wrap .i64 (i10 + 1))))] ((13, some (.cells [li .i64 r4.1.X0, li .i64 r4.1.Y0, li .i64 r4.1.X1, li .i64 r4.1.Y1])) :: ((15, some (.cells [li .i64 r5.1.X0, li .i64 r5.1.Y0, li .i64 r5.1.X1, li .i64 r5.1.Y1])) :: [])) (by kernel_rfl) (by kernel_rfl) (by kernel_rfl) ?_
        exact ih_l11 (IntKind.wrap .i64 (i10 + 1))
    · refine Sim.exit ?_
      refine SimE.thenX ?_
      refine SimE.loopX ?_
      refine SimE.blockX ?_
      refine SimE.thenN ?_
      refine Sim.seq ?_
      refine Sim.region0 ?_
      refine SimI.run 4 [(69, .one (lb (r2.1 == r3.1))), (68, .one (lb (r2.1 == r3.1))), (67, .one (li .i64 r3.1)), (66, .one (li .i64 r2.1))] [] (by kernel_rfl) ?_
      refine SimI.split 69 (r2.1 == r3.1) (by kernel_rfl) ?_ ?_
      · refine SimI.run 5 [(74, .one (lb (r2.2 == r3.2))), (73, .one (lb (r2.2 == r3.2))), (72, .one (lb (r2.2 == r3.2))), (71, .one (li .i64 r3.2)), (70, .one (li .i64 r2.2))] [] (by kernel_rfl) ?_
        refine SimI.split 74 (r2.2 == r3.2) (by kernel_rfl) ?_ ?_
        · refine SimI.run 2 [(76, .agg [li .i64 r5.1.X0, li .i64 r5.1.Y0, li .i64 r5.1.X1, li .i64 r5.1.Y1]), (75, .agg [li .i64 r4.1.X0, li .i64 r4.1.Y0, li .i64 r4.1.X1, li .i64 r4.1.Y1])] [] (by kernel_rfl) ?_
          refine SimI.step { dst := some 77, op := POp.prim (Prim.bin BinOp.eql 24 false false) [Operand.tmp 75, Operand.tmp 76], guard := some (74, true), hints := [] } [(77, .one (lb (Rect.eqb r4.1 r5.1)))] [] (by kernel_rfl) (pOp_eff (by kernel_rfl) (by kernel_rfl) (eff_prim (by kernel_rfl) (Rect_eql r4.1 r5.1 _ _))) ?_
          refine SimI.run 2 [(79, .one (lb (Rect.eqb r4.1 r5.1))), (78, .one (lb (Rect.eqb r4.1 r5.1)))] [] (by kernel_rfl) ?_
          refine SimI.split 79 (Rect.eqb r4.1 r5.1) (by kernel_rfl) ?_ ?_
          · refine SimI.run 5 [(84, .one (lb (r4.2 == r5.2))), (83, .one (lb (r4.2 == r5.2))), (82, .one (lb (r4.2 == r5.2))), (81, .one (lb r5.2)), (80, .one (lb r4.2))] [] (by kernel_rfl) ?_
            refine SimI.split 84 (r4.2 == r5.2) (by kernel_rfl) ?_ ?_
            · refine SimI.run 1 [(85, .one (li .i64 a2))] [] (by kernel_rfl) ?_
              refine SimI.bind (og := F31 n a2) { dst := some 86, op := POp.call true [[]] 31 [Operand.tmp 85], guard := some (84, true), hints := [] } (fun r14 => [(86, .one (lb r14))]) (fun r14 => []) (by kernel_rfl) (fun r14 hr => pOp_eff (by kernel_rfl) (by kernel_rfl) (eff_call (ARGS := [.one (li .i64 a2)]) (by kernel_rfl) (args_clean (by kernel_rfl) args_nil) (F31_ok n a2 r14 hr) (by kernel_rfl))) (fun r14 => ?_)
              refine SimI.run 1 [(87, .one (li .i64 a2))] [] (by kernel_rfl) ?_
              refine SimI.bind (og := F32 n a2) { dst := some 88, op := POp.call true [[]] 32 [Operand.tmp 87], guard := some (84, true), hints := [] } (fun r15 => [(88, .one (lb r15))]) (fun r15 => []) (by kernel_rfl) (fun r15 hr => pOp_eff (by kernel_rfl) (by kernel_rfl) (eff_call (ARGS := [.one (li .i64 a2)]) (by kernel_rfl) (args_clean (by kernel_rfl) args_nil) (F32_ok n a2 r15 hr) (by kernel_rfl))) (fun r15 => ?_)
              refine SimI.run 3 [(91, .one (lb (r14 == r15))), (90, .one (lb (r14 == r15))), (89, .one (lb (r14 == r15)))] [] (by kernel_rfl) ?_
              refine SimI.split 91 (r14 == r15) (by kernel_rfl) ?_ ?_
              · refine SimI.run 2 [(93, .one (li .i64 a3)), (92, .one (li .i64 a2))] [] (by kernel_rfl) ?_
                refine SimI.bind (og := F33 n a2 a3) { dst := some 94, op := POp.call true [[], []] 33 [Operand.tmp 92, Operand.tmp 93], guard := some (91, true), hints := [] } (fun r16 => [(94, .one (lb r16))]) (fun r16 => []) (by kernel_rfl) (fun r16 hr => pOp_eff (by kernel_rfl) (by kernel_rfl) (eff_call (ARGS := [.one (li .i64 a2), .one (li .i64 a3)]) (by kernel_rfl) (args_clean (by kernel_rfl) (args_clean (by kernel_rfl) args_nil)) (F33_ok n a2 a3 r16 hr) (by kernel_rfl))) (fun r16 => ?_)
                refine SimI.run 2 [(96, .one (li .i64 a3)), (95, .one (li .i64 a2))] [] (by kernel_rfl) ?_
                refine SimI.bind (og := F34 n a2 a3) { dst := some 97, op := POp.call true [[], []] 34 [Operand.tmp 95, Operand.tmp 96], guard := some (91, true), hints := [] } (fun r17 => [(97, .one (lb r17))]) (fun r17 => []) (by kernel_rfl) (fun r17 hr => pOp_eff (by kernel_rfl) (by kernel_rfl) (eff_call (ARGS := [.one (li .i64 a2), .one (li .i64 a3)]) (by kernel_rfl) (args_clean (by kernel_rfl) (args_clean (by kernel_rfl) args_nil)) (F34_ok n a2 a3 r17 hr) (by kernel_rfl))) (fun r17 => ?_)
                refine SimI.run 3 [(8, .one (lb (r16 == r17))), (99, .one (lb (r16 == r17))), (98, .one (lb (r16 == r17)))] [] (by kernel_rfl) ?_
                refine SimI.done (by kernel_rfl) ?_
                refine SimE.thenN ?_
                refine Sim.ret ?_
                exact SimE.fin (by kernel_rfl)
              · refine SimI.run 9 [(8, .one (lb false)), (99, .one (lb false)), (98, .tup []), (97, .tup []), (96, .tup []), (95, .tup []), (94, .tup []), (93, .tup []), (92, .tup [])] [] (by kernel_rfl) ?_
                refine SimI.done (by kernel_rfl) ?_
                refine SimE.thenN ?_
                refine Sim.ret ?_
                exact SimE.fin (by kernel_rfl)
            · refine SimI.run 16 [(8, .one (lb false)), (99, .one (lb false)), (98, .tup []), (97, .tup []), (96, .tup []), (95, .tup []), (94, .tup []), (93, .tup []), (92, .tup []), (91, .one (lb false)), (90, .one (lb false)), (89, .tup []), (88, .tup []), (87, .tup []), (86, .tup []), (85, .tup [])] [] (by kernel_rfl) ?_
              refine SimI.done (by kernel_rfl) ?_
              refine SimE.thenN ?_
              refine Sim.ret ?_
              exact SimE.fin (by kernel_rfl)
          · refine SimI.run 21 [(8, .one (lb false)), (99, .one (lb false)), (98, .tup []), (97, .tup []), (96, .tup []), (95, .tup []), (94, .tup []), (93, .tup []), (92, .tup []), (91, .one (lb false)), (90, .one (lb false)), (89, .tup []), (88, .tup []), (87, .tup []), (86, .tup []), (85, .tup []), (84, .one (lb false)), (83, .one (lb false)), (82, .tup []), (81, .tup []), (80, .tup [])] [] (by kernel_rfl) ?_
            refine SimI.done (by kernel_rfl) ?_
            refine SimE.thenN ?_
            refine Sim.ret ?_
            exact SimE.fin (by kernel_rfl)
        · refine SimI.run 26 [(8, .one (lb false)), (99, .one (lb false)), (98, .tup []), (97, .tup []), (96, .tup []), (95, .tup []), (94, .tup []), (93, .tup []), (92, .tup []), (91, .one (lb false)), (90, .one (lb false)), (89, .tup []), (88, .tup []), (87, .tup []), (86, .tup []), (85, .tup []), (84, .one (lb false)), (83, .one (lb false)), (82, .tup []), (81, .tup []), (80, .tup []), (79, .one (lb false)), (78, .one (lb false)), (77, .tup []), (76, .tup []), (75, .tup [])] [] (by kernel_rfl) ?_
          refine SimI.done (by kernel_rfl) ?_
          refine SimE.thenN ?_
          refine Sim.ret ?_
          exact SimE.fin (by kernel_rfl)
      · refine SimI.run 31 [(8, .one (lb false)), (99, .one (lb false)), (98, .tup []), (97, .tup []), (96, .tup []), (95, .tup []), (94, .tup []), (93, .tup []), (92, .tup []), (91, .one (lb false)), (90, .one (lb false)), (89, .tup []), (88, .tup []), (87, .tup []), (86, .tup []), (85, .tup []), (84, .one (lb false)), (83, .one (lb false)), (82, .tup []), (81, .tup []), (80, .tup []), (79, .one (lb false)), (78, .one (lb false)), (77, .tup []), (76, .tup []), (75, .tup []), (74, .one (lb false)), (73, .one (lb false)), (72, .tup []), (71, .tup []), (70, .tup [])] [] (by kernel_rfl) ?_
        refine SimI.done (by kernel_rfl) ?_
        refine SimE.thenN ?_
        refine Sim.ret ?_
        exact SimE.fin (by kernel_rfl)

def F7 (n : Nat) (a0 : Point) (a1 : Rect) (a2 : Int) (a3 : Int) : Option Bool :=
  ((some true)).bind fun (r1 : Bool) =>
  if !(r1) then
    some false
  else
    (F25 n a0).bind fun (r2 : (Int × Int)) =>
    (F26 n a0).bind fun (r3 : (Int × Int)) =>
    (F27 n a2).bind fun (r4 : (Rect × Bool)) =>
    (F28 n a2).bind fun (r5 : (Rect × Bool)) =>
    (F29 n a1).bind fun (r6 : (List Int)) =>
    (F30 n a1).bind fun (r7 : (List Int)) =>
    if ((r6).length : Int) != ((r7).length : Int) then
      some false
    else
      F7_l11 n a2 a3 r2 r3 r4 r5 r6 r7 (n + 8) 0
theorem F7_ok (n : Nat) (a0 : Point) (a1 : Rect) (a2 : Int) (a3 : Int) : ∀ r, F7 n a0 a1 a2 a3 = some r → D 7 [.agg [li .i64 a0.X, li .i64 a0.Y], .agg [li .i64 a1.X0, li .i64 a1.Y0, li .i64 a1.X1, li .i64 a1.Y1], .one (li .i64 a2), .one (li .i64 a3)] [] = some (F7_e r) := by
  refine fn_to (D := D) (n := n + 8) (nt := 100) (rs := pc7_r) (c := pc7_c52) (L := [(0, .agg [li .i64 a0.X, li .i64 a0.Y]), (1, .agg [li .i64 a1.X0, li .i64 a1.Y0, li .i64 a1.X1, li .i64 a1.Y1]), (2, .one (li .i64 a2)), (3, .one (li .i64 a3))]) (M := []) (k := 0) rfl rfl rfl rfl rfl rfl ?_
  unfold F7
  refine Sim.seq ?_
  refine Sim.region0 ?_
  refine SimI.run 3 [(8, .one (lb false)), (5, .one (.ptr 5 0)), (4, .one (.ptr 4 0))] [(5, some (.cells [li .i64 a1.X0, li .i64 a1.Y0, li .i64 a1.X1, li .i64 a1.Y1])), (4, some (.cells [li .i64 a0.X, li .i64 a0.Y]))] (by kernel_rfl) ?_
  refine SimI.done (by kernel_rfl) ?_
  refine SimE.thenN ?_
  refine Sim.seq ?_
  refine Sim.seq ?_
  refine Sim.region0 ?_
  refine SimI.bind (og := (some true)) { dst := some 20, op := POp.call true [] 24 [], guard := none, hints := [] } (fun r1 => [(20, .one (lb r1))]) (fun r1 => []) (by kernel_rfl) (fun r1 hr => pOp_eff (by kernel_rfl) (by kernel_rfl) (eff_call (ARGS := []) (by kernel_rfl) (args_nil) (F24_ok n r1 hr) (by kernel_rfl))) (fun r1 => ?_)
  refine SimI.run 1 [(21, .one (lb (!(r1))))] [] (by kernel_rfl) ?_
  refine SimI.done (by kernel_rfl) ?_
  refine SimE.thenN ?_
  refine Sim.cond (!(r1)) (by kernel_rfl) ?_ ?_
  · refine Sim.seq ?_
    refine Sim.region0 ?_
    refine SimI.run 1 [(8, .one (lb false))] [] (by kernel_rfl) ?_
    refine SimI.done (by kernel_rfl) ?_
    refine SimE.thenN ?_
    refine Sim.ret ?_
    refine SimE.thenR ?_
    exact SimE.fin (by kernel_rfl)
  · refine Sim.skip ?_
    refine SimE.thenN ?_
    refine Sim.seq ?_
    refine Sim.region0 ?_
    refine SimI.run 1 [(23, .agg [li .i64 a0.X, li .i64 a0.Y])] [] (by kernel_rfl) ?_
    refine SimI.bind (og := F25 n a0) { dst := some 24, op := POp.call true [[]] 25 [Operand.tmp 23], guard := none, hints := [] } (fun r2 => [(24, .tup [.one (li .i64 r2.1), .one (li .i64 r2.2)])]) (fun r2 => []) (by kernel_rfl) (fun r2 hr => pOp_eff (by kernel_rfl) (by kernel_rfl) (eff_call (ARGS := [.agg [li .i64 a0.X, li .i64 a0.Y]]) (by kernel_rfl) (args_clean (by kernel_rfl) args_nil) (F25_ok n a0 r2 hr) (by kernel_rfl))) (fun r2 => ?_)
    refine SimI.run 5 [(10, .one (li .i64 r2.2)), (9, .one (li .i64 r2.1)), (26, .one (li .i64 r2.2)), (25, .one (li .i64 r2.1)), (22, .tup [.one (li .i64 r2.1), .one (li .i64 r2.2)])] [] (by kernel_rfl) ?_
    refine SimI.done (by kernel_rfl) ?_
    refine SimE.thenN ?_
    refine Sim.seq ?_
    refine Sim.region0 ?_
    refine SimI.run 1 [(28, .agg [li .i64 a0.X, li .i64 a0.Y])] [] (by kernel_rfl) ?_
    refine SimI.bind (og := F26 n a0) { dst := some 29, op := POp.call true [[]] 26 [Operand.tmp 28], guard := none, hints := [] } (fun r3 => [(29, .tup [.one (li .i64 r3.1), .one (li .i64 r3.2)])]) (fun r3 => []) (by kernel_rfl) (fun r3 hr => pOp_eff (by kernel_rfl) (by kernel_rfl) (eff_call (ARGS := [.agg [li .i64 a0.X, li .i64 a0.Y]]) (by kernel_rfl) (args_clean (by kernel_rfl) args_nil) (F26_ok n a0 r3 hr) (by kernel_rfl))) (fun r3 => ?_)
    refine SimI.run 5 [(12, .one (li .i64 r3.2)), (11, .one (li .i64 r3.1)), (31, .one (li .i64 r3.2)), (30, .one (li .i64 r3.1)), (27, .tup [.one (li .i64 r3.1), .one (li .i64 r3.2)])] [] (by kernel_rfl) ?_
    refine SimI.done (by kernel_rfl) ?_
    refine SimE.thenN ?_
    refine Sim.seq ?_
    refine Sim.region0 ?_
    refine SimI.run 1 [(33, .one (li .i64 a2))] [] (by kernel_rfl) ?_
    refine SimI.bind (og := F27 n a2) { dst := some 34, op := POp.call true [[]] 27 [Operand.tmp 33], guard := none, hints := [] } (fun r4 => [(34, .tup [.agg [li .i64 r4.1.X0, li .i64 r4.1.Y0, li .i64 r4.1.X1, li .i64 r4.1.Y1], .one (lb r4.2)])]) (fun r4 => []) (by kernel_rfl) (fun r4 hr => pOp_eff (by kernel_rfl) (by kernel_rfl) (eff_call (ARGS := [.one (li .i64 a2)]) (by kernel_rfl) (args_clean (by kernel_rfl) args_nil) (F27_ok n a2 r4 hr) (by kernel_rfl))) (fun r4 => ?_)
    refine SimI.run 6 [(14, .one (lb r4.2)), (13, .one (.ptr 13 0)), (36, .one (lb r4.2)), (35, .agg [li .i64 r4.1.X0, li .i64 r4.1.Y0, li .i64 r4.1.X1, li .i64 r4.1.Y1]), (32, .tup [.agg [li .i64 r4.1.X0, li .i64 r4.1.Y0, li .i64 r4.1.X1, li .i64 r4.1.Y1], .one (lb r4.2)])] [(13, some (.cells [li .i64 r4.1.X0, li .i64 r4.1.Y0, li .i64 r4.1.X1, li .i64 r4.1.Y1])), (13, some (.cells [li .i64 0, li .i64 0, li .i64 0, li .i64 0]))] (by kernel_rfl) ?_
    refine SimI.done (by kernel_rfl) ?_
    refine SimE.thenN ?_
    refine Sim.seq ?_
    refine Sim.region0 ?_
    refine SimI.run 1 [(38, .one (li .i64 a2))] [] (by kernel_rfl) ?_
    refine SimI.bind (og := F28 n a2) { dst := some 39, op := POp.call true [[]] 28 [Operand.tmp 38], guard := none, hints := [] } (fun r5 => [(39, .tup [.agg [li .i64 r5.1.X0, li .i64 r5.1.Y0, li .i64 r5.1.X1, li .i64 r5.1.Y1], .one (lb r5.2)])]) (fun r5 => []) (by kernel_rfl) (fun r5 hr => pOp_eff (by kernel_rfl) (by kernel_rfl) (eff_call (ARGS := [.one (li .i64 a2)]) (by kernel_rfl) (args_clean (by kernel_rfl) args_nil) (F28_ok n a2 r5 hr) (by kernel_rfl))) (fun r5 => ?_)
    refine SimI.run 6 [(16, .one (lb r5.2)), (15, .one (.ptr 15 0)), (41, .one (lb r5.2)), (40, .agg [li .i64 r5.1.X0, li .i64 r5.1.Y0, li .i64 r5.1.X1, li .i64 r5.1.Y1]), (37, .tup [.agg [li .i64 r5.1.X0, li .i64 r5.1.Y0, li .i64 r5.1.X1, li .i64 r5.1.Y1], .one (lb r5.2)])] [(15, some (.cells [li .i64 r5.1.X0, li .i64 r5.1.Y0, li .i64 r5.1.X1, li .i64 r5.1.Y1])), (15, some (.cells [li .i64 0, li .i64 0, li .i64 0, li .i64 0]))] (by kernel_rfl) ?_
    refine SimI.done (by kernel_rfl) ?_
    refine SimE.thenN ?_
    refine Sim.seq ?_
    refine Sim.region0 ?_
    refine SimI.run 1 [(42, .agg [li .i64 a1.X0, li .i64 a1.Y0, li .i64 a1.X1, li .i64 a1.Y1])] [] (by kernel_rfl) ?_
    refine SimI.bind (og := F29 n a1) { dst := some 43, op := POp.call false [[]] 29 [Operand.tmp 42], guard := none, hints := [(42, Hint.imm)] } (fun r6 => [(43, .one (vw (codI .i64) r6))]) (fun r6 => []) (by kernel_rfl) (fun r6 hr => pOp_eff (by kernel_rfl) (by kernel_rfl) (eff_call (ARGS := [.agg [li .i64 a1.X0, li .i64 a1.Y0, li .i64 a1.X1, li .i64 a1.Y1]]) (by kernel_rfl) (args_clean (by kernel_rfl) args_nil) (F29_ok n a1 r6 hr) (by kernel_rfl))) (fun r6 => ?_)
    refine SimI.run 1 [(44, .agg [li .i64 a1.X0, li .i64 a1.Y0, li .i64 a1.X1, li .i64 a1.Y1])] [] (by kernel_rfl) ?_
    refine SimI.bind (og := F30 n a1) { dst := some 45, op := POp.call false [[]] 30 [Operand.tmp 44], guard := none, hints := [(44, Hint.imm)] } (fun r7 => [(45, .one (vw (codI .i64) r7))]) (fun r7 => []) (by kernel_rfl) (fun r7 hr => pOp_eff (by kernel_rfl) (by kernel_rfl) (eff_call (ARGS := [.agg [li .i64 a1.X0, li .i64 a1.Y0, li .i64 a1.X1, li .i64 a1.Y1]]) (by kernel_rfl) (args_clean (by kernel_rfl) args_nil) (F30_ok n a1 r7 hr) (by kernel_rfl))) (fun r7 => ?_)
    refine SimI.run 2 [(18, .one (vw (codI .i64) r7)), (17, .one (vw (codI .i64) r6))] [] (by kernel_rfl) ?_
    refine SimI.done (by kernel_rfl) ?_
    refine SimE.thenN ?_
    refine Sim.seq ?_
    refine Sim.seq ?_
    refine Sim.region0 ?_
    refine SimI.run 5 [(50, .one (lb (((r6).length : Int) != ((r7).length : Int)))), (49, .one (li .i64 ((r7).length : Int))), (48, .one (vw (codI .i64) r7)), (47, .one (li .i64 ((r6).length : Int))), (46, .one (vw (codI .i64) r6))] [] (by kernel_rfl) ?_
    refine SimI.done (by kernel_rfl) ?_
    refine SimE.thenN ?_
    refine Sim.cond (((r6).length : Int) != ((r7).length : Int)) (by kernel_rfl) ?_ ?_
    · refine Sim.seq ?_
      refine Sim.region0 ?_
      refine SimI.run 1 [(8, .one (lb false))] [] (by kernel_rfl) ?_
      refine SimI.done (by kernel_rfl) ?_
      refine SimE.thenN ?_
      refine Sim.ret ?_
      refine SimE.thenR ?_
      exact SimE.fin (by kernel_rfl)
    · refine Sim.skip ?_
      refine SimE.thenN ?_
      refine Sim.seq ?_
      refine Sim.seq ?_
      refine Sim.region0 ?_
      refine SimI.run 1 [(19, .one (li .i64 0))] [] (by kernel_rfl) ?_
      refine SimI.done (by kernel_rfl) ?_
      refine SimE.thenN ?_
      refine Sim.block ?_
      refine Sim.loop ?_
      refine SimL.pre (ts := [2, 3, 9, 10, 11, 12, 13, 14, 15, 16, 17, 18, 19]) (os := [4, 5, 13, 15]) [(2, .one (li .i64 a2)), (3, .one (li .i64 a3)), (9, .one (li .i64 r2.1)), (10, .one (li .i64 r2.2)), (11, .one (li .i64 r3.1)), (12, .one (li .i64 r3.2)), (13, .one (.ptr 13 0)), (14, .one (lb r4.2)), (15, .one (.ptr 15 0)), (16, .one (lb r5.2)), (17, .one (vw (codI .i64) r6)), (18, .one (vw (codI .i64) r7)), (19, .one (li .i64 0))] ((13, some (.cells [li .i64 r4.1.X0, li .i64 r4.1.Y0, li .i64 r4.1.X1, li .i64 r4.1.Y1])) :: ((15, some (.cells [li .i64 r5.1.X0, li .i64 r5.1.Y0, li .i64 r5.1.X1, li .i64 r5.1.Y1])) :: [])) (by kernel_rfl) (by kernel_rfl) (by kernel_rfl) ?_
      exact F7_l11_ok n a2 a3 r2 r3 r4 r5 r6 r7 (n + 8) 0


end Go.Proofs.Ytajfdeeepklfoaa
