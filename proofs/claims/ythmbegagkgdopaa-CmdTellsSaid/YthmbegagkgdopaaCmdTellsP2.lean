/-
  Functions of the program as functions of Lean. No condition.
-/
import Derived.Test.YthmbegagkgdopaaCmdTellsP1
namespace Go.Proofs.Ythmbegagkgdopaa
open Go Go.Rx
set_option maxRecDepth 100000
set_option linter.unusedVariables false
set_option linter.unusedSimpArgs false
set_option linter.unnecessarySimpa false
-- 33: vedette/vedettelaw10.fewCmd
def F33_e : Bool → PV × List Ob := fun r => (.one (lb r), [])
def F33 (n : Nat) (a0 : Command) : Option Bool :=
  if decide ((40 : Int) < (a0.F.a0.Text.size : Int)) then
    some false
  else
    if decide ((40 : Int) < (a0.F.a1.Text.size : Int)) then
      some false
    else
      if decide ((40 : Int) < (a0.F.a2.Text.size : Int)) then
        some false
      else
        if decide ((40 : Int) < (a0.F.a3.Text.size : Int)) then
          some false
        else
          some (decide ((a0.Value.Text.size : Int) ≤ 40))
theorem F33_ok (n : Nat) (a0 : Command) : ∀ r, F33 n a0 = some r → D 33 [.agg (Command.cells a0)] [] = some (F33_e r) := by
  refine fn_to (D := D) (n := n + 8) (nt := 20) (rs := pc33_r) (c := pc33_c26) (L := [(0, .agg (Command.cells a0))]) (M := []) (k := 0) rfl rfl rfl rfl rfl rfl rfl ?_
  unfold F33
  refine Sim.seq ?_
  refine Sim.region0 ?_
  refine SimI.run 2 [(2, .one (lb false)), (1, .one (.ptr 1 0))] [(1, some (.cells (Command.cells a0)))] (by kernel_rfl) ?_
  refine SimI.done (by kernel_rfl) ?_
  refine SimE.thenN ?_
  refine Sim.seq ?_
  refine Sim.seq ?_
  refine Sim.region0 ?_
  refine SimI.run 1 [(3, .one (li .i64 0))] [] (by kernel_rfl) ?_
  refine SimI.done (by kernel_rfl) ?_
  refine SimE.thenN ?_
  refine Sim.block ?_
  refine Sim.loop ?_
  refine SimL.succ ?_
  refine Sim.seq ?_
  refine Sim.seq ?_
  refine Sim.region [(1, .one (.ptr 1 0)), (3, .one (li .i64 0))] [(1, some (.cells (Command.cells a0)))] (by kernel_rfl) ?_
  refine SimI.run 2 [(5, .one (lb true)), (4, .one (li .i64 0))] [] (by kernel_rfl) ?_
  refine SimI.done (by kernel_rfl) ?_
  refine SimE.thenN ?_
  refine Sim.condT (by kernel_rfl) ?_
  refine Sim.skip ?_
  refine SimE.thenN ?_
  refine Sim.seq ?_
  refine Sim.block ?_
  refine Sim.seq ?_
  refine Sim.region0 ?_
  refine SimI.run 7 [(14, .one (lb (decide ((40 : Int) < (a0.F.a0.Text.size : Int))))), (13, .one (li .i64 (a0.F.a0.Text.size : Int))), (12, .one (ls a0.F.a0.Text)), (11, .one (.ptr 1 7)), (10, .one (.ptr 1 6)), (9, .one (.ptr 1 6)), (8, .one (li .i64 0))] [] (by kernel_rfl) ?_
  refine SimI.done (by kernel_rfl) ?_
  refine SimE.thenN ?_
  refine Sim.cond (decide ((40 : Int) < (a0.F.a0.Text.size : Int))) (by kernel_rfl) ?_ ?_
  · refine Sim.seq ?_
    refine Sim.region0 ?_
    refine SimI.run 1 [(2, .one (lb false))] [] (by kernel_rfl) ?_
    refine SimI.done (by kernel_rfl) ?_
    refine SimE.thenN ?_
    refine Sim.ret ?_
    refine SimE.blockR ?_
    refine SimE.thenR ?_
    refine SimE.loopR ?_
    refine SimE.blockR ?_
    refine SimE.thenR ?_
    exact SimE.fin (by kernel_rfl)
  · refine Sim.skip ?_
    refine SimE.blockN ?_
    refine SimE.thenN ?_
    refine Sim.region0 ?_
    refine SimI.run 3 [(3, .one (li .i64 1)), (7, .one (li .i64 1)), (6, .one (li .i64 0))] [] (by kernel_rfl) ?_
    refine SimI.done (by kernel_rfl) ?_
    refine SimE.loopN ?_
    refine SimL.succ ?_
    refine Sim.seq ?_
    refine Sim.seq ?_
    refine Sim.region [(1, .one (.ptr 1 0)), (3, .one (li .i64 1))] [(1, some (.cells (Command.cells a0)))] (by kernel_rfl) ?_
    refine SimI.run 2 [(5, .one (lb true)), (4, .one (li .i64 1))] [] (by kernel_rfl) ?_
    refine SimI.done (by kernel_rfl) ?_
    refine SimE.thenN ?_
    refine Sim.condT (by kernel_rfl) ?_
    refine Sim.skip ?_
    refine SimE.thenN ?_
    refine Sim.seq ?_
    refine Sim.block ?_
    refine Sim.seq ?_
    refine Sim.region0 ?_
    refine SimI.run 7 [(14, .one (lb (decide ((40 : Int) < (a0.F.a1.Text.size : Int))))), (13, .one (li .i64 (a0.F.a1.Text.size : Int))), (12, .one (ls a0.F.a1.Text)), (11, .one (.ptr 1 9)), (10, .one (.ptr 1 8)), (9, .one (.ptr 1 6)), (8, .one (li .i64 1))] [] (by kernel_rfl) ?_
    refine SimI.done (by kernel_rfl) ?_
    refine SimE.thenN ?_
    refine Sim.cond (decide ((40 : Int) < (a0.F.a1.Text.size : Int))) (by kernel_rfl) ?_ ?_
    · refine Sim.seq ?_
      refine Sim.region0 ?_
      refine SimI.run 1 [(2, .one (lb false))] [] (by kernel_rfl) ?_
      refine SimI.done (by kernel_rfl) ?_
      refine SimE.thenN ?_
      refine Sim.ret ?_
      refine SimE.blockR ?_
      refine SimE.thenR ?_
      refine SimE.loopR ?_
      refine SimE.blockR ?_
      refine SimE.thenR ?_
      exact SimE.fin (by kernel_rfl)
    · refine Sim.skip ?_
      refine SimE.blockN ?_
      refine SimE.thenN ?_
      refine Sim.region0 ?_
      refine SimI.run 3 [(3, .one (li .i64 2)), (7, .one (li .i64 2)), (6, .one (li .i64 1))] [] (by kernel_rfl) ?_
      refine SimI.done (by kernel_rfl) ?_
      refine SimE.loopN ?_
      refine SimL.succ ?_
      refine Sim.seq ?_
      refine Sim.seq ?_
      refine Sim.region [(1, .one (.ptr 1 0)), (3, .one (li .i64 2))] [(1, some (.cells (Command.cells a0)))] (by kernel_rfl) ?_
      refine SimI.run 2 [(5, .one (lb true)), (4, .one (li .i64 2))] [] (by kernel_rfl) ?_
      refine SimI.done (by kernel_rfl) ?_
      refine SimE.thenN ?_
      refine Sim.condT (by kernel_rfl) ?_
      refine Sim.skip ?_
      refine SimE.thenN ?_
      refine Sim.seq ?_
      refine Sim.block ?_
      refine Sim.seq ?_
      refine Sim.region0 ?_
      refine SimI.run 7 [(14, .one (lb (decide ((40 : Int) < (a0.F.a2.Text.size : Int))))), (13, .one (li .i64 (a0.F.a2.Text.size : Int))), (12, .one (ls a0.F.a2.Text)), (11, .one (.ptr 1 11)), (10, .one (.ptr 1 10)), (9, .one (.ptr 1 6)), (8, .one (li .i64 2))] [] (by kernel_rfl) ?_
      refine SimI.done (by kernel_rfl) ?_
      refine SimE.thenN ?_
      refine Sim.cond (decide ((40 : Int) < (a0.F.a2.Text.size : Int))) (by kernel_rfl) ?_ ?_
      · refine Sim.seq ?_
        refine Sim.region0 ?_
        refine SimI.run 1 [(2, .one (lb false))] [] (by kernel_rfl) ?_
        refine SimI.done (by kernel_rfl) ?_
        refine SimE.thenN ?_
        refine Sim.ret ?_
        refine SimE.blockR ?_
        refine SimE.thenR ?_
        refine SimE.loopR ?_
        refine SimE.blockR ?_
        refine SimE.thenR ?_
        exact SimE.fin (by kernel_rfl)
      · refine Sim.skip ?_
        refine SimE.blockN ?_
        refine SimE.thenN ?_
        refine Sim.region0 ?_
        refine SimI.run 3 [(3, .one (li .i64 3)), (7, .one (li .i64 3)), (6, .one (li .i64 2))] [] (by kernel_rfl) ?_
        refine SimI.done (by kernel_rfl) ?_
        refine SimE.loopN ?_
        refine SimL.succ ?_
        refine Sim.seq ?_
        refine Sim.seq ?_
        refine Sim.region [(1, .one (.ptr 1 0)), (3, .one (li .i64 3))] [(1, some (.cells (Command.cells a0)))] (by kernel_rfl) ?_
        refine SimI.run 2 [(5, .one (lb true)), (4, .one (li .i64 3))] [] (by kernel_rfl) ?_
        refine SimI.done (by kernel_rfl) ?_
        refine SimE.thenN ?_
        refine Sim.condT (by kernel_rfl) ?_
        refine Sim.skip ?_
        refine SimE.thenN ?_
        refine Sim.seq ?_
        refine Sim.block ?_
        refine Sim.seq ?_
        refine Sim.region0 ?_
        refine SimI.run 7 [(14, .one (lb (decide ((40 : Int) < (a0.F.a3.Text.size : Int))))), (13, .one (li .i64 (a0.F.a3.Text.size : Int))), (12, .one (ls a0.F.a3.Text)), (11, .one (.ptr 1 13)), (10, .one (.ptr 1 12)), (9, .one (.ptr 1 6)), (8, .one (li .i64 3))] [] (by kernel_rfl) ?_
        refine SimI.done (by kernel_rfl) ?_
        refine SimE.thenN ?_
        refine Sim.cond (decide ((40 : Int) < (a0.F.a3.Text.size : Int))) (by kernel_rfl) ?_ ?_
        · refine Sim.seq ?_
          refine Sim.region0 ?_
          refine SimI.run 1 [(2, .one (lb false))] [] (by kernel_rfl) ?_
          refine SimI.done (by kernel_rfl) ?_
          refine SimE.thenN ?_
          refine Sim.ret ?_
          refine SimE.blockR ?_
          refine SimE.thenR ?_
          refine SimE.loopR ?_
          refine SimE.blockR ?_
          refine SimE.thenR ?_
          exact SimE.fin (by kernel_rfl)
        · refine Sim.skip ?_
          refine SimE.blockN ?_
          refine SimE.thenN ?_
          refine Sim.region0 ?_
          refine SimI.run 3 [(3, .one (li .i64 4)), (7, .one (li .i64 4)), (6, .one (li .i64 3))] [] (by kernel_rfl) ?_
          refine SimI.done (by kernel_rfl) ?_
          refine SimE.loopN ?_
          refine SimL.succ ?_
          refine Sim.seq ?_
          refine Sim.seq ?_
          refine Sim.region [(1, .one (.ptr 1 0)), (3, .one (li .i64 4))] [(1, some (.cells (Command.cells a0)))] (by kernel_rfl) ?_
          refine SimI.run 2 [(5, .one (lb false)), (4, .one (li .i64 4))] [] (by kernel_rfl) ?_
          refine SimI.done (by kernel_rfl) ?_
          refine SimE.thenN ?_
          refine Sim.condF (by kernel_rfl) ?_
          refine Sim.exit ?_
          refine SimE.thenX ?_
          refine SimE.loopX ?_
          refine SimE.blockX ?_
          refine SimE.thenN ?_
          refine Sim.seq ?_
          refine Sim.region0 ?_
          refine SimI.run 6 [(2, .one (lb (decide ((a0.Value.Text.size : Int) ≤ 40)))), (19, .one (lb (decide ((a0.Value.Text.size : Int) ≤ 40)))), (18, .one (li .i64 (a0.Value.Text.size : Int))), (17, .one (ls a0.Value.Text)), (16, .one (.ptr 1 15)), (15, .one (.ptr 1 14))] [] (by kernel_rfl) ?_
          refine SimI.done (by kernel_rfl) ?_
          refine SimE.thenN ?_
          refine Sim.ret ?_
          exact SimE.fin (by kernel_rfl)


-- 27: vedette/vedetteref6.IsField
def F27_e : Bool → PV × List Ob := fun r => (.one (lb r), [])
def F27 (n : Nat) (a0 : Field) : Option Bool :=
  if a0.N == 0 then
    some (decide ((a0.Text.size : Int) ≤ 12))
  else
    if a0.Text.toList == ByteArray.empty.toList then
      some (decide ((a0.Text.size : Int) ≤ 12))
    else
      some false
theorem F27_ok (n : Nat) (a0 : Field) : ∀ r, F27 n a0 = some r → D 27 [.agg [li .i64 a0.N, ls a0.Text]] [] = some (F27_e r) := by
  refine fn_to (D := D) (n := n + 8) (nt := 17) (rs := pc27_r) (c := pc27_c5) (L := [(0, .agg [li .i64 a0.N, ls a0.Text])]) (M := []) (k := 0) rfl rfl rfl rfl rfl rfl rfl ?_
  unfold F27
  refine Sim.seq ?_
  refine Sim.region0 ?_
  refine SimI.run 2 [(2, .one (lb false)), (1, .one (.ptr 1 0))] [(1, some (.cells [li .i64 a0.N, ls a0.Text]))] (by kernel_rfl) ?_
  refine SimI.done (by kernel_rfl) ?_
  refine SimE.thenN ?_
  refine Sim.seq ?_
  refine Sim.region0 ?_
  refine SimI.run 4 [(6, .one (lb (a0.N == 0))), (5, .one (lb (a0.N == 0))), (4, .one (li .i64 a0.N)), (3, .one (.ptr 1 0))] [] (by kernel_rfl) ?_
  refine SimI.split 6 (a0.N == 0) (by kernel_rfl) ?_ ?_
  · refine SimI.run 11 [(2, .one (lb (decide ((a0.Text.size : Int) ≤ 12)))), (16, .one (lb (decide ((a0.Text.size : Int) ≤ 12)))), (15, .one (lb (decide ((a0.Text.size : Int) ≤ 12)))), (14, .one (li .i64 (a0.Text.size : Int))), (13, .one (ls a0.Text)), (12, .one (.ptr 1 1)), (11, .one (lb true)), (10, .one (lb true)), (9, .tup []), (8, .tup []), (7, .tup [])] [] (by kernel_rfl) ?_
    refine SimI.done (by kernel_rfl) ?_
    refine SimE.thenN ?_
    refine Sim.ret ?_
    exact SimE.fin (by kernel_rfl)
  · refine SimI.run 5 [(11, .one (lb (a0.Text.toList == ByteArray.empty.toList))), (10, .one (lb (a0.Text.toList == ByteArray.empty.toList))), (9, .one (lb (a0.Text.toList == ByteArray.empty.toList))), (8, .one (ls a0.Text)), (7, .one (.ptr 1 1))] [] (by kernel_rfl) ?_
    refine SimI.split 11 (a0.Text.toList == ByteArray.empty.toList) (by kernel_rfl) ?_ ?_
    · refine SimI.run 6 [(2, .one (lb (decide ((a0.Text.size : Int) ≤ 12)))), (16, .one (lb (decide ((a0.Text.size : Int) ≤ 12)))), (15, .one (lb (decide ((a0.Text.size : Int) ≤ 12)))), (14, .one (li .i64 (a0.Text.size : Int))), (13, .one (ls a0.Text)), (12, .one (.ptr 1 1))] [] (by kernel_rfl) ?_
      refine SimI.done (by kernel_rfl) ?_
      refine SimE.thenN ?_
      refine Sim.ret ?_
      exact SimE.fin (by kernel_rfl)
    · refine SimI.run 6 [(2, .one (lb false)), (16, .one (lb false)), (15, .tup []), (14, .tup []), (13, .tup []), (12, .tup [])] [] (by kernel_rfl) ?_
      refine SimI.done (by kernel_rfl) ?_
      refine SimE.thenN ?_
      refine Sim.ret ?_
      exact SimE.fin (by kernel_rfl)


-- 60: vedette/vedetteref10.within
def F60_e : Bool → PV × List Ob := fun r => (.one (lb r), [])
def F60 (n : Nat) (a0 : Int) (a1 : Int) (a2 : Int) : Option Bool :=
  if decide (a1 ≤ a0) then
    some (decide (a0 ≤ a2))
  else
    some false
theorem F60_ok (n : Nat) (a0 : Int) (a1 : Int) (a2 : Int) : ∀ r, F60 n a0 a1 a2 = some r → D 60 [.one (li .i64 a0), .one (li .i64 a1), .one (li .i64 a2)] [] = some (F60_e r) := by
  refine fn_to (D := D) (n := n + 8) (nt := 15) (rs := pc60_r) (c := pc60_c5) (L := [(0, .one (li .i64 a0)), (1, .one (li .i64 a1)), (2, .one (li .i64 a2))]) (M := []) (k := 0) rfl rfl rfl rfl rfl rfl rfl ?_
  unfold F60
  refine Sim.seq ?_
  refine Sim.region0 ?_
  refine SimI.run 1 [(6, .one (lb false))] [] (by kernel_rfl) ?_
  refine SimI.done (by kernel_rfl) ?_
  refine SimE.thenN ?_
  refine Sim.seq ?_
  refine Sim.region0 ?_
  refine SimI.run 4 [(10, .one (lb (decide (a1 ≤ a0)))), (9, .one (lb (decide (a1 ≤ a0)))), (8, .one (li .i64 a1)), (7, .one (li .i64 a0))] [] (by kernel_rfl) ?_
  refine SimI.split 10 (decide (a1 ≤ a0)) (by kernel_rfl) ?_ ?_
  · refine SimI.run 5 [(6, .one (lb (decide (a0 ≤ a2)))), (14, .one (lb (decide (a0 ≤ a2)))), (13, .one (lb (decide (a0 ≤ a2)))), (12, .one (li .i64 a2)), (11, .one (li .i64 a0))] [] (by kernel_rfl) ?_
    refine SimI.done (by kernel_rfl) ?_
    refine SimE.thenN ?_
    refine Sim.ret ?_
    exact SimE.fin (by kernel_rfl)
  · refine SimI.run 5 [(6, .one (lb false)), (14, .one (lb false)), (13, .tup []), (12, .tup []), (11, .tup [])] [] (by kernel_rfl) ?_
    refine SimI.done (by kernel_rfl) ?_
    refine SimE.thenN ?_
    refine Sim.ret ?_
    exact SimE.fin (by kernel_rfl)


-- 61: vedette/vedetteref10.shape
def F61_e : Command → PV × List Ob := fun r => (.agg (Command.cells r), [])
def F61 (n : Nat) (a0 : Command) : Option Command :=
  if a0.Kind == 1 then
    some (Command.mk a0.Kind 0 0 0 a0.At a0.F (Field.mk 0 ByteArray.empty) a0.Client a0.Session (Rect.mk 0 0 0 0))
  else
    if a0.Kind == 2 then
      some (Command.mk a0.Kind a0.ID 0 0 a0.At (A4.mk (Field.mk 0 ByteArray.empty) (Field.mk 0 ByteArray.empty) (Field.mk 0 ByteArray.empty) (Field.mk 0 ByteArray.empty)) (Field.mk 0 ByteArray.empty) a0.Client a0.Session (Rect.mk 0 0 0 0))
    else
      if a0.Kind == 3 then
        some (Command.mk a0.Kind a0.ID a0.Which 0 (Point.mk 0 0) (A4.mk (Field.mk 0 ByteArray.empty) (Field.mk 0 ByteArray.empty) (Field.mk 0 ByteArray.empty) (Field.mk 0 ByteArray.empty)) a0.Value a0.Client a0.Session (Rect.mk 0 0 0 0))
      else
        if a0.Kind == 4 then
          some (Command.mk a0.Kind a0.ID 0 0 (Point.mk 0 0) (A4.mk (Field.mk 0 ByteArray.empty) (Field.mk 0 ByteArray.empty) (Field.mk 0 ByteArray.empty) (Field.mk 0 ByteArray.empty)) (Field.mk 0 ByteArray.empty) a0.Client a0.Session (Rect.mk 0 0 0 0))
        else
          if a0.Kind == 5 then
            some (Command.mk a0.Kind 0 a0.Which a0.To (Point.mk 0 0) (A4.mk (Field.mk 0 ByteArray.empty) (Field.mk 0 ByteArray.empty) (Field.mk 0 ByteArray.empty) (Field.mk 0 ByteArray.empty)) (Field.mk 0 ByteArray.empty) a0.Client a0.Session (Rect.mk 0 0 0 0))
          else
            if a0.Kind == 6 then
              if a0.Kind == 6 then
                some (Command.mk a0.Kind 0 0 0 (Point.mk 0 0) (A4.mk (Field.mk 0 ByteArray.empty) (Field.mk 0 ByteArray.empty) (Field.mk 0 ByteArray.empty) (Field.mk 0 ByteArray.empty)) (Field.mk 0 ByteArray.empty) a0.Client a0.Session a0.Rect)
              else
                some (Command.mk a0.Kind 0 0 0 (Point.mk 0 0) (A4.mk (Field.mk 0 ByteArray.empty) (Field.mk 0 ByteArray.empty) (Field.mk 0 ByteArray.empty) (Field.mk 0 ByteArray.empty)) (Field.mk 0 ByteArray.empty) a0.Client a0.Session (Rect.mk 0 0 0 0))
            else
              if a0.Kind == 7 then
                some (Command.mk a0.Kind 0 0 0 (Point.mk 0 0) (A4.mk (Field.mk 0 ByteArray.empty) (Field.mk 0 ByteArray.empty) (Field.mk 0 ByteArray.empty) (Field.mk 0 ByteArray.empty)) (Field.mk 0 ByteArray.empty) a0.Client a0.Session a0.Rect)
              else
                some (Command.mk a0.Kind 0 0 0 (Point.mk 0 0) (A4.mk (Field.mk 0 ByteArray.empty) (Field.mk 0 ByteArray.empty) (Field.mk 0 ByteArray.empty) (Field.mk 0 ByteArray.empty)) (Field.mk 0 ByteArray.empty) a0.Client a0.Session (Rect.mk 0 0 0 0))
theorem F61_ok (n : Nat) (a0 : Command) : ∀ r, F61 n a0 = some r → D 61 [.agg (Command.cells a0)] [] = some (F61_e r) := by
  refine fn_to (D := D) (n := n + 8) (nt := 60) (rs := pc61_r) (c := pc61_c40) (L := [(0, .agg (Command.cells a0))]) (M := []) (k := 0) rfl rfl rfl rfl rfl rfl rfl ?_
  unfold F61
  refine Sim.seq ?_
  refine Sim.region0 ?_
  refine SimI.run 2 [(2, .one (.ptr 2 0)), (1, .one (.ptr 1 0))] [(2, some (.cells [li .i64 0, li .i64 0, li .i64 0, li .i64 0, li .i64 0, li .i64 0, li .i64 0, ls ByteArray.empty, li .i64 0, ls ByteArray.empty, li .i64 0, ls ByteArray.empty, li .i64 0, ls ByteArray.empty, li .i64 0, ls ByteArray.empty, li .i64 0, li .i64 0, li .i64 0, li .i64 0, li .i64 0, li .i64 0])), (1, some (.cells (Command.cells a0)))] (by kernel_rfl) ?_
  refine SimI.done (by kernel_rfl) ?_
  refine SimE.thenN ?_
  refine Sim.seq ?_
  refine Sim.region0 ?_
  refine SimI.run 9 [(3, .one (.ptr 3 0)), (10, .agg [li .i64 a0.Kind, li .i64 0, li .i64 0, li .i64 0, li .i64 0, li .i64 0, li .i64 0, ls ByteArray.empty, li .i64 0, ls ByteArray.empty, li .i64 0, ls ByteArray.empty, li .i64 0, ls ByteArray.empty, li .i64 0, ls ByteArray.empty, li .i64 a0.Client, li .i64 a0.Session, li .i64 0, li .i64 0, li .i64 0, li .i64 0]), (9, .one (li .i64 a0.Session)), (8, .one (.ptr 1 17)), (7, .one (li .i64 a0.Client)), (6, .one (.ptr 1 16)), (5, .one (li .i64 a0.Kind)), (4, .one (.ptr 1 0))] [(3, some (.cells [li .i64 a0.Kind, li .i64 0, li .i64 0, li .i64 0, li .i64 0, li .i64 0, li .i64 0, ls ByteArray.empty, li .i64 0, ls ByteArray.empty, li .i64 0, ls ByteArray.empty, li .i64 0, ls ByteArray.empty, li .i64 0, ls ByteArray.empty, li .i64 a0.Client, li .i64 a0.Session, li .i64 0, li .i64 0, li .i64 0, li .i64 0])), (3, some (.cells [li .i64 0, li .i64 0, li .i64 0, li .i64 0, li .i64 0, li .i64 0, li .i64 0, ls ByteArray.empty, li .i64 0, ls ByteArray.empty, li .i64 0, ls ByteArray.empty, li .i64 0, ls ByteArray.empty, li .i64 0, ls ByteArray.empty, li .i64 0, li .i64 0, li .i64 0, li .i64 0, li .i64 0, li .i64 0]))] (by kernel_rfl) ?_
  refine SimI.done (by kernel_rfl) ?_
  refine SimE.thenN ?_
  refine Sim.seq ?_
  refine Sim.seq ?_
  refine Sim.region0 ?_
  refine SimI.run 2 [(12, .one (li .i64 a0.Kind)), (11, .one (.ptr 1 0))] [] (by kernel_rfl) ?_
  refine SimI.done (by kernel_rfl) ?_
  refine SimE.thenN ?_
  refine Sim.block ?_
  refine Sim.seq ?_
  refine Sim.region0 ?_
  refine SimI.run 2 [(13, .one (lb (a0.Kind == 1))), (14, .one (lb (a0.Kind == 1)))] [] (by kernel_rfl) ?_
  refine SimI.done (by kernel_rfl) ?_
  refine SimE.thenN ?_
  refine Sim.cond (a0.Kind == 1) (by kernel_rfl) ?_ ?_
  · refine Sim.region0 ?_
    refine SimI.run 8 [(20, .one (.ptr 3 6)), (19, .one (.ptr 3 4)), (18, .agg (A4_Field.cells a0.F)), (17, .one (.ptr 1 6)), (16, .agg [li .i64 a0.At.X, li .i64 a0.At.Y]), (15, .one (.ptr 1 4))] [(3, some (.cells [li .i64 a0.Kind, li .i64 0, li .i64 0, li .i64 0, li .i64 a0.At.X, li .i64 a0.At.Y, li .i64 a0.F.a0.N, ls a0.F.a0.Text, li .i64 a0.F.a1.N, ls a0.F.a1.Text, li .i64 a0.F.a2.N, ls a0.F.a2.Text, li .i64 a0.F.a3.N, ls a0.F.a3.Text, li .i64 0, ls ByteArray.empty, li .i64 a0.Client, li .i64 a0.Session, li .i64 0, li .i64 0, li .i64 0, li .i64 0])), (3, some (.cells [li .i64 a0.Kind, li .i64 0, li .i64 0, li .i64 0, li .i64 a0.At.X, li .i64 a0.At.Y, li .i64 0, ls ByteArray.empty, li .i64 0, ls ByteArray.empty, li .i64 0, ls ByteArray.empty, li .i64 0, ls ByteArray.empty, li .i64 0, ls ByteArray.empty, li .i64 a0.Client, li .i64 a0.Session, li .i64 0, li .i64 0, li .i64 0, li .i64 0]))] (by kernel_rfl) ?_
    refine SimI.done (by kernel_rfl) ?_
    refine SimE.blockN ?_
    refine SimE.thenN ?_
    refine Sim.seq ?_
    refine Sim.region0 ?_
    refine SimI.run 2 [(59, .agg [li .i64 a0.Kind, li .i64 0, li .i64 0, li .i64 0, li .i64 a0.At.X, li .i64 a0.At.Y, li .i64 a0.F.a0.N, ls a0.F.a0.Text, li .i64 a0.F.a1.N, ls a0.F.a1.Text, li .i64 a0.F.a2.N, ls a0.F.a2.Text, li .i64 a0.F.a3.N, ls a0.F.a3.Text, li .i64 0, ls ByteArray.empty, li .i64 a0.Client, li .i64 a0.Session, li .i64 0, li .i64 0, li .i64 0, li .i64 0])] [(2, some (.cells [li .i64 a0.Kind, li .i64 0, li .i64 0, li .i64 0, li .i64 a0.At.X, li .i64 a0.At.Y, li .i64 a0.F.a0.N, ls a0.F.a0.Text, li .i64 a0.F.a1.N, ls a0.F.a1.Text, li .i64 a0.F.a2.N, ls a0.F.a2.Text, li .i64 a0.F.a3.N, ls a0.F.a3.Text, li .i64 0, ls ByteArray.empty, li .i64 a0.Client, li .i64 a0.Session, li .i64 0, li .i64 0, li .i64 0, li .i64 0]))] (by kernel_rfl) ?_
    refine SimI.done (by kernel_rfl) ?_
    refine SimE.thenN ?_
    refine Sim.ret ?_
    exact SimE.fin (by kernel_rfl)
  · refine Sim.seq ?_
    refine Sim.region0 ?_
    refine SimI.run 2 [(21, .one (lb (a0.Kind == 2))), (22, .one (lb (a0.Kind == 2)))] [] (by kernel_rfl) ?_
    refine SimI.done (by kernel_rfl) ?_
    refine SimE.thenN ?_
    refine Sim.cond (a0.Kind == 2) (by kernel_rfl) ?_ ?_
    · refine Sim.region0 ?_
      refine SimI.run 8 [(28, .one (.ptr 3 4)), (27, .one (.ptr 3 1)), (26, .agg [li .i64 a0.At.X, li .i64 a0.At.Y]), (25, .one (.ptr 1 4)), (24, .one (li .i64 a0.ID)), (23, .one (.ptr 1 1))] [(3, some (.cells [li .i64 a0.Kind, li .i64 a0.ID, li .i64 0, li .i64 0, li .i64 a0.At.X, li .i64 a0.At.Y, li .i64 0, ls ByteArray.empty, li .i64 0, ls ByteArray.empty, li .i64 0, ls ByteArray.empty, li .i64 0, ls ByteArray.empty, li .i64 0, ls ByteArray.empty, li .i64 a0.Client, li .i64 a0.Session, li .i64 0, li .i64 0, li .i64 0, li .i64 0])), (3, some (.cells [li .i64 a0.Kind, li .i64 a0.ID, li .i64 0, li .i64 0, li .i64 0, li .i64 0, li .i64 0, ls ByteArray.empty, li .i64 0, ls ByteArray.empty, li .i64 0, ls ByteArray.empty, li .i64 0, ls ByteArray.empty, li .i64 0, ls ByteArray.empty, li .i64 a0.Client, li .i64 a0.Session, li .i64 0, li .i64 0, li .i64 0, li .i64 0]))] (by kernel_rfl) ?_
      refine SimI.done (by kernel_rfl) ?_
      refine SimE.blockN ?_
      refine SimE.thenN ?_
      refine Sim.seq ?_
      refine Sim.region0 ?_
      refine SimI.run 2 [(59, .agg [li .i64 a0.Kind, li .i64 a0.ID, li .i64 0, li .i64 0, li .i64 a0.At.X, li .i64 a0.At.Y, li .i64 0, ls ByteArray.empty, li .i64 0, ls ByteArray.empty, li .i64 0, ls ByteArray.empty, li .i64 0, ls ByteArray.empty, li .i64 0, ls ByteArray.empty, li .i64 a0.Client, li .i64 a0.Session, li .i64 0, li .i64 0, li .i64 0, li .i64 0])] [(2, some (.cells [li .i64 a0.Kind, li .i64 a0.ID, li .i64 0, li .i64 0, li .i64 a0.At.X, li .i64 a0.At.Y, li .i64 0, ls ByteArray.empty, li .i64 0, ls ByteArray.empty, li .i64 0, ls ByteArray.empty, li .i64 0, ls ByteArray.empty, li .i64 0, ls ByteArray.empty, li .i64 a0.Client, li .i64 a0.Session, li .i64 0, li .i64 0, li .i64 0, li .i64 0]))] (by kernel_rfl) ?_
      refine SimI.done (by kernel_rfl) ?_
      refine SimE.thenN ?_
      refine Sim.ret ?_
      exact SimE.fin (by kernel_rfl)
    · refine Sim.seq ?_
      refine Sim.region0 ?_
      refine SimI.run 2 [(29, .one (lb (a0.Kind == 3))), (30, .one (lb (a0.Kind == 3)))] [] (by kernel_rfl) ?_
      refine SimI.done (by kernel_rfl) ?_
      refine SimE.thenN ?_
      refine Sim.cond (a0.Kind == 3) (by kernel_rfl) ?_ ?_
      · refine Sim.region0 ?_
        refine SimI.run 12 [(39, .one (.ptr 3 14)), (38, .one (.ptr 3 2)), (37, .one (.ptr 3 1)), (36, .agg [li .i64 a0.Value.N, ls a0.Value.Text]), (35, .one (.ptr 1 14)), (34, .one (li .i64 a0.Which)), (33, .one (.ptr 1 2)), (32, .one (li .i64 a0.ID)), (31, .one (.ptr 1 1))] [(3, some (.cells [li .i64 a0.Kind, li .i64 a0.ID, li .i64 a0.Which, li .i64 0, li .i64 0, li .i64 0, li .i64 0, ls ByteArray.empty, li .i64 0, ls ByteArray.empty, li .i64 0, ls ByteArray.empty, li .i64 0, ls ByteArray.empty, li .i64 a0.Value.N, ls a0.Value.Text, li .i64 a0.Client, li .i64 a0.Session, li .i64 0, li .i64 0, li .i64 0, li .i64 0])), (3, some (.cells [li .i64 a0.Kind, li .i64 a0.ID, li .i64 a0.Which, li .i64 0, li .i64 0, li .i64 0, li .i64 0, ls ByteArray.empty, li .i64 0, ls ByteArray.empty, li .i64 0, ls ByteArray.empty, li .i64 0, ls ByteArray.empty, li .i64 0, ls ByteArray.empty, li .i64 a0.Client, li .i64 a0.Session, li .i64 0, li .i64 0, li .i64 0, li .i64 0])), (3, some (.cells [li .i64 a0.Kind, li .i64 a0.ID, li .i64 0, li .i64 0, li .i64 0, li .i64 0, li .i64 0, ls ByteArray.empty, li .i64 0, ls ByteArray.empty, li .i64 0, ls ByteArray.empty, li .i64 0, ls ByteArray.empty, li .i64 0, ls ByteArray.empty, li .i64 a0.Client, li .i64 a0.Session, li .i64 0, li .i64 0, li .i64 0, li .i64 0]))] (by kernel_rfl) ?_
        refine SimI.done (by kernel_rfl) ?_
        refine SimE.blockN ?_
        refine SimE.thenN ?_
        refine Sim.seq ?_
        refine Sim.region0 ?_
        refine SimI.run 2 [(59, .agg [li .i64 a0.Kind, li .i64 a0.ID, li .i64 a0.Which, li .i64 0, li .i64 0, li .i64 0, li .i64 0, ls ByteArray.empty, li .i64 0, ls ByteArray.empty, li .i64 0, ls ByteArray.empty, li .i64 0, ls ByteArray.empty, li .i64 a0.Value.N, ls a0.Value.Text, li .i64 a0.Client, li .i64 a0.Session, li .i64 0, li .i64 0, li .i64 0, li .i64 0])] [(2, some (.cells [li .i64 a0.Kind, li .i64 a0.ID, li .i64 a0.Which, li .i64 0, li .i64 0, li .i64 0, li .i64 0, ls ByteArray.empty, li .i64 0, ls ByteArray.empty, li .i64 0, ls ByteArray.empty, li .i64 0, ls ByteArray.empty, li .i64 a0.Value.N, ls a0.Value.Text, li .i64 a0.Client, li .i64 a0.Session, li .i64 0, li .i64 0, li .i64 0, li .i64 0]))] (by kernel_rfl) ?_
        refine SimI.done (by kernel_rfl) ?_
        refine SimE.thenN ?_
        refine Sim.ret ?_
        exact SimE.fin (by kernel_rfl)
      · refine Sim.seq ?_
        refine Sim.region0 ?_
        refine SimI.run 2 [(40, .one (lb (a0.Kind == 4))), (41, .one (lb (a0.Kind == 4)))] [] (by kernel_rfl) ?_
        refine SimI.done (by kernel_rfl) ?_
        refine SimE.thenN ?_
        refine Sim.cond (a0.Kind == 4) (by kernel_rfl) ?_ ?_
        · refine Sim.region0 ?_
          refine SimI.run 4 [(44, .one (.ptr 3 1)), (43, .one (li .i64 a0.ID)), (42, .one (.ptr 1 1))] [(3, some (.cells [li .i64 a0.Kind, li .i64 a0.ID, li .i64 0, li .i64 0, li .i64 0, li .i64 0, li .i64 0, ls ByteArray.empty, li .i64 0, ls ByteArray.empty, li .i64 0, ls ByteArray.empty, li .i64 0, ls ByteArray.empty, li .i64 0, ls ByteArray.empty, li .i64 a0.Client, li .i64 a0.Session, li .i64 0, li .i64 0, li .i64 0, li .i64 0]))] (by kernel_rfl) ?_
          refine SimI.done (by kernel_rfl) ?_
          refine SimE.blockN ?_
          refine SimE.thenN ?_
          refine Sim.seq ?_
          refine Sim.region0 ?_
          refine SimI.run 2 [(59, .agg [li .i64 a0.Kind, li .i64 a0.ID, li .i64 0, li .i64 0, li .i64 0, li .i64 0, li .i64 0, ls ByteArray.empty, li .i64 0, ls ByteArray.empty, li .i64 0, ls ByteArray.empty, li .i64 0, ls ByteArray.empty, li .i64 0, ls ByteArray.empty, li .i64 a0.Client, li .i64 a0.Session, li .i64 0, li .i64 0, li .i64 0, li .i64 0])] [(2, some (.cells [li .i64 a0.Kind, li .i64 a0.ID, li .i64 0, li .i64 0, li .i64 0, li .i64 0, li .i64 0, ls ByteArray.empty, li .i64 0, ls ByteArray.empty, li .i64 0, ls ByteArray.empty, li .i64 0, ls ByteArray.empty, li .i64 0, ls ByteArray.empty, li .i64 a0.Client, li .i64 a0.Session, li .i64 0, li .i64 0, li .i64 0, li .i64 0]))] (by kernel_rfl) ?_
          refine SimI.done (by kernel_rfl) ?_
          refine SimE.thenN ?_
          refine Sim.ret ?_
          exact SimE.fin (by kernel_rfl)
        · refine Sim.seq ?_
          refine Sim.region0 ?_
          refine SimI.run 2 [(45, .one (lb (a0.Kind == 5))), (46, .one (lb (a0.Kind == 5)))] [] (by kernel_rfl) ?_
          refine SimI.done (by kernel_rfl) ?_
          refine SimE.thenN ?_
          refine Sim.cond (a0.Kind == 5) (by kernel_rfl) ?_ ?_
          · refine Sim.region0 ?_
            refine SimI.run 8 [(52, .one (.ptr 3 3)), (51, .one (.ptr 3 2)), (50, .one (li .i64 a0.To)), (49, .one (.ptr 1 3)), (48, .one (li .i64 a0.Which)), (47, .one (.ptr 1 2))] [(3, some (.cells [li .i64 a0.Kind, li .i64 0, li .i64 a0.Which, li .i64 a0.To, li .i64 0, li .i64 0, li .i64 0, ls ByteArray.empty, li .i64 0, ls ByteArray.empty, li .i64 0, ls ByteArray.empty, li .i64 0, ls ByteArray.empty, li .i64 0, ls ByteArray.empty, li .i64 a0.Client, li .i64 a0.Session, li .i64 0, li .i64 0, li .i64 0, li .i64 0])), (3, some (.cells [li .i64 a0.Kind, li .i64 0, li .i64 a0.Which, li .i64 0, li .i64 0, li .i64 0, li .i64 0, ls ByteArray.empty, li .i64 0, ls ByteArray.empty, li .i64 0, ls ByteArray.empty, li .i64 0, ls ByteArray.empty, li .i64 0, ls ByteArray.empty, li .i64 a0.Client, li .i64 a0.Session, li .i64 0, li .i64 0, li .i64 0, li .i64 0]))] (by kernel_rfl) ?_
            refine SimI.done (by kernel_rfl) ?_
            refine SimE.blockN ?_
            refine SimE.thenN ?_
            refine Sim.seq ?_
            refine Sim.region0 ?_
            refine SimI.run 2 [(59, .agg [li .i64 a0.Kind, li .i64 0, li .i64 a0.Which, li .i64 a0.To, li .i64 0, li .i64 0, li .i64 0, ls ByteArray.empty, li .i64 0, ls ByteArray.empty, li .i64 0, ls ByteArray.empty, li .i64 0, ls ByteArray.empty, li .i64 0, ls ByteArray.empty, li .i64 a0.Client, li .i64 a0.Session, li .i64 0, li .i64 0, li .i64 0, li .i64 0])] [(2, some (.cells [li .i64 a0.Kind, li .i64 0, li .i64 a0.Which, li .i64 a0.To, li .i64 0, li .i64 0, li .i64 0, ls ByteArray.empty, li .i64 0, ls ByteArray.empty, li .i64 0, ls ByteArray.empty, li .i64 0, ls ByteArray.empty, li .i64 0, ls ByteArray.empty, li .i64 a0.Client, li .i64 a0.Session, li .i64 0, li .i64 0, li .i64 0, li .i64 0]))] (by kernel_rfl) ?_
            refine SimI.done (by kernel_rfl) ?_
            refine SimE.thenN ?_
            refine Sim.ret ?_
            exact SimE.fin (by kernel_rfl)
          · refine Sim.seq ?_
            refine Sim.seq ?_
            refine Sim.region0 ?_
            refine SimI.run 2 [(53, .one (lb (a0.Kind == 6))), (54, .one (lb (a0.Kind == 6)))] [] (by kernel_rfl) ?_
            refine SimI.done (by kernel_rfl) ?_
            refine SimE.thenN ?_
            refine Sim.cond (a0.Kind == 6) (by kernel_rfl) ?_ ?_
            · refine Sim.skip ?_
              refine SimE.thenN ?_
              refine Sim.cond (a0.Kind == 6) (by kernel_rfl) ?_ ?_
              · refine Sim.region0 ?_
                refine SimI.run 4 [(58, .one (.ptr 3 18)), (57, .agg (Rect.cells a0.Rect)), (56, .one (.ptr 1 18))] [(3, some (.cells [li .i64 a0.Kind, li .i64 0, li .i64 0, li .i64 0, li .i64 0, li .i64 0, li .i64 0, ls ByteArray.empty, li .i64 0, ls ByteArray.empty, li .i64 0, ls ByteArray.empty, li .i64 0, ls ByteArray.empty, li .i64 0, ls ByteArray.empty, li .i64 a0.Client, li .i64 a0.Session, li .i64 a0.Rect.X0, li .i64 a0.Rect.Y0, li .i64 a0.Rect.X1, li .i64 a0.Rect.Y1]))] (by kernel_rfl) ?_
                refine SimI.done (by kernel_rfl) ?_
                refine SimE.blockN ?_
                refine SimE.thenN ?_
                refine Sim.seq ?_
                refine Sim.region0 ?_
                refine SimI.run 2 [(59, .agg [li .i64 a0.Kind, li .i64 0, li .i64 0, li .i64 0, li .i64 0, li .i64 0, li .i64 0, ls ByteArray.empty, li .i64 0, ls ByteArray.empty, li .i64 0, ls ByteArray.empty, li .i64 0, ls ByteArray.empty, li .i64 0, ls ByteArray.empty, li .i64 a0.Client, li .i64 a0.Session, li .i64 a0.Rect.X0, li .i64 a0.Rect.Y0, li .i64 a0.Rect.X1, li .i64 a0.Rect.Y1])] [(2, some (.cells [li .i64 a0.Kind, li .i64 0, li .i64 0, li .i64 0, li .i64 0, li .i64 0, li .i64 0, ls ByteArray.empty, li .i64 0, ls ByteArray.empty, li .i64 0, ls ByteArray.empty, li .i64 0, ls ByteArray.empty, li .i64 0, ls ByteArray.empty, li .i64 a0.Client, li .i64 a0.Session, li .i64 a0.Rect.X0, li .i64 a0.Rect.Y0, li .i64 a0.Rect.X1, li .i64 a0.Rect.Y1]))] (by kernel_rfl) ?_
                refine SimI.done (by kernel_rfl) ?_
                refine SimE.thenN ?_
                refine Sim.ret ?_
                exact SimE.fin (by kernel_rfl)
              · refine Sim.skip ?_
                refine SimE.blockN ?_
                refine SimE.thenN ?_
                refine Sim.seq ?_
                refine Sim.region0 ?_
                refine SimI.run 2 [(59, .agg [li .i64 a0.Kind, li .i64 0, li .i64 0, li .i64 0, li .i64 0, li .i64 0, li .i64 0, ls ByteArray.empty, li .i64 0, ls ByteArray.empty, li .i64 0, ls ByteArray.empty, li .i64 0, ls ByteArray.empty, li .i64 0, ls ByteArray.empty, li .i64 a0.Client, li .i64 a0.Session, li .i64 0, li .i64 0, li .i64 0, li .i64 0])] [(2, some (.cells [li .i64 a0.Kind, li .i64 0, li .i64 0, li .i64 0, li .i64 0, li .i64 0, li .i64 0, ls ByteArray.empty, li .i64 0, ls ByteArray.empty, li .i64 0, ls ByteArray.empty, li .i64 0, ls ByteArray.empty, li .i64 0, ls ByteArray.empty, li .i64 a0.Client, li .i64 a0.Session, li .i64 0, li .i64 0, li .i64 0, li .i64 0]))] (by kernel_rfl) ?_
                refine SimI.done (by kernel_rfl) ?_
                refine SimE.thenN ?_
                refine Sim.ret ?_
                exact SimE.fin (by kernel_rfl)
            · refine Sim.region0 ?_
              refine SimI.run 2 [(53, .one (lb (a0.Kind == 7))), (55, .one (lb (a0.Kind == 7)))] [] (by kernel_rfl) ?_
              refine SimI.done (by kernel_rfl) ?_
              refine SimE.thenN ?_
              refine Sim.cond (a0.Kind == 7) (by kernel_rfl) ?_ ?_
              · refine Sim.region0 ?_
                refine SimI.run 4 [(58, .one (.ptr 3 18)), (57, .agg (Rect.cells a0.Rect)), (56, .one (.ptr 1 18))] [(3, some (.cells [li .i64 a0.Kind, li .i64 0, li .i64 0, li .i64 0, li .i64 0, li .i64 0, li .i64 0, ls ByteArray.empty, li .i64 0, ls ByteArray.empty, li .i64 0, ls ByteArray.empty, li .i64 0, ls ByteArray.empty, li .i64 0, ls ByteArray.empty, li .i64 a0.Client, li .i64 a0.Session, li .i64 a0.Rect.X0, li .i64 a0.Rect.Y0, li .i64 a0.Rect.X1, li .i64 a0.Rect.Y1]))] (by kernel_rfl) ?_
                refine SimI.done (by kernel_rfl) ?_
                refine SimE.blockN ?_
                refine SimE.thenN ?_
                refine Sim.seq ?_
                refine Sim.region0 ?_
                refine SimI.run 2 [(59, .agg [li .i64 a0.Kind, li .i64 0, li .i64 0, li .i64 0, li .i64 0, li .i64 0, li .i64 0, ls ByteArray.empty, li .i64 0, ls ByteArray.empty, li .i64 0, ls ByteArray.empty, li .i64 0, ls ByteArray.empty, li .i64 0, ls ByteArray.empty, li .i64 a0.Client, li .i64 a0.Session, li .i64 a0.Rect.X0, li .i64 a0.Rect.Y0, li .i64 a0.Rect.X1, li .i64 a0.Rect.Y1])] [(2, some (.cells [li .i64 a0.Kind, li .i64 0, li .i64 0, li .i64 0, li .i64 0, li .i64 0, li .i64 0, ls ByteArray.empty, li .i64 0, ls ByteArray.empty, li .i64 0, ls ByteArray.empty, li .i64 0, ls ByteArray.empty, li .i64 0, ls ByteArray.empty, li .i64 a0.Client, li .i64 a0.Session, li .i64 a0.Rect.X0, li .i64 a0.Rect.Y0, li .i64 a0.Rect.X1, li .i64 a0.Rect.Y1]))] (by kernel_rfl) ?_
                refine SimI.done (by kernel_rfl) ?_
                refine SimE.thenN ?_
                refine Sim.ret ?_
                exact SimE.fin (by kernel_rfl)
              · refine Sim.skip ?_
                refine SimE.blockN ?_
                refine SimE.thenN ?_
                refine Sim.seq ?_
                refine Sim.region0 ?_
                refine SimI.run 2 [(59, .agg [li .i64 a0.Kind, li .i64 0, li .i64 0, li .i64 0, li .i64 0, li .i64 0, li .i64 0, ls ByteArray.empty, li .i64 0, ls ByteArray.empty, li .i64 0, ls ByteArray.empty, li .i64 0, ls ByteArray.empty, li .i64 0, ls ByteArray.empty, li .i64 a0.Client, li .i64 a0.Session, li .i64 0, li .i64 0, li .i64 0, li .i64 0])] [(2, some (.cells [li .i64 a0.Kind, li .i64 0, li .i64 0, li .i64 0, li .i64 0, li .i64 0, li .i64 0, ls ByteArray.empty, li .i64 0, ls ByteArray.empty, li .i64 0, ls ByteArray.empty, li .i64 0, ls ByteArray.empty, li .i64 0, ls ByteArray.empty, li .i64 a0.Client, li .i64 a0.Session, li .i64 0, li .i64 0, li .i64 0, li .i64 0]))] (by kernel_rfl) ?_
                refine SimI.done (by kernel_rfl) ?_
                refine SimE.thenN ?_
                refine Sim.ret ?_
                exact SimE.fin (by kernel_rfl)


-- 62: vedette/vedetteref10.point
def F62_e : Bool → PV × List Ob := fun r => (.one (lb r), [])
def F62 (n : Nat) (a0 : Point) : Option Bool :=
  (F60 n a0.X (-1000) 1000).bind fun (r1 : Bool) =>
  if r1 then
    (F60 n a0.Y (-1000) 1000).bind fun (r2 : Bool) =>
    some r2
  else
    some false
theorem F62_ok (n : Nat) (a0 : Point) : ∀ r, F62 n a0 = some r → D 62 [.agg [li .i64 a0.X, li .i64 a0.Y]] [] = some (F62_e r) := by
  refine fn_to (D := D) (n := n + 8) (nt := 11) (rs := pc62_r) (c := pc62_c5) (L := [(0, .agg [li .i64 a0.X, li .i64 a0.Y])]) (M := []) (k := 0) rfl rfl rfl rfl rfl rfl rfl ?_
  unfold F62
  refine Sim.seq ?_
  refine Sim.region0 ?_
  refine SimI.run 2 [(2, .one (lb false)), (1, .one (.ptr 1 0))] [(1, some (.cells [li .i64 a0.X, li .i64 a0.Y]))] (by kernel_rfl) ?_
  refine SimI.done (by kernel_rfl) ?_
  refine SimE.thenN ?_
  refine Sim.seq ?_
  refine Sim.region0 ?_
  refine SimI.run 2 [(4, .one (li .i64 a0.X)), (3, .one (.ptr 1 0))] [] (by kernel_rfl) ?_
  refine SimI.bind (og := F60 n a0.X (-1000) 1000) { dst := some 5, op := POp.call true [[], [], []] 60 [Operand.tmp 4, Operand.const (Value.int IntKind.i64 (-1000)), Operand.const (Value.int IntKind.i64 1000)], guard := none, hints := [] } (fun r1 => [(5, .one (lb r1))]) (fun r1 => []) (by kernel_rfl) (fun r1 hr => pOp_eff (by kernel_rfl) (by kernel_rfl) (eff_call (ARGS := [.one (li .i64 a0.X), .one (li .i64 (-1000)), .one (li .i64 1000)]) (by kernel_rfl) (args_clean (by kernel_rfl) (args_clean (by kernel_rfl) (args_clean (by kernel_rfl) args_nil))) (F60_ok n a0.X (-1000) 1000 r1 hr) (by kernel_rfl))) (fun r1 => ?_)
  refine SimI.run 1 [(6, .one (lb r1))] [] (by kernel_rfl) ?_
  refine SimI.split 6 r1 (by kernel_rfl) ?_ ?_
  · refine SimI.run 2 [(8, .one (li .i64 a0.Y)), (7, .one (.ptr 1 1))] [] (by kernel_rfl) ?_
    refine SimI.bind (og := F60 n a0.Y (-1000) 1000) { dst := some 9, op := POp.call true [[], [], []] 60 [Operand.tmp 8, Operand.const (Value.int IntKind.i64 (-1000)), Operand.const (Value.int IntKind.i64 1000)], guard := some (6, true), hints := [] } (fun r2 => [(9, .one (lb r2))]) (fun r2 => []) (by kernel_rfl) (fun r2 hr => pOp_eff (by kernel_rfl) (by kernel_rfl) (eff_call (ARGS := [.one (li .i64 a0.Y), .one (li .i64 (-1000)), .one (li .i64 1000)]) (by kernel_rfl) (args_clean (by kernel_rfl) (args_clean (by kernel_rfl) (args_clean (by kernel_rfl) args_nil))) (F60_ok n a0.Y (-1000) 1000 r2 hr) (by kernel_rfl))) (fun r2 => ?_)
    refine SimI.run 2 [(2, .one (lb r2)), (10, .one (lb r2))] [] (by kernel_rfl) ?_
    refine SimI.done (by kernel_rfl) ?_
    refine SimE.thenN ?_
    refine Sim.ret ?_
    exact SimE.fin (by kernel_rfl)
  · refine SimI.run 5 [(2, .one (lb false)), (10, .one (lb false)), (9, .tup []), (8, .tup []), (7, .tup [])] [] (by kernel_rfl) ?_
    refine SimI.done (by kernel_rfl) ?_
    refine SimE.thenN ?_
    refine Sim.ret ?_
    exact SimE.fin (by kernel_rfl)


-- 63: vedette/vedetteref10.rect
def F63_e : Bool → PV × List Ob := fun r => (.one (lb r), [])
def F63 (n : Nat) (a0 : Rect) : Option Bool :=
  (F62 n (Point.mk a0.X0 a0.Y0)).bind fun (r1 : Bool) =>
  if r1 then
    (F62 n (Point.mk a0.X1 a0.Y1)).bind fun (r2 : Bool) =>
    some r2
  else
    some false
theorem F63_ok (n : Nat) (a0 : Rect) : ∀ r, F63 n a0 = some r → D 63 [.agg (Rect.cells a0)] [] = some (F63_e r) := by
  refine fn_to (D := D) (n := n + 8) (nt := 17) (rs := pc63_r) (c := pc63_c5) (L := [(0, .agg (Rect.cells a0))]) (M := []) (k := 0) rfl rfl rfl rfl rfl rfl rfl ?_
  unfold F63
  refine Sim.seq ?_
  refine Sim.region0 ?_
  refine SimI.run 2 [(2, .one (lb false)), (1, .one (.ptr 1 0))] [(1, some (.cells (Rect.cells a0)))] (by kernel_rfl) ?_
  refine SimI.done (by kernel_rfl) ?_
  refine SimE.thenN ?_
  refine Sim.seq ?_
  refine Sim.region0 ?_
  refine SimI.run 5 [(7, .agg [li .i64 a0.X0, li .i64 a0.Y0]), (6, .one (li .i64 a0.Y0)), (5, .one (.ptr 1 1)), (4, .one (li .i64 a0.X0)), (3, .one (.ptr 1 0))] [] (by kernel_rfl) ?_
  refine SimI.bind (og := F62 n (Point.mk a0.X0 a0.Y0)) { dst := some 8, op := POp.call true [[]] 62 [Operand.tmp 7], guard := none, hints := [] } (fun r1 => [(8, .one (lb r1))]) (fun r1 => []) (by kernel_rfl) (fun r1 hr => pOp_eff (by kernel_rfl) (by kernel_rfl) (eff_call (ARGS := [.agg [li .i64 a0.X0, li .i64 a0.Y0]]) (by kernel_rfl) (args_clean (by kernel_rfl) args_nil) (F62_ok n (Point.mk a0.X0 a0.Y0) r1 hr) (by kernel_rfl))) (fun r1 => ?_)
  refine SimI.run 1 [(9, .one (lb r1))] [] (by kernel_rfl) ?_
  refine SimI.split 9 r1 (by kernel_rfl) ?_ ?_
  · refine SimI.run 5 [(14, .agg [li .i64 a0.X1, li .i64 a0.Y1]), (13, .one (li .i64 a0.Y1)), (12, .one (.ptr 1 3)), (11, .one (li .i64 a0.X1)), (10, .one (.ptr 1 2))] [] (by kernel_rfl) ?_
    refine SimI.bind (og := F62 n (Point.mk a0.X1 a0.Y1)) { dst := some 15, op := POp.call true [[]] 62 [Operand.tmp 14], guard := some (9, true), hints := [] } (fun r2 => [(15, .one (lb r2))]) (fun r2 => []) (by kernel_rfl) (fun r2 hr => pOp_eff (by kernel_rfl) (by kernel_rfl) (eff_call (ARGS := [.agg [li .i64 a0.X1, li .i64 a0.Y1]]) (by kernel_rfl) (args_clean (by kernel_rfl) args_nil) (F62_ok n (Point.mk a0.X1 a0.Y1) r2 hr) (by kernel_rfl))) (fun r2 => ?_)
    refine SimI.run 2 [(2, .one (lb r2)), (16, .one (lb r2))] [] (by kernel_rfl) ?_
    refine SimI.done (by kernel_rfl) ?_
    refine SimE.thenN ?_
    refine Sim.ret ?_
    exact SimE.fin (by kernel_rfl)
  · refine SimI.run 8 [(2, .one (lb false)), (16, .one (lb false)), (15, .tup []), (14, .tup []), (13, .tup []), (12, .tup []), (11, .tup []), (10, .tup [])] [] (by kernel_rfl) ?_
    refine SimI.done (by kernel_rfl) ?_
    refine SimE.thenN ?_
    refine Sim.ret ?_
    exact SimE.fin (by kernel_rfl)


-- 36: vedette/vedetteref10.Is
def F36_e : Bool → PV × List Ob := fun r => (.one (lb r), [])
def F36_u24 (n : Nat) (b23 : Bool) : Option Bool :=
    some b23
theorem F36_u24_ok (n : Nat) (a0 : Command) (b23 : Bool) : SimL Try.prog D (n + 8) (n + 4) pc36_c13 [(1, .one (.ptr 1 0)), (3, .one (lb b23)), (4, .one (li .i64 4))] [(1, some (.cells (Command.cells a0)))] (F36_u24 n b23) (QB 0 (QT Try.prog D (n + 8) pc36_c19 (QF false pc36_r 0 F36_e))) := by
    unfold F36_u24
    refine SimL.succ ?_
    refine Sim.seq ?_
    refine Sim.seq ?_
    refine Sim.region [(1, .one (.ptr 1 0)), (3, .one (lb b23)), (4, .one (li .i64 4))] [(1, some (.cells (Command.cells a0)))] (by kernel_rfl) ?_
    refine SimI.run 2 [(55, .one (lb false)), (54, .one (li .i64 4))] [] (by kernel_rfl) ?_
    refine SimI.done (by kernel_rfl) ?_
    refine SimE.thenN ?_
    refine Sim.condF (by kernel_rfl) ?_
    refine Sim.exit ?_
    refine SimE.thenX ?_
    refine SimE.loopX ?_
    refine SimE.blockX ?_
    refine SimE.thenN ?_
    refine Sim.seq ?_
    refine Sim.region0 ?_
    refine SimI.run 2 [(2, .one (lb b23)), (66, .one (lb b23))] [] (by kernel_rfl) ?_
    refine SimI.done (by kernel_rfl) ?_
    refine SimE.thenN ?_
    refine Sim.ret ?_
    exact SimE.fin (by kernel_rfl)

def F36_u21 (n : Nat) (a0 : Command) (b20 : Bool) : Option Bool :=
    if b20 then
      (F27 n a0.F.a3).bind fun (r22 : Bool) =>
      F36_u24 n r22
    else
      F36_u24 n false
theorem F36_u21_ok (n : Nat) (a0 : Command) (b20 : Bool) : SimL Try.prog D (n + 8) (n + 5) pc36_c13 [(1, .one (.ptr 1 0)), (3, .one (lb b20)), (4, .one (li .i64 3))] [(1, some (.cells (Command.cells a0)))] (F36_u21 n a0 b20) (QB 0 (QT Try.prog D (n + 8) pc36_c19 (QF false pc36_r 0 F36_e))) := by
    unfold F36_u21
    refine SimL.succ ?_
    refine Sim.seq ?_
    refine Sim.seq ?_
    refine Sim.region [(1, .one (.ptr 1 0)), (3, .one (lb b20)), (4, .one (li .i64 3))] [(1, some (.cells (Command.cells a0)))] (by kernel_rfl) ?_
    refine SimI.run 2 [(55, .one (lb true)), (54, .one (li .i64 3))] [] (by kernel_rfl) ?_
    refine SimI.done (by kernel_rfl) ?_
    refine SimE.thenN ?_
    refine Sim.condT (by kernel_rfl) ?_
    refine Sim.skip ?_
    refine SimE.thenN ?_
    refine Sim.seq ?_
    refine Sim.block ?_
    refine Sim.region0 ?_
    refine SimI.run 2 [(59, .one (lb b20)), (58, .one (lb b20))] [] (by kernel_rfl) ?_
    refine SimI.split 59 b20 (by kernel_rfl) ?_ ?_
    · refine SimI.run 4 [(63, .agg [li .i64 a0.F.a3.N, ls a0.F.a3.Text]), (62, .one (.ptr 1 12)), (61, .one (.ptr 1 6)), (60, .one (li .i64 3))] [] (by kernel_rfl) ?_
      refine SimI.bind (og := F27 n a0.F.a3) { dst := some 64, op := POp.call true [[]] 27 [Operand.tmp 63], guard := some (59, true), hints := [] } (fun r22 => [(64, .one (lb r22))]) (fun r22 => []) (by kernel_rfl) (fun r22 hr => pOp_eff (by kernel_rfl) (by kernel_rfl) (eff_call (ARGS := [.agg [li .i64 a0.F.a3.N, ls a0.F.a3.Text]]) (by kernel_rfl) (args_clean (by kernel_rfl) args_nil) (F27_ok n a0.F.a3 r22 hr) (by kernel_rfl))) (fun r22 => ?_)
      refine SimI.run 2 [(3, .one (lb r22)), (65, .one (lb r22))] [] (by kernel_rfl) ?_
      refine SimI.done (by kernel_rfl) ?_
      refine SimE.blockN ?_
      refine SimE.thenN ?_
      refine Sim.region0 ?_
      refine SimI.run 3 [(4, .one (li .i64 4)), (57, .one (li .i64 4)), (56, .one (li .i64 3))] [] (by kernel_rfl) ?_
      refine SimI.done (by kernel_rfl) ?_
      refine SimE.loopN ?_
      refine SimL.pre (ts := [1, 3, 4]) (os := [1]) (ow := []) [(1, .one (.ptr 1 0)), (3, .one (lb r22)), (4, .one (li .i64 4))] [(1, some (.cells (Command.cells a0)))] (by kernel_rfl) (by kernel_rfl) (by kernel_rfl) ?_
      exact F36_u24_ok n a0 r22
    · refine SimI.run 7 [(3, .one (lb false)), (65, .one (lb false)), (64, .tup []), (63, .tup []), (62, .tup []), (61, .tup []), (60, .tup [])] [] (by kernel_rfl) ?_
      refine SimI.done (by kernel_rfl) ?_
      refine SimE.blockN ?_
      refine SimE.thenN ?_
      refine Sim.region0 ?_
      refine SimI.run 3 [(4, .one (li .i64 4)), (57, .one (li .i64 4)), (56, .one (li .i64 3))] [] (by kernel_rfl) ?_
      refine SimI.done (by kernel_rfl) ?_
      refine SimE.loopN ?_
      refine SimL.pre (ts := [1, 3, 4]) (os := [1]) (ow := []) [(1, .one (.ptr 1 0)), (3, .one (lb false)), (4, .one (li .i64 4))] [(1, some (.cells (Command.cells a0)))] (by kernel_rfl) (by kernel_rfl) (by kernel_rfl) ?_
      exact F36_u24_ok n a0 false

def F36_u18 (n : Nat) (a0 : Command) (b17 : Bool) : Option Bool :=
    if b17 then
      (F27 n a0.F.a2).bind fun (r19 : Bool) =>
      F36_u21 n a0 r19
    else
      F36_u21 n a0 false
theorem F36_u18_ok (n : Nat) (a0 : Command) (b17 : Bool) : SimL Try.prog D (n + 8) (n + 6) pc36_c13 [(1, .one (.ptr 1 0)), (3, .one (lb b17)), (4, .one (li .i64 2))] [(1, some (.cells (Command.cells a0)))] (F36_u18 n a0 b17) (QB 0 (QT Try.prog D (n + 8) pc36_c19 (QF false pc36_r 0 F36_e))) := by
    unfold F36_u18
    refine SimL.succ ?_
    refine Sim.seq ?_
    refine Sim.seq ?_
    refine Sim.region [(1, .one (.ptr 1 0)), (3, .one (lb b17)), (4, .one (li .i64 2))] [(1, some (.cells (Command.cells a0)))] (by kernel_rfl) ?_
    refine SimI.run 2 [(55, .one (lb true)), (54, .one (li .i64 2))] [] (by kernel_rfl) ?_
    refine SimI.done (by kernel_rfl) ?_
    refine SimE.thenN ?_
    refine Sim.condT (by kernel_rfl) ?_
    refine Sim.skip ?_
    refine SimE.thenN ?_
    refine Sim.seq ?_
    refine Sim.block ?_
    refine Sim.region0 ?_
    refine SimI.run 2 [(59, .one (lb b17)), (58, .one (lb b17))] [] (by kernel_rfl) ?_
    refine SimI.split 59 b17 (by kernel_rfl) ?_ ?_
    · refine SimI.run 4 [(63, .agg [li .i64 a0.F.a2.N, ls a0.F.a2.Text]), (62, .one (.ptr 1 10)), (61, .one (.ptr 1 6)), (60, .one (li .i64 2))] [] (by kernel_rfl) ?_
      refine SimI.bind (og := F27 n a0.F.a2) { dst := some 64, op := POp.call true [[]] 27 [Operand.tmp 63], guard := some (59, true), hints := [] } (fun r19 => [(64, .one (lb r19))]) (fun r19 => []) (by kernel_rfl) (fun r19 hr => pOp_eff (by kernel_rfl) (by kernel_rfl) (eff_call (ARGS := [.agg [li .i64 a0.F.a2.N, ls a0.F.a2.Text]]) (by kernel_rfl) (args_clean (by kernel_rfl) args_nil) (F27_ok n a0.F.a2 r19 hr) (by kernel_rfl))) (fun r19 => ?_)
      refine SimI.run 2 [(3, .one (lb r19)), (65, .one (lb r19))] [] (by kernel_rfl) ?_
      refine SimI.done (by kernel_rfl) ?_
      refine SimE.blockN ?_
      refine SimE.thenN ?_
      refine Sim.region0 ?_
      refine SimI.run 3 [(4, .one (li .i64 3)), (57, .one (li .i64 3)), (56, .one (li .i64 2))] [] (by kernel_rfl) ?_
      refine SimI.done (by kernel_rfl) ?_
      refine SimE.loopN ?_
      refine SimL.pre (ts := [1, 3, 4]) (os := [1]) (ow := []) [(1, .one (.ptr 1 0)), (3, .one (lb r19)), (4, .one (li .i64 3))] [(1, some (.cells (Command.cells a0)))] (by kernel_rfl) (by kernel_rfl) (by kernel_rfl) ?_
      exact F36_u21_ok n a0 r19
    · refine SimI.run 7 [(3, .one (lb false)), (65, .one (lb false)), (64, .tup []), (63, .tup []), (62, .tup []), (61, .tup []), (60, .tup [])] [] (by kernel_rfl) ?_
      refine SimI.done (by kernel_rfl) ?_
      refine SimE.blockN ?_
      refine SimE.thenN ?_
      refine Sim.region0 ?_
      refine SimI.run 3 [(4, .one (li .i64 3)), (57, .one (li .i64 3)), (56, .one (li .i64 2))] [] (by kernel_rfl) ?_
      refine SimI.done (by kernel_rfl) ?_
      refine SimE.loopN ?_
      refine SimL.pre (ts := [1, 3, 4]) (os := [1]) (ow := []) [(1, .one (.ptr 1 0)), (3, .one (lb false)), (4, .one (li .i64 3))] [(1, some (.cells (Command.cells a0)))] (by kernel_rfl) (by kernel_rfl) (by kernel_rfl) ?_
      exact F36_u21_ok n a0 false

def F36_u15 (n : Nat) (a0 : Command) (b14 : Bool) : Option Bool :=
    if b14 then
      (F27 n a0.F.a1).bind fun (r16 : Bool) =>
      F36_u18 n a0 r16
    else
      F36_u18 n a0 false
theorem F36_u15_ok (n : Nat) (a0 : Command) (b14 : Bool) : SimL Try.prog D (n + 8) (n + 7) pc36_c13 [(1, .one (.ptr 1 0)), (3, .one (lb b14)), (4, .one (li .i64 1))] [(1, some (.cells (Command.cells a0)))] (F36_u15 n a0 b14) (QB 0 (QT Try.prog D (n + 8) pc36_c19 (QF false pc36_r 0 F36_e))) := by
    unfold F36_u15
    refine SimL.succ ?_
    refine Sim.seq ?_
    refine Sim.seq ?_
    refine Sim.region [(1, .one (.ptr 1 0)), (3, .one (lb b14)), (4, .one (li .i64 1))] [(1, some (.cells (Command.cells a0)))] (by kernel_rfl) ?_
    refine SimI.run 2 [(55, .one (lb true)), (54, .one (li .i64 1))] [] (by kernel_rfl) ?_
    refine SimI.done (by kernel_rfl) ?_
    refine SimE.thenN ?_
    refine Sim.condT (by kernel_rfl) ?_
    refine Sim.skip ?_
    refine SimE.thenN ?_
    refine Sim.seq ?_
    refine Sim.block ?_
    refine Sim.region0 ?_
    refine SimI.run 2 [(59, .one (lb b14)), (58, .one (lb b14))] [] (by kernel_rfl) ?_
    refine SimI.split 59 b14 (by kernel_rfl) ?_ ?_
    · refine SimI.run 4 [(63, .agg [li .i64 a0.F.a1.N, ls a0.F.a1.Text]), (62, .one (.ptr 1 8)), (61, .one (.ptr 1 6)), (60, .one (li .i64 1))] [] (by kernel_rfl) ?_
      refine SimI.bind (og := F27 n a0.F.a1) { dst := some 64, op := POp.call true [[]] 27 [Operand.tmp 63], guard := some (59, true), hints := [] } (fun r16 => [(64, .one (lb r16))]) (fun r16 => []) (by kernel_rfl) (fun r16 hr => pOp_eff (by kernel_rfl) (by kernel_rfl) (eff_call (ARGS := [.agg [li .i64 a0.F.a1.N, ls a0.F.a1.Text]]) (by kernel_rfl) (args_clean (by kernel_rfl) args_nil) (F27_ok n a0.F.a1 r16 hr) (by kernel_rfl))) (fun r16 => ?_)
      refine SimI.run 2 [(3, .one (lb r16)), (65, .one (lb r16))] [] (by kernel_rfl) ?_
      refine SimI.done (by kernel_rfl) ?_
      refine SimE.blockN ?_
      refine SimE.thenN ?_
      refine Sim.region0 ?_
      refine SimI.run 3 [(4, .one (li .i64 2)), (57, .one (li .i64 2)), (56, .one (li .i64 1))] [] (by kernel_rfl) ?_
      refine SimI.done (by kernel_rfl) ?_
      refine SimE.loopN ?_
      refine SimL.pre (ts := [1, 3, 4]) (os := [1]) (ow := []) [(1, .one (.ptr 1 0)), (3, .one (lb r16)), (4, .one (li .i64 2))] [(1, some (.cells (Command.cells a0)))] (by kernel_rfl) (by kernel_rfl) (by kernel_rfl) ?_
      exact F36_u18_ok n a0 r16
    · refine SimI.run 7 [(3, .one (lb false)), (65, .one (lb false)), (64, .tup []), (63, .tup []), (62, .tup []), (61, .tup []), (60, .tup [])] [] (by kernel_rfl) ?_
      refine SimI.done (by kernel_rfl) ?_
      refine SimE.blockN ?_
      refine SimE.thenN ?_
      refine Sim.region0 ?_
      refine SimI.run 3 [(4, .one (li .i64 2)), (57, .one (li .i64 2)), (56, .one (li .i64 1))] [] (by kernel_rfl) ?_
      refine SimI.done (by kernel_rfl) ?_
      refine SimE.loopN ?_
      refine SimL.pre (ts := [1, 3, 4]) (os := [1]) (ow := []) [(1, .one (.ptr 1 0)), (3, .one (lb false)), (4, .one (li .i64 2))] [(1, some (.cells (Command.cells a0)))] (by kernel_rfl) (by kernel_rfl) (by kernel_rfl) ?_
      exact F36_u18_ok n a0 false

def F36_j12 (n : Nat) (a0 : Command) (b11 : Bool) : Option Bool :=
    if b11 then
      (F27 n a0.F.a0).bind fun (r13 : Bool) =>
      F36_u15 n a0 r13
    else
      F36_u15 n a0 false
theorem F36_j12_ok (n : Nat) (a0 : Command) (b11 : Bool) : Sim Try.prog D (n + 8) pc36_c20 [(1, .one (.ptr 1 0)), (3, .one (lb b11))] [(1, some (.cells (Command.cells a0)))] (F36_j12 n a0 b11) (QF false pc36_r 0 F36_e) := by
    unfold F36_j12
    refine Sim.seq ?_
    refine Sim.seq ?_
    refine Sim.region [(1, .one (.ptr 1 0)), (3, .one (lb b11))] [(1, some (.cells (Command.cells a0)))] (by kernel_rfl) ?_
    refine SimI.run 1 [(4, .one (li .i64 0))] [] (by kernel_rfl) ?_
    refine SimI.done (by kernel_rfl) ?_
    refine SimE.thenN ?_
    refine Sim.block ?_
    refine Sim.loop ?_
    refine SimL.succ ?_
    refine Sim.seq ?_
    refine Sim.seq ?_
    refine Sim.region [(1, .one (.ptr 1 0)), (3, .one (lb b11)), (4, .one (li .i64 0))] [(1, some (.cells (Command.cells a0)))] (by kernel_rfl) ?_
    refine SimI.run 2 [(55, .one (lb true)), (54, .one (li .i64 0))] [] (by kernel_rfl) ?_
    refine SimI.done (by kernel_rfl) ?_
    refine SimE.thenN ?_
    refine Sim.condT (by kernel_rfl) ?_
    refine Sim.skip ?_
    refine SimE.thenN ?_
    refine Sim.seq ?_
    refine Sim.block ?_
    refine Sim.region0 ?_
    refine SimI.run 2 [(59, .one (lb b11)), (58, .one (lb b11))] [] (by kernel_rfl) ?_
    refine SimI.split 59 b11 (by kernel_rfl) ?_ ?_
    · refine SimI.run 4 [(63, .agg [li .i64 a0.F.a0.N, ls a0.F.a0.Text]), (62, .one (.ptr 1 6)), (61, .one (.ptr 1 6)), (60, .one (li .i64 0))] [] (by kernel_rfl) ?_
      refine SimI.bind (og := F27 n a0.F.a0) { dst := some 64, op := POp.call true [[]] 27 [Operand.tmp 63], guard := some (59, true), hints := [] } (fun r13 => [(64, .one (lb r13))]) (fun r13 => []) (by kernel_rfl) (fun r13 hr => pOp_eff (by kernel_rfl) (by kernel_rfl) (eff_call (ARGS := [.agg [li .i64 a0.F.a0.N, ls a0.F.a0.Text]]) (by kernel_rfl) (args_clean (by kernel_rfl) args_nil) (F27_ok n a0.F.a0 r13 hr) (by kernel_rfl))) (fun r13 => ?_)
      refine SimI.run 2 [(3, .one (lb r13)), (65, .one (lb r13))] [] (by kernel_rfl) ?_
      refine SimI.done (by kernel_rfl) ?_
      refine SimE.blockN ?_
      refine SimE.thenN ?_
      refine Sim.region0 ?_
      refine SimI.run 3 [(4, .one (li .i64 1)), (57, .one (li .i64 1)), (56, .one (li .i64 0))] [] (by kernel_rfl) ?_
      refine SimI.done (by kernel_rfl) ?_
      refine SimE.loopN ?_
      refine SimL.pre (ts := [1, 3, 4]) (os := [1]) (ow := []) [(1, .one (.ptr 1 0)), (3, .one (lb r13)), (4, .one (li .i64 1))] [(1, some (.cells (Command.cells a0)))] (by kernel_rfl) (by kernel_rfl) (by kernel_rfl) ?_
      exact F36_u15_ok n a0 r13
    · refine SimI.run 7 [(3, .one (lb false)), (65, .one (lb false)), (64, .tup []), (63, .tup []), (62, .tup []), (61, .tup []), (60, .tup [])] [] (by kernel_rfl) ?_
      refine SimI.done (by kernel_rfl) ?_
      refine SimE.blockN ?_
      refine SimE.thenN ?_
      refine Sim.region0 ?_
      refine SimI.run 3 [(4, .one (li .i64 1)), (57, .one (li .i64 1)), (56, .one (li .i64 0))] [] (by kernel_rfl) ?_
      refine SimI.done (by kernel_rfl) ?_
      refine SimE.loopN ?_
      refine SimL.pre (ts := [1, 3, 4]) (os := [1]) (ow := []) [(1, .one (.ptr 1 0)), (3, .one (lb false)), (4, .one (li .i64 1))] [(1, some (.cells (Command.cells a0)))] (by kernel_rfl) (by kernel_rfl) (by kernel_rfl) ?_
      exact F36_u15_ok n a0 false

def F36 (n : Nat) (a0 : Command) : Option Bool :=
  (F60 n a0.Kind 1 8).bind fun (r1 : Bool) =>
  if r1 then
    (F60 n a0.Client 0 3).bind fun (r2 : Bool) =>
    if r2 then
      (F60 n a0.Session 0 1000000).bind fun (r3 : Bool) =>
      if r3 then
        (F61 n a0).bind fun (r4 : Command) =>
        if Command.eqb a0 r4 then
          (F62 n a0.At).bind fun (r5 : Bool) =>
          if r5 then
            (F63 n a0.Rect).bind fun (r6 : Bool) =>
            if r6 then
              (F60 n a0.ID 0 1000000).bind fun (r7 : Bool) =>
              if r7 then
                (F60 n a0.Which (-1) 100).bind fun (r8 : Bool) =>
                if r8 then
                  (F60 n a0.To (-1) 100).bind fun (r9 : Bool) =>
                  if r9 then
                    (F27 n a0.Value).bind fun (r10 : Bool) =>
                    F36_j12 n a0 r10
                  else
                    F36_j12 n a0 false
                else
                  F36_j12 n a0 false
              else
                F36_j12 n a0 false
            else
              F36_j12 n a0 false
          else
            F36_j12 n a0 false
        else
          F36_j12 n a0 false
      else
        F36_j12 n a0 false
    else
      F36_j12 n a0 false
  else
    F36_j12 n a0 false
theorem F36_ok (n : Nat) (a0 : Command) : ∀ r, F36 n a0 = some r → D 36 [.agg (Command.cells a0)] [] = some (F36_e r) := by
  refine fn_to (D := D) (n := n + 8) (nt := 67) (rs := pc36_r) (c := pc36_c22) (L := [(0, .agg (Command.cells a0))]) (M := []) (k := 0) rfl rfl rfl rfl rfl rfl rfl ?_
  unfold F36
  refine Sim.seq ?_
  refine Sim.region0 ?_
  refine SimI.run 2 [(2, .one (lb false)), (1, .one (.ptr 1 0))] [(1, some (.cells (Command.cells a0)))] (by kernel_rfl) ?_
  refine SimI.done (by kernel_rfl) ?_
  refine SimE.thenN ?_
  refine Sim.seq ?_
  refine Sim.region0 ?_
  refine SimI.run 2 [(6, .one (li .i64 a0.Kind)), (5, .one (.ptr 1 0))] [] (by kernel_rfl) ?_
  refine SimI.bind (og := F60 n a0.Kind 1 8) { dst := some 7, op := POp.call false [[], [], []] 60 [Operand.tmp 6, Operand.const (Value.int IntKind.i64 1), Operand.const (Value.int IntKind.i64 8)], guard := none, hints := [(6, Hint.imm)] } (fun r1 => [(7, .one (lb r1))]) (fun r1 => []) (by kernel_rfl) (fun r1 hr => pOp_eff (by kernel_rfl) (by kernel_rfl) (eff_call (ARGS := [.one (li .i64 a0.Kind), .one (li .i64 1), .one (li .i64 8)]) (by kernel_rfl) (args_clean (by kernel_rfl) (args_clean (by kernel_rfl) (args_clean (by kernel_rfl) args_nil))) (F60_ok n a0.Kind 1 8 r1 hr) (by kernel_rfl))) (fun r1 => ?_)
  refine SimI.run 1 [(8, .one (lb r1))] [] (by kernel_rfl) ?_
  refine SimI.split 8 r1 (by kernel_rfl) ?_ ?_
  · refine SimI.run 2 [(10, .one (li .i64 a0.Client)), (9, .one (.ptr 1 16))] [] (by kernel_rfl) ?_
    refine SimI.bind (og := F60 n a0.Client 0 3) { dst := some 11, op := POp.call false [[], [], []] 60 [Operand.tmp 10, Operand.const (Value.int IntKind.i64 0), Operand.const (Value.int IntKind.i64 3)], guard := some (8, true), hints := [(10, Hint.imm)] } (fun r2 => [(11, .one (lb r2))]) (fun r2 => []) (by kernel_rfl) (fun r2 hr => pOp_eff (by kernel_rfl) (by kernel_rfl) (eff_call (ARGS := [.one (li .i64 a0.Client), .one (li .i64 0), .one (li .i64 3)]) (by kernel_rfl) (args_clean (by kernel_rfl) (args_clean (by kernel_rfl) (args_clean (by kernel_rfl) args_nil))) (F60_ok n a0.Client 0 3 r2 hr) (by kernel_rfl))) (fun r2 => ?_)
    refine SimI.run 2 [(13, .one (lb r2)), (12, .one (lb r2))] [] (by kernel_rfl) ?_
    refine SimI.split 13 r2 (by kernel_rfl) ?_ ?_
    · refine SimI.run 2 [(15, .one (li .i64 a0.Session)), (14, .one (.ptr 1 17))] [] (by kernel_rfl) ?_
      refine SimI.bind (og := F60 n a0.Session 0 1000000) { dst := some 16, op := POp.call false [[], [], []] 60 [Operand.tmp 15, Operand.const (Value.int IntKind.i64 0), Operand.const (Value.int IntKind.i64 1000000)], guard := some (13, true), hints := [(15, Hint.imm)] } (fun r3 => [(16, .one (lb r3))]) (fun r3 => []) (by kernel_rfl) (fun r3 hr => pOp_eff (by kernel_rfl) (by kernel_rfl) (eff_call (ARGS := [.one (li .i64 a0.Session), .one (li .i64 0), .one (li .i64 1000000)]) (by kernel_rfl) (args_clean (by kernel_rfl) (args_clean (by kernel_rfl) (args_clean (by kernel_rfl) args_nil))) (F60_ok n a0.Session 0 1000000 r3 hr) (by kernel_rfl))) (fun r3 => ?_)
      refine SimI.run 2 [(18, .one (lb r3)), (17, .one (lb r3))] [] (by kernel_rfl) ?_
      refine SimI.split 18 r3 (by kernel_rfl) ?_ ?_
      · refine SimI.run 2 [(20, .agg (Command.cells a0)), (19, .agg (Command.cells a0))] [] (by kernel_rfl) ?_
        refine SimI.bind (og := F61 n a0) { dst := some 21, op := POp.call false [[]] 61 [Operand.tmp 20], guard := some (18, true), hints := [(20, Hint.imm)] } (fun r4 => [(21, .agg (Command.cells r4))]) (fun r4 => []) (by kernel_rfl) (fun r4 hr => pOp_eff (by kernel_rfl) (by kernel_rfl) (eff_call (ARGS := [.agg (Command.cells a0)]) (by kernel_rfl) (args_clean (by kernel_rfl) args_nil) (F61_ok n a0 r4 hr) (by kernel_rfl))) (fun r4 => ?_)
        refine SimI.step { dst := some 22, op := POp.prim (Prim.bin BinOp.eql 57 false false) [Operand.tmp 19, Operand.tmp 21], guard := some (18, true), hints := [(19, Hint.imm), (21, Hint.imm)] } [(22, .one (lb (Command.eqb a0 r4)))] [] (by kernel_rfl) (pOp_eff (by kernel_rfl) (by kernel_rfl) (eff_prim (by kernel_rfl) (Command_eql a0 r4 _ _))) ?_
        refine SimI.run 2 [(24, .one (lb (Command.eqb a0 r4))), (23, .one (lb (Command.eqb a0 r4)))] [] (by kernel_rfl) ?_
        refine SimI.split 24 (Command.eqb a0 r4) (by kernel_rfl) ?_ ?_
        · refine SimI.run 2 [(26, .agg [li .i64 a0.At.X, li .i64 a0.At.Y]), (25, .one (.ptr 1 4))] [] (by kernel_rfl) ?_
          refine SimI.bind (og := F62 n a0.At) { dst := some 27, op := POp.call false [[]] 62 [Operand.tmp 26], guard := some (24, true), hints := [(26, Hint.imm)] } (fun r5 => [(27, .one (lb r5))]) (fun r5 => []) (by kernel_rfl) (fun r5 hr => pOp_eff (by kernel_rfl) (by kernel_rfl) (eff_call (ARGS := [.agg [li .i64 a0.At.X, li .i64 a0.At.Y]]) (by kernel_rfl) (args_clean (by kernel_rfl) args_nil) (F62_ok n a0.At r5 hr) (by kernel_rfl))) (fun r5 => ?_)
          refine SimI.run 2 [(29, .one (lb r5)), (28, .one (lb r5))] [] (by kernel_rfl) ?_
          refine SimI.split 29 r5 (by kernel_rfl) ?_ ?_
          · refine SimI.run 2 [(31, .agg (Rect.cells a0.Rect)), (30, .one (.ptr 1 18))] [] (by kernel_rfl) ?_
            refine SimI.bind (og := F63 n a0.Rect) { dst := some 32, op := POp.call false [[]] 63 [Operand.tmp 31], guard := some (29, true), hints := [(31, Hint.imm)] } (fun r6 => [(32, .one (lb r6))]) (fun r6 => []) (by kernel_rfl) (fun r6 hr => pOp_eff (by kernel_rfl) (by kernel_rfl) (eff_call (ARGS := [.agg (Rect.cells a0.Rect)]) (by kernel_rfl) (args_clean (by kernel_rfl) args_nil) (F63_ok n a0.Rect r6 hr) (by kernel_rfl))) (fun r6 => ?_)
            refine SimI.run 2 [(34, .one (lb r6)), (33, .one (lb r6))] [] (by kernel_rfl) ?_
            refine SimI.split 34 r6 (by kernel_rfl) ?_ ?_
            · refine SimI.run 2 [(36, .one (li .i64 a0.ID)), (35, .one (.ptr 1 1))] [] (by kernel_rfl) ?_
              refine SimI.bind (og := F60 n a0.ID 0 1000000) { dst := some 37, op := POp.call false [[], [], []] 60 [Operand.tmp 36, Operand.const (Value.int IntKind.i64 0), Operand.const (Value.int IntKind.i64 1000000)], guard := some (34, true), hints := [(36, Hint.imm)] } (fun r7 => [(37, .one (lb r7))]) (fun r7 => []) (by kernel_rfl) (fun r7 hr => pOp_eff (by kernel_rfl) (by kernel_rfl) (eff_call (ARGS := [.one (li .i64 a0.ID), .one (li .i64 0), .one (li .i64 1000000)]) (by kernel_rfl) (args_clean (by kernel_rfl) (args_clean (by kernel_rfl) (args_clean (by kernel_rfl) args_nil))) (F60_ok n a0.ID 0 1000000 r7 hr) (by kernel_rfl))) (fun r7 => ?_)
              refine SimI.run 2 [(39, .one (lb r7)), (38, .one (lb r7))] [] (by kernel_rfl) ?_
              refine SimI.split 39 r7 (by kernel_rfl) ?_ ?_
              · refine SimI.run 2 [(41, .one (li .i64 a0.Which)), (40, .one (.ptr 1 2))] [] (by kernel_rfl) ?_
                refine SimI.bind (og := F60 n a0.Which (-1) 100) { dst := some 42, op := POp.call false [[], [], []] 60 [Operand.tmp 41, Operand.const (Value.int IntKind.i64 (-1)), Operand.const (Value.int IntKind.i64 100)], guard := some (39, true), hints := [(41, Hint.imm)] } (fun r8 => [(42, .one (lb r8))]) (fun r8 => []) (by kernel_rfl) (fun r8 hr => pOp_eff (by kernel_rfl) (by kernel_rfl) (eff_call (ARGS := [.one (li .i64 a0.Which), .one (li .i64 (-1)), .one (li .i64 100)]) (by kernel_rfl) (args_clean (by kernel_rfl) (args_clean (by kernel_rfl) (args_clean (by kernel_rfl) args_nil))) (F60_ok n a0.Which (-1) 100 r8 hr) (by kernel_rfl))) (fun r8 => ?_)
                refine SimI.run 2 [(44, .one (lb r8)), (43, .one (lb r8))] [] (by kernel_rfl) ?_
                refine SimI.split 44 r8 (by kernel_rfl) ?_ ?_
                · refine SimI.run 2 [(46, .one (li .i64 a0.To)), (45, .one (.ptr 1 3))] [] (by kernel_rfl) ?_
                  refine SimI.bind (og := F60 n a0.To (-1) 100) { dst := some 47, op := POp.call false [[], [], []] 60 [Operand.tmp 46, Operand.const (Value.int IntKind.i64 (-1)), Operand.const (Value.int IntKind.i64 100)], guard := some (44, true), hints := [(46, Hint.imm)] } (fun r9 => [(47, .one (lb r9))]) (fun r9 => []) (by kernel_rfl) (fun r9 hr => pOp_eff (by kernel_rfl) (by kernel_rfl) (eff_call (ARGS := [.one (li .i64 a0.To), .one (li .i64 (-1)), .one (li .i64 100)]) (by kernel_rfl) (args_clean (by kernel_rfl) (args_clean (by kernel_rfl) (args_clean (by kernel_rfl) args_nil))) (F60_ok n a0.To (-1) 100 r9 hr) (by kernel_rfl))) (fun r9 => ?_)
                  refine SimI.run 2 [(49, .one (lb r9)), (48, .one (lb r9))] [] (by kernel_rfl) ?_
                  refine SimI.split 49 r9 (by kernel_rfl) ?_ ?_
                  · refine SimI.run 2 [(51, .agg [li .i64 a0.Value.N, ls a0.Value.Text]), (50, .one (.ptr 1 14))] [] (by kernel_rfl) ?_
                    refine SimI.bind (og := F27 n a0.Value) { dst := some 52, op := POp.call false [[]] 27 [Operand.tmp 51], guard := some (49, true), hints := [(51, Hint.imm)] } (fun r10 => [(52, .one (lb r10))]) (fun r10 => []) (by kernel_rfl) (fun r10 hr => pOp_eff (by kernel_rfl) (by kernel_rfl) (eff_call (ARGS := [.agg [li .i64 a0.Value.N, ls a0.Value.Text]]) (by kernel_rfl) (args_clean (by kernel_rfl) args_nil) (F27_ok n a0.Value r10 hr) (by kernel_rfl))) (fun r10 => ?_)
                    refine SimI.run 2 [(3, .one (lb r10)), (53, .one (lb r10))] [] (by kernel_rfl) ?_
                    refine SimI.done (by kernel_rfl) ?_
                    refine SimE.thenN ?_
                    refine Sim.pre (ts := [1, 3]) (os := [1]) (ow := []) [(1, .one (.ptr 1 0)), (3, .one (lb r10))] [(1, some (.cells (Command.cells a0)))] (by kernel_rfl) (by kernel_rfl) (by kernel_rfl) ?_
                    exact F36_j12_ok n a0 r10
                  · refine SimI.run 5 [(3, .one (lb false)), (53, .one (lb false)), (52, .tup []), (51, .tup []), (50, .tup [])] [] (by kernel_rfl) ?_
                    refine SimI.done (by kernel_rfl) ?_
                    refine SimE.thenN ?_
                    refine Sim.pre (ts := [1, 3]) (os := [1]) (ow := []) [(1, .one (.ptr 1 0)), (3, .one (lb false))] [(1, some (.cells (Command.cells a0)))] (by kernel_rfl) (by kernel_rfl) (by kernel_rfl) ?_
                    exact F36_j12_ok n a0 false
                · refine SimI.run 10 [(3, .one (lb false)), (53, .one (lb false)), (52, .tup []), (51, .tup []), (50, .tup []), (49, .one (lb false)), (48, .one (lb false)), (47, .tup []), (46, .tup []), (45, .tup [])] [] (by kernel_rfl) ?_
                  refine SimI.done (by kernel_rfl) ?_
                  refine SimE.thenN ?_
                  refine Sim.pre (ts := [1, 3]) (os := [1]) (ow := []) [(1, .one (.ptr 1 0)), (3, .one (lb false))] [(1, some (.cells (Command.cells a0)))] (by kernel_rfl) (by kernel_rfl) (by kernel_rfl) ?_
                  exact F36_j12_ok n a0 false
              · refine SimI.run 15 [(3, .one (lb false)), (53, .one (lb false)), (52, .tup []), (51, .tup []), (50, .tup []), (49, .one (lb false)), (48, .one (lb false)), (47, .tup []), (46, .tup []), (45, .tup []), (44, .one (lb false)), (43, .one (lb false)), (42, .tup []), (41, .tup []), (40, .tup [])] [] (by kernel_rfl) ?_
                refine SimI.done (by kernel_rfl) ?_
                refine SimE.thenN ?_
                refine Sim.pre (ts := [1, 3]) (os := [1]) (ow := []) [(1, .one (.ptr 1 0)), (3, .one (lb false))] [(1, some (.cells (Command.cells a0)))] (by kernel_rfl) (by kernel_rfl) (by kernel_rfl) ?_
                exact F36_j12_ok n a0 false
            · refine SimI.run 20 [(3, .one (lb false)), (53, .one (lb false)), (52, .tup []), (51, .tup []), (50, .tup []), (49, .one (lb false)), (48, .one (lb false)), (47, .tup []), (46, .tup []), (45, .tup []), (44, .one (lb false)), (43, .one (lb false)), (42, .tup []), (41, .tup []), (40, .tup []), (39, .one (lb false)), (38, .one (lb false)), (37, .tup []), (36, .tup []), (35, .tup [])] [] (by kernel_rfl) ?_
              refine SimI.done (by kernel_rfl) ?_
              refine SimE.thenN ?_
              refine Sim.pre (ts := [1, 3]) (os := [1]) (ow := []) [(1, .one (.ptr 1 0)), (3, .one (lb false))] [(1, some (.cells (Command.cells a0)))] (by kernel_rfl) (by kernel_rfl) (by kernel_rfl) ?_
              exact F36_j12_ok n a0 false
          · refine SimI.run 25 [(3, .one (lb false)), (53, .one (lb false)), (52, .tup []), (51, .tup []), (50, .tup []), (49, .one (lb false)), (48, .one (lb false)), (47, .tup []), (46, .tup []), (45, .tup []), (44, .one (lb false)), (43, .one (lb false)), (42, .tup []), (41, .tup []), (40, .tup []), (39, .one (lb false)), (38, .one (lb false)), (37, .tup []), (36, .tup []), (35, .tup []), (34, .one (lb false)), (33, .one (lb false)), (32, .tup []), (31, .tup []), (30, .tup [])] [] (by kernel_rfl) ?_
            refine SimI.done (by kernel_rfl) ?_
            refine SimE.thenN ?_
            refine Sim.pre (ts := [1, 3]) (os := [1]) (ow := []) [(1, .one (.ptr 1 0)), (3, .one (lb false))] [(1, some (.cells (Command.cells a0)))] (by kernel_rfl) (by kernel_rfl) (by kernel_rfl) ?_
            exact F36_j12_ok n a0 false
        · refine SimI.run 30 [(3, .one (lb false)), (53, .one (lb false)), (52, .tup []), (51, .tup []), (50, .tup []), (49, .one (lb false)), (48, .one (lb false)), (47, .tup []), (46, .tup []), (45, .tup []), (44, .one (lb false)), (43, .one (lb false)), (42, .tup []), (41, .tup []), (40, .tup []), (39, .one (lb false)), (38, .one (lb false)), (37, .tup []), (36, .tup []), (35, .tup []), (34, .one (lb false)), (33, .one (lb false)), (32, .tup []), (31, .tup []), (30, .tup []), (29, .one (lb false)), (28, .one (lb false)), (27, .tup []), (26, .tup []), (25, .tup [])] [] (by kernel_rfl) ?_
          refine SimI.done (by kernel_rfl) ?_
          refine SimE.thenN ?_
          refine Sim.pre (ts := [1, 3]) (os := [1]) (ow := []) [(1, .one (.ptr 1 0)), (3, .one (lb false))] [(1, some (.cells (Command.cells a0)))] (by kernel_rfl) (by kernel_rfl) (by kernel_rfl) ?_
          exact F36_j12_ok n a0 false
      · refine SimI.run 36 [(3, .one (lb false)), (53, .one (lb false)), (52, .tup []), (51, .tup []), (50, .tup []), (49, .one (lb false)), (48, .one (lb false)), (47, .tup []), (46, .tup []), (45, .tup []), (44, .one (lb false)), (43, .one (lb false)), (42, .tup []), (41, .tup []), (40, .tup []), (39, .one (lb false)), (38, .one (lb false)), (37, .tup []), (36, .tup []), (35, .tup []), (34, .one (lb false)), (33, .one (lb false)), (32, .tup []), (31, .tup []), (30, .tup []), (29, .one (lb false)), (28, .one (lb false)), (27, .tup []), (26, .tup []), (25, .tup []), (24, .one (lb false)), (23, .one (lb false)), (22, .tup []), (21, .tup []), (20, .tup []), (19, .tup [])] [] (by kernel_rfl) ?_
        refine SimI.done (by kernel_rfl) ?_
        refine SimE.thenN ?_
        refine Sim.pre (ts := [1, 3]) (os := [1]) (ow := []) [(1, .one (.ptr 1 0)), (3, .one (lb false))] [(1, some (.cells (Command.cells a0)))] (by kernel_rfl) (by kernel_rfl) (by kernel_rfl) ?_
        exact F36_j12_ok n a0 false
    · refine SimI.run 41 [(3, .one (lb false)), (53, .one (lb false)), (52, .tup []), (51, .tup []), (50, .tup []), (49, .one (lb false)), (48, .one (lb false)), (47, .tup []), (46, .tup []), (45, .tup []), (44, .one (lb false)), (43, .one (lb false)), (42, .tup []), (41, .tup []), (40, .tup []), (39, .one (lb false)), (38, .one (lb false)), (37, .tup []), (36, .tup []), (35, .tup []), (34, .one (lb false)), (33, .one (lb false)), (32, .tup []), (31, .tup []), (30, .tup []), (29, .one (lb false)), (28, .one (lb false)), (27, .tup []), (26, .tup []), (25, .tup []), (24, .one (lb false)), (23, .one (lb false)), (22, .tup []), (21, .tup []), (20, .tup []), (19, .tup []), (18, .one (lb false)), (17, .one (lb false)), (16, .tup []), (15, .tup []), (14, .tup [])] [] (by kernel_rfl) ?_
      refine SimI.done (by kernel_rfl) ?_
      refine SimE.thenN ?_
      refine Sim.pre (ts := [1, 3]) (os := [1]) (ow := []) [(1, .one (.ptr 1 0)), (3, .one (lb false))] [(1, some (.cells (Command.cells a0)))] (by kernel_rfl) (by kernel_rfl) (by kernel_rfl) ?_
      exact F36_j12_ok n a0 false
  · refine SimI.run 46 [(3, .one (lb false)), (53, .one (lb false)), (52, .tup []), (51, .tup []), (50, .tup []), (49, .one (lb false)), (48, .one (lb false)), (47, .tup []), (46, .tup []), (45, .tup []), (44, .one (lb false)), (43, .one (lb false)), (42, .tup []), (41, .tup []), (40, .tup []), (39, .one (lb false)), (38, .one (lb false)), (37, .tup []), (36, .tup []), (35, .tup []), (34, .one (lb false)), (33, .one (lb false)), (32, .tup []), (31, .tup []), (30, .tup []), (29, .one (lb false)), (28, .one (lb false)), (27, .tup []), (26, .tup []), (25, .tup []), (24, .one (lb false)), (23, .one (lb false)), (22, .tup []), (21, .tup []), (20, .tup []), (19, .tup []), (18, .one (lb false)), (17, .one (lb false)), (16, .tup []), (15, .tup []), (14, .tup []), (13, .one (lb false)), (12, .one (lb false)), (11, .tup []), (10, .tup []), (9, .tup [])] [] (by kernel_rfl) ?_
    refine SimI.done (by kernel_rfl) ?_
    refine SimE.thenN ?_
    refine Sim.pre (ts := [1, 3]) (os := [1]) (ow := []) [(1, .one (.ptr 1 0)), (3, .one (lb false))] [(1, some (.cells (Command.cells a0)))] (by kernel_rfl) (by kernel_rfl) (by kernel_rfl) ?_
    exact F36_j12_ok n a0 false


-- 38: vedette/vedetteref10.Watches
def F38_e : Bool → PV × List Ob := fun r => (.one (lb r), [])
def F38 (n : Nat) (a0 : Command) : Option Bool :=
  (F60 n a0.Kind 6 8).bind fun (r1 : Bool) =>
  some r1
theorem F38_ok (n : Nat) (a0 : Command) : ∀ r, F38 n a0 = some r → D 38 [.agg (Command.cells a0)] [] = some (F38_e r) := by
  refine fn_to (D := D) (n := n + 8) (nt := 6) (rs := pc38_r) (c := pc38_c5) (L := [(0, .agg (Command.cells a0))]) (M := []) (k := 0) rfl rfl rfl rfl rfl rfl rfl ?_
  unfold F38
  refine Sim.seq ?_
  refine Sim.region0 ?_
  refine SimI.run 2 [(2, .one (lb false)), (1, .one (.ptr 1 0))] [(1, some (.cells (Command.cells a0)))] (by kernel_rfl) ?_
  refine SimI.done (by kernel_rfl) ?_
  refine SimE.thenN ?_
  refine Sim.seq ?_
  refine Sim.region0 ?_
  refine SimI.run 2 [(4, .one (li .i64 a0.Kind)), (3, .one (.ptr 1 0))] [] (by kernel_rfl) ?_
  refine SimI.bind (og := F60 n a0.Kind 6 8) { dst := some 5, op := POp.call true [[], [], []] 60 [Operand.tmp 4, Operand.const (Value.int IntKind.i64 6), Operand.const (Value.int IntKind.i64 8)], guard := none, hints := [] } (fun r1 => [(5, .one (lb r1))]) (fun r1 => []) (by kernel_rfl) (fun r1 hr => pOp_eff (by kernel_rfl) (by kernel_rfl) (eff_call (ARGS := [.one (li .i64 a0.Kind), .one (li .i64 6), .one (li .i64 8)]) (by kernel_rfl) (args_clean (by kernel_rfl) (args_clean (by kernel_rfl) (args_clean (by kernel_rfl) args_nil))) (F60_ok n a0.Kind 6 8 r1 hr) (by kernel_rfl))) (fun r1 => ?_)
  refine SimI.run 1 [(2, .one (lb r1))] [] (by kernel_rfl) ?_
  refine SimI.done (by kernel_rfl) ?_
  refine SimE.thenN ?_
  refine Sim.ret ?_
  exact SimE.fin (by kernel_rfl)


-- 9: vedette/vedettelaw10.CmdTells
def F9_e : Bool → PV × List Ob := fun r => (.one (lb r), [])
def F9 (n : Nat) (a0 : Command) (a1 : Command) : Option Bool :=
  ((some true)).bind fun (r1 : Bool) =>
  if !(r1) then
    some false
  else
    (F33 n a0).bind fun (r2 : Bool) =>
    if !(r2) then
      some true
    else
      (F33 n a1).bind fun (r3 : Bool) =>
      if !(r3) then
        some true
      else
        (F34 n a0).bind fun (r4 : (ByteArray × Int)) =>
        (F35 n a0).bind fun (r5 : Bool) =>
        (F36 n a0).bind fun (r6 : Bool) =>
        if r5 == r6 then
          (F37 n a0).bind fun (r7 : Bool) =>
          (F38 n a0).bind fun (r8 : Bool) =>
          if r7 == r8 then
            (F39 n a0 a1).bind fun (r9 : Bool) =>
            if r9 == (Command.eqb a0 a1) then
              (F36 n a0).bind fun (r10 : Bool) =>
              if (r4.2 == 0) == r10 then
                if r4.2 == 0 then
                  some (decide ((r4.1.size : Int) ≤ 200))
                else
                  if r4.2 == 11 then
                    if r4.1.toList == ByteArray.empty.toList then
                      some (decide ((r4.1.size : Int) ≤ 200))
                    else
                      some false
                  else
                    some false
              else
                some false
            else
              some false
          else
            some false
        else
          some false
theorem F9_ok (n : Nat) (a0 : Command) (a1 : Command) : ∀ r, F9 n a0 a1 = some r → D 9 [.agg (Command.cells a0), .agg (Command.cells a1)] [] = some (F9_e r) := by
  refine fn_to (D := D) (n := n + 8) (nt := 67) (rs := pc9_r) (c := pc9_c23) (L := [(0, .agg (Command.cells a0)), (1, .agg (Command.cells a1))]) (M := []) (k := 0) rfl rfl rfl rfl rfl rfl rfl ?_
  unfold F9
  refine Sim.seq ?_
  refine Sim.region0 ?_
  refine SimI.run 3 [(4, .one (lb false)), (3, .one (.ptr 3 0)), (2, .one (.ptr 2 0))] [(3, some (.cells (Command.cells a1))), (2, some (.cells (Command.cells a0)))] (by kernel_rfl) ?_
  refine SimI.done (by kernel_rfl) ?_
  refine SimE.thenN ?_
  refine Sim.seq ?_
  refine Sim.seq ?_
  refine Sim.region0 ?_
  refine SimI.bind (og := (some true)) { dst := some 7, op := POp.call true [] 32 [], guard := none, hints := [] } (fun r1 => [(7, .one (lb r1))]) (fun r1 => []) (by kernel_rfl) (fun r1 hr => pOp_eff (by kernel_rfl) (by kernel_rfl) (eff_call (ARGS := []) (by kernel_rfl) (args_nil) (F32_ok n r1 hr) (by kernel_rfl))) (fun r1 => ?_)
  refine SimI.run 1 [(8, .one (lb (!(r1))))] [] (by kernel_rfl) ?_
  refine SimI.done (by kernel_rfl) ?_
  refine SimE.thenN ?_
  refine Sim.cond (!(r1)) (by kernel_rfl) ?_ ?_
  · refine Sim.seq ?_
    refine Sim.region0 ?_
    refine SimI.run 1 [(4, .one (lb false))] [] (by kernel_rfl) ?_
    refine SimI.done (by kernel_rfl) ?_
    refine SimE.thenN ?_
    refine Sim.ret ?_
    refine SimE.thenR ?_
    exact SimE.fin (by kernel_rfl)
  · refine Sim.skip ?_
    refine SimE.thenN ?_
    refine Sim.seq ?_
    refine Sim.seq ?_
    refine Sim.region0 ?_
    refine SimI.run 1 [(9, .agg (Command.cells a0))] [] (by kernel_rfl) ?_
    refine SimI.bind (og := F33 n a0) { dst := some 10, op := POp.call true [[]] 33 [Operand.tmp 9], guard := none, hints := [] } (fun r2 => [(10, .one (lb r2))]) (fun r2 => []) (by kernel_rfl) (fun r2 hr => pOp_eff (by kernel_rfl) (by kernel_rfl) (eff_call (ARGS := [.agg (Command.cells a0)]) (by kernel_rfl) (args_clean (by kernel_rfl) args_nil) (F33_ok n a0 r2 hr) (by kernel_rfl))) (fun r2 => ?_)
    refine SimI.run 2 [(12, .one (lb (!(r2)))), (11, .one (lb (!(r2))))] [] (by kernel_rfl) ?_
    refine SimI.split 12 (!(r2)) (by kernel_rfl) ?_ ?_
    · refine SimI.run 4 [(16, .one (lb true)), (15, .tup []), (14, .tup []), (13, .tup [])] [] (by kernel_rfl) ?_
      refine SimI.done (by kernel_rfl) ?_
      refine SimE.thenN ?_
      refine Sim.condT (by kernel_rfl) ?_
      refine Sim.seq ?_
      refine Sim.region0 ?_
      refine SimI.run 1 [(4, .one (lb true))] [] (by kernel_rfl) ?_
      refine SimI.done (by kernel_rfl) ?_
      refine SimE.thenN ?_
      refine Sim.ret ?_
      refine SimE.thenR ?_
      exact SimE.fin (by kernel_rfl)
    · refine SimI.run 1 [(13, .agg (Command.cells a1))] [] (by kernel_rfl) ?_
      refine SimI.bind (og := F33 n a1) { dst := some 14, op := POp.call true [[]] 33 [Operand.tmp 13], guard := some (12, false), hints := [] } (fun r3 => [(14, .one (lb r3))]) (fun r3 => []) (by kernel_rfl) (fun r3 hr => pOp_eff (by kernel_rfl) (by kernel_rfl) (eff_call (ARGS := [.agg (Command.cells a1)]) (by kernel_rfl) (args_clean (by kernel_rfl) args_nil) (F33_ok n a1 r3 hr) (by kernel_rfl))) (fun r3 => ?_)
      refine SimI.run 2 [(16, .one (lb (!(r3)))), (15, .one (lb (!(r3))))] [] (by kernel_rfl) ?_
      refine SimI.done (by kernel_rfl) ?_
      refine SimE.thenN ?_
      refine Sim.cond (!(r3)) (by kernel_rfl) ?_ ?_
      · refine Sim.seq ?_
        refine Sim.region0 ?_
        refine SimI.run 1 [(4, .one (lb true))] [] (by kernel_rfl) ?_
        refine SimI.done (by kernel_rfl) ?_
        refine SimE.thenN ?_
        refine Sim.ret ?_
        refine SimE.thenR ?_
        exact SimE.fin (by kernel_rfl)
      · refine Sim.skip ?_
        refine SimE.thenN ?_
        refine Sim.seq ?_
        refine Sim.region0 ?_
        refine SimI.run 1 [(18, .agg (Command.cells a0))] [] (by kernel_rfl) ?_
        refine SimI.bind (og := F34 n a0) { dst := some 19, op := POp.call true [[]] 34 [Operand.tmp 18], guard := none, hints := [] } (fun r4 => [(19, .tup [.one (ls r4.1), .one (li .i64 r4.2)])]) (fun r4 => []) (by kernel_rfl) (fun r4 hr => pOp_eff (by kernel_rfl) (by kernel_rfl) (eff_call (ARGS := [.agg (Command.cells a0)]) (by kernel_rfl) (args_clean (by kernel_rfl) args_nil) (F34_ok n a0 r4 hr) (by kernel_rfl))) (fun r4 => ?_)
        refine SimI.run 5 [(6, .one (li .i64 r4.2)), (5, .one (ls r4.1)), (21, .one (li .i64 r4.2)), (20, .one (ls r4.1)), (17, .tup [.one (ls r4.1), .one (li .i64 r4.2)])] [] (by kernel_rfl) ?_
        refine SimI.done (by kernel_rfl) ?_
        refine SimE.thenN ?_
        refine Sim.seq ?_
        refine Sim.region0 ?_
        refine SimI.run 1 [(22, .agg (Command.cells a0))] [] (by kernel_rfl) ?_
        refine SimI.bind (og := F35 n a0) { dst := some 23, op := POp.call false [[]] 35 [Operand.tmp 22], guard := none, hints := [(22, Hint.imm)] } (fun r5 => [(23, .one (lb r5))]) (fun r5 => []) (by kernel_rfl) (fun r5 hr => pOp_eff (by kernel_rfl) (by kernel_rfl) (eff_call (ARGS := [.agg (Command.cells a0)]) (by kernel_rfl) (args_clean (by kernel_rfl) args_nil) (F35_ok n a0 r5 hr) (by kernel_rfl))) (fun r5 => ?_)
        refine SimI.run 1 [(24, .agg (Command.cells a0))] [] (by kernel_rfl) ?_
        refine SimI.bind (og := F36 n a0) { dst := some 25, op := POp.call false [[]] 36 [Operand.tmp 24], guard := none, hints := [(24, Hint.imm)] } (fun r6 => [(25, .one (lb r6))]) (fun r6 => []) (by kernel_rfl) (fun r6 hr => pOp_eff (by kernel_rfl) (by kernel_rfl) (eff_call (ARGS := [.agg (Command.cells a0)]) (by kernel_rfl) (args_clean (by kernel_rfl) args_nil) (F36_ok n a0 r6 hr) (by kernel_rfl))) (fun r6 => ?_)
        refine SimI.run 2 [(27, .one (lb (r5 == r6))), (26, .one (lb (r5 == r6)))] [] (by kernel_rfl) ?_
        refine SimI.split 27 (r5 == r6) (by kernel_rfl) ?_ ?_
        · refine SimI.run 1 [(28, .agg (Command.cells a0))] [] (by kernel_rfl) ?_
          refine SimI.bind (og := F37 n a0) { dst := some 29, op := POp.call false [[]] 37 [Operand.tmp 28], guard := some (27, true), hints := [(28, Hint.imm)] } (fun r7 => [(29, .one (lb r7))]) (fun r7 => []) (by kernel_rfl) (fun r7 hr => pOp_eff (by kernel_rfl) (by kernel_rfl) (eff_call (ARGS := [.agg (Command.cells a0)]) (by kernel_rfl) (args_clean (by kernel_rfl) args_nil) (F37_ok n a0 r7 hr) (by kernel_rfl))) (fun r7 => ?_)
          refine SimI.run 1 [(30, .agg (Command.cells a0))] [] (by kernel_rfl) ?_
          refine SimI.bind (og := F38 n a0) { dst := some 31, op := POp.call false [[]] 38 [Operand.tmp 30], guard := some (27, true), hints := [(30, Hint.imm)] } (fun r8 => [(31, .one (lb r8))]) (fun r8 => []) (by kernel_rfl) (fun r8 hr => pOp_eff (by kernel_rfl) (by kernel_rfl) (eff_call (ARGS := [.agg (Command.cells a0)]) (by kernel_rfl) (args_clean (by kernel_rfl) args_nil) (F38_ok n a0 r8 hr) (by kernel_rfl))) (fun r8 => ?_)
          refine SimI.run 3 [(34, .one (lb (r7 == r8))), (33, .one (lb (r7 == r8))), (32, .one (lb (r7 == r8)))] [] (by kernel_rfl) ?_
          refine SimI.split 34 (r7 == r8) (by kernel_rfl) ?_ ?_
          · refine SimI.run 2 [(36, .agg (Command.cells a1)), (35, .agg (Command.cells a0))] [] (by kernel_rfl) ?_
            refine SimI.bind (og := F39 n a0 a1) { dst := some 37, op := POp.call false [[], []] 39 [Operand.tmp 35, Operand.tmp 36], guard := some (34, true), hints := [(35, Hint.imm), (36, Hint.imm)] } (fun r9 => [(37, .one (lb r9))]) (fun r9 => []) (by kernel_rfl) (fun r9 hr => pOp_eff (by kernel_rfl) (by kernel_rfl) (eff_call (ARGS := [.agg (Command.cells a0), .agg (Command.cells a1)]) (by kernel_rfl) (args_clean (by kernel_rfl) (args_clean (by kernel_rfl) args_nil)) (F39_ok n a0 a1 r9 hr) (by kernel_rfl))) (fun r9 => ?_)
            refine SimI.run 2 [(39, .agg (Command.cells a1)), (38, .agg (Command.cells a0))] [] (by kernel_rfl) ?_
            refine SimI.step { dst := some 40, op := POp.prim (Prim.bin BinOp.eql 57 false false) [Operand.tmp 38, Operand.tmp 39], guard := some (34, true), hints := [(38, Hint.imm), (39, Hint.imm)] } [(40, .one (lb (Command.eqb a0 a1)))] [] (by kernel_rfl) (pOp_eff (by kernel_rfl) (by kernel_rfl) (eff_prim (by kernel_rfl) (Command_eql a0 a1 _ _))) ?_
            refine SimI.run 3 [(43, .one (lb (r9 == (Command.eqb a0 a1)))), (42, .one (lb (r9 == (Command.eqb a0 a1)))), (41, .one (lb (r9 == (Command.eqb a0 a1))))] [] (by kernel_rfl) ?_
            refine SimI.split 43 (r9 == (Command.eqb a0 a1)) (by kernel_rfl) ?_ ?_
            · refine SimI.run 3 [(46, .agg (Command.cells a0)), (45, .one (lb (r4.2 == 0))), (44, .one (li .i64 r4.2))] [] (by kernel_rfl) ?_
              refine SimI.bind (og := F36 n a0) { dst := some 47, op := POp.call false [[]] 36 [Operand.tmp 46], guard := some (43, true), hints := [(46, Hint.imm)] } (fun r10 => [(47, .one (lb r10))]) (fun r10 => []) (by kernel_rfl) (fun r10 hr => pOp_eff (by kernel_rfl) (by kernel_rfl) (eff_call (ARGS := [.agg (Command.cells a0)]) (by kernel_rfl) (args_clean (by kernel_rfl) args_nil) (F36_ok n a0 r10 hr) (by kernel_rfl))) (fun r10 => ?_)
              refine SimI.run 3 [(50, .one (lb ((r4.2 == 0) == r10))), (49, .one (lb ((r4.2 == 0) == r10))), (48, .one (lb ((r4.2 == 0) == r10)))] [] (by kernel_rfl) ?_
              refine SimI.split 50 ((r4.2 == 0) == r10) (by kernel_rfl) ?_ ?_
              · refine SimI.run 3 [(53, .one (lb (r4.2 == 0))), (52, .one (lb (r4.2 == 0))), (51, .one (li .i64 r4.2))] [] (by kernel_rfl) ?_
                refine SimI.split 53 (r4.2 == 0) (by kernel_rfl) ?_ ?_
                · refine SimI.run 14 [(4, .one (lb (decide ((r4.1.size : Int) ≤ 200)))), (66, .one (lb (decide ((r4.1.size : Int) ≤ 200)))), (65, .one (lb (decide ((r4.1.size : Int) ≤ 200)))), (64, .one (li .i64 (r4.1.size : Int))), (63, .one (ls r4.1)), (62, .one (lb true)), (61, .one (lb true)), (60, .one (lb true)), (59, .tup []), (58, .tup []), (57, .tup []), (56, .tup []), (55, .tup []), (54, .tup [])] [] (by kernel_rfl) ?_
                  refine SimI.done (by kernel_rfl) ?_
                  refine SimE.thenN ?_
                  refine Sim.ret ?_
                  exact SimE.fin (by kernel_rfl)
                · refine SimI.run 3 [(56, .one (lb (r4.2 == 11))), (55, .one (lb (r4.2 == 11))), (54, .one (li .i64 r4.2))] [] (by kernel_rfl) ?_
                  refine SimI.split 56 (r4.2 == 11) (by kernel_rfl) ?_ ?_
                  · refine SimI.run 6 [(62, .one (lb (r4.1.toList == ByteArray.empty.toList))), (61, .one (lb (r4.1.toList == ByteArray.empty.toList))), (60, .one (lb (r4.1.toList == ByteArray.empty.toList))), (59, .one (lb (r4.1.toList == ByteArray.empty.toList))), (58, .one (lb (r4.1.toList == ByteArray.empty.toList))), (57, .one (ls r4.1))] [] (by kernel_rfl) ?_
                    refine SimI.split 62 (r4.1.toList == ByteArray.empty.toList) (by kernel_rfl) ?_ ?_
                    · refine SimI.run 5 [(4, .one (lb (decide ((r4.1.size : Int) ≤ 200)))), (66, .one (lb (decide ((r4.1.size : Int) ≤ 200)))), (65, .one (lb (decide ((r4.1.size : Int) ≤ 200)))), (64, .one (li .i64 (r4.1.size : Int))), (63, .one (ls r4.1))] [] (by kernel_rfl) ?_
                      refine SimI.done (by kernel_rfl) ?_
                      refine SimE.thenN ?_
                      refine Sim.ret ?_
                      exact SimE.fin (by kernel_rfl)
                    · refine SimI.run 5 [(4, .one (lb false)), (66, .one (lb false)), (65, .tup []), (64, .tup []), (63, .tup [])] [] (by kernel_rfl) ?_
                      refine SimI.done (by kernel_rfl) ?_
                      refine SimE.thenN ?_
                      refine Sim.ret ?_
                      exact SimE.fin (by kernel_rfl)
                  · refine SimI.run 11 [(4, .one (lb false)), (66, .one (lb false)), (65, .tup []), (64, .tup []), (63, .tup []), (62, .one (lb false)), (61, .one (lb false)), (60, .one (lb false)), (59, .one (lb false)), (58, .tup []), (57, .tup [])] [] (by kernel_rfl) ?_
                    refine SimI.done (by kernel_rfl) ?_
                    refine SimE.thenN ?_
                    refine Sim.ret ?_
                    exact SimE.fin (by kernel_rfl)
              · refine SimI.run 17 [(4, .one (lb false)), (66, .one (lb false)), (65, .tup []), (64, .tup []), (63, .tup []), (62, .one (lb false)), (61, .one (lb false)), (60, .tup []), (59, .tup []), (58, .tup []), (57, .tup []), (56, .tup []), (55, .tup []), (54, .tup []), (53, .tup []), (52, .tup []), (51, .tup [])] [] (by kernel_rfl) ?_
                refine SimI.done (by kernel_rfl) ?_
                refine SimE.thenN ?_
                refine Sim.ret ?_
                exact SimE.fin (by kernel_rfl)
            · refine SimI.run 24 [(4, .one (lb false)), (66, .one (lb false)), (65, .tup []), (64, .tup []), (63, .tup []), (62, .one (lb false)), (61, .one (lb false)), (60, .tup []), (59, .tup []), (58, .tup []), (57, .tup []), (56, .tup []), (55, .tup []), (54, .tup []), (53, .tup []), (52, .tup []), (51, .tup []), (50, .one (lb false)), (49, .one (lb false)), (48, .tup []), (47, .tup []), (46, .tup []), (45, .tup []), (44, .tup [])] [] (by kernel_rfl) ?_
              refine SimI.done (by kernel_rfl) ?_
              refine SimE.thenN ?_
              refine Sim.ret ?_
              exact SimE.fin (by kernel_rfl)
          · refine SimI.run 33 [(4, .one (lb false)), (66, .one (lb false)), (65, .tup []), (64, .tup []), (63, .tup []), (62, .one (lb false)), (61, .one (lb false)), (60, .tup []), (59, .tup []), (58, .tup []), (57, .tup []), (56, .tup []), (55, .tup []), (54, .tup []), (53, .tup []), (52, .tup []), (51, .tup []), (50, .one (lb false)), (49, .one (lb false)), (48, .tup []), (47, .tup []), (46, .tup []), (45, .tup []), (44, .tup []), (43, .one (lb false)), (42, .one (lb false)), (41, .tup []), (40, .tup []), (39, .tup []), (38, .tup []), (37, .tup []), (36, .tup []), (35, .tup [])] [] (by kernel_rfl) ?_
            refine SimI.done (by kernel_rfl) ?_
            refine SimE.thenN ?_
            refine Sim.ret ?_
            exact SimE.fin (by kernel_rfl)
        · refine SimI.run 40 [(4, .one (lb false)), (66, .one (lb false)), (65, .tup []), (64, .tup []), (63, .tup []), (62, .one (lb false)), (61, .one (lb false)), (60, .tup []), (59, .tup []), (58, .tup []), (57, .tup []), (56, .tup []), (55, .tup []), (54, .tup []), (53, .tup []), (52, .tup []), (51, .tup []), (50, .one (lb false)), (49, .one (lb false)), (48, .tup []), (47, .tup []), (46, .tup []), (45, .tup []), (44, .tup []), (43, .one (lb false)), (42, .one (lb false)), (41, .tup []), (40, .tup []), (39, .tup []), (38, .tup []), (37, .tup []), (36, .tup []), (35, .tup []), (34, .one (lb false)), (33, .one (lb false)), (32, .tup []), (31, .tup []), (30, .tup []), (29, .tup []), (28, .tup [])] [] (by kernel_rfl) ?_
          refine SimI.done (by kernel_rfl) ?_
          refine SimE.thenN ?_
          refine Sim.ret ?_
          exact SimE.fin (by kernel_rfl)


end Go.Proofs.Ythmbegagkgdopaa
