/-
  Functions of the program as functions of Lean. No condition.
-/
import Derived.Test.YtajfdeeepklfoaaDiffBlindE
namespace Go.Proofs.Ytajfdeeepklfoaa
open Go Go.Rx
set_option maxRecDepth 100000
set_option linter.unusedVariables false
set_option linter.unusedSimpArgs false
set_option linter.unnecessarySimpa false
-- 51: vedette/geom.In
def F51_e : Bool → PV × List (List Lf) := fun r => (.one (lb r), [])
def F51 (n : Nat) (a0 : Rect) (a1 : Point) : Option Bool :=
  if decide (a0.X0 ≤ a1.X) then
    if decide (a1.X < a0.X1) then
      if decide (a0.Y0 ≤ a1.Y) then
        some (decide (a1.Y < a0.Y1))
      else
        some false
    else
      some false
  else
    some false
theorem F51_ok (n : Nat) (a0 : Rect) (a1 : Point) : ∀ r, F51 n a0 a1 = some r → D 51 [.agg [li .i64 a0.X0, li .i64 a0.Y0, li .i64 a0.X1, li .i64 a0.Y1], .agg [li .i64 a1.X, li .i64 a1.Y]] [] = some (F51_e r) := by
  refine fn_to (D := D) (n := n + 8) (nt := 31) (rs := pc51_r) (c := pc51_c5) (L := [(0, .agg [li .i64 a0.X0, li .i64 a0.Y0, li .i64 a0.X1, li .i64 a0.Y1]), (1, .agg [li .i64 a1.X, li .i64 a1.Y])]) (M := []) (k := 0) rfl rfl rfl rfl rfl rfl ?_
  unfold F51
  refine Sim.seq ?_
  refine Sim.region0 ?_
  refine SimI.run 3 [(4, .one (lb false)), (3, .one (.ptr 3 0)), (2, .one (.ptr 2 0))] [(3, some (.cells [li .i64 a1.X, li .i64 a1.Y])), (2, some (.cells [li .i64 a0.X0, li .i64 a0.Y0, li .i64 a0.X1, li .i64 a0.Y1]))] (by kernel_rfl) ?_
  refine SimI.done (by kernel_rfl) ?_
  refine SimE.thenN ?_
  refine Sim.seq ?_
  refine Sim.region0 ?_
  refine SimI.run 6 [(10, .one (lb (decide (a0.X0 ≤ a1.X)))), (9, .one (lb (decide (a0.X0 ≤ a1.X)))), (8, .one (li .i64 a0.X0)), (7, .one (.ptr 2 0)), (6, .one (li .i64 a1.X)), (5, .one (.ptr 3 0))] [] (by kernel_rfl) ?_
  refine SimI.split 10 (decide (a0.X0 ≤ a1.X)) (by kernel_rfl) ?_ ?_
  · refine SimI.run 7 [(17, .one (lb (decide (a1.X < a0.X1)))), (16, .one (lb (decide (a1.X < a0.X1)))), (15, .one (lb (decide (a1.X < a0.X1)))), (14, .one (li .i64 a0.X1)), (13, .one (.ptr 2 2)), (12, .one (li .i64 a1.X)), (11, .one (.ptr 3 0))] [] (by kernel_rfl) ?_
    refine SimI.split 17 (decide (a1.X < a0.X1)) (by kernel_rfl) ?_ ?_
    · refine SimI.run 7 [(24, .one (lb (decide (a0.Y0 ≤ a1.Y)))), (23, .one (lb (decide (a0.Y0 ≤ a1.Y)))), (22, .one (lb (decide (a0.Y0 ≤ a1.Y)))), (21, .one (li .i64 a0.Y0)), (20, .one (.ptr 2 1)), (19, .one (li .i64 a1.Y)), (18, .one (.ptr 3 1))] [] (by kernel_rfl) ?_
      refine SimI.split 24 (decide (a0.Y0 ≤ a1.Y)) (by kernel_rfl) ?_ ?_
      · refine SimI.run 7 [(4, .one (lb (decide (a1.Y < a0.Y1)))), (30, .one (lb (decide (a1.Y < a0.Y1)))), (29, .one (lb (decide (a1.Y < a0.Y1)))), (28, .one (li .i64 a0.Y1)), (27, .one (.ptr 2 3)), (26, .one (li .i64 a1.Y)), (25, .one (.ptr 3 1))] [] (by kernel_rfl) ?_
        refine SimI.done (by kernel_rfl) ?_
        refine SimE.thenN ?_
        refine Sim.ret ?_
        exact SimE.fin (by kernel_rfl)
      · refine SimI.run 7 [(4, .one (lb false)), (30, .one (lb false)), (29, .tup []), (28, .tup []), (27, .tup []), (26, .tup []), (25, .tup [])] [] (by kernel_rfl) ?_
        refine SimI.done (by kernel_rfl) ?_
        refine SimE.thenN ?_
        refine Sim.ret ?_
        exact SimE.fin (by kernel_rfl)
    · refine SimI.run 14 [(4, .one (lb false)), (30, .one (lb false)), (29, .tup []), (28, .tup []), (27, .tup []), (26, .tup []), (25, .tup []), (24, .one (lb false)), (23, .one (lb false)), (22, .tup []), (21, .tup []), (20, .tup []), (19, .tup []), (18, .tup [])] [] (by kernel_rfl) ?_
      refine SimI.done (by kernel_rfl) ?_
      refine SimE.thenN ?_
      refine Sim.ret ?_
      exact SimE.fin (by kernel_rfl)
  · refine SimI.run 21 [(4, .one (lb false)), (30, .one (lb false)), (29, .tup []), (28, .tup []), (27, .tup []), (26, .tup []), (25, .tup []), (24, .one (lb false)), (23, .one (lb false)), (22, .tup []), (21, .tup []), (20, .tup []), (19, .tup []), (18, .tup []), (17, .one (lb false)), (16, .one (lb false)), (15, .tup []), (14, .tup []), (13, .tup []), (12, .tup []), (11, .tup [])] [] (by kernel_rfl) ?_
    refine SimI.done (by kernel_rfl) ?_
    refine SimE.thenN ?_
    refine Sim.ret ?_
    exact SimE.fin (by kernel_rfl)


-- 21: vedette/diff.Seen
def F21_e : (List Thing) → PV × List (List Lf) := fun r => (.one (vw Thing.cod r), [])
def F21_l10 (n : Nat) (a0 : (List Thing)) (a1 : Rect) : Nat → (List Thing) → Int → Option (List Thing)
  | 0, _, _ => none
  | m + 1, l7, i9 =>
    if decide (i9 < ((a0).length : Int)) then
      (ix a0 i9).bind fun (x11 : Thing) =>
      (F51 n a1 x11.At).bind fun (r12 : Bool) =>
      if r12 then
        if ((l7).length + 1) * 120 ≤ maxCells ∧ (l7).length + 1 ≤ maxCells then
          (F21_l10 n a0 a1 m) (l7 ++ [x11]) (IntKind.wrap .i64 (i9 + 1))
        else none
      else
        (F21_l10 n a0 a1 m) l7 (IntKind.wrap .i64 (i9 + 1))
    else
      some l7
theorem F21_l10_ok (n : Nat) (a0 : (List Thing)) (a1 : Rect) : ∀ (m : Nat) (l7 : (List Thing)) (i9 : Int) (g8 : Nat), SimL Try.prog D (n + 8) m pc21_c19 [(3, .one (.ptr 3 0)), (5, .one (ownL 100005 g8 l7)), (8, .one (vw Thing.cod a0)), (9, .one (li .i64 ((a0).length : Int))), (10, .one (li .i64 i9))] ((3, some (.cells [li .i64 a1.X0, li .i64 a1.Y0, li .i64 a1.X1, li .i64 a1.Y1])) :: (ownM Thing.cod 39 100005 g8 l7 [])) (F21_l10 n a0 a1 m l7 i9) (QB 0 (QT Try.prog D (n + 8) pc21_c25 (QF pc21_r 0 F21_e))) := by
  intro m_l10
  induction m_l10 with
  | zero => intro l7 i9 g8; exact SimL.zero'  rfl
  | succ m_l10 ih_l10 =>
    intro l7 i9 g8
    cases l7 with
    | nil =>
      refine SimL.succ ?_
      unfold F21_l10
      refine Sim.seq ?_
      refine Sim.region [(3, .one (.ptr 3 0)), (5, .one (lnil)), (8, .one (vw Thing.cod a0)), (9, .one (li .i64 ((a0).length : Int))), (10, .one (li .i64 i9))] ((3, some (.cells [li .i64 a1.X0, li .i64 a1.Y0, li .i64 a1.X1, li .i64 a1.Y1])) :: []) (by kernel_rfl) ?_
      refine SimI.run 1 [(11, .one (lb (decide (i9 < ((a0).length : Int)))))] [] (by kernel_rfl) ?_
      refine SimI.done (by kernel_rfl) ?_
      refine SimE.thenN ?_
      refine Sim.seq ?_
      refine Sim.cond (decide (i9 < ((a0).length : Int))) (by kernel_rfl) ?_ ?_
      · refine Sim.skip ?_
        refine SimE.thenN ?_
        refine Sim.seq ?_
        refine Sim.block ?_
        refine Sim.seq ?_
        refine Sim.region0 ?_
        refine SimI.bind (og := ix a0 i9) { dst := some 12, op := POp.iaddrS 11 (Operand.tmp 8) (Operand.tmp 10), guard := none, hints := [] } (fun x11 => [(12, .one (.eptr (Thing.cod.enc x11) 0))]) (fun x11 => []) (by kernel_rfl) (fun x11 hr => pOp_eff (by kernel_rfl) (by kernel_rfl) (eff_idx (c := Thing.cod) (l := a0) (k := .i64) (n := i9) (by kernel_rfl) (by kernel_rfl) (by kernel_rfl) hr)) (fun x11 => ?_)
        refine SimI.run 3 [(7, .one (.ptr 7 0)), (13, .agg [li .i64 x11.ID, li .i64 x11.At.X, li .i64 x11.At.Y, li .i64 x11.F.a0.N, ls x11.F.a0.Text, li .i64 x11.F.a1.N, ls x11.F.a1.Text, li .i64 x11.F.a2.N, ls x11.F.a2.Text, li .i64 x11.F.a3.N, ls x11.F.a3.Text])] [(7, some (.cells [li .i64 x11.ID, li .i64 x11.At.X, li .i64 x11.At.Y, li .i64 x11.F.a0.N, ls x11.F.a0.Text, li .i64 x11.F.a1.N, ls x11.F.a1.Text, li .i64 x11.F.a2.N, ls x11.F.a2.Text, li .i64 x11.F.a3.N, ls x11.F.a3.Text])), (7, some (.cells [li .i64 0, li .i64 0, li .i64 0, li .i64 0, ls ByteArray.empty, li .i64 0, ls ByteArray.empty, li .i64 0, ls ByteArray.empty, li .i64 0, ls ByteArray.empty]))] (by kernel_rfl) ?_
        refine SimI.done (by kernel_rfl) ?_
        refine SimE.thenN ?_
        refine Sim.seq ?_
        refine Sim.region0 ?_
        refine SimI.run 3 [(16, .agg [li .i64 x11.At.X, li .i64 x11.At.Y]), (15, .one (.ptr 7 1)), (14, .agg [li .i64 a1.X0, li .i64 a1.Y0, li .i64 a1.X1, li .i64 a1.Y1])] [] (by kernel_rfl) ?_
        refine SimI.bind (og := F51 n a1 x11.At) { dst := some 17, op := POp.call true [[], []] 51 [Operand.tmp 14, Operand.tmp 16], guard := none, hints := [] } (fun r12 => [(17, .one (lb r12))]) (fun r12 => []) (by kernel_rfl) (fun r12 hr => pOp_eff (by kernel_rfl) (by kernel_rfl) (eff_call (ARGS := [.agg [li .i64 a1.X0, li .i64 a1.Y0, li .i64 a1.X1, li .i64 a1.Y1], .agg [li .i64 x11.At.X, li .i64 x11.At.Y]]) (by kernel_rfl) (args_clean (by kernel_rfl) (args_clean (by kernel_rfl) args_nil)) (F51_ok n a1 x11.At r12 hr) (by kernel_rfl))) (fun r12 => ?_)
        refine SimI.done (by kernel_rfl) ?_
        refine SimE.thenN ?_
        refine Sim.cond r12 (by kernel_rfl) ?_ ?_
        · refine Sim.region0 ?_
          refine SimI.run 3 [(20, .one (vw Thing.cod [x11])), (19, .agg [li .i64 x11.ID, li .i64 x11.At.X, li .i64 x11.At.Y, li .i64 x11.F.a0.N, ls x11.F.a0.Text, li .i64 x11.F.a1.N, ls x11.F.a1.Text, li .i64 x11.F.a2.N, ls x11.F.a2.Text, li .i64 x11.F.a3.N, ls x11.F.a3.Text]), (18, .one (lnil))] [] (by kernel_rfl) ?_
          refine SimI.guard (c := (([] : List Thing).length + 1) * 120 ≤ maxCells ∧ ([] : List Thing).length + 1 ≤ maxCells) { dst := some 21, op := POp.app 100005 39 11 120 (Operand.tmp 18) (Operand.tmp 20), guard := none, hints := [] } [(21, .one (.osl 100005 0 0 ([x11]).length))] [(100005, some (.arr 39 Thing.cod.sz 0 ([x11]).length (getOf Thing.cod [x11])))] (by kernel_rfl) (fun hc => pOp_eff (by kernel_rfl) (by kernel_rfl) (eff_appN (c := Thing.cod) (a := x11) (by kernel_rfl) (by kernel_rfl) (by kernel_rfl) (by kernel_rfl) (by kernel_rfl) (by kernel_rfl))) ?_
          refine SimI.run 1 [(5, .one (.osl 100005 0 0 ([x11]).length))] [] (by kernel_rfl) ?_
          refine SimI.done (by kernel_rfl) ?_
          refine SimE.blockN ?_
          refine SimE.thenN ?_
          refine Sim.region0 ?_
          refine SimI.run 2 [(10, .one (li .i64 (IntKind.wrap .i64 (i9 + 1)))), (22, .one (li .i64 (IntKind.wrap .i64 (i9 + 1))))] [] (by kernel_rfl) ?_
          refine SimI.done (by kernel_rfl) ?_
          refine SimE.loopN ?_
          refine SimL.pre (ts := [3, 5, 8, 9, 10]) (os := [3, 7, 100005]) [(3, .one (.ptr 3 0)), (5, .one (ownL 100005 0 [x11])), (8, .one (vw Thing.cod a0)), (9, .one (li .i64 ((a0).length : Int))), (10, .one (li .i64 (IntKind.wrap .i64 (i9 + 1))))] ((3, some (.cells [li .i64 a1.X0, li .i64 a1.Y0, li .i64 a1.X1, li .i64 a1.Y1])) :: (ownM Thing.cod 39 100005 0 [x11] [])) (by kernel_rfl) (by kernel_rfl) (by kernel_rfl) ?_
          exact ih_l10 [x11] (IntKind.wrap .i64 (i9 + 1)) 0
        · refine Sim.skip ?_
          refine SimE.blockN ?_
          refine SimE.thenN ?_
          refine Sim.region0 ?_
          refine SimI.run 2 [(10, .one (li .i64 (IntKind.wrap .i64 (i9 + 1)))), (22, .one (li .i64 (IntKind.wrap .i64 (i9 + 1))))] [] (by kernel_rfl) ?_
          refine SimI.done (by kernel_rfl) ?_
          refine SimE.loopN ?_
          refine SimL.pre (ts := [3, 5, 8, 9, 10]) (os := [3, 7, 100005]) [(3, .one (.ptr 3 0)), (5, .one (ownL 100005 0 ([] : List Thing))), (8, .one (vw Thing.cod a0)), (9, .one (li .i64 ((a0).length : Int))), (10, .one (li .i64 (IntKind.wrap .i64 (i9 + 1))))] ((3, some (.cells [li .i64 a1.X0, li .i64 a1.Y0, li .i64 a1.X1, li .i64 a1.Y1])) :: (ownM Thing.cod 39 100005 0 ([] : List Thing) [])) (by kernel_rfl) (by kernel_rfl) (by kernel_rfl) ?_
          exact ih_l10 ([] : List Thing) (IntKind.wrap .i64 (i9 + 1)) 0
      · refine Sim.exit ?_
        refine SimE.thenX ?_
        refine SimE.loopX ?_
        refine SimE.blockX ?_
        refine SimE.thenN ?_
        refine Sim.seq ?_
        refine Sim.region0 ?_
        refine SimI.run 2 [(4, .one (lnil)), (23, .one (lnil))] [] (by kernel_rfl) ?_
        refine SimI.done (by kernel_rfl) ?_
        refine SimE.thenN ?_
        refine Sim.ret ?_
        exact SimE.fin (by kernel_rfl)
    | cons l7h l7t =>
      refine SimL.succ ?_
      unfold F21_l10
      refine Sim.seq ?_
      refine Sim.region [(3, .one (.ptr 3 0)), (5, .one (.osl 100005 g8 0 ((l7h :: l7t)).length)), (8, .one (vw Thing.cod a0)), (9, .one (li .i64 ((a0).length : Int))), (10, .one (li .i64 i9))] ((3, some (.cells [li .i64 a1.X0, li .i64 a1.Y0, li .i64 a1.X1, li .i64 a1.Y1])) :: ((100005, some (.arr 39 Thing.cod.sz g8 ((l7h :: l7t)).length (getOf Thing.cod (l7h :: l7t)))) :: [])) (by kernel_rfl) ?_
      refine SimI.run 1 [(11, .one (lb (decide (i9 < ((a0).length : Int)))))] [] (by kernel_rfl) ?_
      refine SimI.done (by kernel_rfl) ?_
      refine SimE.thenN ?_
      refine Sim.seq ?_
      refine Sim.cond (decide (i9 < ((a0).length : Int))) (by kernel_rfl) ?_ ?_
      · refine Sim.skip ?_
        refine SimE.thenN ?_
        refine Sim.seq ?_
        refine Sim.block ?_
        refine Sim.seq ?_
        refine Sim.region0 ?_
        refine SimI.bind (og := ix a0 i9) { dst := some 12, op := POp.iaddrS 11 (Operand.tmp 8) (Operand.tmp 10), guard := none, hints := [] } (fun x11 => [(12, .one (.eptr (Thing.cod.enc x11) 0))]) (fun x11 => []) (by kernel_rfl) (fun x11 hr => pOp_eff (by kernel_rfl) (by kernel_rfl) (eff_idx (c := Thing.cod) (l := a0) (k := .i64) (n := i9) (by kernel_rfl) (by kernel_rfl) (by kernel_rfl) hr)) (fun x11 => ?_)
        refine SimI.run 3 [(7, .one (.ptr 7 0)), (13, .agg [li .i64 x11.ID, li .i64 x11.At.X, li .i64 x11.At.Y, li .i64 x11.F.a0.N, ls x11.F.a0.Text, li .i64 x11.F.a1.N, ls x11.F.a1.Text, li .i64 x11.F.a2.N, ls x11.F.a2.Text, li .i64 x11.F.a3.N, ls x11.F.a3.Text])] [(7, some (.cells [li .i64 x11.ID, li .i64 x11.At.X, li .i64 x11.At.Y, li .i64 x11.F.a0.N, ls x11.F.a0.Text, li .i64 x11.F.a1.N, ls x11.F.a1.Text, li .i64 x11.F.a2.N, ls x11.F.a2.Text, li .i64 x11.F.a3.N, ls x11.F.a3.Text])), (7, some (.cells [li .i64 0, li .i64 0, li .i64 0, li .i64 0, ls ByteArray.empty, li .i64 0, ls ByteArray.empty, li .i64 0, ls ByteArray.empty, li .i64 0, ls ByteArray.empty]))] (by kernel_rfl) ?_
        refine SimI.done (by kernel_rfl) ?_
        refine SimE.thenN ?_
        refine Sim.seq ?_
        refine Sim.region0 ?_
        refine SimI.run 3 [(16, .agg [li .i64 x11.At.X, li .i64 x11.At.Y]), (15, .one (.ptr 7 1)), (14, .agg [li .i64 a1.X0, li .i64 a1.Y0, li .i64 a1.X1, li .i64 a1.Y1])] [] (by kernel_rfl) ?_
        refine SimI.bind (og := F51 n a1 x11.At) { dst := some 17, op := POp.call true [[], []] 51 [Operand.tmp 14, Operand.tmp 16], guard := none, hints := [] } (fun r12 => [(17, .one (lb r12))]) (fun r12 => []) (by kernel_rfl) (fun r12 hr => pOp_eff (by kernel_rfl) (by kernel_rfl) (eff_call (ARGS := [.agg [li .i64 a1.X0, li .i64 a1.Y0, li .i64 a1.X1, li .i64 a1.Y1], .agg [li .i64 x11.At.X, li .i64 x11.At.Y]]) (by kernel_rfl) (args_clean (by kernel_rfl) (args_clean (by kernel_rfl) args_nil)) (F51_ok n a1 x11.At r12 hr) (by kernel_rfl))) (fun r12 => ?_)
        refine SimI.done (by kernel_rfl) ?_
        refine SimE.thenN ?_
        refine Sim.cond r12 (by kernel_rfl) ?_ ?_
        · refine Sim.region0 ?_
          refine SimI.run 3 [(20, .one (vw Thing.cod [x11])), (19, .agg [li .i64 x11.ID, li .i64 x11.At.X, li .i64 x11.At.Y, li .i64 x11.F.a0.N, ls x11.F.a0.Text, li .i64 x11.F.a1.N, ls x11.F.a1.Text, li .i64 x11.F.a2.N, ls x11.F.a2.Text, li .i64 x11.F.a3.N, ls x11.F.a3.Text]), (18, .one (.osl 100005 g8 0 ((l7h :: l7t)).length))] [] (by kernel_rfl) ?_
          refine SimI.guard (c := (((l7h :: l7t)).length + 1) * 120 ≤ maxCells ∧ ((l7h :: l7t)).length + 1 ≤ maxCells) { dst := some 21, op := POp.app 100005 39 11 120 (Operand.tmp 18) (Operand.tmp 20), guard := none, hints := [] } [(21, .one (.osl 100005 (g8 + 1) 0 (((l7h :: l7t) ++ [x11])).length))] [(100005, some (.arr 39 Thing.cod.sz (g8 + 1) (((l7h :: l7t) ++ [x11])).length (getOf Thing.cod ((l7h :: l7t) ++ [x11]))))] (by kernel_rfl) (fun hc => pOp_eff (by kernel_rfl) (by kernel_rfl) (eff_appO (c := Thing.cod) (g := g8) (l := (l7h :: l7t)) (a := x11) (by kernel_rfl) (by kernel_rfl) (by kernel_rfl) (by kernel_rfl) hc)) ?_
          refine SimI.run 1 [(5, .one (.osl 100005 (g8 + 1) 0 (((l7h :: l7t) ++ [x11])).length))] [] (by kernel_rfl) ?_
          refine SimI.done (by kernel_rfl) ?_
          refine SimE.blockN ?_
          refine SimE.thenN ?_
          refine Sim.region0 ?_
          refine SimI.run 2 [(10, .one (li .i64 (IntKind.wrap .i64 (i9 + 1)))), (22, .one (li .i64 (IntKind.wrap .i64 (i9 + 1))))] [] (by kernel_rfl) ?_
          refine SimI.done (by kernel_rfl) ?_
          refine SimE.loopN ?_
          refine SimL.pre (ts := [3, 5, 8, 9, 10]) (os := [3, 7, 100005]) [(3, .one (.ptr 3 0)), (5, .one (ownL 100005 (g8 + 1) ((l7h :: l7t) ++ [x11]))), (8, .one (vw Thing.cod a0)), (9, .one (li .i64 ((a0).length : Int))), (10, .one (li .i64 (IntKind.wrap .i64 (i9 + 1))))] ((3, some (.cells [li .i64 a1.X0, li .i64 a1.Y0, li .i64 a1.X1, li .i64 a1.Y1])) :: (ownM Thing.cod 39 100005 (g8 + 1) ((l7h :: l7t) ++ [x11]) [])) (by kernel_rfl) (by kernel_rfl) (by kernel_rfl) ?_
          exact ih_l10 ((l7h :: l7t) ++ [x11]) (IntKind.wrap .i64 (i9 + 1)) (g8 + 1)
        · refine Sim.skip ?_
          refine SimE.blockN ?_
          refine SimE.thenN ?_
          refine Sim.region0 ?_
          refine SimI.run 2 [(10, .one (li .i64 (IntKind.wrap .i64 (i9 + 1)))), (22, .one (li .i64 (IntKind.wrap .i64 (i9 + 1))))] [] (by kernel_rfl) ?_
          refine SimI.done (by kernel_rfl) ?_
          refine SimE.loopN ?_
          refine SimL.pre (ts := [3, 5, 8, 9, 10]) (os := [3, 7, 100005]) [(3, .one (.ptr 3 0)), (5, .one (ownL 100005 g8 (l7h :: l7t))), (8, .one (vw Thing.cod a0)), (9, .one (li .i64 ((a0).length : Int))), (10, .one (li .i64 (IntKind.wrap .i64 (i9 + 1))))] ((3, some (.cells [li .i64 a1.X0, li .i64 a1.Y0, li .i64 a1.X1, li .i64 a1.Y1])) :: (ownM Thing.cod 39 100005 g8 (l7h :: l7t) [])) (by kernel_rfl) (by kernel_rfl) (by kernel_rfl) ?_
          exact ih_l10 (l7h :: l7t) (IntKind.wrap .i64 (i9 + 1)) g8
      · refine Sim.exit ?_
        refine SimE.thenX ?_
        refine SimE.loopX ?_
        refine SimE.blockX ?_
        refine SimE.thenN ?_
        refine Sim.seq ?_
        refine Sim.region0 ?_
        refine SimI.run 2 [(4, .one (.osl 100005 g8 0 ((l7h :: l7t)).length)), (23, .one (.osl 100005 g8 0 ((l7h :: l7t)).length))] [] (by kernel_rfl) ?_
        refine SimI.done (by kernel_rfl) ?_
        refine SimE.thenN ?_
        refine Sim.ret ?_
        exact SimE.fin (out_of (os := []) (ress_cons (resOf_own (c := Thing.cod) (k := 100005) (g := g8) (el := 39) (l := (l7h :: l7t)) (by kernel_rfl) (by kernel_rfl)) (ress_nil)) (by kernel_rfl) (by kernel_rfl))

def F21 (n : Nat) (a0 : (List Thing)) (a1 : Rect) : Option (List Thing) :=
  F21_l10 n a0 a1 (n + 8) ([] : List Thing) 0
theorem F21_ok (n : Nat) (a0 : (List Thing)) (a1 : Rect) : ∀ r, F21 n a0 a1 = some r → D 21 [.one (vw Thing.cod a0), .agg [li .i64 a1.X0, li .i64 a1.Y0, li .i64 a1.X1, li .i64 a1.Y1]] [] = some (F21_e r) := by
  refine fn_to (D := D) (n := n + 8) (nt := 24) (rs := pc21_r) (c := pc21_c28) (L := [(0, .one (vw Thing.cod a0)), (1, .agg [li .i64 a1.X0, li .i64 a1.Y0, li .i64 a1.X1, li .i64 a1.Y1])]) (M := []) (k := 0) rfl rfl rfl rfl rfl rfl ?_
  unfold F21
  refine Sim.seq ?_
  refine Sim.region0 ?_
  refine SimI.run 2 [(4, .one (lnil)), (3, .one (.ptr 3 0))] [(3, some (.cells [li .i64 a1.X0, li .i64 a1.Y0, li .i64 a1.X1, li .i64 a1.Y1]))] (by kernel_rfl) ?_
  refine SimI.done (by kernel_rfl) ?_
  refine SimE.thenN ?_
  refine Sim.seq ?_
  refine Sim.region0 ?_
  refine SimI.run 1 [(5, .one (lnil))] [] (by kernel_rfl) ?_
  refine SimI.done (by kernel_rfl) ?_
  refine SimE.thenN ?_
  refine Sim.seq ?_
  refine Sim.seq ?_
  refine Sim.region0 ?_
  refine SimI.run 3 [(10, .one (li .i64 0)), (9, .one (li .i64 ((a0).length : Int))), (8, .one (vw Thing.cod a0))] [] (by kernel_rfl) ?_
  refine SimI.done (by kernel_rfl) ?_
  refine SimE.thenN ?_
  refine Sim.block ?_
  refine Sim.loop ?_
  refine SimL.pre (ts := [3, 5, 8, 9, 10]) (os := [3, 7, 100005]) [(3, .one (.ptr 3 0)), (5, .one (ownL 100005 0 ([] : List Thing))), (8, .one (vw Thing.cod a0)), (9, .one (li .i64 ((a0).length : Int))), (10, .one (li .i64 0))] ((3, some (.cells [li .i64 a1.X0, li .i64 a1.Y0, li .i64 a1.X1, li .i64 a1.Y1])) :: (ownM Thing.cod 39 100005 0 ([] : List Thing) [])) (by kernel_rfl) (by kernel_rfl) (by kernel_rfl) ?_
  exact F21_l10_ok n a0 a1 (n + 8) ([] : List Thing) 0 0


-- 49: vedette/fields.Diff
def F49_e : (Delta × Bool) → PV × List (List Lf) := fun r => (.tup [.agg [li .i64 r.1.ID, li .u8 r.1.Mask, li .i64 r.1.At.X, li .i64 r.1.At.Y, li .i64 r.1.F.a0.N, ls r.1.F.a0.Text, li .i64 r.1.F.a1.N, ls r.1.F.a1.Text, li .i64 r.1.F.a2.N, ls r.1.F.a2.Text, li .i64 r.1.F.a3.N, ls r.1.F.a3.Text], .one (lb r.2)], [])
def F49_u20 (n : Nat) (a1 : Thing) (i2 : Int) (i3 : Int) (i6 : Int) (s7 : ByteArray) (i10 : Int) (s11 : ByteArray) (i14 : Int) (s15 : ByteArray) (i17 : Int) (i18 : Int) (s19 : ByteArray) : Option (Delta × Bool) :=
    some ((Delta.mk a1.ID i17 (Point.mk i2 i3) (A4.mk (Field.mk i6 s7) (Field.mk i10 s11) (Field.mk i14 s15) (Field.mk i18 s19))), i17 != 0)
theorem F49_u20_ok (n : Nat) (a0 : Thing) (a1 : Thing) (i2 : Int) (i3 : Int) (i6 : Int) (s7 : ByteArray) (i10 : Int) (s11 : ByteArray) (i14 : Int) (s15 : ByteArray) (i17 : Int) (i18 : Int) (s19 : ByteArray) : SimL Try.prog D (n + 8) (n + 4) pc49_c26 [(2, .one (.ptr 2 0)), (4, .one (.ptr 4 0)), (6, .one (.ptr 6 0)), (22, .agg [li .i64 a1.F.a0.N, ls a1.F.a0.Text, li .i64 a1.F.a1.N, ls a1.F.a1.Text, li .i64 a1.F.a2.N, ls a1.F.a2.Text, li .i64 a1.F.a3.N, ls a1.F.a3.Text]), (23, .one (li .i64 4))] ((2, some (.cells [li .i64 a0.ID, li .i64 a0.At.X, li .i64 a0.At.Y, li .i64 a0.F.a0.N, ls a0.F.a0.Text, li .i64 a0.F.a1.N, ls a0.F.a1.Text, li .i64 a0.F.a2.N, ls a0.F.a2.Text, li .i64 a0.F.a3.N, ls a0.F.a3.Text])) :: ((4, some (.cells [li .i64 0, li .u8 0, li .i64 0, li .i64 0, li .i64 0, ls ByteArray.empty, li .i64 0, ls ByteArray.empty, li .i64 0, ls ByteArray.empty, li .i64 0, ls ByteArray.empty])) :: ((6, some (.cells [li .i64 a1.ID, li .u8 i17, li .i64 i2, li .i64 i3, li .i64 i6, ls s7, li .i64 i10, ls s11, li .i64 i14, ls s15, li .i64 i18, ls s19])) :: []))) (F49_u20 n a1 i2 i3 i6 s7 i10 s11 i14 s15 i17 i18 s19) (QB 0 (QT Try.prog D (n + 8) pc49_c32 (QF pc49_r 0 F49_e))) := by
    unfold F49_u20
    refine SimL.succ ?_
    refine Sim.seq ?_
    refine Sim.region [(2, .one (.ptr 2 0)), (4, .one (.ptr 4 0)), (6, .one (.ptr 6 0)), (22, .agg [li .i64 a1.F.a0.N, ls a1.F.a0.Text, li .i64 a1.F.a1.N, ls a1.F.a1.Text, li .i64 a1.F.a2.N, ls a1.F.a2.Text, li .i64 a1.F.a3.N, ls a1.F.a3.Text]), (23, .one (li .i64 4))] ((2, some (.cells [li .i64 a0.ID, li .i64 a0.At.X, li .i64 a0.At.Y, li .i64 a0.F.a0.N, ls a0.F.a0.Text, li .i64 a0.F.a1.N, ls a0.F.a1.Text, li .i64 a0.F.a2.N, ls a0.F.a2.Text, li .i64 a0.F.a3.N, ls a0.F.a3.Text])) :: ((4, some (.cells [li .i64 0, li .u8 0, li .i64 0, li .i64 0, li .i64 0, ls ByteArray.empty, li .i64 0, ls ByteArray.empty, li .i64 0, ls ByteArray.empty, li .i64 0, ls ByteArray.empty])) :: ((6, some (.cells [li .i64 a1.ID, li .u8 i17, li .i64 i2, li .i64 i3, li .i64 i6, ls s7, li .i64 i10, ls s11, li .i64 i14, ls s15, li .i64 i18, ls s19])) :: []))) (by kernel_rfl) ?_
    refine SimI.run 1 [(24, .one (lb false))] [] (by kernel_rfl) ?_
    refine SimI.done (by kernel_rfl) ?_
    refine SimE.thenN ?_
    refine Sim.seq ?_
    refine Sim.condF (by kernel_rfl) ?_
    refine Sim.exit ?_
    refine SimE.thenX ?_
    refine SimE.loopX ?_
    refine SimE.blockX ?_
    refine SimE.thenN ?_
    refine Sim.seq ?_
    refine Sim.region0 ?_
    refine SimI.run 6 [(5, .one (lb (i17 != 0))), (47, .one (lb (i17 != 0))), (46, .one (li .u8 i17)), (45, .one (.ptr 6 1)), (44, .agg [li .i64 a1.ID, li .u8 i17, li .i64 i2, li .i64 i3, li .i64 i6, ls s7, li .i64 i10, ls s11, li .i64 i14, ls s15, li .i64 i18, ls s19])] [(4, some (.cells [li .i64 a1.ID, li .u8 i17, li .i64 i2, li .i64 i3, li .i64 i6, ls s7, li .i64 i10, ls s11, li .i64 i14, ls s15, li .i64 i18, ls s19]))] (by kernel_rfl) ?_
    refine SimI.done (by kernel_rfl) ?_
    refine SimE.thenN ?_
    refine Sim.ret ?_
    exact SimE.fin (by kernel_rfl)

def F49_u16 (n : Nat) (a0 : Thing) (a1 : Thing) (i2 : Int) (i3 : Int) (i6 : Int) (s7 : ByteArray) (i10 : Int) (s11 : ByteArray) (i13 : Int) (i14 : Int) (s15 : ByteArray) : Option (Delta × Bool) :=
    if !(Field.eqb a0.F.a3 a1.F.a3) then
      F49_u20 n a1 i2 i3 i6 s7 i10 s11 i14 s15 (bitsI .or .u8 i13 (shlI .u8 2 3)) a1.F.a3.N a1.F.a3.Text
    else
      F49_u20 n a1 i2 i3 i6 s7 i10 s11 i14 s15 i13 0 ByteArray.empty
theorem F49_u16_ok (n : Nat) (a0 : Thing) (a1 : Thing) (i2 : Int) (i3 : Int) (i6 : Int) (s7 : ByteArray) (i10 : Int) (s11 : ByteArray) (i13 : Int) (i14 : Int) (s15 : ByteArray) : SimL Try.prog D (n + 8) (n + 5) pc49_c26 [(2, .one (.ptr 2 0)), (4, .one (.ptr 4 0)), (6, .one (.ptr 6 0)), (22, .agg [li .i64 a1.F.a0.N, ls a1.F.a0.Text, li .i64 a1.F.a1.N, ls a1.F.a1.Text, li .i64 a1.F.a2.N, ls a1.F.a2.Text, li .i64 a1.F.a3.N, ls a1.F.a3.Text]), (23, .one (li .i64 3))] ((2, some (.cells [li .i64 a0.ID, li .i64 a0.At.X, li .i64 a0.At.Y, li .i64 a0.F.a0.N, ls a0.F.a0.Text, li .i64 a0.F.a1.N, ls a0.F.a1.Text, li .i64 a0.F.a2.N, ls a0.F.a2.Text, li .i64 a0.F.a3.N, ls a0.F.a3.Text])) :: ((4, some (.cells [li .i64 0, li .u8 0, li .i64 0, li .i64 0, li .i64 0, ls ByteArray.empty, li .i64 0, ls ByteArray.empty, li .i64 0, ls ByteArray.empty, li .i64 0, ls ByteArray.empty])) :: ((6, some (.cells [li .i64 a1.ID, li .u8 i13, li .i64 i2, li .i64 i3, li .i64 i6, ls s7, li .i64 i10, ls s11, li .i64 i14, ls s15, li .i64 0, ls ByteArray.empty])) :: []))) (F49_u16 n a0 a1 i2 i3 i6 s7 i10 s11 i13 i14 s15) (QB 0 (QT Try.prog D (n + 8) pc49_c32 (QF pc49_r 0 F49_e))) := by
    unfold F49_u16
    refine SimL.succ ?_
    refine Sim.seq ?_
    refine Sim.region [(2, .one (.ptr 2 0)), (4, .one (.ptr 4 0)), (6, .one (.ptr 6 0)), (22, .agg [li .i64 a1.F.a0.N, ls a1.F.a0.Text, li .i64 a1.F.a1.N, ls a1.F.a1.Text, li .i64 a1.F.a2.N, ls a1.F.a2.Text, li .i64 a1.F.a3.N, ls a1.F.a3.Text]), (23, .one (li .i64 3))] ((2, some (.cells [li .i64 a0.ID, li .i64 a0.At.X, li .i64 a0.At.Y, li .i64 a0.F.a0.N, ls a0.F.a0.Text, li .i64 a0.F.a1.N, ls a0.F.a1.Text, li .i64 a0.F.a2.N, ls a0.F.a2.Text, li .i64 a0.F.a3.N, ls a0.F.a3.Text])) :: ((4, some (.cells [li .i64 0, li .u8 0, li .i64 0, li .i64 0, li .i64 0, ls ByteArray.empty, li .i64 0, ls ByteArray.empty, li .i64 0, ls ByteArray.empty, li .i64 0, ls ByteArray.empty])) :: ((6, some (.cells [li .i64 a1.ID, li .u8 i13, li .i64 i2, li .i64 i3, li .i64 i6, ls s7, li .i64 i10, ls s11, li .i64 i14, ls s15, li .i64 0, ls ByteArray.empty])) :: []))) (by kernel_rfl) ?_
    refine SimI.run 1 [(24, .one (lb true))] [] (by kernel_rfl) ?_
    refine SimI.done (by kernel_rfl) ?_
    refine SimE.thenN ?_
    refine Sim.seq ?_
    refine Sim.condT (by kernel_rfl) ?_
    refine Sim.skip ?_
    refine SimE.thenN ?_
    refine Sim.seq ?_
    refine Sim.block ?_
    refine Sim.seq ?_
    refine Sim.region0 ?_
    refine SimI.run 5 [(7, .one (li .i64 3)), (8, .one (.ptr 8 0)), (26, .agg [li .i64 a1.F.a3.N, ls a1.F.a3.Text]), (25, .one (li .i64 3))] [(8, some (.cells [li .i64 a1.F.a3.N, ls a1.F.a3.Text])), (8, some (.cells [li .i64 0, ls ByteArray.empty]))] (by kernel_rfl) ?_
    refine SimI.done (by kernel_rfl) ?_
    refine SimE.thenN ?_
    refine Sim.seq ?_
    refine Sim.region0 ?_
    refine SimI.run 5 [(31, .agg [li .i64 a1.F.a3.N, ls a1.F.a3.Text]), (30, .agg [li .i64 a0.F.a3.N, ls a0.F.a3.Text]), (29, .one (.ptr 2 9)), (28, .one (.ptr 2 3)), (27, .one (li .i64 3))] [] (by kernel_rfl) ?_
    refine SimI.step { dst := some 32, op := POp.prim (Prim.bin BinOp.neq 36 false false) [Operand.tmp 30, Operand.tmp 31], guard := none, hints := [(30, Hint.imm), (31, Hint.imm)] } [(32, .one (lb (!(Field.eqb a0.F.a3 a1.F.a3))))] [] (by kernel_rfl) (pOp_eff (by kernel_rfl) (by kernel_rfl) (eff_prim (by kernel_rfl) (Field_eqn a0.F.a3 a1.F.a3 _ _))) ?_
    refine SimI.done (by kernel_rfl) ?_
    refine SimE.thenN ?_
    refine Sim.cond (!(Field.eqb a0.F.a3 a1.F.a3)) (by kernel_rfl) ?_ ?_
    · refine Sim.seq ?_
      refine Sim.region0 ?_
      refine SimI.run 7 [(38, .one (.ptr 6 1)), (37, .one (li .u8 (bitsI .or .u8 i13 (shlI .u8 2 3)))), (36, .one (li .u8 (shlI .u8 2 3))), (35, .one (li .i64 3)), (34, .one (li .u8 i13)), (33, .one (.ptr 6 1))] [(6, some (.cells [li .i64 a1.ID, li .u8 (bitsI .or .u8 i13 (shlI .u8 2 3)), li .i64 i2, li .i64 i3, li .i64 i6, ls s7, li .i64 i10, ls s11, li .i64 i14, ls s15, li .i64 0, ls ByteArray.empty]))] (by kernel_rfl) ?_
      refine SimI.done (by kernel_rfl) ?_
      refine SimE.thenN ?_
      refine Sim.region0 ?_
      refine SimI.run 5 [(42, .one (.ptr 6 10)), (41, .one (.ptr 6 4)), (40, .agg [li .i64 a1.F.a3.N, ls a1.F.a3.Text]), (39, .one (li .i64 3))] [(6, some (.cells [li .i64 a1.ID, li .u8 (bitsI .or .u8 i13 (shlI .u8 2 3)), li .i64 i2, li .i64 i3, li .i64 i6, ls s7, li .i64 i10, ls s11, li .i64 i14, ls s15, li .i64 a1.F.a3.N, ls a1.F.a3.Text]))] (by kernel_rfl) ?_
      refine SimI.done (by kernel_rfl) ?_
      refine SimE.blockN ?_
      refine SimE.thenN ?_
      refine Sim.region0 ?_
      refine SimI.run 2 [(23, .one (li .i64 4)), (43, .one (li .i64 4))] [] (by kernel_rfl) ?_
      refine SimI.done (by kernel_rfl) ?_
      refine SimE.loopN ?_
      refine SimL.pre (ts := [2, 4, 6, 22, 23]) (os := [2, 3, 4, 6, 8]) [(2, .one (.ptr 2 0)), (4, .one (.ptr 4 0)), (6, .one (.ptr 6 0)), (22, .agg [li .i64 a1.F.a0.N, ls a1.F.a0.Text, li .i64 a1.F.a1.N, ls a1.F.a1.Text, li .i64 a1.F.a2.N, ls a1.F.a2.Text, li .i64 a1.F.a3.N, ls a1.F.a3.Text]), (23, .one (li .i64 4))] ((2, some (.cells [li .i64 a0.ID, li .i64 a0.At.X, li .i64 a0.At.Y, li .i64 a0.F.a0.N, ls a0.F.a0.Text, li .i64 a0.F.a1.N, ls a0.F.a1.Text, li .i64 a0.F.a2.N, ls a0.F.a2.Text, li .i64 a0.F.a3.N, ls a0.F.a3.Text])) :: ((4, some (.cells [li .i64 0, li .u8 0, li .i64 0, li .i64 0, li .i64 0, ls ByteArray.empty, li .i64 0, ls ByteArray.empty, li .i64 0, ls ByteArray.empty, li .i64 0, ls ByteArray.empty])) :: ((6, some (.cells [li .i64 a1.ID, li .u8 (bitsI .or .u8 i13 (shlI .u8 2 3)), li .i64 i2, li .i64 i3, li .i64 i6, ls s7, li .i64 i10, ls s11, li .i64 i14, ls s15, li .i64 a1.F.a3.N, ls a1.F.a3.Text])) :: []))) (by kernel_rfl) (by kernel_rfl) (by kernel_rfl) ?_
      exact F49_u20_ok n a0 a1 i2 i3 i6 s7 i10 s11 i14 s15 (bitsI .or .u8 i13 (shlI .u8 2 3)) a1.F.a3.N a1.F.a3.Text
    · refine Sim.skip ?_
      refine SimE.blockN ?_
      refine SimE.thenN ?_
      refine Sim.region0 ?_
      refine SimI.run 2 [(23, .one (li .i64 4)), (43, .one (li .i64 4))] [] (by kernel_rfl) ?_
      refine SimI.done (by kernel_rfl) ?_
      refine SimE.loopN ?_
      refine SimL.pre (ts := [2, 4, 6, 22, 23]) (os := [2, 3, 4, 6, 8]) [(2, .one (.ptr 2 0)), (4, .one (.ptr 4 0)), (6, .one (.ptr 6 0)), (22, .agg [li .i64 a1.F.a0.N, ls a1.F.a0.Text, li .i64 a1.F.a1.N, ls a1.F.a1.Text, li .i64 a1.F.a2.N, ls a1.F.a2.Text, li .i64 a1.F.a3.N, ls a1.F.a3.Text]), (23, .one (li .i64 4))] ((2, some (.cells [li .i64 a0.ID, li .i64 a0.At.X, li .i64 a0.At.Y, li .i64 a0.F.a0.N, ls a0.F.a0.Text, li .i64 a0.F.a1.N, ls a0.F.a1.Text, li .i64 a0.F.a2.N, ls a0.F.a2.Text, li .i64 a0.F.a3.N, ls a0.F.a3.Text])) :: ((4, some (.cells [li .i64 0, li .u8 0, li .i64 0, li .i64 0, li .i64 0, ls ByteArray.empty, li .i64 0, ls ByteArray.empty, li .i64 0, ls ByteArray.empty, li .i64 0, ls ByteArray.empty])) :: ((6, some (.cells [li .i64 a1.ID, li .u8 i13, li .i64 i2, li .i64 i3, li .i64 i6, ls s7, li .i64 i10, ls s11, li .i64 i14, ls s15, li .i64 0, ls ByteArray.empty])) :: []))) (by kernel_rfl) (by kernel_rfl) (by kernel_rfl) ?_
      exact F49_u20_ok n a0 a1 i2 i3 i6 s7 i10 s11 i14 s15 i13 0 ByteArray.empty

def F49_u12 (n : Nat) (a0 : Thing) (a1 : Thing) (i2 : Int) (i3 : Int) (i6 : Int) (s7 : ByteArray) (i9 : Int) (i10 : Int) (s11 : ByteArray) : Option (Delta × Bool) :=
    if !(Field.eqb a0.F.a2 a1.F.a2) then
      F49_u16 n a0 a1 i2 i3 i6 s7 i10 s11 (bitsI .or .u8 i9 (shlI .u8 2 2)) a1.F.a2.N a1.F.a2.Text
    else
      F49_u16 n a0 a1 i2 i3 i6 s7 i10 s11 i9 0 ByteArray.empty
theorem F49_u12_ok (n : Nat) (a0 : Thing) (a1 : Thing) (i2 : Int) (i3 : Int) (i6 : Int) (s7 : ByteArray) (i9 : Int) (i10 : Int) (s11 : ByteArray) : SimL Try.prog D (n + 8) (n + 6) pc49_c26 [(2, .one (.ptr 2 0)), (4, .one (.ptr 4 0)), (6, .one (.ptr 6 0)), (22, .agg [li .i64 a1.F.a0.N, ls a1.F.a0.Text, li .i64 a1.F.a1.N, ls a1.F.a1.Text, li .i64 a1.F.a2.N, ls a1.F.a2.Text, li .i64 a1.F.a3.N, ls a1.F.a3.Text]), (23, .one (li .i64 2))] ((2, some (.cells [li .i64 a0.ID, li .i64 a0.At.X, li .i64 a0.At.Y, li .i64 a0.F.a0.N, ls a0.F.a0.Text, li .i64 a0.F.a1.N, ls a0.F.a1.Text, li .i64 a0.F.a2.N, ls a0.F.a2.Text, li .i64 a0.F.a3.N, ls a0.F.a3.Text])) :: ((4, some (.cells [li .i64 0, li .u8 0, li .i64 0, li .i64 0, li .i64 0, ls ByteArray.empty, li .i64 0, ls ByteArray.empty, li .i64 0, ls ByteArray.empty, li .i64 0, ls ByteArray.empty])) :: ((6, some (.cells [li .i64 a1.ID, li .u8 i9, li .i64 i2, li .i64 i3, li .i64 i6, ls s7, li .i64 i10, ls s11, li .i64 0, ls ByteArray.empty, li .i64 0, ls ByteArray.empty])) :: []))) (F49_u12 n a0 a1 i2 i3 i6 s7 i9 i10 s11) (QB 0 (QT Try.prog D (n + 8) pc49_c32 (QF pc49_r 0 F49_e))) := by
    unfold F49_u12
    refine SimL.succ ?_
    refine Sim.seq ?_
    refine Sim.region [(2, .one (.ptr 2 0)), (4, .one (.ptr 4 0)), (6, .one (.ptr 6 0)), (22, .agg [li .i64 a1.F.a0.N, ls a1.F.a0.Text, li .i64 a1.F.a1.N, ls a1.F.a1.Text, li .i64 a1.F.a2.N, ls a1.F.a2.Text, li .i64 a1.F.a3.N, ls a1.F.a3.Text]), (23, .one (li .i64 2))] ((2, some (.cells [li .i64 a0.ID, li .i64 a0.At.X, li .i64 a0.At.Y, li .i64 a0.F.a0.N, ls a0.F.a0.Text, li .i64 a0.F.a1.N, ls a0.F.a1.Text, li .i64 a0.F.a2.N, ls a0.F.a2.Text, li .i64 a0.F.a3.N, ls a0.F.a3.Text])) :: ((4, some (.cells [li .i64 0, li .u8 0, li .i64 0, li .i64 0, li .i64 0, ls ByteArray.empty, li .i64 0, ls ByteArray.empty, li .i64 0, ls ByteArray.empty, li .i64 0, ls ByteArray.empty])) :: ((6, some (.cells [li .i64 a1.ID, li .u8 i9, li .i64 i2, li .i64 i3, li .i64 i6, ls s7, li .i64 i10, ls s11, li .i64 0, ls ByteArray.empty, li .i64 0, ls ByteArray.empty])) :: []))) (by kernel_rfl) ?_
    refine SimI.run 1 [(24, .one (lb true))] [] (by kernel_rfl) ?_
    refine SimI.done (by kernel_rfl) ?_
    refine SimE.thenN ?_
    refine Sim.seq ?_
    refine Sim.condT (by kernel_rfl) ?_
    refine Sim.skip ?_
    refine SimE.thenN ?_
    refine Sim.seq ?_
    refine Sim.block ?_
    refine Sim.seq ?_
    refine Sim.region0 ?_
    refine SimI.run 5 [(7, .one (li .i64 2)), (8, .one (.ptr 8 0)), (26, .agg [li .i64 a1.F.a2.N, ls a1.F.a2.Text]), (25, .one (li .i64 2))] [(8, some (.cells [li .i64 a1.F.a2.N, ls a1.F.a2.Text])), (8, some (.cells [li .i64 0, ls ByteArray.empty]))] (by kernel_rfl) ?_
    refine SimI.done (by kernel_rfl) ?_
    refine SimE.thenN ?_
    refine Sim.seq ?_
    refine Sim.region0 ?_
    refine SimI.run 5 [(31, .agg [li .i64 a1.F.a2.N, ls a1.F.a2.Text]), (30, .agg [li .i64 a0.F.a2.N, ls a0.F.a2.Text]), (29, .one (.ptr 2 7)), (28, .one (.ptr 2 3)), (27, .one (li .i64 2))] [] (by kernel_rfl) ?_
    refine SimI.step { dst := some 32, op := POp.prim (Prim.bin BinOp.neq 36 false false) [Operand.tmp 30, Operand.tmp 31], guard := none, hints := [(30, Hint.imm), (31, Hint.imm)] } [(32, .one (lb (!(Field.eqb a0.F.a2 a1.F.a2))))] [] (by kernel_rfl) (pOp_eff (by kernel_rfl) (by kernel_rfl) (eff_prim (by kernel_rfl) (Field_eqn a0.F.a2 a1.F.a2 _ _))) ?_
    refine SimI.done (by kernel_rfl) ?_
    refine SimE.thenN ?_
    refine Sim.cond (!(Field.eqb a0.F.a2 a1.F.a2)) (by kernel_rfl) ?_ ?_
    · refine Sim.seq ?_
      refine Sim.region0 ?_
      refine SimI.run 7 [(38, .one (.ptr 6 1)), (37, .one (li .u8 (bitsI .or .u8 i9 (shlI .u8 2 2)))), (36, .one (li .u8 (shlI .u8 2 2))), (35, .one (li .i64 2)), (34, .one (li .u8 i9)), (33, .one (.ptr 6 1))] [(6, some (.cells [li .i64 a1.ID, li .u8 (bitsI .or .u8 i9 (shlI .u8 2 2)), li .i64 i2, li .i64 i3, li .i64 i6, ls s7, li .i64 i10, ls s11, li .i64 0, ls ByteArray.empty, li .i64 0, ls ByteArray.empty]))] (by kernel_rfl) ?_
      refine SimI.done (by kernel_rfl) ?_
      refine SimE.thenN ?_
      refine Sim.region0 ?_
      refine SimI.run 5 [(42, .one (.ptr 6 8)), (41, .one (.ptr 6 4)), (40, .agg [li .i64 a1.F.a2.N, ls a1.F.a2.Text]), (39, .one (li .i64 2))] [(6, some (.cells [li .i64 a1.ID, li .u8 (bitsI .or .u8 i9 (shlI .u8 2 2)), li .i64 i2, li .i64 i3, li .i64 i6, ls s7, li .i64 i10, ls s11, li .i64 a1.F.a2.N, ls a1.F.a2.Text, li .i64 0, ls ByteArray.empty]))] (by kernel_rfl) ?_
      refine SimI.done (by kernel_rfl) ?_
      refine SimE.blockN ?_
      refine SimE.thenN ?_
      refine Sim.region0 ?_
      refine SimI.run 2 [(23, .one (li .i64 3)), (43, .one (li .i64 3))] [] (by kernel_rfl) ?_
      refine SimI.done (by kernel_rfl) ?_
      refine SimE.loopN ?_
      refine SimL.pre (ts := [2, 4, 6, 22, 23]) (os := [2, 3, 4, 6, 8]) [(2, .one (.ptr 2 0)), (4, .one (.ptr 4 0)), (6, .one (.ptr 6 0)), (22, .agg [li .i64 a1.F.a0.N, ls a1.F.a0.Text, li .i64 a1.F.a1.N, ls a1.F.a1.Text, li .i64 a1.F.a2.N, ls a1.F.a2.Text, li .i64 a1.F.a3.N, ls a1.F.a3.Text]), (23, .one (li .i64 3))] ((2, some (.cells [li .i64 a0.ID, li .i64 a0.At.X, li .i64 a0.At.Y, li .i64 a0.F.a0.N, ls a0.F.a0.Text, li .i64 a0.F.a1.N, ls a0.F.a1.Text, li .i64 a0.F.a2.N, ls a0.F.a2.Text, li .i64 a0.F.a3.N, ls a0.F.a3.Text])) :: ((4, some (.cells [li .i64 0, li .u8 0, li .i64 0, li .i64 0, li .i64 0, ls ByteArray.empty, li .i64 0, ls ByteArray.empty, li .i64 0, ls ByteArray.empty, li .i64 0, ls ByteArray.empty])) :: ((6, some (.cells [li .i64 a1.ID, li .u8 (bitsI .or .u8 i9 (shlI .u8 2 2)), li .i64 i2, li .i64 i3, li .i64 i6, ls s7, li .i64 i10, ls s11, li .i64 a1.F.a2.N, ls a1.F.a2.Text, li .i64 0, ls ByteArray.empty])) :: []))) (by kernel_rfl) (by kernel_rfl) (by kernel_rfl) ?_
      exact F49_u16_ok n a0 a1 i2 i3 i6 s7 i10 s11 (bitsI .or .u8 i9 (shlI .u8 2 2)) a1.F.a2.N a1.F.a2.Text
    · refine Sim.skip ?_
      refine SimE.blockN ?_
      refine SimE.thenN ?_
      refine Sim.region0 ?_
      refine SimI.run 2 [(23, .one (li .i64 3)), (43, .one (li .i64 3))] [] (by kernel_rfl) ?_
      refine SimI.done (by kernel_rfl) ?_
      refine SimE.loopN ?_
      refine SimL.pre (ts := [2, 4, 6, 22, 23]) (os := [2, 3, 4, 6, 8]) [(2, .one (.ptr 2 0)), (4, .one (.ptr 4 0)), (6, .one (.ptr 6 0)), (22, .agg [li .i64 a1.F.a0.N, ls a1.F.a0.Text, li .i64 a1.F.a1.N, ls a1.F.a1.Text, li .i64 a1.F.a2.N, ls a1.F.a2.Text, li .i64 a1.F.a3.N, ls a1.F.a3.Text]), (23, .one (li .i64 3))] ((2, some (.cells [li .i64 a0.ID, li .i64 a0.At.X, li .i64 a0.At.Y, li .i64 a0.F.a0.N, ls a0.F.a0.Text, li .i64 a0.F.a1.N, ls a0.F.a1.Text, li .i64 a0.F.a2.N, ls a0.F.a2.Text, li .i64 a0.F.a3.N, ls a0.F.a3.Text])) :: ((4, some (.cells [li .i64 0, li .u8 0, li .i64 0, li .i64 0, li .i64 0, ls ByteArray.empty, li .i64 0, ls ByteArray.empty, li .i64 0, ls ByteArray.empty, li .i64 0, ls ByteArray.empty])) :: ((6, some (.cells [li .i64 a1.ID, li .u8 i9, li .i64 i2, li .i64 i3, li .i64 i6, ls s7, li .i64 i10, ls s11, li .i64 0, ls ByteArray.empty, li .i64 0, ls ByteArray.empty])) :: []))) (by kernel_rfl) (by kernel_rfl) (by kernel_rfl) ?_
      exact F49_u16_ok n a0 a1 i2 i3 i6 s7 i10 s11 i9 0 ByteArray.empty

def F49_u8 (n : Nat) (a0 : Thing) (a1 : Thing) (i2 : Int) (i3 : Int) (i5 : Int) (i6 : Int) (s7 : ByteArray) : Option (Delta × Bool) :=
    if !(Field.eqb a0.F.a1 a1.F.a1) then
      F49_u12 n a0 a1 i2 i3 i6 s7 (bitsI .or .u8 i5 (shlI .u8 2 1)) a1.F.a1.N a1.F.a1.Text
    else
      F49_u12 n a0 a1 i2 i3 i6 s7 i5 0 ByteArray.empty
theorem F49_u8_ok (n : Nat) (a0 : Thing) (a1 : Thing) (i2 : Int) (i3 : Int) (i5 : Int) (i6 : Int) (s7 : ByteArray) : SimL Try.prog D (n + 8) (n + 7) pc49_c26 [(2, .one (.ptr 2 0)), (4, .one (.ptr 4 0)), (6, .one (.ptr 6 0)), (22, .agg [li .i64 a1.F.a0.N, ls a1.F.a0.Text, li .i64 a1.F.a1.N, ls a1.F.a1.Text, li .i64 a1.F.a2.N, ls a1.F.a2.Text, li .i64 a1.F.a3.N, ls a1.F.a3.Text]), (23, .one (li .i64 1))] ((2, some (.cells [li .i64 a0.ID, li .i64 a0.At.X, li .i64 a0.At.Y, li .i64 a0.F.a0.N, ls a0.F.a0.Text, li .i64 a0.F.a1.N, ls a0.F.a1.Text, li .i64 a0.F.a2.N, ls a0.F.a2.Text, li .i64 a0.F.a3.N, ls a0.F.a3.Text])) :: ((4, some (.cells [li .i64 0, li .u8 0, li .i64 0, li .i64 0, li .i64 0, ls ByteArray.empty, li .i64 0, ls ByteArray.empty, li .i64 0, ls ByteArray.empty, li .i64 0, ls ByteArray.empty])) :: ((6, some (.cells [li .i64 a1.ID, li .u8 i5, li .i64 i2, li .i64 i3, li .i64 i6, ls s7, li .i64 0, ls ByteArray.empty, li .i64 0, ls ByteArray.empty, li .i64 0, ls ByteArray.empty])) :: []))) (F49_u8 n a0 a1 i2 i3 i5 i6 s7) (QB 0 (QT Try.prog D (n + 8) pc49_c32 (QF pc49_r 0 F49_e))) := by
    unfold F49_u8
    refine SimL.succ ?_
    refine Sim.seq ?_
    refine Sim.region [(2, .one (.ptr 2 0)), (4, .one (.ptr 4 0)), (6, .one (.ptr 6 0)), (22, .agg [li .i64 a1.F.a0.N, ls a1.F.a0.Text, li .i64 a1.F.a1.N, ls a1.F.a1.Text, li .i64 a1.F.a2.N, ls a1.F.a2.Text, li .i64 a1.F.a3.N, ls a1.F.a3.Text]), (23, .one (li .i64 1))] ((2, some (.cells [li .i64 a0.ID, li .i64 a0.At.X, li .i64 a0.At.Y, li .i64 a0.F.a0.N, ls a0.F.a0.Text, li .i64 a0.F.a1.N, ls a0.F.a1.Text, li .i64 a0.F.a2.N, ls a0.F.a2.Text, li .i64 a0.F.a3.N, ls a0.F.a3.Text])) :: ((4, some (.cells [li .i64 0, li .u8 0, li .i64 0, li .i64 0, li .i64 0, ls ByteArray.empty, li .i64 0, ls ByteArray.empty, li .i64 0, ls ByteArray.empty, li .i64 0, ls ByteArray.empty])) :: ((6, some (.cells [li .i64 a1.ID, li .u8 i5, li .i64 i2, li .i64 i3, li .i64 i6, ls s7, li .i64 0, ls ByteArray.empty, li .i64 0, ls ByteArray.empty, li .i64 0, ls ByteArray.empty])) :: []))) (by kernel_rfl) ?_
    refine SimI.run 1 [(24, .one (lb true))] [] (by kernel_rfl) ?_
    refine SimI.done (by kernel_rfl) ?_
    refine SimE.thenN ?_
    refine Sim.seq ?_
    refine Sim.condT (by kernel_rfl) ?_
    refine Sim.skip ?_
    refine SimE.thenN ?_
    refine Sim.seq ?_
    refine Sim.block ?_
    refine Sim.seq ?_
    refine Sim.region0 ?_
    refine SimI.run 5 [(7, .one (li .i64 1)), (8, .one (.ptr 8 0)), (26, .agg [li .i64 a1.F.a1.N, ls a1.F.a1.Text]), (25, .one (li .i64 1))] [(8, some (.cells [li .i64 a1.F.a1.N, ls a1.F.a1.Text])), (8, some (.cells [li .i64 0, ls ByteArray.empty]))] (by kernel_rfl) ?_
    refine SimI.done (by kernel_rfl) ?_
    refine SimE.thenN ?_
    refine Sim.seq ?_
    refine Sim.region0 ?_
    refine SimI.run 5 [(31, .agg [li .i64 a1.F.a1.N, ls a1.F.a1.Text]), (30, .agg [li .i64 a0.F.a1.N, ls a0.F.a1.Text]), (29, .one (.ptr 2 5)), (28, .one (.ptr 2 3)), (27, .one (li .i64 1))] [] (by kernel_rfl) ?_
    refine SimI.step { dst := some 32, op := POp.prim (Prim.bin BinOp.neq 36 false false) [Operand.tmp 30, Operand.tmp 31], guard := none, hints := [(30, Hint.imm), (31, Hint.imm)] } [(32, .one (lb (!(Field.eqb a0.F.a1 a1.F.a1))))] [] (by kernel_rfl) (pOp_eff (by kernel_rfl) (by kernel_rfl) (eff_prim (by kernel_rfl) (Field_eqn a0.F.a1 a1.F.a1 _ _))) ?_
    refine SimI.done (by kernel_rfl) ?_
    refine SimE.thenN ?_
    refine Sim.cond (!(Field.eqb a0.F.a1 a1.F.a1)) (by kernel_rfl) ?_ ?_
    · refine Sim.seq ?_
      refine Sim.region0 ?_
      refine SimI.run 7 [(38, .one (.ptr 6 1)), (37, .one (li .u8 (bitsI .or .u8 i5 (shlI .u8 2 1)))), (36, .one (li .u8 (shlI .u8 2 1))), (35, .one (li .i64 1)), (34, .one (li .u8 i5)), (33, .one (.ptr 6 1))] [(6, some (.cells [li .i64 a1.ID, li .u8 (bitsI .or .u8 i5 (shlI .u8 2 1)), li .i64 i2, li .i64 i3, li .i64 i6, ls s7, li .i64 0, ls ByteArray.empty, li .i64 0, ls ByteArray.empty, li .i64 0, ls ByteArray.empty]))] (by kernel_rfl) ?_
      refine SimI.done (by kernel_rfl) ?_
      refine SimE.thenN ?_
      refine Sim.region0 ?_
      refine SimI.run 5 [(42, .one (.ptr 6 6)), (41, .one (.ptr 6 4)), (40, .agg [li .i64 a1.F.a1.N, ls a1.F.a1.Text]), (39, .one (li .i64 1))] [(6, some (.cells [li .i64 a1.ID, li .u8 (bitsI .or .u8 i5 (shlI .u8 2 1)), li .i64 i2, li .i64 i3, li .i64 i6, ls s7, li .i64 a1.F.a1.N, ls a1.F.a1.Text, li .i64 0, ls ByteArray.empty, li .i64 0, ls ByteArray.empty]))] (by kernel_rfl) ?_
      refine SimI.done (by kernel_rfl) ?_
      refine SimE.blockN ?_
      refine SimE.thenN ?_
      refine Sim.region0 ?_
      refine SimI.run 2 [(23, .one (li .i64 2)), (43, .one (li .i64 2))] [] (by kernel_rfl) ?_
      refine SimI.done (by kernel_rfl) ?_
      refine SimE.loopN ?_
      refine SimL.pre (ts := [2, 4, 6, 22, 23]) (os := [2, 3, 4, 6, 8]) [(2, .one (.ptr 2 0)), (4, .one (.ptr 4 0)), (6, .one (.ptr 6 0)), (22, .agg [li .i64 a1.F.a0.N, ls a1.F.a0.Text, li .i64 a1.F.a1.N, ls a1.F.a1.Text, li .i64 a1.F.a2.N, ls a1.F.a2.Text, li .i64 a1.F.a3.N, ls a1.F.a3.Text]), (23, .one (li .i64 2))] ((2, some (.cells [li .i64 a0.ID, li .i64 a0.At.X, li .i64 a0.At.Y, li .i64 a0.F.a0.N, ls a0.F.a0.Text, li .i64 a0.F.a1.N, ls a0.F.a1.Text, li .i64 a0.F.a2.N, ls a0.F.a2.Text, li .i64 a0.F.a3.N, ls a0.F.a3.Text])) :: ((4, some (.cells [li .i64 0, li .u8 0, li .i64 0, li .i64 0, li .i64 0, ls ByteArray.empty, li .i64 0, ls ByteArray.empty, li .i64 0, ls ByteArray.empty, li .i64 0, ls ByteArray.empty])) :: ((6, some (.cells [li .i64 a1.ID, li .u8 (bitsI .or .u8 i5 (shlI .u8 2 1)), li .i64 i2, li .i64 i3, li .i64 i6, ls s7, li .i64 a1.F.a1.N, ls a1.F.a1.Text, li .i64 0, ls ByteArray.empty, li .i64 0, ls ByteArray.empty])) :: []))) (by kernel_rfl) (by kernel_rfl) (by kernel_rfl) ?_
      exact F49_u12_ok n a0 a1 i2 i3 i6 s7 (bitsI .or .u8 i5 (shlI .u8 2 1)) a1.F.a1.N a1.F.a1.Text
    · refine Sim.skip ?_
      refine SimE.blockN ?_
      refine SimE.thenN ?_
      refine Sim.region0 ?_
      refine SimI.run 2 [(23, .one (li .i64 2)), (43, .one (li .i64 2))] [] (by kernel_rfl) ?_
      refine SimI.done (by kernel_rfl) ?_
      refine SimE.loopN ?_
      refine SimL.pre (ts := [2, 4, 6, 22, 23]) (os := [2, 3, 4, 6, 8]) [(2, .one (.ptr 2 0)), (4, .one (.ptr 4 0)), (6, .one (.ptr 6 0)), (22, .agg [li .i64 a1.F.a0.N, ls a1.F.a0.Text, li .i64 a1.F.a1.N, ls a1.F.a1.Text, li .i64 a1.F.a2.N, ls a1.F.a2.Text, li .i64 a1.F.a3.N, ls a1.F.a3.Text]), (23, .one (li .i64 2))] ((2, some (.cells [li .i64 a0.ID, li .i64 a0.At.X, li .i64 a0.At.Y, li .i64 a0.F.a0.N, ls a0.F.a0.Text, li .i64 a0.F.a1.N, ls a0.F.a1.Text, li .i64 a0.F.a2.N, ls a0.F.a2.Text, li .i64 a0.F.a3.N, ls a0.F.a3.Text])) :: ((4, some (.cells [li .i64 0, li .u8 0, li .i64 0, li .i64 0, li .i64 0, ls ByteArray.empty, li .i64 0, ls ByteArray.empty, li .i64 0, ls ByteArray.empty, li .i64 0, ls ByteArray.empty])) :: ((6, some (.cells [li .i64 a1.ID, li .u8 i5, li .i64 i2, li .i64 i3, li .i64 i6, ls s7, li .i64 0, ls ByteArray.empty, li .i64 0, ls ByteArray.empty, li .i64 0, ls ByteArray.empty])) :: []))) (by kernel_rfl) (by kernel_rfl) (by kernel_rfl) ?_
      exact F49_u12_ok n a0 a1 i2 i3 i6 s7 i5 0 ByteArray.empty

def F49_j4 (n : Nat) (a0 : Thing) (a1 : Thing) (i1 : Int) (i2 : Int) (i3 : Int) : Option (Delta × Bool) :=
    if !(Field.eqb a0.F.a0 a1.F.a0) then
      F49_u8 n a0 a1 i2 i3 (bitsI .or .u8 i1 (shlI .u8 2 0)) a1.F.a0.N a1.F.a0.Text
    else
      F49_u8 n a0 a1 i2 i3 i1 0 ByteArray.empty
theorem F49_j4_ok (n : Nat) (a0 : Thing) (a1 : Thing) (i1 : Int) (i2 : Int) (i3 : Int) : Sim Try.prog D (n + 8) pc49_c33 [(2, .one (.ptr 2 0)), (3, .one (.ptr 3 0)), (4, .one (.ptr 4 0)), (6, .one (.ptr 6 0))] ((2, some (.cells [li .i64 a0.ID, li .i64 a0.At.X, li .i64 a0.At.Y, li .i64 a0.F.a0.N, ls a0.F.a0.Text, li .i64 a0.F.a1.N, ls a0.F.a1.Text, li .i64 a0.F.a2.N, ls a0.F.a2.Text, li .i64 a0.F.a3.N, ls a0.F.a3.Text])) :: ((3, some (.cells [li .i64 a1.ID, li .i64 a1.At.X, li .i64 a1.At.Y, li .i64 a1.F.a0.N, ls a1.F.a0.Text, li .i64 a1.F.a1.N, ls a1.F.a1.Text, li .i64 a1.F.a2.N, ls a1.F.a2.Text, li .i64 a1.F.a3.N, ls a1.F.a3.Text])) :: ((4, some (.cells [li .i64 0, li .u8 0, li .i64 0, li .i64 0, li .i64 0, ls ByteArray.empty, li .i64 0, ls ByteArray.empty, li .i64 0, ls ByteArray.empty, li .i64 0, ls ByteArray.empty])) :: ((6, some (.cells [li .i64 a1.ID, li .u8 i1, li .i64 i2, li .i64 i3, li .i64 0, ls ByteArray.empty, li .i64 0, ls ByteArray.empty, li .i64 0, ls ByteArray.empty, li .i64 0, ls ByteArray.empty])) :: [])))) (F49_j4 n a0 a1 i1 i2 i3) (QF pc49_r 0 F49_e) := by
    unfold F49_j4
    refine Sim.seq ?_
    refine Sim.seq ?_
    refine Sim.region [(2, .one (.ptr 2 0)), (3, .one (.ptr 3 0)), (4, .one (.ptr 4 0)), (6, .one (.ptr 6 0))] ((2, some (.cells [li .i64 a0.ID, li .i64 a0.At.X, li .i64 a0.At.Y, li .i64 a0.F.a0.N, ls a0.F.a0.Text, li .i64 a0.F.a1.N, ls a0.F.a1.Text, li .i64 a0.F.a2.N, ls a0.F.a2.Text, li .i64 a0.F.a3.N, ls a0.F.a3.Text])) :: ((3, some (.cells [li .i64 a1.ID, li .i64 a1.At.X, li .i64 a1.At.Y, li .i64 a1.F.a0.N, ls a1.F.a0.Text, li .i64 a1.F.a1.N, ls a1.F.a1.Text, li .i64 a1.F.a2.N, ls a1.F.a2.Text, li .i64 a1.F.a3.N, ls a1.F.a3.Text])) :: ((4, some (.cells [li .i64 0, li .u8 0, li .i64 0, li .i64 0, li .i64 0, ls ByteArray.empty, li .i64 0, ls ByteArray.empty, li .i64 0, ls ByteArray.empty, li .i64 0, ls ByteArray.empty])) :: ((6, some (.cells [li .i64 a1.ID, li .u8 i1, li .i64 i2, li .i64 i3, li .i64 0, ls ByteArray.empty, li .i64 0, ls ByteArray.empty, li .i64 0, ls ByteArray.empty, li .i64 0, ls ByteArray.empty])) :: [])))) (by kernel_rfl) ?_
    refine SimI.run 3 [(23, .one (li .i64 0)), (22, .agg [li .i64 a1.F.a0.N, ls a1.F.a0.Text, li .i64 a1.F.a1.N, ls a1.F.a1.Text, li .i64 a1.F.a2.N, ls a1.F.a2.Text, li .i64 a1.F.a3.N, ls a1.F.a3.Text]), (21, .one (.ptr 3 3))] [] (by kernel_rfl) ?_
    refine SimI.done (by kernel_rfl) ?_
    refine SimE.thenN ?_
    refine Sim.block ?_
    refine Sim.loop ?_
    refine SimL.succ ?_
    refine Sim.seq ?_
    refine Sim.region [(2, .one (.ptr 2 0)), (4, .one (.ptr 4 0)), (6, .one (.ptr 6 0)), (22, .agg [li .i64 a1.F.a0.N, ls a1.F.a0.Text, li .i64 a1.F.a1.N, ls a1.F.a1.Text, li .i64 a1.F.a2.N, ls a1.F.a2.Text, li .i64 a1.F.a3.N, ls a1.F.a3.Text]), (23, .one (li .i64 0))] ((2, some (.cells [li .i64 a0.ID, li .i64 a0.At.X, li .i64 a0.At.Y, li .i64 a0.F.a0.N, ls a0.F.a0.Text, li .i64 a0.F.a1.N, ls a0.F.a1.Text, li .i64 a0.F.a2.N, ls a0.F.a2.Text, li .i64 a0.F.a3.N, ls a0.F.a3.Text])) :: ((4, some (.cells [li .i64 0, li .u8 0, li .i64 0, li .i64 0, li .i64 0, ls ByteArray.empty, li .i64 0, ls ByteArray.empty, li .i64 0, ls ByteArray.empty, li .i64 0, ls ByteArray.empty])) :: ((6, some (.cells [li .i64 a1.ID, li .u8 i1, li .i64 i2, li .i64 i3, li .i64 0, ls ByteArray.empty, li .i64 0, ls ByteArray.empty, li .i64 0, ls ByteArray.empty, li .i64 0, ls ByteArray.empty])) :: []))) (by kernel_rfl) ?_
    refine SimI.run 1 [(24, .one (lb true))] [] (by kernel_rfl) ?_
    refine SimI.done (by kernel_rfl) ?_
    refine SimE.thenN ?_
    refine Sim.seq ?_
    refine Sim.condT (by kernel_rfl) ?_
    refine Sim.skip ?_
    refine SimE.thenN ?_
    refine Sim.seq ?_
    refine Sim.block ?_
    refine Sim.seq ?_
    refine Sim.region0 ?_
    refine SimI.run 5 [(7, .one (li .i64 0)), (8, .one (.ptr 8 0)), (26, .agg [li .i64 a1.F.a0.N, ls a1.F.a0.Text]), (25, .one (li .i64 0))] [(8, some (.cells [li .i64 a1.F.a0.N, ls a1.F.a0.Text])), (8, some (.cells [li .i64 0, ls ByteArray.empty]))] (by kernel_rfl) ?_
    refine SimI.done (by kernel_rfl) ?_
    refine SimE.thenN ?_
    refine Sim.seq ?_
    refine Sim.region0 ?_
    refine SimI.run 5 [(31, .agg [li .i64 a1.F.a0.N, ls a1.F.a0.Text]), (30, .agg [li .i64 a0.F.a0.N, ls a0.F.a0.Text]), (29, .one (.ptr 2 3)), (28, .one (.ptr 2 3)), (27, .one (li .i64 0))] [] (by kernel_rfl) ?_
    refine SimI.step { dst := some 32, op := POp.prim (Prim.bin BinOp.neq 36 false false) [Operand.tmp 30, Operand.tmp 31], guard := none, hints := [(30, Hint.imm), (31, Hint.imm)] } [(32, .one (lb (!(Field.eqb a0.F.a0 a1.F.a0))))] [] (by kernel_rfl) (pOp_eff (by kernel_rfl) (by kernel_rfl) (eff_prim (by kernel_rfl) (Field_eqn a0.F.a0 a1.F.a0 _ _))) ?_
    refine SimI.done (by kernel_rfl) ?_
    refine SimE.thenN ?_
    refine Sim.cond (!(Field.eqb a0.F.a0 a1.F.a0)) (by kernel_rfl) ?_ ?_
    · refine Sim.seq ?_
      refine Sim.region0 ?_
      refine SimI.run 7 [(38, .one (.ptr 6 1)), (37, .one (li .u8 (bitsI .or .u8 i1 (shlI .u8 2 0)))), (36, .one (li .u8 (shlI .u8 2 0))), (35, .one (li .i64 0)), (34, .one (li .u8 i1)), (33, .one (.ptr 6 1))] [(6, some (.cells [li .i64 a1.ID, li .u8 (bitsI .or .u8 i1 (shlI .u8 2 0)), li .i64 i2, li .i64 i3, li .i64 0, ls ByteArray.empty, li .i64 0, ls ByteArray.empty, li .i64 0, ls ByteArray.empty, li .i64 0, ls ByteArray.empty]))] (by kernel_rfl) ?_
      refine SimI.done (by kernel_rfl) ?_
      refine SimE.thenN ?_
      refine Sim.region0 ?_
      refine SimI.run 5 [(42, .one (.ptr 6 4)), (41, .one (.ptr 6 4)), (40, .agg [li .i64 a1.F.a0.N, ls a1.F.a0.Text]), (39, .one (li .i64 0))] [(6, some (.cells [li .i64 a1.ID, li .u8 (bitsI .or .u8 i1 (shlI .u8 2 0)), li .i64 i2, li .i64 i3, li .i64 a1.F.a0.N, ls a1.F.a0.Text, li .i64 0, ls ByteArray.empty, li .i64 0, ls ByteArray.empty, li .i64 0, ls ByteArray.empty]))] (by kernel_rfl) ?_
      refine SimI.done (by kernel_rfl) ?_
      refine SimE.blockN ?_
      refine SimE.thenN ?_
      refine Sim.region0 ?_
      refine SimI.run 2 [(23, .one (li .i64 1)), (43, .one (li .i64 1))] [] (by kernel_rfl) ?_
      refine SimI.done (by kernel_rfl) ?_
      refine SimE.loopN ?_
      refine SimL.pre (ts := [2, 4, 6, 22, 23]) (os := [2, 3, 4, 6, 8]) [(2, .one (.ptr 2 0)), (4, .one (.ptr 4 0)), (6, .one (.ptr 6 0)), (22, .agg [li .i64 a1.F.a0.N, ls a1.F.a0.Text, li .i64 a1.F.a1.N, ls a1.F.a1.Text, li .i64 a1.F.a2.N, ls a1.F.a2.Text, li .i64 a1.F.a3.N, ls a1.F.a3.Text]), (23, .one (li .i64 1))] ((2, some (.cells [li .i64 a0.ID, li .i64 a0.At.X, li .i64 a0.At.Y, li .i64 a0.F.a0.N, ls a0.F.a0.Text, li .i64 a0.F.a1.N, ls a0.F.a1.Text, li .i64 a0.F.a2.N, ls a0.F.a2.Text, li .i64 a0.F.a3.N, ls a0.F.a3.Text])) :: ((4, some (.cells [li .i64 0, li .u8 0, li .i64 0, li .i64 0, li .i64 0, ls ByteArray.empty, li .i64 0, ls ByteArray.empty, li .i64 0, ls ByteArray.empty, li .i64 0, ls ByteArray.empty])) :: ((6, some (.cells [li .i64 a1.ID, li .u8 (bitsI .or .u8 i1 (shlI .u8 2 0)), li .i64 i2, li .i64 i3, li .i64 a1.F.a0.N, ls a1.F.a0.Text, li .i64 0, ls ByteArray.empty, li .i64 0, ls ByteArray.empty, li .i64 0, ls ByteArray.empty])) :: []))) (by kernel_rfl) (by kernel_rfl) (by kernel_rfl) ?_
      exact F49_u8_ok n a0 a1 i2 i3 (bitsI .or .u8 i1 (shlI .u8 2 0)) a1.F.a0.N a1.F.a0.Text
    · refine Sim.skip ?_
      refine SimE.blockN ?_
      refine SimE.thenN ?_
      refine Sim.region0 ?_
      refine SimI.run 2 [(23, .one (li .i64 1)), (43, .one (li .i64 1))] [] (by kernel_rfl) ?_
      refine SimI.done (by kernel_rfl) ?_
      refine SimE.loopN ?_
      refine SimL.pre (ts := [2, 4, 6, 22, 23]) (os := [2, 3, 4, 6, 8]) [(2, .one (.ptr 2 0)), (4, .one (.ptr 4 0)), (6, .one (.ptr 6 0)), (22, .agg [li .i64 a1.F.a0.N, ls a1.F.a0.Text, li .i64 a1.F.a1.N, ls a1.F.a1.Text, li .i64 a1.F.a2.N, ls a1.F.a2.Text, li .i64 a1.F.a3.N, ls a1.F.a3.Text]), (23, .one (li .i64 1))] ((2, some (.cells [li .i64 a0.ID, li .i64 a0.At.X, li .i64 a0.At.Y, li .i64 a0.F.a0.N, ls a0.F.a0.Text, li .i64 a0.F.a1.N, ls a0.F.a1.Text, li .i64 a0.F.a2.N, ls a0.F.a2.Text, li .i64 a0.F.a3.N, ls a0.F.a3.Text])) :: ((4, some (.cells [li .i64 0, li .u8 0, li .i64 0, li .i64 0, li .i64 0, ls ByteArray.empty, li .i64 0, ls ByteArray.empty, li .i64 0, ls ByteArray.empty, li .i64 0, ls ByteArray.empty])) :: ((6, some (.cells [li .i64 a1.ID, li .u8 i1, li .i64 i2, li .i64 i3, li .i64 0, ls ByteArray.empty, li .i64 0, ls ByteArray.empty, li .i64 0, ls ByteArray.empty, li .i64 0, ls ByteArray.empty])) :: []))) (by kernel_rfl) (by kernel_rfl) (by kernel_rfl) ?_
      exact F49_u8_ok n a0 a1 i2 i3 i1 0 ByteArray.empty

def F49 (n : Nat) (a0 : Thing) (a1 : Thing) : Option (Delta × Bool) :=
  if !(Point.eqb a0.At a1.At) then
    F49_j4 n a0 a1 1 a1.At.X a1.At.Y
  else
    F49_j4 n a0 a1 0 0 0
theorem F49_ok (n : Nat) (a0 : Thing) (a1 : Thing) : ∀ r, F49 n a0 a1 = some r → D 49 [.agg [li .i64 a0.ID, li .i64 a0.At.X, li .i64 a0.At.Y, li .i64 a0.F.a0.N, ls a0.F.a0.Text, li .i64 a0.F.a1.N, ls a0.F.a1.Text, li .i64 a0.F.a2.N, ls a0.F.a2.Text, li .i64 a0.F.a3.N, ls a0.F.a3.Text], .agg [li .i64 a1.ID, li .i64 a1.At.X, li .i64 a1.At.Y, li .i64 a1.F.a0.N, ls a1.F.a0.Text, li .i64 a1.F.a1.N, ls a1.F.a1.Text, li .i64 a1.F.a2.N, ls a1.F.a2.Text, li .i64 a1.F.a3.N, ls a1.F.a3.Text]] [] = some (F49_e r) := by
  refine fn_to (D := D) (n := n + 8) (nt := 48) (rs := pc49_r) (c := pc49_c36) (L := [(0, .agg [li .i64 a0.ID, li .i64 a0.At.X, li .i64 a0.At.Y, li .i64 a0.F.a0.N, ls a0.F.a0.Text, li .i64 a0.F.a1.N, ls a0.F.a1.Text, li .i64 a0.F.a2.N, ls a0.F.a2.Text, li .i64 a0.F.a3.N, ls a0.F.a3.Text]), (1, .agg [li .i64 a1.ID, li .i64 a1.At.X, li .i64 a1.At.Y, li .i64 a1.F.a0.N, ls a1.F.a0.Text, li .i64 a1.F.a1.N, ls a1.F.a1.Text, li .i64 a1.F.a2.N, ls a1.F.a2.Text, li .i64 a1.F.a3.N, ls a1.F.a3.Text])]) (M := []) (k := 0) rfl rfl rfl rfl rfl rfl ?_
  unfold F49
  refine Sim.seq ?_
  refine Sim.region0 ?_
  refine SimI.run 4 [(5, .one (lb false)), (4, .one (.ptr 4 0)), (3, .one (.ptr 3 0)), (2, .one (.ptr 2 0))] [(4, some (.cells [li .i64 0, li .u8 0, li .i64 0, li .i64 0, li .i64 0, ls ByteArray.empty, li .i64 0, ls ByteArray.empty, li .i64 0, ls ByteArray.empty, li .i64 0, ls ByteArray.empty])), (3, some (.cells [li .i64 a1.ID, li .i64 a1.At.X, li .i64 a1.At.Y, li .i64 a1.F.a0.N, ls a1.F.a0.Text, li .i64 a1.F.a1.N, ls a1.F.a1.Text, li .i64 a1.F.a2.N, ls a1.F.a2.Text, li .i64 a1.F.a3.N, ls a1.F.a3.Text])), (2, some (.cells [li .i64 a0.ID, li .i64 a0.At.X, li .i64 a0.At.Y, li .i64 a0.F.a0.N, ls a0.F.a0.Text, li .i64 a0.F.a1.N, ls a0.F.a1.Text, li .i64 a0.F.a2.N, ls a0.F.a2.Text, li .i64 a0.F.a3.N, ls a0.F.a3.Text]))] (by kernel_rfl) ?_
  refine SimI.done (by kernel_rfl) ?_
  refine SimE.thenN ?_
  refine Sim.seq ?_
  refine Sim.region0 ?_
  refine SimI.run 5 [(6, .one (.ptr 6 0)), (11, .agg [li .i64 a1.ID, li .u8 0, li .i64 0, li .i64 0, li .i64 0, ls ByteArray.empty, li .i64 0, ls ByteArray.empty, li .i64 0, ls ByteArray.empty, li .i64 0, ls ByteArray.empty]), (10, .one (li .i64 a1.ID)), (9, .one (.ptr 3 0))] [(6, some (.cells [li .i64 a1.ID, li .u8 0, li .i64 0, li .i64 0, li .i64 0, ls ByteArray.empty, li .i64 0, ls ByteArray.empty, li .i64 0, ls ByteArray.empty, li .i64 0, ls ByteArray.empty])), (6, some (.cells [li .i64 0, li .u8 0, li .i64 0, li .i64 0, li .i64 0, ls ByteArray.empty, li .i64 0, ls ByteArray.empty, li .i64 0, ls ByteArray.empty, li .i64 0, ls ByteArray.empty]))] (by kernel_rfl) ?_
  refine SimI.done (by kernel_rfl) ?_
  refine SimE.thenN ?_
  refine Sim.seq ?_
  refine Sim.seq ?_
  refine Sim.region0 ?_
  refine SimI.run 4 [(15, .agg [li .i64 a1.At.X, li .i64 a1.At.Y]), (14, .one (.ptr 3 1)), (13, .agg [li .i64 a0.At.X, li .i64 a0.At.Y]), (12, .one (.ptr 2 1))] [] (by kernel_rfl) ?_
  refine SimI.step { dst := some 16, op := POp.prim (Prim.bin BinOp.neq 34 false false) [Operand.tmp 13, Operand.tmp 15], guard := none, hints := [] } [(16, .one (lb (!(Point.eqb a0.At a1.At))))] [] (by kernel_rfl) (pOp_eff (by kernel_rfl) (by kernel_rfl) (eff_prim (by kernel_rfl) (Point_eqn a0.At a1.At _ _))) ?_
  refine SimI.done (by kernel_rfl) ?_
  refine SimE.thenN ?_
  refine Sim.cond (!(Point.eqb a0.At a1.At)) (by kernel_rfl) ?_ ?_
  · refine Sim.region0 ?_
    refine SimI.run 6 [(20, .one (.ptr 6 2)), (19, .one (.ptr 6 1)), (18, .agg [li .i64 a1.At.X, li .i64 a1.At.Y]), (17, .one (.ptr 3 1))] [(6, some (.cells [li .i64 a1.ID, li .u8 1, li .i64 a1.At.X, li .i64 a1.At.Y, li .i64 0, ls ByteArray.empty, li .i64 0, ls ByteArray.empty, li .i64 0, ls ByteArray.empty, li .i64 0, ls ByteArray.empty])), (6, some (.cells [li .i64 a1.ID, li .u8 1, li .i64 0, li .i64 0, li .i64 0, ls ByteArray.empty, li .i64 0, ls ByteArray.empty, li .i64 0, ls ByteArray.empty, li .i64 0, ls ByteArray.empty]))] (by kernel_rfl) ?_
    refine SimI.done (by kernel_rfl) ?_
    refine SimE.thenN ?_
    refine Sim.pre (ts := [2, 3, 4, 6]) (os := [2, 3, 4, 6]) [(2, .one (.ptr 2 0)), (3, .one (.ptr 3 0)), (4, .one (.ptr 4 0)), (6, .one (.ptr 6 0))] ((2, some (.cells [li .i64 a0.ID, li .i64 a0.At.X, li .i64 a0.At.Y, li .i64 a0.F.a0.N, ls a0.F.a0.Text, li .i64 a0.F.a1.N, ls a0.F.a1.Text, li .i64 a0.F.a2.N, ls a0.F.a2.Text, li .i64 a0.F.a3.N, ls a0.F.a3.Text])) :: ((3, some (.cells [li .i64 a1.ID, li .i64 a1.At.X, li .i64 a1.At.Y, li .i64 a1.F.a0.N, ls a1.F.a0.Text, li .i64 a1.F.a1.N, ls a1.F.a1.Text, li .i64 a1.F.a2.N, ls a1.F.a2.Text, li .i64 a1.F.a3.N, ls a1.F.a3.Text])) :: ((4, some (.cells [li .i64 0, li .u8 0, li .i64 0, li .i64 0, li .i64 0, ls ByteArray.empty, li .i64 0, ls ByteArray.empty, li .i64 0, ls ByteArray.empty, li .i64 0, ls ByteArray.empty])) :: ((6, some (.cells [li .i64 a1.ID, li .u8 1, li .i64 a1.At.X, li .i64 a1.At.Y, li .i64 0, ls ByteArray.empty, li .i64 0, ls ByteArray.empty, li .i64 0, ls ByteArray.empty, li .i64 0, ls ByteArray.empty])) :: [])))) (by kernel_rfl) (by kernel_rfl) (by kernel_rfl) ?_
    exact F49_j4_ok n a0 a1 1 a1.At.X a1.At.Y
  · refine Sim.skip ?_
    refine SimE.thenN ?_
    refine Sim.pre (ts := [2, 3, 4, 6]) (os := [2, 3, 4, 6]) [(2, .one (.ptr 2 0)), (3, .one (.ptr 3 0)), (4, .one (.ptr 4 0)), (6, .one (.ptr 6 0))] ((2, some (.cells [li .i64 a0.ID, li .i64 a0.At.X, li .i64 a0.At.Y, li .i64 a0.F.a0.N, ls a0.F.a0.Text, li .i64 a0.F.a1.N, ls a0.F.a1.Text, li .i64 a0.F.a2.N, ls a0.F.a2.Text, li .i64 a0.F.a3.N, ls a0.F.a3.Text])) :: ((3, some (.cells [li .i64 a1.ID, li .i64 a1.At.X, li .i64 a1.At.Y, li .i64 a1.F.a0.N, ls a1.F.a0.Text, li .i64 a1.F.a1.N, ls a1.F.a1.Text, li .i64 a1.F.a2.N, ls a1.F.a2.Text, li .i64 a1.F.a3.N, ls a1.F.a3.Text])) :: ((4, some (.cells [li .i64 0, li .u8 0, li .i64 0, li .i64 0, li .i64 0, ls ByteArray.empty, li .i64 0, ls ByteArray.empty, li .i64 0, ls ByteArray.empty, li .i64 0, ls ByteArray.empty])) :: ((6, some (.cells [li .i64 a1.ID, li .u8 0, li .i64 0, li .i64 0, li .i64 0, ls ByteArray.empty, li .i64 0, ls ByteArray.empty, li .i64 0, ls ByteArray.empty, li .i64 0, ls ByteArray.empty])) :: [])))) (by kernel_rfl) (by kernel_rfl) (by kernel_rfl) ?_
    exact F49_j4_ok n a0 a1 0 0 0


-- 18: vedette/diff.Of
def F18_e : (List Event) → PV × List (List Lf) := fun r => (.one (vw Event.cod r), [])
def F18_j23 (n : Nat) (l11 : (List Thing)) (l12 : (List Thing)) (rec_l15 : (List Thing) → (List Thing) → (List Event) → Option (List Event)) (l21 : (List Event)) : Option (List Event) :=
    (ix l12 0).bind fun (x24 : Thing) =>
    (ix l12 0).bind fun (x25 : Thing) =>
    if ((l21).length + 1) * 264 ≤ maxCells ∧ (l21).length + 1 ≤ maxCells then
      if 0 ≤ (1 : Int) ∧ (1 : Int) ≤ ((l12).length : Int) ∧ ((l12).length : Int) ≤ ((l12).length : Int) then
        rec_l15 l11 (((l12).drop 1).take ((l12).length - 1)) (l21 ++ [(Event.mk 1 x24.ID x25 (Delta.mk 0 0 (Point.mk 0 0) (A4.mk (Field.mk 0 ByteArray.empty) (Field.mk 0 ByteArray.empty) (Field.mk 0 ByteArray.empty) (Field.mk 0 ByteArray.empty))))])
      else none
    else none
theorem F18_j23_ok (n : Nat) (a0 : (List Thing)) (a1 : Rect) (a2 : (List Thing)) (a3 : Rect) (l11 : (List Thing)) (l12 : (List Thing)) (rec_l15 : (List Thing) → (List Thing) → (List Event) → Option (List Event)) (m_l15 : Nat) (ih_l15 : ∀ (l11 : (List Thing)) (l12 : (List Thing)) (l13 : (List Event)) (g14 : Nat), SimL Try.prog D (n + 8) m_l15 pc18_c31 [(9, .one (vw Thing.cod l11)), (10, .one (vw Thing.cod l12)), (11, .one (ownL 100011 g14 l13))] (ownM Event.cod 45 100011 g14 l13 []) (rec_l15 l11 l12 l13) (QB 0 (QT Try.prog D (n + 8) pc18_c36 (QF pc18_r 0 F18_e)))) (l21 : (List Event)) (g22 : Nat) : Sim Try.prog D (n + 8) pc18_c10 [(9, .one (vw Thing.cod l11)), (10, .one (vw Thing.cod l12)), (11, .one (ownL 100011 g22 l21))] (ownM Event.cod 45 100011 g22 l21 []) (F18_j23 n l11 l12 rec_l15 l21) (QB 2 (QB 1 (QL Try.prog D (n + 8) m_l15 pc18_c31 (QB 0 (QT Try.prog D (n + 8) pc18_c36 (QF pc18_r 0 F18_e)))))) := by
    cases l21 with
    | nil =>
      unfold F18_j23
      refine Sim.seq ?_
      refine Sim.region [(9, .one (vw Thing.cod l11)), (10, .one (vw Thing.cod l12)), (11, .one (lnil))] [] (by kernel_rfl) ?_
      refine SimI.run 2 [(72, .one (vw Thing.cod l12)), (71, .one (lnil))] [] (by kernel_rfl) ?_
      refine SimI.bind (og := ix l12 0) { dst := some 73, op := POp.iaddrS 11 (Operand.tmp 72) (Operand.const (Value.int IntKind.i64 0)), guard := none, hints := [(72, Hint.imm)] } (fun x24 => [(73, .one (.eptr (Thing.cod.enc x24) 0))]) (fun x24 => []) (by kernel_rfl) (fun x24 hr => pOp_eff (by kernel_rfl) (by kernel_rfl) (eff_idx (c := Thing.cod) (l := l12) (k := .i64) (n := 0) (by kernel_rfl) (by kernel_rfl) (by kernel_rfl) hr)) (fun x24 => ?_)
      refine SimI.run 3 [(76, .one (vw Thing.cod l12)), (75, .one (li .i64 x24.ID)), (74, .one (.eptr (Thing.cod.enc x24) 0))] [] (by kernel_rfl) ?_
      refine SimI.bind (og := ix l12 0) { dst := some 77, op := POp.iaddrS 11 (Operand.tmp 76) (Operand.const (Value.int IntKind.i64 0)), guard := none, hints := [(76, Hint.imm)] } (fun x25 => [(77, .one (.eptr (Thing.cod.enc x25) 0))]) (fun x25 => []) (by kernel_rfl) (fun x25 hr => pOp_eff (by kernel_rfl) (by kernel_rfl) (eff_idx (c := Thing.cod) (l := l12) (k := .i64) (n := 0) (by kernel_rfl) (by kernel_rfl) (by kernel_rfl) hr)) (fun x25 => ?_)
      refine SimI.run 3 [(80, .one (vw Event.cod [(Event.mk 1 x24.ID x25 (Delta.mk 0 0 (Point.mk 0 0) (A4.mk (Field.mk 0 ByteArray.empty) (Field.mk 0 ByteArray.empty) (Field.mk 0 ByteArray.empty) (Field.mk 0 ByteArray.empty))))])), (79, .agg [li .i64 1, li .i64 x24.ID, li .i64 x25.ID, li .i64 x25.At.X, li .i64 x25.At.Y, li .i64 x25.F.a0.N, ls x25.F.a0.Text, li .i64 x25.F.a1.N, ls x25.F.a1.Text, li .i64 x25.F.a2.N, ls x25.F.a2.Text, li .i64 x25.F.a3.N, ls x25.F.a3.Text, li .i64 0, li .u8 0, li .i64 0, li .i64 0, li .i64 0, ls ByteArray.empty, li .i64 0, ls ByteArray.empty, li .i64 0, ls ByteArray.empty, li .i64 0, ls ByteArray.empty]), (78, .agg [li .i64 x25.ID, li .i64 x25.At.X, li .i64 x25.At.Y, li .i64 x25.F.a0.N, ls x25.F.a0.Text, li .i64 x25.F.a1.N, ls x25.F.a1.Text, li .i64 x25.F.a2.N, ls x25.F.a2.Text, li .i64 x25.F.a3.N, ls x25.F.a3.Text])] [] (by kernel_rfl) ?_
      refine SimI.guard (c := (([] : List Event).length + 1) * 264 ≤ maxCells ∧ ([] : List Event).length + 1 ≤ maxCells) { dst := some 81, op := POp.app 100011 45 25 264 (Operand.tmp 71) (Operand.tmp 80), guard := none, hints := [(71, Hint.obj 100011), (80, Hint.imm)] } [(81, .one (.osl 100011 0 0 ([(Event.mk 1 x24.ID x25 (Delta.mk 0 0 (Point.mk 0 0) (A4.mk (Field.mk 0 ByteArray.empty) (Field.mk 0 ByteArray.empty) (Field.mk 0 ByteArray.empty) (Field.mk 0 ByteArray.empty))))]).length))] [(100011, some (.arr 45 Event.cod.sz 0 ([(Event.mk 1 x24.ID x25 (Delta.mk 0 0 (Point.mk 0 0) (A4.mk (Field.mk 0 ByteArray.empty) (Field.mk 0 ByteArray.empty) (Field.mk 0 ByteArray.empty) (Field.mk 0 ByteArray.empty))))]).length (getOf Event.cod [(Event.mk 1 x24.ID x25 (Delta.mk 0 0 (Point.mk 0 0) (A4.mk (Field.mk 0 ByteArray.empty) (Field.mk 0 ByteArray.empty) (Field.mk 0 ByteArray.empty) (Field.mk 0 ByteArray.empty))))])))] (by kernel_rfl) (fun hc => pOp_eff (by kernel_rfl) (by kernel_rfl) (eff_appN (c := Event.cod) (a := (Event.mk 1 x24.ID x25 (Delta.mk 0 0 (Point.mk 0 0) (A4.mk (Field.mk 0 ByteArray.empty) (Field.mk 0 ByteArray.empty) (Field.mk 0 ByteArray.empty) (Field.mk 0 ByteArray.empty))))) (by kernel_rfl) (by kernel_rfl) (by kernel_rfl) (by kernel_rfl) (by kernel_rfl) (by kernel_rfl))) ?_
      refine SimI.run 1 [(11, .one (.osl 100011 0 0 ([(Event.mk 1 x24.ID x25 (Delta.mk 0 0 (Point.mk 0 0) (A4.mk (Field.mk 0 ByteArray.empty) (Field.mk 0 ByteArray.empty) (Field.mk 0 ByteArray.empty) (Field.mk 0 ByteArray.empty))))]).length))] [] (by kernel_rfl) ?_
      refine SimI.done (by kernel_rfl) ?_
      refine SimE.thenN ?_
      refine Sim.region0 ?_
      refine SimI.run 1 [(82, .one (vw Thing.cod l12))] [] (by kernel_rfl) ?_
      refine SimI.guard (c := 0 ≤ (1 : Int) ∧ (1 : Int) ≤ ((l12).length : Int) ∧ ((l12).length : Int) ≤ ((l12).length : Int)) { dst := some 83, op := POp.slc 11 (Operand.tmp 82) (some (Operand.const (Value.int IntKind.i64 1))) none, guard := none, hints := [] } [(83, .one (vw Thing.cod (((l12).drop 1).take ((l12).length - 1))))] [] (by kernel_rfl) (fun hc => pOp_eff (by kernel_rfl) (by kernel_rfl) (eff_cut (c := Thing.cod) (l := l12) (a := 1) (b := (l12).length) (by kernel_rfl) (by kernel_rfl) (by kernel_rfl) (by kernel_rfl) (by omega) (by omega))) ?_
      refine SimI.run 1 [(10, .one (vw Thing.cod (((l12).drop 1).take ((l12).length - 1))))] [] (by kernel_rfl) ?_
      refine SimI.done (by kernel_rfl) ?_
      refine SimE.blockN ?_
      refine SimE.blockN ?_
      refine SimE.loopN ?_
      refine SimL.pre (ts := [9, 10, 11]) (os := [5, 7, 100011]) [(9, .one (vw Thing.cod l11)), (10, .one (vw Thing.cod (((l12).drop 1).take ((l12).length - 1)))), (11, .one (ownL 100011 0 [(Event.mk 1 x24.ID x25 (Delta.mk 0 0 (Point.mk 0 0) (A4.mk (Field.mk 0 ByteArray.empty) (Field.mk 0 ByteArray.empty) (Field.mk 0 ByteArray.empty) (Field.mk 0 ByteArray.empty))))]))] (ownM Event.cod 45 100011 0 [(Event.mk 1 x24.ID x25 (Delta.mk 0 0 (Point.mk 0 0) (A4.mk (Field.mk 0 ByteArray.empty) (Field.mk 0 ByteArray.empty) (Field.mk 0 ByteArray.empty) (Field.mk 0 ByteArray.empty))))] []) (by kernel_rfl) (by kernel_rfl) (by kernel_rfl) ?_
      exact ih_l15 l11 (((l12).drop 1).take ((l12).length - 1)) [(Event.mk 1 x24.ID x25 (Delta.mk 0 0 (Point.mk 0 0) (A4.mk (Field.mk 0 ByteArray.empty) (Field.mk 0 ByteArray.empty) (Field.mk 0 ByteArray.empty) (Field.mk 0 ByteArray.empty))))] 0
    | cons l21h l21t =>
      unfold F18_j23
      refine Sim.seq ?_
      refine Sim.region [(9, .one (vw Thing.cod l11)), (10, .one (vw Thing.cod l12)), (11, .one (.osl 100011 g22 0 ((l21h :: l21t)).length))] ((100011, some (.arr 45 Event.cod.sz g22 ((l21h :: l21t)).length (getOf Event.cod (l21h :: l21t)))) :: []) (by kernel_rfl) ?_
      refine SimI.run 2 [(72, .one (vw Thing.cod l12)), (71, .one (.osl 100011 g22 0 ((l21h :: l21t)).length))] [] (by kernel_rfl) ?_
      refine SimI.bind (og := ix l12 0) { dst := some 73, op := POp.iaddrS 11 (Operand.tmp 72) (Operand.const (Value.int IntKind.i64 0)), guard := none, hints := [(72, Hint.imm)] } (fun x24 => [(73, .one (.eptr (Thing.cod.enc x24) 0))]) (fun x24 => []) (by kernel_rfl) (fun x24 hr => pOp_eff (by kernel_rfl) (by kernel_rfl) (eff_idx (c := Thing.cod) (l := l12) (k := .i64) (n := 0) (by kernel_rfl) (by kernel_rfl) (by kernel_rfl) hr)) (fun x24 => ?_)
      refine SimI.run 3 [(76, .one (vw Thing.cod l12)), (75, .one (li .i64 x24.ID)), (74, .one (.eptr (Thing.cod.enc x24) 0))] [] (by kernel_rfl) ?_
      refine SimI.bind (og := ix l12 0) { dst := some 77, op := POp.iaddrS 11 (Operand.tmp 76) (Operand.const (Value.int IntKind.i64 0)), guard := none, hints := [(76, Hint.imm)] } (fun x25 => [(77, .one (.eptr (Thing.cod.enc x25) 0))]) (fun x25 => []) (by kernel_rfl) (fun x25 hr => pOp_eff (by kernel_rfl) (by kernel_rfl) (eff_idx (c := Thing.cod) (l := l12) (k := .i64) (n := 0) (by kernel_rfl) (by kernel_rfl) (by kernel_rfl) hr)) (fun x25 => ?_)
      refine SimI.run 3 [(80, .one (vw Event.cod [(Event.mk 1 x24.ID x25 (Delta.mk 0 0 (Point.mk 0 0) (A4.mk (Field.mk 0 ByteArray.empty) (Field.mk 0 ByteArray.empty) (Field.mk 0 ByteArray.empty) (Field.mk 0 ByteArray.empty))))])), (79, .agg [li .i64 1, li .i64 x24.ID, li .i64 x25.ID, li .i64 x25.At.X, li .i64 x25.At.Y, li .i64 x25.F.a0.N, ls x25.F.a0.Text, li .i64 x25.F.a1.N, ls x25.F.a1.Text, li .i64 x25.F.a2.N, ls x25.F.a2.Text, li .i64 x25.F.a3.N, ls x25.F.a3.Text, li .i64 0, li .u8 0, li .i64 0, li .i64 0, li .i64 0, ls ByteArray.empty, li .i64 0, ls ByteArray.empty, li .i64 0, ls ByteArray.empty, li .i64 0, ls ByteArray.empty]), (78, .agg [li .i64 x25.ID, li .i64 x25.At.X, li .i64 x25.At.Y, li .i64 x25.F.a0.N, ls x25.F.a0.Text, li .i64 x25.F.a1.N, ls x25.F.a1.Text, li .i64 x25.F.a2.N, ls x25.F.a2.Text, li .i64 x25.F.a3.N, ls x25.F.a3.Text])] [] (by kernel_rfl) ?_
      refine SimI.guard (c := (((l21h :: l21t)).length + 1) * 264 ≤ maxCells ∧ ((l21h :: l21t)).length + 1 ≤ maxCells) { dst := some 81, op := POp.app 100011 45 25 264 (Operand.tmp 71) (Operand.tmp 80), guard := none, hints := [(71, Hint.obj 100011), (80, Hint.imm)] } [(81, .one (.osl 100011 (g22 + 1) 0 (((l21h :: l21t) ++ [(Event.mk 1 x24.ID x25 (Delta.mk 0 0 (Point.mk 0 0) (A4.mk (Field.mk 0 ByteArray.empty) (Field.mk 0 ByteArray.empty) (Field.mk 0 ByteArray.empty) (Field.mk 0 ByteArray.empty))))])).length))] [(100011, some (.arr 45 Event.cod.sz (g22 + 1) (((l21h :: l21t) ++ [(Event.mk 1 x24.ID x25 (Delta.mk 0 0 (Point.mk 0 0) (A4.mk (Field.mk 0 ByteArray.empty) (Field.mk 0 ByteArray.empty) (Field.mk 0 ByteArray.empty) (Field.mk 0 ByteArray.empty))))])).length (getOf Event.cod ((l21h :: l21t) ++ [(Event.mk 1 x24.ID x25 (Delta.mk 0 0 (Point.mk 0 0) (A4.mk (Field.mk 0 ByteArray.empty) (Field.mk 0 ByteArray.empty) (Field.mk 0 ByteArray.empty) (Field.mk 0 ByteArray.empty))))]))))] (by kernel_rfl) (fun hc => pOp_eff (by kernel_rfl) (by kernel_rfl) (eff_appO (c := Event.cod) (g := g22) (l := (l21h :: l21t)) (a := (Event.mk 1 x24.ID x25 (Delta.mk 0 0 (Point.mk 0 0) (A4.mk (Field.mk 0 ByteArray.empty) (Field.mk 0 ByteArray.empty) (Field.mk 0 ByteArray.empty) (Field.mk 0 ByteArray.empty))))) (by kernel_rfl) (by kernel_rfl) (by kernel_rfl) (by kernel_rfl) hc)) ?_
      refine SimI.run 1 [(11, .one (.osl 100011 (g22 + 1) 0 (((l21h :: l21t) ++ [(Event.mk 1 x24.ID x25 (Delta.mk 0 0 (Point.mk 0 0) (A4.mk (Field.mk 0 ByteArray.empty) (Field.mk 0 ByteArray.empty) (Field.mk 0 ByteArray.empty) (Field.mk 0 ByteArray.empty))))])).length))] [] (by kernel_rfl) ?_
      refine SimI.done (by kernel_rfl) ?_
      refine SimE.thenN ?_
      refine Sim.region0 ?_
      refine SimI.run 1 [(82, .one (vw Thing.cod l12))] [] (by kernel_rfl) ?_
      refine SimI.guard (c := 0 ≤ (1 : Int) ∧ (1 : Int) ≤ ((l12).length : Int) ∧ ((l12).length : Int) ≤ ((l12).length : Int)) { dst := some 83, op := POp.slc 11 (Operand.tmp 82) (some (Operand.const (Value.int IntKind.i64 1))) none, guard := none, hints := [] } [(83, .one (vw Thing.cod (((l12).drop 1).take ((l12).length - 1))))] [] (by kernel_rfl) (fun hc => pOp_eff (by kernel_rfl) (by kernel_rfl) (eff_cut (c := Thing.cod) (l := l12) (a := 1) (b := (l12).length) (by kernel_rfl) (by kernel_rfl) (by kernel_rfl) (by kernel_rfl) (by omega) (by omega))) ?_
      refine SimI.run 1 [(10, .one (vw Thing.cod (((l12).drop 1).take ((l12).length - 1))))] [] (by kernel_rfl) ?_
      refine SimI.done (by kernel_rfl) ?_
      refine SimE.blockN ?_
      refine SimE.blockN ?_
      refine SimE.loopN ?_
      refine SimL.pre (ts := [9, 10, 11]) (os := [5, 7, 100011]) [(9, .one (vw Thing.cod l11)), (10, .one (vw Thing.cod (((l12).drop 1).take ((l12).length - 1)))), (11, .one (ownL 100011 (g22 + 1) ((l21h :: l21t) ++ [(Event.mk 1 x24.ID x25 (Delta.mk 0 0 (Point.mk 0 0) (A4.mk (Field.mk 0 ByteArray.empty) (Field.mk 0 ByteArray.empty) (Field.mk 0 ByteArray.empty) (Field.mk 0 ByteArray.empty))))])))] (ownM Event.cod 45 100011 (g22 + 1) ((l21h :: l21t) ++ [(Event.mk 1 x24.ID x25 (Delta.mk 0 0 (Point.mk 0 0) (A4.mk (Field.mk 0 ByteArray.empty) (Field.mk 0 ByteArray.empty) (Field.mk 0 ByteArray.empty) (Field.mk 0 ByteArray.empty))))]) []) (by kernel_rfl) (by kernel_rfl) (by kernel_rfl) ?_
      exact ih_l15 l11 (((l12).drop 1).take ((l12).length - 1)) ((l21h :: l21t) ++ [(Event.mk 1 x24.ID x25 (Delta.mk 0 0 (Point.mk 0 0) (A4.mk (Field.mk 0 ByteArray.empty) (Field.mk 0 ByteArray.empty) (Field.mk 0 ByteArray.empty) (Field.mk 0 ByteArray.empty))))]) (g22 + 1)

def F18_j33 (n : Nat) (l11 : (List Thing)) (l12 : (List Thing)) (rec_l15 : (List Thing) → (List Thing) → (List Event) → Option (List Event)) (l31 : (List Event)) : Option (List Event) :=
    (ix l11 0).bind fun (x34 : Thing) =>
    if ((l31).length + 1) * 264 ≤ maxCells ∧ (l31).length + 1 ≤ maxCells then
      if 0 ≤ (1 : Int) ∧ (1 : Int) ≤ ((l11).length : Int) ∧ ((l11).length : Int) ≤ ((l11).length : Int) then
        rec_l15 (((l11).drop 1).take ((l11).length - 1)) l12 (l31 ++ [(Event.mk 3 x34.ID (Thing.mk 0 (Point.mk 0 0) (A4.mk (Field.mk 0 ByteArray.empty) (Field.mk 0 ByteArray.empty) (Field.mk 0 ByteArray.empty) (Field.mk 0 ByteArray.empty))) (Delta.mk 0 0 (Point.mk 0 0) (A4.mk (Field.mk 0 ByteArray.empty) (Field.mk 0 ByteArray.empty) (Field.mk 0 ByteArray.empty) (Field.mk 0 ByteArray.empty))))])
      else none
    else none
theorem F18_j33_ok (n : Nat) (l11 : (List Thing)) (l12 : (List Thing)) (rec_l15 : (List Thing) → (List Thing) → (List Event) → Option (List Event)) (m_l15 : Nat) (ih_l15 : ∀ (l11 : (List Thing)) (l12 : (List Thing)) (l13 : (List Event)) (g14 : Nat), SimL Try.prog D (n + 8) m_l15 pc18_c31 [(9, .one (vw Thing.cod l11)), (10, .one (vw Thing.cod l12)), (11, .one (ownL 100011 g14 l13))] (ownM Event.cod 45 100011 g14 l13 []) (rec_l15 l11 l12 l13) (QB 0 (QT Try.prog D (n + 8) pc18_c36 (QF pc18_r 0 F18_e)))) (l31 : (List Event)) (g32 : Nat) : Sim Try.prog D (n + 8) pc18_c14 [(9, .one (vw Thing.cod l11)), (10, .one (vw Thing.cod l12)), (11, .one (ownL 100011 g32 l31))] (ownM Event.cod 45 100011 g32 l31 []) (F18_j33 n l11 l12 rec_l15 l31) (QB 2 (QB 1 (QL Try.prog D (n + 8) m_l15 pc18_c31 (QB 0 (QT Try.prog D (n + 8) pc18_c36 (QF pc18_r 0 F18_e)))))) := by
    cases l31 with
    | nil =>
      unfold F18_j33
      refine Sim.seq ?_
      refine Sim.region [(9, .one (vw Thing.cod l11)), (10, .one (vw Thing.cod l12)), (11, .one (lnil))] [] (by kernel_rfl) ?_
      refine SimI.run 2 [(100, .one (vw Thing.cod l11)), (99, .one (lnil))] [] (by kernel_rfl) ?_
      refine SimI.bind (og := ix l11 0) { dst := some 101, op := POp.iaddrS 11 (Operand.tmp 100) (Operand.const (Value.int IntKind.i64 0)), guard := none, hints := [] } (fun x34 => [(101, .one (.eptr (Thing.cod.enc x34) 0))]) (fun x34 => []) (by kernel_rfl) (fun x34 hr => pOp_eff (by kernel_rfl) (by kernel_rfl) (eff_idx (c := Thing.cod) (l := l11) (k := .i64) (n := 0) (by kernel_rfl) (by kernel_rfl) (by kernel_rfl) hr)) (fun x34 => ?_)
      refine SimI.run 4 [(105, .one (vw Event.cod [(Event.mk 3 x34.ID (Thing.mk 0 (Point.mk 0 0) (A4.mk (Field.mk 0 ByteArray.empty) (Field.mk 0 ByteArray.empty) (Field.mk 0 ByteArray.empty) (Field.mk 0 ByteArray.empty))) (Delta.mk 0 0 (Point.mk 0 0) (A4.mk (Field.mk 0 ByteArray.empty) (Field.mk 0 ByteArray.empty) (Field.mk 0 ByteArray.empty) (Field.mk 0 ByteArray.empty))))])), (104, .agg [li .i64 3, li .i64 x34.ID, li .i64 0, li .i64 0, li .i64 0, li .i64 0, ls ByteArray.empty, li .i64 0, ls ByteArray.empty, li .i64 0, ls ByteArray.empty, li .i64 0, ls ByteArray.empty, li .i64 0, li .u8 0, li .i64 0, li .i64 0, li .i64 0, ls ByteArray.empty, li .i64 0, ls ByteArray.empty, li .i64 0, ls ByteArray.empty, li .i64 0, ls ByteArray.empty]), (103, .one (li .i64 x34.ID)), (102, .one (.eptr (Thing.cod.enc x34) 0))] [] (by kernel_rfl) ?_
      refine SimI.guard (c := (([] : List Event).length + 1) * 264 ≤ maxCells ∧ ([] : List Event).length + 1 ≤ maxCells) { dst := some 106, op := POp.app 100011 45 25 264 (Operand.tmp 99) (Operand.tmp 105), guard := none, hints := [] } [(106, .one (.osl 100011 0 0 ([(Event.mk 3 x34.ID (Thing.mk 0 (Point.mk 0 0) (A4.mk (Field.mk 0 ByteArray.empty) (Field.mk 0 ByteArray.empty) (Field.mk 0 ByteArray.empty) (Field.mk 0 ByteArray.empty))) (Delta.mk 0 0 (Point.mk 0 0) (A4.mk (Field.mk 0 ByteArray.empty) (Field.mk 0 ByteArray.empty) (Field.mk 0 ByteArray.empty) (Field.mk 0 ByteArray.empty))))]).length))] [(100011, some (.arr 45 Event.cod.sz 0 ([(Event.mk 3 x34.ID (Thing.mk 0 (Point.mk 0 0) (A4.mk (Field.mk 0 ByteArray.empty) (Field.mk 0 ByteArray.empty) (Field.mk 0 ByteArray.empty) (Field.mk 0 ByteArray.empty))) (Delta.mk 0 0 (Point.mk 0 0) (A4.mk (Field.mk 0 ByteArray.empty) (Field.mk 0 ByteArray.empty) (Field.mk 0 ByteArray.empty) (Field.mk 0 ByteArray.empty))))]).length (getOf Event.cod [(Event.mk 3 x34.ID (Thing.mk 0 (Point.mk 0 0) (A4.mk (Field.mk 0 ByteArray.empty) (Field.mk 0 ByteArray.empty) (Field.mk 0 ByteArray.empty) (Field.mk 0 ByteArray.empty))) (Delta.mk 0 0 (Point.mk 0 0) (A4.mk (Field.mk 0 ByteArray.empty) (Field.mk 0 ByteArray.empty) (Field.mk 0 ByteArray.empty) (Field.mk 0 ByteArray.empty))))])))] (by kernel_rfl) (fun hc => pOp_eff (by kernel_rfl) (by kernel_rfl) (eff_appN (c := Event.cod) (a := (Event.mk 3 x34.ID (Thing.mk 0 (Point.mk 0 0) (A4.mk (Field.mk 0 ByteArray.empty) (Field.mk 0 ByteArray.empty) (Field.mk 0 ByteArray.empty) (Field.mk 0 ByteArray.empty))) (Delta.mk 0 0 (Point.mk 0 0) (A4.mk (Field.mk 0 ByteArray.empty) (Field.mk 0 ByteArray.empty) (Field.mk 0 ByteArray.empty) (Field.mk 0 ByteArray.empty))))) (by kernel_rfl) (by kernel_rfl) (by kernel_rfl) (by kernel_rfl) (by kernel_rfl) (by kernel_rfl))) ?_
      refine SimI.run 1 [(11, .one (.osl 100011 0 0 ([(Event.mk 3 x34.ID (Thing.mk 0 (Point.mk 0 0) (A4.mk (Field.mk 0 ByteArray.empty) (Field.mk 0 ByteArray.empty) (Field.mk 0 ByteArray.empty) (Field.mk 0 ByteArray.empty))) (Delta.mk 0 0 (Point.mk 0 0) (A4.mk (Field.mk 0 ByteArray.empty) (Field.mk 0 ByteArray.empty) (Field.mk 0 ByteArray.empty) (Field.mk 0 ByteArray.empty))))]).length))] [] (by kernel_rfl) ?_
      refine SimI.done (by kernel_rfl) ?_
      refine SimE.thenN ?_
      refine Sim.region0 ?_
      refine SimI.run 1 [(107, .one (vw Thing.cod l11))] [] (by kernel_rfl) ?_
      refine SimI.guard (c := 0 ≤ (1 : Int) ∧ (1 : Int) ≤ ((l11).length : Int) ∧ ((l11).length : Int) ≤ ((l11).length : Int)) { dst := some 108, op := POp.slc 11 (Operand.tmp 107) (some (Operand.const (Value.int IntKind.i64 1))) none, guard := none, hints := [] } [(108, .one (vw Thing.cod (((l11).drop 1).take ((l11).length - 1))))] [] (by kernel_rfl) (fun hc => pOp_eff (by kernel_rfl) (by kernel_rfl) (eff_cut (c := Thing.cod) (l := l11) (a := 1) (b := (l11).length) (by kernel_rfl) (by kernel_rfl) (by kernel_rfl) (by kernel_rfl) (by omega) (by omega))) ?_
      refine SimI.run 1 [(9, .one (vw Thing.cod (((l11).drop 1).take ((l11).length - 1))))] [] (by kernel_rfl) ?_
      refine SimI.done (by kernel_rfl) ?_
      refine SimE.blockN ?_
      refine SimE.blockN ?_
      refine SimE.loopN ?_
      refine SimL.pre (ts := [9, 10, 11]) (os := [5, 7, 100011]) [(9, .one (vw Thing.cod (((l11).drop 1).take ((l11).length - 1)))), (10, .one (vw Thing.cod l12)), (11, .one (ownL 100011 0 [(Event.mk 3 x34.ID (Thing.mk 0 (Point.mk 0 0) (A4.mk (Field.mk 0 ByteArray.empty) (Field.mk 0 ByteArray.empty) (Field.mk 0 ByteArray.empty) (Field.mk 0 ByteArray.empty))) (Delta.mk 0 0 (Point.mk 0 0) (A4.mk (Field.mk 0 ByteArray.empty) (Field.mk 0 ByteArray.empty) (Field.mk 0 ByteArray.empty) (Field.mk 0 ByteArray.empty))))]))] (ownM Event.cod 45 100011 0 [(Event.mk 3 x34.ID (Thing.mk 0 (Point.mk 0 0) (A4.mk (Field.mk 0 ByteArray.empty) (Field.mk 0 ByteArray.empty) (Field.mk 0 ByteArray.empty) (Field.mk 0 ByteArray.empty))) (Delta.mk 0 0 (Point.mk 0 0) (A4.mk (Field.mk 0 ByteArray.empty) (Field.mk 0 ByteArray.empty) (Field.mk 0 ByteArray.empty) (Field.mk 0 ByteArray.empty))))] []) (by kernel_rfl) (by kernel_rfl) (by kernel_rfl) ?_
      exact ih_l15 (((l11).drop 1).take ((l11).length - 1)) l12 [(Event.mk 3 x34.ID (Thing.mk 0 (Point.mk 0 0) (A4.mk (Field.mk 0 ByteArray.empty) (Field.mk 0 ByteArray.empty) (Field.mk 0 ByteArray.empty) (Field.mk 0 ByteArray.empty))) (Delta.mk 0 0 (Point.mk 0 0) (A4.mk (Field.mk 0 ByteArray.empty) (Field.mk 0 ByteArray.empty) (Field.mk 0 ByteArray.empty) (Field.mk 0 ByteArray.empty))))] 0
    | cons l31h l31t =>
      unfold F18_j33
      refine Sim.seq ?_
      refine Sim.region [(9, .one (vw Thing.cod l11)), (10, .one (vw Thing.cod l12)), (11, .one (.osl 100011 g32 0 ((l31h :: l31t)).length))] ((100011, some (.arr 45 Event.cod.sz g32 ((l31h :: l31t)).length (getOf Event.cod (l31h :: l31t)))) :: []) (by kernel_rfl) ?_
      refine SimI.run 2 [(100, .one (vw Thing.cod l11)), (99, .one (.osl 100011 g32 0 ((l31h :: l31t)).length))] [] (by kernel_rfl) ?_
      refine SimI.bind (og := ix l11 0) { dst := some 101, op := POp.iaddrS 11 (Operand.tmp 100) (Operand.const (Value.int IntKind.i64 0)), guard := none, hints := [] } (fun x34 => [(101, .one (.eptr (Thing.cod.enc x34) 0))]) (fun x34 => []) (by kernel_rfl) (fun x34 hr => pOp_eff (by kernel_rfl) (by kernel_rfl) (eff_idx (c := Thing.cod) (l := l11) (k := .i64) (n := 0) (by kernel_rfl) (by kernel_rfl) (by kernel_rfl) hr)) (fun x34 => ?_)
      refine SimI.run 4 [(105, .one (vw Event.cod [(Event.mk 3 x34.ID (Thing.mk 0 (Point.mk 0 0) (A4.mk (Field.mk 0 ByteArray.empty) (Field.mk 0 ByteArray.empty) (Field.mk 0 ByteArray.empty) (Field.mk 0 ByteArray.empty))) (Delta.mk 0 0 (Point.mk 0 0) (A4.mk (Field.mk 0 ByteArray.empty) (Field.mk 0 ByteArray.empty) (Field.mk 0 ByteArray.empty) (Field.mk 0 ByteArray.empty))))])), (104, .agg [li .i64 3, li .i64 x34.ID, li .i64 0, li .i64 0, li .i64 0, li .i64 0, ls ByteArray.empty, li .i64 0, ls ByteArray.empty, li .i64 0, ls ByteArray.empty, li .i64 0, ls ByteArray.empty, li .i64 0, li .u8 0, li .i64 0, li .i64 0, li .i64 0, ls ByteArray.empty, li .i64 0, ls ByteArray.empty, li .i64 0, ls ByteArray.empty, li .i64 0, ls ByteArray.empty]), (103, .one (li .i64 x34.ID)), (102, .one (.eptr (Thing.cod.enc x34) 0))] [] (by kernel_rfl) ?_
      refine SimI.guard (c := (((l31h :: l31t)).length + 1) * 264 ≤ maxCells ∧ ((l31h :: l31t)).length + 1 ≤ maxCells) { dst := some 106, op := POp.app 100011 45 25 264 (Operand.tmp 99) (Operand.tmp 105), guard := none, hints := [] } [(106, .one (.osl 100011 (g32 + 1) 0 (((l31h :: l31t) ++ [(Event.mk 3 x34.ID (Thing.mk 0 (Point.mk 0 0) (A4.mk (Field.mk 0 ByteArray.empty) (Field.mk 0 ByteArray.empty) (Field.mk 0 ByteArray.empty) (Field.mk 0 ByteArray.empty))) (Delta.mk 0 0 (Point.mk 0 0) (A4.mk (Field.mk 0 ByteArray.empty) (Field.mk 0 ByteArray.empty) (Field.mk 0 ByteArray.empty) (Field.mk 0 ByteArray.empty))))])).length))] [(100011, some (.arr 45 Event.cod.sz (g32 + 1) (((l31h :: l31t) ++ [(Event.mk 3 x34.ID (Thing.mk 0 (Point.mk 0 0) (A4.mk (Field.mk 0 ByteArray.empty) (Field.mk 0 ByteArray.empty) (Field.mk 0 ByteArray.empty) (Field.mk 0 ByteArray.empty))) (Delta.mk 0 0 (Point.mk 0 0) (A4.mk (Field.mk 0 ByteArray.empty) (Field.mk 0 ByteArray.empty) (Field.mk 0 ByteArray.empty) (Field.mk 0 ByteArray.empty))))])).length (getOf Event.cod ((l31h :: l31t) ++ [(Event.mk 3 x34.ID (Thing.mk 0 (Point.mk 0 0) (A4.mk (Field.mk 0 ByteArray.empty) (Field.mk 0 ByteArray.empty) (Field.mk 0 ByteArray.empty) (Field.mk 0 ByteArray.empty))) (Delta.mk 0 0 (Point.mk 0 0) (A4.mk (Field.mk 0 ByteArray.empty) (Field.mk 0 ByteArray.empty) (Field.mk 0 ByteArray.empty) (Field.mk 0 ByteArray.empty))))]))))] (by kernel_rfl) (fun hc => pOp_eff (by kernel_rfl) (by kernel_rfl) (eff_appO (c := Event.cod) (g := g32) (l := (l31h :: l31t)) (a := (Event.mk 3 x34.ID (Thing.mk 0 (Point.mk 0 0) (A4.mk (Field.mk 0 ByteArray.empty) (Field.mk 0 ByteArray.empty) (Field.mk 0 ByteArray.empty) (Field.mk 0 ByteArray.empty))) (Delta.mk 0 0 (Point.mk 0 0) (A4.mk (Field.mk 0 ByteArray.empty) (Field.mk 0 ByteArray.empty) (Field.mk 0 ByteArray.empty) (Field.mk 0 ByteArray.empty))))) (by kernel_rfl) (by kernel_rfl) (by kernel_rfl) (by kernel_rfl) hc)) ?_
      refine SimI.run 1 [(11, .one (.osl 100011 (g32 + 1) 0 (((l31h :: l31t) ++ [(Event.mk 3 x34.ID (Thing.mk 0 (Point.mk 0 0) (A4.mk (Field.mk 0 ByteArray.empty) (Field.mk 0 ByteArray.empty) (Field.mk 0 ByteArray.empty) (Field.mk 0 ByteArray.empty))) (Delta.mk 0 0 (Point.mk 0 0) (A4.mk (Field.mk 0 ByteArray.empty) (Field.mk 0 ByteArray.empty) (Field.mk 0 ByteArray.empty) (Field.mk 0 ByteArray.empty))))])).length))] [] (by kernel_rfl) ?_
      refine SimI.done (by kernel_rfl) ?_
      refine SimE.thenN ?_
      refine Sim.region0 ?_
      refine SimI.run 1 [(107, .one (vw Thing.cod l11))] [] (by kernel_rfl) ?_
      refine SimI.guard (c := 0 ≤ (1 : Int) ∧ (1 : Int) ≤ ((l11).length : Int) ∧ ((l11).length : Int) ≤ ((l11).length : Int)) { dst := some 108, op := POp.slc 11 (Operand.tmp 107) (some (Operand.const (Value.int IntKind.i64 1))) none, guard := none, hints := [] } [(108, .one (vw Thing.cod (((l11).drop 1).take ((l11).length - 1))))] [] (by kernel_rfl) (fun hc => pOp_eff (by kernel_rfl) (by kernel_rfl) (eff_cut (c := Thing.cod) (l := l11) (a := 1) (b := (l11).length) (by kernel_rfl) (by kernel_rfl) (by kernel_rfl) (by kernel_rfl) (by omega) (by omega))) ?_
      refine SimI.run 1 [(9, .one (vw Thing.cod (((l11).drop 1).take ((l11).length - 1))))] [] (by kernel_rfl) ?_
      refine SimI.done (by kernel_rfl) ?_
      refine SimE.blockN ?_
      refine SimE.blockN ?_
      refine SimE.loopN ?_
      refine SimL.pre (ts := [9, 10, 11]) (os := [5, 7, 100011]) [(9, .one (vw Thing.cod (((l11).drop 1).take ((l11).length - 1)))), (10, .one (vw Thing.cod l12)), (11, .one (ownL 100011 (g32 + 1) ((l31h :: l31t) ++ [(Event.mk 3 x34.ID (Thing.mk 0 (Point.mk 0 0) (A4.mk (Field.mk 0 ByteArray.empty) (Field.mk 0 ByteArray.empty) (Field.mk 0 ByteArray.empty) (Field.mk 0 ByteArray.empty))) (Delta.mk 0 0 (Point.mk 0 0) (A4.mk (Field.mk 0 ByteArray.empty) (Field.mk 0 ByteArray.empty) (Field.mk 0 ByteArray.empty) (Field.mk 0 ByteArray.empty))))])))] (ownM Event.cod 45 100011 (g32 + 1) ((l31h :: l31t) ++ [(Event.mk 3 x34.ID (Thing.mk 0 (Point.mk 0 0) (A4.mk (Field.mk 0 ByteArray.empty) (Field.mk 0 ByteArray.empty) (Field.mk 0 ByteArray.empty) (Field.mk 0 ByteArray.empty))) (Delta.mk 0 0 (Point.mk 0 0) (A4.mk (Field.mk 0 ByteArray.empty) (Field.mk 0 ByteArray.empty) (Field.mk 0 ByteArray.empty) (Field.mk 0 ByteArray.empty))))]) []) (by kernel_rfl) (by kernel_rfl) (by kernel_rfl) ?_
      exact ih_l15 (((l11).drop 1).take ((l11).length - 1)) l12 ((l31h :: l31t) ++ [(Event.mk 3 x34.ID (Thing.mk 0 (Point.mk 0 0) (A4.mk (Field.mk 0 ByteArray.empty) (Field.mk 0 ByteArray.empty) (Field.mk 0 ByteArray.empty) (Field.mk 0 ByteArray.empty))) (Delta.mk 0 0 (Point.mk 0 0) (A4.mk (Field.mk 0 ByteArray.empty) (Field.mk 0 ByteArray.empty) (Field.mk 0 ByteArray.empty) (Field.mk 0 ByteArray.empty))))]) (g32 + 1)

def F18_j40 (n : Nat) (l11 : (List Thing)) (l12 : (List Thing)) (rec_l15 : (List Thing) → (List Thing) → (List Event) → Option (List Event)) (l38 : (List Event)) : Option (List Event) :=
    if 0 ≤ (1 : Int) ∧ (1 : Int) ≤ ((l11).length : Int) ∧ ((l11).length : Int) ≤ ((l11).length : Int) then
      if 0 ≤ (1 : Int) ∧ (1 : Int) ≤ ((l12).length : Int) ∧ ((l12).length : Int) ≤ ((l12).length : Int) then
        rec_l15 (((l11).drop 1).take ((l11).length - 1)) (((l12).drop 1).take ((l12).length - 1)) l38
      else none
    else none
theorem F18_j40_ok (n : Nat) (l11 : (List Thing)) (l12 : (List Thing)) (rec_l15 : (List Thing) → (List Thing) → (List Event) → Option (List Event)) (m_l15 : Nat) (ih_l15 : ∀ (l11 : (List Thing)) (l12 : (List Thing)) (l13 : (List Event)) (g14 : Nat), SimL Try.prog D (n + 8) m_l15 pc18_c31 [(9, .one (vw Thing.cod l11)), (10, .one (vw Thing.cod l12)), (11, .one (ownL 100011 g14 l13))] (ownM Event.cod 45 100011 g14 l13 []) (rec_l15 l11 l12 l13) (QB 0 (QT Try.prog D (n + 8) pc18_c36 (QF pc18_r 0 F18_e)))) (l38 : (List Event)) (g39 : Nat) : Sim Try.prog D (n + 8) pc18_c22 [(9, .one (vw Thing.cod l11)), (10, .one (vw Thing.cod l12)), (11, .one (ownL 100011 g39 l38))] (ownM Event.cod 45 100011 g39 l38 []) (F18_j40 n l11 l12 rec_l15 l38) (QB 2 (QB 1 (QL Try.prog D (n + 8) m_l15 pc18_c31 (QB 0 (QT Try.prog D (n + 8) pc18_c36 (QF pc18_r 0 F18_e)))))) := by
    cases l38 with
    | nil =>
      unfold F18_j40
      refine Sim.region [(9, .one (vw Thing.cod l11)), (10, .one (vw Thing.cod l12)), (11, .one (lnil))] [] (by kernel_rfl) ?_
      refine SimI.run 1 [(38, .one (vw Thing.cod l11))] [] (by kernel_rfl) ?_
      refine SimI.guard (c := 0 ≤ (1 : Int) ∧ (1 : Int) ≤ ((l11).length : Int) ∧ ((l11).length : Int) ≤ ((l11).length : Int)) { dst := some 39, op := POp.slc 11 (Operand.tmp 38) (some (Operand.const (Value.int IntKind.i64 1))) none, guard := none, hints := [(38, Hint.imm)] } [(39, .one (vw Thing.cod (((l11).drop 1).take ((l11).length - 1))))] [] (by kernel_rfl) (fun hc => pOp_eff (by kernel_rfl) (by kernel_rfl) (eff_cut (c := Thing.cod) (l := l11) (a := 1) (b := (l11).length) (by kernel_rfl) (by kernel_rfl) (by kernel_rfl) (by kernel_rfl) (by omega) (by omega))) ?_
      refine SimI.run 1 [(40, .one (vw Thing.cod l12))] [] (by kernel_rfl) ?_
      refine SimI.guard (c := 0 ≤ (1 : Int) ∧ (1 : Int) ≤ ((l12).length : Int) ∧ ((l12).length : Int) ≤ ((l12).length : Int)) { dst := some 41, op := POp.slc 11 (Operand.tmp 40) (some (Operand.const (Value.int IntKind.i64 1))) none, guard := none, hints := [(40, Hint.imm)] } [(41, .one (vw Thing.cod (((l12).drop 1).take ((l12).length - 1))))] [] (by kernel_rfl) (fun hc => pOp_eff (by kernel_rfl) (by kernel_rfl) (eff_cut (c := Thing.cod) (l := l12) (a := 1) (b := (l12).length) (by kernel_rfl) (by kernel_rfl) (by kernel_rfl) (by kernel_rfl) (by omega) (by omega))) ?_
      refine SimI.run 2 [(10, .one (vw Thing.cod (((l12).drop 1).take ((l12).length - 1)))), (9, .one (vw Thing.cod (((l11).drop 1).take ((l11).length - 1))))] [] (by kernel_rfl) ?_
      refine SimI.done (by kernel_rfl) ?_
      refine SimE.blockN ?_
      refine SimE.blockN ?_
      refine SimE.loopN ?_
      refine SimL.pre (ts := [9, 10, 11]) (os := [5, 7, 100011]) [(9, .one (vw Thing.cod (((l11).drop 1).take ((l11).length - 1)))), (10, .one (vw Thing.cod (((l12).drop 1).take ((l12).length - 1)))), (11, .one (ownL 100011 0 ([] : List Event)))] (ownM Event.cod 45 100011 0 ([] : List Event) []) (by kernel_rfl) (by kernel_rfl) (by kernel_rfl) ?_
      exact ih_l15 (((l11).drop 1).take ((l11).length - 1)) (((l12).drop 1).take ((l12).length - 1)) ([] : List Event) 0
    | cons l38h l38t =>
      unfold F18_j40
      refine Sim.region [(9, .one (vw Thing.cod l11)), (10, .one (vw Thing.cod l12)), (11, .one (.osl 100011 g39 0 ((l38h :: l38t)).length))] ((100011, some (.arr 45 Event.cod.sz g39 ((l38h :: l38t)).length (getOf Event.cod (l38h :: l38t)))) :: []) (by kernel_rfl) ?_
      refine SimI.run 1 [(38, .one (vw Thing.cod l11))] [] (by kernel_rfl) ?_
      refine SimI.guard (c := 0 ≤ (1 : Int) ∧ (1 : Int) ≤ ((l11).length : Int) ∧ ((l11).length : Int) ≤ ((l11).length : Int)) { dst := some 39, op := POp.slc 11 (Operand.tmp 38) (some (Operand.const (Value.int IntKind.i64 1))) none, guard := none, hints := [(38, Hint.imm)] } [(39, .one (vw Thing.cod (((l11).drop 1).take ((l11).length - 1))))] [] (by kernel_rfl) (fun hc => pOp_eff (by kernel_rfl) (by kernel_rfl) (eff_cut (c := Thing.cod) (l := l11) (a := 1) (b := (l11).length) (by kernel_rfl) (by kernel_rfl) (by kernel_rfl) (by kernel_rfl) (by omega) (by omega))) ?_
      refine SimI.run 1 [(40, .one (vw Thing.cod l12))] [] (by kernel_rfl) ?_
      refine SimI.guard (c := 0 ≤ (1 : Int) ∧ (1 : Int) ≤ ((l12).length : Int) ∧ ((l12).length : Int) ≤ ((l12).length : Int)) { dst := some 41, op := POp.slc 11 (Operand.tmp 40) (some (Operand.const (Value.int IntKind.i64 1))) none, guard := none, hints := [(40, Hint.imm)] } [(41, .one (vw Thing.cod (((l12).drop 1).take ((l12).length - 1))))] [] (by kernel_rfl) (fun hc => pOp_eff (by kernel_rfl) (by kernel_rfl) (eff_cut (c := Thing.cod) (l := l12) (a := 1) (b := (l12).length) (by kernel_rfl) (by kernel_rfl) (by kernel_rfl) (by kernel_rfl) (by omega) (by omega))) ?_
      refine SimI.run 2 [(10, .one (vw Thing.cod (((l12).drop 1).take ((l12).length - 1)))), (9, .one (vw Thing.cod (((l11).drop 1).take ((l11).length - 1))))] [] (by kernel_rfl) ?_
      refine SimI.done (by kernel_rfl) ?_
      refine SimE.blockN ?_
      refine SimE.blockN ?_
      refine SimE.loopN ?_
      refine SimL.pre (ts := [9, 10, 11]) (os := [5, 7, 100011]) [(9, .one (vw Thing.cod (((l11).drop 1).take ((l11).length - 1)))), (10, .one (vw Thing.cod (((l12).drop 1).take ((l12).length - 1)))), (11, .one (ownL 100011 g39 (l38h :: l38t)))] (ownM Event.cod 45 100011 g39 (l38h :: l38t) []) (by kernel_rfl) (by kernel_rfl) (by kernel_rfl) ?_
      exact ih_l15 (((l11).drop 1).take ((l11).length - 1)) (((l12).drop 1).take ((l12).length - 1)) (l38h :: l38t) g39

def F18_j28 (n : Nat) (l11 : (List Thing)) (l12 : (List Thing)) (rec_l15 : (List Thing) → (List Thing) → (List Event) → Option (List Event)) (l26 : (List Event)) : Option (List Event) :=
    if ((l12).length : Int) == 0 then
      F18_j33 n l11 l12 rec_l15 l26
    else
      (ix l11 0).bind fun (x29 : Thing) =>
      (ix l12 0).bind fun (x30 : Thing) =>
      if decide (x29.ID < x30.ID) then
        F18_j33 n l11 l12 rec_l15 l26
      else
        (ix l11 0).bind fun (x35 : Thing) =>
        (ix l12 0).bind fun (x36 : Thing) =>
        (F49 n x35 x36).bind fun (r37 : (Delta × Bool)) =>
        if r37.2 then
          if ((l26).length + 1) * 264 ≤ maxCells ∧ (l26).length + 1 ≤ maxCells then
            F18_j40 n l11 l12 rec_l15 (l26 ++ [(Event.mk 2 r37.1.ID (Thing.mk 0 (Point.mk 0 0) (A4.mk (Field.mk 0 ByteArray.empty) (Field.mk 0 ByteArray.empty) (Field.mk 0 ByteArray.empty) (Field.mk 0 ByteArray.empty))) r37.1)])
          else none
        else
          F18_j40 n l11 l12 rec_l15 l26
theorem F18_j28_ok (n : Nat) (a0 : (List Thing)) (a1 : Rect) (a2 : (List Thing)) (a3 : Rect) (l11 : (List Thing)) (l12 : (List Thing)) (rec_l15 : (List Thing) → (List Thing) → (List Event) → Option (List Event)) (m_l15 : Nat) (ih_l15 : ∀ (l11 : (List Thing)) (l12 : (List Thing)) (l13 : (List Event)) (g14 : Nat), SimL Try.prog D (n + 8) m_l15 pc18_c31 [(9, .one (vw Thing.cod l11)), (10, .one (vw Thing.cod l12)), (11, .one (ownL 100011 g14 l13))] (ownM Event.cod 45 100011 g14 l13 []) (rec_l15 l11 l12 l13) (QB 0 (QT Try.prog D (n + 8) pc18_c36 (QF pc18_r 0 F18_e)))) (l26 : (List Event)) (g27 : Nat) : Sim Try.prog D (n + 8) pc18_c25 [(9, .one (vw Thing.cod l11)), (10, .one (vw Thing.cod l12)), (11, .one (ownL 100011 g27 l26))] (ownM Event.cod 45 100011 g27 l26 []) (F18_j28 n l11 l12 rec_l15 l26) (QB 2 (QB 1 (QL Try.prog D (n + 8) m_l15 pc18_c31 (QB 0 (QT Try.prog D (n + 8) pc18_c36 (QF pc18_r 0 F18_e)))))) := by
    cases l26 with
    | nil =>
      unfold F18_j28
      refine Sim.seq ?_
      refine Sim.region [(9, .one (vw Thing.cod l11)), (10, .one (vw Thing.cod l12)), (11, .one (lnil))] [] (by kernel_rfl) ?_
      refine SimI.run 4 [(88, .one (lb (((l12).length : Int) == 0))), (87, .one (lb (((l12).length : Int) == 0))), (86, .one (li .i64 ((l12).length : Int))), (85, .one (vw Thing.cod l12))] [] (by kernel_rfl) ?_
      refine SimI.split 88 (((l12).length : Int) == 0) (by kernel_rfl) ?_ ?_
      · refine SimI.run 11 [(84, .one (lb true)), (98, .one (lb true)), (97, .tup []), (96, .tup []), (95, .tup []), (94, .tup []), (93, .tup []), (92, .tup []), (91, .tup []), (90, .tup []), (89, .tup [])] [] (by kernel_rfl) ?_
        refine SimI.done (by kernel_rfl) ?_
        refine SimE.thenN ?_
        refine Sim.condT (by kernel_rfl) ?_
        refine Sim.pre (ts := [9, 10, 11]) (os := [100011]) [(9, .one (vw Thing.cod l11)), (10, .one (vw Thing.cod l12)), (11, .one (ownL 100011 0 ([] : List Event)))] (ownM Event.cod 45 100011 0 ([] : List Event) []) (by kernel_rfl) (by kernel_rfl) (by kernel_rfl) ?_
        exact F18_j33_ok n l11 l12 rec_l15 m_l15 ih_l15 ([] : List Event) 0
      · refine SimI.run 1 [(89, .one (vw Thing.cod l11))] [] (by kernel_rfl) ?_
        refine SimI.bind (og := ix l11 0) { dst := some 90, op := POp.iaddrS 11 (Operand.tmp 89) (Operand.const (Value.int IntKind.i64 0)), guard := some (88, false), hints := [(89, Hint.imm)] } (fun x29 => [(90, .one (.eptr (Thing.cod.enc x29) 0))]) (fun x29 => []) (by kernel_rfl) (fun x29 hr => pOp_eff (by kernel_rfl) (by kernel_rfl) (eff_idx (c := Thing.cod) (l := l11) (k := .i64) (n := 0) (by kernel_rfl) (by kernel_rfl) (by kernel_rfl) hr)) (fun x29 => ?_)
        refine SimI.run 3 [(93, .one (vw Thing.cod l12)), (92, .one (li .i64 x29.ID)), (91, .one (.eptr (Thing.cod.enc x29) 0))] [] (by kernel_rfl) ?_
        refine SimI.bind (og := ix l12 0) { dst := some 94, op := POp.iaddrS 11 (Operand.tmp 93) (Operand.const (Value.int IntKind.i64 0)), guard := some (88, false), hints := [(93, Hint.imm)] } (fun x30 => [(94, .one (.eptr (Thing.cod.enc x30) 0))]) (fun x30 => []) (by kernel_rfl) (fun x30 hr => pOp_eff (by kernel_rfl) (by kernel_rfl) (eff_idx (c := Thing.cod) (l := l12) (k := .i64) (n := 0) (by kernel_rfl) (by kernel_rfl) (by kernel_rfl) hr)) (fun x30 => ?_)
        refine SimI.run 5 [(84, .one (lb (decide (x29.ID < x30.ID)))), (98, .one (lb (decide (x29.ID < x30.ID)))), (97, .one (lb (decide (x29.ID < x30.ID)))), (96, .one (li .i64 x30.ID)), (95, .one (.eptr (Thing.cod.enc x30) 0))] [] (by kernel_rfl) ?_
        refine SimI.done (by kernel_rfl) ?_
        refine SimE.thenN ?_
        refine Sim.cond (decide (x29.ID < x30.ID)) (by kernel_rfl) ?_ ?_
        · refine Sim.pre (ts := [9, 10, 11]) (os := [100011]) [(9, .one (vw Thing.cod l11)), (10, .one (vw Thing.cod l12)), (11, .one (ownL 100011 0 ([] : List Event)))] (ownM Event.cod 45 100011 0 ([] : List Event) []) (by kernel_rfl) (by kernel_rfl) (by kernel_rfl) ?_
          exact F18_j33_ok n l11 l12 rec_l15 m_l15 ih_l15 ([] : List Event) 0
        · refine Sim.seq ?_
          refine Sim.seq ?_
          refine Sim.region0 ?_
          refine SimI.run 1 [(21, .one (vw Thing.cod l11))] [] (by kernel_rfl) ?_
          refine SimI.bind (og := ix l11 0) { dst := some 22, op := POp.iaddrS 11 (Operand.tmp 21) (Operand.const (Value.int IntKind.i64 0)), guard := none, hints := [(21, Hint.imm)] } (fun x35 => [(22, .one (.eptr (Thing.cod.enc x35) 0))]) (fun x35 => []) (by kernel_rfl) (fun x35 hr => pOp_eff (by kernel_rfl) (by kernel_rfl) (eff_idx (c := Thing.cod) (l := l11) (k := .i64) (n := 0) (by kernel_rfl) (by kernel_rfl) (by kernel_rfl) hr)) (fun x35 => ?_)
          refine SimI.run 2 [(24, .one (vw Thing.cod l12)), (23, .agg [li .i64 x35.ID, li .i64 x35.At.X, li .i64 x35.At.Y, li .i64 x35.F.a0.N, ls x35.F.a0.Text, li .i64 x35.F.a1.N, ls x35.F.a1.Text, li .i64 x35.F.a2.N, ls x35.F.a2.Text, li .i64 x35.F.a3.N, ls x35.F.a3.Text])] [] (by kernel_rfl) ?_
          refine SimI.bind (og := ix l12 0) { dst := some 25, op := POp.iaddrS 11 (Operand.tmp 24) (Operand.const (Value.int IntKind.i64 0)), guard := none, hints := [(24, Hint.imm)] } (fun x36 => [(25, .one (.eptr (Thing.cod.enc x36) 0))]) (fun x36 => []) (by kernel_rfl) (fun x36 hr => pOp_eff (by kernel_rfl) (by kernel_rfl) (eff_idx (c := Thing.cod) (l := l12) (k := .i64) (n := 0) (by kernel_rfl) (by kernel_rfl) (by kernel_rfl) hr)) (fun x36 => ?_)
          refine SimI.run 1 [(26, .agg [li .i64 x36.ID, li .i64 x36.At.X, li .i64 x36.At.Y, li .i64 x36.F.a0.N, ls x36.F.a0.Text, li .i64 x36.F.a1.N, ls x36.F.a1.Text, li .i64 x36.F.a2.N, ls x36.F.a2.Text, li .i64 x36.F.a3.N, ls x36.F.a3.Text])] [] (by kernel_rfl) ?_
          refine SimI.bind (og := F49 n x35 x36) { dst := some 27, op := POp.call false [[], []] 49 [Operand.tmp 23, Operand.tmp 26], guard := none, hints := [(23, Hint.imm), (26, Hint.imm)] } (fun r37 => [(27, .tup [.agg [li .i64 r37.1.ID, li .u8 r37.1.Mask, li .i64 r37.1.At.X, li .i64 r37.1.At.Y, li .i64 r37.1.F.a0.N, ls r37.1.F.a0.Text, li .i64 r37.1.F.a1.N, ls r37.1.F.a1.Text, li .i64 r37.1.F.a2.N, ls r37.1.F.a2.Text, li .i64 r37.1.F.a3.N, ls r37.1.F.a3.Text], .one (lb r37.2)])]) (fun r37 => []) (by kernel_rfl) (fun r37 hr => pOp_eff (by kernel_rfl) (by kernel_rfl) (eff_call (ARGS := [.agg [li .i64 x35.ID, li .i64 x35.At.X, li .i64 x35.At.Y, li .i64 x35.F.a0.N, ls x35.F.a0.Text, li .i64 x35.F.a1.N, ls x35.F.a1.Text, li .i64 x35.F.a2.N, ls x35.F.a2.Text, li .i64 x35.F.a3.N, ls x35.F.a3.Text], .agg [li .i64 x36.ID, li .i64 x36.At.X, li .i64 x36.At.Y, li .i64 x36.F.a0.N, ls x36.F.a0.Text, li .i64 x36.F.a1.N, ls x36.F.a1.Text, li .i64 x36.F.a2.N, ls x36.F.a2.Text, li .i64 x36.F.a3.N, ls x36.F.a3.Text]]) (by kernel_rfl) (args_clean (by kernel_rfl) (args_clean (by kernel_rfl) args_nil)) (F49_ok n x35 x36 r37 hr) (by kernel_rfl))) (fun r37 => ?_)
          refine SimI.run 6 [(13, .one (lb r37.2)), (12, .one (.ptr 12 0)), (29, .one (lb r37.2)), (28, .agg [li .i64 r37.1.ID, li .u8 r37.1.Mask, li .i64 r37.1.At.X, li .i64 r37.1.At.Y, li .i64 r37.1.F.a0.N, ls r37.1.F.a0.Text, li .i64 r37.1.F.a1.N, ls r37.1.F.a1.Text, li .i64 r37.1.F.a2.N, ls r37.1.F.a2.Text, li .i64 r37.1.F.a3.N, ls r37.1.F.a3.Text]), (20, .tup [.agg [li .i64 r37.1.ID, li .u8 r37.1.Mask, li .i64 r37.1.At.X, li .i64 r37.1.At.Y, li .i64 r37.1.F.a0.N, ls r37.1.F.a0.Text, li .i64 r37.1.F.a1.N, ls r37.1.F.a1.Text, li .i64 r37.1.F.a2.N, ls r37.1.F.a2.Text, li .i64 r37.1.F.a3.N, ls r37.1.F.a3.Text], .one (lb r37.2)])] [(12, some (.cells [li .i64 r37.1.ID, li .u8 r37.1.Mask, li .i64 r37.1.At.X, li .i64 r37.1.At.Y, li .i64 r37.1.F.a0.N, ls r37.1.F.a0.Text, li .i64 r37.1.F.a1.N, ls r37.1.F.a1.Text, li .i64 r37.1.F.a2.N, ls r37.1.F.a2.Text, li .i64 r37.1.F.a3.N, ls r37.1.F.a3.Text])), (12, some (.cells [li .i64 0, li .u8 0, li .i64 0, li .i64 0, li .i64 0, ls ByteArray.empty, li .i64 0, ls ByteArray.empty, li .i64 0, ls ByteArray.empty, li .i64 0, ls ByteArray.empty]))] (by kernel_rfl) ?_
          refine SimI.done (by kernel_rfl) ?_
          refine SimE.thenN ?_
          refine Sim.seq ?_
          refine Sim.region0 ?_
          refine SimI.run 1 [(30, .one (lb r37.2))] [] (by kernel_rfl) ?_
          refine SimI.done (by kernel_rfl) ?_
          refine SimE.thenN ?_
          refine Sim.cond r37.2 (by kernel_rfl) ?_ ?_
          · refine Sim.region0 ?_
            refine SimI.run 6 [(36, .one (vw Event.cod [(Event.mk 2 r37.1.ID (Thing.mk 0 (Point.mk 0 0) (A4.mk (Field.mk 0 ByteArray.empty) (Field.mk 0 ByteArray.empty) (Field.mk 0 ByteArray.empty) (Field.mk 0 ByteArray.empty))) r37.1)])), (35, .agg [li .i64 2, li .i64 r37.1.ID, li .i64 0, li .i64 0, li .i64 0, li .i64 0, ls ByteArray.empty, li .i64 0, ls ByteArray.empty, li .i64 0, ls ByteArray.empty, li .i64 0, ls ByteArray.empty, li .i64 r37.1.ID, li .u8 r37.1.Mask, li .i64 r37.1.At.X, li .i64 r37.1.At.Y, li .i64 r37.1.F.a0.N, ls r37.1.F.a0.Text, li .i64 r37.1.F.a1.N, ls r37.1.F.a1.Text, li .i64 r37.1.F.a2.N, ls r37.1.F.a2.Text, li .i64 r37.1.F.a3.N, ls r37.1.F.a3.Text]), (34, .agg [li .i64 r37.1.ID, li .u8 r37.1.Mask, li .i64 r37.1.At.X, li .i64 r37.1.At.Y, li .i64 r37.1.F.a0.N, ls r37.1.F.a0.Text, li .i64 r37.1.F.a1.N, ls r37.1.F.a1.Text, li .i64 r37.1.F.a2.N, ls r37.1.F.a2.Text, li .i64 r37.1.F.a3.N, ls r37.1.F.a3.Text]), (33, .one (li .i64 r37.1.ID)), (32, .one (.ptr 12 0)), (31, .one (lnil))] [] (by kernel_rfl) ?_
            refine SimI.guard (c := (([] : List Event).length + 1) * 264 ≤ maxCells ∧ ([] : List Event).length + 1 ≤ maxCells) { dst := some 37, op := POp.app 100011 45 25 264 (Operand.tmp 31) (Operand.tmp 36), guard := none, hints := [] } [(37, .one (.osl 100011 0 0 ([(Event.mk 2 r37.1.ID (Thing.mk 0 (Point.mk 0 0) (A4.mk (Field.mk 0 ByteArray.empty) (Field.mk 0 ByteArray.empty) (Field.mk 0 ByteArray.empty) (Field.mk 0 ByteArray.empty))) r37.1)]).length))] [(100011, some (.arr 45 Event.cod.sz 0 ([(Event.mk 2 r37.1.ID (Thing.mk 0 (Point.mk 0 0) (A4.mk (Field.mk 0 ByteArray.empty) (Field.mk 0 ByteArray.empty) (Field.mk 0 ByteArray.empty) (Field.mk 0 ByteArray.empty))) r37.1)]).length (getOf Event.cod [(Event.mk 2 r37.1.ID (Thing.mk 0 (Point.mk 0 0) (A4.mk (Field.mk 0 ByteArray.empty) (Field.mk 0 ByteArray.empty) (Field.mk 0 ByteArray.empty) (Field.mk 0 ByteArray.empty))) r37.1)])))] (by kernel_rfl) (fun hc => pOp_eff (by kernel_rfl) (by kernel_rfl) (eff_appN (c := Event.cod) (a := (Event.mk 2 r37.1.ID (Thing.mk 0 (Point.mk 0 0) (A4.mk (Field.mk 0 ByteArray.empty) (Field.mk 0 ByteArray.empty) (Field.mk 0 ByteArray.empty) (Field.mk 0 ByteArray.empty))) r37.1)) (by kernel_rfl) (by kernel_rfl) (by kernel_rfl) (by kernel_rfl) (by kernel_rfl) (by kernel_rfl))) ?_
            refine SimI.run 1 [(11, .one (.osl 100011 0 0 ([(Event.mk 2 r37.1.ID (Thing.mk 0 (Point.mk 0 0) (A4.mk (Field.mk 0 ByteArray.empty) (Field.mk 0 ByteArray.empty) (Field.mk 0 ByteArray.empty) (Field.mk 0 ByteArray.empty))) r37.1)]).length))] [] (by kernel_rfl) ?_
            refine SimI.done (by kernel_rfl) ?_
            refine SimE.thenN ?_
            refine Sim.pre (ts := [9, 10, 11]) (os := [12, 100011]) [(9, .one (vw Thing.cod l11)), (10, .one (vw Thing.cod l12)), (11, .one (ownL 100011 0 [(Event.mk 2 r37.1.ID (Thing.mk 0 (Point.mk 0 0) (A4.mk (Field.mk 0 ByteArray.empty) (Field.mk 0 ByteArray.empty) (Field.mk 0 ByteArray.empty) (Field.mk 0 ByteArray.empty))) r37.1)]))] (ownM Event.cod 45 100011 0 [(Event.mk 2 r37.1.ID (Thing.mk 0 (Point.mk 0 0) (A4.mk (Field.mk 0 ByteArray.empty) (Field.mk 0 ByteArray.empty) (Field.mk 0 ByteArray.empty) (Field.mk 0 ByteArray.empty))) r37.1)] []) (by kernel_rfl) (by kernel_rfl) (by kernel_rfl) ?_
            exact F18_j40_ok n l11 l12 rec_l15 m_l15 ih_l15 [(Event.mk 2 r37.1.ID (Thing.mk 0 (Point.mk 0 0) (A4.mk (Field.mk 0 ByteArray.empty) (Field.mk 0 ByteArray.empty) (Field.mk 0 ByteArray.empty) (Field.mk 0 ByteArray.empty))) r37.1)] 0
          · refine Sim.skip ?_
            refine SimE.thenN ?_
            refine Sim.pre (ts := [9, 10, 11]) (os := [12, 100011]) [(9, .one (vw Thing.cod l11)), (10, .one (vw Thing.cod l12)), (11, .one (ownL 100011 0 ([] : List Event)))] (ownM Event.cod 45 100011 0 ([] : List Event) []) (by kernel_rfl) (by kernel_rfl) (by kernel_rfl) ?_
            exact F18_j40_ok n l11 l12 rec_l15 m_l15 ih_l15 ([] : List Event) 0
    | cons l26h l26t =>
      unfold F18_j28
      refine Sim.seq ?_
      refine Sim.region [(9, .one (vw Thing.cod l11)), (10, .one (vw Thing.cod l12)), (11, .one (.osl 100011 g27 0 ((l26h :: l26t)).length))] ((100011, some (.arr 45 Event.cod.sz g27 ((l26h :: l26t)).length (getOf Event.cod (l26h :: l26t)))) :: []) (by kernel_rfl) ?_
      refine SimI.run 4 [(88, .one (lb (((l12).length : Int) == 0))), (87, .one (lb (((l12).length : Int) == 0))), (86, .one (li .i64 ((l12).length : Int))), (85, .one (vw Thing.cod l12))] [] (by kernel_rfl) ?_
      refine SimI.split 88 (((l12).length : Int) == 0) (by kernel_rfl) ?_ ?_
      · refine SimI.run 11 [(84, .one (lb true)), (98, .one (lb true)), (97, .tup []), (96, .tup []), (95, .tup []), (94, .tup []), (93, .tup []), (92, .tup []), (91, .tup []), (90, .tup []), (89, .tup [])] [] (by kernel_rfl) ?_
        refine SimI.done (by kernel_rfl) ?_
        refine SimE.thenN ?_
        refine Sim.condT (by kernel_rfl) ?_
        refine Sim.pre (ts := [9, 10, 11]) (os := [100011]) [(9, .one (vw Thing.cod l11)), (10, .one (vw Thing.cod l12)), (11, .one (ownL 100011 g27 (l26h :: l26t)))] (ownM Event.cod 45 100011 g27 (l26h :: l26t) []) (by kernel_rfl) (by kernel_rfl) (by kernel_rfl) ?_
        exact F18_j33_ok n l11 l12 rec_l15 m_l15 ih_l15 (l26h :: l26t) g27
      · refine SimI.run 1 [(89, .one (vw Thing.cod l11))] [] (by kernel_rfl) ?_
        refine SimI.bind (og := ix l11 0) { dst := some 90, op := POp.iaddrS 11 (Operand.tmp 89) (Operand.const (Value.int IntKind.i64 0)), guard := some (88, false), hints := [(89, Hint.imm)] } (fun x29 => [(90, .one (.eptr (Thing.cod.enc x29) 0))]) (fun x29 => []) (by kernel_rfl) (fun x29 hr => pOp_eff (by kernel_rfl) (by kernel_rfl) (eff_idx (c := Thing.cod) (l := l11) (k := .i64) (n := 0) (by kernel_rfl) (by kernel_rfl) (by kernel_rfl) hr)) (fun x29 => ?_)
        refine SimI.run 3 [(93, .one (vw Thing.cod l12)), (92, .one (li .i64 x29.ID)), (91, .one (.eptr (Thing.cod.enc x29) 0))] [] (by kernel_rfl) ?_
        refine SimI.bind (og := ix l12 0) { dst := some 94, op := POp.iaddrS 11 (Operand.tmp 93) (Operand.const (Value.int IntKind.i64 0)), guard := some (88, false), hints := [(93, Hint.imm)] } (fun x30 => [(94, .one (.eptr (Thing.cod.enc x30) 0))]) (fun x30 => []) (by kernel_rfl) (fun x30 hr => pOp_eff (by kernel_rfl) (by kernel_rfl) (eff_idx (c := Thing.cod) (l := l12) (k := .i64) (n := 0) (by kernel_rfl) (by kernel_rfl) (by kernel_rfl) hr)) (fun x30 => ?_)
        refine SimI.run 5 [(84, .one (lb (decide (x29.ID < x30.ID)))), (98, .one (lb (decide (x29.ID < x30.ID)))), (97, .one (lb (decide (x29.ID < x30.ID)))), (96, .one (li .i64 x30.ID)), (95, .one (.eptr (Thing.cod.enc x30) 0))] [] (by kernel_rfl) ?_
        refine SimI.done (by kernel_rfl) ?_
        refine SimE.thenN ?_
        refine Sim.cond (decide (x29.ID < x30.ID)) (by kernel_rfl) ?_ ?_
        · refine Sim.pre (ts := [9, 10, 11]) (os := [100011]) [(9, .one (vw Thing.cod l11)), (10, .one (vw Thing.cod l12)), (11, .one (ownL 100011 g27 (l26h :: l26t)))] (ownM Event.cod 45 100011 g27 (l26h :: l26t) []) (by kernel_rfl) (by kernel_rfl) (by kernel_rfl) ?_
          exact F18_j33_ok n l11 l12 rec_l15 m_l15 ih_l15 (l26h :: l26t) g27
        · refine Sim.seq ?_
          refine Sim.seq ?_
          refine Sim.region0 ?_
          refine SimI.run 1 [(21, .one (vw Thing.cod l11))] [] (by kernel_rfl) ?_
          refine SimI.bind (og := ix l11 0) { dst := some 22, op := POp.iaddrS 11 (Operand.tmp 21) (Operand.const (Value.int IntKind.i64 0)), guard := none, hints := [(21, Hint.imm)] } (fun x35 => [(22, .one (.eptr (Thing.cod.enc x35) 0))]) (fun x35 => []) (by kernel_rfl) (fun x35 hr => pOp_eff (by kernel_rfl) (by kernel_rfl) (eff_idx (c := Thing.cod) (l := l11) (k := .i64) (n := 0) (by kernel_rfl) (by kernel_rfl) (by kernel_rfl) hr)) (fun x35 => ?_)
          refine SimI.run 2 [(24, .one (vw Thing.cod l12)), (23, .agg [li .i64 x35.ID, li .i64 x35.At.X, li .i64 x35.At.Y, li .i64 x35.F.a0.N, ls x35.F.a0.Text, li .i64 x35.F.a1.N, ls x35.F.a1.Text, li .i64 x35.F.a2.N, ls x35.F.a2.Text, li .i64 x35.F.a3.N, ls x35.F.a3.Text])] [] (by kernel_rfl) ?_
          refine SimI.bind (og := ix l12 0) { dst := some 25, op := POp.iaddrS 11 (Operand.tmp 24) (Operand.const (Value.int IntKind.i64 0)), guard := none, hints := [(24, Hint.imm)] } (fun x36 => [(25, .one (.eptr (Thing.cod.enc x36) 0))]) (fun x36 => []) (by kernel_rfl) (fun x36 hr => pOp_eff (by kernel_rfl) (by kernel_rfl) (eff_idx (c := Thing.cod) (l := l12) (k := .i64) (n := 0) (by kernel_rfl) (by kernel_rfl) (by kernel_rfl) hr)) (fun x36 => ?_)
          refine SimI.run 1 [(26, .agg [li .i64 x36.ID, li .i64 x36.At.X, li .i64 x36.At.Y, li .i64 x36.F.a0.N, ls x36.F.a0.Text, li .i64 x36.F.a1.N, ls x36.F.a1.Text, li .i64 x36.F.a2.N, ls x36.F.a2.Text, li .i64 x36.F.a3.N, ls x36.F.a3.Text])] [] (by kernel_rfl) ?_
          refine SimI.bind (og := F49 n x35 x36) { dst := some 27, op := POp.call false [[], []] 49 [Operand.tmp 23, Operand.tmp 26], guard := none, hints := [(23, Hint.imm), (26, Hint.imm)] } (fun r37 => [(27, .tup [.agg [li .i64 r37.1.ID, li .u8 r37.1.Mask, li .i64 r37.1.At.X, li .i64 r37.1.At.Y, li .i64 r37.1.F.a0.N, ls r37.1.F.a0.Text, li .i64 r37.1.F.a1.N, ls r37.1.F.a1.Text, li .i64 r37.1.F.a2.N, ls r37.1.F.a2.Text, li .i64 r37.1.F.a3.N, ls r37.1.F.a3.Text], .one (lb r37.2)])]) (fun r37 => []) (by kernel_rfl) (fun r37 hr => pOp_eff (by kernel_rfl) (by kernel_rfl) (eff_call (ARGS := [.agg [li .i64 x35.ID, li .i64 x35.At.X, li .i64 x35.At.Y, li .i64 x35.F.a0.N, ls x35.F.a0.Text, li .i64 x35.F.a1.N, ls x35.F.a1.Text, li .i64 x35.F.a2.N, ls x35.F.a2.Text, li .i64 x35.F.a3.N, ls x35.F.a3.Text], .agg [li .i64 x36.ID, li .i64 x36.At.X, li .i64 x36.At.Y, li .i64 x36.F.a0.N, ls x36.F.a0.Text, li .i64 x36.F.a1.N, ls x36.F.a1.Text, li .i64 x36.F.a2.N, ls x36.F.a2.Text, li .i64 x36.F.a3.N, ls x36.F.a3.Text]]) (by kernel_rfl) (args_clean (by kernel_rfl) (args_clean (by kernel_rfl) args_nil)) (F49_ok n x35 x36 r37 hr) (by kernel_rfl))) (fun r37 => ?_)
          refine SimI.run 6 [(13, .one (lb r37.2)), (12, .one (.ptr 12 0)), (29, .one (lb r37.2)), (28, .agg [li .i64 r37.1.ID, li .u8 r37.1.Mask, li .i64 r37.1.At.X, li .i64 r37.1.At.Y, li .i64 r37.1.F.a0.N, ls r37.1.F.a0.Text, li .i64 r37.1.F.a1.N, ls r37.1.F.a1.Text, li .i64 r37.1.F.a2.N, ls r37.1.F.a2.Text, li .i64 r37.1.F.a3.N, ls r37.1.F.a3.Text]), (20, .tup [.agg [li .i64 r37.1.ID, li .u8 r37.1.Mask, li .i64 r37.1.At.X, li .i64 r37.1.At.Y, li .i64 r37.1.F.a0.N, ls r37.1.F.a0.Text, li .i64 r37.1.F.a1.N, ls r37.1.F.a1.Text, li .i64 r37.1.F.a2.N, ls r37.1.F.a2.Text, li .i64 r37.1.F.a3.N, ls r37.1.F.a3.Text], .one (lb r37.2)])] [(12, some (.cells [li .i64 r37.1.ID, li .u8 r37.1.Mask, li .i64 r37.1.At.X, li .i64 r37.1.At.Y, li .i64 r37.1.F.a0.N, ls r37.1.F.a0.Text, li .i64 r37.1.F.a1.N, ls r37.1.F.a1.Text, li .i64 r37.1.F.a2.N, ls r37.1.F.a2.Text, li .i64 r37.1.F.a3.N, ls r37.1.F.a3.Text])), (12, some (.cells [li .i64 0, li .u8 0, li .i64 0, li .i64 0, li .i64 0, ls ByteArray.empty, li .i64 0, ls ByteArray.empty, li .i64 0, ls ByteArray.empty, li .i64 0, ls ByteArray.empty]))] (by kernel_rfl) ?_
          refine SimI.done (by kernel_rfl) ?_
          refine SimE.thenN ?_
          refine Sim.seq ?_
          refine Sim.region0 ?_
          refine SimI.run 1 [(30, .one (lb r37.2))] [] (by kernel_rfl) ?_
          refine SimI.done (by kernel_rfl) ?_
          refine SimE.thenN ?_
          refine Sim.cond r37.2 (by kernel_rfl) ?_ ?_
          · refine Sim.region0 ?_
            refine SimI.run 6 [(36, .one (vw Event.cod [(Event.mk 2 r37.1.ID (Thing.mk 0 (Point.mk 0 0) (A4.mk (Field.mk 0 ByteArray.empty) (Field.mk 0 ByteArray.empty) (Field.mk 0 ByteArray.empty) (Field.mk 0 ByteArray.empty))) r37.1)])), (35, .agg [li .i64 2, li .i64 r37.1.ID, li .i64 0, li .i64 0, li .i64 0, li .i64 0, ls ByteArray.empty, li .i64 0, ls ByteArray.empty, li .i64 0, ls ByteArray.empty, li .i64 0, ls ByteArray.empty, li .i64 r37.1.ID, li .u8 r37.1.Mask, li .i64 r37.1.At.X, li .i64 r37.1.At.Y, li .i64 r37.1.F.a0.N, ls r37.1.F.a0.Text, li .i64 r37.1.F.a1.N, ls r37.1.F.a1.Text, li .i64 r37.1.F.a2.N, ls r37.1.F.a2.Text, li .i64 r37.1.F.a3.N, ls r37.1.F.a3.Text]), (34, .agg [li .i64 r37.1.ID, li .u8 r37.1.Mask, li .i64 r37.1.At.X, li .i64 r37.1.At.Y, li .i64 r37.1.F.a0.N, ls r37.1.F.a0.Text, li .i64 r37.1.F.a1.N, ls r37.1.F.a1.Text, li .i64 r37.1.F.a2.N, ls r37.1.F.a2.Text, li .i64 r37.1.F.a3.N, ls r37.1.F.a3.Text]), (33, .one (li .i64 r37.1.ID)), (32, .one (.ptr 12 0)), (31, .one (.osl 100011 g27 0 ((l26h :: l26t)).length))] [] (by kernel_rfl) ?_
            refine SimI.guard (c := (((l26h :: l26t)).length + 1) * 264 ≤ maxCells ∧ ((l26h :: l26t)).length + 1 ≤ maxCells) { dst := some 37, op := POp.app 100011 45 25 264 (Operand.tmp 31) (Operand.tmp 36), guard := none, hints := [] } [(37, .one (.osl 100011 (g27 + 1) 0 (((l26h :: l26t) ++ [(Event.mk 2 r37.1.ID (Thing.mk 0 (Point.mk 0 0) (A4.mk (Field.mk 0 ByteArray.empty) (Field.mk 0 ByteArray.empty) (Field.mk 0 ByteArray.empty) (Field.mk 0 ByteArray.empty))) r37.1)])).length))] [(100011, some (.arr 45 Event.cod.sz (g27 + 1) (((l26h :: l26t) ++ [(Event.mk 2 r37.1.ID (Thing.mk 0 (Point.mk 0 0) (A4.mk (Field.mk 0 ByteArray.empty) (Field.mk 0 ByteArray.empty) (Field.mk 0 ByteArray.empty) (Field.mk 0 ByteArray.empty))) r37.1)])).length (getOf Event.cod ((l26h :: l26t) ++ [(Event.mk 2 r37.1.ID (Thing.mk 0 (Point.mk 0 0) (A4.mk (Field.mk 0 ByteArray.empty) (Field.mk 0 ByteArray.empty) (Field.mk 0 ByteArray.empty) (Field.mk 0 ByteArray.empty))) r37.1)]))))] (by kernel_rfl) (fun hc => pOp_eff (by kernel_rfl) (by kernel_rfl) (eff_appO (c := Event.cod) (g := g27) (l := (l26h :: l26t)) (a := (Event.mk 2 r37.1.ID (Thing.mk 0 (Point.mk 0 0) (A4.mk (Field.mk 0 ByteArray.empty) (Field.mk 0 ByteArray.empty) (Field.mk 0 ByteArray.empty) (Field.mk 0 ByteArray.empty))) r37.1)) (by kernel_rfl) (by kernel_rfl) (by kernel_rfl) (by kernel_rfl) hc)) ?_
            refine SimI.run 1 [(11, .one (.osl 100011 (g27 + 1) 0 (((l26h :: l26t) ++ [(Event.mk 2 r37.1.ID (Thing.mk 0 (Point.mk 0 0) (A4.mk (Field.mk 0 ByteArray.empty) (Field.mk 0 ByteArray.empty) (Field.mk 0 ByteArray.empty) (Field.mk 0 ByteArray.empty))) r37.1)])).length))] [] (by kernel_rfl) ?_
            refine SimI.done (by kernel_rfl) ?_
            refine SimE.thenN ?_
            refine Sim.pre (ts := [9, 10, 11]) (os := [12, 100011]) [(9, .one (vw Thing.cod l11)), (10, .one (vw Thing.cod l12)), (11, .one (ownL 100011 (g27 + 1) ((l26h :: l26t) ++ [(Event.mk 2 r37.1.ID (Thing.mk 0 (Point.mk 0 0) (A4.mk (Field.mk 0 ByteArray.empty) (Field.mk 0 ByteArray.empty) (Field.mk 0 ByteArray.empty) (Field.mk 0 ByteArray.empty))) r37.1)])))] (ownM Event.cod 45 100011 (g27 + 1) ((l26h :: l26t) ++ [(Event.mk 2 r37.1.ID (Thing.mk 0 (Point.mk 0 0) (A4.mk (Field.mk 0 ByteArray.empty) (Field.mk 0 ByteArray.empty) (Field.mk 0 ByteArray.empty) (Field.mk 0 ByteArray.empty))) r37.1)]) []) (by kernel_rfl) (by kernel_rfl) (by kernel_rfl) ?_
            exact F18_j40_ok n l11 l12 rec_l15 m_l15 ih_l15 ((l26h :: l26t) ++ [(Event.mk 2 r37.1.ID (Thing.mk 0 (Point.mk 0 0) (A4.mk (Field.mk 0 ByteArray.empty) (Field.mk 0 ByteArray.empty) (Field.mk 0 ByteArray.empty) (Field.mk 0 ByteArray.empty))) r37.1)]) (g27 + 1)
          · refine Sim.skip ?_
            refine SimE.thenN ?_
            refine Sim.pre (ts := [9, 10, 11]) (os := [12, 100011]) [(9, .one (vw Thing.cod l11)), (10, .one (vw Thing.cod l12)), (11, .one (ownL 100011 g27 (l26h :: l26t)))] (ownM Event.cod 45 100011 g27 (l26h :: l26t) []) (by kernel_rfl) (by kernel_rfl) (by kernel_rfl) ?_
            exact F18_j40_ok n l11 l12 rec_l15 m_l15 ih_l15 (l26h :: l26t) g27

def F18_j18 (n : Nat) (l11 : (List Thing)) (l12 : (List Thing)) (rec_l15 : (List Thing) → (List Thing) → (List Event) → Option (List Event)) (l16 : (List Event)) : Option (List Event) :=
    if ((l11).length : Int) == 0 then
      F18_j23 n l11 l12 rec_l15 l16
    else
      if decide ((0 : Int) < ((l12).length : Int)) then
        (ix l12 0).bind fun (x19 : Thing) =>
        (ix l11 0).bind fun (x20 : Thing) =>
        if decide (x19.ID < x20.ID) then
          F18_j23 n l11 l12 rec_l15 l16
        else
          F18_j28 n l11 l12 rec_l15 l16
      else
        F18_j28 n l11 l12 rec_l15 l16
theorem F18_j18_ok (n : Nat) (a0 : (List Thing)) (a1 : Rect) (a2 : (List Thing)) (a3 : Rect) (l11 : (List Thing)) (l12 : (List Thing)) (rec_l15 : (List Thing) → (List Thing) → (List Event) → Option (List Event)) (m_l15 : Nat) (ih_l15 : ∀ (l11 : (List Thing)) (l12 : (List Thing)) (l13 : (List Event)) (g14 : Nat), SimL Try.prog D (n + 8) m_l15 pc18_c31 [(9, .one (vw Thing.cod l11)), (10, .one (vw Thing.cod l12)), (11, .one (ownL 100011 g14 l13))] (ownM Event.cod 45 100011 g14 l13 []) (rec_l15 l11 l12 l13) (QB 0 (QT Try.prog D (n + 8) pc18_c36 (QF pc18_r 0 F18_e)))) (l16 : (List Event)) (g17 : Nat) : Sim Try.prog D (n + 8) pc18_c27 [(9, .one (vw Thing.cod l11)), (10, .one (vw Thing.cod l12)), (11, .one (ownL 100011 g17 l16))] (ownM Event.cod 45 100011 g17 l16 []) (F18_j18 n l11 l12 rec_l15 l16) (QB 2 (QB 1 (QL Try.prog D (n + 8) m_l15 pc18_c31 (QB 0 (QT Try.prog D (n + 8) pc18_c36 (QF pc18_r 0 F18_e)))))) := by
    cases l16 with
    | nil =>
      unfold F18_j18
      refine Sim.seq ?_
      refine Sim.region [(9, .one (vw Thing.cod l11)), (10, .one (vw Thing.cod l12)), (11, .one (lnil))] [] (by kernel_rfl) ?_
      refine SimI.run 4 [(55, .one (lb (((l11).length : Int) == 0))), (54, .one (lb (((l11).length : Int) == 0))), (53, .one (li .i64 ((l11).length : Int))), (52, .one (vw Thing.cod l11))] [] (by kernel_rfl) ?_
      refine SimI.split 55 (((l11).length : Int) == 0) (by kernel_rfl) ?_ ?_
      · refine SimI.run 16 [(51, .one (lb true)), (70, .one (lb true)), (69, .tup []), (68, .tup []), (67, .tup []), (66, .tup []), (65, .tup []), (64, .tup []), (63, .tup []), (62, .tup []), (61, .tup []), (60, .tup []), (59, .tup []), (58, .tup []), (57, .tup []), (56, .tup [])] [] (by kernel_rfl) ?_
        refine SimI.done (by kernel_rfl) ?_
        refine SimE.thenN ?_
        refine Sim.condT (by kernel_rfl) ?_
        refine Sim.pre (ts := [9, 10, 11]) (os := [100011]) [(9, .one (vw Thing.cod l11)), (10, .one (vw Thing.cod l12)), (11, .one (ownL 100011 0 ([] : List Event)))] (ownM Event.cod 45 100011 0 ([] : List Event) []) (by kernel_rfl) (by kernel_rfl) (by kernel_rfl) ?_
        exact F18_j23_ok n a0 a1 a2 a3 l11 l12 rec_l15 m_l15 ih_l15 ([] : List Event) 0
      · refine SimI.run 4 [(59, .one (lb (decide ((0 : Int) < ((l12).length : Int))))), (58, .one (lb (decide ((0 : Int) < ((l12).length : Int))))), (57, .one (li .i64 ((l12).length : Int))), (56, .one (vw Thing.cod l12))] [] (by kernel_rfl) ?_
        refine SimI.split 59 (decide ((0 : Int) < ((l12).length : Int))) (by kernel_rfl) ?_ ?_
        · refine SimI.run 1 [(60, .one (vw Thing.cod l12))] [] (by kernel_rfl) ?_
          refine SimI.bind (og := ix l12 0) { dst := some 61, op := POp.iaddrS 11 (Operand.tmp 60) (Operand.const (Value.int IntKind.i64 0)), guard := some (59, true), hints := [(60, Hint.imm)] } (fun x19 => [(61, .one (.eptr (Thing.cod.enc x19) 0))]) (fun x19 => []) (by kernel_rfl) (fun x19 hr => pOp_eff (by kernel_rfl) (by kernel_rfl) (eff_idx (c := Thing.cod) (l := l12) (k := .i64) (n := 0) (by kernel_rfl) (by kernel_rfl) (by kernel_rfl) hr)) (fun x19 => ?_)
          refine SimI.run 3 [(64, .one (vw Thing.cod l11)), (63, .one (li .i64 x19.ID)), (62, .one (.eptr (Thing.cod.enc x19) 0))] [] (by kernel_rfl) ?_
          refine SimI.bind (og := ix l11 0) { dst := some 65, op := POp.iaddrS 11 (Operand.tmp 64) (Operand.const (Value.int IntKind.i64 0)), guard := some (59, true), hints := [(64, Hint.imm)] } (fun x20 => [(65, .one (.eptr (Thing.cod.enc x20) 0))]) (fun x20 => []) (by kernel_rfl) (fun x20 hr => pOp_eff (by kernel_rfl) (by kernel_rfl) (eff_idx (c := Thing.cod) (l := l11) (k := .i64) (n := 0) (by kernel_rfl) (by kernel_rfl) (by kernel_rfl) hr)) (fun x20 => ?_)
          refine SimI.run 6 [(51, .one (lb (decide (x19.ID < x20.ID)))), (70, .one (lb (decide (x19.ID < x20.ID)))), (69, .one (lb (decide (x19.ID < x20.ID)))), (68, .one (lb (decide (x19.ID < x20.ID)))), (67, .one (li .i64 x20.ID)), (66, .one (.eptr (Thing.cod.enc x20) 0))] [] (by kernel_rfl) ?_
          refine SimI.done (by kernel_rfl) ?_
          refine SimE.thenN ?_
          refine Sim.cond (decide (x19.ID < x20.ID)) (by kernel_rfl) ?_ ?_
          · refine Sim.pre (ts := [9, 10, 11]) (os := [100011]) [(9, .one (vw Thing.cod l11)), (10, .one (vw Thing.cod l12)), (11, .one (ownL 100011 0 ([] : List Event)))] (ownM Event.cod 45 100011 0 ([] : List Event) []) (by kernel_rfl) (by kernel_rfl) (by kernel_rfl) ?_
            exact F18_j23_ok n a0 a1 a2 a3 l11 l12 rec_l15 m_l15 ih_l15 ([] : List Event) 0
          · refine Sim.pre (ts := [9, 10, 11]) (os := [100011]) [(9, .one (vw Thing.cod l11)), (10, .one (vw Thing.cod l12)), (11, .one (ownL 100011 0 ([] : List Event)))] (ownM Event.cod 45 100011 0 ([] : List Event) []) (by kernel_rfl) (by kernel_rfl) (by kernel_rfl) ?_
            exact F18_j28_ok n a0 a1 a2 a3 l11 l12 rec_l15 m_l15 ih_l15 ([] : List Event) 0
        · refine SimI.run 12 [(51, .one (lb false)), (70, .one (lb false)), (69, .one (lb false)), (68, .tup []), (67, .tup []), (66, .tup []), (65, .tup []), (64, .tup []), (63, .tup []), (62, .tup []), (61, .tup []), (60, .tup [])] [] (by kernel_rfl) ?_
          refine SimI.done (by kernel_rfl) ?_
          refine SimE.thenN ?_
          refine Sim.condF (by kernel_rfl) ?_
          refine Sim.pre (ts := [9, 10, 11]) (os := [100011]) [(9, .one (vw Thing.cod l11)), (10, .one (vw Thing.cod l12)), (11, .one (ownL 100011 0 ([] : List Event)))] (ownM Event.cod 45 100011 0 ([] : List Event) []) (by kernel_rfl) (by kernel_rfl) (by kernel_rfl) ?_
          exact F18_j28_ok n a0 a1 a2 a3 l11 l12 rec_l15 m_l15 ih_l15 ([] : List Event) 0
    | cons l16h l16t =>
      unfold F18_j18
      refine Sim.seq ?_
      refine Sim.region [(9, .one (vw Thing.cod l11)), (10, .one (vw Thing.cod l12)), (11, .one (.osl 100011 g17 0 ((l16h :: l16t)).length))] ((100011, some (.arr 45 Event.cod.sz g17 ((l16h :: l16t)).length (getOf Event.cod (l16h :: l16t)))) :: []) (by kernel_rfl) ?_
      refine SimI.run 4 [(55, .one (lb (((l11).length : Int) == 0))), (54, .one (lb (((l11).length : Int) == 0))), (53, .one (li .i64 ((l11).length : Int))), (52, .one (vw Thing.cod l11))] [] (by kernel_rfl) ?_
      refine SimI.split 55 (((l11).length : Int) == 0) (by kernel_rfl) ?_ ?_
      · refine SimI.run 16 [(51, .one (lb true)), (70, .one (lb true)), (69, .tup []), (68, .tup []), (67, .tup []), (66, .tup []), (65, .tup []), (64, .tup []), (63, .tup []), (62, .tup []), (61, .tup []), (60, .tup []), (59, .tup []), (58, .tup []), (57, .tup []), (56, .tup [])] [] (by kernel_rfl) ?_
        refine SimI.done (by kernel_rfl) ?_
        refine SimE.thenN ?_
        refine Sim.condT (by kernel_rfl) ?_
        refine Sim.pre (ts := [9, 10, 11]) (os := [100011]) [(9, .one (vw Thing.cod l11)), (10, .one (vw Thing.cod l12)), (11, .one (ownL 100011 g17 (l16h :: l16t)))] (ownM Event.cod 45 100011 g17 (l16h :: l16t) []) (by kernel_rfl) (by kernel_rfl) (by kernel_rfl) ?_
        exact F18_j23_ok n a0 a1 a2 a3 l11 l12 rec_l15 m_l15 ih_l15 (l16h :: l16t) g17
      · refine SimI.run 4 [(59, .one (lb (decide ((0 : Int) < ((l12).length : Int))))), (58, .one (lb (decide ((0 : Int) < ((l12).length : Int))))), (57, .one (li .i64 ((l12).length : Int))), (56, .one (vw Thing.cod l12))] [] (by kernel_rfl) ?_
        refine SimI.split 59 (decide ((0 : Int) < ((l12).length : Int))) (by kernel_rfl) ?_ ?_
        · refine SimI.run 1 [(60, .one (vw Thing.cod l12))] [] (by kernel_rfl) ?_
          refine SimI.bind (og := ix l12 0) { dst := some 61, op := POp.iaddrS 11 (Operand.tmp 60) (Operand.const (Value.int IntKind.i64 0)), guard := some (59, true), hints := [(60, Hint.imm)] } (fun x19 => [(61, .one (.eptr (Thing.cod.enc x19) 0))]) (fun x19 => []) (by kernel_rfl) (fun x19 hr => pOp_eff (by kernel_rfl) (by kernel_rfl) (eff_idx (c := Thing.cod) (l := l12) (k := .i64) (n := 0) (by kernel_rfl) (by kernel_rfl) (by kernel_rfl) hr)) (fun x19 => ?_)
          refine SimI.run 3 [(64, .one (vw Thing.cod l11)), (63, .one (li .i64 x19.ID)), (62, .one (.eptr (Thing.cod.enc x19) 0))] [] (by kernel_rfl) ?_
          refine SimI.bind (og := ix l11 0) { dst := some 65, op := POp.iaddrS 11 (Operand.tmp 64) (Operand.const (Value.int IntKind.i64 0)), guard := some (59, true), hints := [(64, Hint.imm)] } (fun x20 => [(65, .one (.eptr (Thing.cod.enc x20) 0))]) (fun x20 => []) (by kernel_rfl) (fun x20 hr => pOp_eff (by kernel_rfl) (by kernel_rfl) (eff_idx (c := Thing.cod) (l := l11) (k := .i64) (n := 0) (by kernel_rfl) (by kernel_rfl) (by kernel_rfl) hr)) (fun x20 => ?_)
          refine SimI.run 6 [(51, .one (lb (decide (x19.ID < x20.ID)))), (70, .one (lb (decide (x19.ID < x20.ID)))), (69, .one (lb (decide (x19.ID < x20.ID)))), (68, .one (lb (decide (x19.ID < x20.ID)))), (67, .one (li .i64 x20.ID)), (66, .one (.eptr (Thing.cod.enc x20) 0))] [] (by kernel_rfl) ?_
          refine SimI.done (by kernel_rfl) ?_
          refine SimE.thenN ?_
          refine Sim.cond (decide (x19.ID < x20.ID)) (by kernel_rfl) ?_ ?_
          · refine Sim.pre (ts := [9, 10, 11]) (os := [100011]) [(9, .one (vw Thing.cod l11)), (10, .one (vw Thing.cod l12)), (11, .one (ownL 100011 g17 (l16h :: l16t)))] (ownM Event.cod 45 100011 g17 (l16h :: l16t) []) (by kernel_rfl) (by kernel_rfl) (by kernel_rfl) ?_
            exact F18_j23_ok n a0 a1 a2 a3 l11 l12 rec_l15 m_l15 ih_l15 (l16h :: l16t) g17
          · refine Sim.pre (ts := [9, 10, 11]) (os := [100011]) [(9, .one (vw Thing.cod l11)), (10, .one (vw Thing.cod l12)), (11, .one (ownL 100011 g17 (l16h :: l16t)))] (ownM Event.cod 45 100011 g17 (l16h :: l16t) []) (by kernel_rfl) (by kernel_rfl) (by kernel_rfl) ?_
            exact F18_j28_ok n a0 a1 a2 a3 l11 l12 rec_l15 m_l15 ih_l15 (l16h :: l16t) g17
        · refine SimI.run 12 [(51, .one (lb false)), (70, .one (lb false)), (69, .one (lb false)), (68, .tup []), (67, .tup []), (66, .tup []), (65, .tup []), (64, .tup []), (63, .tup []), (62, .tup []), (61, .tup []), (60, .tup [])] [] (by kernel_rfl) ?_
          refine SimI.done (by kernel_rfl) ?_
          refine SimE.thenN ?_
          refine Sim.condF (by kernel_rfl) ?_
          refine Sim.pre (ts := [9, 10, 11]) (os := [100011]) [(9, .one (vw Thing.cod l11)), (10, .one (vw Thing.cod l12)), (11, .one (ownL 100011 g17 (l16h :: l16t)))] (ownM Event.cod 45 100011 g17 (l16h :: l16t) []) (by kernel_rfl) (by kernel_rfl) (by kernel_rfl) ?_
          exact F18_j28_ok n a0 a1 a2 a3 l11 l12 rec_l15 m_l15 ih_l15 (l16h :: l16t) g17

def F18_l15 (n : Nat) : Nat → (List Thing) → (List Thing) → (List Event) → Option (List Event)
  | 0, _, _, _ => none
  | m + 1, l11, l12, l13 =>
    if ((l11).length : Int) == 0 then
      if ((l12).length : Int) == 0 then
        some l13
      else
        F18_j18 n l11 l12 (F18_l15 n m) l13
    else
      F18_j18 n l11 l12 (F18_l15 n m) l13
theorem F18_l15_ok (n : Nat) (a0 : (List Thing)) (a1 : Rect) (a2 : (List Thing)) (a3 : Rect) : ∀ (m : Nat) (l11 : (List Thing)) (l12 : (List Thing)) (l13 : (List Event)) (g14 : Nat), SimL Try.prog D (n + 8) m pc18_c31 [(9, .one (vw Thing.cod l11)), (10, .one (vw Thing.cod l12)), (11, .one (ownL 100011 g14 l13))] (ownM Event.cod 45 100011 g14 l13 []) (F18_l15 n m l11 l12 l13) (QB 0 (QT Try.prog D (n + 8) pc18_c36 (QF pc18_r 0 F18_e))) := by
  intro m_l15
  induction m_l15 with
  | zero => intro l11 l12 l13 g14; exact SimL.zero'  rfl
  | succ m_l15 ih_l15 =>
    intro l11 l12 l13 g14
    cases l13 with
    | nil =>
      refine SimL.succ ?_
      unfold F18_l15
      refine Sim.block ?_
      refine Sim.block ?_
      refine Sim.seq ?_
      refine Sim.region [(9, .one (vw Thing.cod l11)), (10, .one (vw Thing.cod l12)), (11, .one (lnil))] [] (by kernel_rfl) ?_
      refine SimI.run 4 [(46, .one (lb (((l11).length : Int) == 0))), (45, .one (lb (((l11).length : Int) == 0))), (44, .one (li .i64 ((l11).length : Int))), (43, .one (vw Thing.cod l11))] [] (by kernel_rfl) ?_
      refine SimI.split 46 (((l11).length : Int) == 0) (by kernel_rfl) ?_ ?_
      · refine SimI.run 5 [(42, .one (lb (((l12).length : Int) == 0))), (50, .one (lb (((l12).length : Int) == 0))), (49, .one (lb (((l12).length : Int) == 0))), (48, .one (li .i64 ((l12).length : Int))), (47, .one (vw Thing.cod l12))] [] (by kernel_rfl) ?_
        refine SimI.done (by kernel_rfl) ?_
        refine SimE.thenN ?_
        refine Sim.cond (((l12).length : Int) == 0) (by kernel_rfl) ?_ ?_
        · refine Sim.exit ?_
          refine SimE.blockY rfl ?_
          refine SimE.blockY rfl ?_
          refine SimE.loopX ?_
          refine SimE.blockX ?_
          refine SimE.thenN ?_
          refine Sim.seq ?_
          refine Sim.region0 ?_
          refine SimI.run 2 [(8, .one (lnil)), (109, .one (lnil))] [] (by kernel_rfl) ?_
          refine SimI.done (by kernel_rfl) ?_
          refine SimE.thenN ?_
          refine Sim.ret ?_
          exact SimE.fin (by kernel_rfl)
        · refine Sim.pre (ts := [9, 10, 11]) (os := [100011]) [(9, .one (vw Thing.cod l11)), (10, .one (vw Thing.cod l12)), (11, .one (ownL 100011 0 ([] : List Event)))] (ownM Event.cod 45 100011 0 ([] : List Event) []) (by kernel_rfl) (by kernel_rfl) (by kernel_rfl) ?_
          exact F18_j18_ok n a0 a1 a2 a3 l11 l12 (F18_l15 n m_l15) m_l15 ih_l15 ([] : List Event) 0
      · refine SimI.run 5 [(42, .one (lb false)), (50, .one (lb false)), (49, .tup []), (48, .tup []), (47, .tup [])] [] (by kernel_rfl) ?_
        refine SimI.done (by kernel_rfl) ?_
        refine SimE.thenN ?_
        refine Sim.condF (by kernel_rfl) ?_
        refine Sim.pre (ts := [9, 10, 11]) (os := [100011]) [(9, .one (vw Thing.cod l11)), (10, .one (vw Thing.cod l12)), (11, .one (ownL 100011 0 ([] : List Event)))] (ownM Event.cod 45 100011 0 ([] : List Event) []) (by kernel_rfl) (by kernel_rfl) (by kernel_rfl) ?_
        exact F18_j18_ok n a0 a1 a2 a3 l11 l12 (F18_l15 n m_l15) m_l15 ih_l15 ([] : List Event) 0
    | cons l13h l13t =>
      refine SimL.succ ?_
      unfold F18_l15
      refine Sim.block ?_
      refine Sim.block ?_
      refine Sim.seq ?_
      refine Sim.region [(9, .one (vw Thing.cod l11)), (10, .one (vw Thing.cod l12)), (11, .one (.osl 100011 g14 0 ((l13h :: l13t)).length))] ((100011, some (.arr 45 Event.cod.sz g14 ((l13h :: l13t)).length (getOf Event.cod (l13h :: l13t)))) :: []) (by kernel_rfl) ?_
      refine SimI.run 4 [(46, .one (lb (((l11).length : Int) == 0))), (45, .one (lb (((l11).length : Int) == 0))), (44, .one (li .i64 ((l11).length : Int))), (43, .one (vw Thing.cod l11))] [] (by kernel_rfl) ?_
      refine SimI.split 46 (((l11).length : Int) == 0) (by kernel_rfl) ?_ ?_
      · refine SimI.run 5 [(42, .one (lb (((l12).length : Int) == 0))), (50, .one (lb (((l12).length : Int) == 0))), (49, .one (lb (((l12).length : Int) == 0))), (48, .one (li .i64 ((l12).length : Int))), (47, .one (vw Thing.cod l12))] [] (by kernel_rfl) ?_
        refine SimI.done (by kernel_rfl) ?_
        refine SimE.thenN ?_
        refine Sim.cond (((l12).length : Int) == 0) (by kernel_rfl) ?_ ?_
        · refine Sim.exit ?_
          refine SimE.blockY rfl ?_
          refine SimE.blockY rfl ?_
          refine SimE.loopX ?_
          refine SimE.blockX ?_
          refine SimE.thenN ?_
          refine Sim.seq ?_
          refine Sim.region0 ?_
          refine SimI.run 2 [(8, .one (.osl 100011 g14 0 ((l13h :: l13t)).length)), (109, .one (.osl 100011 g14 0 ((l13h :: l13t)).length))] [] (by kernel_rfl) ?_
          refine SimI.done (by kernel_rfl) ?_
          refine SimE.thenN ?_
          refine Sim.ret ?_
          exact SimE.fin (out_of (os := []) (ress_cons (resOf_own (c := Event.cod) (k := 100011) (g := g14) (el := 45) (l := (l13h :: l13t)) (by kernel_rfl) (by kernel_rfl)) (ress_nil)) (by kernel_rfl) (by kernel_rfl))
        · refine Sim.pre (ts := [9, 10, 11]) (os := [100011]) [(9, .one (vw Thing.cod l11)), (10, .one (vw Thing.cod l12)), (11, .one (ownL 100011 g14 (l13h :: l13t)))] (ownM Event.cod 45 100011 g14 (l13h :: l13t) []) (by kernel_rfl) (by kernel_rfl) (by kernel_rfl) ?_
          exact F18_j18_ok n a0 a1 a2 a3 l11 l12 (F18_l15 n m_l15) m_l15 ih_l15 (l13h :: l13t) g14
      · refine SimI.run 5 [(42, .one (lb false)), (50, .one (lb false)), (49, .tup []), (48, .tup []), (47, .tup [])] [] (by kernel_rfl) ?_
        refine SimI.done (by kernel_rfl) ?_
        refine SimE.thenN ?_
        refine Sim.condF (by kernel_rfl) ?_
        refine Sim.pre (ts := [9, 10, 11]) (os := [100011]) [(9, .one (vw Thing.cod l11)), (10, .one (vw Thing.cod l12)), (11, .one (ownL 100011 g14 (l13h :: l13t)))] (ownM Event.cod 45 100011 g14 (l13h :: l13t) []) (by kernel_rfl) (by kernel_rfl) (by kernel_rfl) ?_
        exact F18_j18_ok n a0 a1 a2 a3 l11 l12 (F18_l15 n m_l15) m_l15 ih_l15 (l13h :: l13t) g14

def F18 (n : Nat) (a0 : (List Thing)) (a1 : Rect) (a2 : (List Thing)) (a3 : Rect) : Option (List Event) :=
  (F21 n a0 a1).bind fun (r1 : (List Thing)) =>
  (F21 n a2 a3).bind fun (r2 : (List Thing)) =>
  F18_l15 n (n + 8) r1 r2 ([] : List Event)
theorem F18_ok (n : Nat) (a0 : (List Thing)) (a1 : Rect) (a2 : (List Thing)) (a3 : Rect) : ∀ r, F18 n a0 a1 a2 a3 = some r → D 18 [.one (vw Thing.cod a0), .agg [li .i64 a1.X0, li .i64 a1.Y0, li .i64 a1.X1, li .i64 a1.Y1], .one (vw Thing.cod a2), .agg [li .i64 a3.X0, li .i64 a3.Y0, li .i64 a3.X1, li .i64 a3.Y1]] [] = some (F18_e r) := by
  refine fn_to (D := D) (n := n + 8) (nt := 110) (rs := pc18_r) (c := pc18_c42) (L := [(0, .one (vw Thing.cod a0)), (1, .agg [li .i64 a1.X0, li .i64 a1.Y0, li .i64 a1.X1, li .i64 a1.Y1]), (2, .one (vw Thing.cod a2)), (3, .agg [li .i64 a3.X0, li .i64 a3.Y0, li .i64 a3.X1, li .i64 a3.Y1])]) (M := []) (k := 0) rfl rfl rfl rfl rfl rfl ?_
  unfold F18
  refine Sim.seq ?_
  refine Sim.region0 ?_
  refine SimI.run 3 [(8, .one (lnil)), (7, .one (.ptr 7 0)), (5, .one (.ptr 5 0))] [(7, some (.cells [li .i64 a3.X0, li .i64 a3.Y0, li .i64 a3.X1, li .i64 a3.Y1])), (5, some (.cells [li .i64 a1.X0, li .i64 a1.Y0, li .i64 a1.X1, li .i64 a1.Y1]))] (by kernel_rfl) ?_
  refine SimI.done (by kernel_rfl) ?_
  refine SimE.thenN ?_
  refine Sim.scope ?_
  refine Sim.seq ?_
  refine Sim.region0 ?_
  refine SimI.run 2 [(15, .agg [li .i64 a1.X0, li .i64 a1.Y0, li .i64 a1.X1, li .i64 a1.Y1]), (14, .one (vw Thing.cod a0))] [] (by kernel_rfl) ?_
  refine SimI.bind (og := F21 n a0 a1) { dst := some 16, op := POp.call false [[(0, 11)], []] 21 [Operand.tmp 14, Operand.tmp 15], guard := none, hints := [(14, Hint.imm), (15, Hint.imm)] } (fun r1 => [(16, .one (vw Thing.cod r1))]) (fun r1 => []) (by kernel_rfl) (fun r1 hr => pOp_eff (by kernel_rfl) (by kernel_rfl) (eff_call (ARGS := [.one (vw Thing.cod a0), .agg [li .i64 a1.X0, li .i64 a1.Y0, li .i64 a1.X1, li .i64 a1.Y1]]) (by kernel_rfl) (args_clean (by kernel_rfl) (args_clean (by kernel_rfl) args_nil)) (F21_ok n a0 a1 r1 hr) (by kernel_rfl))) (fun r1 => ?_)
  refine SimI.run 2 [(18, .agg [li .i64 a3.X0, li .i64 a3.Y0, li .i64 a3.X1, li .i64 a3.Y1]), (17, .one (vw Thing.cod a2))] [] (by kernel_rfl) ?_
  refine SimI.bind (og := F21 n a2 a3) { dst := some 19, op := POp.call false [[(0, 11)], []] 21 [Operand.tmp 17, Operand.tmp 18], guard := none, hints := [(17, Hint.imm), (18, Hint.imm)] } (fun r2 => [(19, .one (vw Thing.cod r2))]) (fun r2 => []) (by kernel_rfl) (fun r2 hr => pOp_eff (by kernel_rfl) (by kernel_rfl) (eff_call (ARGS := [.one (vw Thing.cod a2), .agg [li .i64 a3.X0, li .i64 a3.Y0, li .i64 a3.X1, li .i64 a3.Y1]]) (by kernel_rfl) (args_clean (by kernel_rfl) (args_clean (by kernel_rfl) args_nil)) (F21_ok n a2 a3 r2 hr) (by kernel_rfl))) (fun r2 => ?_)
  refine SimI.run 2 [(10, .one (vw Thing.cod r2)), (9, .one (vw Thing.cod r1))] [] (by kernel_rfl) ?_
  refine SimI.done (by kernel_rfl) ?_
  refine SimE.thenN ?_
  refine Sim.seq ?_
  refine Sim.region0 ?_
  refine SimI.run 1 [(11, .one (lnil))] [] (by kernel_rfl) ?_
  refine SimI.done (by kernel_rfl) ?_
  refine SimE.thenN ?_
  refine Sim.seq ?_
  refine Sim.label ?_
  refine SimE.thenN ?_
  refine Sim.seq ?_
  refine Sim.block ?_
  refine Sim.loop ?_
  refine SimL.pre (ts := [9, 10, 11]) (os := [5, 7, 100011]) [(9, .one (vw Thing.cod r1)), (10, .one (vw Thing.cod r2)), (11, .one (ownL 100011 0 ([] : List Event)))] (ownM Event.cod 45 100011 0 ([] : List Event) []) (by kernel_rfl) (by kernel_rfl) (by kernel_rfl) ?_
  exact F18_l15_ok n a0 a1 a2 a3 (n + 8) r1 r2 ([] : List Event) 0


-- 14: vedette/vedettelaw16.known
theorem F14_ok (n : Nat) : ∀ r, (some true : Option Bool) = some r → D 14 [] [] = some (.one (lb r), []) := by
  rintro _ ⟨⟩
  exact all_of (N := 60) (by kernel_rfl)


-- 69: vedette/vedettelaw16.fewField
def F69_e : Bool → PV × List (List Lf) := fun r => (.one (lb r), [])
def F69 (n : Nat) (a0 : Field) : Option Bool :=
  some (decide ((a0.Text.size : Int) ≤ 40))
theorem F69_ok (n : Nat) (a0 : Field) : ∀ r, F69 n a0 = some r → D 69 [.agg [li .i64 a0.N, ls a0.Text]] [] = some (F69_e r) := by
  refine fn_to (D := D) (n := n + 8) (nt := 7) (rs := pc69_r) (c := pc69_c5) (L := [(0, .agg [li .i64 a0.N, ls a0.Text])]) (M := []) (k := 0) rfl rfl rfl rfl rfl rfl ?_
  unfold F69
  refine Sim.seq ?_
  refine Sim.region0 ?_
  refine SimI.run 2 [(2, .one (lb false)), (1, .one (.ptr 1 0))] [(1, some (.cells [li .i64 a0.N, ls a0.Text]))] (by kernel_rfl) ?_
  refine SimI.done (by kernel_rfl) ?_
  refine SimE.thenN ?_
  refine Sim.seq ?_
  refine Sim.region0 ?_
  refine SimI.run 5 [(2, .one (lb (decide ((a0.Text.size : Int) ≤ 40)))), (6, .one (lb (decide ((a0.Text.size : Int) ≤ 40)))), (5, .one (li .i64 (a0.Text.size : Int))), (4, .one (ls a0.Text)), (3, .one (.ptr 1 1))] [] (by kernel_rfl) ?_
  refine SimI.done (by kernel_rfl) ?_
  refine SimE.thenN ?_
  refine Sim.ret ?_
  exact SimE.fin (by kernel_rfl)


-- 47: vedette/vedettelaw16.fewThing
def F47_e : Bool → PV × List (List Lf) := fun r => (.one (lb r), [])
def F47 (n : Nat) (a0 : Thing) : Option Bool :=
  (F69 n a0.F.a0).bind fun (r1 : Bool) =>
  if !(r1) then
    some false
  else
    (F69 n a0.F.a1).bind fun (r2 : Bool) =>
    if !(r2) then
      some false
    else
      (F69 n a0.F.a2).bind fun (r3 : Bool) =>
      if !(r3) then
        some false
      else
        (F69 n a0.F.a3).bind fun (r4 : Bool) =>
        if !(r4) then
          some false
        else
          some true
theorem F47_ok (n : Nat) (a0 : Thing) : ∀ r, F47 n a0 = some r → D 47 [.agg [li .i64 a0.ID, li .i64 a0.At.X, li .i64 a0.At.Y, li .i64 a0.F.a0.N, ls a0.F.a0.Text, li .i64 a0.F.a1.N, ls a0.F.a1.Text, li .i64 a0.F.a2.N, ls a0.F.a2.Text, li .i64 a0.F.a3.N, ls a0.F.a3.Text]] [] = some (F47_e r) := by
  refine fn_to (D := D) (n := n + 8) (nt := 14) (rs := pc47_r) (c := pc47_c26) (L := [(0, .agg [li .i64 a0.ID, li .i64 a0.At.X, li .i64 a0.At.Y, li .i64 a0.F.a0.N, ls a0.F.a0.Text, li .i64 a0.F.a1.N, ls a0.F.a1.Text, li .i64 a0.F.a2.N, ls a0.F.a2.Text, li .i64 a0.F.a3.N, ls a0.F.a3.Text])]) (M := []) (k := 0) rfl rfl rfl rfl rfl rfl ?_
  unfold F47
  refine Sim.seq ?_
  refine Sim.region0 ?_
  refine SimI.run 2 [(2, .one (lb false)), (1, .one (.ptr 1 0))] [(1, some (.cells [li .i64 a0.ID, li .i64 a0.At.X, li .i64 a0.At.Y, li .i64 a0.F.a0.N, ls a0.F.a0.Text, li .i64 a0.F.a1.N, ls a0.F.a1.Text, li .i64 a0.F.a2.N, ls a0.F.a2.Text, li .i64 a0.F.a3.N, ls a0.F.a3.Text]))] (by kernel_rfl) ?_
  refine SimI.done (by kernel_rfl) ?_
  refine SimE.thenN ?_
  refine Sim.seq ?_
  refine Sim.seq ?_
  refine Sim.region0 ?_
  refine SimI.run 1 [(3, .one (li .i64 0))] [] (by kernel_rfl) ?_
  refine SimI.done (by kernel_rfl) ?_
  refine SimE.thenN ?_
  refine Sim.block ?_
  refine Sim.loop ?_
  refine SimL.succ ?_
  refine Sim.seq ?_
  refine Sim.seq ?_
  refine Sim.region [(1, .one (.ptr 1 0)), (3, .one (li .i64 0))] ((1, some (.cells [li .i64 a0.ID, li .i64 a0.At.X, li .i64 a0.At.Y, li .i64 a0.F.a0.N, ls a0.F.a0.Text, li .i64 a0.F.a1.N, ls a0.F.a1.Text, li .i64 a0.F.a2.N, ls a0.F.a2.Text, li .i64 a0.F.a3.N, ls a0.F.a3.Text])) :: []) (by kernel_rfl) ?_
  refine SimI.run 2 [(5, .one (lb true)), (4, .one (li .i64 0))] [] (by kernel_rfl) ?_
  refine SimI.done (by kernel_rfl) ?_
  refine SimE.thenN ?_
  refine Sim.condT (by kernel_rfl) ?_
  refine Sim.skip ?_
  refine SimE.thenN ?_
  refine Sim.seq ?_
  refine Sim.block ?_
  refine Sim.seq ?_
  refine Sim.region0 ?_
  refine SimI.run 4 [(11, .agg [li .i64 a0.F.a0.N, ls a0.F.a0.Text]), (10, .one (.ptr 1 3)), (9, .one (.ptr 1 3)), (8, .one (li .i64 0))] [] (by kernel_rfl) ?_
  refine SimI.bind (og := F69 n a0.F.a0) { dst := some 12, op := POp.call true [[]] 69 [Operand.tmp 11], guard := none, hints := [] } (fun r1 => [(12, .one (lb r1))]) (fun r1 => []) (by kernel_rfl) (fun r1 hr => pOp_eff (by kernel_rfl) (by kernel_rfl) (eff_call (ARGS := [.agg [li .i64 a0.F.a0.N, ls a0.F.a0.Text]]) (by kernel_rfl) (args_clean (by kernel_rfl) args_nil) (F69_ok n a0.F.a0 r1 hr) (by kernel_rfl))) (fun r1 => ?_)
  refine SimI.run 1 [(13, .one (lb (!(r1))))] [] (by kernel_rfl) ?_
  refine SimI.done (by kernel_rfl) ?_
  refine SimE.thenN ?_
  refine Sim.cond (!(r1)) (by kernel_rfl) ?_ ?_
  · refine Sim.seq ?_
    refine Sim.region0 ?_
    refine SimI.run 1 [(2, .one (lb false))] [] (by kernel_rfl) ?_
    refine SimI.done (by kernel_rfl) ?_
    refine SimE.thenN ?_
    refine Sim.ret ?_
    refine SimE.blockR ?_
    refine SimE.thenR ?_
    refine SimE.loopR ?_
    refine SimE.blockR ?_
    refine SimE.thenR ?_
    exact SimE.fin (by kernel_rfl)
  · refine Sim.skip ?_
    refine SimE.blockN ?_
    refine SimE.thenN ?_
    refine Sim.region0 ?_
    refine SimI.run 3 [(3, .one (li .i64 1)), (7, .one (li .i64 1)), (6, .one (li .i64 0))] [] (by kernel_rfl) ?_
    refine SimI.done (by kernel_rfl) ?_
    refine SimE.loopN ?_
    refine SimL.succ ?_
    refine Sim.seq ?_
    refine Sim.seq ?_
    refine Sim.region [(1, .one (.ptr 1 0)), (3, .one (li .i64 1))] ((1, some (.cells [li .i64 a0.ID, li .i64 a0.At.X, li .i64 a0.At.Y, li .i64 a0.F.a0.N, ls a0.F.a0.Text, li .i64 a0.F.a1.N, ls a0.F.a1.Text, li .i64 a0.F.a2.N, ls a0.F.a2.Text, li .i64 a0.F.a3.N, ls a0.F.a3.Text])) :: []) (by kernel_rfl) ?_
    refine SimI.run 2 [(5, .one (lb true)), (4, .one (li .i64 1))] [] (by kernel_rfl) ?_
    refine SimI.done (by kernel_rfl) ?_
    refine SimE.thenN ?_
    refine Sim.condT (by kernel_rfl) ?_
    refine Sim.skip ?_
    refine SimE.thenN ?_
    refine Sim.seq ?_
    refine Sim.block ?_
    refine Sim.seq ?_
    refine Sim.region0 ?_
    refine SimI.run 4 [(11, .agg [li .i64 a0.F.a1.N, ls a0.F.a1.Text]), (10, .one (.ptr 1 5)), (9, .one (.ptr 1 3)), (8, .one (li .i64 1))] [] (by kernel_rfl) ?_
    refine SimI.bind (og := F69 n a0.F.a1) { dst := some 12, op := POp.call true [[]] 69 [Operand.tmp 11], guard := none, hints := [] } (fun r2 => [(12, .one (lb r2))]) (fun r2 => []) (by kernel_rfl) (fun r2 hr => pOp_eff (by kernel_rfl) (by kernel_rfl) (eff_call (ARGS := [.agg [li .i64 a0.F.a1.N, ls a0.F.a1.Text]]) (by kernel_rfl) (args_clean (by kernel_rfl) args_nil) (F69_ok n a0.F.a1 r2 hr) (by kernel_rfl))) (fun r2 => ?_)
    refine SimI.run 1 [(13, .one (lb (!(r2))))] [] (by kernel_rfl) ?_
    refine SimI.done (by kernel_rfl) ?_
    refine SimE.thenN ?_
    refine Sim.cond (!(r2)) (by kernel_rfl) ?_ ?_
    · refine Sim.seq ?_
      refine Sim.region0 ?_
      refine SimI.run 1 [(2, .one (lb false))] [] (by kernel_rfl) ?_
      refine SimI.done (by kernel_rfl) ?_
      refine SimE.thenN ?_
      refine Sim.ret ?_
      refine SimE.blockR ?_
      refine SimE.thenR ?_
      refine SimE.loopR ?_
      refine SimE.blockR ?_
      refine SimE.thenR ?_
      exact SimE.fin (by kernel_rfl)
    · refine Sim.skip ?_
      refine SimE.blockN ?_
      refine SimE.thenN ?_
      refine Sim.region0 ?_
      refine SimI.run 3 [(3, .one (li .i64 2)), (7, .one (li .i64 2)), (6, .one (li .i64 1))] [] (by kernel_rfl) ?_
      refine SimI.done (by kernel_rfl) ?_
      refine SimE.loopN ?_
      refine SimL.succ ?_
      refine Sim.seq ?_
      refine Sim.seq ?_
      refine Sim.region [(1, .one (.ptr 1 0)), (3, .one (li .i64 2))] ((1, some (.cells [li .i64 a0.ID, li .i64 a0.At.X, li .i64 a0.At.Y, li .i64 a0.F.a0.N, ls a0.F.a0.Text, li .i64 a0.F.a1.N, ls a0.F.a1.Text, li .i64 a0.F.a2.N, ls a0.F.a2.Text, li .i64 a0.F.a3.N, ls a0.F.a3.Text])) :: []) (by kernel_rfl) ?_
      refine SimI.run 2 [(5, .one (lb true)), (4, .one (li .i64 2))] [] (by kernel_rfl) ?_
      refine SimI.done (by kernel_rfl) ?_
      refine SimE.thenN ?_
      refine Sim.condT (by kernel_rfl) ?_
      refine Sim.skip ?_
      refine SimE.thenN ?_
      refine Sim.seq ?_
      refine Sim.block ?_
      refine Sim.seq ?_
      refine Sim.region0 ?_
      refine SimI.run 4 [(11, .agg [li .i64 a0.F.a2.N, ls a0.F.a2.Text]), (10, .one (.ptr 1 7)), (9, .one (.ptr 1 3)), (8, .one (li .i64 2))] [] (by kernel_rfl) ?_
      refine SimI.bind (og := F69 n a0.F.a2) { dst := some 12, op := POp.call true [[]] 69 [Operand.tmp 11], guard := none, hints := [] } (fun r3 => [(12, .one (lb r3))]) (fun r3 => []) (by kernel_rfl) (fun r3 hr => pOp_eff (by kernel_rfl) (by kernel_rfl) (eff_call (ARGS := [.agg [li .i64 a0.F.a2.N, ls a0.F.a2.Text]]) (by kernel_rfl) (args_clean (by kernel_rfl) args_nil) (F69_ok n a0.F.a2 r3 hr) (by kernel_rfl))) (fun r3 => ?_)
      refine SimI.run 1 [(13, .one (lb (!(r3))))] [] (by kernel_rfl) ?_
      refine SimI.done (by kernel_rfl) ?_
      refine SimE.thenN ?_
      refine Sim.cond (!(r3)) (by kernel_rfl) ?_ ?_
      · refine Sim.seq ?_
        refine Sim.region0 ?_
        refine SimI.run 1 [(2, .one (lb false))] [] (by kernel_rfl) ?_
        refine SimI.done (by kernel_rfl) ?_
        refine SimE.thenN ?_
        refine Sim.ret ?_
        refine SimE.blockR ?_
        refine SimE.thenR ?_
        refine SimE.loopR ?_
        refine SimE.blockR ?_
        refine SimE.thenR ?_
        exact SimE.fin (by kernel_rfl)
      · refine Sim.skip ?_
        refine SimE.blockN ?_
        refine SimE.thenN ?_
        refine Sim.region0 ?_
        refine SimI.run 3 [(3, .one (li .i64 3)), (7, .one (li .i64 3)), (6, .one (li .i64 2))] [] (by kernel_rfl) ?_
        refine SimI.done (by kernel_rfl) ?_
        refine SimE.loopN ?_
        refine SimL.succ ?_
        refine Sim.seq ?_
        refine Sim.seq ?_
        refine Sim.region [(1, .one (.ptr 1 0)), (3, .one (li .i64 3))] ((1, some (.cells [li .i64 a0.ID, li .i64 a0.At.X, li .i64 a0.At.Y, li .i64 a0.F.a0.N, ls a0.F.a0.Text, li .i64 a0.F.a1.N, ls a0.F.a1.Text, li .i64 a0.F.a2.N, ls a0.F.a2.Text, li .i64 a0.F.a3.N, ls a0.F.a3.Text])) :: []) (by kernel_rfl) ?_
        refine SimI.run 2 [(5, .one (lb true)), (4, .one (li .i64 3))] [] (by kernel_rfl) ?_
        refine SimI.done (by kernel_rfl) ?_
        refine SimE.thenN ?_
        refine Sim.condT (by kernel_rfl) ?_
        refine Sim.skip ?_
        refine SimE.thenN ?_
        refine Sim.seq ?_
        refine Sim.block ?_
        refine Sim.seq ?_
        refine Sim.region0 ?_
        refine SimI.run 4 [(11, .agg [li .i64 a0.F.a3.N, ls a0.F.a3.Text]), (10, .one (.ptr 1 9)), (9, .one (.ptr 1 3)), (8, .one (li .i64 3))] [] (by kernel_rfl) ?_
        refine SimI.bind (og := F69 n a0.F.a3) { dst := some 12, op := POp.call true [[]] 69 [Operand.tmp 11], guard := none, hints := [] } (fun r4 => [(12, .one (lb r4))]) (fun r4 => []) (by kernel_rfl) (fun r4 hr => pOp_eff (by kernel_rfl) (by kernel_rfl) (eff_call (ARGS := [.agg [li .i64 a0.F.a3.N, ls a0.F.a3.Text]]) (by kernel_rfl) (args_clean (by kernel_rfl) args_nil) (F69_ok n a0.F.a3 r4 hr) (by kernel_rfl))) (fun r4 => ?_)
        refine SimI.run 1 [(13, .one (lb (!(r4))))] [] (by kernel_rfl) ?_
        refine SimI.done (by kernel_rfl) ?_
        refine SimE.thenN ?_
        refine Sim.cond (!(r4)) (by kernel_rfl) ?_ ?_
        · refine Sim.seq ?_
          refine Sim.region0 ?_
          refine SimI.run 1 [(2, .one (lb false))] [] (by kernel_rfl) ?_
          refine SimI.done (by kernel_rfl) ?_
          refine SimE.thenN ?_
          refine Sim.ret ?_
          refine SimE.blockR ?_
          refine SimE.thenR ?_
          refine SimE.loopR ?_
          refine SimE.blockR ?_
          refine SimE.thenR ?_
          exact SimE.fin (by kernel_rfl)
        · refine Sim.skip ?_
          refine SimE.blockN ?_
          refine SimE.thenN ?_
          refine Sim.region0 ?_
          refine SimI.run 3 [(3, .one (li .i64 4)), (7, .one (li .i64 4)), (6, .one (li .i64 3))] [] (by kernel_rfl) ?_
          refine SimI.done (by kernel_rfl) ?_
          refine SimE.loopN ?_
          refine SimL.succ ?_
          refine Sim.seq ?_
          refine Sim.seq ?_
          refine Sim.region [(1, .one (.ptr 1 0)), (3, .one (li .i64 4))] ((1, some (.cells [li .i64 a0.ID, li .i64 a0.At.X, li .i64 a0.At.Y, li .i64 a0.F.a0.N, ls a0.F.a0.Text, li .i64 a0.F.a1.N, ls a0.F.a1.Text, li .i64 a0.F.a2.N, ls a0.F.a2.Text, li .i64 a0.F.a3.N, ls a0.F.a3.Text])) :: []) (by kernel_rfl) ?_
          refine SimI.run 2 [(5, .one (lb false)), (4, .one (li .i64 4))] [] (by kernel_rfl) ?_
          refine SimI.done (by kernel_rfl) ?_
          refine SimE.thenN ?_
          refine Sim.condF (by kernel_rfl) ?_
          refine Sim.exit ?_
          refine SimE.thenX ?_
          refine SimE.loopX ?_
          refine SimE.blockX ?_
          refine SimE.thenN ?_
          refine Sim.seq ?_
          refine Sim.region0 ?_
          refine SimI.run 1 [(2, .one (lb true))] [] (by kernel_rfl) ?_
          refine SimI.done (by kernel_rfl) ?_
          refine SimE.thenN ?_
          refine Sim.ret ?_
          exact SimE.fin (by kernel_rfl)


-- 15: vedette/vedettelaw16.fewThings
def F15_e : Bool → PV × List (List Lf) := fun r => (.one (lb r), [])
def F15_l4 (n : Nat) (a0 : (List Thing)) : Nat → Int → Option Bool
  | 0, _ => none
  | m + 1, i3 =>
    if decide (i3 < ((a0).length : Int)) then
      (ix a0 i3).bind fun (x5 : Thing) =>
      (F47 n x5).bind fun (r6 : Bool) =>
      if !(r6) then
        some false
      else
        (F15_l4 n a0 m) (IntKind.wrap .i64 (i3 + 1))
    else
      some (decide (((a0).length : Int) ≤ 30))
theorem F15_l4_ok (n : Nat) (a0 : (List Thing)) : ∀ (m : Nat) (i3 : Int), SimL Try.prog D (n + 8) m pc15_c18 [(0, .one (vw Thing.cod a0)), (3, .one (li .i64 i3))] [] (F15_l4 n a0 m i3) (QB 0 (QT Try.prog D (n + 8) pc15_c24 (QF pc15_r 0 F15_e))) := by
  intro m_l4
  induction m_l4 with
  | zero => intro i3; exact SimL.zero'  rfl
  | succ m_l4 ih_l4 =>
    intro i3
    refine SimL.succ ?_
    unfold F15_l4
    refine Sim.seq ?_
    refine Sim.seq ?_
    refine Sim.region [(0, .one (vw Thing.cod a0)), (3, .one (li .i64 i3))] [] (by kernel_rfl) ?_
    refine SimI.run 4 [(7, .one (lb (decide (i3 < ((a0).length : Int))))), (6, .one (li .i64 ((a0).length : Int))), (5, .one (vw Thing.cod a0)), (4, .one (li .i64 i3))] [] (by kernel_rfl) ?_
    refine SimI.done (by kernel_rfl) ?_
    refine SimE.thenN ?_
    refine Sim.cond (decide (i3 < ((a0).length : Int))) (by kernel_rfl) ?_ ?_
    · refine Sim.skip ?_
      refine SimE.thenN ?_
      refine Sim.seq ?_
      refine Sim.block ?_
      refine Sim.seq ?_
      refine Sim.region0 ?_
      refine SimI.run 2 [(11, .one (li .i64 i3)), (10, .one (vw Thing.cod a0))] [] (by kernel_rfl) ?_
      refine SimI.bind (og := ix a0 i3) { dst := some 12, op := POp.iaddrS 11 (Operand.tmp 10) (Operand.tmp 11), guard := none, hints := [] } (fun x5 => [(12, .one (.eptr (Thing.cod.enc x5) 0))]) (fun x5 => []) (by kernel_rfl) (fun x5 hr => pOp_eff (by kernel_rfl) (by kernel_rfl) (eff_idx (c := Thing.cod) (l := a0) (k := .i64) (n := i3) (by kernel_rfl) (by kernel_rfl) (by kernel_rfl) hr)) (fun x5 => ?_)
      refine SimI.run 1 [(13, .agg [li .i64 x5.ID, li .i64 x5.At.X, li .i64 x5.At.Y, li .i64 x5.F.a0.N, ls x5.F.a0.Text, li .i64 x5.F.a1.N, ls x5.F.a1.Text, li .i64 x5.F.a2.N, ls x5.F.a2.Text, li .i64 x5.F.a3.N, ls x5.F.a3.Text])] [] (by kernel_rfl) ?_
      refine SimI.bind (og := F47 n x5) { dst := some 14, op := POp.call true [[]] 47 [Operand.tmp 13], guard := none, hints := [] } (fun r6 => [(14, .one (lb r6))]) (fun r6 => []) (by kernel_rfl) (fun r6 hr => pOp_eff (by kernel_rfl) (by kernel_rfl) (eff_call (ARGS := [.agg [li .i64 x5.ID, li .i64 x5.At.X, li .i64 x5.At.Y, li .i64 x5.F.a0.N, ls x5.F.a0.Text, li .i64 x5.F.a1.N, ls x5.F.a1.Text, li .i64 x5.F.a2.N, ls x5.F.a2.Text, li .i64 x5.F.a3.N, ls x5.F.a3.Text]]) (by kernel_rfl) (args_clean (by kernel_rfl) args_nil) (F47_ok n x5 r6 hr) (by kernel_rfl))) (fun r6 => ?_)
      refine SimI.run 1 [(15, .one (lb (!(r6))))] [] (by kernel_rfl) ?_
      refine SimI.done (by kernel_rfl) ?_
      refine SimE.thenN ?_
      refine Sim.cond (!(r6)) (by kernel_rfl) ?_ ?_
      · refine Sim.seq ?_
        refine Sim.region0 ?_
        refine SimI.run 1 [(2, .one (lb false))] [] (by kernel_rfl) ?_
        refine SimI.done (by kernel_rfl) ?_
        refine SimE.thenN ?_
        refine Sim.ret ?_
        refine SimE.blockR ?_
        refine SimE.thenR ?_
        refine SimE.loopR ?_
        refine SimE.blockR ?_
        refine SimE.thenR ?_
        exact SimE.fin (by kernel_rfl)
      · refine Sim.skip ?_
        refine SimE.blockN ?_
        refine SimE.thenN ?_
        refine Sim.region0 ?_
        refine SimI.run 3 [(3, .one (li .i64 (IntKind.wrap .i64 (i3 + 1)))), (9, .one (li .i64 (IntKind.wrap .i64 (i3 + 1)))), (8, .one (li .i64 i3))] [] (by kernel_rfl) ?_
        refine SimI.done (by kernel_rfl) ?_
        refine SimE.loopN ?_
        refine SimL.pre (ts := [0, 3]) (os := []) [(0, .one (vw Thing.cod a0)), (3, .one (li .i64 (IntKind.wrap .i64 (i3 + 1))))] [] (by kernel_rfl) (by kernel_rfl) (by kernel_rfl) ?_
        exact ih_l4 (IntKind.wrap .i64 (i3 + 1))
    · refine Sim.exit ?_
      refine SimE.thenX ?_
      refine SimE.loopX ?_
      refine SimE.blockX ?_
      refine SimE.thenN ?_
      refine Sim.seq ?_
      refine Sim.region0 ?_
      refine SimI.run 4 [(2, .one (lb (decide (((a0).length : Int) ≤ 30)))), (18, .one (lb (decide (((a0).length : Int) ≤ 30)))), (17, .one (li .i64 ((a0).length : Int))), (16, .one (vw Thing.cod a0))] [] (by kernel_rfl) ?_
      refine SimI.done (by kernel_rfl) ?_
      refine SimE.thenN ?_
      refine Sim.ret ?_
      exact SimE.fin (by kernel_rfl)

def F15 (n : Nat) (a0 : (List Thing)) : Option Bool :=
  F15_l4 n a0 (n + 8) 0
theorem F15_ok (n : Nat) (a0 : (List Thing)) : ∀ r, F15 n a0 = some r → D 15 [.one (vw Thing.cod a0)] [] = some (F15_e r) := by
  refine fn_to (D := D) (n := n + 8) (nt := 19) (rs := pc15_r) (c := pc15_c26) (L := [(0, .one (vw Thing.cod a0))]) (M := []) (k := 0) rfl rfl rfl rfl rfl rfl ?_
  unfold F15
  refine Sim.seq ?_
  refine Sim.region0 ?_
  refine SimI.run 1 [(2, .one (lb false))] [] (by kernel_rfl) ?_
  refine SimI.done (by kernel_rfl) ?_
  refine SimE.thenN ?_
  refine Sim.seq ?_
  refine Sim.seq ?_
  refine Sim.region0 ?_
  refine SimI.run 1 [(3, .one (li .i64 0))] [] (by kernel_rfl) ?_
  refine SimI.done (by kernel_rfl) ?_
  refine SimE.thenN ?_
  refine Sim.block ?_
  refine Sim.loop ?_
  refine SimL.pre (ts := [0, 3]) (os := []) [(0, .one (vw Thing.cod a0)), (3, .one (li .i64 0))] [] (by kernel_rfl) (by kernel_rfl) (by kernel_rfl) ?_
  exact F15_l4_ok n a0 (n + 8) 0


-- 54: vedette/vedetteref3.On
def F54_e : Bool → PV × List (List Lf) := fun r => (.one (lb r), [])
def F54 (n : Nat) (a0 : Point) : Option Bool :=
  if decide ((0 : Int) ≤ a0.X) then
    if decide (a0.X < 64) then
      if decide ((0 : Int) ≤ a0.Y) then
        some (decide (a0.Y < 64))
      else
        some false
    else
      some false
  else
    some false
theorem F54_ok (n : Nat) (a0 : Point) : ∀ r, F54 n a0 = some r → D 54 [.agg [li .i64 a0.X, li .i64 a0.Y]] [] = some (F54_e r) := by
  refine fn_to (D := D) (n := n + 8) (nt := 21) (rs := pc54_r) (c := pc54_c5) (L := [(0, .agg [li .i64 a0.X, li .i64 a0.Y])]) (M := []) (k := 0) rfl rfl rfl rfl rfl rfl ?_
  unfold F54
  refine Sim.seq ?_
  refine Sim.region0 ?_
  refine SimI.run 2 [(2, .one (lb false)), (1, .one (.ptr 1 0))] [(1, some (.cells [li .i64 a0.X, li .i64 a0.Y]))] (by kernel_rfl) ?_
  refine SimI.done (by kernel_rfl) ?_
  refine SimE.thenN ?_
  refine Sim.seq ?_
  refine Sim.region0 ?_
  refine SimI.run 4 [(6, .one (lb (decide ((0 : Int) ≤ a0.X)))), (5, .one (lb (decide ((0 : Int) ≤ a0.X)))), (4, .one (li .i64 a0.X)), (3, .one (.ptr 1 0))] [] (by kernel_rfl) ?_
  refine SimI.split 6 (decide ((0 : Int) ≤ a0.X)) (by kernel_rfl) ?_ ?_
  · refine SimI.run 5 [(11, .one (lb (decide (a0.X < 64)))), (10, .one (lb (decide (a0.X < 64)))), (9, .one (lb (decide (a0.X < 64)))), (8, .one (li .i64 a0.X)), (7, .one (.ptr 1 0))] [] (by kernel_rfl) ?_
    refine SimI.split 11 (decide (a0.X < 64)) (by kernel_rfl) ?_ ?_
    · refine SimI.run 5 [(16, .one (lb (decide ((0 : Int) ≤ a0.Y)))), (15, .one (lb (decide ((0 : Int) ≤ a0.Y)))), (14, .one (lb (decide ((0 : Int) ≤ a0.Y)))), (13, .one (li .i64 a0.Y)), (12, .one (.ptr 1 1))] [] (by kernel_rfl) ?_
      refine SimI.split 16 (decide ((0 : Int) ≤ a0.Y)) (by kernel_rfl) ?_ ?_
      · refine SimI.run 5 [(2, .one (lb (decide (a0.Y < 64)))), (20, .one (lb (decide (a0.Y < 64)))), (19, .one (lb (decide (a0.Y < 64)))), (18, .one (li .i64 a0.Y)), (17, .one (.ptr 1 1))] [] (by kernel_rfl) ?_
        refine SimI.done (by kernel_rfl) ?_
        refine SimE.thenN ?_
        refine Sim.ret ?_
        exact SimE.fin (by kernel_rfl)
      · refine SimI.run 5 [(2, .one (lb false)), (20, .one (lb false)), (19, .tup []), (18, .tup []), (17, .tup [])] [] (by kernel_rfl) ?_
        refine SimI.done (by kernel_rfl) ?_
        refine SimE.thenN ?_
        refine Sim.ret ?_
        exact SimE.fin (by kernel_rfl)
    · refine SimI.run 10 [(2, .one (lb false)), (20, .one (lb false)), (19, .tup []), (18, .tup []), (17, .tup []), (16, .one (lb false)), (15, .one (lb false)), (14, .tup []), (13, .tup []), (12, .tup [])] [] (by kernel_rfl) ?_
      refine SimI.done (by kernel_rfl) ?_
      refine SimE.thenN ?_
      refine Sim.ret ?_
      exact SimE.fin (by kernel_rfl)
  · refine SimI.run 15 [(2, .one (lb false)), (20, .one (lb false)), (19, .tup []), (18, .tup []), (17, .tup []), (16, .one (lb false)), (15, .one (lb false)), (14, .tup []), (13, .tup []), (12, .tup []), (11, .one (lb false)), (10, .one (lb false)), (9, .tup []), (8, .tup []), (7, .tup [])] [] (by kernel_rfl) ?_
    refine SimI.done (by kernel_rfl) ?_
    refine SimE.thenN ?_
    refine Sim.ret ?_
    exact SimE.fin (by kernel_rfl)


-- 70: vedette/vedetteref6.IsField
def F70_e : Bool → PV × List (List Lf) := fun r => (.one (lb r), [])
def F70 (n : Nat) (a0 : Field) : Option Bool :=
  if a0.N == 0 then
    some (decide ((a0.Text.size : Int) ≤ 12))
  else
    if a0.Text.toList == ByteArray.empty.toList then
      some (decide ((a0.Text.size : Int) ≤ 12))
    else
      some false
theorem F70_ok (n : Nat) (a0 : Field) : ∀ r, F70 n a0 = some r → D 70 [.agg [li .i64 a0.N, ls a0.Text]] [] = some (F70_e r) := by
  refine fn_to (D := D) (n := n + 8) (nt := 17) (rs := pc70_r) (c := pc70_c5) (L := [(0, .agg [li .i64 a0.N, ls a0.Text])]) (M := []) (k := 0) rfl rfl rfl rfl rfl rfl ?_
  unfold F70
  refine Sim.seq ?_
  refine Sim.region0 ?_
  refine SimI.run 2 [(2, .one (lb false)), (1, .one (.ptr 1 0))] [(1, some (.cells [li .i64 a0.N, ls a0.Text]))] (by kernel_rfl) ?_
  refine SimI.done (by kernel_rfl) ?_
  refine SimE.thenN ?_
  refine Sim.seq ?_
  refine Sim.region0 ?_
  refine SimI.run 4 [(6, .one (lb (a0.N == 0))), (5, .one (lb (a0.N == 0))), (4, .one (li .i64 a0.N)), (3, .one (.ptr 1 0))] [] (by kernel_rfl) ?_
  refine SimI.split 6 (a0.N == 0) (by kernel_rfl) ?_ ?_
  · refine SimI.run 11 [(2, .one (lb (decide ((a0.Text.size : Int) ≤ 12)))), (16, .one (lb (decide ((a0.Text.size : Int) ≤ 12)))), (15, .one (lb (decide ((a0.Text.size : Int) ≤ 12)))), (14, .one (li .i64 (a0.Text.size : Int))), (13, .one (ls a0.Text)), (12, .one (.ptr 1 1)), (11, .one (lb true)), (10, .one (lb true)), (9, .tup []), (8, .tup []), (7, .tup [])] [] (by kernel_rfl) ?_
    refine SimI.done (by kernel_rfl) ?_
    refine SimE.thenN ?_
    refine Sim.ret ?_
    exact SimE.fin (by kernel_rfl)
  · refine SimI.run 5 [(11, .one (lb (a0.Text.toList == ByteArray.empty.toList))), (10, .one (lb (a0.Text.toList == ByteArray.empty.toList))), (9, .one (lb (a0.Text.toList == ByteArray.empty.toList))), (8, .one (ls a0.Text)), (7, .one (.ptr 1 1))] [] (by kernel_rfl) ?_
    refine SimI.split 11 (a0.Text.toList == ByteArray.empty.toList) (by kernel_rfl) ?_ ?_
    · refine SimI.run 6 [(2, .one (lb (decide ((a0.Text.size : Int) ≤ 12)))), (16, .one (lb (decide ((a0.Text.size : Int) ≤ 12)))), (15, .one (lb (decide ((a0.Text.size : Int) ≤ 12)))), (14, .one (li .i64 (a0.Text.size : Int))), (13, .one (ls a0.Text)), (12, .one (.ptr 1 1))] [] (by kernel_rfl) ?_
      refine SimI.done (by kernel_rfl) ?_
      refine SimE.thenN ?_
      refine Sim.ret ?_
      exact SimE.fin (by kernel_rfl)
    · refine SimI.run 6 [(2, .one (lb false)), (16, .one (lb false)), (15, .tup []), (14, .tup []), (13, .tup []), (12, .tup [])] [] (by kernel_rfl) ?_
      refine SimI.done (by kernel_rfl) ?_
      refine SimE.thenN ?_
      refine Sim.ret ?_
      exact SimE.fin (by kernel_rfl)


-- 48: vedette/vedetteref6.Is
def F48_e : Bool → PV × List (List Lf) := fun r => (.one (lb r), [])
def F48_u15 (n : Nat) (b14 : Bool) : Option Bool :=
    some b14
theorem F48_u15_ok (n : Nat) (a0 : Thing) (b14 : Bool) : SimL Try.prog D (n + 8) (n + 4) pc48_c13 [(1, .one (.ptr 1 0)), (3, .one (lb b14)), (4, .one (li .i64 4))] ((1, some (.cells [li .i64 a0.ID, li .i64 a0.At.X, li .i64 a0.At.Y, li .i64 a0.F.a0.N, ls a0.F.a0.Text, li .i64 a0.F.a1.N, ls a0.F.a1.Text, li .i64 a0.F.a2.N, ls a0.F.a2.Text, li .i64 a0.F.a3.N, ls a0.F.a3.Text])) :: []) (F48_u15 n b14) (QB 0 (QT Try.prog D (n + 8) pc48_c19 (QF pc48_r 0 F48_e))) := by
    unfold F48_u15
    refine SimL.succ ?_
    refine Sim.seq ?_
    refine Sim.seq ?_
    refine Sim.region [(1, .one (.ptr 1 0)), (3, .one (lb b14)), (4, .one (li .i64 4))] ((1, some (.cells [li .i64 a0.ID, li .i64 a0.At.X, li .i64 a0.At.Y, li .i64 a0.F.a0.N, ls a0.F.a0.Text, li .i64 a0.F.a1.N, ls a0.F.a1.Text, li .i64 a0.F.a2.N, ls a0.F.a2.Text, li .i64 a0.F.a3.N, ls a0.F.a3.Text])) :: []) (by kernel_rfl) ?_
    refine SimI.run 2 [(19, .one (lb false)), (18, .one (li .i64 4))] [] (by kernel_rfl) ?_
    refine SimI.done (by kernel_rfl) ?_
    refine SimE.thenN ?_
    refine Sim.condF (by kernel_rfl) ?_
    refine Sim.exit ?_
    refine SimE.thenX ?_
    refine SimE.loopX ?_
    refine SimE.blockX ?_
    refine SimE.thenN ?_
    refine Sim.seq ?_
    refine Sim.region0 ?_
    refine SimI.run 2 [(2, .one (lb b14)), (30, .one (lb b14))] [] (by kernel_rfl) ?_
    refine SimI.done (by kernel_rfl) ?_
    refine SimE.thenN ?_
    refine Sim.ret ?_
    exact SimE.fin (by kernel_rfl)

def F48_u12 (n : Nat) (a0 : Thing) (b11 : Bool) : Option Bool :=
    if b11 then
      (F70 n a0.F.a3).bind fun (r13 : Bool) =>
      F48_u15 n r13
    else
      F48_u15 n false
theorem F48_u12_ok (n : Nat) (a0 : Thing) (b11 : Bool) : SimL Try.prog D (n + 8) (n + 5) pc48_c13 [(1, .one (.ptr 1 0)), (3, .one (lb b11)), (4, .one (li .i64 3))] ((1, some (.cells [li .i64 a0.ID, li .i64 a0.At.X, li .i64 a0.At.Y, li .i64 a0.F.a0.N, ls a0.F.a0.Text, li .i64 a0.F.a1.N, ls a0.F.a1.Text, li .i64 a0.F.a2.N, ls a0.F.a2.Text, li .i64 a0.F.a3.N, ls a0.F.a3.Text])) :: []) (F48_u12 n a0 b11) (QB 0 (QT Try.prog D (n + 8) pc48_c19 (QF pc48_r 0 F48_e))) := by
    unfold F48_u12
    refine SimL.succ ?_
    refine Sim.seq ?_
    refine Sim.seq ?_
    refine Sim.region [(1, .one (.ptr 1 0)), (3, .one (lb b11)), (4, .one (li .i64 3))] ((1, some (.cells [li .i64 a0.ID, li .i64 a0.At.X, li .i64 a0.At.Y, li .i64 a0.F.a0.N, ls a0.F.a0.Text, li .i64 a0.F.a1.N, ls a0.F.a1.Text, li .i64 a0.F.a2.N, ls a0.F.a2.Text, li .i64 a0.F.a3.N, ls a0.F.a3.Text])) :: []) (by kernel_rfl) ?_
    refine SimI.run 2 [(19, .one (lb true)), (18, .one (li .i64 3))] [] (by kernel_rfl) ?_
    refine SimI.done (by kernel_rfl) ?_
    refine SimE.thenN ?_
    refine Sim.condT (by kernel_rfl) ?_
    refine Sim.skip ?_
    refine SimE.thenN ?_
    refine Sim.seq ?_
    refine Sim.block ?_
    refine Sim.region0 ?_
    refine SimI.run 2 [(23, .one (lb b11)), (22, .one (lb b11))] [] (by kernel_rfl) ?_
    refine SimI.split 23 b11 (by kernel_rfl) ?_ ?_
    · refine SimI.run 4 [(27, .agg [li .i64 a0.F.a3.N, ls a0.F.a3.Text]), (26, .one (.ptr 1 9)), (25, .one (.ptr 1 3)), (24, .one (li .i64 3))] [] (by kernel_rfl) ?_
      refine SimI.bind (og := F70 n a0.F.a3) { dst := some 28, op := POp.call true [[]] 70 [Operand.tmp 27], guard := some (23, true), hints := [] } (fun r13 => [(28, .one (lb r13))]) (fun r13 => []) (by kernel_rfl) (fun r13 hr => pOp_eff (by kernel_rfl) (by kernel_rfl) (eff_call (ARGS := [.agg [li .i64 a0.F.a3.N, ls a0.F.a3.Text]]) (by kernel_rfl) (args_clean (by kernel_rfl) args_nil) (F70_ok n a0.F.a3 r13 hr) (by kernel_rfl))) (fun r13 => ?_)
      refine SimI.run 2 [(3, .one (lb r13)), (29, .one (lb r13))] [] (by kernel_rfl) ?_
      refine SimI.done (by kernel_rfl) ?_
      refine SimE.blockN ?_
      refine SimE.thenN ?_
      refine Sim.region0 ?_
      refine SimI.run 3 [(4, .one (li .i64 4)), (21, .one (li .i64 4)), (20, .one (li .i64 3))] [] (by kernel_rfl) ?_
      refine SimI.done (by kernel_rfl) ?_
      refine SimE.loopN ?_
      refine SimL.pre (ts := [1, 3, 4]) (os := [1]) [(1, .one (.ptr 1 0)), (3, .one (lb r13)), (4, .one (li .i64 4))] ((1, some (.cells [li .i64 a0.ID, li .i64 a0.At.X, li .i64 a0.At.Y, li .i64 a0.F.a0.N, ls a0.F.a0.Text, li .i64 a0.F.a1.N, ls a0.F.a1.Text, li .i64 a0.F.a2.N, ls a0.F.a2.Text, li .i64 a0.F.a3.N, ls a0.F.a3.Text])) :: []) (by kernel_rfl) (by kernel_rfl) (by kernel_rfl) ?_
      exact F48_u15_ok n a0 r13
    · refine SimI.run 7 [(3, .one (lb false)), (29, .one (lb false)), (28, .tup []), (27, .tup []), (26, .tup []), (25, .tup []), (24, .tup [])] [] (by kernel_rfl) ?_
      refine SimI.done (by kernel_rfl) ?_
      refine SimE.blockN ?_
      refine SimE.thenN ?_
      refine Sim.region0 ?_
      refine SimI.run 3 [(4, .one (li .i64 4)), (21, .one (li .i64 4)), (20, .one (li .i64 3))] [] (by kernel_rfl) ?_
      refine SimI.done (by kernel_rfl) ?_
      refine SimE.loopN ?_
      refine SimL.pre (ts := [1, 3, 4]) (os := [1]) [(1, .one (.ptr 1 0)), (3, .one (lb false)), (4, .one (li .i64 4))] ((1, some (.cells [li .i64 a0.ID, li .i64 a0.At.X, li .i64 a0.At.Y, li .i64 a0.F.a0.N, ls a0.F.a0.Text, li .i64 a0.F.a1.N, ls a0.F.a1.Text, li .i64 a0.F.a2.N, ls a0.F.a2.Text, li .i64 a0.F.a3.N, ls a0.F.a3.Text])) :: []) (by kernel_rfl) (by kernel_rfl) (by kernel_rfl) ?_
      exact F48_u15_ok n a0 false

def F48_u9 (n : Nat) (a0 : Thing) (b8 : Bool) : Option Bool :=
    if b8 then
      (F70 n a0.F.a2).bind fun (r10 : Bool) =>
      F48_u12 n a0 r10
    else
      F48_u12 n a0 false
theorem F48_u9_ok (n : Nat) (a0 : Thing) (b8 : Bool) : SimL Try.prog D (n + 8) (n + 6) pc48_c13 [(1, .one (.ptr 1 0)), (3, .one (lb b8)), (4, .one (li .i64 2))] ((1, some (.cells [li .i64 a0.ID, li .i64 a0.At.X, li .i64 a0.At.Y, li .i64 a0.F.a0.N, ls a0.F.a0.Text, li .i64 a0.F.a1.N, ls a0.F.a1.Text, li .i64 a0.F.a2.N, ls a0.F.a2.Text, li .i64 a0.F.a3.N, ls a0.F.a3.Text])) :: []) (F48_u9 n a0 b8) (QB 0 (QT Try.prog D (n + 8) pc48_c19 (QF pc48_r 0 F48_e))) := by
    unfold F48_u9
    refine SimL.succ ?_
    refine Sim.seq ?_
    refine Sim.seq ?_
    refine Sim.region [(1, .one (.ptr 1 0)), (3, .one (lb b8)), (4, .one (li .i64 2))] ((1, some (.cells [li .i64 a0.ID, li .i64 a0.At.X, li .i64 a0.At.Y, li .i64 a0.F.a0.N, ls a0.F.a0.Text, li .i64 a0.F.a1.N, ls a0.F.a1.Text, li .i64 a0.F.a2.N, ls a0.F.a2.Text, li .i64 a0.F.a3.N, ls a0.F.a3.Text])) :: []) (by kernel_rfl) ?_
    refine SimI.run 2 [(19, .one (lb true)), (18, .one (li .i64 2))] [] (by kernel_rfl) ?_
    refine SimI.done (by kernel_rfl) ?_
    refine SimE.thenN ?_
    refine Sim.condT (by kernel_rfl) ?_
    refine Sim.skip ?_
    refine SimE.thenN ?_
    refine Sim.seq ?_
    refine Sim.block ?_
    refine Sim.region0 ?_
    refine SimI.run 2 [(23, .one (lb b8)), (22, .one (lb b8))] [] (by kernel_rfl) ?_
    refine SimI.split 23 b8 (by kernel_rfl) ?_ ?_
    · refine SimI.run 4 [(27, .agg [li .i64 a0.F.a2.N, ls a0.F.a2.Text]), (26, .one (.ptr 1 7)), (25, .one (.ptr 1 3)), (24, .one (li .i64 2))] [] (by kernel_rfl) ?_
      refine SimI.bind (og := F70 n a0.F.a2) { dst := some 28, op := POp.call true [[]] 70 [Operand.tmp 27], guard := some (23, true), hints := [] } (fun r10 => [(28, .one (lb r10))]) (fun r10 => []) (by kernel_rfl) (fun r10 hr => pOp_eff (by kernel_rfl) (by kernel_rfl) (eff_call (ARGS := [.agg [li .i64 a0.F.a2.N, ls a0.F.a2.Text]]) (by kernel_rfl) (args_clean (by kernel_rfl) args_nil) (F70_ok n a0.F.a2 r10 hr) (by kernel_rfl))) (fun r10 => ?_)
      refine SimI.run 2 [(3, .one (lb r10)), (29, .one (lb r10))] [] (by kernel_rfl) ?_
      refine SimI.done (by kernel_rfl) ?_
      refine SimE.blockN ?_
      refine SimE.thenN ?_
      refine Sim.region0 ?_
      refine SimI.run 3 [(4, .one (li .i64 3)), (21, .one (li .i64 3)), (20, .one (li .i64 2))] [] (by kernel_rfl) ?_
      refine SimI.done (by kernel_rfl) ?_
      refine SimE.loopN ?_
      refine SimL.pre (ts := [1, 3, 4]) (os := [1]) [(1, .one (.ptr 1 0)), (3, .one (lb r10)), (4, .one (li .i64 3))] ((1, some (.cells [li .i64 a0.ID, li .i64 a0.At.X, li .i64 a0.At.Y, li .i64 a0.F.a0.N, ls a0.F.a0.Text, li .i64 a0.F.a1.N, ls a0.F.a1.Text, li .i64 a0.F.a2.N, ls a0.F.a2.Text, li .i64 a0.F.a3.N, ls a0.F.a3.Text])) :: []) (by kernel_rfl) (by kernel_rfl) (by kernel_rfl) ?_
      exact F48_u12_ok n a0 r10
    · refine SimI.run 7 [(3, .one (lb false)), (29, .one (lb false)), (28, .tup []), (27, .tup []), (26, .tup []), (25, .tup []), (24, .tup [])] [] (by kernel_rfl) ?_
      refine SimI.done (by kernel_rfl) ?_
      refine SimE.blockN ?_
      refine SimE.thenN ?_
      refine Sim.region0 ?_
      refine SimI.run 3 [(4, .one (li .i64 3)), (21, .one (li .i64 3)), (20, .one (li .i64 2))] [] (by kernel_rfl) ?_
      refine SimI.done (by kernel_rfl) ?_
      refine SimE.loopN ?_
      refine SimL.pre (ts := [1, 3, 4]) (os := [1]) [(1, .one (.ptr 1 0)), (3, .one (lb false)), (4, .one (li .i64 3))] ((1, some (.cells [li .i64 a0.ID, li .i64 a0.At.X, li .i64 a0.At.Y, li .i64 a0.F.a0.N, ls a0.F.a0.Text, li .i64 a0.F.a1.N, ls a0.F.a1.Text, li .i64 a0.F.a2.N, ls a0.F.a2.Text, li .i64 a0.F.a3.N, ls a0.F.a3.Text])) :: []) (by kernel_rfl) (by kernel_rfl) (by kernel_rfl) ?_
      exact F48_u12_ok n a0 false

def F48_u6 (n : Nat) (a0 : Thing) (b5 : Bool) : Option Bool :=
    if b5 then
      (F70 n a0.F.a1).bind fun (r7 : Bool) =>
      F48_u9 n a0 r7
    else
      F48_u9 n a0 false
theorem F48_u6_ok (n : Nat) (a0 : Thing) (b5 : Bool) : SimL Try.prog D (n + 8) (n + 7) pc48_c13 [(1, .one (.ptr 1 0)), (3, .one (lb b5)), (4, .one (li .i64 1))] ((1, some (.cells [li .i64 a0.ID, li .i64 a0.At.X, li .i64 a0.At.Y, li .i64 a0.F.a0.N, ls a0.F.a0.Text, li .i64 a0.F.a1.N, ls a0.F.a1.Text, li .i64 a0.F.a2.N, ls a0.F.a2.Text, li .i64 a0.F.a3.N, ls a0.F.a3.Text])) :: []) (F48_u6 n a0 b5) (QB 0 (QT Try.prog D (n + 8) pc48_c19 (QF pc48_r 0 F48_e))) := by
    unfold F48_u6
    refine SimL.succ ?_
    refine Sim.seq ?_
    refine Sim.seq ?_
    refine Sim.region [(1, .one (.ptr 1 0)), (3, .one (lb b5)), (4, .one (li .i64 1))] ((1, some (.cells [li .i64 a0.ID, li .i64 a0.At.X, li .i64 a0.At.Y, li .i64 a0.F.a0.N, ls a0.F.a0.Text, li .i64 a0.F.a1.N, ls a0.F.a1.Text, li .i64 a0.F.a2.N, ls a0.F.a2.Text, li .i64 a0.F.a3.N, ls a0.F.a3.Text])) :: []) (by kernel_rfl) ?_
    refine SimI.run 2 [(19, .one (lb true)), (18, .one (li .i64 1))] [] (by kernel_rfl) ?_
    refine SimI.done (by kernel_rfl) ?_
    refine SimE.thenN ?_
    refine Sim.condT (by kernel_rfl) ?_
    refine Sim.skip ?_
    refine SimE.thenN ?_
    refine Sim.seq ?_
    refine Sim.block ?_
    refine Sim.region0 ?_
    refine SimI.run 2 [(23, .one (lb b5)), (22, .one (lb b5))] [] (by kernel_rfl) ?_
    refine SimI.split 23 b5 (by kernel_rfl) ?_ ?_
    · refine SimI.run 4 [(27, .agg [li .i64 a0.F.a1.N, ls a0.F.a1.Text]), (26, .one (.ptr 1 5)), (25, .one (.ptr 1 3)), (24, .one (li .i64 1))] [] (by kernel_rfl) ?_
      refine SimI.bind (og := F70 n a0.F.a1) { dst := some 28, op := POp.call true [[]] 70 [Operand.tmp 27], guard := some (23, true), hints := [] } (fun r7 => [(28, .one (lb r7))]) (fun r7 => []) (by kernel_rfl) (fun r7 hr => pOp_eff (by kernel_rfl) (by kernel_rfl) (eff_call (ARGS := [.agg [li .i64 a0.F.a1.N, ls a0.F.a1.Text]]) (by kernel_rfl) (args_clean (by kernel_rfl) args_nil) (F70_ok n a0.F.a1 r7 hr) (by kernel_rfl))) (fun r7 => ?_)
      refine SimI.run 2 [(3, .one (lb r7)), (29, .one (lb r7))] [] (by kernel_rfl) ?_
      refine SimI.done (by kernel_rfl) ?_
      refine SimE.blockN ?_
      refine SimE.thenN ?_
      refine Sim.region0 ?_
      refine SimI.run 3 [(4, .one (li .i64 2)), (21, .one (li .i64 2)), (20, .one (li .i64 1))] [] (by kernel_rfl) ?_
      refine SimI.done (by kernel_rfl) ?_
      refine SimE.loopN ?_
      refine SimL.pre (ts := [1, 3, 4]) (os := [1]) [(1, .one (.ptr 1 0)), (3, .one (lb r7)), (4, .one (li .i64 2))] ((1, some (.cells [li .i64 a0.ID, li .i64 a0.At.X, li .i64 a0.At.Y, li .i64 a0.F.a0.N, ls a0.F.a0.Text, li .i64 a0.F.a1.N, ls a0.F.a1.Text, li .i64 a0.F.a2.N, ls a0.F.a2.Text, li .i64 a0.F.a3.N, ls a0.F.a3.Text])) :: []) (by kernel_rfl) (by kernel_rfl) (by kernel_rfl) ?_
      exact F48_u9_ok n a0 r7
    · refine SimI.run 7 [(3, .one (lb false)), (29, .one (lb false)), (28, .tup []), (27, .tup []), (26, .tup []), (25, .tup []), (24, .tup [])] [] (by kernel_rfl) ?_
      refine SimI.done (by kernel_rfl) ?_
      refine SimE.blockN ?_
      refine SimE.thenN ?_
      refine Sim.region0 ?_
      refine SimI.run 3 [(4, .one (li .i64 2)), (21, .one (li .i64 2)), (20, .one (li .i64 1))] [] (by kernel_rfl) ?_
      refine SimI.done (by kernel_rfl) ?_
      refine SimE.loopN ?_
      refine SimL.pre (ts := [1, 3, 4]) (os := [1]) [(1, .one (.ptr 1 0)), (3, .one (lb false)), (4, .one (li .i64 2))] ((1, some (.cells [li .i64 a0.ID, li .i64 a0.At.X, li .i64 a0.At.Y, li .i64 a0.F.a0.N, ls a0.F.a0.Text, li .i64 a0.F.a1.N, ls a0.F.a1.Text, li .i64 a0.F.a2.N, ls a0.F.a2.Text, li .i64 a0.F.a3.N, ls a0.F.a3.Text])) :: []) (by kernel_rfl) (by kernel_rfl) (by kernel_rfl) ?_
      exact F48_u9_ok n a0 false

def F48_j3 (n : Nat) (a0 : Thing) (b2 : Bool) : Option Bool :=
    if b2 then
      (F70 n a0.F.a0).bind fun (r4 : Bool) =>
      F48_u6 n a0 r4
    else
      F48_u6 n a0 false
theorem F48_j3_ok (n : Nat) (a0 : Thing) (b2 : Bool) : Sim Try.prog D (n + 8) pc48_c20 [(1, .one (.ptr 1 0)), (3, .one (lb b2))] ((1, some (.cells [li .i64 a0.ID, li .i64 a0.At.X, li .i64 a0.At.Y, li .i64 a0.F.a0.N, ls a0.F.a0.Text, li .i64 a0.F.a1.N, ls a0.F.a1.Text, li .i64 a0.F.a2.N, ls a0.F.a2.Text, li .i64 a0.F.a3.N, ls a0.F.a3.Text])) :: []) (F48_j3 n a0 b2) (QF pc48_r 0 F48_e) := by
    unfold F48_j3
    refine Sim.seq ?_
    refine Sim.seq ?_
    refine Sim.region [(1, .one (.ptr 1 0)), (3, .one (lb b2))] ((1, some (.cells [li .i64 a0.ID, li .i64 a0.At.X, li .i64 a0.At.Y, li .i64 a0.F.a0.N, ls a0.F.a0.Text, li .i64 a0.F.a1.N, ls a0.F.a1.Text, li .i64 a0.F.a2.N, ls a0.F.a2.Text, li .i64 a0.F.a3.N, ls a0.F.a3.Text])) :: []) (by kernel_rfl) ?_
    refine SimI.run 1 [(4, .one (li .i64 0))] [] (by kernel_rfl) ?_
    refine SimI.done (by kernel_rfl) ?_
    refine SimE.thenN ?_
    refine Sim.block ?_
    refine Sim.loop ?_
    refine SimL.succ ?_
    refine Sim.seq ?_
    refine Sim.seq ?_
    refine Sim.region [(1, .one (.ptr 1 0)), (3, .one (lb b2)), (4, .one (li .i64 0))] ((1, some (.cells [li .i64 a0.ID, li .i64 a0.At.X, li .i64 a0.At.Y, li .i64 a0.F.a0.N, ls a0.F.a0.Text, li .i64 a0.F.a1.N, ls a0.F.a1.Text, li .i64 a0.F.a2.N, ls a0.F.a2.Text, li .i64 a0.F.a3.N, ls a0.F.a3.Text])) :: []) (by kernel_rfl) ?_
    refine SimI.run 2 [(19, .one (lb true)), (18, .one (li .i64 0))] [] (by kernel_rfl) ?_
    refine SimI.done (by kernel_rfl) ?_
    refine SimE.thenN ?_
    refine Sim.condT (by kernel_rfl) ?_
    refine Sim.skip ?_
    refine SimE.thenN ?_
    refine Sim.seq ?_
    refine Sim.block ?_
    refine Sim.region0 ?_
    refine SimI.run 2 [(23, .one (lb b2)), (22, .one (lb b2))] [] (by kernel_rfl) ?_
    refine SimI.split 23 b2 (by kernel_rfl) ?_ ?_
    · refine SimI.run 4 [(27, .agg [li .i64 a0.F.a0.N, ls a0.F.a0.Text]), (26, .one (.ptr 1 3)), (25, .one (.ptr 1 3)), (24, .one (li .i64 0))] [] (by kernel_rfl) ?_
      refine SimI.bind (og := F70 n a0.F.a0) { dst := some 28, op := POp.call true [[]] 70 [Operand.tmp 27], guard := some (23, true), hints := [] } (fun r4 => [(28, .one (lb r4))]) (fun r4 => []) (by kernel_rfl) (fun r4 hr => pOp_eff (by kernel_rfl) (by kernel_rfl) (eff_call (ARGS := [.agg [li .i64 a0.F.a0.N, ls a0.F.a0.Text]]) (by kernel_rfl) (args_clean (by kernel_rfl) args_nil) (F70_ok n a0.F.a0 r4 hr) (by kernel_rfl))) (fun r4 => ?_)
      refine SimI.run 2 [(3, .one (lb r4)), (29, .one (lb r4))] [] (by kernel_rfl) ?_
      refine SimI.done (by kernel_rfl) ?_
      refine SimE.blockN ?_
      refine SimE.thenN ?_
      refine Sim.region0 ?_
      refine SimI.run 3 [(4, .one (li .i64 1)), (21, .one (li .i64 1)), (20, .one (li .i64 0))] [] (by kernel_rfl) ?_
      refine SimI.done (by kernel_rfl) ?_
      refine SimE.loopN ?_
      refine SimL.pre (ts := [1, 3, 4]) (os := [1]) [(1, .one (.ptr 1 0)), (3, .one (lb r4)), (4, .one (li .i64 1))] ((1, some (.cells [li .i64 a0.ID, li .i64 a0.At.X, li .i64 a0.At.Y, li .i64 a0.F.a0.N, ls a0.F.a0.Text, li .i64 a0.F.a1.N, ls a0.F.a1.Text, li .i64 a0.F.a2.N, ls a0.F.a2.Text, li .i64 a0.F.a3.N, ls a0.F.a3.Text])) :: []) (by kernel_rfl) (by kernel_rfl) (by kernel_rfl) ?_
      exact F48_u6_ok n a0 r4
    · refine SimI.run 7 [(3, .one (lb false)), (29, .one (lb false)), (28, .tup []), (27, .tup []), (26, .tup []), (25, .tup []), (24, .tup [])] [] (by kernel_rfl) ?_
      refine SimI.done (by kernel_rfl) ?_
      refine SimE.blockN ?_
      refine SimE.thenN ?_
      refine Sim.region0 ?_
      refine SimI.run 3 [(4, .one (li .i64 1)), (21, .one (li .i64 1)), (20, .one (li .i64 0))] [] (by kernel_rfl) ?_
      refine SimI.done (by kernel_rfl) ?_
      refine SimE.loopN ?_
      refine SimL.pre (ts := [1, 3, 4]) (os := [1]) [(1, .one (.ptr 1 0)), (3, .one (lb false)), (4, .one (li .i64 1))] ((1, some (.cells [li .i64 a0.ID, li .i64 a0.At.X, li .i64 a0.At.Y, li .i64 a0.F.a0.N, ls a0.F.a0.Text, li .i64 a0.F.a1.N, ls a0.F.a1.Text, li .i64 a0.F.a2.N, ls a0.F.a2.Text, li .i64 a0.F.a3.N, ls a0.F.a3.Text])) :: []) (by kernel_rfl) (by kernel_rfl) (by kernel_rfl) ?_
      exact F48_u6_ok n a0 false

def F48 (n : Nat) (a0 : Thing) : Option Bool :=
  if decide ((0 : Int) ≤ a0.ID) then
    if decide (a0.ID ≤ 1000000) then
      (F54 n a0.At).bind fun (r1 : Bool) =>
      F48_j3 n a0 r1
    else
      F48_j3 n a0 false
  else
    F48_j3 n a0 false
theorem F48_ok (n : Nat) (a0 : Thing) : ∀ r, F48 n a0 = some r → D 48 [.agg [li .i64 a0.ID, li .i64 a0.At.X, li .i64 a0.At.Y, li .i64 a0.F.a0.N, ls a0.F.a0.Text, li .i64 a0.F.a1.N, ls a0.F.a1.Text, li .i64 a0.F.a2.N, ls a0.F.a2.Text, li .i64 a0.F.a3.N, ls a0.F.a3.Text]] [] = some (F48_e r) := by
  refine fn_to (D := D) (n := n + 8) (nt := 31) (rs := pc48_r) (c := pc48_c22) (L := [(0, .agg [li .i64 a0.ID, li .i64 a0.At.X, li .i64 a0.At.Y, li .i64 a0.F.a0.N, ls a0.F.a0.Text, li .i64 a0.F.a1.N, ls a0.F.a1.Text, li .i64 a0.F.a2.N, ls a0.F.a2.Text, li .i64 a0.F.a3.N, ls a0.F.a3.Text])]) (M := []) (k := 0) rfl rfl rfl rfl rfl rfl ?_
  unfold F48
  refine Sim.seq ?_
  refine Sim.region0 ?_
  refine SimI.run 2 [(2, .one (lb false)), (1, .one (.ptr 1 0))] [(1, some (.cells [li .i64 a0.ID, li .i64 a0.At.X, li .i64 a0.At.Y, li .i64 a0.F.a0.N, ls a0.F.a0.Text, li .i64 a0.F.a1.N, ls a0.F.a1.Text, li .i64 a0.F.a2.N, ls a0.F.a2.Text, li .i64 a0.F.a3.N, ls a0.F.a3.Text]))] (by kernel_rfl) ?_
  refine SimI.done (by kernel_rfl) ?_
  refine SimE.thenN ?_
  refine Sim.seq ?_
  refine Sim.region0 ?_
  refine SimI.run 4 [(8, .one (lb (decide ((0 : Int) ≤ a0.ID)))), (7, .one (lb (decide ((0 : Int) ≤ a0.ID)))), (6, .one (li .i64 a0.ID)), (5, .one (.ptr 1 0))] [] (by kernel_rfl) ?_
  refine SimI.split 8 (decide ((0 : Int) ≤ a0.ID)) (by kernel_rfl) ?_ ?_
  · refine SimI.run 5 [(13, .one (lb (decide (a0.ID ≤ 1000000)))), (12, .one (lb (decide (a0.ID ≤ 1000000)))), (11, .one (lb (decide (a0.ID ≤ 1000000)))), (10, .one (li .i64 a0.ID)), (9, .one (.ptr 1 0))] [] (by kernel_rfl) ?_
    refine SimI.split 13 (decide (a0.ID ≤ 1000000)) (by kernel_rfl) ?_ ?_
    · refine SimI.run 2 [(15, .agg [li .i64 a0.At.X, li .i64 a0.At.Y]), (14, .one (.ptr 1 1))] [] (by kernel_rfl) ?_
      refine SimI.bind (og := F54 n a0.At) { dst := some 16, op := POp.call true [[]] 54 [Operand.tmp 15], guard := some (13, true), hints := [] } (fun r1 => [(16, .one (lb r1))]) (fun r1 => []) (by kernel_rfl) (fun r1 hr => pOp_eff (by kernel_rfl) (by kernel_rfl) (eff_call (ARGS := [.agg [li .i64 a0.At.X, li .i64 a0.At.Y]]) (by kernel_rfl) (args_clean (by kernel_rfl) args_nil) (F54_ok n a0.At r1 hr) (by kernel_rfl))) (fun r1 => ?_)
      refine SimI.run 2 [(3, .one (lb r1)), (17, .one (lb r1))] [] (by kernel_rfl) ?_
      refine SimI.done (by kernel_rfl) ?_
      refine SimE.thenN ?_
      refine Sim.pre (ts := [1, 3]) (os := [1]) [(1, .one (.ptr 1 0)), (3, .one (lb r1))] ((1, some (.cells [li .i64 a0.ID, li .i64 a0.At.X, li .i64 a0.At.Y, li .i64 a0.F.a0.N, ls a0.F.a0.Text, li .i64 a0.F.a1.N, ls a0.F.a1.Text, li .i64 a0.F.a2.N, ls a0.F.a2.Text, li .i64 a0.F.a3.N, ls a0.F.a3.Text])) :: []) (by kernel_rfl) (by kernel_rfl) (by kernel_rfl) ?_
      exact F48_j3_ok n a0 r1
    · refine SimI.run 5 [(3, .one (lb false)), (17, .one (lb false)), (16, .tup []), (15, .tup []), (14, .tup [])] [] (by kernel_rfl) ?_
      refine SimI.done (by kernel_rfl) ?_
      refine SimE.thenN ?_
      refine Sim.pre (ts := [1, 3]) (os := [1]) [(1, .one (.ptr 1 0)), (3, .one (lb false))] ((1, some (.cells [li .i64 a0.ID, li .i64 a0.At.X, li .i64 a0.At.Y, li .i64 a0.F.a0.N, ls a0.F.a0.Text, li .i64 a0.F.a1.N, ls a0.F.a1.Text, li .i64 a0.F.a2.N, ls a0.F.a2.Text, li .i64 a0.F.a3.N, ls a0.F.a3.Text])) :: []) (by kernel_rfl) (by kernel_rfl) (by kernel_rfl) ?_
      exact F48_j3_ok n a0 false
  · refine SimI.run 10 [(3, .one (lb false)), (17, .one (lb false)), (16, .tup []), (15, .tup []), (14, .tup []), (13, .one (lb false)), (12, .one (lb false)), (11, .tup []), (10, .tup []), (9, .tup [])] [] (by kernel_rfl) ?_
    refine SimI.done (by kernel_rfl) ?_
    refine SimE.thenN ?_
    refine Sim.pre (ts := [1, 3]) (os := [1]) [(1, .one (.ptr 1 0)), (3, .one (lb false))] ((1, some (.cells [li .i64 a0.ID, li .i64 a0.At.X, li .i64 a0.At.Y, li .i64 a0.F.a0.N, ls a0.F.a0.Text, li .i64 a0.F.a1.N, ls a0.F.a1.Text, li .i64 a0.F.a2.N, ls a0.F.a2.Text, li .i64 a0.F.a3.N, ls a0.F.a3.Text])) :: []) (by kernel_rfl) (by kernel_rfl) (by kernel_rfl) ?_
    exact F48_j3_ok n a0 false


-- 16: vedette/vedettelaw16.rising
def F16_e : Bool → PV × List (List Lf) := fun r => (.one (lb r), [])
def F16_l4 (n : Nat) (a0 : (List Thing)) : Nat → Int → Option Bool
  | 0, _ => none
  | m + 1, i3 =>
    if decide (i3 < ((a0).length : Int)) then
      (ix a0 i3).bind fun (x5 : Thing) =>
      (F48 n x5).bind fun (r6 : Bool) =>
      if !(r6) then
        some false
      else
        if decide ((0 : Int) < i3) then
          (ix a0 i3).bind fun (x7 : Thing) =>
          (ix a0 (IntKind.wrap .i64 (i3 - 1))).bind fun (x8 : Thing) =>
          if decide (x7.ID ≤ x8.ID) then
            some false
          else
            (F16_l4 n a0 m) (IntKind.wrap .i64 (i3 + 1))
        else
          (F16_l4 n a0 m) (IntKind.wrap .i64 (i3 + 1))
    else
      some true
theorem F16_l4_ok (n : Nat) (a0 : (List Thing)) : ∀ (m : Nat) (i3 : Int), SimL Try.prog D (n + 8) m pc16_c18 [(0, .one (vw Thing.cod a0)), (3, .one (li .i64 i3))] [] (F16_l4 n a0 m i3) (QB 0 (QT Try.prog D (n + 8) pc16_c24 (QF pc16_r 0 F16_e))) := by
  intro m_l4
  induction m_l4 with
  | zero => intro i3; exact SimL.zero'  rfl
  | succ m_l4 ih_l4 =>
    intro i3
    refine SimL.succ ?_
    unfold F16_l4
    refine Sim.seq ?_
    refine Sim.seq ?_
    refine Sim.region [(0, .one (vw Thing.cod a0)), (3, .one (li .i64 i3))] [] (by kernel_rfl) ?_
    refine SimI.run 4 [(7, .one (lb (decide (i3 < ((a0).length : Int))))), (6, .one (li .i64 ((a0).length : Int))), (5, .one (vw Thing.cod a0)), (4, .one (li .i64 i3))] [] (by kernel_rfl) ?_
    refine SimI.done (by kernel_rfl) ?_
    refine SimE.thenN ?_
    refine Sim.cond (decide (i3 < ((a0).length : Int))) (by kernel_rfl) ?_ ?_
    · refine Sim.skip ?_
      refine SimE.thenN ?_
      refine Sim.seq ?_
      refine Sim.block ?_
      refine Sim.seq ?_
      refine Sim.region0 ?_
      refine SimI.run 2 [(11, .one (li .i64 i3)), (10, .one (vw Thing.cod a0))] [] (by kernel_rfl) ?_
      refine SimI.bind (og := ix a0 i3) { dst := some 12, op := POp.iaddrS 11 (Operand.tmp 10) (Operand.tmp 11), guard := none, hints := [(10, Hint.imm), (11, Hint.imm)] } (fun x5 => [(12, .one (.eptr (Thing.cod.enc x5) 0))]) (fun x5 => []) (by kernel_rfl) (fun x5 hr => pOp_eff (by kernel_rfl) (by kernel_rfl) (eff_idx (c := Thing.cod) (l := a0) (k := .i64) (n := i3) (by kernel_rfl) (by kernel_rfl) (by kernel_rfl) hr)) (fun x5 => ?_)
      refine SimI.run 1 [(13, .agg [li .i64 x5.ID, li .i64 x5.At.X, li .i64 x5.At.Y, li .i64 x5.F.a0.N, ls x5.F.a0.Text, li .i64 x5.F.a1.N, ls x5.F.a1.Text, li .i64 x5.F.a2.N, ls x5.F.a2.Text, li .i64 x5.F.a3.N, ls x5.F.a3.Text])] [] (by kernel_rfl) ?_
      refine SimI.bind (og := F48 n x5) { dst := some 14, op := POp.call false [[]] 48 [Operand.tmp 13], guard := none, hints := [(13, Hint.imm)] } (fun r6 => [(14, .one (lb r6))]) (fun r6 => []) (by kernel_rfl) (fun r6 hr => pOp_eff (by kernel_rfl) (by kernel_rfl) (eff_call (ARGS := [.agg [li .i64 x5.ID, li .i64 x5.At.X, li .i64 x5.At.Y, li .i64 x5.F.a0.N, ls x5.F.a0.Text, li .i64 x5.F.a1.N, ls x5.F.a1.Text, li .i64 x5.F.a2.N, ls x5.F.a2.Text, li .i64 x5.F.a3.N, ls x5.F.a3.Text]]) (by kernel_rfl) (args_clean (by kernel_rfl) args_nil) (F48_ok n x5 r6 hr) (by kernel_rfl))) (fun r6 => ?_)
      refine SimI.run 2 [(16, .one (lb (!(r6)))), (15, .one (lb (!(r6))))] [] (by kernel_rfl) ?_
      refine SimI.split 16 (!(r6)) (by kernel_rfl) ?_ ?_
      · refine SimI.run 17 [(33, .one (lb true)), (32, .tup []), (31, .tup []), (30, .tup []), (29, .tup []), (28, .tup []), (27, .tup []), (26, .tup []), (25, .tup []), (24, .tup []), (23, .tup []), (22, .tup []), (21, .tup []), (20, .tup []), (19, .tup []), (18, .tup []), (17, .tup [])] [] (by kernel_rfl) ?_
        refine SimI.done (by kernel_rfl) ?_
        refine SimE.thenN ?_
        refine Sim.condT (by kernel_rfl) ?_
        refine Sim.seq ?_
        refine Sim.region0 ?_
        refine SimI.run 1 [(2, .one (lb false))] [] (by kernel_rfl) ?_
        refine SimI.done (by kernel_rfl) ?_
        refine SimE.thenN ?_
        refine Sim.ret ?_
        refine SimE.blockR ?_
        refine SimE.thenR ?_
        refine SimE.loopR ?_
        refine SimE.blockR ?_
        refine SimE.thenR ?_
        exact SimE.fin (by kernel_rfl)
      · refine SimI.run 3 [(19, .one (lb (decide ((0 : Int) < i3)))), (18, .one (lb (decide ((0 : Int) < i3)))), (17, .one (li .i64 i3))] [] (by kernel_rfl) ?_
        refine SimI.split 19 (decide ((0 : Int) < i3)) (by kernel_rfl) ?_ ?_
        · refine SimI.run 2 [(21, .one (li .i64 i3)), (20, .one (vw Thing.cod a0))] [] (by kernel_rfl) ?_
          refine SimI.bind (og := ix a0 i3) { dst := some 22, op := POp.iaddrS 11 (Operand.tmp 20) (Operand.tmp 21), guard := some (19, true), hints := [(20, Hint.imm), (21, Hint.imm)] } (fun x7 => [(22, .one (.eptr (Thing.cod.enc x7) 0))]) (fun x7 => []) (by kernel_rfl) (fun x7 hr => pOp_eff (by kernel_rfl) (by kernel_rfl) (eff_idx (c := Thing.cod) (l := a0) (k := .i64) (n := i3) (by kernel_rfl) (by kernel_rfl) (by kernel_rfl) hr)) (fun x7 => ?_)
          refine SimI.run 5 [(27, .one (li .i64 (IntKind.wrap .i64 (i3 - 1)))), (26, .one (li .i64 i3)), (25, .one (vw Thing.cod a0)), (24, .one (li .i64 x7.ID)), (23, .one (.eptr (Thing.cod.enc x7) 0))] [] (by kernel_rfl) ?_
          refine SimI.bind (og := ix a0 (IntKind.wrap .i64 (i3 - 1))) { dst := some 28, op := POp.iaddrS 11 (Operand.tmp 25) (Operand.tmp 27), guard := some (19, true), hints := [(25, Hint.imm), (27, Hint.imm)] } (fun x8 => [(28, .one (.eptr (Thing.cod.enc x8) 0))]) (fun x8 => []) (by kernel_rfl) (fun x8 hr => pOp_eff (by kernel_rfl) (by kernel_rfl) (eff_idx (c := Thing.cod) (l := a0) (k := .i64) (n := IntKind.wrap .i64 (i3 - 1)) (by kernel_rfl) (by kernel_rfl) (by kernel_rfl) hr)) (fun x8 => ?_)
          refine SimI.run 5 [(33, .one (lb (decide (x7.ID ≤ x8.ID)))), (32, .one (lb (decide (x7.ID ≤ x8.ID)))), (31, .one (lb (decide (x7.ID ≤ x8.ID)))), (30, .one (li .i64 x8.ID)), (29, .one (.eptr (Thing.cod.enc x8) 0))] [] (by kernel_rfl) ?_
          refine SimI.done (by kernel_rfl) ?_
          refine SimE.thenN ?_
          refine Sim.cond (decide (x7.ID ≤ x8.ID)) (by kernel_rfl) ?_ ?_
          · refine Sim.seq ?_
            refine Sim.region0 ?_
            refine SimI.run 1 [(2, .one (lb false))] [] (by kernel_rfl) ?_
            refine SimI.done (by kernel_rfl) ?_
            refine SimE.thenN ?_
            refine Sim.ret ?_
            refine SimE.blockR ?_
            refine SimE.thenR ?_
            refine SimE.loopR ?_
            refine SimE.blockR ?_
            refine SimE.thenR ?_
            exact SimE.fin (by kernel_rfl)
          · refine Sim.skip ?_
            refine SimE.blockN ?_
            refine SimE.thenN ?_
            refine Sim.region0 ?_
            refine SimI.run 3 [(3, .one (li .i64 (IntKind.wrap .i64 (i3 + 1)))), (9, .one (li .i64 (IntKind.wrap .i64 (i3 + 1)))), (8, .one (li .i64 i3))] [] (by kernel_rfl) ?_
            refine SimI.done (by kernel_rfl) ?_
            refine SimE.loopN ?_
            refine SimL.pre (ts := [0, 3]) (os := []) [(0, .one (vw Thing.cod a0)), (3, .one (li .i64 (IntKind.wrap .i64 (i3 + 1))))] [] (by kernel_rfl) (by kernel_rfl) (by kernel_rfl) ?_
            exact ih_l4 (IntKind.wrap .i64 (i3 + 1))
        · refine SimI.run 14 [(33, .one (lb false)), (32, .one (lb false)), (31, .tup []), (30, .tup []), (29, .tup []), (28, .tup []), (27, .tup []), (26, .tup []), (25, .tup []), (24, .tup []), (23, .tup []), (22, .tup []), (21, .tup []), (20, .tup [])] [] (by kernel_rfl) ?_
          refine SimI.done (by kernel_rfl) ?_
          refine SimE.thenN ?_
          refine Sim.condF (by kernel_rfl) ?_
          refine Sim.skip ?_
          refine SimE.blockN ?_
          refine SimE.thenN ?_
          refine Sim.region0 ?_
          refine SimI.run 3 [(3, .one (li .i64 (IntKind.wrap .i64 (i3 + 1)))), (9, .one (li .i64 (IntKind.wrap .i64 (i3 + 1)))), (8, .one (li .i64 i3))] [] (by kernel_rfl) ?_
          refine SimI.done (by kernel_rfl) ?_
          refine SimE.loopN ?_
          refine SimL.pre (ts := [0, 3]) (os := []) [(0, .one (vw Thing.cod a0)), (3, .one (li .i64 (IntKind.wrap .i64 (i3 + 1))))] [] (by kernel_rfl) (by kernel_rfl) (by kernel_rfl) ?_
          exact ih_l4 (IntKind.wrap .i64 (i3 + 1))
    · refine Sim.exit ?_
      refine SimE.thenX ?_
      refine SimE.loopX ?_
      refine SimE.blockX ?_
      refine SimE.thenN ?_
      refine Sim.seq ?_
      refine Sim.region0 ?_
      refine SimI.run 1 [(2, .one (lb true))] [] (by kernel_rfl) ?_
      refine SimI.done (by kernel_rfl) ?_
      refine SimE.thenN ?_
      refine Sim.ret ?_
      exact SimE.fin (by kernel_rfl)

def F16 (n : Nat) (a0 : (List Thing)) : Option Bool :=
  F16_l4 n a0 (n + 8) 0
theorem F16_ok (n : Nat) (a0 : (List Thing)) : ∀ r, F16 n a0 = some r → D 16 [.one (vw Thing.cod a0)] [] = some (F16_e r) := by
  refine fn_to (D := D) (n := n + 8) (nt := 34) (rs := pc16_r) (c := pc16_c26) (L := [(0, .one (vw Thing.cod a0))]) (M := []) (k := 0) rfl rfl rfl rfl rfl rfl ?_
  unfold F16
  refine Sim.seq ?_
  refine Sim.region0 ?_
  refine SimI.run 1 [(2, .one (lb false))] [] (by kernel_rfl) ?_
  refine SimI.done (by kernel_rfl) ?_
  refine SimE.thenN ?_
  refine Sim.seq ?_
  refine Sim.seq ?_
  refine Sim.region0 ?_
  refine SimI.run 1 [(3, .one (li .i64 0))] [] (by kernel_rfl) ?_
  refine SimI.done (by kernel_rfl) ?_
  refine SimE.thenN ?_
  refine Sim.block ?_
  refine Sim.loop ?_
  refine SimL.pre (ts := [0, 3]) (os := []) [(0, .one (vw Thing.cod a0)), (3, .one (li .i64 0))] [] (by kernel_rfl) (by kernel_rfl) (by kernel_rfl) ?_
  exact F16_l4_ok n a0 (n + 8) 0


-- 17: vedette/vedetteref15.Same
def F17_e : Bool → PV × List (List Lf) := fun r => (.one (lb r), [])
def F17_l4 (n : Nat) (a0 : (List Event)) (a1 : (List Event)) : Nat → Int → Option Bool
  | 0, _ => none
  | m + 1, i3 =>
    if decide (i3 < ((a0).length : Int)) then
      (ix a0 i3).bind fun (x5 : Event) =>
      (ix a1 i3).bind fun (x6 : Event) =>
      if !(Event.eqb x5 x6) then
        some false
      else
        (F17_l4 n a0 a1 m) (IntKind.wrap .i64 (i3 + 1))
    else
      some true
theorem F17_l4_ok (n : Nat) (a0 : (List Event)) (a1 : (List Event)) : ∀ (m : Nat) (i3 : Int), SimL Try.prog D (n + 8) m pc17_c25 [(0, .one (vw Event.cod a0)), (1, .one (vw Event.cod a1)), (5, .one (li .i64 i3))] [] (F17_l4 n a0 a1 m i3) (QB 0 (QT Try.prog D (n + 8) pc17_c31 (QF pc17_r 0 F17_e))) := by
  intro m_l4
  induction m_l4 with
  | zero => intro i3; exact SimL.zero'  rfl
  | succ m_l4 ih_l4 =>
    intro i3
    refine SimL.succ ?_
    unfold F17_l4
    refine Sim.seq ?_
    refine Sim.seq ?_
    refine Sim.region [(0, .one (vw Event.cod a0)), (1, .one (vw Event.cod a1)), (5, .one (li .i64 i3))] [] (by kernel_rfl) ?_
    refine SimI.run 4 [(14, .one (lb (decide (i3 < ((a0).length : Int))))), (13, .one (li .i64 ((a0).length : Int))), (12, .one (vw Event.cod a0)), (11, .one (li .i64 i3))] [] (by kernel_rfl) ?_
    refine SimI.done (by kernel_rfl) ?_
    refine SimE.thenN ?_
    refine Sim.cond (decide (i3 < ((a0).length : Int))) (by kernel_rfl) ?_ ?_
    · refine Sim.skip ?_
      refine SimE.thenN ?_
      refine Sim.seq ?_
      refine Sim.block ?_
      refine Sim.seq ?_
      refine Sim.region0 ?_
      refine SimI.run 2 [(18, .one (li .i64 i3)), (17, .one (vw Event.cod a0))] [] (by kernel_rfl) ?_
      refine SimI.bind (og := ix a0 i3) { dst := some 19, op := POp.iaddrS 25 (Operand.tmp 17) (Operand.tmp 18), guard := none, hints := [(17, Hint.imm), (18, Hint.imm)] } (fun x5 => [(19, .one (.eptr (Event.cod.enc x5) 0))]) (fun x5 => []) (by kernel_rfl) (fun x5 hr => pOp_eff (by kernel_rfl) (by kernel_rfl) (eff_idx (c := Event.cod) (l := a0) (k := .i64) (n := i3) (by kernel_rfl) (by kernel_rfl) (by kernel_rfl) hr)) (fun x5 => ?_)
      refine SimI.run 3 [(22, .one (li .i64 i3)), (21, .one (vw Event.cod a1)), (20, .agg [li .i64 x5.Kind, li .i64 x5.ID, li .i64 x5.Thing.ID, li .i64 x5.Thing.At.X, li .i64 x5.Thing.At.Y, li .i64 x5.Thing.F.a0.N, ls x5.Thing.F.a0.Text, li .i64 x5.Thing.F.a1.N, ls x5.Thing.F.a1.Text, li .i64 x5.Thing.F.a2.N, ls x5.Thing.F.a2.Text, li .i64 x5.Thing.F.a3.N, ls x5.Thing.F.a3.Text, li .i64 x5.Delta.ID, li .u8 x5.Delta.Mask, li .i64 x5.Delta.At.X, li .i64 x5.Delta.At.Y, li .i64 x5.Delta.F.a0.N, ls x5.Delta.F.a0.Text, li .i64 x5.Delta.F.a1.N, ls x5.Delta.F.a1.Text, li .i64 x5.Delta.F.a2.N, ls x5.Delta.F.a2.Text, li .i64 x5.Delta.F.a3.N, ls x5.Delta.F.a3.Text])] [] (by kernel_rfl) ?_
      refine SimI.bind (og := ix a1 i3) { dst := some 23, op := POp.iaddrS 25 (Operand.tmp 21) (Operand.tmp 22), guard := none, hints := [(21, Hint.imm), (22, Hint.imm)] } (fun x6 => [(23, .one (.eptr (Event.cod.enc x6) 0))]) (fun x6 => []) (by kernel_rfl) (fun x6 hr => pOp_eff (by kernel_rfl) (by kernel_rfl) (eff_idx (c := Event.cod) (l := a1) (k := .i64) (n := i3) (by kernel_rfl) (by kernel_rfl) (by kernel_rfl) hr)) (fun x6 => ?_)
      refine SimI.run 1 [(24, .agg [li .i64 x6.Kind, li .i64 x6.ID, li .i64 x6.Thing.ID, li .i64 x6.Thing.At.X, li .i64 x6.Thing.At.Y, li .i64 x6.Thing.F.a0.N, ls x6.Thing.F.a0.Text, li .i64 x6.Thing.F.a1.N, ls x6.Thing.F.a1.Text, li .i64 x6.Thing.F.a2.N, ls x6.Thing.F.a2.Text, li .i64 x6.Thing.F.a3.N, ls x6.Thing.F.a3.Text, li .i64 x6.Delta.ID, li .u8 x6.Delta.Mask, li .i64 x6.Delta.At.X, li .i64 x6.Delta.At.Y, li .i64 x6.Delta.F.a0.N, ls x6.Delta.F.a0.Text, li .i64 x6.Delta.F.a1.N, ls x6.Delta.F.a1.Text, li .i64 x6.Delta.F.a2.N, ls x6.Delta.F.a2.Text, li .i64 x6.Delta.F.a3.N, ls x6.Delta.F.a3.Text])] [] (by kernel_rfl) ?_
      refine SimI.step { dst := some 25, op := POp.prim (Prim.bin BinOp.neq 45 false false) [Operand.tmp 20, Operand.tmp 24], guard := none, hints := [(20, Hint.imm), (24, Hint.imm)] } [(25, .one (lb (!(Event.eqb x5 x6))))] [] (by kernel_rfl) (pOp_eff (by kernel_rfl) (by kernel_rfl) (eff_prim (by kernel_rfl) (Event_eqn x5 x6 _ _))) ?_
      refine SimI.done (by kernel_rfl) ?_
      refine SimE.thenN ?_
      refine Sim.cond (!(Event.eqb x5 x6)) (by kernel_rfl) ?_ ?_
      · refine Sim.seq ?_
        refine Sim.region0 ?_
        refine SimI.run 1 [(4, .one (lb false))] [] (by kernel_rfl) ?_
        refine SimI.done (by kernel_rfl) ?_
        refine SimE.thenN ?_
        refine Sim.ret ?_
        refine SimE.blockR ?_
        refine SimE.thenR ?_
        refine SimE.loopR ?_
        refine SimE.blockR ?_
        refine SimE.thenR ?_
        exact SimE.fin (by kernel_rfl)
      · refine Sim.skip ?_
        refine SimE.blockN ?_
        refine SimE.thenN ?_
        refine Sim.region0 ?_
        refine SimI.run 3 [(5, .one (li .i64 (IntKind.wrap .i64 (i3 + 1)))), (16, .one (li .i64 (IntKind.wrap .i64 (i3 + 1)))), (15, .one (li .i64 i3))] [] (by kernel_rfl) ?_
        refine SimI.done (by kernel_rfl) ?_
        refine SimE.loopN ?_
        refine SimL.pre (ts := [0, 1, 5]) (os := []) [(0, .one (vw Event.cod a0)), (1, .one (vw Event.cod a1)), (5, .one (li .i64 (IntKind.wrap .i64 (i3 + 1))))] [] (by kernel_rfl) (by kernel_rfl) (by kernel_rfl) ?_
        exact ih_l4 (IntKind.wrap .i64 (i3 + 1))
    · refine Sim.exit ?_
      refine SimE.thenX ?_
      refine SimE.loopX ?_
      refine SimE.blockX ?_
      refine SimE.thenN ?_
      refine Sim.seq ?_
      refine Sim.region0 ?_
      refine SimI.run 1 [(4, .one (lb true))] [] (by kernel_rfl) ?_
      refine SimI.done (by kernel_rfl) ?_
      refine SimE.thenN ?_
      refine Sim.ret ?_
      exact SimE.fin (by kernel_rfl)

def F17 (n : Nat) (a0 : (List Event)) (a1 : (List Event)) : Option Bool :=
  if ((a0).length : Int) != ((a1).length : Int) then
    some false
  else
    F17_l4 n a0 a1 (n + 8) 0
theorem F17_ok (n : Nat) (a0 : (List Event)) (a1 : (List Event)) : ∀ r, F17 n a0 a1 = some r → D 17 [.one (vw Event.cod a0), .one (vw Event.cod a1)] [] = some (F17_e r) := by
  refine fn_to (D := D) (n := n + 8) (nt := 26) (rs := pc17_r) (c := pc17_c34) (L := [(0, .one (vw Event.cod a0)), (1, .one (vw Event.cod a1))]) (M := []) (k := 0) rfl rfl rfl rfl rfl rfl ?_
  unfold F17
  refine Sim.seq ?_
  refine Sim.region0 ?_
  refine SimI.run 1 [(4, .one (lb false))] [] (by kernel_rfl) ?_
  refine SimI.done (by kernel_rfl) ?_
  refine SimE.thenN ?_
  refine Sim.seq ?_
  refine Sim.seq ?_
  refine Sim.region0 ?_
  refine SimI.run 5 [(10, .one (lb (((a0).length : Int) != ((a1).length : Int)))), (9, .one (li .i64 ((a1).length : Int))), (8, .one (vw Event.cod a1)), (7, .one (li .i64 ((a0).length : Int))), (6, .one (vw Event.cod a0))] [] (by kernel_rfl) ?_
  refine SimI.done (by kernel_rfl) ?_
  refine SimE.thenN ?_
  refine Sim.cond (((a0).length : Int) != ((a1).length : Int)) (by kernel_rfl) ?_ ?_
  · refine Sim.seq ?_
    refine Sim.region0 ?_
    refine SimI.run 1 [(4, .one (lb false))] [] (by kernel_rfl) ?_
    refine SimI.done (by kernel_rfl) ?_
    refine SimE.thenN ?_
    refine Sim.ret ?_
    refine SimE.thenR ?_
    exact SimE.fin (by kernel_rfl)
  · refine Sim.skip ?_
    refine SimE.thenN ?_
    refine Sim.seq ?_
    refine Sim.seq ?_
    refine Sim.region0 ?_
    refine SimI.run 1 [(5, .one (li .i64 0))] [] (by kernel_rfl) ?_
    refine SimI.done (by kernel_rfl) ?_
    refine SimE.thenN ?_
    refine Sim.block ?_
    refine Sim.loop ?_
    refine SimL.pre (ts := [0, 1, 5]) (os := []) [(0, .one (vw Event.cod a0)), (1, .one (vw Event.cod a1)), (5, .one (li .i64 0))] [] (by kernel_rfl) (by kernel_rfl) (by kernel_rfl) ?_
    exact F17_l4_ok n a0 a1 (n + 8) 0


-- 23: vedette/vedetteref3.In
def F23_e : Bool → PV × List (List Lf) := fun r => (.one (lb r), [])
def F23 (n : Nat) (a0 : Rect) (a1 : Point) : Option Bool :=
  if decide (a0.X0 ≤ a1.X) then
    if decide (a1.X < a0.X1) then
      if decide (a0.Y0 ≤ a1.Y) then
        some (decide (a1.Y < a0.Y1))
      else
        some false
    else
      some false
  else
    some false
theorem F23_ok (n : Nat) (a0 : Rect) (a1 : Point) : ∀ r, F23 n a0 a1 = some r → D 23 [.agg [li .i64 a0.X0, li .i64 a0.Y0, li .i64 a0.X1, li .i64 a0.Y1], .agg [li .i64 a1.X, li .i64 a1.Y]] [] = some (F23_e r) := by
  refine fn_to (D := D) (n := n + 8) (nt := 31) (rs := pc23_r) (c := pc23_c5) (L := [(0, .agg [li .i64 a0.X0, li .i64 a0.Y0, li .i64 a0.X1, li .i64 a0.Y1]), (1, .agg [li .i64 a1.X, li .i64 a1.Y])]) (M := []) (k := 0) rfl rfl rfl rfl rfl rfl ?_
  unfold F23
  refine Sim.seq ?_
  refine Sim.region0 ?_
  refine SimI.run 3 [(4, .one (lb false)), (3, .one (.ptr 3 0)), (2, .one (.ptr 2 0))] [(3, some (.cells [li .i64 a1.X, li .i64 a1.Y])), (2, some (.cells [li .i64 a0.X0, li .i64 a0.Y0, li .i64 a0.X1, li .i64 a0.Y1]))] (by kernel_rfl) ?_
  refine SimI.done (by kernel_rfl) ?_
  refine SimE.thenN ?_
  refine Sim.seq ?_
  refine Sim.region0 ?_
  refine SimI.run 6 [(10, .one (lb (decide (a0.X0 ≤ a1.X)))), (9, .one (lb (decide (a0.X0 ≤ a1.X)))), (8, .one (li .i64 a1.X)), (7, .one (.ptr 3 0)), (6, .one (li .i64 a0.X0)), (5, .one (.ptr 2 0))] [] (by kernel_rfl) ?_
  refine SimI.split 10 (decide (a0.X0 ≤ a1.X)) (by kernel_rfl) ?_ ?_
  · refine SimI.run 7 [(17, .one (lb (decide (a1.X < a0.X1)))), (16, .one (lb (decide (a1.X < a0.X1)))), (15, .one (lb (decide (a1.X < a0.X1)))), (14, .one (li .i64 a0.X1)), (13, .one (.ptr 2 2)), (12, .one (li .i64 a1.X)), (11, .one (.ptr 3 0))] [] (by kernel_rfl) ?_
    refine SimI.split 17 (decide (a1.X < a0.X1)) (by kernel_rfl) ?_ ?_
    · refine SimI.run 7 [(24, .one (lb (decide (a0.Y0 ≤ a1.Y)))), (23, .one (lb (decide (a0.Y0 ≤ a1.Y)))), (22, .one (lb (decide (a0.Y0 ≤ a1.Y)))), (21, .one (li .i64 a1.Y)), (20, .one (.ptr 3 1)), (19, .one (li .i64 a0.Y0)), (18, .one (.ptr 2 1))] [] (by kernel_rfl) ?_
      refine SimI.split 24 (decide (a0.Y0 ≤ a1.Y)) (by kernel_rfl) ?_ ?_
      · refine SimI.run 7 [(4, .one (lb (decide (a1.Y < a0.Y1)))), (30, .one (lb (decide (a1.Y < a0.Y1)))), (29, .one (lb (decide (a1.Y < a0.Y1)))), (28, .one (li .i64 a0.Y1)), (27, .one (.ptr 2 3)), (26, .one (li .i64 a1.Y)), (25, .one (.ptr 3 1))] [] (by kernel_rfl) ?_
        refine SimI.done (by kernel_rfl) ?_
        refine SimE.thenN ?_
        refine Sim.ret ?_
        exact SimE.fin (by kernel_rfl)
      · refine SimI.run 7 [(4, .one (lb false)), (30, .one (lb false)), (29, .tup []), (28, .tup []), (27, .tup []), (26, .tup []), (25, .tup [])] [] (by kernel_rfl) ?_
        refine SimI.done (by kernel_rfl) ?_
        refine SimE.thenN ?_
        refine Sim.ret ?_
        exact SimE.fin (by kernel_rfl)
    · refine SimI.run 14 [(4, .one (lb false)), (30, .one (lb false)), (29, .tup []), (28, .tup []), (27, .tup []), (26, .tup []), (25, .tup []), (24, .one (lb false)), (23, .one (lb false)), (22, .tup []), (21, .tup []), (20, .tup []), (19, .tup []), (18, .tup [])] [] (by kernel_rfl) ?_
      refine SimI.done (by kernel_rfl) ?_
      refine SimE.thenN ?_
      refine Sim.ret ?_
      exact SimE.fin (by kernel_rfl)
  · refine SimI.run 21 [(4, .one (lb false)), (30, .one (lb false)), (29, .tup []), (28, .tup []), (27, .tup []), (26, .tup []), (25, .tup []), (24, .one (lb false)), (23, .one (lb false)), (22, .tup []), (21, .tup []), (20, .tup []), (19, .tup []), (18, .tup []), (17, .one (lb false)), (16, .one (lb false)), (15, .tup []), (14, .tup []), (13, .tup []), (12, .tup []), (11, .tup [])] [] (by kernel_rfl) ?_
    refine SimI.done (by kernel_rfl) ?_
    refine SimE.thenN ?_
    refine Sim.ret ?_
    exact SimE.fin (by kernel_rfl)


-- 22: vedette/vedetteref6.Seen
def F22_e : (List Thing) → PV × List (List Lf) := fun r => (.one (vw Thing.cod r), [])
def F22_l10 (n : Nat) (a0 : (List Thing)) (a1 : Rect) : Nat → (List Thing) → Int → Option (List Thing)
  | 0, _, _ => none
  | m + 1, l7, i9 =>
    if decide (i9 < ((a0).length : Int)) then
      (ix a0 i9).bind fun (x11 : Thing) =>
      (F23 n a1 x11.At).bind fun (r12 : Bool) =>
      if r12 then
        (ix a0 i9).bind fun (x13 : Thing) =>
        if ((l7).length + 1) * 120 ≤ maxCells ∧ (l7).length + 1 ≤ maxCells then
          (F22_l10 n a0 a1 m) (l7 ++ [x13]) (IntKind.wrap .i64 (i9 + 1))
        else none
      else
        (F22_l10 n a0 a1 m) l7 (IntKind.wrap .i64 (i9 + 1))
    else
      some l7
theorem F22_l10_ok (n : Nat) (a0 : (List Thing)) (a1 : Rect) : ∀ (m : Nat) (l7 : (List Thing)) (i9 : Int) (g8 : Nat), SimL Try.prog D (n + 8) m pc22_c17 [(0, .one (vw Thing.cod a0)), (3, .one (.ptr 3 0)), (5, .one (ownL 100005 g8 l7)), (6, .one (li .i64 i9))] ((3, some (.cells [li .i64 a1.X0, li .i64 a1.Y0, li .i64 a1.X1, li .i64 a1.Y1])) :: (ownM Thing.cod 39 100005 g8 l7 [])) (F22_l10 n a0 a1 m l7 i9) (QB 0 (QT Try.prog D (n + 8) pc22_c23 (QF pc22_r 0 F22_e))) := by
  intro m_l10
  induction m_l10 with
  | zero => intro l7 i9 g8; exact SimL.zero'  rfl
  | succ m_l10 ih_l10 =>
    intro l7 i9 g8
    cases l7 with
    | nil =>
      refine SimL.succ ?_
      unfold F22_l10
      refine Sim.seq ?_
      refine Sim.seq ?_
      refine Sim.region [(0, .one (vw Thing.cod a0)), (3, .one (.ptr 3 0)), (5, .one (lnil)), (6, .one (li .i64 i9))] ((3, some (.cells [li .i64 a1.X0, li .i64 a1.Y0, li .i64 a1.X1, li .i64 a1.Y1])) :: []) (by kernel_rfl) ?_
      refine SimI.run 4 [(10, .one (lb (decide (i9 < ((a0).length : Int))))), (9, .one (li .i64 ((a0).length : Int))), (8, .one (vw Thing.cod a0)), (7, .one (li .i64 i9))] [] (by kernel_rfl) ?_
      refine SimI.done (by kernel_rfl) ?_
      refine SimE.thenN ?_
      refine Sim.cond (decide (i9 < ((a0).length : Int))) (by kernel_rfl) ?_ ?_
      · refine Sim.skip ?_
        refine SimE.thenN ?_
        refine Sim.seq ?_
        refine Sim.block ?_
        refine Sim.seq ?_
        refine Sim.region0 ?_
        refine SimI.run 3 [(15, .one (li .i64 i9)), (14, .one (vw Thing.cod a0)), (13, .agg [li .i64 a1.X0, li .i64 a1.Y0, li .i64 a1.X1, li .i64 a1.Y1])] [] (by kernel_rfl) ?_
        refine SimI.bind (og := ix a0 i9) { dst := some 16, op := POp.iaddrS 11 (Operand.tmp 14) (Operand.tmp 15), guard := none, hints := [(14, Hint.imm), (15, Hint.imm)] } (fun x11 => [(16, .one (.eptr (Thing.cod.enc x11) 0))]) (fun x11 => []) (by kernel_rfl) (fun x11 hr => pOp_eff (by kernel_rfl) (by kernel_rfl) (eff_idx (c := Thing.cod) (l := a0) (k := .i64) (n := i9) (by kernel_rfl) (by kernel_rfl) (by kernel_rfl) hr)) (fun x11 => ?_)
        refine SimI.run 2 [(18, .agg [li .i64 x11.At.X, li .i64 x11.At.Y]), (17, .one (.eptr (Thing.cod.enc x11) 1))] [] (by kernel_rfl) ?_
        refine SimI.bind (og := F23 n a1 x11.At) { dst := some 19, op := POp.call false [[], []] 23 [Operand.tmp 13, Operand.tmp 18], guard := none, hints := [(13, Hint.imm), (18, Hint.imm)] } (fun r12 => [(19, .one (lb r12))]) (fun r12 => []) (by kernel_rfl) (fun r12 hr => pOp_eff (by kernel_rfl) (by kernel_rfl) (eff_call (ARGS := [.agg [li .i64 a1.X0, li .i64 a1.Y0, li .i64 a1.X1, li .i64 a1.Y1], .agg [li .i64 x11.At.X, li .i64 x11.At.Y]]) (by kernel_rfl) (args_clean (by kernel_rfl) (args_clean (by kernel_rfl) args_nil)) (F23_ok n a1 x11.At r12 hr) (by kernel_rfl))) (fun r12 => ?_)
        refine SimI.done (by kernel_rfl) ?_
        refine SimE.thenN ?_
        refine Sim.cond r12 (by kernel_rfl) ?_ ?_
        · refine Sim.region0 ?_
          refine SimI.run 3 [(22, .one (li .i64 i9)), (21, .one (vw Thing.cod a0)), (20, .one (lnil))] [] (by kernel_rfl) ?_
          refine SimI.bind (og := ix a0 i9) { dst := some 23, op := POp.iaddrS 11 (Operand.tmp 21) (Operand.tmp 22), guard := none, hints := [] } (fun x13 => [(23, .one (.eptr (Thing.cod.enc x13) 0))]) (fun x13 => []) (by kernel_rfl) (fun x13 hr => pOp_eff (by kernel_rfl) (by kernel_rfl) (eff_idx (c := Thing.cod) (l := a0) (k := .i64) (n := i9) (by kernel_rfl) (by kernel_rfl) (by kernel_rfl) hr)) (fun x13 => ?_)
          refine SimI.run 2 [(25, .one (vw Thing.cod [x13])), (24, .agg [li .i64 x13.ID, li .i64 x13.At.X, li .i64 x13.At.Y, li .i64 x13.F.a0.N, ls x13.F.a0.Text, li .i64 x13.F.a1.N, ls x13.F.a1.Text, li .i64 x13.F.a2.N, ls x13.F.a2.Text, li .i64 x13.F.a3.N, ls x13.F.a3.Text])] [] (by kernel_rfl) ?_
          refine SimI.guard (c := (([] : List Thing).length + 1) * 120 ≤ maxCells ∧ ([] : List Thing).length + 1 ≤ maxCells) { dst := some 26, op := POp.app 100005 39 11 120 (Operand.tmp 20) (Operand.tmp 25), guard := none, hints := [] } [(26, .one (.osl 100005 0 0 ([x13]).length))] [(100005, some (.arr 39 Thing.cod.sz 0 ([x13]).length (getOf Thing.cod [x13])))] (by kernel_rfl) (fun hc => pOp_eff (by kernel_rfl) (by kernel_rfl) (eff_appN (c := Thing.cod) (a := x13) (by kernel_rfl) (by kernel_rfl) (by kernel_rfl) (by kernel_rfl) (by kernel_rfl) (by kernel_rfl))) ?_
          refine SimI.run 1 [(5, .one (.osl 100005 0 0 ([x13]).length))] [] (by kernel_rfl) ?_
          refine SimI.done (by kernel_rfl) ?_
          refine SimE.blockN ?_
          refine SimE.thenN ?_
          refine Sim.region0 ?_
          refine SimI.run 3 [(6, .one (li .i64 (IntKind.wrap .i64 (i9 + 1)))), (12, .one (li .i64 (IntKind.wrap .i64 (i9 + 1)))), (11, .one (li .i64 i9))] [] (by kernel_rfl) ?_
          refine SimI.done (by kernel_rfl) ?_
          refine SimE.loopN ?_
          refine SimL.pre (ts := [0, 3, 5, 6]) (os := [3, 100005]) [(0, .one (vw Thing.cod a0)), (3, .one (.ptr 3 0)), (5, .one (ownL 100005 0 [x13])), (6, .one (li .i64 (IntKind.wrap .i64 (i9 + 1))))] ((3, some (.cells [li .i64 a1.X0, li .i64 a1.Y0, li .i64 a1.X1, li .i64 a1.Y1])) :: (ownM Thing.cod 39 100005 0 [x13] [])) (by kernel_rfl) (by kernel_rfl) (by kernel_rfl) ?_
          exact ih_l10 [x13] (IntKind.wrap .i64 (i9 + 1)) 0
        · refine Sim.skip ?_
          refine SimE.blockN ?_
          refine SimE.thenN ?_
          refine Sim.region0 ?_
          refine SimI.run 3 [(6, .one (li .i64 (IntKind.wrap .i64 (i9 + 1)))), (12, .one (li .i64 (IntKind.wrap .i64 (i9 + 1)))), (11, .one (li .i64 i9))] [] (by kernel_rfl) ?_
          refine SimI.done (by kernel_rfl) ?_
          refine SimE.loopN ?_
          refine SimL.pre (ts := [0, 3, 5, 6]) (os := [3, 100005]) [(0, .one (vw Thing.cod a0)), (3, .one (.ptr 3 0)), (5, .one (ownL 100005 0 ([] : List Thing))), (6, .one (li .i64 (IntKind.wrap .i64 (i9 + 1))))] ((3, some (.cells [li .i64 a1.X0, li .i64 a1.Y0, li .i64 a1.X1, li .i64 a1.Y1])) :: (ownM Thing.cod 39 100005 0 ([] : List Thing) [])) (by kernel_rfl) (by kernel_rfl) (by kernel_rfl) ?_
          exact ih_l10 ([] : List Thing) (IntKind.wrap .i64 (i9 + 1)) 0
      · refine Sim.exit ?_
        refine SimE.thenX ?_
        refine SimE.loopX ?_
        refine SimE.blockX ?_
        refine SimE.thenN ?_
        refine Sim.seq ?_
        refine Sim.region0 ?_
        refine SimI.run 2 [(4, .one (lnil)), (27, .one (lnil))] [] (by kernel_rfl) ?_
        refine SimI.done (by kernel_rfl) ?_
        refine SimE.thenN ?_
        refine Sim.ret ?_
        exact SimE.fin (by kernel_rfl)
    | cons l7h l7t =>
      refine SimL.succ ?_
      unfold F22_l10
      refine Sim.seq ?_
      refine Sim.seq ?_
      refine Sim.region [(0, .one (vw Thing.cod a0)), (3, .one (.ptr 3 0)), (5, .one (.osl 100005 g8 0 ((l7h :: l7t)).length)), (6, .one (li .i64 i9))] ((3, some (.cells [li .i64 a1.X0, li .i64 a1.Y0, li .i64 a1.X1, li .i64 a1.Y1])) :: ((100005, some (.arr 39 Thing.cod.sz g8 ((l7h :: l7t)).length (getOf Thing.cod (l7h :: l7t)))) :: [])) (by kernel_rfl) ?_
      refine SimI.run 4 [(10, .one (lb (decide (i9 < ((a0).length : Int))))), (9, .one (li .i64 ((a0).length : Int))), (8, .one (vw Thing.cod a0)), (7, .one (li .i64 i9))] [] (by kernel_rfl) ?_
      refine SimI.done (by kernel_rfl) ?_
      refine SimE.thenN ?_
      refine Sim.cond (decide (i9 < ((a0).length : Int))) (by kernel_rfl) ?_ ?_
      · refine Sim.skip ?_
        refine SimE.thenN ?_
        refine Sim.seq ?_
        refine Sim.block ?_
        refine Sim.seq ?_
        refine Sim.region0 ?_
        refine SimI.run 3 [(15, .one (li .i64 i9)), (14, .one (vw Thing.cod a0)), (13, .agg [li .i64 a1.X0, li .i64 a1.Y0, li .i64 a1.X1, li .i64 a1.Y1])] [] (by kernel_rfl) ?_
        refine SimI.bind (og := ix a0 i9) { dst := some 16, op := POp.iaddrS 11 (Operand.tmp 14) (Operand.tmp 15), guard := none, hints := [(14, Hint.imm), (15, Hint.imm)] } (fun x11 => [(16, .one (.eptr (Thing.cod.enc x11) 0))]) (fun x11 => []) (by kernel_rfl) (fun x11 hr => pOp_eff (by kernel_rfl) (by kernel_rfl) (eff_idx (c := Thing.cod) (l := a0) (k := .i64) (n := i9) (by kernel_rfl) (by kernel_rfl) (by kernel_rfl) hr)) (fun x11 => ?_)
        refine SimI.run 2 [(18, .agg [li .i64 x11.At.X, li .i64 x11.At.Y]), (17, .one (.eptr (Thing.cod.enc x11) 1))] [] (by kernel_rfl) ?_
        refine SimI.bind (og := F23 n a1 x11.At) { dst := some 19, op := POp.call false [[], []] 23 [Operand.tmp 13, Operand.tmp 18], guard := none, hints := [(13, Hint.imm), (18, Hint.imm)] } (fun r12 => [(19, .one (lb r12))]) (fun r12 => []) (by kernel_rfl) (fun r12 hr => pOp_eff (by kernel_rfl) (by kernel_rfl) (eff_call (ARGS := [.agg [li .i64 a1.X0, li .i64 a1.Y0, li .i64 a1.X1, li .i64 a1.Y1], .agg [li .i64 x11.At.X, li .i64 x11.At.Y]]) (by kernel_rfl) (args_clean (by kernel_rfl) (args_clean (by kernel_rfl) args_nil)) (F23_ok n a1 x11.At r12 hr) (by kernel_rfl))) (fun r12 => ?_)
        refine SimI.done (by kernel_rfl) ?_
        refine SimE.thenN ?_
        refine Sim.cond r12 (by kernel_rfl) ?_ ?_
        · refine Sim.region0 ?_
          refine SimI.run 3 [(22, .one (li .i64 i9)), (21, .one (vw Thing.cod a0)), (20, .one (.osl 100005 g8 0 ((l7h :: l7t)).length))] [] (by kernel_rfl) ?_
          refine SimI.bind (og := ix a0 i9) { dst := some 23, op := POp.iaddrS 11 (Operand.tmp 21) (Operand.tmp 22), guard := none, hints := [] } (fun x13 => [(23, .one (.eptr (Thing.cod.enc x13) 0))]) (fun x13 => []) (by kernel_rfl) (fun x13 hr => pOp_eff (by kernel_rfl) (by kernel_rfl) (eff_idx (c := Thing.cod) (l := a0) (k := .i64) (n := i9) (by kernel_rfl) (by kernel_rfl) (by kernel_rfl) hr)) (fun x13 => ?_)
          refine SimI.run 2 [(25, .one (vw Thing.cod [x13])), (24, .agg [li .i64 x13.ID, li .i64 x13.At.X, li .i64 x13.At.Y, li .i64 x13.F.a0.N, ls x13.F.a0.Text, li .i64 x13.F.a1.N, ls x13.F.a1.Text, li .i64 x13.F.a2.N, ls x13.F.a2.Text, li .i64 x13.F.a3.N, ls x13.F.a3.Text])] [] (by kernel_rfl) ?_
          refine SimI.guard (c := (((l7h :: l7t)).length + 1) * 120 ≤ maxCells ∧ ((l7h :: l7t)).length + 1 ≤ maxCells) { dst := some 26, op := POp.app 100005 39 11 120 (Operand.tmp 20) (Operand.tmp 25), guard := none, hints := [] } [(26, .one (.osl 100005 (g8 + 1) 0 (((l7h :: l7t) ++ [x13])).length))] [(100005, some (.arr 39 Thing.cod.sz (g8 + 1) (((l7h :: l7t) ++ [x13])).length (getOf Thing.cod ((l7h :: l7t) ++ [x13]))))] (by kernel_rfl) (fun hc => pOp_eff (by kernel_rfl) (by kernel_rfl) (eff_appO (c := Thing.cod) (g := g8) (l := (l7h :: l7t)) (a := x13) (by kernel_rfl) (by kernel_rfl) (by kernel_rfl) (by kernel_rfl) hc)) ?_
          refine SimI.run 1 [(5, .one (.osl 100005 (g8 + 1) 0 (((l7h :: l7t) ++ [x13])).length))] [] (by kernel_rfl) ?_
          refine SimI.done (by kernel_rfl) ?_
          refine SimE.blockN ?_
          refine SimE.thenN ?_
          refine Sim.region0 ?_
          refine SimI.run 3 [(6, .one (li .i64 (IntKind.wrap .i64 (i9 + 1)))), (12, .one (li .i64 (IntKind.wrap .i64 (i9 + 1)))), (11, .one (li .i64 i9))] [] (by kernel_rfl) ?_
          refine SimI.done (by kernel_rfl) ?_
          refine SimE.loopN ?_
          refine SimL.pre (ts := [0, 3, 5, 6]) (os := [3, 100005]) [(0, .one (vw Thing.cod a0)), (3, .one (.ptr 3 0)), (5, .one (ownL 100005 (g8 + 1) ((l7h :: l7t) ++ [x13]))), (6, .one (li .i64 (IntKind.wrap .i64 (i9 + 1))))] ((3, some (.cells [li .i64 a1.X0, li .i64 a1.Y0, li .i64 a1.X1, li .i64 a1.Y1])) :: (ownM Thing.cod 39 100005 (g8 + 1) ((l7h :: l7t) ++ [x13]) [])) (by kernel_rfl) (by kernel_rfl) (by kernel_rfl) ?_
          exact ih_l10 ((l7h :: l7t) ++ [x13]) (IntKind.wrap .i64 (i9 + 1)) (g8 + 1)
        · refine Sim.skip ?_
          refine SimE.blockN ?_
          refine SimE.thenN ?_
          refine Sim.region0 ?_
          refine SimI.run 3 [(6, .one (li .i64 (IntKind.wrap .i64 (i9 + 1)))), (12, .one (li .i64 (IntKind.wrap .i64 (i9 + 1)))), (11, .one (li .i64 i9))] [] (by kernel_rfl) ?_
          refine SimI.done (by kernel_rfl) ?_
          refine SimE.loopN ?_
          refine SimL.pre (ts := [0, 3, 5, 6]) (os := [3, 100005]) [(0, .one (vw Thing.cod a0)), (3, .one (.ptr 3 0)), (5, .one (ownL 100005 g8 (l7h :: l7t))), (6, .one (li .i64 (IntKind.wrap .i64 (i9 + 1))))] ((3, some (.cells [li .i64 a1.X0, li .i64 a1.Y0, li .i64 a1.X1, li .i64 a1.Y1])) :: (ownM Thing.cod 39 100005 g8 (l7h :: l7t) [])) (by kernel_rfl) (by kernel_rfl) (by kernel_rfl) ?_
          exact ih_l10 (l7h :: l7t) (IntKind.wrap .i64 (i9 + 1)) g8
      · refine Sim.exit ?_
        refine SimE.thenX ?_
        refine SimE.loopX ?_
        refine SimE.blockX ?_
        refine SimE.thenN ?_
        refine Sim.seq ?_
        refine Sim.region0 ?_
        refine SimI.run 2 [(4, .one (.osl 100005 g8 0 ((l7h :: l7t)).length)), (27, .one (.osl 100005 g8 0 ((l7h :: l7t)).length))] [] (by kernel_rfl) ?_
        refine SimI.done (by kernel_rfl) ?_
        refine SimE.thenN ?_
        refine Sim.ret ?_
        exact SimE.fin (out_of (os := []) (ress_cons (resOf_own (c := Thing.cod) (k := 100005) (g := g8) (el := 39) (l := (l7h :: l7t)) (by kernel_rfl) (by kernel_rfl)) (ress_nil)) (by kernel_rfl) (by kernel_rfl))

def F22 (n : Nat) (a0 : (List Thing)) (a1 : Rect) : Option (List Thing) :=
  F22_l10 n a0 a1 (n + 8) ([] : List Thing) 0
theorem F22_ok (n : Nat) (a0 : (List Thing)) (a1 : Rect) : ∀ r, F22 n a0 a1 = some r → D 22 [.one (vw Thing.cod a0), .agg [li .i64 a1.X0, li .i64 a1.Y0, li .i64 a1.X1, li .i64 a1.Y1]] [] = some (F22_e r) := by
  refine fn_to (D := D) (n := n + 8) (nt := 28) (rs := pc22_r) (c := pc22_c26) (L := [(0, .one (vw Thing.cod a0)), (1, .agg [li .i64 a1.X0, li .i64 a1.Y0, li .i64 a1.X1, li .i64 a1.Y1])]) (M := []) (k := 0) rfl rfl rfl rfl rfl rfl ?_
  unfold F22
  refine Sim.seq ?_
  refine Sim.region0 ?_
  refine SimI.run 2 [(4, .one (lnil)), (3, .one (.ptr 3 0))] [(3, some (.cells [li .i64 a1.X0, li .i64 a1.Y0, li .i64 a1.X1, li .i64 a1.Y1]))] (by kernel_rfl) ?_
  refine SimI.done (by kernel_rfl) ?_
  refine SimE.thenN ?_
  refine Sim.seq ?_
  refine Sim.region0 ?_
  refine SimI.run 1 [(5, .one (lnil))] [] (by kernel_rfl) ?_
  refine SimI.done (by kernel_rfl) ?_
  refine SimE.thenN ?_
  refine Sim.seq ?_
  refine Sim.seq ?_
  refine Sim.region0 ?_
  refine SimI.run 1 [(6, .one (li .i64 0))] [] (by kernel_rfl) ?_
  refine SimI.done (by kernel_rfl) ?_
  refine SimE.thenN ?_
  refine Sim.block ?_
  refine Sim.loop ?_
  refine SimL.pre (ts := [0, 3, 5, 6]) (os := [3, 100005]) [(0, .one (vw Thing.cod a0)), (3, .one (.ptr 3 0)), (5, .one (ownL 100005 0 ([] : List Thing))), (6, .one (li .i64 0))] ((3, some (.cells [li .i64 a1.X0, li .i64 a1.Y0, li .i64 a1.X1, li .i64 a1.Y1])) :: (ownM Thing.cod 39 100005 0 ([] : List Thing) [])) (by kernel_rfl) (by kernel_rfl) (by kernel_rfl) ?_
  exact F22_l10_ok n a0 a1 (n + 8) ([] : List Thing) 0 0


end Go.Proofs.Ytajfdeeepklfoaa
