/-
  Functions of the program as functions of Lean. No condition.
-/
import Derived.Test.YtajfdeeepklfoaaWatchSessionsE
namespace Go.Proofs.Ytajfdeeepklfoaa
open Go Go.Rx
set_option maxRecDepth 100000
set_option linter.unusedVariables false
set_option linter.unusedSimpArgs false
set_option linter.unnecessarySimpa false
-- 36: vedette/watch.New
def F36_e : Book → PV × List Ob := fun r => (.one (.ptr 1000000 0), [.cells [lb r.l.a0.On, li .i64 r.l.a0.Session, li .i64 r.l.a0.Start, li .i64 r.l.a0.Rect.X0, li .i64 r.l.a0.Rect.Y0, li .i64 r.l.a0.Rect.X1, li .i64 r.l.a0.Rect.Y1, lb r.l.a1.On, li .i64 r.l.a1.Session, li .i64 r.l.a1.Start, li .i64 r.l.a1.Rect.X0, li .i64 r.l.a1.Rect.Y0, li .i64 r.l.a1.Rect.X1, li .i64 r.l.a1.Rect.Y1, lb r.l.a2.On, li .i64 r.l.a2.Session, li .i64 r.l.a2.Start, li .i64 r.l.a2.Rect.X0, li .i64 r.l.a2.Rect.Y0, li .i64 r.l.a2.Rect.X1, li .i64 r.l.a2.Rect.Y1, lb r.l.a3.On, li .i64 r.l.a3.Session, li .i64 r.l.a3.Start, li .i64 r.l.a3.Rect.X0, li .i64 r.l.a3.Rect.Y0, li .i64 r.l.a3.Rect.X1, li .i64 r.l.a3.Rect.Y1]])
def F36 (n : Nat) : Option Book :=
  some (Book.mk (A4.mk (Watch.mk false 0 0 (Rect.mk 0 0 0 0)) (Watch.mk false 0 0 (Rect.mk 0 0 0 0)) (Watch.mk false 0 0 (Rect.mk 0 0 0 0)) (Watch.mk false 0 0 (Rect.mk 0 0 0 0))))
theorem F36_ok (n : Nat) : ∀ r, F36 n = some r → D 36 [] [] = some (F36_e r) := by
  refine fn_to (D := D) (n := n + 8) (nt := 3) (rs := pc36_r) (c := pc36_c5) (L := []) (M := []) (k := 0) rfl rfl rfl rfl rfl rfl rfl ?_
  unfold F36
  refine Sim.seq ?_
  refine Sim.region0 ?_
  refine SimI.run 1 [(0, .one (.val (.pointer none)))] [] (by kernel_rfl) ?_
  refine SimI.done (by kernel_rfl) ?_
  refine SimE.thenN ?_
  refine Sim.seq ?_
  refine Sim.region0 ?_
  refine SimI.run 3 [(0, .one (.ptr 2 0)), (2, .one (.ptr 2 0)), (1, .agg [lb false, li .i64 0, li .i64 0, li .i64 0, li .i64 0, li .i64 0, li .i64 0, lb false, li .i64 0, li .i64 0, li .i64 0, li .i64 0, li .i64 0, li .i64 0, lb false, li .i64 0, li .i64 0, li .i64 0, li .i64 0, li .i64 0, li .i64 0, lb false, li .i64 0, li .i64 0, li .i64 0, li .i64 0, li .i64 0, li .i64 0])] [(2, some (.cells [lb false, li .i64 0, li .i64 0, li .i64 0, li .i64 0, li .i64 0, li .i64 0, lb false, li .i64 0, li .i64 0, li .i64 0, li .i64 0, li .i64 0, li .i64 0, lb false, li .i64 0, li .i64 0, li .i64 0, li .i64 0, li .i64 0, li .i64 0, lb false, li .i64 0, li .i64 0, li .i64 0, li .i64 0, li .i64 0, li .i64 0]))] (by kernel_rfl) ?_
  refine SimI.done (by kernel_rfl) ?_
  refine SimE.thenN ?_
  refine Sim.ret ?_
  exact SimE.fin (by kernel_rfl)


-- 62: vedette/watch.Load
def F62_e : Book → PV × List Ob := fun r => (.one (.ptr 1000000 0), [.cells [lb r.l.a0.On, li .i64 r.l.a0.Session, li .i64 r.l.a0.Start, li .i64 r.l.a0.Rect.X0, li .i64 r.l.a0.Rect.Y0, li .i64 r.l.a0.Rect.X1, li .i64 r.l.a0.Rect.Y1, lb r.l.a1.On, li .i64 r.l.a1.Session, li .i64 r.l.a1.Start, li .i64 r.l.a1.Rect.X0, li .i64 r.l.a1.Rect.Y0, li .i64 r.l.a1.Rect.X1, li .i64 r.l.a1.Rect.Y1, lb r.l.a2.On, li .i64 r.l.a2.Session, li .i64 r.l.a2.Start, li .i64 r.l.a2.Rect.X0, li .i64 r.l.a2.Rect.Y0, li .i64 r.l.a2.Rect.X1, li .i64 r.l.a2.Rect.Y1, lb r.l.a3.On, li .i64 r.l.a3.Session, li .i64 r.l.a3.Start, li .i64 r.l.a3.Rect.X0, li .i64 r.l.a3.Rect.Y0, li .i64 r.l.a3.Rect.X1, li .i64 r.l.a3.Rect.Y1]])
def F62 (n : Nat) (a0 : (A4 Watch)) : Option Book :=
  some (Book.mk a0)
theorem F62_ok (n : Nat) (a0 : (A4 Watch)) : ∀ r, F62 n a0 = some r → D 62 [.agg [lb a0.a0.On, li .i64 a0.a0.Session, li .i64 a0.a0.Start, li .i64 a0.a0.Rect.X0, li .i64 a0.a0.Rect.Y0, li .i64 a0.a0.Rect.X1, li .i64 a0.a0.Rect.Y1, lb a0.a1.On, li .i64 a0.a1.Session, li .i64 a0.a1.Start, li .i64 a0.a1.Rect.X0, li .i64 a0.a1.Rect.Y0, li .i64 a0.a1.Rect.X1, li .i64 a0.a1.Rect.Y1, lb a0.a2.On, li .i64 a0.a2.Session, li .i64 a0.a2.Start, li .i64 a0.a2.Rect.X0, li .i64 a0.a2.Rect.Y0, li .i64 a0.a2.Rect.X1, li .i64 a0.a2.Rect.Y1, lb a0.a3.On, li .i64 a0.a3.Session, li .i64 a0.a3.Start, li .i64 a0.a3.Rect.X0, li .i64 a0.a3.Rect.Y0, li .i64 a0.a3.Rect.X1, li .i64 a0.a3.Rect.Y1]] [] = some (F62_e r) := by
  refine fn_to (D := D) (n := n + 8) (nt := 6) (rs := pc62_r) (c := pc62_c5) (L := [(0, .agg [lb a0.a0.On, li .i64 a0.a0.Session, li .i64 a0.a0.Start, li .i64 a0.a0.Rect.X0, li .i64 a0.a0.Rect.Y0, li .i64 a0.a0.Rect.X1, li .i64 a0.a0.Rect.Y1, lb a0.a1.On, li .i64 a0.a1.Session, li .i64 a0.a1.Start, li .i64 a0.a1.Rect.X0, li .i64 a0.a1.Rect.Y0, li .i64 a0.a1.Rect.X1, li .i64 a0.a1.Rect.Y1, lb a0.a2.On, li .i64 a0.a2.Session, li .i64 a0.a2.Start, li .i64 a0.a2.Rect.X0, li .i64 a0.a2.Rect.Y0, li .i64 a0.a2.Rect.X1, li .i64 a0.a2.Rect.Y1, lb a0.a3.On, li .i64 a0.a3.Session, li .i64 a0.a3.Start, li .i64 a0.a3.Rect.X0, li .i64 a0.a3.Rect.Y0, li .i64 a0.a3.Rect.X1, li .i64 a0.a3.Rect.Y1])]) (M := []) (k := 0) rfl rfl rfl rfl rfl rfl rfl ?_
  unfold F62
  refine Sim.seq ?_
  refine Sim.region0 ?_
  refine SimI.run 2 [(2, .one (.val (.pointer none))), (1, .one (.ptr 1 0))] [(1, some (.cells [lb a0.a0.On, li .i64 a0.a0.Session, li .i64 a0.a0.Start, li .i64 a0.a0.Rect.X0, li .i64 a0.a0.Rect.Y0, li .i64 a0.a0.Rect.X1, li .i64 a0.a0.Rect.Y1, lb a0.a1.On, li .i64 a0.a1.Session, li .i64 a0.a1.Start, li .i64 a0.a1.Rect.X0, li .i64 a0.a1.Rect.Y0, li .i64 a0.a1.Rect.X1, li .i64 a0.a1.Rect.Y1, lb a0.a2.On, li .i64 a0.a2.Session, li .i64 a0.a2.Start, li .i64 a0.a2.Rect.X0, li .i64 a0.a2.Rect.Y0, li .i64 a0.a2.Rect.X1, li .i64 a0.a2.Rect.Y1, lb a0.a3.On, li .i64 a0.a3.Session, li .i64 a0.a3.Start, li .i64 a0.a3.Rect.X0, li .i64 a0.a3.Rect.Y0, li .i64 a0.a3.Rect.X1, li .i64 a0.a3.Rect.Y1]))] (by kernel_rfl) ?_
  refine SimI.done (by kernel_rfl) ?_
  refine SimE.thenN ?_
  refine Sim.seq ?_
  refine Sim.region0 ?_
  refine SimI.run 4 [(2, .one (.ptr 5 0)), (5, .one (.ptr 5 0)), (4, .agg [lb a0.a0.On, li .i64 a0.a0.Session, li .i64 a0.a0.Start, li .i64 a0.a0.Rect.X0, li .i64 a0.a0.Rect.Y0, li .i64 a0.a0.Rect.X1, li .i64 a0.a0.Rect.Y1, lb a0.a1.On, li .i64 a0.a1.Session, li .i64 a0.a1.Start, li .i64 a0.a1.Rect.X0, li .i64 a0.a1.Rect.Y0, li .i64 a0.a1.Rect.X1, li .i64 a0.a1.Rect.Y1, lb a0.a2.On, li .i64 a0.a2.Session, li .i64 a0.a2.Start, li .i64 a0.a2.Rect.X0, li .i64 a0.a2.Rect.Y0, li .i64 a0.a2.Rect.X1, li .i64 a0.a2.Rect.Y1, lb a0.a3.On, li .i64 a0.a3.Session, li .i64 a0.a3.Start, li .i64 a0.a3.Rect.X0, li .i64 a0.a3.Rect.Y0, li .i64 a0.a3.Rect.X1, li .i64 a0.a3.Rect.Y1]), (3, .agg [lb a0.a0.On, li .i64 a0.a0.Session, li .i64 a0.a0.Start, li .i64 a0.a0.Rect.X0, li .i64 a0.a0.Rect.Y0, li .i64 a0.a0.Rect.X1, li .i64 a0.a0.Rect.Y1, lb a0.a1.On, li .i64 a0.a1.Session, li .i64 a0.a1.Start, li .i64 a0.a1.Rect.X0, li .i64 a0.a1.Rect.Y0, li .i64 a0.a1.Rect.X1, li .i64 a0.a1.Rect.Y1, lb a0.a2.On, li .i64 a0.a2.Session, li .i64 a0.a2.Start, li .i64 a0.a2.Rect.X0, li .i64 a0.a2.Rect.Y0, li .i64 a0.a2.Rect.X1, li .i64 a0.a2.Rect.Y1, lb a0.a3.On, li .i64 a0.a3.Session, li .i64 a0.a3.Start, li .i64 a0.a3.Rect.X0, li .i64 a0.a3.Rect.Y0, li .i64 a0.a3.Rect.X1, li .i64 a0.a3.Rect.Y1])] [(5, some (.cells [lb a0.a0.On, li .i64 a0.a0.Session, li .i64 a0.a0.Start, li .i64 a0.a0.Rect.X0, li .i64 a0.a0.Rect.Y0, li .i64 a0.a0.Rect.X1, li .i64 a0.a0.Rect.Y1, lb a0.a1.On, li .i64 a0.a1.Session, li .i64 a0.a1.Start, li .i64 a0.a1.Rect.X0, li .i64 a0.a1.Rect.Y0, li .i64 a0.a1.Rect.X1, li .i64 a0.a1.Rect.Y1, lb a0.a2.On, li .i64 a0.a2.Session, li .i64 a0.a2.Start, li .i64 a0.a2.Rect.X0, li .i64 a0.a2.Rect.Y0, li .i64 a0.a2.Rect.X1, li .i64 a0.a2.Rect.Y1, lb a0.a3.On, li .i64 a0.a3.Session, li .i64 a0.a3.Start, li .i64 a0.a3.Rect.X0, li .i64 a0.a3.Rect.Y0, li .i64 a0.a3.Rect.X1, li .i64 a0.a3.Rect.Y1]))] (by kernel_rfl) ?_
  refine SimI.done (by kernel_rfl) ?_
  refine SimE.thenN ?_
  refine Sim.ret ?_
  exact SimE.fin (by kernel_rfl)


-- 38: (*vedette/watch.Book).Copy
def F38_e : (Book × Book) → PV × List Ob := fun r => (.one (.ptr 1000001 0), [.cells [lb r.2.l.a0.On, li .i64 r.2.l.a0.Session, li .i64 r.2.l.a0.Start, li .i64 r.2.l.a0.Rect.X0, li .i64 r.2.l.a0.Rect.Y0, li .i64 r.2.l.a0.Rect.X1, li .i64 r.2.l.a0.Rect.Y1, lb r.2.l.a1.On, li .i64 r.2.l.a1.Session, li .i64 r.2.l.a1.Start, li .i64 r.2.l.a1.Rect.X0, li .i64 r.2.l.a1.Rect.Y0, li .i64 r.2.l.a1.Rect.X1, li .i64 r.2.l.a1.Rect.Y1, lb r.2.l.a2.On, li .i64 r.2.l.a2.Session, li .i64 r.2.l.a2.Start, li .i64 r.2.l.a2.Rect.X0, li .i64 r.2.l.a2.Rect.Y0, li .i64 r.2.l.a2.Rect.X1, li .i64 r.2.l.a2.Rect.Y1, lb r.2.l.a3.On, li .i64 r.2.l.a3.Session, li .i64 r.2.l.a3.Start, li .i64 r.2.l.a3.Rect.X0, li .i64 r.2.l.a3.Rect.Y0, li .i64 r.2.l.a3.Rect.X1, li .i64 r.2.l.a3.Rect.Y1], .cells [lb r.1.l.a0.On, li .i64 r.1.l.a0.Session, li .i64 r.1.l.a0.Start, li .i64 r.1.l.a0.Rect.X0, li .i64 r.1.l.a0.Rect.Y0, li .i64 r.1.l.a0.Rect.X1, li .i64 r.1.l.a0.Rect.Y1, lb r.1.l.a1.On, li .i64 r.1.l.a1.Session, li .i64 r.1.l.a1.Start, li .i64 r.1.l.a1.Rect.X0, li .i64 r.1.l.a1.Rect.Y0, li .i64 r.1.l.a1.Rect.X1, li .i64 r.1.l.a1.Rect.Y1, lb r.1.l.a2.On, li .i64 r.1.l.a2.Session, li .i64 r.1.l.a2.Start, li .i64 r.1.l.a2.Rect.X0, li .i64 r.1.l.a2.Rect.Y0, li .i64 r.1.l.a2.Rect.X1, li .i64 r.1.l.a2.Rect.Y1, lb r.1.l.a3.On, li .i64 r.1.l.a3.Session, li .i64 r.1.l.a3.Start, li .i64 r.1.l.a3.Rect.X0, li .i64 r.1.l.a3.Rect.Y0, li .i64 r.1.l.a3.Rect.X1, li .i64 r.1.l.a3.Rect.Y1]])
def F38 (n : Nat) (a0 : Book) : Option (Book × Book) :=
  (F62 n a0.l).bind fun (r1 : Book) =>
  some (r1, a0)
theorem F38_ok (n : Nat) (a0 : Book) : ∀ r, F38 n a0 = some r → D 38 [.one (.ptr 1000000 0)] [.cells [lb a0.l.a0.On, li .i64 a0.l.a0.Session, li .i64 a0.l.a0.Start, li .i64 a0.l.a0.Rect.X0, li .i64 a0.l.a0.Rect.Y0, li .i64 a0.l.a0.Rect.X1, li .i64 a0.l.a0.Rect.Y1, lb a0.l.a1.On, li .i64 a0.l.a1.Session, li .i64 a0.l.a1.Start, li .i64 a0.l.a1.Rect.X0, li .i64 a0.l.a1.Rect.Y0, li .i64 a0.l.a1.Rect.X1, li .i64 a0.l.a1.Rect.Y1, lb a0.l.a2.On, li .i64 a0.l.a2.Session, li .i64 a0.l.a2.Start, li .i64 a0.l.a2.Rect.X0, li .i64 a0.l.a2.Rect.Y0, li .i64 a0.l.a2.Rect.X1, li .i64 a0.l.a2.Rect.Y1, lb a0.l.a3.On, li .i64 a0.l.a3.Session, li .i64 a0.l.a3.Start, li .i64 a0.l.a3.Rect.X0, li .i64 a0.l.a3.Rect.Y0, li .i64 a0.l.a3.Rect.X1, li .i64 a0.l.a3.Rect.Y1]] = some (F38_e r) := by
  refine fn_to (D := D) (n := n + 8) (nt := 8) (rs := pc38_r) (c := pc38_c5) (L := [(0, .one (.ptr 1000000 0))]) (M := [(1000000, some (.cells [lb a0.l.a0.On, li .i64 a0.l.a0.Session, li .i64 a0.l.a0.Start, li .i64 a0.l.a0.Rect.X0, li .i64 a0.l.a0.Rect.Y0, li .i64 a0.l.a0.Rect.X1, li .i64 a0.l.a0.Rect.Y1, lb a0.l.a1.On, li .i64 a0.l.a1.Session, li .i64 a0.l.a1.Start, li .i64 a0.l.a1.Rect.X0, li .i64 a0.l.a1.Rect.Y0, li .i64 a0.l.a1.Rect.X1, li .i64 a0.l.a1.Rect.Y1, lb a0.l.a2.On, li .i64 a0.l.a2.Session, li .i64 a0.l.a2.Start, li .i64 a0.l.a2.Rect.X0, li .i64 a0.l.a2.Rect.Y0, li .i64 a0.l.a2.Rect.X1, li .i64 a0.l.a2.Rect.Y1, lb a0.l.a3.On, li .i64 a0.l.a3.Session, li .i64 a0.l.a3.Start, li .i64 a0.l.a3.Rect.X0, li .i64 a0.l.a3.Rect.Y0, li .i64 a0.l.a3.Rect.X1, li .i64 a0.l.a3.Rect.Y1]))]) (k := 1) rfl rfl rfl rfl rfl rfl rfl ?_
  unfold F38
  refine Sim.seq ?_
  refine Sim.region0 ?_
  refine SimI.run 1 [(2, .one (.val (.pointer none)))] [] (by kernel_rfl) ?_
  refine SimI.done (by kernel_rfl) ?_
  refine SimE.thenN ?_
  refine Sim.seq ?_
  refine Sim.region0 ?_
  refine SimI.run 4 [(6, .agg [lb a0.l.a0.On, li .i64 a0.l.a0.Session, li .i64 a0.l.a0.Start, li .i64 a0.l.a0.Rect.X0, li .i64 a0.l.a0.Rect.Y0, li .i64 a0.l.a0.Rect.X1, li .i64 a0.l.a0.Rect.Y1, lb a0.l.a1.On, li .i64 a0.l.a1.Session, li .i64 a0.l.a1.Start, li .i64 a0.l.a1.Rect.X0, li .i64 a0.l.a1.Rect.Y0, li .i64 a0.l.a1.Rect.X1, li .i64 a0.l.a1.Rect.Y1, lb a0.l.a2.On, li .i64 a0.l.a2.Session, li .i64 a0.l.a2.Start, li .i64 a0.l.a2.Rect.X0, li .i64 a0.l.a2.Rect.Y0, li .i64 a0.l.a2.Rect.X1, li .i64 a0.l.a2.Rect.Y1, lb a0.l.a3.On, li .i64 a0.l.a3.Session, li .i64 a0.l.a3.Start, li .i64 a0.l.a3.Rect.X0, li .i64 a0.l.a3.Rect.Y0, li .i64 a0.l.a3.Rect.X1, li .i64 a0.l.a3.Rect.Y1]), (5, .one (.ptr 1000000 0)), (4, .one (.ptr 1000000 0)), (3, .one (.ptr 1000000 0))] [] (by kernel_rfl) ?_
  refine SimI.bind (og := F62 n a0.l) { dst := some 7, op := POp.gcall false false [300000, 300001, 300002, 300003, 300004, 300005, 300006, 300007] [[]] 62 [Operand.tmp 6], guard := none, hints := [] } (fun r1 => [(7, .one (.ptr 300000 0))]) (fun r1 => [(300000, some (.cells [lb r1.l.a0.On, li .i64 r1.l.a0.Session, li .i64 r1.l.a0.Start, li .i64 r1.l.a0.Rect.X0, li .i64 r1.l.a0.Rect.Y0, li .i64 r1.l.a0.Rect.X1, li .i64 r1.l.a0.Rect.Y1, lb r1.l.a1.On, li .i64 r1.l.a1.Session, li .i64 r1.l.a1.Start, li .i64 r1.l.a1.Rect.X0, li .i64 r1.l.a1.Rect.Y0, li .i64 r1.l.a1.Rect.X1, li .i64 r1.l.a1.Rect.Y1, lb r1.l.a2.On, li .i64 r1.l.a2.Session, li .i64 r1.l.a2.Start, li .i64 r1.l.a2.Rect.X0, li .i64 r1.l.a2.Rect.Y0, li .i64 r1.l.a2.Rect.X1, li .i64 r1.l.a2.Rect.Y1, lb r1.l.a3.On, li .i64 r1.l.a3.Session, li .i64 r1.l.a3.Start, li .i64 r1.l.a3.Rect.X0, li .i64 r1.l.a3.Rect.Y0, li .i64 r1.l.a3.Rect.X1, li .i64 r1.l.a3.Rect.Y1]))]) (by kernel_rfl) (fun r1 hr => pOp_eff (by kernel_rfl) (by kernel_rfl) (eff_gcall (ks := []) (rks := []) (new := [300000]) (ARGS := [.agg [lb a0.l.a0.On, li .i64 a0.l.a0.Session, li .i64 a0.l.a0.Start, li .i64 a0.l.a0.Rect.X0, li .i64 a0.l.a0.Rect.Y0, li .i64 a0.l.a0.Rect.X1, li .i64 a0.l.a0.Rect.Y1, lb a0.l.a1.On, li .i64 a0.l.a1.Session, li .i64 a0.l.a1.Start, li .i64 a0.l.a1.Rect.X0, li .i64 a0.l.a1.Rect.Y0, li .i64 a0.l.a1.Rect.X1, li .i64 a0.l.a1.Rect.Y1, lb a0.l.a2.On, li .i64 a0.l.a2.Session, li .i64 a0.l.a2.Start, li .i64 a0.l.a2.Rect.X0, li .i64 a0.l.a2.Rect.Y0, li .i64 a0.l.a2.Rect.X1, li .i64 a0.l.a2.Rect.Y1, lb a0.l.a3.On, li .i64 a0.l.a3.Session, li .i64 a0.l.a3.Start, li .i64 a0.l.a3.Rect.X0, li .i64 a0.l.a3.Rect.Y0, li .i64 a0.l.a3.Rect.X1, li .i64 a0.l.a3.Rect.Y1]]) (args1 := [.agg [lb a0.l.a0.On, li .i64 a0.l.a0.Session, li .i64 a0.l.a0.Start, li .i64 a0.l.a0.Rect.X0, li .i64 a0.l.a0.Rect.Y0, li .i64 a0.l.a0.Rect.X1, li .i64 a0.l.a0.Rect.Y1, lb a0.l.a1.On, li .i64 a0.l.a1.Session, li .i64 a0.l.a1.Start, li .i64 a0.l.a1.Rect.X0, li .i64 a0.l.a1.Rect.Y0, li .i64 a0.l.a1.Rect.X1, li .i64 a0.l.a1.Rect.Y1, lb a0.l.a2.On, li .i64 a0.l.a2.Session, li .i64 a0.l.a2.Start, li .i64 a0.l.a2.Rect.X0, li .i64 a0.l.a2.Rect.Y0, li .i64 a0.l.a2.Rect.X1, li .i64 a0.l.a2.Rect.Y1, lb a0.l.a3.On, li .i64 a0.l.a3.Session, li .i64 a0.l.a3.Start, li .i64 a0.l.a3.Rect.X0, li .i64 a0.l.a3.Rect.Y0, li .i64 a0.l.a3.Rect.X1, li .i64 a0.l.a3.Rect.Y1]]) (args2 := [.agg [lb a0.l.a0.On, li .i64 a0.l.a0.Session, li .i64 a0.l.a0.Start, li .i64 a0.l.a0.Rect.X0, li .i64 a0.l.a0.Rect.Y0, li .i64 a0.l.a0.Rect.X1, li .i64 a0.l.a0.Rect.Y1, lb a0.l.a1.On, li .i64 a0.l.a1.Session, li .i64 a0.l.a1.Start, li .i64 a0.l.a1.Rect.X0, li .i64 a0.l.a1.Rect.Y0, li .i64 a0.l.a1.Rect.X1, li .i64 a0.l.a1.Rect.Y1, lb a0.l.a2.On, li .i64 a0.l.a2.Session, li .i64 a0.l.a2.Start, li .i64 a0.l.a2.Rect.X0, li .i64 a0.l.a2.Rect.Y0, li .i64 a0.l.a2.Rect.X1, li .i64 a0.l.a2.Rect.Y1, lb a0.l.a3.On, li .i64 a0.l.a3.Session, li .i64 a0.l.a3.Start, li .i64 a0.l.a3.Rect.X0, li .i64 a0.l.a3.Rect.Y0, li .i64 a0.l.a3.Rect.X1, li .i64 a0.l.a3.Rect.Y1]]) (os := []) (os' := [.cells [lb r1.l.a0.On, li .i64 r1.l.a0.Session, li .i64 r1.l.a0.Start, li .i64 r1.l.a0.Rect.X0, li .i64 r1.l.a0.Rect.Y0, li .i64 r1.l.a0.Rect.X1, li .i64 r1.l.a0.Rect.Y1, lb r1.l.a1.On, li .i64 r1.l.a1.Session, li .i64 r1.l.a1.Start, li .i64 r1.l.a1.Rect.X0, li .i64 r1.l.a1.Rect.Y0, li .i64 r1.l.a1.Rect.X1, li .i64 r1.l.a1.Rect.Y1, lb r1.l.a2.On, li .i64 r1.l.a2.Session, li .i64 r1.l.a2.Start, li .i64 r1.l.a2.Rect.X0, li .i64 r1.l.a2.Rect.Y0, li .i64 r1.l.a2.Rect.X1, li .i64 r1.l.a2.Rect.Y1, lb r1.l.a3.On, li .i64 r1.l.a3.Session, li .i64 r1.l.a3.Start, li .i64 r1.l.a3.Rect.X0, li .i64 r1.l.a3.Rect.Y0, li .i64 r1.l.a3.Rect.X1, li .i64 r1.l.a3.Rect.Y1]]) (os1 := [.cells [lb r1.l.a0.On, li .i64 r1.l.a0.Session, li .i64 r1.l.a0.Start, li .i64 r1.l.a0.Rect.X0, li .i64 r1.l.a0.Rect.Y0, li .i64 r1.l.a0.Rect.X1, li .i64 r1.l.a0.Rect.Y1, lb r1.l.a1.On, li .i64 r1.l.a1.Session, li .i64 r1.l.a1.Start, li .i64 r1.l.a1.Rect.X0, li .i64 r1.l.a1.Rect.Y0, li .i64 r1.l.a1.Rect.X1, li .i64 r1.l.a1.Rect.Y1, lb r1.l.a2.On, li .i64 r1.l.a2.Session, li .i64 r1.l.a2.Start, li .i64 r1.l.a2.Rect.X0, li .i64 r1.l.a2.Rect.Y0, li .i64 r1.l.a2.Rect.X1, li .i64 r1.l.a2.Rect.Y1, lb r1.l.a3.On, li .i64 r1.l.a3.Session, li .i64 r1.l.a3.Start, li .i64 r1.l.a3.Rect.X0, li .i64 r1.l.a3.Rect.Y0, li .i64 r1.l.a3.Rect.X1, li .i64 r1.l.a3.Rect.Y1]]) (res := .one (.ptr 1000000 0)) (res1 := .one (.ptr 1000000 0)) (r := .one (.ptr 300000 0)) (N := [(300000, some (.cells [lb r1.l.a0.On, li .i64 r1.l.a0.Session, li .i64 r1.l.a0.Start, li .i64 r1.l.a0.Rect.X0, li .i64 r1.l.a0.Rect.Y0, li .i64 r1.l.a0.Rect.X1, li .i64 r1.l.a0.Rect.Y1, lb r1.l.a1.On, li .i64 r1.l.a1.Session, li .i64 r1.l.a1.Start, li .i64 r1.l.a1.Rect.X0, li .i64 r1.l.a1.Rect.Y0, li .i64 r1.l.a1.Rect.X1, li .i64 r1.l.a1.Rect.Y1, lb r1.l.a2.On, li .i64 r1.l.a2.Session, li .i64 r1.l.a2.Start, li .i64 r1.l.a2.Rect.X0, li .i64 r1.l.a2.Rect.Y0, li .i64 r1.l.a2.Rect.X1, li .i64 r1.l.a2.Rect.Y1, lb r1.l.a3.On, li .i64 r1.l.a3.Session, li .i64 r1.l.a3.Start, li .i64 r1.l.a3.Rect.X0, li .i64 r1.l.a3.Rect.Y0, li .i64 r1.l.a3.Rect.X1, li .i64 r1.l.a3.Rect.Y1]))]) (by kernel_rfl) (readA_ow (readA_agg (readA_nil))) (by kernel_rfl) (by kernel_rfl) (by kernel_rfl) (by kernel_rfl) (F62_ok n a0.l r1 hr) (by kernel_rfl) (by kernel_rfl) (by kernel_rfl) rfl (by kernel_rfl) (by kernel_rfl) (by kernel_rfl))) (fun r1 => ?_)
  refine SimI.run 1 [(2, .one (.ptr 300000 0))] [] (by kernel_rfl) ?_
  refine SimI.done (by kernel_rfl) ?_
  refine SimE.thenN ?_
  refine Sim.ret ?_
  exact SimE.fin (by kernel_rfl)


-- 58: vedette/geom.Empty
def F58_e : Bool → PV × List Ob := fun r => (.one (lb r), [])
def F58 (n : Nat) (a0 : Rect) : Option Bool :=
  if decide (a0.X1 ≤ a0.X0) then
    some true
  else
    some (decide (a0.Y1 ≤ a0.Y0))
theorem F58_ok (n : Nat) (a0 : Rect) : ∀ r, F58 n a0 = some r → D 58 [.agg [li .i64 a0.X0, li .i64 a0.Y0, li .i64 a0.X1, li .i64 a0.Y1]] [] = some (F58_e r) := by
  refine fn_to (D := D) (n := n + 8) (nt := 15) (rs := pc58_r) (c := pc58_c5) (L := [(0, .agg [li .i64 a0.X0, li .i64 a0.Y0, li .i64 a0.X1, li .i64 a0.Y1])]) (M := []) (k := 0) rfl rfl rfl rfl rfl rfl rfl ?_
  unfold F58
  refine Sim.seq ?_
  refine Sim.region0 ?_
  refine SimI.run 2 [(2, .one (lb false)), (1, .one (.ptr 1 0))] [(1, some (.cells [li .i64 a0.X0, li .i64 a0.Y0, li .i64 a0.X1, li .i64 a0.Y1]))] (by kernel_rfl) ?_
  refine SimI.done (by kernel_rfl) ?_
  refine SimE.thenN ?_
  refine Sim.seq ?_
  refine Sim.region0 ?_
  refine SimI.run 6 [(8, .one (lb (decide (a0.X1 ≤ a0.X0)))), (7, .one (lb (decide (a0.X1 ≤ a0.X0)))), (6, .one (li .i64 a0.X1)), (5, .one (.ptr 1 2)), (4, .one (li .i64 a0.X0)), (3, .one (.ptr 1 0))] [] (by kernel_rfl) ?_
  refine SimI.split 8 (decide (a0.X1 ≤ a0.X0)) (by kernel_rfl) ?_ ?_
  · refine SimI.run 7 [(2, .one (lb true)), (14, .one (lb true)), (13, .tup []), (12, .tup []), (11, .tup []), (10, .tup []), (9, .tup [])] [] (by kernel_rfl) ?_
    refine SimI.done (by kernel_rfl) ?_
    refine SimE.thenN ?_
    refine Sim.ret ?_
    exact SimE.fin (by kernel_rfl)
  · refine SimI.run 7 [(2, .one (lb (decide (a0.Y1 ≤ a0.Y0)))), (14, .one (lb (decide (a0.Y1 ≤ a0.Y0)))), (13, .one (lb (decide (a0.Y1 ≤ a0.Y0)))), (12, .one (li .i64 a0.Y1)), (11, .one (.ptr 1 3)), (10, .one (li .i64 a0.Y0)), (9, .one (.ptr 1 1))] [] (by kernel_rfl) ?_
    refine SimI.done (by kernel_rfl) ?_
    refine SimE.thenN ?_
    refine Sim.ret ?_
    exact SimE.fin (by kernel_rfl)


-- 80: vedette/geom.tidy
def F80_e : Rect → PV × List Ob := fun r => (.agg [li .i64 r.X0, li .i64 r.Y0, li .i64 r.X1, li .i64 r.Y1], [])
def F80 (n : Nat) (a0 : Rect) : Option Rect :=
  (F58 n a0).bind fun (r1 : Bool) =>
  if r1 then
    some (Rect.mk 0 0 0 0)
  else
    some a0
theorem F80_ok (n : Nat) (a0 : Rect) : ∀ r, F80 n a0 = some r → D 80 [.agg [li .i64 a0.X0, li .i64 a0.Y0, li .i64 a0.X1, li .i64 a0.Y1]] [] = some (F80_e r) := by
  refine fn_to (D := D) (n := n + 8) (nt := 7) (rs := pc80_r) (c := pc80_c13) (L := [(0, .agg [li .i64 a0.X0, li .i64 a0.Y0, li .i64 a0.X1, li .i64 a0.Y1])]) (M := []) (k := 0) rfl rfl rfl rfl rfl rfl rfl ?_
  unfold F80
  refine Sim.seq ?_
  refine Sim.region0 ?_
  refine SimI.run 2 [(2, .one (.ptr 2 0)), (1, .one (.ptr 1 0))] [(2, some (.cells [li .i64 0, li .i64 0, li .i64 0, li .i64 0])), (1, some (.cells [li .i64 a0.X0, li .i64 a0.Y0, li .i64 a0.X1, li .i64 a0.Y1]))] (by kernel_rfl) ?_
  refine SimI.done (by kernel_rfl) ?_
  refine SimE.thenN ?_
  refine Sim.seq ?_
  refine Sim.seq ?_
  refine Sim.region0 ?_
  refine SimI.run 1 [(3, .agg [li .i64 a0.X0, li .i64 a0.Y0, li .i64 a0.X1, li .i64 a0.Y1])] [] (by kernel_rfl) ?_
  refine SimI.bind (og := F58 n a0) { dst := some 4, op := POp.call true [[]] 58 [Operand.tmp 3], guard := none, hints := [] } (fun r1 => [(4, .one (lb r1))]) (fun r1 => []) (by kernel_rfl) (fun r1 hr => pOp_eff (by kernel_rfl) (by kernel_rfl) (eff_call (ARGS := [.agg [li .i64 a0.X0, li .i64 a0.Y0, li .i64 a0.X1, li .i64 a0.Y1]]) (by kernel_rfl) (args_clean (by kernel_rfl) args_nil) (F58_ok n a0 r1 hr) (by kernel_rfl))) (fun r1 => ?_)
  refine SimI.done (by kernel_rfl) ?_
  refine SimE.thenN ?_
  refine Sim.cond r1 (by kernel_rfl) ?_ ?_
  · refine Sim.seq ?_
    refine Sim.region0 ?_
    refine SimI.run 2 [(5, .agg [li .i64 0, li .i64 0, li .i64 0, li .i64 0])] [(2, some (.cells [li .i64 0, li .i64 0, li .i64 0, li .i64 0]))] (by kernel_rfl) ?_
    refine SimI.done (by kernel_rfl) ?_
    refine SimE.thenN ?_
    refine Sim.ret ?_
    refine SimE.thenR ?_
    exact SimE.fin (by kernel_rfl)
  · refine Sim.skip ?_
    refine SimE.thenN ?_
    refine Sim.seq ?_
    refine Sim.region0 ?_
    refine SimI.run 2 [(6, .agg [li .i64 a0.X0, li .i64 a0.Y0, li .i64 a0.X1, li .i64 a0.Y1])] [(2, some (.cells [li .i64 a0.X0, li .i64 a0.Y0, li .i64 a0.X1, li .i64 a0.Y1]))] (by kernel_rfl) ?_
    refine SimI.done (by kernel_rfl) ?_
    refine SimE.thenN ?_
    refine Sim.ret ?_
    exact SimE.fin (by kernel_rfl)


-- 67: vedette/geom.Meet
def F67_e : Rect → PV × List Ob := fun r => (.agg [li .i64 r.X0, li .i64 r.Y0, li .i64 r.X1, li .i64 r.Y1], [])
def F67 (n : Nat) (a0 : Rect) (a1 : Rect) : Option Rect :=
  (F80 n (Rect.mk (imax a0.X0 a1.X0) (imax a0.Y0 a1.Y0) (imin a0.X1 a1.X1) (imin a0.Y1 a1.Y1))).bind fun (r1 : Rect) =>
  some r1
theorem F67_ok (n : Nat) (a0 : Rect) (a1 : Rect) : ∀ r, F67 n a0 a1 = some r → D 67 [.agg [li .i64 a0.X0, li .i64 a0.Y0, li .i64 a0.X1, li .i64 a0.Y1], .agg [li .i64 a1.X0, li .i64 a1.Y0, li .i64 a1.X1, li .i64 a1.Y1]] [] = some (F67_e r) := by
  refine fn_to (D := D) (n := n + 8) (nt := 27) (rs := pc67_r) (c := pc67_c5) (L := [(0, .agg [li .i64 a0.X0, li .i64 a0.Y0, li .i64 a0.X1, li .i64 a0.Y1]), (1, .agg [li .i64 a1.X0, li .i64 a1.Y0, li .i64 a1.X1, li .i64 a1.Y1])]) (M := []) (k := 0) rfl rfl rfl rfl rfl rfl rfl ?_
  unfold F67
  refine Sim.seq ?_
  refine Sim.region0 ?_
  refine SimI.run 3 [(4, .one (.ptr 4 0)), (3, .one (.ptr 3 0)), (2, .one (.ptr 2 0))] [(4, some (.cells [li .i64 0, li .i64 0, li .i64 0, li .i64 0])), (3, some (.cells [li .i64 a1.X0, li .i64 a1.Y0, li .i64 a1.X1, li .i64 a1.Y1])), (2, some (.cells [li .i64 a0.X0, li .i64 a0.Y0, li .i64 a0.X1, li .i64 a0.Y1]))] (by kernel_rfl) ?_
  refine SimI.done (by kernel_rfl) ?_
  refine SimE.thenN ?_
  refine Sim.seq ?_
  refine Sim.region0 ?_
  refine SimI.run 21 [(25, .agg [li .i64 (imax a0.X0 a1.X0), li .i64 (imax a0.Y0 a1.Y0), li .i64 (imin a0.X1 a1.X1), li .i64 (imin a0.Y1 a1.Y1)]), (24, .one (li .i64 (imin a0.Y1 a1.Y1))), (23, .one (li .i64 a1.Y1)), (22, .one (.ptr 3 3)), (21, .one (li .i64 a0.Y1)), (20, .one (.ptr 2 3)), (19, .one (li .i64 (imin a0.X1 a1.X1))), (18, .one (li .i64 a1.X1)), (17, .one (.ptr 3 2)), (16, .one (li .i64 a0.X1)), (15, .one (.ptr 2 2)), (14, .one (li .i64 (imax a0.Y0 a1.Y0))), (13, .one (li .i64 a1.Y0)), (12, .one (.ptr 3 1)), (11, .one (li .i64 a0.Y0)), (10, .one (.ptr 2 1)), (9, .one (li .i64 (imax a0.X0 a1.X0))), (8, .one (li .i64 a1.X0)), (7, .one (.ptr 3 0)), (6, .one (li .i64 a0.X0)), (5, .one (.ptr 2 0))] [] (by kernel_rfl) ?_
  refine SimI.bind (og := F80 n (Rect.mk (imax a0.X0 a1.X0) (imax a0.Y0 a1.Y0) (imin a0.X1 a1.X1) (imin a0.Y1 a1.Y1))) { dst := some 26, op := POp.call true [[]] 80 [Operand.tmp 25], guard := none, hints := [] } (fun r1 => [(26, .agg [li .i64 r1.X0, li .i64 r1.Y0, li .i64 r1.X1, li .i64 r1.Y1])]) (fun r1 => []) (by kernel_rfl) (fun r1 hr => pOp_eff (by kernel_rfl) (by kernel_rfl) (eff_call (ARGS := [.agg [li .i64 (imax a0.X0 a1.X0), li .i64 (imax a0.Y0 a1.Y0), li .i64 (imin a0.X1 a1.X1), li .i64 (imin a0.Y1 a1.Y1)]]) (by kernel_rfl) (args_clean (by kernel_rfl) args_nil) (F80_ok n (Rect.mk (imax a0.X0 a1.X0) (imax a0.Y0 a1.Y0) (imin a0.X1 a1.X1) (imin a0.Y1 a1.Y1)) r1 hr) (by kernel_rfl))) (fun r1 => ?_)
  refine SimI.run 1 [] [(4, some (.cells [li .i64 r1.X0, li .i64 r1.Y0, li .i64 r1.X1, li .i64 r1.Y1]))] (by kernel_rfl) ?_
  refine SimI.done (by kernel_rfl) ?_
  refine SimE.thenN ?_
  refine Sim.ret ?_
  exact SimE.fin (by kernel_rfl)


-- 45: vedette/watch.Clip
def F45_e : Rect → PV × List Ob := fun r => (.agg [li .i64 r.X0, li .i64 r.Y0, li .i64 r.X1, li .i64 r.Y1], [])
def F45 (n : Nat) (a0 : Rect) : Option Rect :=
  (F67 n a0 (Rect.mk 0 0 64 64)).bind fun (r1 : Rect) =>
  some r1
theorem F45_ok (n : Nat) (a0 : Rect) : ∀ r, F45 n a0 = some r → D 45 [.agg [li .i64 a0.X0, li .i64 a0.Y0, li .i64 a0.X1, li .i64 a0.Y1]] [] = some (F45_e r) := by
  refine fn_to (D := D) (n := n + 8) (nt := 6) (rs := pc45_r) (c := pc45_c5) (L := [(0, .agg [li .i64 a0.X0, li .i64 a0.Y0, li .i64 a0.X1, li .i64 a0.Y1])]) (M := []) (k := 0) rfl rfl rfl rfl rfl rfl rfl ?_
  unfold F45
  refine Sim.seq ?_
  refine Sim.region0 ?_
  refine SimI.run 2 [(2, .one (.ptr 2 0)), (1, .one (.ptr 1 0))] [(2, some (.cells [li .i64 0, li .i64 0, li .i64 0, li .i64 0])), (1, some (.cells [li .i64 a0.X0, li .i64 a0.Y0, li .i64 a0.X1, li .i64 a0.Y1]))] (by kernel_rfl) ?_
  refine SimI.done (by kernel_rfl) ?_
  refine SimE.thenN ?_
  refine Sim.seq ?_
  refine Sim.region0 ?_
  refine SimI.run 2 [(4, .agg [li .i64 0, li .i64 0, li .i64 64, li .i64 64]), (3, .agg [li .i64 a0.X0, li .i64 a0.Y0, li .i64 a0.X1, li .i64 a0.Y1])] [] (by kernel_rfl) ?_
  refine SimI.bind (og := F67 n a0 (Rect.mk 0 0 64 64)) { dst := some 5, op := POp.call true [[], []] 67 [Operand.tmp 3, Operand.tmp 4], guard := none, hints := [] } (fun r1 => [(5, .agg [li .i64 r1.X0, li .i64 r1.Y0, li .i64 r1.X1, li .i64 r1.Y1])]) (fun r1 => []) (by kernel_rfl) (fun r1 hr => pOp_eff (by kernel_rfl) (by kernel_rfl) (eff_call (ARGS := [.agg [li .i64 a0.X0, li .i64 a0.Y0, li .i64 a0.X1, li .i64 a0.Y1], .agg [li .i64 0, li .i64 0, li .i64 64, li .i64 64]]) (by kernel_rfl) (args_clean (by kernel_rfl) (args_clean (by kernel_rfl) args_nil)) (F67_ok n a0 (Rect.mk 0 0 64 64) r1 hr) (by kernel_rfl))) (fun r1 => ?_)
  refine SimI.run 1 [] [(2, some (.cells [li .i64 r1.X0, li .i64 r1.Y0, li .i64 r1.X1, li .i64 r1.Y1]))] (by kernel_rfl) ?_
  refine SimI.done (by kernel_rfl) ?_
  refine SimE.thenN ?_
  refine Sim.ret ?_
  exact SimE.fin (by kernel_rfl)


-- 73: vedette/fields.IsField
def F73_e : Bool → PV × List Ob := fun r => (.one (lb r), [])
def F73 (n : Nat) (a0 : Field) : Option Bool :=
  if a0.N == 0 then
    some (decide ((a0.Text.size : Int) ≤ 12))
  else
    if a0.Text.toList == ByteArray.empty.toList then
      some (decide ((a0.Text.size : Int) ≤ 12))
    else
      some false
theorem F73_ok (n : Nat) (a0 : Field) : ∀ r, F73 n a0 = some r → D 73 [.agg [li .i64 a0.N, ls a0.Text]] [] = some (F73_e r) := by
  refine fn_to (D := D) (n := n + 8) (nt := 17) (rs := pc73_r) (c := pc73_c5) (L := [(0, .agg [li .i64 a0.N, ls a0.Text])]) (M := []) (k := 0) rfl rfl rfl rfl rfl rfl rfl ?_
  unfold F73
  refine Sim.seq ?_
  refine Sim.region0 ?_
  refine SimI.run 2 [(2, .one (lb false)), (1, .one (.ptr 1 0))] [(1, some (.cells [li .i64 a0.N, ls a0.Text]))] (by kernel_rfl) ?_
  refine SimI.done (by kernel_rfl) ?_
  refine SimE.thenN ?_
  refine Sim.seq ?_
  refine Sim.region0 ?_
  refine SimI.run 4 [(6, .one (lb (a0.N == 0))), (5, .one (lb (a0.N == 0))), (4, .one (li .i64 a0.N)), (3, .one (.ptr 1 0))] [] (by kernel_rfl) ?_
  refine SimI.split 6 (a0.N == 0) (by kernel_rfl) ?_ ?_
  · refine SimI.run 11 [(2, .one (lb (decide ((a0.Text.size : Int) ≤ 12)))), (16, .one (lb (decide ((a0.Text.size : Int) ≤ 12)))), (15, .one (lb (decide ((a0.Text.size : Int) ≤ 12)))), (14, .one (li .i64 (a0.Text.size : Int))), (13, .one (ls a0.Text)), (12, .one (.ptr 1 1)), (11, .one (lb true)), (10, .one (lb true)), (9, .tup []), (8, .tup []), (7, .tup [])] [] (by kernel_rfl) ?_
    refine SimI.done (by kernel_rfl) ?_
    refine SimE.thenN ?_
    refine Sim.ret ?_
    exact SimE.fin (by kernel_rfl)
  · refine SimI.run 5 [(11, .one (lb (a0.Text.toList == ByteArray.empty.toList))), (10, .one (lb (a0.Text.toList == ByteArray.empty.toList))), (9, .one (lb (a0.Text.toList == ByteArray.empty.toList))), (8, .one (ls a0.Text)), (7, .one (.ptr 1 1))] [] (by kernel_rfl) ?_
    refine SimI.split 11 (a0.Text.toList == ByteArray.empty.toList) (by kernel_rfl) ?_ ?_
    · refine SimI.run 6 [(2, .one (lb (decide ((a0.Text.size : Int) ≤ 12)))), (16, .one (lb (decide ((a0.Text.size : Int) ≤ 12)))), (15, .one (lb (decide ((a0.Text.size : Int) ≤ 12)))), (14, .one (li .i64 (a0.Text.size : Int))), (13, .one (ls a0.Text)), (12, .one (.ptr 1 1))] [] (by kernel_rfl) ?_
      refine SimI.done (by kernel_rfl) ?_
      refine SimE.thenN ?_
      refine Sim.ret ?_
      exact SimE.fin (by kernel_rfl)
    · refine SimI.run 6 [(2, .one (lb false)), (16, .one (lb false)), (15, .tup []), (14, .tup []), (13, .tup []), (12, .tup [])] [] (by kernel_rfl) ?_
      refine SimI.done (by kernel_rfl) ?_
      refine SimE.thenN ?_
      refine Sim.ret ?_
      exact SimE.fin (by kernel_rfl)


-- 74: vedette/cmd.core
def F74_e : Command → PV × List Ob := fun r => (.agg [li .i64 r.Kind, li .i64 r.ID, li .i64 r.Which, li .i64 r.To, li .i64 r.At.X, li .i64 r.At.Y, li .i64 r.F.a0.N, ls r.F.a0.Text, li .i64 r.F.a1.N, ls r.F.a1.Text, li .i64 r.F.a2.N, ls r.F.a2.Text, li .i64 r.F.a3.N, ls r.F.a3.Text, li .i64 r.Value.N, ls r.Value.Text, li .i64 r.Client, li .i64 r.Session, li .i64 r.Rect.X0, li .i64 r.Rect.Y0, li .i64 r.Rect.X1, li .i64 r.Rect.Y1], [])
def F74 (n : Nat) (a0 : Command) : Option Command :=
  if a0.Kind == 1 then
    some (Command.mk a0.Kind 0 0 0 a0.At a0.F (Field.mk 0 ByteArray.empty) a0.Client a0.Session (Rect.mk 0 0 0 0))
  else
    if a0.Kind == 2 then
      some (Command.mk a0.Kind a0.ID 0 0 a0.At (A4.mk (Field.mk 0 ByteArray.empty) (Field.mk 0 ByteArray.empty) (Field.mk 0 ByteArray.empty) (Field.mk 0 ByteArray.empty)) (Field.mk 0 ByteArray.empty) a0.Client a0.Session (Rect.mk 0 0 0 0))
    else
      if a0.Kind == 3 then
        some (Command.mk a0.Kind a0.ID a0.Which 0 (Point.mk 0 0) (A4.mk (Field.mk 0 ByteArray.empty) (Field.mk 0 ByteArray.empty) (Field.mk 0 ByteArray.empty) (Field.mk 0 ByteArray.empty)) a0.Value a0.Client a0.Session (Rect.mk 0 0 0 0))
      else
        if a0.Kind == 4 then
          some (Command.mk a0.Kind a0.ID 0 0 (Point.mk 0 0) (A4.mk (Field.mk 0 ByteArray.empty) (Field.mk 0 ByteArray.empty) (Field.mk 0 ByteArray.empty) (Field.mk 0 ByteArray.empty)) (Field.mk 0 ByteArray.empty) a0.Client a0.Session (Rect.mk 0 0 0 0))
        else
          if a0.Kind == 5 then
            some (Command.mk a0.Kind 0 a0.Which a0.To (Point.mk 0 0) (A4.mk (Field.mk 0 ByteArray.empty) (Field.mk 0 ByteArray.empty) (Field.mk 0 ByteArray.empty) (Field.mk 0 ByteArray.empty)) (Field.mk 0 ByteArray.empty) a0.Client a0.Session (Rect.mk 0 0 0 0))
          else
            if a0.Kind == 6 then
              if a0.Kind == 6 then
                some (Command.mk a0.Kind 0 0 0 (Point.mk 0 0) (A4.mk (Field.mk 0 ByteArray.empty) (Field.mk 0 ByteArray.empty) (Field.mk 0 ByteArray.empty) (Field.mk 0 ByteArray.empty)) (Field.mk 0 ByteArray.empty) a0.Client a0.Session a0.Rect)
              else
                some (Command.mk a0.Kind 0 0 0 (Point.mk 0 0) (A4.mk (Field.mk 0 ByteArray.empty) (Field.mk 0 ByteArray.empty) (Field.mk 0 ByteArray.empty) (Field.mk 0 ByteArray.empty)) (Field.mk 0 ByteArray.empty) a0.Client a0.Session (Rect.mk 0 0 0 0))
            else
              if a0.Kind == 7 then
                some (Command.mk a0.Kind 0 0 0 (Point.mk 0 0) (A4.mk (Field.mk 0 ByteArray.empty) (Field.mk 0 ByteArray.empty) (Field.mk 0 ByteArray.empty) (Field.mk 0 ByteArray.empty)) (Field.mk 0 ByteArray.empty) a0.Client a0.Session a0.Rect)
              else
                some (Command.mk a0.Kind 0 0 0 (Point.mk 0 0) (A4.mk (Field.mk 0 ByteArray.empty) (Field.mk 0 ByteArray.empty) (Field.mk 0 ByteArray.empty) (Field.mk 0 ByteArray.empty)) (Field.mk 0 ByteArray.empty) a0.Client a0.Session (Rect.mk 0 0 0 0))
theorem F74_ok (n : Nat) (a0 : Command) : ∀ r, F74 n a0 = some r → D 74 [.agg [li .i64 a0.Kind, li .i64 a0.ID, li .i64 a0.Which, li .i64 a0.To, li .i64 a0.At.X, li .i64 a0.At.Y, li .i64 a0.F.a0.N, ls a0.F.a0.Text, li .i64 a0.F.a1.N, ls a0.F.a1.Text, li .i64 a0.F.a2.N, ls a0.F.a2.Text, li .i64 a0.F.a3.N, ls a0.F.a3.Text, li .i64 a0.Value.N, ls a0.Value.Text, li .i64 a0.Client, li .i64 a0.Session, li .i64 a0.Rect.X0, li .i64 a0.Rect.Y0, li .i64 a0.Rect.X1, li .i64 a0.Rect.Y1]] [] = some (F74_e r) := by
  refine fn_to (D := D) (n := n + 8) (nt := 60) (rs := pc74_r) (c := pc74_c40) (L := [(0, .agg [li .i64 a0.Kind, li .i64 a0.ID, li .i64 a0.Which, li .i64 a0.To, li .i64 a0.At.X, li .i64 a0.At.Y, li .i64 a0.F.a0.N, ls a0.F.a0.Text, li .i64 a0.F.a1.N, ls a0.F.a1.Text, li .i64 a0.F.a2.N, ls a0.F.a2.Text, li .i64 a0.F.a3.N, ls a0.F.a3.Text, li .i64 a0.Value.N, ls a0.Value.Text, li .i64 a0.Client, li .i64 a0.Session, li .i64 a0.Rect.X0, li .i64 a0.Rect.Y0, li .i64 a0.Rect.X1, li .i64 a0.Rect.Y1])]) (M := []) (k := 0) rfl rfl rfl rfl rfl rfl rfl ?_
  unfold F74
  refine Sim.seq ?_
  refine Sim.region0 ?_
  refine SimI.run 2 [(2, .one (.ptr 2 0)), (1, .one (.ptr 1 0))] [(2, some (.cells [li .i64 0, li .i64 0, li .i64 0, li .i64 0, li .i64 0, li .i64 0, li .i64 0, ls ByteArray.empty, li .i64 0, ls ByteArray.empty, li .i64 0, ls ByteArray.empty, li .i64 0, ls ByteArray.empty, li .i64 0, ls ByteArray.empty, li .i64 0, li .i64 0, li .i64 0, li .i64 0, li .i64 0, li .i64 0])), (1, some (.cells [li .i64 a0.Kind, li .i64 a0.ID, li .i64 a0.Which, li .i64 a0.To, li .i64 a0.At.X, li .i64 a0.At.Y, li .i64 a0.F.a0.N, ls a0.F.a0.Text, li .i64 a0.F.a1.N, ls a0.F.a1.Text, li .i64 a0.F.a2.N, ls a0.F.a2.Text, li .i64 a0.F.a3.N, ls a0.F.a3.Text, li .i64 a0.Value.N, ls a0.Value.Text, li .i64 a0.Client, li .i64 a0.Session, li .i64 a0.Rect.X0, li .i64 a0.Rect.Y0, li .i64 a0.Rect.X1, li .i64 a0.Rect.Y1]))] (by kernel_rfl) ?_
  refine SimI.done (by kernel_rfl) ?_
  refine SimE.thenN ?_
  refine Sim.seq ?_
  refine Sim.region0 ?_
  refine SimI.run 9 [(3, .one (.ptr 3 0)), (10, .agg [li .i64 a0.Kind, li .i64 0, li .i64 0, li .i64 0, li .i64 0, li .i64 0, li .i64 0, ls ByteArray.empty, li .i64 0, ls ByteArray.empty, li .i64 0, ls ByteArray.empty, li .i64 0, ls ByteArray.empty, li .i64 0, ls ByteArray.empty, li .i64 a0.Client, li .i64 a0.Session, li .i64 0, li .i64 0, li .i64 0, li .i64 0]), (9, .one (li .i64 a0.Session)), (8, .one (.ptr 1 17)), (7, .one (li .i64 a0.Client)), (6, .one (.ptr 1 16)), (5, .one (li .i64 a0.Kind)), (4, .one (.ptr 1 0))] [(3, some (.cells [li .i64 a0.Kind, li .i64 0, li .i64 0, li .i64 0, li .i64 0, li .i64 0, li .i64 0, ls ByteArray.empty, li .i64 0, ls ByteArray.empty, li .i64 0, ls ByteArray.empty, li .i64 0, ls ByteArray.empty, li .i64 0, ls ByteArray.empty, li .i64 a0.Client, li .i64 a0.Session, li .i64 0, li .i64 0, li .i64 0, li .i64 0])), (3, some (.cells [li .i64 0, li .i64 0, li .i64 0, li .i64 0, li .i64 0, li .i64 0, li .i64 0, ls ByteArray.empty, li .i64 0, ls ByteArray.empty, li .i64 0, ls ByteArray.empty, li .i64 0, ls ByteArray.empty, li .i64 0, ls ByteArray.empty, li .i64 0, li .i64 0, li .i64 0, li .i64 0, li .i64 0, li .i64 0]))] (by kernel_rfl) ?_
  refine SimI.done (by kernel_rfl) ?_
  refine SimE.thenN ?_
  refine Sim.seq ?_
  refine Sim.seq ?_
  refine Sim.region0 ?_
  refine SimI.run 2 [(12, .one (li .i64 a0.Kind)), (11, .one (.ptr 1 0))] [] (by kernel_rfl) ?_
  refine SimI.done (by kernel_rfl) ?_
  refine SimE.thenN ?_
  refine Sim.block ?_
  refine Sim.seq ?_
  refine Sim.region0 ?_
  refine SimI.run 2 [(13, .one (lb (a0.Kind == 1))), (14, .one (lb (a0.Kind == 1)))] [] (by kernel_rfl) ?_
  refine SimI.done (by kernel_rfl) ?_
  refine SimE.thenN ?_
  refine Sim.cond (a0.Kind == 1) (by kernel_rfl) ?_ ?_
  · refine Sim.region0 ?_
    refine SimI.run 8 [(20, .one (.ptr 3 6)), (19, .one (.ptr 3 4)), (18, .agg [li .i64 a0.F.a0.N, ls a0.F.a0.Text, li .i64 a0.F.a1.N, ls a0.F.a1.Text, li .i64 a0.F.a2.N, ls a0.F.a2.Text, li .i64 a0.F.a3.N, ls a0.F.a3.Text]), (17, .one (.ptr 1 6)), (16, .agg [li .i64 a0.At.X, li .i64 a0.At.Y]), (15, .one (.ptr 1 4))] [(3, some (.cells [li .i64 a0.Kind, li .i64 0, li .i64 0, li .i64 0, li .i64 a0.At.X, li .i64 a0.At.Y, li .i64 a0.F.a0.N, ls a0.F.a0.Text, li .i64 a0.F.a1.N, ls a0.F.a1.Text, li .i64 a0.F.a2.N, ls a0.F.a2.Text, li .i64 a0.F.a3.N, ls a0.F.a3.Text, li .i64 0, ls ByteArray.empty, li .i64 a0.Client, li .i64 a0.Session, li .i64 0, li .i64 0, li .i64 0, li .i64 0])), (3, some (.cells [li .i64 a0.Kind, li .i64 0, li .i64 0, li .i64 0, li .i64 a0.At.X, li .i64 a0.At.Y, li .i64 0, ls ByteArray.empty, li .i64 0, ls ByteArray.empty, li .i64 0, ls ByteArray.empty, li .i64 0, ls ByteArray.empty, li .i64 0, ls ByteArray.empty, li .i64 a0.Client, li .i64 a0.Session, li .i64 0, li .i64 0, li .i64 0, li .i64 0]))] (by kernel_rfl) ?_
    refine SimI.done (by kernel_rfl) ?_
    refine SimE.blockN ?_
    refine SimE.thenN ?_
    refine Sim.seq ?_
    refine Sim.region0 ?_
    refine SimI.run 2 [(59, .agg [li .i64 a0.Kind, li .i64 0, li .i64 0, li .i64 0, li .i64 a0.At.X, li .i64 a0.At.Y, li .i64 a0.F.a0.N, ls a0.F.a0.Text, li .i64 a0.F.a1.N, ls a0.F.a1.Text, li .i64 a0.F.a2.N, ls a0.F.a2.Text, li .i64 a0.F.a3.N, ls a0.F.a3.Text, li .i64 0, ls ByteArray.empty, li .i64 a0.Client, li .i64 a0.Session, li .i64 0, li .i64 0, li .i64 0, li .i64 0])] [(2, some (.cells [li .i64 a0.Kind, li .i64 0, li .i64 0, li .i64 0, li .i64 a0.At.X, li .i64 a0.At.Y, li .i64 a0.F.a0.N, ls a0.F.a0.Text, li .i64 a0.F.a1.N, ls a0.F.a1.Text, li .i64 a0.F.a2.N, ls a0.F.a2.Text, li .i64 a0.F.a3.N, ls a0.F.a3.Text, li .i64 0, ls ByteArray.empty, li .i64 a0.Client, li .i64 a0.Session, li .i64 0, li .i64 0, li .i64 0, li .i64 0]))] (by kernel_rfl) ?_
    refine SimI.done (by kernel_rfl) ?_
    refine SimE.thenN ?_
    refine Sim.ret ?_
    exact SimE.fin (by kernel_rfl)
  · refine Sim.seq ?_
    refine Sim.region0 ?_
    refine SimI.run 2 [(21, .one (lb (a0.Kind == 2))), (22, .one (lb (a0.Kind == 2)))] [] (by kernel_rfl) ?_
    refine SimI.done (by kernel_rfl) ?_
    refine SimE.thenN ?_
    refine Sim.cond (a0.Kind == 2) (by kernel_rfl) ?_ ?_
    · refine Sim.region0 ?_
      refine SimI.run 8 [(28, .one (.ptr 3 4)), (27, .one (.ptr 3 1)), (26, .agg [li .i64 a0.At.X, li .i64 a0.At.Y]), (25, .one (.ptr 1 4)), (24, .one (li .i64 a0.ID)), (23, .one (.ptr 1 1))] [(3, some (.cells [li .i64 a0.Kind, li .i64 a0.ID, li .i64 0, li .i64 0, li .i64 a0.At.X, li .i64 a0.At.Y, li .i64 0, ls ByteArray.empty, li .i64 0, ls ByteArray.empty, li .i64 0, ls ByteArray.empty, li .i64 0, ls ByteArray.empty, li .i64 0, ls ByteArray.empty, li .i64 a0.Client, li .i64 a0.Session, li .i64 0, li .i64 0, li .i64 0, li .i64 0])), (3, some (.cells [li .i64 a0.Kind, li .i64 a0.ID, li .i64 0, li .i64 0, li .i64 0, li .i64 0, li .i64 0, ls ByteArray.empty, li .i64 0, ls ByteArray.empty, li .i64 0, ls ByteArray.empty, li .i64 0, ls ByteArray.empty, li .i64 0, ls ByteArray.empty, li .i64 a0.Client, li .i64 a0.Session, li .i64 0, li .i64 0, li .i64 0, li .i64 0]))] (by kernel_rfl) ?_
      refine SimI.done (by kernel_rfl) ?_
      refine SimE.blockN ?_
      refine SimE.thenN ?_
      refine Sim.seq ?_
      refine Sim.region0 ?_
      refine SimI.run 2 [(59, .agg [li .i64 a0.Kind, li .i64 a0.ID, li .i64 0, li .i64 0, li .i64 a0.At.X, li .i64 a0.At.Y, li .i64 0, ls ByteArray.empty, li .i64 0, ls ByteArray.empty, li .i64 0, ls ByteArray.empty, li .i64 0, ls ByteArray.empty, li .i64 0, ls ByteArray.empty, li .i64 a0.Client, li .i64 a0.Session, li .i64 0, li .i64 0, li .i64 0, li .i64 0])] [(2, some (.cells [li .i64 a0.Kind, li .i64 a0.ID, li .i64 0, li .i64 0, li .i64 a0.At.X, li .i64 a0.At.Y, li .i64 0, ls ByteArray.empty, li .i64 0, ls ByteArray.empty, li .i64 0, ls ByteArray.empty, li .i64 0, ls ByteArray.empty, li .i64 0, ls ByteArray.empty, li .i64 a0.Client, li .i64 a0.Session, li .i64 0, li .i64 0, li .i64 0, li .i64 0]))] (by kernel_rfl) ?_
      refine SimI.done (by kernel_rfl) ?_
      refine SimE.thenN ?_
      refine Sim.ret ?_
      exact SimE.fin (by kernel_rfl)
    · refine Sim.seq ?_
      refine Sim.region0 ?_
      refine SimI.run 2 [(29, .one (lb (a0.Kind == 3))), (30, .one (lb (a0.Kind == 3)))] [] (by kernel_rfl) ?_
      refine SimI.done (by kernel_rfl) ?_
      refine SimE.thenN ?_
      refine Sim.cond (a0.Kind == 3) (by kernel_rfl) ?_ ?_
      · refine Sim.region0 ?_
        refine SimI.run 12 [(39, .one (.ptr 3 14)), (38, .one (.ptr 3 2)), (37, .one (.ptr 3 1)), (36, .agg [li .i64 a0.Value.N, ls a0.Value.Text]), (35, .one (.ptr 1 14)), (34, .one (li .i64 a0.Which)), (33, .one (.ptr 1 2)), (32, .one (li .i64 a0.ID)), (31, .one (.ptr 1 1))] [(3, some (.cells [li .i64 a0.Kind, li .i64 a0.ID, li .i64 a0.Which, li .i64 0, li .i64 0, li .i64 0, li .i64 0, ls ByteArray.empty, li .i64 0, ls ByteArray.empty, li .i64 0, ls ByteArray.empty, li .i64 0, ls ByteArray.empty, li .i64 a0.Value.N, ls a0.Value.Text, li .i64 a0.Client, li .i64 a0.Session, li .i64 0, li .i64 0, li .i64 0, li .i64 0])), (3, some (.cells [li .i64 a0.Kind, li .i64 a0.ID, li .i64 a0.Which, li .i64 0, li .i64 0, li .i64 0, li .i64 0, ls ByteArray.empty, li .i64 0, ls ByteArray.empty, li .i64 0, ls ByteArray.empty, li .i64 0, ls ByteArray.empty, li .i64 0, ls ByteArray.empty, li .i64 a0.Client, li .i64 a0.Session, li .i64 0, li .i64 0, li .i64 0, li .i64 0])), (3, some (.cells [li .i64 a0.Kind, li .i64 a0.ID, li .i64 0, li .i64 0, li .i64 0, li .i64 0, li .i64 0, ls ByteArray.empty, li .i64 0, ls ByteArray.empty, li .i64 0, ls ByteArray.empty, li .i64 0, ls ByteArray.empty, li .i64 0, ls ByteArray.empty, li .i64 a0.Client, li .i64 a0.Session, li .i64 0, li .i64 0, li .i64 0, li .i64 0]))] (by kernel_rfl) ?_
        refine SimI.done (by kernel_rfl) ?_
        refine SimE.blockN ?_
        refine SimE.thenN ?_
        refine Sim.seq ?_
        refine Sim.region0 ?_
        refine SimI.run 2 [(59, .agg [li .i64 a0.Kind, li .i64 a0.ID, li .i64 a0.Which, li .i64 0, li .i64 0, li .i64 0, li .i64 0, ls ByteArray.empty, li .i64 0, ls ByteArray.empty, li .i64 0, ls ByteArray.empty, li .i64 0, ls ByteArray.empty, li .i64 a0.Value.N, ls a0.Value.Text, li .i64 a0.Client, li .i64 a0.Session, li .i64 0, li .i64 0, li .i64 0, li .i64 0])] [(2, some (.cells [li .i64 a0.Kind, li .i64 a0.ID, li .i64 a0.Which, li .i64 0, li .i64 0, li .i64 0, li .i64 0, ls ByteArray.empty, li .i64 0, ls ByteArray.empty, li .i64 0, ls ByteArray.empty, li .i64 0, ls ByteArray.empty, li .i64 a0.Value.N, ls a0.Value.Text, li .i64 a0.Client, li .i64 a0.Session, li .i64 0, li .i64 0, li .i64 0, li .i64 0]))] (by kernel_rfl) ?_
        refine SimI.done (by kernel_rfl) ?_
        refine SimE.thenN ?_
        refine Sim.ret ?_
        exact SimE.fin (by kernel_rfl)
      · refine Sim.seq ?_
        refine Sim.region0 ?_
        refine SimI.run 2 [(40, .one (lb (a0.Kind == 4))), (41, .one (lb (a0.Kind == 4)))] [] (by kernel_rfl) ?_
        refine SimI.done (by kernel_rfl) ?_
        refine SimE.thenN ?_
        refine Sim.cond (a0.Kind == 4) (by kernel_rfl) ?_ ?_
        · refine Sim.region0 ?_
          refine SimI.run 4 [(44, .one (.ptr 3 1)), (43, .one (li .i64 a0.ID)), (42, .one (.ptr 1 1))] [(3, some (.cells [li .i64 a0.Kind, li .i64 a0.ID, li .i64 0, li .i64 0, li .i64 0, li .i64 0, li .i64 0, ls ByteArray.empty, li .i64 0, ls ByteArray.empty, li .i64 0, ls ByteArray.empty, li .i64 0, ls ByteArray.empty, li .i64 0, ls ByteArray.empty, li .i64 a0.Client, li .i64 a0.Session, li .i64 0, li .i64 0, li .i64 0, li .i64 0]))] (by kernel_rfl) ?_
          refine SimI.done (by kernel_rfl) ?_
          refine SimE.blockN ?_
          refine SimE.thenN ?_
          refine Sim.seq ?_
          refine Sim.region0 ?_
          refine SimI.run 2 [(59, .agg [li .i64 a0.Kind, li .i64 a0.ID, li .i64 0, li .i64 0, li .i64 0, li .i64 0, li .i64 0, ls ByteArray.empty, li .i64 0, ls ByteArray.empty, li .i64 0, ls ByteArray.empty, li .i64 0, ls ByteArray.empty, li .i64 0, ls ByteArray.empty, li .i64 a0.Client, li .i64 a0.Session, li .i64 0, li .i64 0, li .i64 0, li .i64 0])] [(2, some (.cells [li .i64 a0.Kind, li .i64 a0.ID, li .i64 0, li .i64 0, li .i64 0, li .i64 0, li .i64 0, ls ByteArray.empty, li .i64 0, ls ByteArray.empty, li .i64 0, ls ByteArray.empty, li .i64 0, ls ByteArray.empty, li .i64 0, ls ByteArray.empty, li .i64 a0.Client, li .i64 a0.Session, li .i64 0, li .i64 0, li .i64 0, li .i64 0]))] (by kernel_rfl) ?_
          refine SimI.done (by kernel_rfl) ?_
          refine SimE.thenN ?_
          refine Sim.ret ?_
          exact SimE.fin (by kernel_rfl)
        · refine Sim.seq ?_
          refine Sim.region0 ?_
          refine SimI.run 2 [(45, .one (lb (a0.Kind == 5))), (46, .one (lb (a0.Kind == 5)))] [] (by kernel_rfl) ?_
          refine SimI.done (by kernel_rfl) ?_
          refine SimE.thenN ?_
          refine Sim.cond (a0.Kind == 5) (by kernel_rfl) ?_ ?_
          · refine Sim.region0 ?_
            refine SimI.run 8 [(52, .one (.ptr 3 3)), (51, .one (.ptr 3 2)), (50, .one (li .i64 a0.To)), (49, .one (.ptr 1 3)), (48, .one (li .i64 a0.Which)), (47, .one (.ptr 1 2))] [(3, some (.cells [li .i64 a0.Kind, li .i64 0, li .i64 a0.Which, li .i64 a0.To, li .i64 0, li .i64 0, li .i64 0, ls ByteArray.empty, li .i64 0, ls ByteArray.empty, li .i64 0, ls ByteArray.empty, li .i64 0, ls ByteArray.empty, li .i64 0, ls ByteArray.empty, li .i64 a0.Client, li .i64 a0.Session, li .i64 0, li .i64 0, li .i64 0, li .i64 0])), (3, some (.cells [li .i64 a0.Kind, li .i64 0, li .i64 a0.Which, li .i64 0, li .i64 0, li .i64 0, li .i64 0, ls ByteArray.empty, li .i64 0, ls ByteArray.empty, li .i64 0, ls ByteArray.empty, li .i64 0, ls ByteArray.empty, li .i64 0, ls ByteArray.empty, li .i64 a0.Client, li .i64 a0.Session, li .i64 0, li .i64 0, li .i64 0, li .i64 0]))] (by kernel_rfl) ?_
            refine SimI.done (by kernel_rfl) ?_
            refine SimE.blockN ?_
            refine SimE.thenN ?_
            refine Sim.seq ?_
            refine Sim.region0 ?_
            refine SimI.run 2 [(59, .agg [li .i64 a0.Kind, li .i64 0, li .i64 a0.Which, li .i64 a0.To, li .i64 0, li .i64 0, li .i64 0, ls ByteArray.empty, li .i64 0, ls ByteArray.empty, li .i64 0, ls ByteArray.empty, li .i64 0, ls ByteArray.empty, li .i64 0, ls ByteArray.empty, li .i64 a0.Client, li .i64 a0.Session, li .i64 0, li .i64 0, li .i64 0, li .i64 0])] [(2, some (.cells [li .i64 a0.Kind, li .i64 0, li .i64 a0.Which, li .i64 a0.To, li .i64 0, li .i64 0, li .i64 0, ls ByteArray.empty, li .i64 0, ls ByteArray.empty, li .i64 0, ls ByteArray.empty, li .i64 0, ls ByteArray.empty, li .i64 0, ls ByteArray.empty, li .i64 a0.Client, li .i64 a0.Session, li .i64 0, li .i64 0, li .i64 0, li .i64 0]))] (by kernel_rfl) ?_
            refine SimI.done (by kernel_rfl) ?_
            refine SimE.thenN ?_
            refine Sim.ret ?_
            exact SimE.fin (by kernel_rfl)
          · refine Sim.seq ?_
            refine Sim.seq ?_
            refine Sim.region0 ?_
            refine SimI.run 2 [(53, .one (lb (a0.Kind == 6))), (54, .one (lb (a0.Kind == 6)))] [] (by kernel_rfl) ?_
            refine SimI.done (by kernel_rfl) ?_
            refine SimE.thenN ?_
            refine Sim.cond (a0.Kind == 6) (by kernel_rfl) ?_ ?_
            · refine Sim.skip ?_
              refine SimE.thenN ?_
              refine Sim.cond (a0.Kind == 6) (by kernel_rfl) ?_ ?_
              · refine Sim.region0 ?_
                refine SimI.run 4 [(58, .one (.ptr 3 18)), (57, .agg [li .i64 a0.Rect.X0, li .i64 a0.Rect.Y0, li .i64 a0.Rect.X1, li .i64 a0.Rect.Y1]), (56, .one (.ptr 1 18))] [(3, some (.cells [li .i64 a0.Kind, li .i64 0, li .i64 0, li .i64 0, li .i64 0, li .i64 0, li .i64 0, ls ByteArray.empty, li .i64 0, ls ByteArray.empty, li .i64 0, ls ByteArray.empty, li .i64 0, ls ByteArray.empty, li .i64 0, ls ByteArray.empty, li .i64 a0.Client, li .i64 a0.Session, li .i64 a0.Rect.X0, li .i64 a0.Rect.Y0, li .i64 a0.Rect.X1, li .i64 a0.Rect.Y1]))] (by kernel_rfl) ?_
                refine SimI.done (by kernel_rfl) ?_
                refine SimE.blockN ?_
                refine SimE.thenN ?_
                refine Sim.seq ?_
                refine Sim.region0 ?_
                refine SimI.run 2 [(59, .agg [li .i64 a0.Kind, li .i64 0, li .i64 0, li .i64 0, li .i64 0, li .i64 0, li .i64 0, ls ByteArray.empty, li .i64 0, ls ByteArray.empty, li .i64 0, ls ByteArray.empty, li .i64 0, ls ByteArray.empty, li .i64 0, ls ByteArray.empty, li .i64 a0.Client, li .i64 a0.Session, li .i64 a0.Rect.X0, li .i64 a0.Rect.Y0, li .i64 a0.Rect.X1, li .i64 a0.Rect.Y1])] [(2, some (.cells [li .i64 a0.Kind, li .i64 0, li .i64 0, li .i64 0, li .i64 0, li .i64 0, li .i64 0, ls ByteArray.empty, li .i64 0, ls ByteArray.empty, li .i64 0, ls ByteArray.empty, li .i64 0, ls ByteArray.empty, li .i64 0, ls ByteArray.empty, li .i64 a0.Client, li .i64 a0.Session, li .i64 a0.Rect.X0, li .i64 a0.Rect.Y0, li .i64 a0.Rect.X1, li .i64 a0.Rect.Y1]))] (by kernel_rfl) ?_
                refine SimI.done (by kernel_rfl) ?_
                refine SimE.thenN ?_
                refine Sim.ret ?_
                exact SimE.fin (by kernel_rfl)
              · refine Sim.skip ?_
                refine SimE.blockN ?_
                refine SimE.thenN ?_
                refine Sim.seq ?_
                refine Sim.region0 ?_
                refine SimI.run 2 [(59, .agg [li .i64 a0.Kind, li .i64 0, li .i64 0, li .i64 0, li .i64 0, li .i64 0, li .i64 0, ls ByteArray.empty, li .i64 0, ls ByteArray.empty, li .i64 0, ls ByteArray.empty, li .i64 0, ls ByteArray.empty, li .i64 0, ls ByteArray.empty, li .i64 a0.Client, li .i64 a0.Session, li .i64 0, li .i64 0, li .i64 0, li .i64 0])] [(2, some (.cells [li .i64 a0.Kind, li .i64 0, li .i64 0, li .i64 0, li .i64 0, li .i64 0, li .i64 0, ls ByteArray.empty, li .i64 0, ls ByteArray.empty, li .i64 0, ls ByteArray.empty, li .i64 0, ls ByteArray.empty, li .i64 0, ls ByteArray.empty, li .i64 a0.Client, li .i64 a0.Session, li .i64 0, li .i64 0, li .i64 0, li .i64 0]))] (by kernel_rfl) ?_
                refine SimI.done (by kernel_rfl) ?_
                refine SimE.thenN ?_
                refine Sim.ret ?_
                exact SimE.fin (by kernel_rfl)
            · refine Sim.region0 ?_
              refine SimI.run 2 [(53, .one (lb (a0.Kind == 7))), (55, .one (lb (a0.Kind == 7)))] [] (by kernel_rfl) ?_
              refine SimI.done (by kernel_rfl) ?_
              refine SimE.thenN ?_
              refine Sim.cond (a0.Kind == 7) (by kernel_rfl) ?_ ?_
              · refine Sim.region0 ?_
                refine SimI.run 4 [(58, .one (.ptr 3 18)), (57, .agg [li .i64 a0.Rect.X0, li .i64 a0.Rect.Y0, li .i64 a0.Rect.X1, li .i64 a0.Rect.Y1]), (56, .one (.ptr 1 18))] [(3, some (.cells [li .i64 a0.Kind, li .i64 0, li .i64 0, li .i64 0, li .i64 0, li .i64 0, li .i64 0, ls ByteArray.empty, li .i64 0, ls ByteArray.empty, li .i64 0, ls ByteArray.empty, li .i64 0, ls ByteArray.empty, li .i64 0, ls ByteArray.empty, li .i64 a0.Client, li .i64 a0.Session, li .i64 a0.Rect.X0, li .i64 a0.Rect.Y0, li .i64 a0.Rect.X1, li .i64 a0.Rect.Y1]))] (by kernel_rfl) ?_
                refine SimI.done (by kernel_rfl) ?_
                refine SimE.blockN ?_
                refine SimE.thenN ?_
                refine Sim.seq ?_
                refine Sim.region0 ?_
                refine SimI.run 2 [(59, .agg [li .i64 a0.Kind, li .i64 0, li .i64 0, li .i64 0, li .i64 0, li .i64 0, li .i64 0, ls ByteArray.empty, li .i64 0, ls ByteArray.empty, li .i64 0, ls ByteArray.empty, li .i64 0, ls ByteArray.empty, li .i64 0, ls ByteArray.empty, li .i64 a0.Client, li .i64 a0.Session, li .i64 a0.Rect.X0, li .i64 a0.Rect.Y0, li .i64 a0.Rect.X1, li .i64 a0.Rect.Y1])] [(2, some (.cells [li .i64 a0.Kind, li .i64 0, li .i64 0, li .i64 0, li .i64 0, li .i64 0, li .i64 0, ls ByteArray.empty, li .i64 0, ls ByteArray.empty, li .i64 0, ls ByteArray.empty, li .i64 0, ls ByteArray.empty, li .i64 0, ls ByteArray.empty, li .i64 a0.Client, li .i64 a0.Session, li .i64 a0.Rect.X0, li .i64 a0.Rect.Y0, li .i64 a0.Rect.X1, li .i64 a0.Rect.Y1]))] (by kernel_rfl) ?_
                refine SimI.done (by kernel_rfl) ?_
                refine SimE.thenN ?_
                refine Sim.ret ?_
                exact SimE.fin (by kernel_rfl)
              · refine Sim.skip ?_
                refine SimE.blockN ?_
                refine SimE.thenN ?_
                refine Sim.seq ?_
                refine Sim.region0 ?_
                refine SimI.run 2 [(59, .agg [li .i64 a0.Kind, li .i64 0, li .i64 0, li .i64 0, li .i64 0, li .i64 0, li .i64 0, ls ByteArray.empty, li .i64 0, ls ByteArray.empty, li .i64 0, ls ByteArray.empty, li .i64 0, ls ByteArray.empty, li .i64 0, ls ByteArray.empty, li .i64 a0.Client, li .i64 a0.Session, li .i64 0, li .i64 0, li .i64 0, li .i64 0])] [(2, some (.cells [li .i64 a0.Kind, li .i64 0, li .i64 0, li .i64 0, li .i64 0, li .i64 0, li .i64 0, ls ByteArray.empty, li .i64 0, ls ByteArray.empty, li .i64 0, ls ByteArray.empty, li .i64 0, ls ByteArray.empty, li .i64 0, ls ByteArray.empty, li .i64 a0.Client, li .i64 a0.Session, li .i64 0, li .i64 0, li .i64 0, li .i64 0]))] (by kernel_rfl) ?_
                refine SimI.done (by kernel_rfl) ?_
                refine SimE.thenN ?_
                refine Sim.ret ?_
                exact SimE.fin (by kernel_rfl)


-- 75: vedette/cmd.near
def F75_e : Bool → PV × List Ob := fun r => (.one (lb r), [])
def F75_l4 (n : Nat) (a0 : (List Int)) : Nat → Int → Option Bool
  | 0, _ => none
  | m + 1, i3 =>
    if decide (i3 < ((a0).length : Int)) then
      (ix a0 i3).bind fun (x5 : Int) =>
      if decide (((-1000) : Int) ≤ x5) then
        if decide (x5 ≤ 1000) then
          (F75_l4 n a0 m) (IntKind.wrap .i64 (i3 + 1))
        else
          some false
      else
        some false
    else
      some true
theorem F75_l4_ok (n : Nat) (a0 : (List Int)) : ∀ (m : Nat) (i3 : Int), SimL Try.prog D (n + 8) m pc75_c23 [(5, .one (vw (codI .i64) a0)), (6, .one (li .i64 ((a0).length : Int))), (7, .one (li .i64 i3))] [] (F75_l4 n a0 m i3) (QB 0 (QT Try.prog D (n + 8) pc75_c29 (QF false pc75_r 0 F75_e))) := by
  intro m_l4
  induction m_l4 with
  | zero => intro i3; exact SimL.zero'  rfl
  | succ m_l4 ih_l4 =>
    intro i3
    refine SimL.succ ?_
    unfold F75_l4
    refine Sim.seq ?_
    refine Sim.region [(5, .one (vw (codI .i64) a0)), (6, .one (li .i64 ((a0).length : Int))), (7, .one (li .i64 i3))] [] (by kernel_rfl) ?_
    refine SimI.run 1 [(8, .one (lb (decide (i3 < ((a0).length : Int)))))] [] (by kernel_rfl) ?_
    refine SimI.done (by kernel_rfl) ?_
    refine SimE.thenN ?_
    refine Sim.seq ?_
    refine Sim.cond (decide (i3 < ((a0).length : Int))) (by kernel_rfl) ?_ ?_
    · refine Sim.skip ?_
      refine SimE.thenN ?_
      refine Sim.seq ?_
      refine Sim.block ?_
      refine Sim.seq ?_
      refine Sim.region0 ?_
      refine SimI.bind (og := ix a0 i3) { dst := some 9, op := POp.iaddrS 1 (Operand.tmp 5) (Operand.tmp 7), guard := none, hints := [] } (fun x5 => [(9, .one (.eptr ((codI .i64).enc x5) 0))]) (fun x5 => []) (by kernel_rfl) (fun x5 hr => pOp_eff (by kernel_rfl) (by kernel_rfl) (eff_idx (c := (codI .i64)) (l := a0) (k := .i64) (n := i3) (by kernel_rfl) (by kernel_rfl) (by kernel_rfl) hr)) (fun x5 => ?_)
      refine SimI.run 2 [(4, .one (li .i64 x5)), (10, .one (li .i64 x5))] [] (by kernel_rfl) ?_
      refine SimI.done (by kernel_rfl) ?_
      refine SimE.thenN ?_
      refine Sim.seq ?_
      refine Sim.seq ?_
      refine Sim.region0 ?_
      refine SimI.run 3 [(13, .one (lb (decide (((-1000) : Int) ≤ x5)))), (12, .one (lb (decide (((-1000) : Int) ≤ x5)))), (11, .one (li .i64 x5))] [] (by kernel_rfl) ?_
      refine SimI.split 13 (decide (((-1000) : Int) ≤ x5)) (by kernel_rfl) ?_ ?_
      · refine SimI.run 3 [(16, .one (lb (decide (x5 ≤ 1000)))), (15, .one (lb (decide (x5 ≤ 1000)))), (14, .one (li .i64 x5))] [] (by kernel_rfl) ?_
        refine SimI.done (by kernel_rfl) ?_
        refine SimE.thenN ?_
        refine Sim.cond (decide (x5 ≤ 1000)) (by kernel_rfl) ?_ ?_
        · refine Sim.exit ?_
          refine SimE.thenX ?_
          refine SimE.blockX ?_
          refine SimE.thenN ?_
          refine Sim.region0 ?_
          refine SimI.run 2 [(7, .one (li .i64 (IntKind.wrap .i64 (i3 + 1)))), (17, .one (li .i64 (IntKind.wrap .i64 (i3 + 1))))] [] (by kernel_rfl) ?_
          refine SimI.done (by kernel_rfl) ?_
          refine SimE.loopN ?_
          refine SimL.pre (ts := [5, 6, 7]) (os := []) (ow := []) [(5, .one (vw (codI .i64) a0)), (6, .one (li .i64 ((a0).length : Int))), (7, .one (li .i64 (IntKind.wrap .i64 (i3 + 1))))] [] (by kernel_rfl) (by kernel_rfl) (by kernel_rfl) ?_
          exact ih_l4 (IntKind.wrap .i64 (i3 + 1))
        · refine Sim.skip ?_
          refine SimE.thenN ?_
          refine Sim.seq ?_
          refine Sim.region0 ?_
          refine SimI.run 1 [(2, .one (lb false))] [] (by kernel_rfl) ?_
          refine SimI.done (by kernel_rfl) ?_
          refine SimE.thenN ?_
          refine Sim.ret ?_
          refine SimE.blockR ?_
          refine SimE.thenR ?_
          refine SimE.loopR ?_
          refine SimE.blockR ?_
          refine SimE.thenR ?_
          exact SimE.fin (by kernel_rfl)
      · refine SimI.run 3 [(16, .one (lb false)), (15, .tup []), (14, .tup [])] [] (by kernel_rfl) ?_
        refine SimI.done (by kernel_rfl) ?_
        refine SimE.thenN ?_
        refine Sim.condF (by kernel_rfl) ?_
        refine Sim.skip ?_
        refine SimE.thenN ?_
        refine Sim.seq ?_
        refine Sim.region0 ?_
        refine SimI.run 1 [(2, .one (lb false))] [] (by kernel_rfl) ?_
        refine SimI.done (by kernel_rfl) ?_
        refine SimE.thenN ?_
        refine Sim.ret ?_
        refine SimE.blockR ?_
        refine SimE.thenR ?_
        refine SimE.loopR ?_
        refine SimE.blockR ?_
        refine SimE.thenR ?_
        exact SimE.fin (by kernel_rfl)
    · refine Sim.exit ?_
      refine SimE.thenX ?_
      refine SimE.loopX ?_
      refine SimE.blockX ?_
      refine SimE.thenN ?_
      refine Sim.seq ?_
      refine Sim.region0 ?_
      refine SimI.run 1 [(2, .one (lb true))] [] (by kernel_rfl) ?_
      refine SimI.done (by kernel_rfl) ?_
      refine SimE.thenN ?_
      refine Sim.ret ?_
      exact SimE.fin (by kernel_rfl)

def F75 (n : Nat) (a0 : (List Int)) : Option Bool :=
  F75_l4 n a0 (n + 8) 0
theorem F75_ok (n : Nat) (a0 : (List Int)) : ∀ r, F75 n a0 = some r → D 75 [.one (vw (codI .i64) a0)] [] = some (F75_e r) := by
  refine fn_to (D := D) (n := n + 8) (nt := 18) (rs := pc75_r) (c := pc75_c33) (L := [(0, .one (vw (codI .i64) a0))]) (M := []) (k := 0) rfl rfl rfl rfl rfl rfl rfl ?_
  unfold F75
  refine Sim.seq ?_
  refine Sim.region0 ?_
  refine SimI.run 1 [(2, .one (lb false))] [] (by kernel_rfl) ?_
  refine SimI.done (by kernel_rfl) ?_
  refine SimE.thenN ?_
  refine Sim.scope ?_
  refine Sim.seq ?_
  refine Sim.label ?_
  refine SimE.thenN ?_
  refine Sim.seq ?_
  refine Sim.seq ?_
  refine Sim.region0 ?_
  refine SimI.run 3 [(7, .one (li .i64 0)), (6, .one (li .i64 ((a0).length : Int))), (5, .one (vw (codI .i64) a0))] [] (by kernel_rfl) ?_
  refine SimI.done (by kernel_rfl) ?_
  refine SimE.thenN ?_
  refine Sim.block ?_
  refine Sim.loop ?_
  refine SimL.pre (ts := [5, 6, 7]) (os := []) (ow := []) [(5, .one (vw (codI .i64) a0)), (6, .one (li .i64 ((a0).length : Int))), (7, .one (li .i64 0))] [] (by kernel_rfl) (by kernel_rfl) (by kernel_rfl) ?_
  exact F75_l4_ok n a0 (n + 8) 0


-- 63: vedette/cmd.Is
def F63_e : Bool → PV × List Ob := fun r => (.one (lb r), [])
def F63_j12 (n : Nat) (a0 : Command) (b6 : Bool) (b8 : Bool) (b11 : Bool) : Option Bool :=
    if b6 then
      if b8 then
        if b11 then
          (F75 n [a0.At.X, a0.At.Y, a0.Rect.X0, a0.Rect.Y0, a0.Rect.X1, a0.Rect.Y1]).bind fun (r13 : Bool) =>
          some r13
        else
          some false
      else
        some false
    else
      some false
theorem F63_j12_ok (n : Nat) (a0 : Command) (b6 : Bool) (b8 : Bool) (b11 : Bool) : Sim Try.prog D (n + 8) pc63_c29 [(1, .one (.ptr 1 0)), (5, .one (lb b6)), (6, .one (lb b8)), (7, .one (lb b11))] [(1, some (.cells [li .i64 a0.Kind, li .i64 a0.ID, li .i64 a0.Which, li .i64 a0.To, li .i64 a0.At.X, li .i64 a0.At.Y, li .i64 a0.F.a0.N, ls a0.F.a0.Text, li .i64 a0.F.a1.N, ls a0.F.a1.Text, li .i64 a0.F.a2.N, ls a0.F.a2.Text, li .i64 a0.F.a3.N, ls a0.F.a3.Text, li .i64 a0.Value.N, ls a0.Value.Text, li .i64 a0.Client, li .i64 a0.Session, li .i64 a0.Rect.X0, li .i64 a0.Rect.Y0, li .i64 a0.Rect.X1, li .i64 a0.Rect.Y1]))] (F63_j12 n a0 b6 b8 b11) (QF false pc63_r 0 F63_e) := by
    unfold F63_j12
    refine Sim.seq ?_
    refine Sim.region [(1, .one (.ptr 1 0)), (5, .one (lb b6)), (6, .one (lb b8)), (7, .one (lb b11))] [(1, some (.cells [li .i64 a0.Kind, li .i64 a0.ID, li .i64 a0.Which, li .i64 a0.To, li .i64 a0.At.X, li .i64 a0.At.Y, li .i64 a0.F.a0.N, ls a0.F.a0.Text, li .i64 a0.F.a1.N, ls a0.F.a1.Text, li .i64 a0.F.a2.N, ls a0.F.a2.Text, li .i64 a0.F.a3.N, ls a0.F.a3.Text, li .i64 a0.Value.N, ls a0.Value.Text, li .i64 a0.Client, li .i64 a0.Session, li .i64 a0.Rect.X0, li .i64 a0.Rect.Y0, li .i64 a0.Rect.X1, li .i64 a0.Rect.Y1]))] (by kernel_rfl) ?_
    refine SimI.run 2 [(83, .one (lb b6)), (82, .one (lb b6))] [] (by kernel_rfl) ?_
    refine SimI.split 83 b6 (by kernel_rfl) ?_ ?_
    · refine SimI.run 3 [(86, .one (lb b8)), (85, .one (lb b8)), (84, .one (lb b8))] [] (by kernel_rfl) ?_
      refine SimI.split 86 b8 (by kernel_rfl) ?_ ?_
      · refine SimI.run 3 [(89, .one (lb b11)), (88, .one (lb b11)), (87, .one (lb b11))] [] (by kernel_rfl) ?_
        refine SimI.split 89 b11 (by kernel_rfl) ?_ ?_
        · refine SimI.run 19 [(108, .one (vw (codI .i64) [a0.At.X, a0.At.Y, a0.Rect.X0, a0.Rect.Y0, a0.Rect.X1, a0.Rect.Y1])), (107, .one (li .i64 a0.Rect.Y1)), (106, .one (.ptr 1 21)), (105, .one (.ptr 1 18)), (104, .one (li .i64 a0.Rect.X1)), (103, .one (.ptr 1 20)), (102, .one (.ptr 1 18)), (101, .one (li .i64 a0.Rect.Y0)), (100, .one (.ptr 1 19)), (99, .one (.ptr 1 18)), (98, .one (li .i64 a0.Rect.X0)), (97, .one (.ptr 1 18)), (96, .one (.ptr 1 18)), (95, .one (li .i64 a0.At.Y)), (94, .one (.ptr 1 5)), (93, .one (.ptr 1 4)), (92, .one (li .i64 a0.At.X)), (91, .one (.ptr 1 4)), (90, .one (.ptr 1 4))] [] (by kernel_rfl) ?_
          refine SimI.bind (og := F75 n [a0.At.X, a0.At.Y, a0.Rect.X0, a0.Rect.Y0, a0.Rect.X1, a0.Rect.Y1]) { dst := some 109, op := POp.call true [[(0, 1)]] 75 [Operand.tmp 108], guard := some (89, true), hints := [] } (fun r13 => [(109, .one (lb r13))]) (fun r13 => []) (by kernel_rfl) (fun r13 hr => pOp_eff (by kernel_rfl) (by kernel_rfl) (eff_call (ARGS := [.one (vw (codI .i64) [a0.At.X, a0.At.Y, a0.Rect.X0, a0.Rect.Y0, a0.Rect.X1, a0.Rect.Y1])]) (by kernel_rfl) (args_clean (by kernel_rfl) args_nil) (F75_ok n [a0.At.X, a0.At.Y, a0.Rect.X0, a0.Rect.Y0, a0.Rect.X1, a0.Rect.Y1] r13 hr) (by kernel_rfl))) (fun r13 => ?_)
          refine SimI.run 2 [(2, .one (lb r13)), (110, .one (lb r13))] [] (by kernel_rfl) ?_
          refine SimI.done (by kernel_rfl) ?_
          refine SimE.thenN ?_
          refine Sim.ret ?_
          exact SimE.fin (by kernel_rfl)
        · refine SimI.run 22 [(2, .one (lb false)), (110, .one (lb false)), (109, .tup []), (108, .tup []), (107, .tup []), (106, .tup []), (105, .tup []), (104, .tup []), (103, .tup []), (102, .tup []), (101, .tup []), (100, .tup []), (99, .tup []), (98, .tup []), (97, .tup []), (96, .tup []), (95, .tup []), (94, .tup []), (93, .tup []), (92, .tup []), (91, .tup []), (90, .tup [])] [] (by kernel_rfl) ?_
          refine SimI.done (by kernel_rfl) ?_
          refine SimE.thenN ?_
          refine Sim.ret ?_
          exact SimE.fin (by kernel_rfl)
      · refine SimI.run 25 [(2, .one (lb false)), (110, .one (lb false)), (109, .tup []), (108, .tup []), (107, .tup []), (106, .tup []), (105, .tup []), (104, .tup []), (103, .tup []), (102, .tup []), (101, .tup []), (100, .tup []), (99, .tup []), (98, .tup []), (97, .tup []), (96, .tup []), (95, .tup []), (94, .tup []), (93, .tup []), (92, .tup []), (91, .tup []), (90, .tup []), (89, .one (lb false)), (88, .one (lb false)), (87, .tup [])] [] (by kernel_rfl) ?_
        refine SimI.done (by kernel_rfl) ?_
        refine SimE.thenN ?_
        refine Sim.ret ?_
        exact SimE.fin (by kernel_rfl)
    · refine SimI.run 28 [(2, .one (lb false)), (110, .one (lb false)), (109, .tup []), (108, .tup []), (107, .tup []), (106, .tup []), (105, .tup []), (104, .tup []), (103, .tup []), (102, .tup []), (101, .tup []), (100, .tup []), (99, .tup []), (98, .tup []), (97, .tup []), (96, .tup []), (95, .tup []), (94, .tup []), (93, .tup []), (92, .tup []), (91, .tup []), (90, .tup []), (89, .one (lb false)), (88, .one (lb false)), (87, .tup []), (86, .one (lb false)), (85, .one (lb false)), (84, .tup [])] [] (by kernel_rfl) ?_
      refine SimI.done (by kernel_rfl) ?_
      refine SimE.thenN ?_
      refine Sim.ret ?_
      exact SimE.fin (by kernel_rfl)

def F63_j9 (n : Nat) (a0 : Command) (b6 : Bool) (b8 : Bool) : Option Bool :=
    if decide ((0 : Int) ≤ a0.ID) then
      if decide (a0.ID ≤ 1000000) then
        if decide (((-1) : Int) ≤ a0.Which) then
          if decide (a0.Which ≤ 100) then
            if decide (((-1) : Int) ≤ a0.To) then
              if decide (a0.To ≤ 100) then
                (F73 n a0.Value).bind fun (r10 : Bool) =>
                F63_j12 n a0 b6 b8 r10
              else
                F63_j12 n a0 b6 b8 false
            else
              F63_j12 n a0 b6 b8 false
          else
            F63_j12 n a0 b6 b8 false
        else
          F63_j12 n a0 b6 b8 false
      else
        F63_j12 n a0 b6 b8 false
    else
      F63_j12 n a0 b6 b8 false
theorem F63_j9_ok (n : Nat) (a0 : Command) (b6 : Bool) (b8 : Bool) : Sim Try.prog D (n + 8) pc63_c30 [(1, .one (.ptr 1 0)), (5, .one (lb b6)), (6, .one (lb b8))] [(1, some (.cells [li .i64 a0.Kind, li .i64 a0.ID, li .i64 a0.Which, li .i64 a0.To, li .i64 a0.At.X, li .i64 a0.At.Y, li .i64 a0.F.a0.N, ls a0.F.a0.Text, li .i64 a0.F.a1.N, ls a0.F.a1.Text, li .i64 a0.F.a2.N, ls a0.F.a2.Text, li .i64 a0.F.a3.N, ls a0.F.a3.Text, li .i64 a0.Value.N, ls a0.Value.Text, li .i64 a0.Client, li .i64 a0.Session, li .i64 a0.Rect.X0, li .i64 a0.Rect.Y0, li .i64 a0.Rect.X1, li .i64 a0.Rect.Y1]))] (F63_j9 n a0 b6 b8) (QF false pc63_r 0 F63_e) := by
    unfold F63_j9
    refine Sim.seq ?_
    refine Sim.region [(1, .one (.ptr 1 0)), (5, .one (lb b6)), (6, .one (lb b8))] [(1, some (.cells [li .i64 a0.Kind, li .i64 a0.ID, li .i64 a0.Which, li .i64 a0.To, li .i64 a0.At.X, li .i64 a0.At.Y, li .i64 a0.F.a0.N, ls a0.F.a0.Text, li .i64 a0.F.a1.N, ls a0.F.a1.Text, li .i64 a0.F.a2.N, ls a0.F.a2.Text, li .i64 a0.F.a3.N, ls a0.F.a3.Text, li .i64 a0.Value.N, ls a0.Value.Text, li .i64 a0.Client, li .i64 a0.Session, li .i64 a0.Rect.X0, li .i64 a0.Rect.Y0, li .i64 a0.Rect.X1, li .i64 a0.Rect.Y1]))] (by kernel_rfl) ?_
    refine SimI.run 4 [(52, .one (lb (decide ((0 : Int) ≤ a0.ID)))), (51, .one (lb (decide ((0 : Int) ≤ a0.ID)))), (50, .one (li .i64 a0.ID)), (49, .one (.ptr 1 1))] [] (by kernel_rfl) ?_
    refine SimI.split 52 (decide ((0 : Int) ≤ a0.ID)) (by kernel_rfl) ?_ ?_
    · refine SimI.run 5 [(57, .one (lb (decide (a0.ID ≤ 1000000)))), (56, .one (lb (decide (a0.ID ≤ 1000000)))), (55, .one (lb (decide (a0.ID ≤ 1000000)))), (54, .one (li .i64 a0.ID)), (53, .one (.ptr 1 1))] [] (by kernel_rfl) ?_
      refine SimI.split 57 (decide (a0.ID ≤ 1000000)) (by kernel_rfl) ?_ ?_
      · refine SimI.run 5 [(62, .one (lb (decide (((-1) : Int) ≤ a0.Which)))), (61, .one (lb (decide (((-1) : Int) ≤ a0.Which)))), (60, .one (lb (decide (((-1) : Int) ≤ a0.Which)))), (59, .one (li .i64 a0.Which)), (58, .one (.ptr 1 2))] [] (by kernel_rfl) ?_
        refine SimI.split 62 (decide (((-1) : Int) ≤ a0.Which)) (by kernel_rfl) ?_ ?_
        · refine SimI.run 5 [(67, .one (lb (decide (a0.Which ≤ 100)))), (66, .one (lb (decide (a0.Which ≤ 100)))), (65, .one (lb (decide (a0.Which ≤ 100)))), (64, .one (li .i64 a0.Which)), (63, .one (.ptr 1 2))] [] (by kernel_rfl) ?_
          refine SimI.split 67 (decide (a0.Which ≤ 100)) (by kernel_rfl) ?_ ?_
          · refine SimI.run 5 [(72, .one (lb (decide (((-1) : Int) ≤ a0.To)))), (71, .one (lb (decide (((-1) : Int) ≤ a0.To)))), (70, .one (lb (decide (((-1) : Int) ≤ a0.To)))), (69, .one (li .i64 a0.To)), (68, .one (.ptr 1 3))] [] (by kernel_rfl) ?_
            refine SimI.split 72 (decide (((-1) : Int) ≤ a0.To)) (by kernel_rfl) ?_ ?_
            · refine SimI.run 5 [(77, .one (lb (decide (a0.To ≤ 100)))), (76, .one (lb (decide (a0.To ≤ 100)))), (75, .one (lb (decide (a0.To ≤ 100)))), (74, .one (li .i64 a0.To)), (73, .one (.ptr 1 3))] [] (by kernel_rfl) ?_
              refine SimI.split 77 (decide (a0.To ≤ 100)) (by kernel_rfl) ?_ ?_
              · refine SimI.run 2 [(79, .agg [li .i64 a0.Value.N, ls a0.Value.Text]), (78, .one (.ptr 1 14))] [] (by kernel_rfl) ?_
                refine SimI.bind (og := F73 n a0.Value) { dst := some 80, op := POp.call true [[]] 73 [Operand.tmp 79], guard := some (77, true), hints := [] } (fun r10 => [(80, .one (lb r10))]) (fun r10 => []) (by kernel_rfl) (fun r10 hr => pOp_eff (by kernel_rfl) (by kernel_rfl) (eff_call (ARGS := [.agg [li .i64 a0.Value.N, ls a0.Value.Text]]) (by kernel_rfl) (args_clean (by kernel_rfl) args_nil) (F73_ok n a0.Value r10 hr) (by kernel_rfl))) (fun r10 => ?_)
                refine SimI.run 2 [(7, .one (lb r10)), (81, .one (lb r10))] [] (by kernel_rfl) ?_
                refine SimI.done (by kernel_rfl) ?_
                refine SimE.thenN ?_
                refine Sim.pre (ts := [1, 5, 6, 7]) (os := [1]) (ow := []) [(1, .one (.ptr 1 0)), (5, .one (lb b6)), (6, .one (lb b8)), (7, .one (lb r10))] [(1, some (.cells [li .i64 a0.Kind, li .i64 a0.ID, li .i64 a0.Which, li .i64 a0.To, li .i64 a0.At.X, li .i64 a0.At.Y, li .i64 a0.F.a0.N, ls a0.F.a0.Text, li .i64 a0.F.a1.N, ls a0.F.a1.Text, li .i64 a0.F.a2.N, ls a0.F.a2.Text, li .i64 a0.F.a3.N, ls a0.F.a3.Text, li .i64 a0.Value.N, ls a0.Value.Text, li .i64 a0.Client, li .i64 a0.Session, li .i64 a0.Rect.X0, li .i64 a0.Rect.Y0, li .i64 a0.Rect.X1, li .i64 a0.Rect.Y1]))] (by kernel_rfl) (by kernel_rfl) (by kernel_rfl) ?_
                exact F63_j12_ok n a0 b6 b8 r10
              · refine SimI.run 5 [(7, .one (lb false)), (81, .one (lb false)), (80, .tup []), (79, .tup []), (78, .tup [])] [] (by kernel_rfl) ?_
                refine SimI.done (by kernel_rfl) ?_
                refine SimE.thenN ?_
                refine Sim.pre (ts := [1, 5, 6, 7]) (os := [1]) (ow := []) [(1, .one (.ptr 1 0)), (5, .one (lb b6)), (6, .one (lb b8)), (7, .one (lb false))] [(1, some (.cells [li .i64 a0.Kind, li .i64 a0.ID, li .i64 a0.Which, li .i64 a0.To, li .i64 a0.At.X, li .i64 a0.At.Y, li .i64 a0.F.a0.N, ls a0.F.a0.Text, li .i64 a0.F.a1.N, ls a0.F.a1.Text, li .i64 a0.F.a2.N, ls a0.F.a2.Text, li .i64 a0.F.a3.N, ls a0.F.a3.Text, li .i64 a0.Value.N, ls a0.Value.Text, li .i64 a0.Client, li .i64 a0.Session, li .i64 a0.Rect.X0, li .i64 a0.Rect.Y0, li .i64 a0.Rect.X1, li .i64 a0.Rect.Y1]))] (by kernel_rfl) (by kernel_rfl) (by kernel_rfl) ?_
                exact F63_j12_ok n a0 b6 b8 false
            · refine SimI.run 10 [(7, .one (lb false)), (81, .one (lb false)), (80, .tup []), (79, .tup []), (78, .tup []), (77, .one (lb false)), (76, .one (lb false)), (75, .tup []), (74, .tup []), (73, .tup [])] [] (by kernel_rfl) ?_
              refine SimI.done (by kernel_rfl) ?_
              refine SimE.thenN ?_
              refine Sim.pre (ts := [1, 5, 6, 7]) (os := [1]) (ow := []) [(1, .one (.ptr 1 0)), (5, .one (lb b6)), (6, .one (lb b8)), (7, .one (lb false))] [(1, some (.cells [li .i64 a0.Kind, li .i64 a0.ID, li .i64 a0.Which, li .i64 a0.To, li .i64 a0.At.X, li .i64 a0.At.Y, li .i64 a0.F.a0.N, ls a0.F.a0.Text, li .i64 a0.F.a1.N, ls a0.F.a1.Text, li .i64 a0.F.a2.N, ls a0.F.a2.Text, li .i64 a0.F.a3.N, ls a0.F.a3.Text, li .i64 a0.Value.N, ls a0.Value.Text, li .i64 a0.Client, li .i64 a0.Session, li .i64 a0.Rect.X0, li .i64 a0.Rect.Y0, li .i64 a0.Rect.X1, li .i64 a0.Rect.Y1]))] (by kernel_rfl) (by kernel_rfl) (by kernel_rfl) ?_
              exact F63_j12_ok n a0 b6 b8 false
          · refine SimI.run 15 [(7, .one (lb false)), (81, .one (lb false)), (80, .tup []), (79, .tup []), (78, .tup []), (77, .one (lb false)), (76, .one (lb false)), (75, .tup []), (74, .tup []), (73, .tup []), (72, .one (lb false)), (71, .one (lb false)), (70, .tup []), (69, .tup []), (68, .tup [])] [] (by kernel_rfl) ?_
            refine SimI.done (by kernel_rfl) ?_
            refine SimE.thenN ?_
            refine Sim.pre (ts := [1, 5, 6, 7]) (os := [1]) (ow := []) [(1, .one (.ptr 1 0)), (5, .one (lb b6)), (6, .one (lb b8)), (7, .one (lb false))] [(1, some (.cells [li .i64 a0.Kind, li .i64 a0.ID, li .i64 a0.Which, li .i64 a0.To, li .i64 a0.At.X, li .i64 a0.At.Y, li .i64 a0.F.a0.N, ls a0.F.a0.Text, li .i64 a0.F.a1.N, ls a0.F.a1.Text, li .i64 a0.F.a2.N, ls a0.F.a2.Text, li .i64 a0.F.a3.N, ls a0.F.a3.Text, li .i64 a0.Value.N, ls a0.Value.Text, li .i64 a0.Client, li .i64 a0.Session, li .i64 a0.Rect.X0, li .i64 a0.Rect.Y0, li .i64 a0.Rect.X1, li .i64 a0.Rect.Y1]))] (by kernel_rfl) (by kernel_rfl) (by kernel_rfl) ?_
            exact F63_j12_ok n a0 b6 b8 false
        · refine SimI.run 20 [(7, .one (lb false)), (81, .one (lb false)), (80, .tup []), (79, .tup []), (78, .tup []), (77, .one (lb false)), (76, .one (lb false)), (75, .tup []), (74, .tup []), (73, .tup []), (72, .one (lb false)), (71, .one (lb false)), (70, .tup []), (69, .tup []), (68, .tup []), (67, .one (lb false)), (66, .one (lb false)), (65, .tup []), (64, .tup []), (63, .tup [])] [] (by kernel_rfl) ?_
          refine SimI.done (by kernel_rfl) ?_
          refine SimE.thenN ?_
          refine Sim.pre (ts := [1, 5, 6, 7]) (os := [1]) (ow := []) [(1, .one (.ptr 1 0)), (5, .one (lb b6)), (6, .one (lb b8)), (7, .one (lb false))] [(1, some (.cells [li .i64 a0.Kind, li .i64 a0.ID, li .i64 a0.Which, li .i64 a0.To, li .i64 a0.At.X, li .i64 a0.At.Y, li .i64 a0.F.a0.N, ls a0.F.a0.Text, li .i64 a0.F.a1.N, ls a0.F.a1.Text, li .i64 a0.F.a2.N, ls a0.F.a2.Text, li .i64 a0.F.a3.N, ls a0.F.a3.Text, li .i64 a0.Value.N, ls a0.Value.Text, li .i64 a0.Client, li .i64 a0.Session, li .i64 a0.Rect.X0, li .i64 a0.Rect.Y0, li .i64 a0.Rect.X1, li .i64 a0.Rect.Y1]))] (by kernel_rfl) (by kernel_rfl) (by kernel_rfl) ?_
          exact F63_j12_ok n a0 b6 b8 false
      · refine SimI.run 25 [(7, .one (lb false)), (81, .one (lb false)), (80, .tup []), (79, .tup []), (78, .tup []), (77, .one (lb false)), (76, .one (lb false)), (75, .tup []), (74, .tup []), (73, .tup []), (72, .one (lb false)), (71, .one (lb false)), (70, .tup []), (69, .tup []), (68, .tup []), (67, .one (lb false)), (66, .one (lb false)), (65, .tup []), (64, .tup []), (63, .tup []), (62, .one (lb false)), (61, .one (lb false)), (60, .tup []), (59, .tup []), (58, .tup [])] [] (by kernel_rfl) ?_
        refine SimI.done (by kernel_rfl) ?_
        refine SimE.thenN ?_
        refine Sim.pre (ts := [1, 5, 6, 7]) (os := [1]) (ow := []) [(1, .one (.ptr 1 0)), (5, .one (lb b6)), (6, .one (lb b8)), (7, .one (lb false))] [(1, some (.cells [li .i64 a0.Kind, li .i64 a0.ID, li .i64 a0.Which, li .i64 a0.To, li .i64 a0.At.X, li .i64 a0.At.Y, li .i64 a0.F.a0.N, ls a0.F.a0.Text, li .i64 a0.F.a1.N, ls a0.F.a1.Text, li .i64 a0.F.a2.N, ls a0.F.a2.Text, li .i64 a0.F.a3.N, ls a0.F.a3.Text, li .i64 a0.Value.N, ls a0.Value.Text, li .i64 a0.Client, li .i64 a0.Session, li .i64 a0.Rect.X0, li .i64 a0.Rect.Y0, li .i64 a0.Rect.X1, li .i64 a0.Rect.Y1]))] (by kernel_rfl) (by kernel_rfl) (by kernel_rfl) ?_
        exact F63_j12_ok n a0 b6 b8 false
    · refine SimI.run 30 [(7, .one (lb false)), (81, .one (lb false)), (80, .tup []), (79, .tup []), (78, .tup []), (77, .one (lb false)), (76, .one (lb false)), (75, .tup []), (74, .tup []), (73, .tup []), (72, .one (lb false)), (71, .one (lb false)), (70, .tup []), (69, .tup []), (68, .tup []), (67, .one (lb false)), (66, .one (lb false)), (65, .tup []), (64, .tup []), (63, .tup []), (62, .one (lb false)), (61, .one (lb false)), (60, .tup []), (59, .tup []), (58, .tup []), (57, .one (lb false)), (56, .one (lb false)), (55, .tup []), (54, .tup []), (53, .tup [])] [] (by kernel_rfl) ?_
      refine SimI.done (by kernel_rfl) ?_
      refine SimE.thenN ?_
      refine Sim.pre (ts := [1, 5, 6, 7]) (os := [1]) (ow := []) [(1, .one (.ptr 1 0)), (5, .one (lb b6)), (6, .one (lb b8)), (7, .one (lb false))] [(1, some (.cells [li .i64 a0.Kind, li .i64 a0.ID, li .i64 a0.Which, li .i64 a0.To, li .i64 a0.At.X, li .i64 a0.At.Y, li .i64 a0.F.a0.N, ls a0.F.a0.Text, li .i64 a0.F.a1.N, ls a0.F.a1.Text, li .i64 a0.F.a2.N, ls a0.F.a2.Text, li .i64 a0.F.a3.N, ls a0.F.a3.Text, li .i64 a0.Value.N, ls a0.Value.Text, li .i64 a0.Client, li .i64 a0.Session, li .i64 a0.Rect.X0, li .i64 a0.Rect.Y0, li .i64 a0.Rect.X1, li .i64 a0.Rect.Y1]))] (by kernel_rfl) (by kernel_rfl) (by kernel_rfl) ?_
      exact F63_j12_ok n a0 b6 b8 false

def F63_j7 (n : Nat) (a0 : Command) (b6 : Bool) : Option Bool :=
    if decide ((0 : Int) ≤ a0.Client) then
      if decide (a0.Client < 4) then
        if decide ((0 : Int) ≤ a0.Session) then
          F63_j9 n a0 b6 (decide (a0.Session ≤ 1000000))
        else
          F63_j9 n a0 b6 false
      else
        F63_j9 n a0 b6 false
    else
      F63_j9 n a0 b6 false
theorem F63_j7_ok (n : Nat) (a0 : Command) (b6 : Bool) : Sim Try.prog D (n + 8) pc63_c31 [(1, .one (.ptr 1 0)), (5, .one (lb b6))] [(1, some (.cells [li .i64 a0.Kind, li .i64 a0.ID, li .i64 a0.Which, li .i64 a0.To, li .i64 a0.At.X, li .i64 a0.At.Y, li .i64 a0.F.a0.N, ls a0.F.a0.Text, li .i64 a0.F.a1.N, ls a0.F.a1.Text, li .i64 a0.F.a2.N, ls a0.F.a2.Text, li .i64 a0.F.a3.N, ls a0.F.a3.Text, li .i64 a0.Value.N, ls a0.Value.Text, li .i64 a0.Client, li .i64 a0.Session, li .i64 a0.Rect.X0, li .i64 a0.Rect.Y0, li .i64 a0.Rect.X1, li .i64 a0.Rect.Y1]))] (F63_j7 n a0 b6) (QF false pc63_r 0 F63_e) := by
    unfold F63_j7
    refine Sim.seq ?_
    refine Sim.region [(1, .one (.ptr 1 0)), (5, .one (lb b6))] [(1, some (.cells [li .i64 a0.Kind, li .i64 a0.ID, li .i64 a0.Which, li .i64 a0.To, li .i64 a0.At.X, li .i64 a0.At.Y, li .i64 a0.F.a0.N, ls a0.F.a0.Text, li .i64 a0.F.a1.N, ls a0.F.a1.Text, li .i64 a0.F.a2.N, ls a0.F.a2.Text, li .i64 a0.F.a3.N, ls a0.F.a3.Text, li .i64 a0.Value.N, ls a0.Value.Text, li .i64 a0.Client, li .i64 a0.Session, li .i64 a0.Rect.X0, li .i64 a0.Rect.Y0, li .i64 a0.Rect.X1, li .i64 a0.Rect.Y1]))] (by kernel_rfl) ?_
    refine SimI.run 4 [(34, .one (lb (decide ((0 : Int) ≤ a0.Client)))), (33, .one (lb (decide ((0 : Int) ≤ a0.Client)))), (32, .one (li .i64 a0.Client)), (31, .one (.ptr 1 16))] [] (by kernel_rfl) ?_
    refine SimI.split 34 (decide ((0 : Int) ≤ a0.Client)) (by kernel_rfl) ?_ ?_
    · refine SimI.run 5 [(39, .one (lb (decide (a0.Client < 4)))), (38, .one (lb (decide (a0.Client < 4)))), (37, .one (lb (decide (a0.Client < 4)))), (36, .one (li .i64 a0.Client)), (35, .one (.ptr 1 16))] [] (by kernel_rfl) ?_
      refine SimI.split 39 (decide (a0.Client < 4)) (by kernel_rfl) ?_ ?_
      · refine SimI.run 5 [(44, .one (lb (decide ((0 : Int) ≤ a0.Session)))), (43, .one (lb (decide ((0 : Int) ≤ a0.Session)))), (42, .one (lb (decide ((0 : Int) ≤ a0.Session)))), (41, .one (li .i64 a0.Session)), (40, .one (.ptr 1 17))] [] (by kernel_rfl) ?_
        refine SimI.split 44 (decide ((0 : Int) ≤ a0.Session)) (by kernel_rfl) ?_ ?_
        · refine SimI.run 5 [(6, .one (lb (decide (a0.Session ≤ 1000000)))), (48, .one (lb (decide (a0.Session ≤ 1000000)))), (47, .one (lb (decide (a0.Session ≤ 1000000)))), (46, .one (li .i64 a0.Session)), (45, .one (.ptr 1 17))] [] (by kernel_rfl) ?_
          refine SimI.done (by kernel_rfl) ?_
          refine SimE.thenN ?_
          refine Sim.pre (ts := [1, 5, 6]) (os := [1]) (ow := []) [(1, .one (.ptr 1 0)), (5, .one (lb b6)), (6, .one (lb (decide (a0.Session ≤ 1000000))))] [(1, some (.cells [li .i64 a0.Kind, li .i64 a0.ID, li .i64 a0.Which, li .i64 a0.To, li .i64 a0.At.X, li .i64 a0.At.Y, li .i64 a0.F.a0.N, ls a0.F.a0.Text, li .i64 a0.F.a1.N, ls a0.F.a1.Text, li .i64 a0.F.a2.N, ls a0.F.a2.Text, li .i64 a0.F.a3.N, ls a0.F.a3.Text, li .i64 a0.Value.N, ls a0.Value.Text, li .i64 a0.Client, li .i64 a0.Session, li .i64 a0.Rect.X0, li .i64 a0.Rect.Y0, li .i64 a0.Rect.X1, li .i64 a0.Rect.Y1]))] (by kernel_rfl) (by kernel_rfl) (by kernel_rfl) ?_
          exact F63_j9_ok n a0 b6 (decide (a0.Session ≤ 1000000))
        · refine SimI.run 5 [(6, .one (lb false)), (48, .one (lb false)), (47, .tup []), (46, .tup []), (45, .tup [])] [] (by kernel_rfl) ?_
          refine SimI.done (by kernel_rfl) ?_
          refine SimE.thenN ?_
          refine Sim.pre (ts := [1, 5, 6]) (os := [1]) (ow := []) [(1, .one (.ptr 1 0)), (5, .one (lb b6)), (6, .one (lb false))] [(1, some (.cells [li .i64 a0.Kind, li .i64 a0.ID, li .i64 a0.Which, li .i64 a0.To, li .i64 a0.At.X, li .i64 a0.At.Y, li .i64 a0.F.a0.N, ls a0.F.a0.Text, li .i64 a0.F.a1.N, ls a0.F.a1.Text, li .i64 a0.F.a2.N, ls a0.F.a2.Text, li .i64 a0.F.a3.N, ls a0.F.a3.Text, li .i64 a0.Value.N, ls a0.Value.Text, li .i64 a0.Client, li .i64 a0.Session, li .i64 a0.Rect.X0, li .i64 a0.Rect.Y0, li .i64 a0.Rect.X1, li .i64 a0.Rect.Y1]))] (by kernel_rfl) (by kernel_rfl) (by kernel_rfl) ?_
          exact F63_j9_ok n a0 b6 false
      · refine SimI.run 10 [(6, .one (lb false)), (48, .one (lb false)), (47, .tup []), (46, .tup []), (45, .tup []), (44, .one (lb false)), (43, .one (lb false)), (42, .tup []), (41, .tup []), (40, .tup [])] [] (by kernel_rfl) ?_
        refine SimI.done (by kernel_rfl) ?_
        refine SimE.thenN ?_
        refine Sim.pre (ts := [1, 5, 6]) (os := [1]) (ow := []) [(1, .one (.ptr 1 0)), (5, .one (lb b6)), (6, .one (lb false))] [(1, some (.cells [li .i64 a0.Kind, li .i64 a0.ID, li .i64 a0.Which, li .i64 a0.To, li .i64 a0.At.X, li .i64 a0.At.Y, li .i64 a0.F.a0.N, ls a0.F.a0.Text, li .i64 a0.F.a1.N, ls a0.F.a1.Text, li .i64 a0.F.a2.N, ls a0.F.a2.Text, li .i64 a0.F.a3.N, ls a0.F.a3.Text, li .i64 a0.Value.N, ls a0.Value.Text, li .i64 a0.Client, li .i64 a0.Session, li .i64 a0.Rect.X0, li .i64 a0.Rect.Y0, li .i64 a0.Rect.X1, li .i64 a0.Rect.Y1]))] (by kernel_rfl) (by kernel_rfl) (by kernel_rfl) ?_
        exact F63_j9_ok n a0 b6 false
    · refine SimI.run 15 [(6, .one (lb false)), (48, .one (lb false)), (47, .tup []), (46, .tup []), (45, .tup []), (44, .one (lb false)), (43, .one (lb false)), (42, .tup []), (41, .tup []), (40, .tup []), (39, .one (lb false)), (38, .one (lb false)), (37, .tup []), (36, .tup []), (35, .tup [])] [] (by kernel_rfl) ?_
      refine SimI.done (by kernel_rfl) ?_
      refine SimE.thenN ?_
      refine Sim.pre (ts := [1, 5, 6]) (os := [1]) (ow := []) [(1, .one (.ptr 1 0)), (5, .one (lb b6)), (6, .one (lb false))] [(1, some (.cells [li .i64 a0.Kind, li .i64 a0.ID, li .i64 a0.Which, li .i64 a0.To, li .i64 a0.At.X, li .i64 a0.At.Y, li .i64 a0.F.a0.N, ls a0.F.a0.Text, li .i64 a0.F.a1.N, ls a0.F.a1.Text, li .i64 a0.F.a2.N, ls a0.F.a2.Text, li .i64 a0.F.a3.N, ls a0.F.a3.Text, li .i64 a0.Value.N, ls a0.Value.Text, li .i64 a0.Client, li .i64 a0.Session, li .i64 a0.Rect.X0, li .i64 a0.Rect.Y0, li .i64 a0.Rect.X1, li .i64 a0.Rect.Y1]))] (by kernel_rfl) (by kernel_rfl) (by kernel_rfl) ?_
      exact F63_j9_ok n a0 b6 false

def F63 (n : Nat) (a0 : Command) : Option Bool :=
  (F73 n a0.F.a0).bind fun (r1 : Bool) =>
  if !(r1) then
    some false
  else
    (F73 n a0.F.a1).bind fun (r2 : Bool) =>
    if !(r2) then
      some false
    else
      (F73 n a0.F.a2).bind fun (r3 : Bool) =>
      if !(r3) then
        some false
      else
        (F73 n a0.F.a3).bind fun (r4 : Bool) =>
        if !(r4) then
          some false
        else
          if decide ((1 : Int) ≤ a0.Kind) then
            if decide (a0.Kind ≤ 8) then
              (F74 n a0).bind fun (r5 : Command) =>
              F63_j7 n a0 (Command.eqb a0 r5)
            else
              F63_j7 n a0 false
          else
            F63_j7 n a0 false
theorem F63_ok (n : Nat) (a0 : Command) : ∀ r, F63 n a0 = some r → D 63 [.agg [li .i64 a0.Kind, li .i64 a0.ID, li .i64 a0.Which, li .i64 a0.To, li .i64 a0.At.X, li .i64 a0.At.Y, li .i64 a0.F.a0.N, ls a0.F.a0.Text, li .i64 a0.F.a1.N, ls a0.F.a1.Text, li .i64 a0.F.a2.N, ls a0.F.a2.Text, li .i64 a0.F.a3.N, ls a0.F.a3.Text, li .i64 a0.Value.N, ls a0.Value.Text, li .i64 a0.Client, li .i64 a0.Session, li .i64 a0.Rect.X0, li .i64 a0.Rect.Y0, li .i64 a0.Rect.X1, li .i64 a0.Rect.Y1]] [] = some (F63_e r) := by
  refine fn_to (D := D) (n := n + 8) (nt := 111) (rs := pc63_r) (c := pc63_c34) (L := [(0, .agg [li .i64 a0.Kind, li .i64 a0.ID, li .i64 a0.Which, li .i64 a0.To, li .i64 a0.At.X, li .i64 a0.At.Y, li .i64 a0.F.a0.N, ls a0.F.a0.Text, li .i64 a0.F.a1.N, ls a0.F.a1.Text, li .i64 a0.F.a2.N, ls a0.F.a2.Text, li .i64 a0.F.a3.N, ls a0.F.a3.Text, li .i64 a0.Value.N, ls a0.Value.Text, li .i64 a0.Client, li .i64 a0.Session, li .i64 a0.Rect.X0, li .i64 a0.Rect.Y0, li .i64 a0.Rect.X1, li .i64 a0.Rect.Y1])]) (M := []) (k := 0) rfl rfl rfl rfl rfl rfl rfl ?_
  unfold F63
  refine Sim.seq ?_
  refine Sim.region0 ?_
  refine SimI.run 2 [(2, .one (lb false)), (1, .one (.ptr 1 0))] [(1, some (.cells [li .i64 a0.Kind, li .i64 a0.ID, li .i64 a0.Which, li .i64 a0.To, li .i64 a0.At.X, li .i64 a0.At.Y, li .i64 a0.F.a0.N, ls a0.F.a0.Text, li .i64 a0.F.a1.N, ls a0.F.a1.Text, li .i64 a0.F.a2.N, ls a0.F.a2.Text, li .i64 a0.F.a3.N, ls a0.F.a3.Text, li .i64 a0.Value.N, ls a0.Value.Text, li .i64 a0.Client, li .i64 a0.Session, li .i64 a0.Rect.X0, li .i64 a0.Rect.Y0, li .i64 a0.Rect.X1, li .i64 a0.Rect.Y1]))] (by kernel_rfl) ?_
  refine SimI.done (by kernel_rfl) ?_
  refine SimE.thenN ?_
  refine Sim.seq ?_
  refine Sim.seq ?_
  refine Sim.region0 ?_
  refine SimI.run 3 [(10, .one (li .i64 0)), (9, .agg [li .i64 a0.F.a0.N, ls a0.F.a0.Text, li .i64 a0.F.a1.N, ls a0.F.a1.Text, li .i64 a0.F.a2.N, ls a0.F.a2.Text, li .i64 a0.F.a3.N, ls a0.F.a3.Text]), (8, .one (.ptr 1 6))] [] (by kernel_rfl) ?_
  refine SimI.done (by kernel_rfl) ?_
  refine SimE.thenN ?_
  refine Sim.block ?_
  refine Sim.loop ?_
  refine SimL.succ ?_
  refine Sim.seq ?_
  refine Sim.region [(1, .one (.ptr 1 0)), (9, .agg [li .i64 a0.F.a0.N, ls a0.F.a0.Text, li .i64 a0.F.a1.N, ls a0.F.a1.Text, li .i64 a0.F.a2.N, ls a0.F.a2.Text, li .i64 a0.F.a3.N, ls a0.F.a3.Text]), (10, .one (li .i64 0))] [(1, some (.cells [li .i64 a0.Kind, li .i64 a0.ID, li .i64 a0.Which, li .i64 a0.To, li .i64 a0.At.X, li .i64 a0.At.Y, li .i64 a0.F.a0.N, ls a0.F.a0.Text, li .i64 a0.F.a1.N, ls a0.F.a1.Text, li .i64 a0.F.a2.N, ls a0.F.a2.Text, li .i64 a0.F.a3.N, ls a0.F.a3.Text, li .i64 a0.Value.N, ls a0.Value.Text, li .i64 a0.Client, li .i64 a0.Session, li .i64 a0.Rect.X0, li .i64 a0.Rect.Y0, li .i64 a0.Rect.X1, li .i64 a0.Rect.Y1]))] (by kernel_rfl) ?_
  refine SimI.run 1 [(11, .one (lb true))] [] (by kernel_rfl) ?_
  refine SimI.done (by kernel_rfl) ?_
  refine SimE.thenN ?_
  refine Sim.seq ?_
  refine Sim.condT (by kernel_rfl) ?_
  refine Sim.skip ?_
  refine SimE.thenN ?_
  refine Sim.seq ?_
  refine Sim.block ?_
  refine Sim.seq ?_
  refine Sim.region0 ?_
  refine SimI.run 3 [(4, .one (.ptr 4 0)), (12, .agg [li .i64 a0.F.a0.N, ls a0.F.a0.Text])] [(4, some (.cells [li .i64 a0.F.a0.N, ls a0.F.a0.Text])), (4, some (.cells [li .i64 0, ls ByteArray.empty]))] (by kernel_rfl) ?_
  refine SimI.done (by kernel_rfl) ?_
  refine SimE.thenN ?_
  refine Sim.seq ?_
  refine Sim.region0 ?_
  refine SimI.run 1 [(13, .agg [li .i64 a0.F.a0.N, ls a0.F.a0.Text])] [] (by kernel_rfl) ?_
  refine SimI.bind (og := F73 n a0.F.a0) { dst := some 14, op := POp.call true [[]] 73 [Operand.tmp 13], guard := none, hints := [] } (fun r1 => [(14, .one (lb r1))]) (fun r1 => []) (by kernel_rfl) (fun r1 hr => pOp_eff (by kernel_rfl) (by kernel_rfl) (eff_call (ARGS := [.agg [li .i64 a0.F.a0.N, ls a0.F.a0.Text]]) (by kernel_rfl) (args_clean (by kernel_rfl) args_nil) (F73_ok n a0.F.a0 r1 hr) (by kernel_rfl))) (fun r1 => ?_)
  refine SimI.run 1 [(15, .one (lb (!(r1))))] [] (by kernel_rfl) ?_
  refine SimI.done (by kernel_rfl) ?_
  refine SimE.thenN ?_
  refine Sim.cond (!(r1)) (by kernel_rfl) ?_ ?_
  · refine Sim.seq ?_
    refine Sim.region0 ?_
    refine SimI.run 1 [(2, .one (lb false))] [] (by kernel_rfl) ?_
    refine SimI.done (by kernel_rfl) ?_
    refine SimE.thenN ?_
    refine Sim.ret ?_
    refine SimE.blockR ?_
    refine SimE.thenR ?_
    refine SimE.loopR ?_
    refine SimE.blockR ?_
    refine SimE.thenR ?_
    exact SimE.fin (by kernel_rfl)
  · refine Sim.skip ?_
    refine SimE.blockN ?_
    refine SimE.thenN ?_
    refine Sim.region0 ?_
    refine SimI.run 2 [(10, .one (li .i64 1)), (16, .one (li .i64 1))] [] (by kernel_rfl) ?_
    refine SimI.done (by kernel_rfl) ?_
    refine SimE.loopN ?_
    refine SimL.succ ?_
    refine Sim.seq ?_
    refine Sim.region [(1, .one (.ptr 1 0)), (9, .agg [li .i64 a0.F.a0.N, ls a0.F.a0.Text, li .i64 a0.F.a1.N, ls a0.F.a1.Text, li .i64 a0.F.a2.N, ls a0.F.a2.Text, li .i64 a0.F.a3.N, ls a0.F.a3.Text]), (10, .one (li .i64 1))] [(1, some (.cells [li .i64 a0.Kind, li .i64 a0.ID, li .i64 a0.Which, li .i64 a0.To, li .i64 a0.At.X, li .i64 a0.At.Y, li .i64 a0.F.a0.N, ls a0.F.a0.Text, li .i64 a0.F.a1.N, ls a0.F.a1.Text, li .i64 a0.F.a2.N, ls a0.F.a2.Text, li .i64 a0.F.a3.N, ls a0.F.a3.Text, li .i64 a0.Value.N, ls a0.Value.Text, li .i64 a0.Client, li .i64 a0.Session, li .i64 a0.Rect.X0, li .i64 a0.Rect.Y0, li .i64 a0.Rect.X1, li .i64 a0.Rect.Y1]))] (by kernel_rfl) ?_
    refine SimI.run 1 [(11, .one (lb true))] [] (by kernel_rfl) ?_
    refine SimI.done (by kernel_rfl) ?_
    refine SimE.thenN ?_
    refine Sim.seq ?_
    refine Sim.condT (by kernel_rfl) ?_
    refine Sim.skip ?_
    refine SimE.thenN ?_
    refine Sim.seq ?_
    refine Sim.block ?_
    refine Sim.seq ?_
    refine Sim.region0 ?_
    refine SimI.run 3 [(4, .one (.ptr 4 0)), (12, .agg [li .i64 a0.F.a1.N, ls a0.F.a1.Text])] [(4, some (.cells [li .i64 a0.F.a1.N, ls a0.F.a1.Text])), (4, some (.cells [li .i64 0, ls ByteArray.empty]))] (by kernel_rfl) ?_
    refine SimI.done (by kernel_rfl) ?_
    refine SimE.thenN ?_
    refine Sim.seq ?_
    refine Sim.region0 ?_
    refine SimI.run 1 [(13, .agg [li .i64 a0.F.a1.N, ls a0.F.a1.Text])] [] (by kernel_rfl) ?_
    refine SimI.bind (og := F73 n a0.F.a1) { dst := some 14, op := POp.call true [[]] 73 [Operand.tmp 13], guard := none, hints := [] } (fun r2 => [(14, .one (lb r2))]) (fun r2 => []) (by kernel_rfl) (fun r2 hr => pOp_eff (by kernel_rfl) (by kernel_rfl) (eff_call (ARGS := [.agg [li .i64 a0.F.a1.N, ls a0.F.a1.Text]]) (by kernel_rfl) (args_clean (by kernel_rfl) args_nil) (F73_ok n a0.F.a1 r2 hr) (by kernel_rfl))) (fun r2 => ?_)
    refine SimI.run 1 [(15, .one (lb (!(r2))))] [] (by kernel_rfl) ?_
    refine SimI.done (by kernel_rfl) ?_
    refine SimE.thenN ?_
    refine Sim.cond (!(r2)) (by kernel_rfl) ?_ ?_
    · refine Sim.seq ?_
      refine Sim.region0 ?_
      refine SimI.run 1 [(2, .one (lb false))] [] (by kernel_rfl) ?_
      refine SimI.done (by kernel_rfl) ?_
      refine SimE.thenN ?_
      refine Sim.ret ?_
      refine SimE.blockR ?_
      refine SimE.thenR ?_
      refine SimE.loopR ?_
      refine SimE.blockR ?_
      refine SimE.thenR ?_
      exact SimE.fin (by kernel_rfl)
    · refine Sim.skip ?_
      refine SimE.blockN ?_
      refine SimE.thenN ?_
      refine Sim.region0 ?_
      refine SimI.run 2 [(10, .one (li .i64 2)), (16, .one (li .i64 2))] [] (by kernel_rfl) ?_
      refine SimI.done (by kernel_rfl) ?_
      refine SimE.loopN ?_
      refine SimL.succ ?_
      refine Sim.seq ?_
      refine Sim.region [(1, .one (.ptr 1 0)), (9, .agg [li .i64 a0.F.a0.N, ls a0.F.a0.Text, li .i64 a0.F.a1.N, ls a0.F.a1.Text, li .i64 a0.F.a2.N, ls a0.F.a2.Text, li .i64 a0.F.a3.N, ls a0.F.a3.Text]), (10, .one (li .i64 2))] [(1, some (.cells [li .i64 a0.Kind, li .i64 a0.ID, li .i64 a0.Which, li .i64 a0.To, li .i64 a0.At.X, li .i64 a0.At.Y, li .i64 a0.F.a0.N, ls a0.F.a0.Text, li .i64 a0.F.a1.N, ls a0.F.a1.Text, li .i64 a0.F.a2.N, ls a0.F.a2.Text, li .i64 a0.F.a3.N, ls a0.F.a3.Text, li .i64 a0.Value.N, ls a0.Value.Text, li .i64 a0.Client, li .i64 a0.Session, li .i64 a0.Rect.X0, li .i64 a0.Rect.Y0, li .i64 a0.Rect.X1, li .i64 a0.Rect.Y1]))] (by kernel_rfl) ?_
      refine SimI.run 1 [(11, .one (lb true))] [] (by kernel_rfl) ?_
      refine SimI.done (by kernel_rfl) ?_
      refine SimE.thenN ?_
      refine Sim.seq ?_
      refine Sim.condT (by kernel_rfl) ?_
      refine Sim.skip ?_
      refine SimE.thenN ?_
      refine Sim.seq ?_
      refine Sim.block ?_
      refine Sim.seq ?_
      refine Sim.region0 ?_
      refine SimI.run 3 [(4, .one (.ptr 4 0)), (12, .agg [li .i64 a0.F.a2.N, ls a0.F.a2.Text])] [(4, some (.cells [li .i64 a0.F.a2.N, ls a0.F.a2.Text])), (4, some (.cells [li .i64 0, ls ByteArray.empty]))] (by kernel_rfl) ?_
      refine SimI.done (by kernel_rfl) ?_
      refine SimE.thenN ?_
      refine Sim.seq ?_
      refine Sim.region0 ?_
      refine SimI.run 1 [(13, .agg [li .i64 a0.F.a2.N, ls a0.F.a2.Text])] [] (by kernel_rfl) ?_
      refine SimI.bind (og := F73 n a0.F.a2) { dst := some 14, op := POp.call true [[]] 73 [Operand.tmp 13], guard := none, hints := [] } (fun r3 => [(14, .one (lb r3))]) (fun r3 => []) (by kernel_rfl) (fun r3 hr => pOp_eff (by kernel_rfl) (by kernel_rfl) (eff_call (ARGS := [.agg [li .i64 a0.F.a2.N, ls a0.F.a2.Text]]) (by kernel_rfl) (args_clean (by kernel_rfl) args_nil) (F73_ok n a0.F.a2 r3 hr) (by kernel_rfl))) (fun r3 => ?_)
      refine SimI.run 1 [(15, .one (lb (!(r3))))] [] (by kernel_rfl) ?_
      refine SimI.done (by kernel_rfl) ?_
      refine SimE.thenN ?_
      refine Sim.cond (!(r3)) (by kernel_rfl) ?_ ?_
      · refine Sim.seq ?_
        refine Sim.region0 ?_
        refine SimI.run 1 [(2, .one (lb false))] [] (by kernel_rfl) ?_
        refine SimI.done (by kernel_rfl) ?_
        refine SimE.thenN ?_
        refine Sim.ret ?_
        refine SimE.blockR ?_
        refine SimE.thenR ?_
        refine SimE.loopR ?_
        refine SimE.blockR ?_
        refine SimE.thenR ?_
        exact SimE.fin (by kernel_rfl)
      · refine Sim.skip ?_
        refine SimE.blockN ?_
        refine SimE.thenN ?_
        refine Sim.region0 ?_
        refine SimI.run 2 [(10, .one (li .i64 3)), (16, .one (li .i64 3))] [] (by kernel_rfl) ?_
        refine SimI.done (by kernel_rfl) ?_
        refine SimE.loopN ?_
        refine SimL.succ ?_
        refine Sim.seq ?_
        refine Sim.region [(1, .one (.ptr 1 0)), (9, .agg [li .i64 a0.F.a0.N, ls a0.F.a0.Text, li .i64 a0.F.a1.N, ls a0.F.a1.Text, li .i64 a0.F.a2.N, ls a0.F.a2.Text, li .i64 a0.F.a3.N, ls a0.F.a3.Text]), (10, .one (li .i64 3))] [(1, some (.cells [li .i64 a0.Kind, li .i64 a0.ID, li .i64 a0.Which, li .i64 a0.To, li .i64 a0.At.X, li .i64 a0.At.Y, li .i64 a0.F.a0.N, ls a0.F.a0.Text, li .i64 a0.F.a1.N, ls a0.F.a1.Text, li .i64 a0.F.a2.N, ls a0.F.a2.Text, li .i64 a0.F.a3.N, ls a0.F.a3.Text, li .i64 a0.Value.N, ls a0.Value.Text, li .i64 a0.Client, li .i64 a0.Session, li .i64 a0.Rect.X0, li .i64 a0.Rect.Y0, li .i64 a0.Rect.X1, li .i64 a0.Rect.Y1]))] (by kernel_rfl) ?_
        refine SimI.run 1 [(11, .one (lb true))] [] (by kernel_rfl) ?_
        refine SimI.done (by kernel_rfl) ?_
        refine SimE.thenN ?_
        refine Sim.seq ?_
        refine Sim.condT (by kernel_rfl) ?_
        refine Sim.skip ?_
        refine SimE.thenN ?_
        refine Sim.seq ?_
        refine Sim.block ?_
        refine Sim.seq ?_
        refine Sim.region0 ?_
        refine SimI.run 3 [(4, .one (.ptr 4 0)), (12, .agg [li .i64 a0.F.a3.N, ls a0.F.a3.Text])] [(4, some (.cells [li .i64 a0.F.a3.N, ls a0.F.a3.Text])), (4, some (.cells [li .i64 0, ls ByteArray.empty]))] (by kernel_rfl) ?_
        refine SimI.done (by kernel_rfl) ?_
        refine SimE.thenN ?_
        refine Sim.seq ?_
        refine Sim.region0 ?_
        refine SimI.run 1 [(13, .agg [li .i64 a0.F.a3.N, ls a0.F.a3.Text])] [] (by kernel_rfl) ?_
        refine SimI.bind (og := F73 n a0.F.a3) { dst := some 14, op := POp.call true [[]] 73 [Operand.tmp 13], guard := none, hints := [] } (fun r4 => [(14, .one (lb r4))]) (fun r4 => []) (by kernel_rfl) (fun r4 hr => pOp_eff (by kernel_rfl) (by kernel_rfl) (eff_call (ARGS := [.agg [li .i64 a0.F.a3.N, ls a0.F.a3.Text]]) (by kernel_rfl) (args_clean (by kernel_rfl) args_nil) (F73_ok n a0.F.a3 r4 hr) (by kernel_rfl))) (fun r4 => ?_)
        refine SimI.run 1 [(15, .one (lb (!(r4))))] [] (by kernel_rfl) ?_
        refine SimI.done (by kernel_rfl) ?_
        refine SimE.thenN ?_
        refine Sim.cond (!(r4)) (by kernel_rfl) ?_ ?_
        · refine Sim.seq ?_
          refine Sim.region0 ?_
          refine SimI.run 1 [(2, .one (lb false))] [] (by kernel_rfl) ?_
          refine SimI.done (by kernel_rfl) ?_
          refine SimE.thenN ?_
          refine Sim.ret ?_
          refine SimE.blockR ?_
          refine SimE.thenR ?_
          refine SimE.loopR ?_
          refine SimE.blockR ?_
          refine SimE.thenR ?_
          exact SimE.fin (by kernel_rfl)
        · refine Sim.skip ?_
          refine SimE.blockN ?_
          refine SimE.thenN ?_
          refine Sim.region0 ?_
          refine SimI.run 2 [(10, .one (li .i64 4)), (16, .one (li .i64 4))] [] (by kernel_rfl) ?_
          refine SimI.done (by kernel_rfl) ?_
          refine SimE.loopN ?_
          refine SimL.succ ?_
          refine Sim.seq ?_
          refine Sim.region [(1, .one (.ptr 1 0)), (9, .agg [li .i64 a0.F.a0.N, ls a0.F.a0.Text, li .i64 a0.F.a1.N, ls a0.F.a1.Text, li .i64 a0.F.a2.N, ls a0.F.a2.Text, li .i64 a0.F.a3.N, ls a0.F.a3.Text]), (10, .one (li .i64 4))] [(1, some (.cells [li .i64 a0.Kind, li .i64 a0.ID, li .i64 a0.Which, li .i64 a0.To, li .i64 a0.At.X, li .i64 a0.At.Y, li .i64 a0.F.a0.N, ls a0.F.a0.Text, li .i64 a0.F.a1.N, ls a0.F.a1.Text, li .i64 a0.F.a2.N, ls a0.F.a2.Text, li .i64 a0.F.a3.N, ls a0.F.a3.Text, li .i64 a0.Value.N, ls a0.Value.Text, li .i64 a0.Client, li .i64 a0.Session, li .i64 a0.Rect.X0, li .i64 a0.Rect.Y0, li .i64 a0.Rect.X1, li .i64 a0.Rect.Y1]))] (by kernel_rfl) ?_
          refine SimI.run 1 [(11, .one (lb false))] [] (by kernel_rfl) ?_
          refine SimI.done (by kernel_rfl) ?_
          refine SimE.thenN ?_
          refine Sim.seq ?_
          refine Sim.condF (by kernel_rfl) ?_
          refine Sim.exit ?_
          refine SimE.thenX ?_
          refine SimE.loopX ?_
          refine SimE.blockX ?_
          refine SimE.thenN ?_
          refine Sim.seq ?_
          refine Sim.region0 ?_
          refine SimI.run 4 [(20, .one (lb (decide ((1 : Int) ≤ a0.Kind)))), (19, .one (lb (decide ((1 : Int) ≤ a0.Kind)))), (18, .one (li .i64 a0.Kind)), (17, .one (.ptr 1 0))] [] (by kernel_rfl) ?_
          refine SimI.split 20 (decide ((1 : Int) ≤ a0.Kind)) (by kernel_rfl) ?_ ?_
          · refine SimI.run 5 [(25, .one (lb (decide (a0.Kind ≤ 8)))), (24, .one (lb (decide (a0.Kind ≤ 8)))), (23, .one (lb (decide (a0.Kind ≤ 8)))), (22, .one (li .i64 a0.Kind)), (21, .one (.ptr 1 0))] [] (by kernel_rfl) ?_
            refine SimI.split 25 (decide (a0.Kind ≤ 8)) (by kernel_rfl) ?_ ?_
            · refine SimI.run 2 [(27, .agg [li .i64 a0.Kind, li .i64 a0.ID, li .i64 a0.Which, li .i64 a0.To, li .i64 a0.At.X, li .i64 a0.At.Y, li .i64 a0.F.a0.N, ls a0.F.a0.Text, li .i64 a0.F.a1.N, ls a0.F.a1.Text, li .i64 a0.F.a2.N, ls a0.F.a2.Text, li .i64 a0.F.a3.N, ls a0.F.a3.Text, li .i64 a0.Value.N, ls a0.Value.Text, li .i64 a0.Client, li .i64 a0.Session, li .i64 a0.Rect.X0, li .i64 a0.Rect.Y0, li .i64 a0.Rect.X1, li .i64 a0.Rect.Y1]), (26, .agg [li .i64 a0.Kind, li .i64 a0.ID, li .i64 a0.Which, li .i64 a0.To, li .i64 a0.At.X, li .i64 a0.At.Y, li .i64 a0.F.a0.N, ls a0.F.a0.Text, li .i64 a0.F.a1.N, ls a0.F.a1.Text, li .i64 a0.F.a2.N, ls a0.F.a2.Text, li .i64 a0.F.a3.N, ls a0.F.a3.Text, li .i64 a0.Value.N, ls a0.Value.Text, li .i64 a0.Client, li .i64 a0.Session, li .i64 a0.Rect.X0, li .i64 a0.Rect.Y0, li .i64 a0.Rect.X1, li .i64 a0.Rect.Y1])] [] (by kernel_rfl) ?_
              refine SimI.bind (og := F74 n a0) { dst := some 28, op := POp.call false [[]] 74 [Operand.tmp 27], guard := some (25, true), hints := [(27, Hint.imm)] } (fun r5 => [(28, .agg [li .i64 r5.Kind, li .i64 r5.ID, li .i64 r5.Which, li .i64 r5.To, li .i64 r5.At.X, li .i64 r5.At.Y, li .i64 r5.F.a0.N, ls r5.F.a0.Text, li .i64 r5.F.a1.N, ls r5.F.a1.Text, li .i64 r5.F.a2.N, ls r5.F.a2.Text, li .i64 r5.F.a3.N, ls r5.F.a3.Text, li .i64 r5.Value.N, ls r5.Value.Text, li .i64 r5.Client, li .i64 r5.Session, li .i64 r5.Rect.X0, li .i64 r5.Rect.Y0, li .i64 r5.Rect.X1, li .i64 r5.Rect.Y1])]) (fun r5 => []) (by kernel_rfl) (fun r5 hr => pOp_eff (by kernel_rfl) (by kernel_rfl) (eff_call (ARGS := [.agg [li .i64 a0.Kind, li .i64 a0.ID, li .i64 a0.Which, li .i64 a0.To, li .i64 a0.At.X, li .i64 a0.At.Y, li .i64 a0.F.a0.N, ls a0.F.a0.Text, li .i64 a0.F.a1.N, ls a0.F.a1.Text, li .i64 a0.F.a2.N, ls a0.F.a2.Text, li .i64 a0.F.a3.N, ls a0.F.a3.Text, li .i64 a0.Value.N, ls a0.Value.Text, li .i64 a0.Client, li .i64 a0.Session, li .i64 a0.Rect.X0, li .i64 a0.Rect.Y0, li .i64 a0.Rect.X1, li .i64 a0.Rect.Y1]]) (by kernel_rfl) (args_clean (by kernel_rfl) args_nil) (F74_ok n a0 r5 hr) (by kernel_rfl))) (fun r5 => ?_)
              refine SimI.step { dst := some 29, op := POp.prim (Prim.bin BinOp.eql 74 false false) [Operand.tmp 26, Operand.tmp 28], guard := some (25, true), hints := [(26, Hint.imm), (28, Hint.imm)] } [(29, .one (lb (Command.eqb a0 r5)))] [] (by kernel_rfl) (pOp_eff (by kernel_rfl) (by kernel_rfl) (eff_prim (by kernel_rfl) (Command_eql a0 r5 _ _))) ?_
              refine SimI.run 2 [(5, .one (lb (Command.eqb a0 r5))), (30, .one (lb (Command.eqb a0 r5)))] [] (by kernel_rfl) ?_
              refine SimI.done (by kernel_rfl) ?_
              refine SimE.thenN ?_
              refine Sim.pre (ts := [1, 5]) (os := [1]) (ow := []) [(1, .one (.ptr 1 0)), (5, .one (lb (Command.eqb a0 r5)))] [(1, some (.cells [li .i64 a0.Kind, li .i64 a0.ID, li .i64 a0.Which, li .i64 a0.To, li .i64 a0.At.X, li .i64 a0.At.Y, li .i64 a0.F.a0.N, ls a0.F.a0.Text, li .i64 a0.F.a1.N, ls a0.F.a1.Text, li .i64 a0.F.a2.N, ls a0.F.a2.Text, li .i64 a0.F.a3.N, ls a0.F.a3.Text, li .i64 a0.Value.N, ls a0.Value.Text, li .i64 a0.Client, li .i64 a0.Session, li .i64 a0.Rect.X0, li .i64 a0.Rect.Y0, li .i64 a0.Rect.X1, li .i64 a0.Rect.Y1]))] (by kernel_rfl) (by kernel_rfl) (by kernel_rfl) ?_
              exact F63_j7_ok n a0 (Command.eqb a0 r5)
            · refine SimI.run 6 [(5, .one (lb false)), (30, .one (lb false)), (29, .tup []), (28, .tup []), (27, .tup []), (26, .tup [])] [] (by kernel_rfl) ?_
              refine SimI.done (by kernel_rfl) ?_
              refine SimE.thenN ?_
              refine Sim.pre (ts := [1, 5]) (os := [1]) (ow := []) [(1, .one (.ptr 1 0)), (5, .one (lb false))] [(1, some (.cells [li .i64 a0.Kind, li .i64 a0.ID, li .i64 a0.Which, li .i64 a0.To, li .i64 a0.At.X, li .i64 a0.At.Y, li .i64 a0.F.a0.N, ls a0.F.a0.Text, li .i64 a0.F.a1.N, ls a0.F.a1.Text, li .i64 a0.F.a2.N, ls a0.F.a2.Text, li .i64 a0.F.a3.N, ls a0.F.a3.Text, li .i64 a0.Value.N, ls a0.Value.Text, li .i64 a0.Client, li .i64 a0.Session, li .i64 a0.Rect.X0, li .i64 a0.Rect.Y0, li .i64 a0.Rect.X1, li .i64 a0.Rect.Y1]))] (by kernel_rfl) (by kernel_rfl) (by kernel_rfl) ?_
              exact F63_j7_ok n a0 false
          · refine SimI.run 11 [(5, .one (lb false)), (30, .one (lb false)), (29, .tup []), (28, .tup []), (27, .tup []), (26, .tup []), (25, .one (lb false)), (24, .one (lb false)), (23, .tup []), (22, .tup []), (21, .tup [])] [] (by kernel_rfl) ?_
            refine SimI.done (by kernel_rfl) ?_
            refine SimE.thenN ?_
            refine Sim.pre (ts := [1, 5]) (os := [1]) (ow := []) [(1, .one (.ptr 1 0)), (5, .one (lb false))] [(1, some (.cells [li .i64 a0.Kind, li .i64 a0.ID, li .i64 a0.Which, li .i64 a0.To, li .i64 a0.At.X, li .i64 a0.At.Y, li .i64 a0.F.a0.N, ls a0.F.a0.Text, li .i64 a0.F.a1.N, ls a0.F.a1.Text, li .i64 a0.F.a2.N, ls a0.F.a2.Text, li .i64 a0.F.a3.N, ls a0.F.a3.Text, li .i64 a0.Value.N, ls a0.Value.Text, li .i64 a0.Client, li .i64 a0.Session, li .i64 a0.Rect.X0, li .i64 a0.Rect.Y0, li .i64 a0.Rect.X1, li .i64 a0.Rect.Y1]))] (by kernel_rfl) (by kernel_rfl) (by kernel_rfl) ?_
            exact F63_j7_ok n a0 false


-- 64: vedette/cmd.Watches
def F64_e : Bool → PV × List Ob := fun r => (.one (lb r), [])
def F64 (n : Nat) (a0 : Command) : Option Bool :=
  if decide ((6 : Int) ≤ a0.Kind) then
    some (decide (a0.Kind ≤ 8))
  else
    some false
theorem F64_ok (n : Nat) (a0 : Command) : ∀ r, F64 n a0 = some r → D 64 [.agg [li .i64 a0.Kind, li .i64 a0.ID, li .i64 a0.Which, li .i64 a0.To, li .i64 a0.At.X, li .i64 a0.At.Y, li .i64 a0.F.a0.N, ls a0.F.a0.Text, li .i64 a0.F.a1.N, ls a0.F.a1.Text, li .i64 a0.F.a2.N, ls a0.F.a2.Text, li .i64 a0.F.a3.N, ls a0.F.a3.Text, li .i64 a0.Value.N, ls a0.Value.Text, li .i64 a0.Client, li .i64 a0.Session, li .i64 a0.Rect.X0, li .i64 a0.Rect.Y0, li .i64 a0.Rect.X1, li .i64 a0.Rect.Y1]] [] = some (F64_e r) := by
  refine fn_to (D := D) (n := n + 8) (nt := 11) (rs := pc64_r) (c := pc64_c5) (L := [(0, .agg [li .i64 a0.Kind, li .i64 a0.ID, li .i64 a0.Which, li .i64 a0.To, li .i64 a0.At.X, li .i64 a0.At.Y, li .i64 a0.F.a0.N, ls a0.F.a0.Text, li .i64 a0.F.a1.N, ls a0.F.a1.Text, li .i64 a0.F.a2.N, ls a0.F.a2.Text, li .i64 a0.F.a3.N, ls a0.F.a3.Text, li .i64 a0.Value.N, ls a0.Value.Text, li .i64 a0.Client, li .i64 a0.Session, li .i64 a0.Rect.X0, li .i64 a0.Rect.Y0, li .i64 a0.Rect.X1, li .i64 a0.Rect.Y1])]) (M := []) (k := 0) rfl rfl rfl rfl rfl rfl rfl ?_
  unfold F64
  refine Sim.seq ?_
  refine Sim.region0 ?_
  refine SimI.run 2 [(2, .one (lb false)), (1, .one (.ptr 1 0))] [(1, some (.cells [li .i64 a0.Kind, li .i64 a0.ID, li .i64 a0.Which, li .i64 a0.To, li .i64 a0.At.X, li .i64 a0.At.Y, li .i64 a0.F.a0.N, ls a0.F.a0.Text, li .i64 a0.F.a1.N, ls a0.F.a1.Text, li .i64 a0.F.a2.N, ls a0.F.a2.Text, li .i64 a0.F.a3.N, ls a0.F.a3.Text, li .i64 a0.Value.N, ls a0.Value.Text, li .i64 a0.Client, li .i64 a0.Session, li .i64 a0.Rect.X0, li .i64 a0.Rect.Y0, li .i64 a0.Rect.X1, li .i64 a0.Rect.Y1]))] (by kernel_rfl) ?_
  refine SimI.done (by kernel_rfl) ?_
  refine SimE.thenN ?_
  refine Sim.seq ?_
  refine Sim.region0 ?_
  refine SimI.run 4 [(6, .one (lb (decide ((6 : Int) ≤ a0.Kind)))), (5, .one (lb (decide ((6 : Int) ≤ a0.Kind)))), (4, .one (li .i64 a0.Kind)), (3, .one (.ptr 1 0))] [] (by kernel_rfl) ?_
  refine SimI.split 6 (decide ((6 : Int) ≤ a0.Kind)) (by kernel_rfl) ?_ ?_
  · refine SimI.run 5 [(2, .one (lb (decide (a0.Kind ≤ 8)))), (10, .one (lb (decide (a0.Kind ≤ 8)))), (9, .one (lb (decide (a0.Kind ≤ 8)))), (8, .one (li .i64 a0.Kind)), (7, .one (.ptr 1 0))] [] (by kernel_rfl) ?_
    refine SimI.done (by kernel_rfl) ?_
    refine SimE.thenN ?_
    refine Sim.ret ?_
    exact SimE.fin (by kernel_rfl)
  · refine SimI.run 5 [(2, .one (lb false)), (10, .one (lb false)), (9, .tup []), (8, .tup []), (7, .tup [])] [] (by kernel_rfl) ?_
    refine SimI.done (by kernel_rfl) ?_
    refine SimE.thenN ?_
    refine Sim.ret ?_
    exact SimE.fin (by kernel_rfl)


-- 39: (*vedette/watch.Book).Do
def F39_e : (Int × Book) → PV × List Ob := fun r => (.one (li .i64 r.1), [.cells [lb r.2.l.a0.On, li .i64 r.2.l.a0.Session, li .i64 r.2.l.a0.Start, li .i64 r.2.l.a0.Rect.X0, li .i64 r.2.l.a0.Rect.Y0, li .i64 r.2.l.a0.Rect.X1, li .i64 r.2.l.a0.Rect.Y1, lb r.2.l.a1.On, li .i64 r.2.l.a1.Session, li .i64 r.2.l.a1.Start, li .i64 r.2.l.a1.Rect.X0, li .i64 r.2.l.a1.Rect.Y0, li .i64 r.2.l.a1.Rect.X1, li .i64 r.2.l.a1.Rect.Y1, lb r.2.l.a2.On, li .i64 r.2.l.a2.Session, li .i64 r.2.l.a2.Start, li .i64 r.2.l.a2.Rect.X0, li .i64 r.2.l.a2.Rect.Y0, li .i64 r.2.l.a2.Rect.X1, li .i64 r.2.l.a2.Rect.Y1, lb r.2.l.a3.On, li .i64 r.2.l.a3.Session, li .i64 r.2.l.a3.Start, li .i64 r.2.l.a3.Rect.X0, li .i64 r.2.l.a3.Rect.Y0, li .i64 r.2.l.a3.Rect.X1, li .i64 r.2.l.a3.Rect.Y1]])
def F39 (n : Nat) (a0 : Book) (a1 : Command) (a2 : Int) : Option (Int × Book) :=
  (F63 n a1).bind fun (r1 : Bool) =>
  if !(r1) then
    some (11, a0)
  else
    (F64 n a1).bind fun (r2 : Bool) =>
    if !(r2) then
      some (11, a0)
    else
      if a1.Client = 0 then
        if a1.Kind == 6 then
          if decide (a1.Session ≤ a0.l.a0.Session) then
            some (20, a0)
          else
            (F45 n a1.Rect).bind fun (r3 : Rect) =>
            some (0, (Book.mk (A4.mk (Watch.mk true a1.Session a2 r3) a0.l.a1 a0.l.a2 a0.l.a3)))
        else
          if !(a0.l.a0.On) then
            some (20, a0)
          else
            if a1.Session != a0.l.a0.Session then
              some (20, a0)
            else
              if a1.Kind == 7 then
                (F45 n a1.Rect).bind fun (r4 : Rect) =>
                some (0, (Book.mk (A4.mk (Watch.mk a0.l.a0.On a0.l.a0.Session a0.l.a0.Start r4) a0.l.a1 a0.l.a2 a0.l.a3)))
              else
                some (0, (Book.mk (A4.mk (Watch.mk false a0.l.a0.Session a0.l.a0.Start (Rect.mk 0 0 0 0)) a0.l.a1 a0.l.a2 a0.l.a3)))
      else
        if a1.Client = 1 then
          if a1.Kind == 6 then
            if decide (a1.Session ≤ a0.l.a1.Session) then
              some (20, a0)
            else
              (F45 n a1.Rect).bind fun (r5 : Rect) =>
              some (0, (Book.mk (A4.mk a0.l.a0 (Watch.mk true a1.Session a2 r5) a0.l.a2 a0.l.a3)))
          else
            if !(a0.l.a1.On) then
              some (20, a0)
            else
              if a1.Session != a0.l.a1.Session then
                some (20, a0)
              else
                if a1.Kind == 7 then
                  (F45 n a1.Rect).bind fun (r6 : Rect) =>
                  some (0, (Book.mk (A4.mk a0.l.a0 (Watch.mk a0.l.a1.On a0.l.a1.Session a0.l.a1.Start r6) a0.l.a2 a0.l.a3)))
                else
                  some (0, (Book.mk (A4.mk a0.l.a0 (Watch.mk false a0.l.a1.Session a0.l.a1.Start (Rect.mk 0 0 0 0)) a0.l.a2 a0.l.a3)))
        else
          if a1.Client = 2 then
            if a1.Kind == 6 then
              if decide (a1.Session ≤ a0.l.a2.Session) then
                some (20, a0)
              else
                (F45 n a1.Rect).bind fun (r7 : Rect) =>
                some (0, (Book.mk (A4.mk a0.l.a0 a0.l.a1 (Watch.mk true a1.Session a2 r7) a0.l.a3)))
            else
              if !(a0.l.a2.On) then
                some (20, a0)
              else
                if a1.Session != a0.l.a2.Session then
                  some (20, a0)
                else
                  if a1.Kind == 7 then
                    (F45 n a1.Rect).bind fun (r8 : Rect) =>
                    some (0, (Book.mk (A4.mk a0.l.a0 a0.l.a1 (Watch.mk a0.l.a2.On a0.l.a2.Session a0.l.a2.Start r8) a0.l.a3)))
                  else
                    some (0, (Book.mk (A4.mk a0.l.a0 a0.l.a1 (Watch.mk false a0.l.a2.Session a0.l.a2.Start (Rect.mk 0 0 0 0)) a0.l.a3)))
          else
            if a1.Client = 3 then
              if a1.Kind == 6 then
                if decide (a1.Session ≤ a0.l.a3.Session) then
                  some (20, a0)
                else
                  (F45 n a1.Rect).bind fun (r9 : Rect) =>
                  some (0, (Book.mk (A4.mk a0.l.a0 a0.l.a1 a0.l.a2 (Watch.mk true a1.Session a2 r9))))
              else
                if !(a0.l.a3.On) then
                  some (20, a0)
                else
                  if a1.Session != a0.l.a3.Session then
                    some (20, a0)
                  else
                    if a1.Kind == 7 then
                      (F45 n a1.Rect).bind fun (r10 : Rect) =>
                      some (0, (Book.mk (A4.mk a0.l.a0 a0.l.a1 a0.l.a2 (Watch.mk a0.l.a3.On a0.l.a3.Session a0.l.a3.Start r10))))
                    else
                      some (0, (Book.mk (A4.mk a0.l.a0 a0.l.a1 a0.l.a2 (Watch.mk false a0.l.a3.Session a0.l.a3.Start (Rect.mk 0 0 0 0)))))
            else
              none
theorem F39_ok (n : Nat) (a0 : Book) (a1 : Command) (a2 : Int) : ∀ r, F39 n a0 a1 a2 = some r → D 39 [.one (.ptr 1000000 0), .agg [li .i64 a1.Kind, li .i64 a1.ID, li .i64 a1.Which, li .i64 a1.To, li .i64 a1.At.X, li .i64 a1.At.Y, li .i64 a1.F.a0.N, ls a1.F.a0.Text, li .i64 a1.F.a1.N, ls a1.F.a1.Text, li .i64 a1.F.a2.N, ls a1.F.a2.Text, li .i64 a1.F.a3.N, ls a1.F.a3.Text, li .i64 a1.Value.N, ls a1.Value.Text, li .i64 a1.Client, li .i64 a1.Session, li .i64 a1.Rect.X0, li .i64 a1.Rect.Y0, li .i64 a1.Rect.X1, li .i64 a1.Rect.Y1], .one (li .i64 a2)] [.cells [lb a0.l.a0.On, li .i64 a0.l.a0.Session, li .i64 a0.l.a0.Start, li .i64 a0.l.a0.Rect.X0, li .i64 a0.l.a0.Rect.Y0, li .i64 a0.l.a0.Rect.X1, li .i64 a0.l.a0.Rect.Y1, lb a0.l.a1.On, li .i64 a0.l.a1.Session, li .i64 a0.l.a1.Start, li .i64 a0.l.a1.Rect.X0, li .i64 a0.l.a1.Rect.Y0, li .i64 a0.l.a1.Rect.X1, li .i64 a0.l.a1.Rect.Y1, lb a0.l.a2.On, li .i64 a0.l.a2.Session, li .i64 a0.l.a2.Start, li .i64 a0.l.a2.Rect.X0, li .i64 a0.l.a2.Rect.Y0, li .i64 a0.l.a2.Rect.X1, li .i64 a0.l.a2.Rect.Y1, lb a0.l.a3.On, li .i64 a0.l.a3.Session, li .i64 a0.l.a3.Start, li .i64 a0.l.a3.Rect.X0, li .i64 a0.l.a3.Rect.Y0, li .i64 a0.l.a3.Rect.X1, li .i64 a0.l.a3.Rect.Y1]] = some (F39_e r) := by
  refine fn_to (D := D) (n := n + 8) (nt := 73) (rs := pc39_r) (c := pc39_c46) (L := [(0, .one (.ptr 1000000 0)), (1, .agg [li .i64 a1.Kind, li .i64 a1.ID, li .i64 a1.Which, li .i64 a1.To, li .i64 a1.At.X, li .i64 a1.At.Y, li .i64 a1.F.a0.N, ls a1.F.a0.Text, li .i64 a1.F.a1.N, ls a1.F.a1.Text, li .i64 a1.F.a2.N, ls a1.F.a2.Text, li .i64 a1.F.a3.N, ls a1.F.a3.Text, li .i64 a1.Value.N, ls a1.Value.Text, li .i64 a1.Client, li .i64 a1.Session, li .i64 a1.Rect.X0, li .i64 a1.Rect.Y0, li .i64 a1.Rect.X1, li .i64 a1.Rect.Y1]), (2, .one (li .i64 a2))]) (M := [(1000000, some (.cells [lb a0.l.a0.On, li .i64 a0.l.a0.Session, li .i64 a0.l.a0.Start, li .i64 a0.l.a0.Rect.X0, li .i64 a0.l.a0.Rect.Y0, li .i64 a0.l.a0.Rect.X1, li .i64 a0.l.a0.Rect.Y1, lb a0.l.a1.On, li .i64 a0.l.a1.Session, li .i64 a0.l.a1.Start, li .i64 a0.l.a1.Rect.X0, li .i64 a0.l.a1.Rect.Y0, li .i64 a0.l.a1.Rect.X1, li .i64 a0.l.a1.Rect.Y1, lb a0.l.a2.On, li .i64 a0.l.a2.Session, li .i64 a0.l.a2.Start, li .i64 a0.l.a2.Rect.X0, li .i64 a0.l.a2.Rect.Y0, li .i64 a0.l.a2.Rect.X1, li .i64 a0.l.a2.Rect.Y1, lb a0.l.a3.On, li .i64 a0.l.a3.Session, li .i64 a0.l.a3.Start, li .i64 a0.l.a3.Rect.X0, li .i64 a0.l.a3.Rect.Y0, li .i64 a0.l.a3.Rect.X1, li .i64 a0.l.a3.Rect.Y1]))]) (k := 1) rfl rfl rfl rfl rfl rfl rfl ?_
  unfold F39
  refine Sim.seq ?_
  refine Sim.region0 ?_
  refine SimI.run 2 [(6, .one (li .i64 0)), (4, .one (.ptr 4 0))] [(4, some (.cells [li .i64 a1.Kind, li .i64 a1.ID, li .i64 a1.Which, li .i64 a1.To, li .i64 a1.At.X, li .i64 a1.At.Y, li .i64 a1.F.a0.N, ls a1.F.a0.Text, li .i64 a1.F.a1.N, ls a1.F.a1.Text, li .i64 a1.F.a2.N, ls a1.F.a2.Text, li .i64 a1.F.a3.N, ls a1.F.a3.Text, li .i64 a1.Value.N, ls a1.Value.Text, li .i64 a1.Client, li .i64 a1.Session, li .i64 a1.Rect.X0, li .i64 a1.Rect.Y0, li .i64 a1.Rect.X1, li .i64 a1.Rect.Y1]))] (by kernel_rfl) ?_
  refine SimI.done (by kernel_rfl) ?_
  refine SimE.thenN ?_
  refine Sim.seq ?_
  refine Sim.seq ?_
  refine Sim.region0 ?_
  refine SimI.run 1 [(8, .agg [li .i64 a1.Kind, li .i64 a1.ID, li .i64 a1.Which, li .i64 a1.To, li .i64 a1.At.X, li .i64 a1.At.Y, li .i64 a1.F.a0.N, ls a1.F.a0.Text, li .i64 a1.F.a1.N, ls a1.F.a1.Text, li .i64 a1.F.a2.N, ls a1.F.a2.Text, li .i64 a1.F.a3.N, ls a1.F.a3.Text, li .i64 a1.Value.N, ls a1.Value.Text, li .i64 a1.Client, li .i64 a1.Session, li .i64 a1.Rect.X0, li .i64 a1.Rect.Y0, li .i64 a1.Rect.X1, li .i64 a1.Rect.Y1])] [] (by kernel_rfl) ?_
  refine SimI.bind (og := F63 n a1) { dst := some 9, op := POp.call true [[]] 63 [Operand.tmp 8], guard := none, hints := [] } (fun r1 => [(9, .one (lb r1))]) (fun r1 => []) (by kernel_rfl) (fun r1 hr => pOp_eff (by kernel_rfl) (by kernel_rfl) (eff_call (ARGS := [.agg [li .i64 a1.Kind, li .i64 a1.ID, li .i64 a1.Which, li .i64 a1.To, li .i64 a1.At.X, li .i64 a1.At.Y, li .i64 a1.F.a0.N, ls a1.F.a0.Text, li .i64 a1.F.a1.N, ls a1.F.a1.Text, li .i64 a1.F.a2.N, ls a1.F.a2.Text, li .i64 a1.F.a3.N, ls a1.F.a3.Text, li .i64 a1.Value.N, ls a1.Value.Text, li .i64 a1.Client, li .i64 a1.Session, li .i64 a1.Rect.X0, li .i64 a1.Rect.Y0, li .i64 a1.Rect.X1, li .i64 a1.Rect.Y1]]) (by kernel_rfl) (args_clean (by kernel_rfl) args_nil) (F63_ok n a1 r1 hr) (by kernel_rfl))) (fun r1 => ?_)
  refine SimI.run 2 [(11, .one (lb (!(r1)))), (10, .one (lb (!(r1))))] [] (by kernel_rfl) ?_
  refine SimI.split 11 (!(r1)) (by kernel_rfl) ?_ ?_
  · refine SimI.run 4 [(15, .one (lb true)), (14, .tup []), (13, .tup []), (12, .tup [])] [] (by kernel_rfl) ?_
    refine SimI.done (by kernel_rfl) ?_
    refine SimE.thenN ?_
    refine Sim.condT (by kernel_rfl) ?_
    refine Sim.seq ?_
    refine Sim.region0 ?_
    refine SimI.run 1 [(6, .one (li .i64 11))] [] (by kernel_rfl) ?_
    refine SimI.done (by kernel_rfl) ?_
    refine SimE.thenN ?_
    refine Sim.ret ?_
    refine SimE.thenR ?_
    exact SimE.fin (by kernel_rfl)
  · refine SimI.run 1 [(12, .agg [li .i64 a1.Kind, li .i64 a1.ID, li .i64 a1.Which, li .i64 a1.To, li .i64 a1.At.X, li .i64 a1.At.Y, li .i64 a1.F.a0.N, ls a1.F.a0.Text, li .i64 a1.F.a1.N, ls a1.F.a1.Text, li .i64 a1.F.a2.N, ls a1.F.a2.Text, li .i64 a1.F.a3.N, ls a1.F.a3.Text, li .i64 a1.Value.N, ls a1.Value.Text, li .i64 a1.Client, li .i64 a1.Session, li .i64 a1.Rect.X0, li .i64 a1.Rect.Y0, li .i64 a1.Rect.X1, li .i64 a1.Rect.Y1])] [] (by kernel_rfl) ?_
    refine SimI.bind (og := F64 n a1) { dst := some 13, op := POp.call true [[]] 64 [Operand.tmp 12], guard := some (11, false), hints := [] } (fun r2 => [(13, .one (lb r2))]) (fun r2 => []) (by kernel_rfl) (fun r2 hr => pOp_eff (by kernel_rfl) (by kernel_rfl) (eff_call (ARGS := [.agg [li .i64 a1.Kind, li .i64 a1.ID, li .i64 a1.Which, li .i64 a1.To, li .i64 a1.At.X, li .i64 a1.At.Y, li .i64 a1.F.a0.N, ls a1.F.a0.Text, li .i64 a1.F.a1.N, ls a1.F.a1.Text, li .i64 a1.F.a2.N, ls a1.F.a2.Text, li .i64 a1.F.a3.N, ls a1.F.a3.Text, li .i64 a1.Value.N, ls a1.Value.Text, li .i64 a1.Client, li .i64 a1.Session, li .i64 a1.Rect.X0, li .i64 a1.Rect.Y0, li .i64 a1.Rect.X1, li .i64 a1.Rect.Y1]]) (by kernel_rfl) (args_clean (by kernel_rfl) args_nil) (F64_ok n a1 r2 hr) (by kernel_rfl))) (fun r2 => ?_)
    refine SimI.run 2 [(15, .one (lb (!(r2)))), (14, .one (lb (!(r2))))] [] (by kernel_rfl) ?_
    refine SimI.done (by kernel_rfl) ?_
    refine SimE.thenN ?_
    refine Sim.cond (!(r2)) (by kernel_rfl) ?_ ?_
    · refine Sim.seq ?_
      refine Sim.region0 ?_
      refine SimI.run 1 [(6, .one (li .i64 11))] [] (by kernel_rfl) ?_
      refine SimI.done (by kernel_rfl) ?_
      refine SimE.thenN ?_
      refine Sim.ret ?_
      refine SimE.thenR ?_
      exact SimE.fin (by kernel_rfl)
    · refine Sim.skip ?_
      refine SimE.thenN ?_
      refine Sim.seq ?_
      refine Sim.region0 ?_
      refine SimI.run 5 [(20, .one (.ptr 1000000 0)), (19, .one (.ptr 1000000 0)), (18, .one (li .i64 a1.Client)), (17, .one (.ptr 4 16)), (16, .one (.ptr 1000000 0))] [] (by kernel_rfl) ?_
      refine SimI.casei 18 .i64 a1.Client 0 (by kernel_rfl) ?_ ?_
      · refine SimI.run 2 [(7, .one (.ptr 1000000 0)), (21, .one (.ptr 1000000 0))] [] (by kernel_rfl) ?_
        refine SimI.done (by kernel_rfl) ?_
        refine SimE.thenN ?_
        refine Sim.seq ?_
        refine Sim.seq ?_
        refine Sim.region [(2, .one (li .i64 a2)), (4, .one (.ptr 4 0)), (7, .one (.ptr 1000000 0))] [(4, some (.cells [li .i64 a1.Kind, li .i64 a1.ID, li .i64 a1.Which, li .i64 a1.To, li .i64 a1.At.X, li .i64 a1.At.Y, li .i64 a1.F.a0.N, ls a1.F.a0.Text, li .i64 a1.F.a1.N, ls a1.F.a1.Text, li .i64 a1.F.a2.N, ls a1.F.a2.Text, li .i64 a1.F.a3.N, ls a1.F.a3.Text, li .i64 a1.Value.N, ls a1.Value.Text, li .i64 a1.Client, li .i64 a1.Session, li .i64 a1.Rect.X0, li .i64 a1.Rect.Y0, li .i64 a1.Rect.X1, li .i64 a1.Rect.Y1])), (1000000, some (.cells [lb a0.l.a0.On, li .i64 a0.l.a0.Session, li .i64 a0.l.a0.Start, li .i64 a0.l.a0.Rect.X0, li .i64 a0.l.a0.Rect.Y0, li .i64 a0.l.a0.Rect.X1, li .i64 a0.l.a0.Rect.Y1, lb a0.l.a1.On, li .i64 a0.l.a1.Session, li .i64 a0.l.a1.Start, li .i64 a0.l.a1.Rect.X0, li .i64 a0.l.a1.Rect.Y0, li .i64 a0.l.a1.Rect.X1, li .i64 a0.l.a1.Rect.Y1, lb a0.l.a2.On, li .i64 a0.l.a2.Session, li .i64 a0.l.a2.Start, li .i64 a0.l.a2.Rect.X0, li .i64 a0.l.a2.Rect.Y0, li .i64 a0.l.a2.Rect.X1, li .i64 a0.l.a2.Rect.Y1, lb a0.l.a3.On, li .i64 a0.l.a3.Session, li .i64 a0.l.a3.Start, li .i64 a0.l.a3.Rect.X0, li .i64 a0.l.a3.Rect.Y0, li .i64 a0.l.a3.Rect.X1, li .i64 a0.l.a3.Rect.Y1]))] (by kernel_rfl) ?_
        refine SimI.run 3 [(24, .one (lb (a1.Kind == 6))), (23, .one (li .i64 a1.Kind)), (22, .one (.ptr 4 0))] [] (by kernel_rfl) ?_
        refine SimI.done (by kernel_rfl) ?_
        refine SimE.thenN ?_
        refine Sim.cond (a1.Kind == 6) (by kernel_rfl) ?_ ?_
        · refine Sim.seq ?_
          refine Sim.seq ?_
          refine Sim.region0 ?_
          refine SimI.run 7 [(31, .one (lb (decide (a1.Session ≤ a0.l.a0.Session)))), (30, .one (li .i64 a0.l.a0.Session)), (29, .one (.ptr 1000000 1)), (28, .one (.ptr 1000000 0)), (27, .one (.ptr 1000000 0)), (26, .one (li .i64 a1.Session)), (25, .one (.ptr 4 17))] [] (by kernel_rfl) ?_
          refine SimI.done (by kernel_rfl) ?_
          refine SimE.thenN ?_
          refine Sim.cond (decide (a1.Session ≤ a0.l.a0.Session)) (by kernel_rfl) ?_ ?_
          · refine Sim.seq ?_
            refine Sim.region0 ?_
            refine SimI.run 1 [(6, .one (li .i64 20))] [] (by kernel_rfl) ?_
            refine SimI.done (by kernel_rfl) ?_
            refine SimE.thenN ?_
            refine Sim.ret ?_
            refine SimE.thenR ?_
            refine SimE.thenR ?_
            exact SimE.fin (by kernel_rfl)
          · refine Sim.skip ?_
            refine SimE.thenN ?_
            refine Sim.seq ?_
            refine Sim.region0 ?_
            refine SimI.run 6 [(37, .agg [li .i64 a1.Rect.X0, li .i64 a1.Rect.Y0, li .i64 a1.Rect.X1, li .i64 a1.Rect.Y1]), (36, .one (.ptr 4 18)), (35, .one (li .i64 a2)), (34, .one (li .i64 a1.Session)), (33, .one (.ptr 4 17)), (32, .one (.ptr 1000000 0))] [] (by kernel_rfl) ?_
            refine SimI.bind (og := F45 n a1.Rect) { dst := some 38, op := POp.call false [[]] 45 [Operand.tmp 37], guard := none, hints := [(37, Hint.imm)] } (fun r3 => [(38, .agg [li .i64 r3.X0, li .i64 r3.Y0, li .i64 r3.X1, li .i64 r3.Y1])]) (fun r3 => []) (by kernel_rfl) (fun r3 hr => pOp_eff (by kernel_rfl) (by kernel_rfl) (eff_call (ARGS := [.agg [li .i64 a1.Rect.X0, li .i64 a1.Rect.Y0, li .i64 a1.Rect.X1, li .i64 a1.Rect.Y1]]) (by kernel_rfl) (args_clean (by kernel_rfl) args_nil) (F45_ok n a1.Rect r3 hr) (by kernel_rfl))) (fun r3 => ?_)
            refine SimI.run 3 [(40, .one (.ptr 1000000 0)), (39, .agg [lb true, li .i64 a1.Session, li .i64 a2, li .i64 r3.X0, li .i64 r3.Y0, li .i64 r3.X1, li .i64 r3.Y1])] [(1000000, some (.cells [lb true, li .i64 a1.Session, li .i64 a2, li .i64 r3.X0, li .i64 r3.Y0, li .i64 r3.X1, li .i64 r3.Y1, lb a0.l.a1.On, li .i64 a0.l.a1.Session, li .i64 a0.l.a1.Start, li .i64 a0.l.a1.Rect.X0, li .i64 a0.l.a1.Rect.Y0, li .i64 a0.l.a1.Rect.X1, li .i64 a0.l.a1.Rect.Y1, lb a0.l.a2.On, li .i64 a0.l.a2.Session, li .i64 a0.l.a2.Start, li .i64 a0.l.a2.Rect.X0, li .i64 a0.l.a2.Rect.Y0, li .i64 a0.l.a2.Rect.X1, li .i64 a0.l.a2.Rect.Y1, lb a0.l.a3.On, li .i64 a0.l.a3.Session, li .i64 a0.l.a3.Start, li .i64 a0.l.a3.Rect.X0, li .i64 a0.l.a3.Rect.Y0, li .i64 a0.l.a3.Rect.X1, li .i64 a0.l.a3.Rect.Y1]))] (by kernel_rfl) ?_
            refine SimI.done (by kernel_rfl) ?_
            refine SimE.thenN ?_
            refine Sim.seq ?_
            refine Sim.region0 ?_
            refine SimI.run 1 [(6, .one (li .i64 0))] [] (by kernel_rfl) ?_
            refine SimI.done (by kernel_rfl) ?_
            refine SimE.thenN ?_
            refine Sim.ret ?_
            refine SimE.thenR ?_
            exact SimE.fin (by kernel_rfl)
        · refine Sim.skip ?_
          refine SimE.thenN ?_
          refine Sim.seq ?_
          refine Sim.block ?_
          refine Sim.seq ?_
          refine Sim.region0 ?_
          refine SimI.run 6 [(54, .one (lb (!(a0.l.a0.On)))), (53, .one (lb (!(a0.l.a0.On)))), (52, .one (lb a0.l.a0.On)), (51, .one (.ptr 1000000 0)), (50, .one (.ptr 1000000 0)), (49, .one (.ptr 1000000 0))] [] (by kernel_rfl) ?_
          refine SimI.split 54 (!(a0.l.a0.On)) (by kernel_rfl) ?_ ?_
          · refine SimI.run 9 [(48, .one (lb true)), (62, .one (lb true)), (61, .tup []), (60, .tup []), (59, .tup []), (58, .tup []), (57, .tup []), (56, .tup []), (55, .tup [])] [] (by kernel_rfl) ?_
            refine SimI.done (by kernel_rfl) ?_
            refine SimE.thenN ?_
            refine Sim.condT (by kernel_rfl) ?_
            refine Sim.seq ?_
            refine Sim.region0 ?_
            refine SimI.run 1 [(6, .one (li .i64 20))] [] (by kernel_rfl) ?_
            refine SimI.done (by kernel_rfl) ?_
            refine SimE.thenN ?_
            refine Sim.ret ?_
            refine SimE.blockR ?_
            refine SimE.thenR ?_
            exact SimE.fin (by kernel_rfl)
          · refine SimI.run 9 [(48, .one (lb (a1.Session != a0.l.a0.Session))), (62, .one (lb (a1.Session != a0.l.a0.Session))), (61, .one (lb (a1.Session != a0.l.a0.Session))), (60, .one (li .i64 a0.l.a0.Session)), (59, .one (.ptr 1000000 1)), (58, .one (.ptr 1000000 0)), (57, .one (.ptr 1000000 0)), (56, .one (li .i64 a1.Session)), (55, .one (.ptr 4 17))] [] (by kernel_rfl) ?_
            refine SimI.done (by kernel_rfl) ?_
            refine SimE.thenN ?_
            refine Sim.cond (a1.Session != a0.l.a0.Session) (by kernel_rfl) ?_ ?_
            · refine Sim.seq ?_
              refine Sim.region0 ?_
              refine SimI.run 1 [(6, .one (li .i64 20))] [] (by kernel_rfl) ?_
              refine SimI.done (by kernel_rfl) ?_
              refine SimE.thenN ?_
              refine Sim.ret ?_
              refine SimE.blockR ?_
              refine SimE.thenR ?_
              exact SimE.fin (by kernel_rfl)
            · refine Sim.seq ?_
              refine Sim.region0 ?_
              refine SimI.run 4 [(63, .one (lb (a1.Kind == 7))), (66, .one (lb (a1.Kind == 7))), (65, .one (li .i64 a1.Kind)), (64, .one (.ptr 4 0))] [] (by kernel_rfl) ?_
              refine SimI.done (by kernel_rfl) ?_
              refine SimE.thenN ?_
              refine Sim.cond (a1.Kind == 7) (by kernel_rfl) ?_ ?_
              · refine Sim.region0 ?_
                refine SimI.run 3 [(69, .agg [li .i64 a1.Rect.X0, li .i64 a1.Rect.Y0, li .i64 a1.Rect.X1, li .i64 a1.Rect.Y1]), (68, .one (.ptr 4 18)), (67, .one (.ptr 1000000 0))] [] (by kernel_rfl) ?_
                refine SimI.bind (og := F45 n a1.Rect) { dst := some 70, op := POp.call true [[]] 45 [Operand.tmp 69], guard := none, hints := [] } (fun r4 => [(70, .agg [li .i64 r4.X0, li .i64 r4.Y0, li .i64 r4.X1, li .i64 r4.Y1])]) (fun r4 => []) (by kernel_rfl) (fun r4 hr => pOp_eff (by kernel_rfl) (by kernel_rfl) (eff_call (ARGS := [.agg [li .i64 a1.Rect.X0, li .i64 a1.Rect.Y0, li .i64 a1.Rect.X1, li .i64 a1.Rect.Y1]]) (by kernel_rfl) (args_clean (by kernel_rfl) args_nil) (F45_ok n a1.Rect r4 hr) (by kernel_rfl))) (fun r4 => ?_)
                refine SimI.run 3 [(72, .one (.ptr 1000000 3)), (71, .one (.ptr 1000000 0))] [(1000000, some (.cells [lb a0.l.a0.On, li .i64 a0.l.a0.Session, li .i64 a0.l.a0.Start, li .i64 r4.X0, li .i64 r4.Y0, li .i64 r4.X1, li .i64 r4.Y1, lb a0.l.a1.On, li .i64 a0.l.a1.Session, li .i64 a0.l.a1.Start, li .i64 a0.l.a1.Rect.X0, li .i64 a0.l.a1.Rect.Y0, li .i64 a0.l.a1.Rect.X1, li .i64 a0.l.a1.Rect.Y1, lb a0.l.a2.On, li .i64 a0.l.a2.Session, li .i64 a0.l.a2.Start, li .i64 a0.l.a2.Rect.X0, li .i64 a0.l.a2.Rect.Y0, li .i64 a0.l.a2.Rect.X1, li .i64 a0.l.a2.Rect.Y1, lb a0.l.a3.On, li .i64 a0.l.a3.Session, li .i64 a0.l.a3.Start, li .i64 a0.l.a3.Rect.X0, li .i64 a0.l.a3.Rect.Y0, li .i64 a0.l.a3.Rect.X1, li .i64 a0.l.a3.Rect.Y1]))] (by kernel_rfl) ?_
                refine SimI.done (by kernel_rfl) ?_
                refine SimE.blockN ?_
                refine SimE.thenN ?_
                refine Sim.seq ?_
                refine Sim.region0 ?_
                refine SimI.run 1 [(6, .one (li .i64 0))] [] (by kernel_rfl) ?_
                refine SimI.done (by kernel_rfl) ?_
                refine SimE.thenN ?_
                refine Sim.ret ?_
                exact SimE.fin (by kernel_rfl)
              · refine Sim.region0 ?_
                refine SimI.run 9 [(47, .one (.ptr 1000000 3)), (46, .one (.ptr 1000000 0)), (45, .one (.ptr 1000000 0)), (44, .one (.ptr 1000000 0)), (43, .agg [li .i64 0, li .i64 0, li .i64 0, li .i64 0]), (42, .one (.ptr 1000000 0)), (41, .one (.ptr 1000000 0))] [(1000000, some (.cells [lb false, li .i64 a0.l.a0.Session, li .i64 a0.l.a0.Start, li .i64 0, li .i64 0, li .i64 0, li .i64 0, lb a0.l.a1.On, li .i64 a0.l.a1.Session, li .i64 a0.l.a1.Start, li .i64 a0.l.a1.Rect.X0, li .i64 a0.l.a1.Rect.Y0, li .i64 a0.l.a1.Rect.X1, li .i64 a0.l.a1.Rect.Y1, lb a0.l.a2.On, li .i64 a0.l.a2.Session, li .i64 a0.l.a2.Start, li .i64 a0.l.a2.Rect.X0, li .i64 a0.l.a2.Rect.Y0, li .i64 a0.l.a2.Rect.X1, li .i64 a0.l.a2.Rect.Y1, lb a0.l.a3.On, li .i64 a0.l.a3.Session, li .i64 a0.l.a3.Start, li .i64 a0.l.a3.Rect.X0, li .i64 a0.l.a3.Rect.Y0, li .i64 a0.l.a3.Rect.X1, li .i64 a0.l.a3.Rect.Y1])), (1000000, some (.cells [lb false, li .i64 a0.l.a0.Session, li .i64 a0.l.a0.Start, li .i64 a0.l.a0.Rect.X0, li .i64 a0.l.a0.Rect.Y0, li .i64 a0.l.a0.Rect.X1, li .i64 a0.l.a0.Rect.Y1, lb a0.l.a1.On, li .i64 a0.l.a1.Session, li .i64 a0.l.a1.Start, li .i64 a0.l.a1.Rect.X0, li .i64 a0.l.a1.Rect.Y0, li .i64 a0.l.a1.Rect.X1, li .i64 a0.l.a1.Rect.Y1, lb a0.l.a2.On, li .i64 a0.l.a2.Session, li .i64 a0.l.a2.Start, li .i64 a0.l.a2.Rect.X0, li .i64 a0.l.a2.Rect.Y0, li .i64 a0.l.a2.Rect.X1, li .i64 a0.l.a2.Rect.Y1, lb a0.l.a3.On, li .i64 a0.l.a3.Session, li .i64 a0.l.a3.Start, li .i64 a0.l.a3.Rect.X0, li .i64 a0.l.a3.Rect.Y0, li .i64 a0.l.a3.Rect.X1, li .i64 a0.l.a3.Rect.Y1]))] (by kernel_rfl) ?_
                refine SimI.done (by kernel_rfl) ?_
                refine SimE.blockN ?_
                refine SimE.thenN ?_
                refine Sim.seq ?_
                refine Sim.region0 ?_
                refine SimI.run 1 [(6, .one (li .i64 0))] [] (by kernel_rfl) ?_
                refine SimI.done (by kernel_rfl) ?_
                refine SimE.thenN ?_
                refine Sim.ret ?_
                exact SimE.fin (by kernel_rfl)
      · refine SimI.casei 18 .i64 a1.Client 1 (by kernel_rfl) ?_ ?_
        · refine SimI.run 2 [(7, .one (.ptr 1000000 7)), (21, .one (.ptr 1000000 7))] [] (by kernel_rfl) ?_
          refine SimI.done (by kernel_rfl) ?_
          refine SimE.thenN ?_
          refine Sim.seq ?_
          refine Sim.seq ?_
          refine Sim.region [(2, .one (li .i64 a2)), (4, .one (.ptr 4 0)), (7, .one (.ptr 1000000 7))] [(4, some (.cells [li .i64 a1.Kind, li .i64 a1.ID, li .i64 a1.Which, li .i64 a1.To, li .i64 a1.At.X, li .i64 a1.At.Y, li .i64 a1.F.a0.N, ls a1.F.a0.Text, li .i64 a1.F.a1.N, ls a1.F.a1.Text, li .i64 a1.F.a2.N, ls a1.F.a2.Text, li .i64 a1.F.a3.N, ls a1.F.a3.Text, li .i64 a1.Value.N, ls a1.Value.Text, li .i64 a1.Client, li .i64 a1.Session, li .i64 a1.Rect.X0, li .i64 a1.Rect.Y0, li .i64 a1.Rect.X1, li .i64 a1.Rect.Y1])), (1000000, some (.cells [lb a0.l.a0.On, li .i64 a0.l.a0.Session, li .i64 a0.l.a0.Start, li .i64 a0.l.a0.Rect.X0, li .i64 a0.l.a0.Rect.Y0, li .i64 a0.l.a0.Rect.X1, li .i64 a0.l.a0.Rect.Y1, lb a0.l.a1.On, li .i64 a0.l.a1.Session, li .i64 a0.l.a1.Start, li .i64 a0.l.a1.Rect.X0, li .i64 a0.l.a1.Rect.Y0, li .i64 a0.l.a1.Rect.X1, li .i64 a0.l.a1.Rect.Y1, lb a0.l.a2.On, li .i64 a0.l.a2.Session, li .i64 a0.l.a2.Start, li .i64 a0.l.a2.Rect.X0, li .i64 a0.l.a2.Rect.Y0, li .i64 a0.l.a2.Rect.X1, li .i64 a0.l.a2.Rect.Y1, lb a0.l.a3.On, li .i64 a0.l.a3.Session, li .i64 a0.l.a3.Start, li .i64 a0.l.a3.Rect.X0, li .i64 a0.l.a3.Rect.Y0, li .i64 a0.l.a3.Rect.X1, li .i64 a0.l.a3.Rect.Y1]))] (by kernel_rfl) ?_
          refine SimI.run 3 [(24, .one (lb (a1.Kind == 6))), (23, .one (li .i64 a1.Kind)), (22, .one (.ptr 4 0))] [] (by kernel_rfl) ?_
          refine SimI.done (by kernel_rfl) ?_
          refine SimE.thenN ?_
          refine Sim.cond (a1.Kind == 6) (by kernel_rfl) ?_ ?_
          · refine Sim.seq ?_
            refine Sim.seq ?_
            refine Sim.region0 ?_
            refine SimI.run 7 [(31, .one (lb (decide (a1.Session ≤ a0.l.a1.Session)))), (30, .one (li .i64 a0.l.a1.Session)), (29, .one (.ptr 1000000 8)), (28, .one (.ptr 1000000 7)), (27, .one (.ptr 1000000 7)), (26, .one (li .i64 a1.Session)), (25, .one (.ptr 4 17))] [] (by kernel_rfl) ?_
            refine SimI.done (by kernel_rfl) ?_
            refine SimE.thenN ?_
            refine Sim.cond (decide (a1.Session ≤ a0.l.a1.Session)) (by kernel_rfl) ?_ ?_
            · refine Sim.seq ?_
              refine Sim.region0 ?_
              refine SimI.run 1 [(6, .one (li .i64 20))] [] (by kernel_rfl) ?_
              refine SimI.done (by kernel_rfl) ?_
              refine SimE.thenN ?_
              refine Sim.ret ?_
              refine SimE.thenR ?_
              refine SimE.thenR ?_
              exact SimE.fin (by kernel_rfl)
            · refine Sim.skip ?_
              refine SimE.thenN ?_
              refine Sim.seq ?_
              refine Sim.region0 ?_
              refine SimI.run 6 [(37, .agg [li .i64 a1.Rect.X0, li .i64 a1.Rect.Y0, li .i64 a1.Rect.X1, li .i64 a1.Rect.Y1]), (36, .one (.ptr 4 18)), (35, .one (li .i64 a2)), (34, .one (li .i64 a1.Session)), (33, .one (.ptr 4 17)), (32, .one (.ptr 1000000 7))] [] (by kernel_rfl) ?_
              refine SimI.bind (og := F45 n a1.Rect) { dst := some 38, op := POp.call false [[]] 45 [Operand.tmp 37], guard := none, hints := [(37, Hint.imm)] } (fun r5 => [(38, .agg [li .i64 r5.X0, li .i64 r5.Y0, li .i64 r5.X1, li .i64 r5.Y1])]) (fun r5 => []) (by kernel_rfl) (fun r5 hr => pOp_eff (by kernel_rfl) (by kernel_rfl) (eff_call (ARGS := [.agg [li .i64 a1.Rect.X0, li .i64 a1.Rect.Y0, li .i64 a1.Rect.X1, li .i64 a1.Rect.Y1]]) (by kernel_rfl) (args_clean (by kernel_rfl) args_nil) (F45_ok n a1.Rect r5 hr) (by kernel_rfl))) (fun r5 => ?_)
              refine SimI.run 3 [(40, .one (.ptr 1000000 7)), (39, .agg [lb true, li .i64 a1.Session, li .i64 a2, li .i64 r5.X0, li .i64 r5.Y0, li .i64 r5.X1, li .i64 r5.Y1])] [(1000000, some (.cells [lb a0.l.a0.On, li .i64 a0.l.a0.Session, li .i64 a0.l.a0.Start, li .i64 a0.l.a0.Rect.X0, li .i64 a0.l.a0.Rect.Y0, li .i64 a0.l.a0.Rect.X1, li .i64 a0.l.a0.Rect.Y1, lb true, li .i64 a1.Session, li .i64 a2, li .i64 r5.X0, li .i64 r5.Y0, li .i64 r5.X1, li .i64 r5.Y1, lb a0.l.a2.On, li .i64 a0.l.a2.Session, li .i64 a0.l.a2.Start, li .i64 a0.l.a2.Rect.X0, li .i64 a0.l.a2.Rect.Y0, li .i64 a0.l.a2.Rect.X1, li .i64 a0.l.a2.Rect.Y1, lb a0.l.a3.On, li .i64 a0.l.a3.Session, li .i64 a0.l.a3.Start, li .i64 a0.l.a3.Rect.X0, li .i64 a0.l.a3.Rect.Y0, li .i64 a0.l.a3.Rect.X1, li .i64 a0.l.a3.Rect.Y1]))] (by kernel_rfl) ?_
              refine SimI.done (by kernel_rfl) ?_
              refine SimE.thenN ?_
              refine Sim.seq ?_
              refine Sim.region0 ?_
              refine SimI.run 1 [(6, .one (li .i64 0))] [] (by kernel_rfl) ?_
              refine SimI.done (by kernel_rfl) ?_
              refine SimE.thenN ?_
              refine Sim.ret ?_
              refine SimE.thenR ?_
              exact SimE.fin (by kernel_rfl)
          · refine Sim.skip ?_
            refine SimE.thenN ?_
            refine Sim.seq ?_
            refine Sim.block ?_
            refine Sim.seq ?_
            refine Sim.region0 ?_
            refine SimI.run 6 [(54, .one (lb (!(a0.l.a1.On)))), (53, .one (lb (!(a0.l.a1.On)))), (52, .one (lb a0.l.a1.On)), (51, .one (.ptr 1000000 7)), (50, .one (.ptr 1000000 7)), (49, .one (.ptr 1000000 7))] [] (by kernel_rfl) ?_
            refine SimI.split 54 (!(a0.l.a1.On)) (by kernel_rfl) ?_ ?_
            · refine SimI.run 9 [(48, .one (lb true)), (62, .one (lb true)), (61, .tup []), (60, .tup []), (59, .tup []), (58, .tup []), (57, .tup []), (56, .tup []), (55, .tup [])] [] (by kernel_rfl) ?_
              refine SimI.done (by kernel_rfl) ?_
              refine SimE.thenN ?_
              refine Sim.condT (by kernel_rfl) ?_
              refine Sim.seq ?_
              refine Sim.region0 ?_
              refine SimI.run 1 [(6, .one (li .i64 20))] [] (by kernel_rfl) ?_
              refine SimI.done (by kernel_rfl) ?_
              refine SimE.thenN ?_
              refine Sim.ret ?_
              refine SimE.blockR ?_
              refine SimE.thenR ?_
              exact SimE.fin (by kernel_rfl)
            · refine SimI.run 9 [(48, .one (lb (a1.Session != a0.l.a1.Session))), (62, .one (lb (a1.Session != a0.l.a1.Session))), (61, .one (lb (a1.Session != a0.l.a1.Session))), (60, .one (li .i64 a0.l.a1.Session)), (59, .one (.ptr 1000000 8)), (58, .one (.ptr 1000000 7)), (57, .one (.ptr 1000000 7)), (56, .one (li .i64 a1.Session)), (55, .one (.ptr 4 17))] [] (by kernel_rfl) ?_
              refine SimI.done (by kernel_rfl) ?_
              refine SimE.thenN ?_
              refine Sim.cond (a1.Session != a0.l.a1.Session) (by kernel_rfl) ?_ ?_
              · refine Sim.seq ?_
                refine Sim.region0 ?_
                refine SimI.run 1 [(6, .one (li .i64 20))] [] (by kernel_rfl) ?_
                refine SimI.done (by kernel_rfl) ?_
                refine SimE.thenN ?_
                refine Sim.ret ?_
                refine SimE.blockR ?_
                refine SimE.thenR ?_
                exact SimE.fin (by kernel_rfl)
              · refine Sim.seq ?_
                refine Sim.region0 ?_
                refine SimI.run 4 [(63, .one (lb (a1.Kind == 7))), (66, .one (lb (a1.Kind == 7))), (65, .one (li .i64 a1.Kind)), (64, .one (.ptr 4 0))] [] (by kernel_rfl) ?_
                refine SimI.done (by kernel_rfl) ?_
                refine SimE.thenN ?_
                refine Sim.cond (a1.Kind == 7) (by kernel_rfl) ?_ ?_
                · refine Sim.region0 ?_
                  refine SimI.run 3 [(69, .agg [li .i64 a1.Rect.X0, li .i64 a1.Rect.Y0, li .i64 a1.Rect.X1, li .i64 a1.Rect.Y1]), (68, .one (.ptr 4 18)), (67, .one (.ptr 1000000 7))] [] (by kernel_rfl) ?_
                  refine SimI.bind (og := F45 n a1.Rect) { dst := some 70, op := POp.call true [[]] 45 [Operand.tmp 69], guard := none, hints := [] } (fun r6 => [(70, .agg [li .i64 r6.X0, li .i64 r6.Y0, li .i64 r6.X1, li .i64 r6.Y1])]) (fun r6 => []) (by kernel_rfl) (fun r6 hr => pOp_eff (by kernel_rfl) (by kernel_rfl) (eff_call (ARGS := [.agg [li .i64 a1.Rect.X0, li .i64 a1.Rect.Y0, li .i64 a1.Rect.X1, li .i64 a1.Rect.Y1]]) (by kernel_rfl) (args_clean (by kernel_rfl) args_nil) (F45_ok n a1.Rect r6 hr) (by kernel_rfl))) (fun r6 => ?_)
                  refine SimI.run 3 [(72, .one (.ptr 1000000 10)), (71, .one (.ptr 1000000 7))] [(1000000, some (.cells [lb a0.l.a0.On, li .i64 a0.l.a0.Session, li .i64 a0.l.a0.Start, li .i64 a0.l.a0.Rect.X0, li .i64 a0.l.a0.Rect.Y0, li .i64 a0.l.a0.Rect.X1, li .i64 a0.l.a0.Rect.Y1, lb a0.l.a1.On, li .i64 a0.l.a1.Session, li .i64 a0.l.a1.Start, li .i64 r6.X0, li .i64 r6.Y0, li .i64 r6.X1, li .i64 r6.Y1, lb a0.l.a2.On, li .i64 a0.l.a2.Session, li .i64 a0.l.a2.Start, li .i64 a0.l.a2.Rect.X0, li .i64 a0.l.a2.Rect.Y0, li .i64 a0.l.a2.Rect.X1, li .i64 a0.l.a2.Rect.Y1, lb a0.l.a3.On, li .i64 a0.l.a3.Session, li .i64 a0.l.a3.Start, li .i64 a0.l.a3.Rect.X0, li .i64 a0.l.a3.Rect.Y0, li .i64 a0.l.a3.Rect.X1, li .i64 a0.l.a3.Rect.Y1]))] (by kernel_rfl) ?_
                  refine SimI.done (by kernel_rfl) ?_
                  refine SimE.blockN ?_
                  refine SimE.thenN ?_
                  refine Sim.seq ?_
                  refine Sim.region0 ?_
                  refine SimI.run 1 [(6, .one (li .i64 0))] [] (by kernel_rfl) ?_
                  refine SimI.done (by kernel_rfl) ?_
                  refine SimE.thenN ?_
                  refine Sim.ret ?_
                  exact SimE.fin (by kernel_rfl)
                · refine Sim.region0 ?_
                  refine SimI.run 9 [(47, .one (.ptr 1000000 10)), (46, .one (.ptr 1000000 7)), (45, .one (.ptr 1000000 7)), (44, .one (.ptr 1000000 7)), (43, .agg [li .i64 0, li .i64 0, li .i64 0, li .i64 0]), (42, .one (.ptr 1000000 7)), (41, .one (.ptr 1000000 7))] [(1000000, some (.cells [lb a0.l.a0.On, li .i64 a0.l.a0.Session, li .i64 a0.l.a0.Start, li .i64 a0.l.a0.Rect.X0, li .i64 a0.l.a0.Rect.Y0, li .i64 a0.l.a0.Rect.X1, li .i64 a0.l.a0.Rect.Y1, lb false, li .i64 a0.l.a1.Session, li .i64 a0.l.a1.Start, li .i64 0, li .i64 0, li .i64 0, li .i64 0, lb a0.l.a2.On, li .i64 a0.l.a2.Session, li .i64 a0.l.a2.Start, li .i64 a0.l.a2.Rect.X0, li .i64 a0.l.a2.Rect.Y0, li .i64 a0.l.a2.Rect.X1, li .i64 a0.l.a2.Rect.Y1, lb a0.l.a3.On, li .i64 a0.l.a3.Session, li .i64 a0.l.a3.Start, li .i64 a0.l.a3.Rect.X0, li .i64 a0.l.a3.Rect.Y0, li .i64 a0.l.a3.Rect.X1, li .i64 a0.l.a3.Rect.Y1])), (1000000, some (.cells [lb a0.l.a0.On, li .i64 a0.l.a0.Session, li .i64 a0.l.a0.Start, li .i64 a0.l.a0.Rect.X0, li .i64 a0.l.a0.Rect.Y0, li .i64 a0.l.a0.Rect.X1, li .i64 a0.l.a0.Rect.Y1, lb false, li .i64 a0.l.a1.Session, li .i64 a0.l.a1.Start, li .i64 a0.l.a1.Rect.X0, li .i64 a0.l.a1.Rect.Y0, li .i64 a0.l.a1.Rect.X1, li .i64 a0.l.a1.Rect.Y1, lb a0.l.a2.On, li .i64 a0.l.a2.Session, li .i64 a0.l.a2.Start, li .i64 a0.l.a2.Rect.X0, li .i64 a0.l.a2.Rect.Y0, li .i64 a0.l.a2.Rect.X1, li .i64 a0.l.a2.Rect.Y1, lb a0.l.a3.On, li .i64 a0.l.a3.Session, li .i64 a0.l.a3.Start, li .i64 a0.l.a3.Rect.X0, li .i64 a0.l.a3.Rect.Y0, li .i64 a0.l.a3.Rect.X1, li .i64 a0.l.a3.Rect.Y1]))] (by kernel_rfl) ?_
                  refine SimI.done (by kernel_rfl) ?_
                  refine SimE.blockN ?_
                  refine SimE.thenN ?_
                  refine Sim.seq ?_
                  refine Sim.region0 ?_
                  refine SimI.run 1 [(6, .one (li .i64 0))] [] (by kernel_rfl) ?_
                  refine SimI.done (by kernel_rfl) ?_
                  refine SimE.thenN ?_
                  refine Sim.ret ?_
                  exact SimE.fin (by kernel_rfl)
        · refine SimI.casei 18 .i64 a1.Client 2 (by kernel_rfl) ?_ ?_
          · refine SimI.run 2 [(7, .one (.ptr 1000000 14)), (21, .one (.ptr 1000000 14))] [] (by kernel_rfl) ?_
            refine SimI.done (by kernel_rfl) ?_
            refine SimE.thenN ?_
            refine Sim.seq ?_
            refine Sim.seq ?_
            refine Sim.region [(2, .one (li .i64 a2)), (4, .one (.ptr 4 0)), (7, .one (.ptr 1000000 14))] [(4, some (.cells [li .i64 a1.Kind, li .i64 a1.ID, li .i64 a1.Which, li .i64 a1.To, li .i64 a1.At.X, li .i64 a1.At.Y, li .i64 a1.F.a0.N, ls a1.F.a0.Text, li .i64 a1.F.a1.N, ls a1.F.a1.Text, li .i64 a1.F.a2.N, ls a1.F.a2.Text, li .i64 a1.F.a3.N, ls a1.F.a3.Text, li .i64 a1.Value.N, ls a1.Value.Text, li .i64 a1.Client, li .i64 a1.Session, li .i64 a1.Rect.X0, li .i64 a1.Rect.Y0, li .i64 a1.Rect.X1, li .i64 a1.Rect.Y1])), (1000000, some (.cells [lb a0.l.a0.On, li .i64 a0.l.a0.Session, li .i64 a0.l.a0.Start, li .i64 a0.l.a0.Rect.X0, li .i64 a0.l.a0.Rect.Y0, li .i64 a0.l.a0.Rect.X1, li .i64 a0.l.a0.Rect.Y1, lb a0.l.a1.On, li .i64 a0.l.a1.Session, li .i64 a0.l.a1.Start, li .i64 a0.l.a1.Rect.X0, li .i64 a0.l.a1.Rect.Y0, li .i64 a0.l.a1.Rect.X1, li .i64 a0.l.a1.Rect.Y1, lb a0.l.a2.On, li .i64 a0.l.a2.Session, li .i64 a0.l.a2.Start, li .i64 a0.l.a2.Rect.X0, li .i64 a0.l.a2.Rect.Y0, li .i64 a0.l.a2.Rect.X1, li .i64 a0.l.a2.Rect.Y1, lb a0.l.a3.On, li .i64 a0.l.a3.Session, li .i64 a0.l.a3.Start, li .i64 a0.l.a3.Rect.X0, li .i64 a0.l.a3.Rect.Y0, li .i64 a0.l.a3.Rect.X1, li .i64 a0.l.a3.Rect.Y1]))] (by kernel_rfl) ?_
            refine SimI.run 3 [(24, .one (lb (a1.Kind == 6))), (23, .one (li .i64 a1.Kind)), (22, .one (.ptr 4 0))] [] (by kernel_rfl) ?_
            refine SimI.done (by kernel_rfl) ?_
            refine SimE.thenN ?_
            refine Sim.cond (a1.Kind == 6) (by kernel_rfl) ?_ ?_
            · refine Sim.seq ?_
              refine Sim.seq ?_
              refine Sim.region0 ?_
              refine SimI.run 7 [(31, .one (lb (decide (a1.Session ≤ a0.l.a2.Session)))), (30, .one (li .i64 a0.l.a2.Session)), (29, .one (.ptr 1000000 15)), (28, .one (.ptr 1000000 14)), (27, .one (.ptr 1000000 14)), (26, .one (li .i64 a1.Session)), (25, .one (.ptr 4 17))] [] (by kernel_rfl) ?_
              refine SimI.done (by kernel_rfl) ?_
              refine SimE.thenN ?_
              refine Sim.cond (decide (a1.Session ≤ a0.l.a2.Session)) (by kernel_rfl) ?_ ?_
              · refine Sim.seq ?_
                refine Sim.region0 ?_
                refine SimI.run 1 [(6, .one (li .i64 20))] [] (by kernel_rfl) ?_
                refine SimI.done (by kernel_rfl) ?_
                refine SimE.thenN ?_
                refine Sim.ret ?_
                refine SimE.thenR ?_
                refine SimE.thenR ?_
                exact SimE.fin (by kernel_rfl)
              · refine Sim.skip ?_
                refine SimE.thenN ?_
                refine Sim.seq ?_
                refine Sim.region0 ?_
                refine SimI.run 6 [(37, .agg [li .i64 a1.Rect.X0, li .i64 a1.Rect.Y0, li .i64 a1.Rect.X1, li .i64 a1.Rect.Y1]), (36, .one (.ptr 4 18)), (35, .one (li .i64 a2)), (34, .one (li .i64 a1.Session)), (33, .one (.ptr 4 17)), (32, .one (.ptr 1000000 14))] [] (by kernel_rfl) ?_
                refine SimI.bind (og := F45 n a1.Rect) { dst := some 38, op := POp.call false [[]] 45 [Operand.tmp 37], guard := none, hints := [(37, Hint.imm)] } (fun r7 => [(38, .agg [li .i64 r7.X0, li .i64 r7.Y0, li .i64 r7.X1, li .i64 r7.Y1])]) (fun r7 => []) (by kernel_rfl) (fun r7 hr => pOp_eff (by kernel_rfl) (by kernel_rfl) (eff_call (ARGS := [.agg [li .i64 a1.Rect.X0, li .i64 a1.Rect.Y0, li .i64 a1.Rect.X1, li .i64 a1.Rect.Y1]]) (by kernel_rfl) (args_clean (by kernel_rfl) args_nil) (F45_ok n a1.Rect r7 hr) (by kernel_rfl))) (fun r7 => ?_)
                refine SimI.run 3 [(40, .one (.ptr 1000000 14)), (39, .agg [lb true, li .i64 a1.Session, li .i64 a2, li .i64 r7.X0, li .i64 r7.Y0, li .i64 r7.X1, li .i64 r7.Y1])] [(1000000, some (.cells [lb a0.l.a0.On, li .i64 a0.l.a0.Session, li .i64 a0.l.a0.Start, li .i64 a0.l.a0.Rect.X0, li .i64 a0.l.a0.Rect.Y0, li .i64 a0.l.a0.Rect.X1, li .i64 a0.l.a0.Rect.Y1, lb a0.l.a1.On, li .i64 a0.l.a1.Session, li .i64 a0.l.a1.Start, li .i64 a0.l.a1.Rect.X0, li .i64 a0.l.a1.Rect.Y0, li .i64 a0.l.a1.Rect.X1, li .i64 a0.l.a1.Rect.Y1, lb true, li .i64 a1.Session, li .i64 a2, li .i64 r7.X0, li .i64 r7.Y0, li .i64 r7.X1, li .i64 r7.Y1, lb a0.l.a3.On, li .i64 a0.l.a3.Session, li .i64 a0.l.a3.Start, li .i64 a0.l.a3.Rect.X0, li .i64 a0.l.a3.Rect.Y0, li .i64 a0.l.a3.Rect.X1, li .i64 a0.l.a3.Rect.Y1]))] (by kernel_rfl) ?_
                refine SimI.done (by kernel_rfl) ?_
                refine SimE.thenN ?_
                refine Sim.seq ?_
                refine Sim.region0 ?_
                refine SimI.run 1 [(6, .one (li .i64 0))] [] (by kernel_rfl) ?_
                refine SimI.done (by kernel_rfl) ?_
                refine SimE.thenN ?_
                refine Sim.ret ?_
                refine SimE.thenR ?_
                exact SimE.fin (by kernel_rfl)
            · refine Sim.skip ?_
              refine SimE.thenN ?_
              refine Sim.seq ?_
              refine Sim.block ?_
              refine Sim.seq ?_
              refine Sim.region0 ?_
              refine SimI.run 6 [(54, .one (lb (!(a0.l.a2.On)))), (53, .one (lb (!(a0.l.a2.On)))), (52, .one (lb a0.l.a2.On)), (51, .one (.ptr 1000000 14)), (50, .one (.ptr 1000000 14)), (49, .one (.ptr 1000000 14))] [] (by kernel_rfl) ?_
              refine SimI.split 54 (!(a0.l.a2.On)) (by kernel_rfl) ?_ ?_
              · refine SimI.run 9 [(48, .one (lb true)), (62, .one (lb true)), (61, .tup []), (60, .tup []), (59, .tup []), (58, .tup []), (57, .tup []), (56, .tup []), (55, .tup [])] [] (by kernel_rfl) ?_
                refine SimI.done (by kernel_rfl) ?_
                refine SimE.thenN ?_
                refine Sim.condT (by kernel_rfl) ?_
                refine Sim.seq ?_
                refine Sim.region0 ?_
                refine SimI.run 1 [(6, .one (li .i64 20))] [] (by kernel_rfl) ?_
                refine SimI.done (by kernel_rfl) ?_
                refine SimE.thenN ?_
                refine Sim.ret ?_
                refine SimE.blockR ?_
                refine SimE.thenR ?_
                exact SimE.fin (by kernel_rfl)
              · refine SimI.run 9 [(48, .one (lb (a1.Session != a0.l.a2.Session))), (62, .one (lb (a1.Session != a0.l.a2.Session))), (61, .one (lb (a1.Session != a0.l.a2.Session))), (60, .one (li .i64 a0.l.a2.Session)), (59, .one (.ptr 1000000 15)), (58, .one (.ptr 1000000 14)), (57, .one (.ptr 1000000 14)), (56, .one (li .i64 a1.Session)), (55, .one (.ptr 4 17))] [] (by kernel_rfl) ?_
                refine SimI.done (by kernel_rfl) ?_
                refine SimE.thenN ?_
                refine Sim.cond (a1.Session != a0.l.a2.Session) (by kernel_rfl) ?_ ?_
                · refine Sim.seq ?_
                  refine Sim.region0 ?_
                  refine SimI.run 1 [(6, .one (li .i64 20))] [] (by kernel_rfl) ?_
                  refine SimI.done (by kernel_rfl) ?_
                  refine SimE.thenN ?_
                  refine Sim.ret ?_
                  refine SimE.blockR ?_
                  refine SimE.thenR ?_
                  exact SimE.fin (by kernel_rfl)
                · refine Sim.seq ?_
                  refine Sim.region0 ?_
                  refine SimI.run 4 [(63, .one (lb (a1.Kind == 7))), (66, .one (lb (a1.Kind == 7))), (65, .one (li .i64 a1.Kind)), (64, .one (.ptr 4 0))] [] (by kernel_rfl) ?_
                  refine SimI.done (by kernel_rfl) ?_
                  refine SimE.thenN ?_
                  refine Sim.cond (a1.Kind == 7) (by kernel_rfl) ?_ ?_
                  · refine Sim.region0 ?_
                    refine SimI.run 3 [(69, .agg [li .i64 a1.Rect.X0, li .i64 a1.Rect.Y0, li .i64 a1.Rect.X1, li .i64 a1.Rect.Y1]), (68, .one (.ptr 4 18)), (67, .one (.ptr 1000000 14))] [] (by kernel_rfl) ?_
                    refine SimI.bind (og := F45 n a1.Rect) { dst := some 70, op := POp.call true [[]] 45 [Operand.tmp 69], guard := none, hints := [] } (fun r8 => [(70, .agg [li .i64 r8.X0, li .i64 r8.Y0, li .i64 r8.X1, li .i64 r8.Y1])]) (fun r8 => []) (by kernel_rfl) (fun r8 hr => pOp_eff (by kernel_rfl) (by kernel_rfl) (eff_call (ARGS := [.agg [li .i64 a1.Rect.X0, li .i64 a1.Rect.Y0, li .i64 a1.Rect.X1, li .i64 a1.Rect.Y1]]) (by kernel_rfl) (args_clean (by kernel_rfl) args_nil) (F45_ok n a1.Rect r8 hr) (by kernel_rfl))) (fun r8 => ?_)
                    refine SimI.run 3 [(72, .one (.ptr 1000000 17)), (71, .one (.ptr 1000000 14))] [(1000000, some (.cells [lb a0.l.a0.On, li .i64 a0.l.a0.Session, li .i64 a0.l.a0.Start, li .i64 a0.l.a0.Rect.X0, li .i64 a0.l.a0.Rect.Y0, li .i64 a0.l.a0.Rect.X1, li .i64 a0.l.a0.Rect.Y1, lb a0.l.a1.On, li .i64 a0.l.a1.Session, li .i64 a0.l.a1.Start, li .i64 a0.l.a1.Rect.X0, li .i64 a0.l.a1.Rect.Y0, li .i64 a0.l.a1.Rect.X1, li .i64 a0.l.a1.Rect.Y1, lb a0.l.a2.On, li .i64 a0.l.a2.Session, li .i64 a0.l.a2.Start, li .i64 r8.X0, li .i64 r8.Y0, li .i64 r8.X1, li .i64 r8.Y1, lb a0.l.a3.On, li .i64 a0.l.a3.Session, li .i64 a0.l.a3.Start, li .i64 a0.l.a3.Rect.X0, li .i64 a0.l.a3.Rect.Y0, li .i64 a0.l.a3.Rect.X1, li .i64 a0.l.a3.Rect.Y1]))] (by kernel_rfl) ?_
                    refine SimI.done (by kernel_rfl) ?_
                    refine SimE.blockN ?_
                    refine SimE.thenN ?_
                    refine Sim.seq ?_
                    refine Sim.region0 ?_
                    refine SimI.run 1 [(6, .one (li .i64 0))] [] (by kernel_rfl) ?_
                    refine SimI.done (by kernel_rfl) ?_
                    refine SimE.thenN ?_
                    refine Sim.ret ?_
                    exact SimE.fin (by kernel_rfl)
                  · refine Sim.region0 ?_
                    refine SimI.run 9 [(47, .one (.ptr 1000000 17)), (46, .one (.ptr 1000000 14)), (45, .one (.ptr 1000000 14)), (44, .one (.ptr 1000000 14)), (43, .agg [li .i64 0, li .i64 0, li .i64 0, li .i64 0]), (42, .one (.ptr 1000000 14)), (41, .one (.ptr 1000000 14))] [(1000000, some (.cells [lb a0.l.a0.On, li .i64 a0.l.a0.Session, li .i64 a0.l.a0.Start, li .i64 a0.l.a0.Rect.X0, li .i64 a0.l.a0.Rect.Y0, li .i64 a0.l.a0.Rect.X1, li .i64 a0.l.a0.Rect.Y1, lb a0.l.a1.On, li .i64 a0.l.a1.Session, li .i64 a0.l.a1.Start, li .i64 a0.l.a1.Rect.X0, li .i64 a0.l.a1.Rect.Y0, li .i64 a0.l.a1.Rect.X1, li .i64 a0.l.a1.Rect.Y1, lb false, li .i64 a0.l.a2.Session, li .i64 a0.l.a2.Start, li .i64 0, li .i64 0, li .i64 0, li .i64 0, lb a0.l.a3.On, li .i64 a0.l.a3.Session, li .i64 a0.l.a3.Start, li .i64 a0.l.a3.Rect.X0, li .i64 a0.l.a3.Rect.Y0, li .i64 a0.l.a3.Rect.X1, li .i64 a0.l.a3.Rect.Y1])), (1000000, some (.cells [lb a0.l.a0.On, li .i64 a0.l.a0.Session, li .i64 a0.l.a0.Start, li .i64 a0.l.a0.Rect.X0, li .i64 a0.l.a0.Rect.Y0, li .i64 a0.l.a0.Rect.X1, li .i64 a0.l.a0.Rect.Y1, lb a0.l.a1.On, li .i64 a0.l.a1.Session, li .i64 a0.l.a1.Start, li .i64 a0.l.a1.Rect.X0, li .i64 a0.l.a1.Rect.Y0, li .i64 a0.l.a1.Rect.X1, li .i64 a0.l.a1.Rect.Y1, lb false, li .i64 a0.l.a2.Session, li .i64 a0.l.a2.Start, li .i64 a0.l.a2.Rect.X0, li .i64 a0.l.a2.Rect.Y0, li .i64 a0.l.a2.Rect.X1, li .i64 a0.l.a2.Rect.Y1, lb a0.l.a3.On, li .i64 a0.l.a3.Session, li .i64 a0.l.a3.Start, li .i64 a0.l.a3.Rect.X0, li .i64 a0.l.a3.Rect.Y0, li .i64 a0.l.a3.Rect.X1, li .i64 a0.l.a3.Rect.Y1]))] (by kernel_rfl) ?_
                    refine SimI.done (by kernel_rfl) ?_
                    refine SimE.blockN ?_
                    refine SimE.thenN ?_
                    refine Sim.seq ?_
                    refine Sim.region0 ?_
                    refine SimI.run 1 [(6, .one (li .i64 0))] [] (by kernel_rfl) ?_
                    refine SimI.done (by kernel_rfl) ?_
                    refine SimE.thenN ?_
                    refine Sim.ret ?_
                    exact SimE.fin (by kernel_rfl)
          · refine SimI.casei 18 .i64 a1.Client 3 (by kernel_rfl) ?_ ?_
            · refine SimI.run 2 [(7, .one (.ptr 1000000 21)), (21, .one (.ptr 1000000 21))] [] (by kernel_rfl) ?_
              refine SimI.done (by kernel_rfl) ?_
              refine SimE.thenN ?_
              refine Sim.seq ?_
              refine Sim.seq ?_
              refine Sim.region [(2, .one (li .i64 a2)), (4, .one (.ptr 4 0)), (7, .one (.ptr 1000000 21))] [(4, some (.cells [li .i64 a1.Kind, li .i64 a1.ID, li .i64 a1.Which, li .i64 a1.To, li .i64 a1.At.X, li .i64 a1.At.Y, li .i64 a1.F.a0.N, ls a1.F.a0.Text, li .i64 a1.F.a1.N, ls a1.F.a1.Text, li .i64 a1.F.a2.N, ls a1.F.a2.Text, li .i64 a1.F.a3.N, ls a1.F.a3.Text, li .i64 a1.Value.N, ls a1.Value.Text, li .i64 a1.Client, li .i64 a1.Session, li .i64 a1.Rect.X0, li .i64 a1.Rect.Y0, li .i64 a1.Rect.X1, li .i64 a1.Rect.Y1])), (1000000, some (.cells [lb a0.l.a0.On, li .i64 a0.l.a0.Session, li .i64 a0.l.a0.Start, li .i64 a0.l.a0.Rect.X0, li .i64 a0.l.a0.Rect.Y0, li .i64 a0.l.a0.Rect.X1, li .i64 a0.l.a0.Rect.Y1, lb a0.l.a1.On, li .i64 a0.l.a1.Session, li .i64 a0.l.a1.Start, li .i64 a0.l.a1.Rect.X0, li .i64 a0.l.a1.Rect.Y0, li .i64 a0.l.a1.Rect.X1, li .i64 a0.l.a1.Rect.Y1, lb a0.l.a2.On, li .i64 a0.l.a2.Session, li .i64 a0.l.a2.Start, li .i64 a0.l.a2.Rect.X0, li .i64 a0.l.a2.Rect.Y0, li .i64 a0.l.a2.Rect.X1, li .i64 a0.l.a2.Rect.Y1, lb a0.l.a3.On, li .i64 a0.l.a3.Session, li .i64 a0.l.a3.Start, li .i64 a0.l.a3.Rect.X0, li .i64 a0.l.a3.Rect.Y0, li .i64 a0.l.a3.Rect.X1, li .i64 a0.l.a3.Rect.Y1]))] (by kernel_rfl) ?_
              refine SimI.run 3 [(24, .one (lb (a1.Kind == 6))), (23, .one (li .i64 a1.Kind)), (22, .one (.ptr 4 0))] [] (by kernel_rfl) ?_
              refine SimI.done (by kernel_rfl) ?_
              refine SimE.thenN ?_
              refine Sim.cond (a1.Kind == 6) (by kernel_rfl) ?_ ?_
              · refine Sim.seq ?_
                refine Sim.seq ?_
                refine Sim.region0 ?_
                refine SimI.run 7 [(31, .one (lb (decide (a1.Session ≤ a0.l.a3.Session)))), (30, .one (li .i64 a0.l.a3.Session)), (29, .one (.ptr 1000000 22)), (28, .one (.ptr 1000000 21)), (27, .one (.ptr 1000000 21)), (26, .one (li .i64 a1.Session)), (25, .one (.ptr 4 17))] [] (by kernel_rfl) ?_
                refine SimI.done (by kernel_rfl) ?_
                refine SimE.thenN ?_
                refine Sim.cond (decide (a1.Session ≤ a0.l.a3.Session)) (by kernel_rfl) ?_ ?_
                · refine Sim.seq ?_
                  refine Sim.region0 ?_
                  refine SimI.run 1 [(6, .one (li .i64 20))] [] (by kernel_rfl) ?_
                  refine SimI.done (by kernel_rfl) ?_
                  refine SimE.thenN ?_
                  refine Sim.ret ?_
                  refine SimE.thenR ?_
                  refine SimE.thenR ?_
                  exact SimE.fin (by kernel_rfl)
                · refine Sim.skip ?_
                  refine SimE.thenN ?_
                  refine Sim.seq ?_
                  refine Sim.region0 ?_
                  refine SimI.run 6 [(37, .agg [li .i64 a1.Rect.X0, li .i64 a1.Rect.Y0, li .i64 a1.Rect.X1, li .i64 a1.Rect.Y1]), (36, .one (.ptr 4 18)), (35, .one (li .i64 a2)), (34, .one (li .i64 a1.Session)), (33, .one (.ptr 4 17)), (32, .one (.ptr 1000000 21))] [] (by kernel_rfl) ?_
                  refine SimI.bind (og := F45 n a1.Rect) { dst := some 38, op := POp.call false [[]] 45 [Operand.tmp 37], guard := none, hints := [(37, Hint.imm)] } (fun r9 => [(38, .agg [li .i64 r9.X0, li .i64 r9.Y0, li .i64 r9.X1, li .i64 r9.Y1])]) (fun r9 => []) (by kernel_rfl) (fun r9 hr => pOp_eff (by kernel_rfl) (by kernel_rfl) (eff_call (ARGS := [.agg [li .i64 a1.Rect.X0, li .i64 a1.Rect.Y0, li .i64 a1.Rect.X1, li .i64 a1.Rect.Y1]]) (by kernel_rfl) (args_clean (by kernel_rfl) args_nil) (F45_ok n a1.Rect r9 hr) (by kernel_rfl))) (fun r9 => ?_)
                  refine SimI.run 3 [(40, .one (.ptr 1000000 21)), (39, .agg [lb true, li .i64 a1.Session, li .i64 a2, li .i64 r9.X0, li .i64 r9.Y0, li .i64 r9.X1, li .i64 r9.Y1])] [(1000000, some (.cells [lb a0.l.a0.On, li .i64 a0.l.a0.Session, li .i64 a0.l.a0.Start, li .i64 a0.l.a0.Rect.X0, li .i64 a0.l.a0.Rect.Y0, li .i64 a0.l.a0.Rect.X1, li .i64 a0.l.a0.Rect.Y1, lb a0.l.a1.On, li .i64 a0.l.a1.Session, li .i64 a0.l.a1.Start, li .i64 a0.l.a1.Rect.X0, li .i64 a0.l.a1.Rect.Y0, li .i64 a0.l.a1.Rect.X1, li .i64 a0.l.a1.Rect.Y1, lb a0.l.a2.On, li .i64 a0.l.a2.Session, li .i64 a0.l.a2.Start, li .i64 a0.l.a2.Rect.X0, li .i64 a0.l.a2.Rect.Y0, li .i64 a0.l.a2.Rect.X1, li .i64 a0.l.a2.Rect.Y1, lb true, li .i64 a1.Session, li .i64 a2, li .i64 r9.X0, li .i64 r9.Y0, li .i64 r9.X1, li .i64 r9.Y1]))] (by kernel_rfl) ?_
                  refine SimI.done (by kernel_rfl) ?_
                  refine SimE.thenN ?_
                  refine Sim.seq ?_
                  refine Sim.region0 ?_
                  refine SimI.run 1 [(6, .one (li .i64 0))] [] (by kernel_rfl) ?_
                  refine SimI.done (by kernel_rfl) ?_
                  refine SimE.thenN ?_
                  refine Sim.ret ?_
                  refine SimE.thenR ?_
                  exact SimE.fin (by kernel_rfl)
              · refine Sim.skip ?_
                refine SimE.thenN ?_
                refine Sim.seq ?_
                refine Sim.block ?_
                refine Sim.seq ?_
                refine Sim.region0 ?_
                refine SimI.run 6 [(54, .one (lb (!(a0.l.a3.On)))), (53, .one (lb (!(a0.l.a3.On)))), (52, .one (lb a0.l.a3.On)), (51, .one (.ptr 1000000 21)), (50, .one (.ptr 1000000 21)), (49, .one (.ptr 1000000 21))] [] (by kernel_rfl) ?_
                refine SimI.split 54 (!(a0.l.a3.On)) (by kernel_rfl) ?_ ?_
                · refine SimI.run 9 [(48, .one (lb true)), (62, .one (lb true)), (61, .tup []), (60, .tup []), (59, .tup []), (58, .tup []), (57, .tup []), (56, .tup []), (55, .tup [])] [] (by kernel_rfl) ?_
                  refine SimI.done (by kernel_rfl) ?_
                  refine SimE.thenN ?_
                  refine Sim.condT (by kernel_rfl) ?_
                  refine Sim.seq ?_
                  refine Sim.region0 ?_
                  refine SimI.run 1 [(6, .one (li .i64 20))] [] (by kernel_rfl) ?_
                  refine SimI.done (by kernel_rfl) ?_
                  refine SimE.thenN ?_
                  refine Sim.ret ?_
                  refine SimE.blockR ?_
                  refine SimE.thenR ?_
                  exact SimE.fin (by kernel_rfl)
                · refine SimI.run 9 [(48, .one (lb (a1.Session != a0.l.a3.Session))), (62, .one (lb (a1.Session != a0.l.a3.Session))), (61, .one (lb (a1.Session != a0.l.a3.Session))), (60, .one (li .i64 a0.l.a3.Session)), (59, .one (.ptr 1000000 22)), (58, .one (.ptr 1000000 21)), (57, .one (.ptr 1000000 21)), (56, .one (li .i64 a1.Session)), (55, .one (.ptr 4 17))] [] (by kernel_rfl) ?_
                  refine SimI.done (by kernel_rfl) ?_
                  refine SimE.thenN ?_
                  refine Sim.cond (a1.Session != a0.l.a3.Session) (by kernel_rfl) ?_ ?_
                  · refine Sim.seq ?_
                    refine Sim.region0 ?_
                    refine SimI.run 1 [(6, .one (li .i64 20))] [] (by kernel_rfl) ?_
                    refine SimI.done (by kernel_rfl) ?_
                    refine SimE.thenN ?_
                    refine Sim.ret ?_
                    refine SimE.blockR ?_
                    refine SimE.thenR ?_
                    exact SimE.fin (by kernel_rfl)
                  · refine Sim.seq ?_
                    refine Sim.region0 ?_
                    refine SimI.run 4 [(63, .one (lb (a1.Kind == 7))), (66, .one (lb (a1.Kind == 7))), (65, .one (li .i64 a1.Kind)), (64, .one (.ptr 4 0))] [] (by kernel_rfl) ?_
                    refine SimI.done (by kernel_rfl) ?_
                    refine SimE.thenN ?_
                    refine Sim.cond (a1.Kind == 7) (by kernel_rfl) ?_ ?_
                    · refine Sim.region0 ?_
                      refine SimI.run 3 [(69, .agg [li .i64 a1.Rect.X0, li .i64 a1.Rect.Y0, li .i64 a1.Rect.X1, li .i64 a1.Rect.Y1]), (68, .one (.ptr 4 18)), (67, .one (.ptr 1000000 21))] [] (by kernel_rfl) ?_
                      refine SimI.bind (og := F45 n a1.Rect) { dst := some 70, op := POp.call true [[]] 45 [Operand.tmp 69], guard := none, hints := [] } (fun r10 => [(70, .agg [li .i64 r10.X0, li .i64 r10.Y0, li .i64 r10.X1, li .i64 r10.Y1])]) (fun r10 => []) (by kernel_rfl) (fun r10 hr => pOp_eff (by kernel_rfl) (by kernel_rfl) (eff_call (ARGS := [.agg [li .i64 a1.Rect.X0, li .i64 a1.Rect.Y0, li .i64 a1.Rect.X1, li .i64 a1.Rect.Y1]]) (by kernel_rfl) (args_clean (by kernel_rfl) args_nil) (F45_ok n a1.Rect r10 hr) (by kernel_rfl))) (fun r10 => ?_)
                      refine SimI.run 3 [(72, .one (.ptr 1000000 24)), (71, .one (.ptr 1000000 21))] [(1000000, some (.cells [lb a0.l.a0.On, li .i64 a0.l.a0.Session, li .i64 a0.l.a0.Start, li .i64 a0.l.a0.Rect.X0, li .i64 a0.l.a0.Rect.Y0, li .i64 a0.l.a0.Rect.X1, li .i64 a0.l.a0.Rect.Y1, lb a0.l.a1.On, li .i64 a0.l.a1.Session, li .i64 a0.l.a1.Start, li .i64 a0.l.a1.Rect.X0, li .i64 a0.l.a1.Rect.Y0, li .i64 a0.l.a1.Rect.X1, li .i64 a0.l.a1.Rect.Y1, lb a0.l.a2.On, li .i64 a0.l.a2.Session, li .i64 a0.l.a2.Start, li .i64 a0.l.a2.Rect.X0, li .i64 a0.l.a2.Rect.Y0, li .i64 a0.l.a2.Rect.X1, li .i64 a0.l.a2.Rect.Y1, lb a0.l.a3.On, li .i64 a0.l.a3.Session, li .i64 a0.l.a3.Start, li .i64 r10.X0, li .i64 r10.Y0, li .i64 r10.X1, li .i64 r10.Y1]))] (by kernel_rfl) ?_
                      refine SimI.done (by kernel_rfl) ?_
                      refine SimE.blockN ?_
                      refine SimE.thenN ?_
                      refine Sim.seq ?_
                      refine Sim.region0 ?_
                      refine SimI.run 1 [(6, .one (li .i64 0))] [] (by kernel_rfl) ?_
                      refine SimI.done (by kernel_rfl) ?_
                      refine SimE.thenN ?_
                      refine Sim.ret ?_
                      exact SimE.fin (by kernel_rfl)
                    · refine Sim.region0 ?_
                      refine SimI.run 9 [(47, .one (.ptr 1000000 24)), (46, .one (.ptr 1000000 21)), (45, .one (.ptr 1000000 21)), (44, .one (.ptr 1000000 21)), (43, .agg [li .i64 0, li .i64 0, li .i64 0, li .i64 0]), (42, .one (.ptr 1000000 21)), (41, .one (.ptr 1000000 21))] [(1000000, some (.cells [lb a0.l.a0.On, li .i64 a0.l.a0.Session, li .i64 a0.l.a0.Start, li .i64 a0.l.a0.Rect.X0, li .i64 a0.l.a0.Rect.Y0, li .i64 a0.l.a0.Rect.X1, li .i64 a0.l.a0.Rect.Y1, lb a0.l.a1.On, li .i64 a0.l.a1.Session, li .i64 a0.l.a1.Start, li .i64 a0.l.a1.Rect.X0, li .i64 a0.l.a1.Rect.Y0, li .i64 a0.l.a1.Rect.X1, li .i64 a0.l.a1.Rect.Y1, lb a0.l.a2.On, li .i64 a0.l.a2.Session, li .i64 a0.l.a2.Start, li .i64 a0.l.a2.Rect.X0, li .i64 a0.l.a2.Rect.Y0, li .i64 a0.l.a2.Rect.X1, li .i64 a0.l.a2.Rect.Y1, lb false, li .i64 a0.l.a3.Session, li .i64 a0.l.a3.Start, li .i64 0, li .i64 0, li .i64 0, li .i64 0])), (1000000, some (.cells [lb a0.l.a0.On, li .i64 a0.l.a0.Session, li .i64 a0.l.a0.Start, li .i64 a0.l.a0.Rect.X0, li .i64 a0.l.a0.Rect.Y0, li .i64 a0.l.a0.Rect.X1, li .i64 a0.l.a0.Rect.Y1, lb a0.l.a1.On, li .i64 a0.l.a1.Session, li .i64 a0.l.a1.Start, li .i64 a0.l.a1.Rect.X0, li .i64 a0.l.a1.Rect.Y0, li .i64 a0.l.a1.Rect.X1, li .i64 a0.l.a1.Rect.Y1, lb a0.l.a2.On, li .i64 a0.l.a2.Session, li .i64 a0.l.a2.Start, li .i64 a0.l.a2.Rect.X0, li .i64 a0.l.a2.Rect.Y0, li .i64 a0.l.a2.Rect.X1, li .i64 a0.l.a2.Rect.Y1, lb false, li .i64 a0.l.a3.Session, li .i64 a0.l.a3.Start, li .i64 a0.l.a3.Rect.X0, li .i64 a0.l.a3.Rect.Y0, li .i64 a0.l.a3.Rect.X1, li .i64 a0.l.a3.Rect.Y1]))] (by kernel_rfl) ?_
                      refine SimI.done (by kernel_rfl) ?_
                      refine SimE.blockN ?_
                      refine SimE.thenN ?_
                      refine Sim.seq ?_
                      refine Sim.region0 ?_
                      refine SimI.run 1 [(6, .one (li .i64 0))] [] (by kernel_rfl) ?_
                      refine SimI.done (by kernel_rfl) ?_
                      refine SimE.thenN ?_
                      refine Sim.ret ?_
                      exact SimE.fin (by kernel_rfl)
            · exact SimI.vac rfl


-- 41: (*vedette/watch.Book).All
def F41_e : ((A4 Watch) × Book) → PV × List Ob := fun r => (.agg [lb r.1.a0.On, li .i64 r.1.a0.Session, li .i64 r.1.a0.Start, li .i64 r.1.a0.Rect.X0, li .i64 r.1.a0.Rect.Y0, li .i64 r.1.a0.Rect.X1, li .i64 r.1.a0.Rect.Y1, lb r.1.a1.On, li .i64 r.1.a1.Session, li .i64 r.1.a1.Start, li .i64 r.1.a1.Rect.X0, li .i64 r.1.a1.Rect.Y0, li .i64 r.1.a1.Rect.X1, li .i64 r.1.a1.Rect.Y1, lb r.1.a2.On, li .i64 r.1.a2.Session, li .i64 r.1.a2.Start, li .i64 r.1.a2.Rect.X0, li .i64 r.1.a2.Rect.Y0, li .i64 r.1.a2.Rect.X1, li .i64 r.1.a2.Rect.Y1, lb r.1.a3.On, li .i64 r.1.a3.Session, li .i64 r.1.a3.Start, li .i64 r.1.a3.Rect.X0, li .i64 r.1.a3.Rect.Y0, li .i64 r.1.a3.Rect.X1, li .i64 r.1.a3.Rect.Y1], [.cells [lb r.2.l.a0.On, li .i64 r.2.l.a0.Session, li .i64 r.2.l.a0.Start, li .i64 r.2.l.a0.Rect.X0, li .i64 r.2.l.a0.Rect.Y0, li .i64 r.2.l.a0.Rect.X1, li .i64 r.2.l.a0.Rect.Y1, lb r.2.l.a1.On, li .i64 r.2.l.a1.Session, li .i64 r.2.l.a1.Start, li .i64 r.2.l.a1.Rect.X0, li .i64 r.2.l.a1.Rect.Y0, li .i64 r.2.l.a1.Rect.X1, li .i64 r.2.l.a1.Rect.Y1, lb r.2.l.a2.On, li .i64 r.2.l.a2.Session, li .i64 r.2.l.a2.Start, li .i64 r.2.l.a2.Rect.X0, li .i64 r.2.l.a2.Rect.Y0, li .i64 r.2.l.a2.Rect.X1, li .i64 r.2.l.a2.Rect.Y1, lb r.2.l.a3.On, li .i64 r.2.l.a3.Session, li .i64 r.2.l.a3.Start, li .i64 r.2.l.a3.Rect.X0, li .i64 r.2.l.a3.Rect.Y0, li .i64 r.2.l.a3.Rect.X1, li .i64 r.2.l.a3.Rect.Y1]])
def F41 (n : Nat) (a0 : Book) : Option ((A4 Watch) × Book) :=
  some (a0.l, a0)
theorem F41_ok (n : Nat) (a0 : Book) : ∀ r, F41 n a0 = some r → D 41 [.one (.ptr 1000000 0)] [.cells [lb a0.l.a0.On, li .i64 a0.l.a0.Session, li .i64 a0.l.a0.Start, li .i64 a0.l.a0.Rect.X0, li .i64 a0.l.a0.Rect.Y0, li .i64 a0.l.a0.Rect.X1, li .i64 a0.l.a0.Rect.Y1, lb a0.l.a1.On, li .i64 a0.l.a1.Session, li .i64 a0.l.a1.Start, li .i64 a0.l.a1.Rect.X0, li .i64 a0.l.a1.Rect.Y0, li .i64 a0.l.a1.Rect.X1, li .i64 a0.l.a1.Rect.Y1, lb a0.l.a2.On, li .i64 a0.l.a2.Session, li .i64 a0.l.a2.Start, li .i64 a0.l.a2.Rect.X0, li .i64 a0.l.a2.Rect.Y0, li .i64 a0.l.a2.Rect.X1, li .i64 a0.l.a2.Rect.Y1, lb a0.l.a3.On, li .i64 a0.l.a3.Session, li .i64 a0.l.a3.Start, li .i64 a0.l.a3.Rect.X0, li .i64 a0.l.a3.Rect.Y0, li .i64 a0.l.a3.Rect.X1, li .i64 a0.l.a3.Rect.Y1]] = some (F41_e r) := by
  refine fn_to (D := D) (n := n + 8) (nt := 7) (rs := pc41_r) (c := pc41_c5) (L := [(0, .one (.ptr 1000000 0))]) (M := [(1000000, some (.cells [lb a0.l.a0.On, li .i64 a0.l.a0.Session, li .i64 a0.l.a0.Start, li .i64 a0.l.a0.Rect.X0, li .i64 a0.l.a0.Rect.Y0, li .i64 a0.l.a0.Rect.X1, li .i64 a0.l.a0.Rect.Y1, lb a0.l.a1.On, li .i64 a0.l.a1.Session, li .i64 a0.l.a1.Start, li .i64 a0.l.a1.Rect.X0, li .i64 a0.l.a1.Rect.Y0, li .i64 a0.l.a1.Rect.X1, li .i64 a0.l.a1.Rect.Y1, lb a0.l.a2.On, li .i64 a0.l.a2.Session, li .i64 a0.l.a2.Start, li .i64 a0.l.a2.Rect.X0, li .i64 a0.l.a2.Rect.Y0, li .i64 a0.l.a2.Rect.X1, li .i64 a0.l.a2.Rect.Y1, lb a0.l.a3.On, li .i64 a0.l.a3.Session, li .i64 a0.l.a3.Start, li .i64 a0.l.a3.Rect.X0, li .i64 a0.l.a3.Rect.Y0, li .i64 a0.l.a3.Rect.X1, li .i64 a0.l.a3.Rect.Y1]))]) (k := 1) rfl rfl rfl rfl rfl rfl rfl ?_
  unfold F41
  refine Sim.seq ?_
  refine Sim.region0 ?_
  refine SimI.run 1 [(2, .one (.ptr 2 0))] [(2, some (.cells [lb false, li .i64 0, li .i64 0, li .i64 0, li .i64 0, li .i64 0, li .i64 0, lb false, li .i64 0, li .i64 0, li .i64 0, li .i64 0, li .i64 0, li .i64 0, lb false, li .i64 0, li .i64 0, li .i64 0, li .i64 0, li .i64 0, li .i64 0, lb false, li .i64 0, li .i64 0, li .i64 0, li .i64 0, li .i64 0, li .i64 0]))] (by kernel_rfl) ?_
  refine SimI.done (by kernel_rfl) ?_
  refine SimE.thenN ?_
  refine Sim.seq ?_
  refine Sim.region0 ?_
  refine SimI.run 5 [(6, .agg [lb a0.l.a0.On, li .i64 a0.l.a0.Session, li .i64 a0.l.a0.Start, li .i64 a0.l.a0.Rect.X0, li .i64 a0.l.a0.Rect.Y0, li .i64 a0.l.a0.Rect.X1, li .i64 a0.l.a0.Rect.Y1, lb a0.l.a1.On, li .i64 a0.l.a1.Session, li .i64 a0.l.a1.Start, li .i64 a0.l.a1.Rect.X0, li .i64 a0.l.a1.Rect.Y0, li .i64 a0.l.a1.Rect.X1, li .i64 a0.l.a1.Rect.Y1, lb a0.l.a2.On, li .i64 a0.l.a2.Session, li .i64 a0.l.a2.Start, li .i64 a0.l.a2.Rect.X0, li .i64 a0.l.a2.Rect.Y0, li .i64 a0.l.a2.Rect.X1, li .i64 a0.l.a2.Rect.Y1, lb a0.l.a3.On, li .i64 a0.l.a3.Session, li .i64 a0.l.a3.Start, li .i64 a0.l.a3.Rect.X0, li .i64 a0.l.a3.Rect.Y0, li .i64 a0.l.a3.Rect.X1, li .i64 a0.l.a3.Rect.Y1]), (5, .one (.ptr 1000000 0)), (4, .one (.ptr 1000000 0)), (3, .one (.ptr 1000000 0))] [(2, some (.cells [lb a0.l.a0.On, li .i64 a0.l.a0.Session, li .i64 a0.l.a0.Start, li .i64 a0.l.a0.Rect.X0, li .i64 a0.l.a0.Rect.Y0, li .i64 a0.l.a0.Rect.X1, li .i64 a0.l.a0.Rect.Y1, lb a0.l.a1.On, li .i64 a0.l.a1.Session, li .i64 a0.l.a1.Start, li .i64 a0.l.a1.Rect.X0, li .i64 a0.l.a1.Rect.Y0, li .i64 a0.l.a1.Rect.X1, li .i64 a0.l.a1.Rect.Y1, lb a0.l.a2.On, li .i64 a0.l.a2.Session, li .i64 a0.l.a2.Start, li .i64 a0.l.a2.Rect.X0, li .i64 a0.l.a2.Rect.Y0, li .i64 a0.l.a2.Rect.X1, li .i64 a0.l.a2.Rect.Y1, lb a0.l.a3.On, li .i64 a0.l.a3.Session, li .i64 a0.l.a3.Start, li .i64 a0.l.a3.Rect.X0, li .i64 a0.l.a3.Rect.Y0, li .i64 a0.l.a3.Rect.X1, li .i64 a0.l.a3.Rect.Y1]))] (by kernel_rfl) ?_
  refine SimI.done (by kernel_rfl) ?_
  refine SimE.thenN ?_
  refine Sim.ret ?_
  exact SimE.fin (by kernel_rfl)


-- 44: (*vedette/watch.Book).Of
def F44_e : (Watch × Book) → PV × List Ob := fun r => (.agg [lb r.1.On, li .i64 r.1.Session, li .i64 r.1.Start, li .i64 r.1.Rect.X0, li .i64 r.1.Rect.Y0, li .i64 r.1.Rect.X1, li .i64 r.1.Rect.Y1], [.cells [lb r.2.l.a0.On, li .i64 r.2.l.a0.Session, li .i64 r.2.l.a0.Start, li .i64 r.2.l.a0.Rect.X0, li .i64 r.2.l.a0.Rect.Y0, li .i64 r.2.l.a0.Rect.X1, li .i64 r.2.l.a0.Rect.Y1, lb r.2.l.a1.On, li .i64 r.2.l.a1.Session, li .i64 r.2.l.a1.Start, li .i64 r.2.l.a1.Rect.X0, li .i64 r.2.l.a1.Rect.Y0, li .i64 r.2.l.a1.Rect.X1, li .i64 r.2.l.a1.Rect.Y1, lb r.2.l.a2.On, li .i64 r.2.l.a2.Session, li .i64 r.2.l.a2.Start, li .i64 r.2.l.a2.Rect.X0, li .i64 r.2.l.a2.Rect.Y0, li .i64 r.2.l.a2.Rect.X1, li .i64 r.2.l.a2.Rect.Y1, lb r.2.l.a3.On, li .i64 r.2.l.a3.Session, li .i64 r.2.l.a3.Start, li .i64 r.2.l.a3.Rect.X0, li .i64 r.2.l.a3.Rect.Y0, li .i64 r.2.l.a3.Rect.X1, li .i64 r.2.l.a3.Rect.Y1]])
def F44 (n : Nat) (a0 : Book) (a1 : Int) : Option (Watch × Book) :=
  if decide (a1 < 0) then
    some ((Watch.mk false 0 0 (Rect.mk 0 0 0 0)), a0)
  else
    if decide ((4 : Int) ≤ a1) then
      some ((Watch.mk false 0 0 (Rect.mk 0 0 0 0)), a0)
    else
      if a1 = 0 then
        some (a0.l.a0, a0)
      else
        if a1 = 1 then
          some (a0.l.a1, a0)
        else
          if a1 = 2 then
            some (a0.l.a2, a0)
          else
            if a1 = 3 then
              some (a0.l.a3, a0)
            else
              none
theorem F44_ok (n : Nat) (a0 : Book) (a1 : Int) : ∀ r, F44 n a0 a1 = some r → D 44 [.one (.ptr 1000000 0), .one (li .i64 a1)] [.cells [lb a0.l.a0.On, li .i64 a0.l.a0.Session, li .i64 a0.l.a0.Start, li .i64 a0.l.a0.Rect.X0, li .i64 a0.l.a0.Rect.Y0, li .i64 a0.l.a0.Rect.X1, li .i64 a0.l.a0.Rect.Y1, lb a0.l.a1.On, li .i64 a0.l.a1.Session, li .i64 a0.l.a1.Start, li .i64 a0.l.a1.Rect.X0, li .i64 a0.l.a1.Rect.Y0, li .i64 a0.l.a1.Rect.X1, li .i64 a0.l.a1.Rect.Y1, lb a0.l.a2.On, li .i64 a0.l.a2.Session, li .i64 a0.l.a2.Start, li .i64 a0.l.a2.Rect.X0, li .i64 a0.l.a2.Rect.Y0, li .i64 a0.l.a2.Rect.X1, li .i64 a0.l.a2.Rect.Y1, lb a0.l.a3.On, li .i64 a0.l.a3.Session, li .i64 a0.l.a3.Start, li .i64 a0.l.a3.Rect.X0, li .i64 a0.l.a3.Rect.Y0, li .i64 a0.l.a3.Rect.X1, li .i64 a0.l.a3.Rect.Y1]] = some (F44_e r) := by
  refine fn_to (D := D) (n := n + 8) (nt := 18) (rs := pc44_r) (c := pc44_c13) (L := [(0, .one (.ptr 1000000 0)), (1, .one (li .i64 a1))]) (M := [(1000000, some (.cells [lb a0.l.a0.On, li .i64 a0.l.a0.Session, li .i64 a0.l.a0.Start, li .i64 a0.l.a0.Rect.X0, li .i64 a0.l.a0.Rect.Y0, li .i64 a0.l.a0.Rect.X1, li .i64 a0.l.a0.Rect.Y1, lb a0.l.a1.On, li .i64 a0.l.a1.Session, li .i64 a0.l.a1.Start, li .i64 a0.l.a1.Rect.X0, li .i64 a0.l.a1.Rect.Y0, li .i64 a0.l.a1.Rect.X1, li .i64 a0.l.a1.Rect.Y1, lb a0.l.a2.On, li .i64 a0.l.a2.Session, li .i64 a0.l.a2.Start, li .i64 a0.l.a2.Rect.X0, li .i64 a0.l.a2.Rect.Y0, li .i64 a0.l.a2.Rect.X1, li .i64 a0.l.a2.Rect.Y1, lb a0.l.a3.On, li .i64 a0.l.a3.Session, li .i64 a0.l.a3.Start, li .i64 a0.l.a3.Rect.X0, li .i64 a0.l.a3.Rect.Y0, li .i64 a0.l.a3.Rect.X1, li .i64 a0.l.a3.Rect.Y1]))]) (k := 1) rfl rfl rfl rfl rfl rfl rfl ?_
  unfold F44
  refine Sim.seq ?_
  refine Sim.region0 ?_
  refine SimI.run 1 [(4, .one (.ptr 4 0))] [(4, some (.cells [lb false, li .i64 0, li .i64 0, li .i64 0, li .i64 0, li .i64 0, li .i64 0]))] (by kernel_rfl) ?_
  refine SimI.done (by kernel_rfl) ?_
  refine SimE.thenN ?_
  refine Sim.seq ?_
  refine Sim.seq ?_
  refine Sim.region0 ?_
  refine SimI.run 3 [(7, .one (lb (decide (a1 < 0)))), (6, .one (lb (decide (a1 < 0)))), (5, .one (li .i64 a1))] [] (by kernel_rfl) ?_
  refine SimI.split 7 (decide (a1 < 0)) (by kernel_rfl) ?_ ?_
  · refine SimI.run 3 [(10, .one (lb true)), (9, .tup []), (8, .tup [])] [] (by kernel_rfl) ?_
    refine SimI.done (by kernel_rfl) ?_
    refine SimE.thenN ?_
    refine Sim.condT (by kernel_rfl) ?_
    refine Sim.seq ?_
    refine Sim.region0 ?_
    refine SimI.run 2 [(11, .agg [lb false, li .i64 0, li .i64 0, li .i64 0, li .i64 0, li .i64 0, li .i64 0])] [(4, some (.cells [lb false, li .i64 0, li .i64 0, li .i64 0, li .i64 0, li .i64 0, li .i64 0]))] (by kernel_rfl) ?_
    refine SimI.done (by kernel_rfl) ?_
    refine SimE.thenN ?_
    refine Sim.ret ?_
    refine SimE.thenR ?_
    exact SimE.fin (by kernel_rfl)
  · refine SimI.run 3 [(10, .one (lb (decide ((4 : Int) ≤ a1)))), (9, .one (lb (decide ((4 : Int) ≤ a1)))), (8, .one (li .i64 a1))] [] (by kernel_rfl) ?_
    refine SimI.done (by kernel_rfl) ?_
    refine SimE.thenN ?_
    refine Sim.cond (decide ((4 : Int) ≤ a1)) (by kernel_rfl) ?_ ?_
    · refine Sim.seq ?_
      refine Sim.region0 ?_
      refine SimI.run 2 [(11, .agg [lb false, li .i64 0, li .i64 0, li .i64 0, li .i64 0, li .i64 0, li .i64 0])] [(4, some (.cells [lb false, li .i64 0, li .i64 0, li .i64 0, li .i64 0, li .i64 0, li .i64 0]))] (by kernel_rfl) ?_
      refine SimI.done (by kernel_rfl) ?_
      refine SimE.thenN ?_
      refine Sim.ret ?_
      refine SimE.thenR ?_
      exact SimE.fin (by kernel_rfl)
    · refine Sim.skip ?_
      refine SimE.thenN ?_
      refine Sim.seq ?_
      refine Sim.region0 ?_
      refine SimI.run 4 [(15, .one (.ptr 1000000 0)), (14, .one (.ptr 1000000 0)), (13, .one (li .i64 a1)), (12, .one (.ptr 1000000 0))] [] (by kernel_rfl) ?_
      refine SimI.casei 13 .i64 a1 0 (by kernel_rfl) ?_ ?_
      · refine SimI.run 3 [(17, .agg [lb a0.l.a0.On, li .i64 a0.l.a0.Session, li .i64 a0.l.a0.Start, li .i64 a0.l.a0.Rect.X0, li .i64 a0.l.a0.Rect.Y0, li .i64 a0.l.a0.Rect.X1, li .i64 a0.l.a0.Rect.Y1]), (16, .one (.ptr 1000000 0))] [(4, some (.cells [lb a0.l.a0.On, li .i64 a0.l.a0.Session, li .i64 a0.l.a0.Start, li .i64 a0.l.a0.Rect.X0, li .i64 a0.l.a0.Rect.Y0, li .i64 a0.l.a0.Rect.X1, li .i64 a0.l.a0.Rect.Y1]))] (by kernel_rfl) ?_
        refine SimI.done (by kernel_rfl) ?_
        refine SimE.thenN ?_
        refine Sim.ret ?_
        exact SimE.fin (by kernel_rfl)
      · refine SimI.casei 13 .i64 a1 1 (by kernel_rfl) ?_ ?_
        · refine SimI.run 3 [(17, .agg [lb a0.l.a1.On, li .i64 a0.l.a1.Session, li .i64 a0.l.a1.Start, li .i64 a0.l.a1.Rect.X0, li .i64 a0.l.a1.Rect.Y0, li .i64 a0.l.a1.Rect.X1, li .i64 a0.l.a1.Rect.Y1]), (16, .one (.ptr 1000000 7))] [(4, some (.cells [lb a0.l.a1.On, li .i64 a0.l.a1.Session, li .i64 a0.l.a1.Start, li .i64 a0.l.a1.Rect.X0, li .i64 a0.l.a1.Rect.Y0, li .i64 a0.l.a1.Rect.X1, li .i64 a0.l.a1.Rect.Y1]))] (by kernel_rfl) ?_
          refine SimI.done (by kernel_rfl) ?_
          refine SimE.thenN ?_
          refine Sim.ret ?_
          exact SimE.fin (by kernel_rfl)
        · refine SimI.casei 13 .i64 a1 2 (by kernel_rfl) ?_ ?_
          · refine SimI.run 3 [(17, .agg [lb a0.l.a2.On, li .i64 a0.l.a2.Session, li .i64 a0.l.a2.Start, li .i64 a0.l.a2.Rect.X0, li .i64 a0.l.a2.Rect.Y0, li .i64 a0.l.a2.Rect.X1, li .i64 a0.l.a2.Rect.Y1]), (16, .one (.ptr 1000000 14))] [(4, some (.cells [lb a0.l.a2.On, li .i64 a0.l.a2.Session, li .i64 a0.l.a2.Start, li .i64 a0.l.a2.Rect.X0, li .i64 a0.l.a2.Rect.Y0, li .i64 a0.l.a2.Rect.X1, li .i64 a0.l.a2.Rect.Y1]))] (by kernel_rfl) ?_
            refine SimI.done (by kernel_rfl) ?_
            refine SimE.thenN ?_
            refine Sim.ret ?_
            exact SimE.fin (by kernel_rfl)
          · refine SimI.casei 13 .i64 a1 3 (by kernel_rfl) ?_ ?_
            · refine SimI.run 3 [(17, .agg [lb a0.l.a3.On, li .i64 a0.l.a3.Session, li .i64 a0.l.a3.Start, li .i64 a0.l.a3.Rect.X0, li .i64 a0.l.a3.Rect.Y0, li .i64 a0.l.a3.Rect.X1, li .i64 a0.l.a3.Rect.Y1]), (16, .one (.ptr 1000000 21))] [(4, some (.cells [lb a0.l.a3.On, li .i64 a0.l.a3.Session, li .i64 a0.l.a3.Start, li .i64 a0.l.a3.Rect.X0, li .i64 a0.l.a3.Rect.Y0, li .i64 a0.l.a3.Rect.X1, li .i64 a0.l.a3.Rect.Y1]))] (by kernel_rfl) ?_
              refine SimI.done (by kernel_rfl) ?_
              refine SimE.thenN ?_
              refine Sim.ret ?_
              exact SimE.fin (by kernel_rfl)
            · exact SimI.vac rfl


-- 51: vedette/geom.In
def F51_e : Bool → PV × List Ob := fun r => (.one (lb r), [])
def F51 (n : Nat) (a0 : Rect) (a1 : Point) : Option Bool :=
  if decide (a0.X0 ≤ a1.X) then
    if decide (a1.X < a0.X1) then
      if decide (a0.Y0 ≤ a1.Y) then
        some (decide (a1.Y < a0.Y1))
      else
        some false
    else
      some false
  else
    some false
theorem F51_ok (n : Nat) (a0 : Rect) (a1 : Point) : ∀ r, F51 n a0 a1 = some r → D 51 [.agg [li .i64 a0.X0, li .i64 a0.Y0, li .i64 a0.X1, li .i64 a0.Y1], .agg [li .i64 a1.X, li .i64 a1.Y]] [] = some (F51_e r) := by
  refine fn_to (D := D) (n := n + 8) (nt := 31) (rs := pc51_r) (c := pc51_c5) (L := [(0, .agg [li .i64 a0.X0, li .i64 a0.Y0, li .i64 a0.X1, li .i64 a0.Y1]), (1, .agg [li .i64 a1.X, li .i64 a1.Y])]) (M := []) (k := 0) rfl rfl rfl rfl rfl rfl rfl ?_
  unfold F51
  refine Sim.seq ?_
  refine Sim.region0 ?_
  refine SimI.run 3 [(4, .one (lb false)), (3, .one (.ptr 3 0)), (2, .one (.ptr 2 0))] [(3, some (.cells [li .i64 a1.X, li .i64 a1.Y])), (2, some (.cells [li .i64 a0.X0, li .i64 a0.Y0, li .i64 a0.X1, li .i64 a0.Y1]))] (by kernel_rfl) ?_
  refine SimI.done (by kernel_rfl) ?_
  refine SimE.thenN ?_
  refine Sim.seq ?_
  refine Sim.region0 ?_
  refine SimI.run 6 [(10, .one (lb (decide (a0.X0 ≤ a1.X)))), (9, .one (lb (decide (a0.X0 ≤ a1.X)))), (8, .one (li .i64 a0.X0)), (7, .one (.ptr 2 0)), (6, .one (li .i64 a1.X)), (5, .one (.ptr 3 0))] [] (by kernel_rfl) ?_
  refine SimI.split 10 (decide (a0.X0 ≤ a1.X)) (by kernel_rfl) ?_ ?_
  · refine SimI.run 7 [(17, .one (lb (decide (a1.X < a0.X1)))), (16, .one (lb (decide (a1.X < a0.X1)))), (15, .one (lb (decide (a1.X < a0.X1)))), (14, .one (li .i64 a0.X1)), (13, .one (.ptr 2 2)), (12, .one (li .i64 a1.X)), (11, .one (.ptr 3 0))] [] (by kernel_rfl) ?_
    refine SimI.split 17 (decide (a1.X < a0.X1)) (by kernel_rfl) ?_ ?_
    · refine SimI.run 7 [(24, .one (lb (decide (a0.Y0 ≤ a1.Y)))), (23, .one (lb (decide (a0.Y0 ≤ a1.Y)))), (22, .one (lb (decide (a0.Y0 ≤ a1.Y)))), (21, .one (li .i64 a0.Y0)), (20, .one (.ptr 2 1)), (19, .one (li .i64 a1.Y)), (18, .one (.ptr 3 1))] [] (by kernel_rfl) ?_
      refine SimI.split 24 (decide (a0.Y0 ≤ a1.Y)) (by kernel_rfl) ?_ ?_
      · refine SimI.run 7 [(4, .one (lb (decide (a1.Y < a0.Y1)))), (30, .one (lb (decide (a1.Y < a0.Y1)))), (29, .one (lb (decide (a1.Y < a0.Y1)))), (28, .one (li .i64 a0.Y1)), (27, .one (.ptr 2 3)), (26, .one (li .i64 a1.Y)), (25, .one (.ptr 3 1))] [] (by kernel_rfl) ?_
        refine SimI.done (by kernel_rfl) ?_
        refine SimE.thenN ?_
        refine Sim.ret ?_
        exact SimE.fin (by kernel_rfl)
      · refine SimI.run 7 [(4, .one (lb false)), (30, .one (lb false)), (29, .tup []), (28, .tup []), (27, .tup []), (26, .tup []), (25, .tup [])] [] (by kernel_rfl) ?_
        refine SimI.done (by kernel_rfl) ?_
        refine SimE.thenN ?_
        refine Sim.ret ?_
        exact SimE.fin (by kernel_rfl)
    · refine SimI.run 14 [(4, .one (lb false)), (30, .one (lb false)), (29, .tup []), (28, .tup []), (27, .tup []), (26, .tup []), (25, .tup []), (24, .one (lb false)), (23, .one (lb false)), (22, .tup []), (21, .tup []), (20, .tup []), (19, .tup []), (18, .tup [])] [] (by kernel_rfl) ?_
      refine SimI.done (by kernel_rfl) ?_
      refine SimE.thenN ?_
      refine Sim.ret ?_
      exact SimE.fin (by kernel_rfl)
  · refine SimI.run 21 [(4, .one (lb false)), (30, .one (lb false)), (29, .tup []), (28, .tup []), (27, .tup []), (26, .tup []), (25, .tup []), (24, .one (lb false)), (23, .one (lb false)), (22, .tup []), (21, .tup []), (20, .tup []), (19, .tup []), (18, .tup []), (17, .one (lb false)), (16, .one (lb false)), (15, .tup []), (14, .tup []), (13, .tup []), (12, .tup []), (11, .tup [])] [] (by kernel_rfl) ?_
    refine SimI.done (by kernel_rfl) ?_
    refine SimE.thenN ?_
    refine Sim.ret ?_
    exact SimE.fin (by kernel_rfl)


-- 42: (*vedette/watch.Book).Sees
def F42_e : (Bool × Book) → PV × List Ob := fun r => (.one (lb r.1), [.cells [lb r.2.l.a0.On, li .i64 r.2.l.a0.Session, li .i64 r.2.l.a0.Start, li .i64 r.2.l.a0.Rect.X0, li .i64 r.2.l.a0.Rect.Y0, li .i64 r.2.l.a0.Rect.X1, li .i64 r.2.l.a0.Rect.Y1, lb r.2.l.a1.On, li .i64 r.2.l.a1.Session, li .i64 r.2.l.a1.Start, li .i64 r.2.l.a1.Rect.X0, li .i64 r.2.l.a1.Rect.Y0, li .i64 r.2.l.a1.Rect.X1, li .i64 r.2.l.a1.Rect.Y1, lb r.2.l.a2.On, li .i64 r.2.l.a2.Session, li .i64 r.2.l.a2.Start, li .i64 r.2.l.a2.Rect.X0, li .i64 r.2.l.a2.Rect.Y0, li .i64 r.2.l.a2.Rect.X1, li .i64 r.2.l.a2.Rect.Y1, lb r.2.l.a3.On, li .i64 r.2.l.a3.Session, li .i64 r.2.l.a3.Start, li .i64 r.2.l.a3.Rect.X0, li .i64 r.2.l.a3.Rect.Y0, li .i64 r.2.l.a3.Rect.X1, li .i64 r.2.l.a3.Rect.Y1]])
def F42 (n : Nat) (a0 : Book) (a1 : Int) (a2 : Point) : Option (Bool × Book) :=
  (F44 n a0 a1).bind fun (r1 : (Watch × Book)) =>
  if r1.1.On then
    (F51 n r1.1.Rect a2).bind fun (r2 : Bool) =>
    some (r2, r1.2)
  else
    some (false, r1.2)
theorem F42_ok (n : Nat) (a0 : Book) (a1 : Int) (a2 : Point) : ∀ r, F42 n a0 a1 a2 = some r → D 42 [.one (.ptr 1000000 0), .one (li .i64 a1), .agg [li .i64 a2.X, li .i64 a2.Y]] [.cells [lb a0.l.a0.On, li .i64 a0.l.a0.Session, li .i64 a0.l.a0.Start, li .i64 a0.l.a0.Rect.X0, li .i64 a0.l.a0.Rect.Y0, li .i64 a0.l.a0.Rect.X1, li .i64 a0.l.a0.Rect.Y1, lb a0.l.a1.On, li .i64 a0.l.a1.Session, li .i64 a0.l.a1.Start, li .i64 a0.l.a1.Rect.X0, li .i64 a0.l.a1.Rect.Y0, li .i64 a0.l.a1.Rect.X1, li .i64 a0.l.a1.Rect.Y1, lb a0.l.a2.On, li .i64 a0.l.a2.Session, li .i64 a0.l.a2.Start, li .i64 a0.l.a2.Rect.X0, li .i64 a0.l.a2.Rect.Y0, li .i64 a0.l.a2.Rect.X1, li .i64 a0.l.a2.Rect.Y1, lb a0.l.a3.On, li .i64 a0.l.a3.Session, li .i64 a0.l.a3.Start, li .i64 a0.l.a3.Rect.X0, li .i64 a0.l.a3.Rect.Y0, li .i64 a0.l.a3.Rect.X1, li .i64 a0.l.a3.Rect.Y1]] = some (F42_e r) := by
  refine fn_to (D := D) (n := n + 8) (nt := 19) (rs := pc42_r) (c := pc42_c7) (L := [(0, .one (.ptr 1000000 0)), (1, .one (li .i64 a1)), (2, .agg [li .i64 a2.X, li .i64 a2.Y])]) (M := [(1000000, some (.cells [lb a0.l.a0.On, li .i64 a0.l.a0.Session, li .i64 a0.l.a0.Start, li .i64 a0.l.a0.Rect.X0, li .i64 a0.l.a0.Rect.Y0, li .i64 a0.l.a0.Rect.X1, li .i64 a0.l.a0.Rect.Y1, lb a0.l.a1.On, li .i64 a0.l.a1.Session, li .i64 a0.l.a1.Start, li .i64 a0.l.a1.Rect.X0, li .i64 a0.l.a1.Rect.Y0, li .i64 a0.l.a1.Rect.X1, li .i64 a0.l.a1.Rect.Y1, lb a0.l.a2.On, li .i64 a0.l.a2.Session, li .i64 a0.l.a2.Start, li .i64 a0.l.a2.Rect.X0, li .i64 a0.l.a2.Rect.Y0, li .i64 a0.l.a2.Rect.X1, li .i64 a0.l.a2.Rect.Y1, lb a0.l.a3.On, li .i64 a0.l.a3.Session, li .i64 a0.l.a3.Start, li .i64 a0.l.a3.Rect.X0, li .i64 a0.l.a3.Rect.Y0, li .i64 a0.l.a3.Rect.X1, li .i64 a0.l.a3.Rect.Y1]))]) (k := 1) rfl rfl rfl rfl rfl rfl rfl ?_
  unfold F42
  refine Sim.seq ?_
  refine Sim.region0 ?_
  refine SimI.run 2 [(6, .one (lb false)), (5, .one (.ptr 5 0))] [(5, some (.cells [li .i64 a2.X, li .i64 a2.Y]))] (by kernel_rfl) ?_
  refine SimI.done (by kernel_rfl) ?_
  refine SimE.thenN ?_
  refine Sim.seq ?_
  refine Sim.region0 ?_
  refine SimI.run 2 [(9, .one (li .i64 a1)), (8, .one (.ptr 1000000 0))] [] (by kernel_rfl) ?_
  refine SimI.bind (og := F44 n a0 a1) { dst := some 10, op := POp.call true [[], []] 44 [Operand.tmp 8, Operand.tmp 9], guard := none, hints := [] } (fun r1 => [(10, .agg [lb r1.1.On, li .i64 r1.1.Session, li .i64 r1.1.Start, li .i64 r1.1.Rect.X0, li .i64 r1.1.Rect.Y0, li .i64 r1.1.Rect.X1, li .i64 r1.1.Rect.Y1])]) (fun r1 => [(1000000, some (.cells [lb r1.2.l.a0.On, li .i64 r1.2.l.a0.Session, li .i64 r1.2.l.a0.Start, li .i64 r1.2.l.a0.Rect.X0, li .i64 r1.2.l.a0.Rect.Y0, li .i64 r1.2.l.a0.Rect.X1, li .i64 r1.2.l.a0.Rect.Y1, lb r1.2.l.a1.On, li .i64 r1.2.l.a1.Session, li .i64 r1.2.l.a1.Start, li .i64 r1.2.l.a1.Rect.X0, li .i64 r1.2.l.a1.Rect.Y0, li .i64 r1.2.l.a1.Rect.X1, li .i64 r1.2.l.a1.Rect.Y1, lb r1.2.l.a2.On, li .i64 r1.2.l.a2.Session, li .i64 r1.2.l.a2.Start, li .i64 r1.2.l.a2.Rect.X0, li .i64 r1.2.l.a2.Rect.Y0, li .i64 r1.2.l.a2.Rect.X1, li .i64 r1.2.l.a2.Rect.Y1, lb r1.2.l.a3.On, li .i64 r1.2.l.a3.Session, li .i64 r1.2.l.a3.Start, li .i64 r1.2.l.a3.Rect.X0, li .i64 r1.2.l.a3.Rect.Y0, li .i64 r1.2.l.a3.Rect.X1, li .i64 r1.2.l.a3.Rect.Y1]))]) (by kernel_rfl) (fun r1 hr => pOp_eff (by kernel_rfl) (by kernel_rfl) (eff_callp (ARGS := [.one (.ptr 1000000 0), .one (li .i64 a1)]) (ARGS' := [.one (.ptr 1000000 0), .one (li .i64 a1)]) (ks := [1000000]) (os := [[lb a0.l.a0.On, li .i64 a0.l.a0.Session, li .i64 a0.l.a0.Start, li .i64 a0.l.a0.Rect.X0, li .i64 a0.l.a0.Rect.Y0, li .i64 a0.l.a0.Rect.X1, li .i64 a0.l.a0.Rect.Y1, lb a0.l.a1.On, li .i64 a0.l.a1.Session, li .i64 a0.l.a1.Start, li .i64 a0.l.a1.Rect.X0, li .i64 a0.l.a1.Rect.Y0, li .i64 a0.l.a1.Rect.X1, li .i64 a0.l.a1.Rect.Y1, lb a0.l.a2.On, li .i64 a0.l.a2.Session, li .i64 a0.l.a2.Start, li .i64 a0.l.a2.Rect.X0, li .i64 a0.l.a2.Rect.Y0, li .i64 a0.l.a2.Rect.X1, li .i64 a0.l.a2.Rect.Y1, lb a0.l.a3.On, li .i64 a0.l.a3.Session, li .i64 a0.l.a3.Start, li .i64 a0.l.a3.Rect.X0, li .i64 a0.l.a3.Rect.Y0, li .i64 a0.l.a3.Rect.X1, li .i64 a0.l.a3.Rect.Y1]]) (os' := [[lb r1.2.l.a0.On, li .i64 r1.2.l.a0.Session, li .i64 r1.2.l.a0.Start, li .i64 r1.2.l.a0.Rect.X0, li .i64 r1.2.l.a0.Rect.Y0, li .i64 r1.2.l.a0.Rect.X1, li .i64 r1.2.l.a0.Rect.Y1, lb r1.2.l.a1.On, li .i64 r1.2.l.a1.Session, li .i64 r1.2.l.a1.Start, li .i64 r1.2.l.a1.Rect.X0, li .i64 r1.2.l.a1.Rect.Y0, li .i64 r1.2.l.a1.Rect.X1, li .i64 r1.2.l.a1.Rect.Y1, lb r1.2.l.a2.On, li .i64 r1.2.l.a2.Session, li .i64 r1.2.l.a2.Start, li .i64 r1.2.l.a2.Rect.X0, li .i64 r1.2.l.a2.Rect.Y0, li .i64 r1.2.l.a2.Rect.X1, li .i64 r1.2.l.a2.Rect.Y1, lb r1.2.l.a3.On, li .i64 r1.2.l.a3.Session, li .i64 r1.2.l.a3.Start, li .i64 r1.2.l.a3.Rect.X0, li .i64 r1.2.l.a3.Rect.Y0, li .i64 r1.2.l.a3.Rect.X1, li .i64 r1.2.l.a3.Rect.Y1]]) (by kernel_rfl) (args_ptr (by kernel_rfl) (args_clean (by kernel_rfl) args_nil)) rfl (by kernel_rfl) (F44_ok n a0 a1 r1 hr) (by kernel_rfl) (by kernel_rfl))) (fun r1 => ?_)
  refine SimI.run 2 [(7, .one (.ptr 7 0))] [(7, some (.cells [lb r1.1.On, li .i64 r1.1.Session, li .i64 r1.1.Start, li .i64 r1.1.Rect.X0, li .i64 r1.1.Rect.Y0, li .i64 r1.1.Rect.X1, li .i64 r1.1.Rect.Y1])), (7, some (.cells [lb false, li .i64 0, li .i64 0, li .i64 0, li .i64 0, li .i64 0, li .i64 0]))] (by kernel_rfl) ?_
  refine SimI.done (by kernel_rfl) ?_
  refine SimE.thenN ?_
  refine Sim.seq ?_
  refine Sim.region0 ?_
  refine SimI.run 3 [(13, .one (lb r1.1.On)), (12, .one (lb r1.1.On)), (11, .one (.ptr 7 0))] [] (by kernel_rfl) ?_
  refine SimI.split 13 r1.1.On (by kernel_rfl) ?_ ?_
  · refine SimI.run 3 [(16, .agg [li .i64 a2.X, li .i64 a2.Y]), (15, .agg [li .i64 r1.1.Rect.X0, li .i64 r1.1.Rect.Y0, li .i64 r1.1.Rect.X1, li .i64 r1.1.Rect.Y1]), (14, .one (.ptr 7 3))] [] (by kernel_rfl) ?_
    refine SimI.bind (og := F51 n r1.1.Rect a2) { dst := some 17, op := POp.call true [[], []] 51 [Operand.tmp 15, Operand.tmp 16], guard := some (13, true), hints := [] } (fun r2 => [(17, .one (lb r2))]) (fun r2 => []) (by kernel_rfl) (fun r2 hr => pOp_eff (by kernel_rfl) (by kernel_rfl) (eff_call (ARGS := [.agg [li .i64 r1.1.Rect.X0, li .i64 r1.1.Rect.Y0, li .i64 r1.1.Rect.X1, li .i64 r1.1.Rect.Y1], .agg [li .i64 a2.X, li .i64 a2.Y]]) (by kernel_rfl) (args_clean (by kernel_rfl) (args_clean (by kernel_rfl) args_nil)) (F51_ok n r1.1.Rect a2 r2 hr) (by kernel_rfl))) (fun r2 => ?_)
    refine SimI.run 2 [(6, .one (lb r2)), (18, .one (lb r2))] [] (by kernel_rfl) ?_
    refine SimI.done (by kernel_rfl) ?_
    refine SimE.thenN ?_
    refine Sim.ret ?_
    exact SimE.fin (by kernel_rfl)
  · refine SimI.run 6 [(6, .one (lb false)), (18, .one (lb false)), (17, .tup []), (16, .tup []), (15, .tup []), (14, .tup [])] [] (by kernel_rfl) ?_
    refine SimI.done (by kernel_rfl) ?_
    refine SimE.thenN ?_
    refine Sim.ret ?_
    exact SimE.fin (by kernel_rfl)


-- 35: vedette/vedettelaw14.known
theorem F35_ok (n : Nat) : ∀ r, (some true : Option Bool) = some r → D 35 [] [] = some (.one (lb r), []) := by
  rintro _ ⟨⟩
  exact all_of (N := 60) (by kernel_rfl)


-- 37: vedette/vedettelaw14.fewCmd
def F37_e : Bool → PV × List Ob := fun r => (.one (lb r), [])
def F37 (n : Nat) (a0 : Command) : Option Bool :=
  if decide ((40 : Int) < (a0.F.a0.Text.size : Int)) then
    some false
  else
    if decide ((40 : Int) < (a0.F.a1.Text.size : Int)) then
      some false
    else
      if decide ((40 : Int) < (a0.F.a2.Text.size : Int)) then
        some false
      else
        if decide ((40 : Int) < (a0.F.a3.Text.size : Int)) then
          some false
        else
          some (decide ((a0.Value.Text.size : Int) ≤ 40))
theorem F37_ok (n : Nat) (a0 : Command) : ∀ r, F37 n a0 = some r → D 37 [.agg [li .i64 a0.Kind, li .i64 a0.ID, li .i64 a0.Which, li .i64 a0.To, li .i64 a0.At.X, li .i64 a0.At.Y, li .i64 a0.F.a0.N, ls a0.F.a0.Text, li .i64 a0.F.a1.N, ls a0.F.a1.Text, li .i64 a0.F.a2.N, ls a0.F.a2.Text, li .i64 a0.F.a3.N, ls a0.F.a3.Text, li .i64 a0.Value.N, ls a0.Value.Text, li .i64 a0.Client, li .i64 a0.Session, li .i64 a0.Rect.X0, li .i64 a0.Rect.Y0, li .i64 a0.Rect.X1, li .i64 a0.Rect.Y1]] [] = some (F37_e r) := by
  refine fn_to (D := D) (n := n + 8) (nt := 20) (rs := pc37_r) (c := pc37_c26) (L := [(0, .agg [li .i64 a0.Kind, li .i64 a0.ID, li .i64 a0.Which, li .i64 a0.To, li .i64 a0.At.X, li .i64 a0.At.Y, li .i64 a0.F.a0.N, ls a0.F.a0.Text, li .i64 a0.F.a1.N, ls a0.F.a1.Text, li .i64 a0.F.a2.N, ls a0.F.a2.Text, li .i64 a0.F.a3.N, ls a0.F.a3.Text, li .i64 a0.Value.N, ls a0.Value.Text, li .i64 a0.Client, li .i64 a0.Session, li .i64 a0.Rect.X0, li .i64 a0.Rect.Y0, li .i64 a0.Rect.X1, li .i64 a0.Rect.Y1])]) (M := []) (k := 0) rfl rfl rfl rfl rfl rfl rfl ?_
  unfold F37
  refine Sim.seq ?_
  refine Sim.region0 ?_
  refine SimI.run 2 [(2, .one (lb false)), (1, .one (.ptr 1 0))] [(1, some (.cells [li .i64 a0.Kind, li .i64 a0.ID, li .i64 a0.Which, li .i64 a0.To, li .i64 a0.At.X, li .i64 a0.At.Y, li .i64 a0.F.a0.N, ls a0.F.a0.Text, li .i64 a0.F.a1.N, ls a0.F.a1.Text, li .i64 a0.F.a2.N, ls a0.F.a2.Text, li .i64 a0.F.a3.N, ls a0.F.a3.Text, li .i64 a0.Value.N, ls a0.Value.Text, li .i64 a0.Client, li .i64 a0.Session, li .i64 a0.Rect.X0, li .i64 a0.Rect.Y0, li .i64 a0.Rect.X1, li .i64 a0.Rect.Y1]))] (by kernel_rfl) ?_
  refine SimI.done (by kernel_rfl) ?_
  refine SimE.thenN ?_
  refine Sim.seq ?_
  refine Sim.seq ?_
  refine Sim.region0 ?_
  refine SimI.run 1 [(3, .one (li .i64 0))] [] (by kernel_rfl) ?_
  refine SimI.done (by kernel_rfl) ?_
  refine SimE.thenN ?_
  refine Sim.block ?_
  refine Sim.loop ?_
  refine SimL.succ ?_
  refine Sim.seq ?_
  refine Sim.seq ?_
  refine Sim.region [(1, .one (.ptr 1 0)), (3, .one (li .i64 0))] [(1, some (.cells [li .i64 a0.Kind, li .i64 a0.ID, li .i64 a0.Which, li .i64 a0.To, li .i64 a0.At.X, li .i64 a0.At.Y, li .i64 a0.F.a0.N, ls a0.F.a0.Text, li .i64 a0.F.a1.N, ls a0.F.a1.Text, li .i64 a0.F.a2.N, ls a0.F.a2.Text, li .i64 a0.F.a3.N, ls a0.F.a3.Text, li .i64 a0.Value.N, ls a0.Value.Text, li .i64 a0.Client, li .i64 a0.Session, li .i64 a0.Rect.X0, li .i64 a0.Rect.Y0, li .i64 a0.Rect.X1, li .i64 a0.Rect.Y1]))] (by kernel_rfl) ?_
  refine SimI.run 2 [(5, .one (lb true)), (4, .one (li .i64 0))] [] (by kernel_rfl) ?_
  refine SimI.done (by kernel_rfl) ?_
  refine SimE.thenN ?_
  refine Sim.condT (by kernel_rfl) ?_
  refine Sim.skip ?_
  refine SimE.thenN ?_
  refine Sim.seq ?_
  refine Sim.block ?_
  refine Sim.seq ?_
  refine Sim.region0 ?_
  refine SimI.run 7 [(14, .one (lb (decide ((40 : Int) < (a0.F.a0.Text.size : Int))))), (13, .one (li .i64 (a0.F.a0.Text.size : Int))), (12, .one (ls a0.F.a0.Text)), (11, .one (.ptr 1 7)), (10, .one (.ptr 1 6)), (9, .one (.ptr 1 6)), (8, .one (li .i64 0))] [] (by kernel_rfl) ?_
  refine SimI.done (by kernel_rfl) ?_
  refine SimE.thenN ?_
  refine Sim.cond (decide ((40 : Int) < (a0.F.a0.Text.size : Int))) (by kernel_rfl) ?_ ?_
  · refine Sim.seq ?_
    refine Sim.region0 ?_
    refine SimI.run 1 [(2, .one (lb false))] [] (by kernel_rfl) ?_
    refine SimI.done (by kernel_rfl) ?_
    refine SimE.thenN ?_
    refine Sim.ret ?_
    refine SimE.blockR ?_
    refine SimE.thenR ?_
    refine SimE.loopR ?_
    refine SimE.blockR ?_
    refine SimE.thenR ?_
    exact SimE.fin (by kernel_rfl)
  · refine Sim.skip ?_
    refine SimE.blockN ?_
    refine SimE.thenN ?_
    refine Sim.region0 ?_
    refine SimI.run 3 [(3, .one (li .i64 1)), (7, .one (li .i64 1)), (6, .one (li .i64 0))] [] (by kernel_rfl) ?_
    refine SimI.done (by kernel_rfl) ?_
    refine SimE.loopN ?_
    refine SimL.succ ?_
    refine Sim.seq ?_
    refine Sim.seq ?_
    refine Sim.region [(1, .one (.ptr 1 0)), (3, .one (li .i64 1))] [(1, some (.cells [li .i64 a0.Kind, li .i64 a0.ID, li .i64 a0.Which, li .i64 a0.To, li .i64 a0.At.X, li .i64 a0.At.Y, li .i64 a0.F.a0.N, ls a0.F.a0.Text, li .i64 a0.F.a1.N, ls a0.F.a1.Text, li .i64 a0.F.a2.N, ls a0.F.a2.Text, li .i64 a0.F.a3.N, ls a0.F.a3.Text, li .i64 a0.Value.N, ls a0.Value.Text, li .i64 a0.Client, li .i64 a0.Session, li .i64 a0.Rect.X0, li .i64 a0.Rect.Y0, li .i64 a0.Rect.X1, li .i64 a0.Rect.Y1]))] (by kernel_rfl) ?_
    refine SimI.run 2 [(5, .one (lb true)), (4, .one (li .i64 1))] [] (by kernel_rfl) ?_
    refine SimI.done (by kernel_rfl) ?_
    refine SimE.thenN ?_
    refine Sim.condT (by kernel_rfl) ?_
    refine Sim.skip ?_
    refine SimE.thenN ?_
    refine Sim.seq ?_
    refine Sim.block ?_
    refine Sim.seq ?_
    refine Sim.region0 ?_
    refine SimI.run 7 [(14, .one (lb (decide ((40 : Int) < (a0.F.a1.Text.size : Int))))), (13, .one (li .i64 (a0.F.a1.Text.size : Int))), (12, .one (ls a0.F.a1.Text)), (11, .one (.ptr 1 9)), (10, .one (.ptr 1 8)), (9, .one (.ptr 1 6)), (8, .one (li .i64 1))] [] (by kernel_rfl) ?_
    refine SimI.done (by kernel_rfl) ?_
    refine SimE.thenN ?_
    refine Sim.cond (decide ((40 : Int) < (a0.F.a1.Text.size : Int))) (by kernel_rfl) ?_ ?_
    · refine Sim.seq ?_
      refine Sim.region0 ?_
      refine SimI.run 1 [(2, .one (lb false))] [] (by kernel_rfl) ?_
      refine SimI.done (by kernel_rfl) ?_
      refine SimE.thenN ?_
      refine Sim.ret ?_
      refine SimE.blockR ?_
      refine SimE.thenR ?_
      refine SimE.loopR ?_
      refine SimE.blockR ?_
      refine SimE.thenR ?_
      exact SimE.fin (by kernel_rfl)
    · refine Sim.skip ?_
      refine SimE.blockN ?_
      refine SimE.thenN ?_
      refine Sim.region0 ?_
      refine SimI.run 3 [(3, .one (li .i64 2)), (7, .one (li .i64 2)), (6, .one (li .i64 1))] [] (by kernel_rfl) ?_
      refine SimI.done (by kernel_rfl) ?_
      refine SimE.loopN ?_
      refine SimL.succ ?_
      refine Sim.seq ?_
      refine Sim.seq ?_
      refine Sim.region [(1, .one (.ptr 1 0)), (3, .one (li .i64 2))] [(1, some (.cells [li .i64 a0.Kind, li .i64 a0.ID, li .i64 a0.Which, li .i64 a0.To, li .i64 a0.At.X, li .i64 a0.At.Y, li .i64 a0.F.a0.N, ls a0.F.a0.Text, li .i64 a0.F.a1.N, ls a0.F.a1.Text, li .i64 a0.F.a2.N, ls a0.F.a2.Text, li .i64 a0.F.a3.N, ls a0.F.a3.Text, li .i64 a0.Value.N, ls a0.Value.Text, li .i64 a0.Client, li .i64 a0.Session, li .i64 a0.Rect.X0, li .i64 a0.Rect.Y0, li .i64 a0.Rect.X1, li .i64 a0.Rect.Y1]))] (by kernel_rfl) ?_
      refine SimI.run 2 [(5, .one (lb true)), (4, .one (li .i64 2))] [] (by kernel_rfl) ?_
      refine SimI.done (by kernel_rfl) ?_
      refine SimE.thenN ?_
      refine Sim.condT (by kernel_rfl) ?_
      refine Sim.skip ?_
      refine SimE.thenN ?_
      refine Sim.seq ?_
      refine Sim.block ?_
      refine Sim.seq ?_
      refine Sim.region0 ?_
      refine SimI.run 7 [(14, .one (lb (decide ((40 : Int) < (a0.F.a2.Text.size : Int))))), (13, .one (li .i64 (a0.F.a2.Text.size : Int))), (12, .one (ls a0.F.a2.Text)), (11, .one (.ptr 1 11)), (10, .one (.ptr 1 10)), (9, .one (.ptr 1 6)), (8, .one (li .i64 2))] [] (by kernel_rfl) ?_
      refine SimI.done (by kernel_rfl) ?_
      refine SimE.thenN ?_
      refine Sim.cond (decide ((40 : Int) < (a0.F.a2.Text.size : Int))) (by kernel_rfl) ?_ ?_
      · refine Sim.seq ?_
        refine Sim.region0 ?_
        refine SimI.run 1 [(2, .one (lb false))] [] (by kernel_rfl) ?_
        refine SimI.done (by kernel_rfl) ?_
        refine SimE.thenN ?_
        refine Sim.ret ?_
        refine SimE.blockR ?_
        refine SimE.thenR ?_
        refine SimE.loopR ?_
        refine SimE.blockR ?_
        refine SimE.thenR ?_
        exact SimE.fin (by kernel_rfl)
      · refine Sim.skip ?_
        refine SimE.blockN ?_
        refine SimE.thenN ?_
        refine Sim.region0 ?_
        refine SimI.run 3 [(3, .one (li .i64 3)), (7, .one (li .i64 3)), (6, .one (li .i64 2))] [] (by kernel_rfl) ?_
        refine SimI.done (by kernel_rfl) ?_
        refine SimE.loopN ?_
        refine SimL.succ ?_
        refine Sim.seq ?_
        refine Sim.seq ?_
        refine Sim.region [(1, .one (.ptr 1 0)), (3, .one (li .i64 3))] [(1, some (.cells [li .i64 a0.Kind, li .i64 a0.ID, li .i64 a0.Which, li .i64 a0.To, li .i64 a0.At.X, li .i64 a0.At.Y, li .i64 a0.F.a0.N, ls a0.F.a0.Text, li .i64 a0.F.a1.N, ls a0.F.a1.Text, li .i64 a0.F.a2.N, ls a0.F.a2.Text, li .i64 a0.F.a3.N, ls a0.F.a3.Text, li .i64 a0.Value.N, ls a0.Value.Text, li .i64 a0.Client, li .i64 a0.Session, li .i64 a0.Rect.X0, li .i64 a0.Rect.Y0, li .i64 a0.Rect.X1, li .i64 a0.Rect.Y1]))] (by kernel_rfl) ?_
        refine SimI.run 2 [(5, .one (lb true)), (4, .one (li .i64 3))] [] (by kernel_rfl) ?_
        refine SimI.done (by kernel_rfl) ?_
        refine SimE.thenN ?_
        refine Sim.condT (by kernel_rfl) ?_
        refine Sim.skip ?_
        refine SimE.thenN ?_
        refine Sim.seq ?_
        refine Sim.block ?_
        refine Sim.seq ?_
        refine Sim.region0 ?_
        refine SimI.run 7 [(14, .one (lb (decide ((40 : Int) < (a0.F.a3.Text.size : Int))))), (13, .one (li .i64 (a0.F.a3.Text.size : Int))), (12, .one (ls a0.F.a3.Text)), (11, .one (.ptr 1 13)), (10, .one (.ptr 1 12)), (9, .one (.ptr 1 6)), (8, .one (li .i64 3))] [] (by kernel_rfl) ?_
        refine SimI.done (by kernel_rfl) ?_
        refine SimE.thenN ?_
        refine Sim.cond (decide ((40 : Int) < (a0.F.a3.Text.size : Int))) (by kernel_rfl) ?_ ?_
        · refine Sim.seq ?_
          refine Sim.region0 ?_
          refine SimI.run 1 [(2, .one (lb false))] [] (by kernel_rfl) ?_
          refine SimI.done (by kernel_rfl) ?_
          refine SimE.thenN ?_
          refine Sim.ret ?_
          refine SimE.blockR ?_
          refine SimE.thenR ?_
          refine SimE.loopR ?_
          refine SimE.blockR ?_
          refine SimE.thenR ?_
          exact SimE.fin (by kernel_rfl)
        · refine Sim.skip ?_
          refine SimE.blockN ?_
          refine SimE.thenN ?_
          refine Sim.region0 ?_
          refine SimI.run 3 [(3, .one (li .i64 4)), (7, .one (li .i64 4)), (6, .one (li .i64 3))] [] (by kernel_rfl) ?_
          refine SimI.done (by kernel_rfl) ?_
          refine SimE.loopN ?_
          refine SimL.succ ?_
          refine Sim.seq ?_
          refine Sim.seq ?_
          refine Sim.region [(1, .one (.ptr 1 0)), (3, .one (li .i64 4))] [(1, some (.cells [li .i64 a0.Kind, li .i64 a0.ID, li .i64 a0.Which, li .i64 a0.To, li .i64 a0.At.X, li .i64 a0.At.Y, li .i64 a0.F.a0.N, ls a0.F.a0.Text, li .i64 a0.F.a1.N, ls a0.F.a1.Text, li .i64 a0.F.a2.N, ls a0.F.a2.Text, li .i64 a0.F.a3.N, ls a0.F.a3.Text, li .i64 a0.Value.N, ls a0.Value.Text, li .i64 a0.Client, li .i64 a0.Session, li .i64 a0.Rect.X0, li .i64 a0.Rect.Y0, li .i64 a0.Rect.X1, li .i64 a0.Rect.Y1]))] (by kernel_rfl) ?_
          refine SimI.run 2 [(5, .one (lb false)), (4, .one (li .i64 4))] [] (by kernel_rfl) ?_
          refine SimI.done (by kernel_rfl) ?_
          refine SimE.thenN ?_
          refine Sim.condF (by kernel_rfl) ?_
          refine Sim.exit ?_
          refine SimE.thenX ?_
          refine SimE.loopX ?_
          refine SimE.blockX ?_
          refine SimE.thenN ?_
          refine Sim.seq ?_
          refine Sim.region0 ?_
          refine SimI.run 6 [(2, .one (lb (decide ((a0.Value.Text.size : Int) ≤ 40)))), (19, .one (lb (decide ((a0.Value.Text.size : Int) ≤ 40)))), (18, .one (li .i64 (a0.Value.Text.size : Int))), (17, .one (ls a0.Value.Text)), (16, .one (.ptr 1 15)), (15, .one (.ptr 1 14))] [] (by kernel_rfl) ?_
          refine SimI.done (by kernel_rfl) ?_
          refine SimE.thenN ?_
          refine Sim.ret ?_
          exact SimE.fin (by kernel_rfl)


end Go.Proofs.Ytajfdeeepklfoaa
