/-
  Functions of the program as functions of Lean. No condition.
-/
import Derived.Test.YtajfdeeepklfoaaWatchSessionsP0
namespace Go.Proofs.Ytajfdeeepklfoaa
open Go Go.Rx
set_option maxRecDepth 100000
set_option linter.unusedVariables false
set_option linter.unusedSimpArgs false
set_option linter.unnecessarySimpa false
-- 12: vedette/vedettelaw14.WatchSessions
def F12_e : Bool → PV × List Ob := fun r => (.one (lb r), [])
def F12_u40 (n : Nat) (ii8 : Int) (rec_l9 : Book → Int → Option Bool) (g39 : Book) : Option Bool :=
    rec_l9 g39 (IntKind.wrap .i64 (ii8 + 1))
theorem F12_u40_ok (n : Nat) (a0 : (List Step)) (a1 : Point) (ii8 : Int) (r12 : ((A4 Watch) × Book)) (r15 : (Int × Book)) (r16 : ((A4 Watch) × Book)) (rec_l9 : Book → Int → Option Bool) (m_l9 : Nat) (ih_l9 : ∀ (g7 : Book) (ii8 : Int), SimL Try.prog D (n + 8) m_l9 pc12_c60 [(0, .one (vw Step.cod a0)), (3, .one (.ptr 3 0)), (5, .one (.ptr 300000 0)), (6, .one (li .i64 ii8))] [(3, some (.cells [li .i64 a1.X, li .i64 a1.Y])), (300000, some (.cells (A4_Watch.cells g7.l)))] (rec_l9 g7 ii8) (QB 0 (QT Try.prog D (n + 8) pc12_c66 (QF false pc12_r 0 F12_e)))) (g39 : Book) : SimL Try.prog D (n + 8) (n + 4) pc12_c49 [(0, .one (vw Step.cod a0)), (3, .one (.ptr 3 0)), (5, .one (.ptr 300000 0)), (6, .one (li .i64 ii8)), (7, .one (.ptr 7 0)), (8, .one (li .i64 r15.1)), (9, .one (.ptr 9 0)), (10, .one (li .i64 4))] [(3, some (.cells [li .i64 a1.X, li .i64 a1.Y])), (7, some (.cells (A4_Watch.cells r12.1))), (9, some (.cells (A4_Watch.cells r16.1))), (300000, some (.cells (A4_Watch.cells g39.l)))] (F12_u40 n ii8 rec_l9 g39) (QB 2 (QB 1 (QT Try.prog D (n + 8) pc12_c58 (QL Try.prog D (n + 8) m_l9 pc12_c60 (QB 0 (QT Try.prog D (n + 8) pc12_c66 (QF false pc12_r 0 F12_e))))))) := by
    unfold F12_u40
    refine SimL.succ ?_
    refine Sim.seq ?_
    refine Sim.seq ?_
    refine Sim.region [(0, .one (vw Step.cod a0)), (3, .one (.ptr 3 0)), (5, .one (.ptr 300000 0)), (6, .one (li .i64 ii8)), (7, .one (.ptr 7 0)), (8, .one (li .i64 r15.1)), (9, .one (.ptr 9 0)), (10, .one (li .i64 4))] [(3, some (.cells [li .i64 a1.X, li .i64 a1.Y])), (7, some (.cells (A4_Watch.cells r12.1))), (9, some (.cells (A4_Watch.cells r16.1))), (300000, some (.cells (A4_Watch.cells g39.l)))] (by kernel_rfl) ?_
    refine SimI.run 2 [(47, .one (lb false)), (46, .one (li .i64 4))] [] (by kernel_rfl) ?_
    refine SimI.done (by kernel_rfl) ?_
    refine SimE.thenN ?_
    refine Sim.condF (by kernel_rfl) ?_
    refine Sim.exit ?_
    refine SimE.thenX ?_
    refine SimE.loopX ?_
    refine SimE.blockX ?_
    refine SimE.blockN ?_
    refine SimE.thenN ?_
    refine Sim.region0 ?_
    refine SimI.run 3 [(6, .one (li .i64 (IntKind.wrap .i64 (ii8 + 1)))), (22, .one (li .i64 (IntKind.wrap .i64 (ii8 + 1)))), (21, .one (li .i64 ii8))] [] (by kernel_rfl) ?_
    refine SimI.done (by kernel_rfl) ?_
    refine SimE.loopN ?_
    refine SimL.pre (ts := [0, 3, 5, 6]) (os := [3, 7, 9, 300000]) (ow := []) [(0, .one (vw Step.cod a0)), (3, .one (.ptr 3 0)), (5, .one (.ptr 300000 0)), (6, .one (li .i64 (IntKind.wrap .i64 (ii8 + 1))))] [(3, some (.cells [li .i64 a1.X, li .i64 a1.Y])), (300000, some (.cells (A4_Watch.cells g39.l)))] (by kernel_rfl) (by kernel_rfl) (by kernel_rfl) ?_
    exact ih_l9 g39 (IntKind.wrap .i64 (ii8 + 1))

def F12_u34 (n : Nat) (a0 : (List Step)) (a1 : Point) (ii8 : Int) (r12 : ((A4 Watch) × Book)) (r15 : (Int × Book)) (r16 : ((A4 Watch) × Book)) (rec_l9 : Book → Int → Option Bool) (g33 : Book) : Option Bool :=
    if r15.1 != 0 then
      if !(Watch.eqb r16.1.a3 r12.1.a3) then
        some false
      else
        if decide (r16.1.a3.Session < r12.1.a3.Session) then
          some false
        else
          if !(r16.1.a3.On) then
            (F42 n g33 3 a1).bind fun (r35 : (Bool × Book)) =>
            if r35.1 then
              some false
            else
              if r16.1.a3.On then
                if !(r12.1.a3.On) then
                  if r16.1.a3.Session == r12.1.a3.Session then
                    some false
                  else
                    F12_u40 n ii8 rec_l9 r35.2
                else
                  F12_u40 n ii8 rec_l9 r35.2
              else
                F12_u40 n ii8 rec_l9 r35.2
          else
            if r16.1.a3.On then
              if !(r12.1.a3.On) then
                if r16.1.a3.Session == r12.1.a3.Session then
                  some false
                else
                  F12_u40 n ii8 rec_l9 g33
              else
                F12_u40 n ii8 rec_l9 g33
            else
              F12_u40 n ii8 rec_l9 g33
    else
      (ix a0 ii8).bind fun (x36 : Step) =>
      if (3 : Int) != x36.C.Client then
        if !(Watch.eqb r16.1.a3 r12.1.a3) then
          some false
        else
          if decide (r16.1.a3.Session < r12.1.a3.Session) then
            some false
          else
            if !(r16.1.a3.On) then
              (F42 n g33 3 a1).bind fun (r37 : (Bool × Book)) =>
              if r37.1 then
                some false
              else
                if r16.1.a3.On then
                  if !(r12.1.a3.On) then
                    if r16.1.a3.Session == r12.1.a3.Session then
                      some false
                    else
                      F12_u40 n ii8 rec_l9 r37.2
                  else
                    F12_u40 n ii8 rec_l9 r37.2
                else
                  F12_u40 n ii8 rec_l9 r37.2
            else
              if r16.1.a3.On then
                if !(r12.1.a3.On) then
                  if r16.1.a3.Session == r12.1.a3.Session then
                    some false
                  else
                    F12_u40 n ii8 rec_l9 g33
                else
                  F12_u40 n ii8 rec_l9 g33
              else
                F12_u40 n ii8 rec_l9 g33
      else
        if decide (r16.1.a3.Session < r12.1.a3.Session) then
          some false
        else
          if !(r16.1.a3.On) then
            (F42 n g33 3 a1).bind fun (r38 : (Bool × Book)) =>
            if r38.1 then
              some false
            else
              if r16.1.a3.On then
                if !(r12.1.a3.On) then
                  if r16.1.a3.Session == r12.1.a3.Session then
                    some false
                  else
                    F12_u40 n ii8 rec_l9 r38.2
                else
                  F12_u40 n ii8 rec_l9 r38.2
              else
                F12_u40 n ii8 rec_l9 r38.2
          else
            if r16.1.a3.On then
              if !(r12.1.a3.On) then
                if r16.1.a3.Session == r12.1.a3.Session then
                  some false
                else
                  F12_u40 n ii8 rec_l9 g33
              else
                F12_u40 n ii8 rec_l9 g33
            else
              F12_u40 n ii8 rec_l9 g33
theorem F12_u34_ok (n : Nat) (a0 : (List Step)) (a1 : Point) (ii8 : Int) (r12 : ((A4 Watch) × Book)) (r15 : (Int × Book)) (r16 : ((A4 Watch) × Book)) (rec_l9 : Book → Int → Option Bool) (m_l9 : Nat) (ih_l9 : ∀ (g7 : Book) (ii8 : Int), SimL Try.prog D (n + 8) m_l9 pc12_c60 [(0, .one (vw Step.cod a0)), (3, .one (.ptr 3 0)), (5, .one (.ptr 300000 0)), (6, .one (li .i64 ii8))] [(3, some (.cells [li .i64 a1.X, li .i64 a1.Y])), (300000, some (.cells (A4_Watch.cells g7.l)))] (rec_l9 g7 ii8) (QB 0 (QT Try.prog D (n + 8) pc12_c66 (QF false pc12_r 0 F12_e)))) (g33 : Book) : SimL Try.prog D (n + 8) (n + 5) pc12_c49 [(0, .one (vw Step.cod a0)), (3, .one (.ptr 3 0)), (5, .one (.ptr 300000 0)), (6, .one (li .i64 ii8)), (7, .one (.ptr 7 0)), (8, .one (li .i64 r15.1)), (9, .one (.ptr 9 0)), (10, .one (li .i64 3))] [(3, some (.cells [li .i64 a1.X, li .i64 a1.Y])), (7, some (.cells (A4_Watch.cells r12.1))), (9, some (.cells (A4_Watch.cells r16.1))), (300000, some (.cells (A4_Watch.cells g33.l)))] (F12_u34 n a0 a1 ii8 r12 r15 r16 rec_l9 g33) (QB 2 (QB 1 (QT Try.prog D (n + 8) pc12_c58 (QL Try.prog D (n + 8) m_l9 pc12_c60 (QB 0 (QT Try.prog D (n + 8) pc12_c66 (QF false pc12_r 0 F12_e))))))) := by
    unfold F12_u34
    refine SimL.succ ?_
    refine Sim.seq ?_
    refine Sim.seq ?_
    refine Sim.region [(0, .one (vw Step.cod a0)), (3, .one (.ptr 3 0)), (5, .one (.ptr 300000 0)), (6, .one (li .i64 ii8)), (7, .one (.ptr 7 0)), (8, .one (li .i64 r15.1)), (9, .one (.ptr 9 0)), (10, .one (li .i64 3))] [(3, some (.cells [li .i64 a1.X, li .i64 a1.Y])), (7, some (.cells (A4_Watch.cells r12.1))), (9, some (.cells (A4_Watch.cells r16.1))), (300000, some (.cells (A4_Watch.cells g33.l)))] (by kernel_rfl) ?_
    refine SimI.run 2 [(47, .one (lb true)), (46, .one (li .i64 3))] [] (by kernel_rfl) ?_
    refine SimI.done (by kernel_rfl) ?_
    refine SimE.thenN ?_
    refine Sim.condT (by kernel_rfl) ?_
    refine Sim.skip ?_
    refine SimE.thenN ?_
    refine Sim.seq ?_
    refine Sim.block ?_
    refine Sim.seq ?_
    refine Sim.region0 ?_
    refine SimI.run 3 [(52, .one (lb (r15.1 != 0))), (51, .one (lb (r15.1 != 0))), (50, .one (li .i64 r15.1))] [] (by kernel_rfl) ?_
    refine SimI.split 52 (r15.1 != 0) (by kernel_rfl) ?_ ?_
    · refine SimI.run 16 [(68, .agg (Watch.cells r12.1.a3)), (67, .one (.ptr 7 21)), (66, .one (li .i64 3)), (65, .agg (Watch.cells r16.1.a3)), (64, .one (.ptr 9 21)), (63, .one (li .i64 3)), (62, .one (lb true)), (61, .one (lb true)), (60, .tup []), (59, .tup []), (58, .tup []), (57, .tup []), (56, .tup []), (55, .tup []), (54, .tup []), (53, .tup [])] [] (by kernel_rfl) ?_
      refine SimI.step { dst := some 69, op := POp.prim (Prim.bin BinOp.neq 68 false false) [Operand.tmp 65, Operand.tmp 68], guard := some (62, true), hints := [(65, Hint.imm), (68, Hint.imm)] } [(69, .one (lb (!(Watch.eqb r16.1.a3 r12.1.a3))))] [] (by kernel_rfl) (pOp_eff (by kernel_rfl) (by kernel_rfl) (eff_prim (by kernel_rfl) (Watch_eqn r16.1.a3 r12.1.a3 _ _))) ?_
      refine SimI.run 2 [(71, .one (lb (!(Watch.eqb r16.1.a3 r12.1.a3)))), (70, .one (lb (!(Watch.eqb r16.1.a3 r12.1.a3))))] [] (by kernel_rfl) ?_
      refine SimI.split 71 (!(Watch.eqb r16.1.a3 r12.1.a3)) (by kernel_rfl) ?_ ?_
      · refine SimI.run 47 [(118, .one (lb true)), (117, .tup []), (116, .tup []), (115, .tup []), (114, .tup []), (113, .tup []), (112, .tup []), (111, .tup []), (110, .tup []), (109, .tup []), (108, .tup []), (107, .tup []), (106, .tup []), (105, .tup []), (104, .tup []), (103, .tup []), (102, .tup []), (101, .tup []), (100, .tup []), (99, .tup []), (98, .tup []), (97, .tup []), (96, .tup []), (95, .one (lb true)), (94, .one (lb true)), (93, .tup []), (92, .tup []), (91, .tup []), (90, .tup []), (89, .tup []), (88, .tup []), (87, .tup []), (86, .tup []), (85, .tup []), (84, .tup []), (83, .tup []), (82, .one (lb true)), (81, .one (lb true)), (80, .tup []), (79, .tup []), (78, .tup []), (77, .tup []), (76, .tup []), (75, .tup []), (74, .tup []), (73, .tup []), (72, .tup [])] [] (by kernel_rfl) ?_
        refine SimI.done (by kernel_rfl) ?_
        refine SimE.thenN ?_
        refine Sim.condT (by kernel_rfl) ?_
        refine Sim.seq ?_
        refine Sim.region0 ?_
        refine SimI.run 1 [(4, .one (lb false))] [] (by kernel_rfl) ?_
        refine SimI.done (by kernel_rfl) ?_
        refine SimE.thenN ?_
        refine Sim.ret ?_
        refine SimE.blockR ?_
        refine SimE.thenR ?_
        refine SimE.loopR ?_
        refine SimE.blockR ?_
        refine SimE.blockR ?_
        refine SimE.thenR ?_
        refine SimE.loopR ?_
        refine SimE.blockR ?_
        refine SimE.thenR ?_
        exact SimE.fin (by kernel_rfl)
      · refine SimI.run 11 [(82, .one (lb (decide (r16.1.a3.Session < r12.1.a3.Session)))), (81, .one (lb (decide (r16.1.a3.Session < r12.1.a3.Session)))), (80, .one (lb (decide (r16.1.a3.Session < r12.1.a3.Session)))), (79, .one (li .i64 r12.1.a3.Session)), (78, .one (.ptr 7 22)), (77, .one (.ptr 7 21)), (76, .one (li .i64 3)), (75, .one (li .i64 r16.1.a3.Session)), (74, .one (.ptr 9 22)), (73, .one (.ptr 9 21)), (72, .one (li .i64 3))] [] (by kernel_rfl) ?_
        refine SimI.split 82 (decide (r16.1.a3.Session < r12.1.a3.Session)) (by kernel_rfl) ?_ ?_
        · refine SimI.run 36 [(118, .one (lb true)), (117, .tup []), (116, .tup []), (115, .tup []), (114, .tup []), (113, .tup []), (112, .tup []), (111, .tup []), (110, .tup []), (109, .tup []), (108, .tup []), (107, .tup []), (106, .tup []), (105, .tup []), (104, .tup []), (103, .tup []), (102, .tup []), (101, .tup []), (100, .tup []), (99, .tup []), (98, .tup []), (97, .tup []), (96, .tup []), (95, .one (lb true)), (94, .one (lb true)), (93, .tup []), (92, .tup []), (91, .tup []), (90, .tup []), (89, .tup []), (88, .tup []), (87, .tup []), (86, .tup []), (85, .tup []), (84, .tup []), (83, .tup [])] [] (by kernel_rfl) ?_
          refine SimI.done (by kernel_rfl) ?_
          refine SimE.thenN ?_
          refine Sim.condT (by kernel_rfl) ?_
          refine Sim.seq ?_
          refine Sim.region0 ?_
          refine SimI.run 1 [(4, .one (lb false))] [] (by kernel_rfl) ?_
          refine SimI.done (by kernel_rfl) ?_
          refine SimE.thenN ?_
          refine Sim.ret ?_
          refine SimE.blockR ?_
          refine SimE.thenR ?_
          refine SimE.loopR ?_
          refine SimE.blockR ?_
          refine SimE.blockR ?_
          refine SimE.thenR ?_
          refine SimE.loopR ?_
          refine SimE.blockR ?_
          refine SimE.thenR ?_
          exact SimE.fin (by kernel_rfl)
        · refine SimI.run 6 [(88, .one (lb (!(r16.1.a3.On)))), (87, .one (lb (!(r16.1.a3.On)))), (86, .one (lb r16.1.a3.On)), (85, .one (.ptr 9 21)), (84, .one (.ptr 9 21)), (83, .one (li .i64 3))] [] (by kernel_rfl) ?_
          refine SimI.split 88 (!(r16.1.a3.On)) (by kernel_rfl) ?_ ?_
          · refine SimI.run 3 [(91, .agg [li .i64 a1.X, li .i64 a1.Y]), (90, .one (li .i64 3)), (89, .one (.ptr 300000 0))] [] (by kernel_rfl) ?_
            refine SimI.bind (og := F42 n g33 3 a1) { dst := some 92, op := POp.call true [[], [], []] 42 [Operand.tmp 89, Operand.tmp 90, Operand.tmp 91], guard := some (88, true), hints := [(89, Hint.at_ 300000 0), (90, Hint.imm), (91, Hint.imm)] } (fun r35 => [(92, .one (lb r35.1))]) (fun r35 => [(300000, some (.cells (A4_Watch.cells r35.2.l)))]) (by kernel_rfl) (fun r35 hr => pOp_eff (by kernel_rfl) (by kernel_rfl) (eff_callp (ARGS := [.one (.ptr 300000 0), .one (li .i64 3), .agg [li .i64 a1.X, li .i64 a1.Y]]) (ARGS' := [.one (.ptr 1000000 0), .one (li .i64 3), .agg [li .i64 a1.X, li .i64 a1.Y]]) (ks := [300000]) (os := [(A4_Watch.cells g33.l)]) (os' := [(A4_Watch.cells r35.2.l)]) (by kernel_rfl) (args_ptr (by kernel_rfl) (args_clean (by kernel_rfl) (args_clean (by kernel_rfl) args_nil))) rfl (by kernel_rfl) (F42_ok n g33 3 a1 r35 hr) (by kernel_rfl) (by kernel_rfl))) (fun r35 => ?_)
            refine SimI.run 3 [(95, .one (lb r35.1)), (94, .one (lb r35.1)), (93, .one (lb r35.1))] [] (by kernel_rfl) ?_
            refine SimI.split 95 r35.1 (by kernel_rfl) ?_ ?_
            · refine SimI.run 23 [(118, .one (lb true)), (117, .tup []), (116, .tup []), (115, .tup []), (114, .tup []), (113, .tup []), (112, .tup []), (111, .tup []), (110, .tup []), (109, .tup []), (108, .tup []), (107, .tup []), (106, .tup []), (105, .tup []), (104, .tup []), (103, .tup []), (102, .tup []), (101, .tup []), (100, .tup []), (99, .tup []), (98, .tup []), (97, .tup []), (96, .tup [])] [] (by kernel_rfl) ?_
              refine SimI.done (by kernel_rfl) ?_
              refine SimE.thenN ?_
              refine Sim.condT (by kernel_rfl) ?_
              refine Sim.seq ?_
              refine Sim.region0 ?_
              refine SimI.run 1 [(4, .one (lb false))] [] (by kernel_rfl) ?_
              refine SimI.done (by kernel_rfl) ?_
              refine SimE.thenN ?_
              refine Sim.ret ?_
              refine SimE.blockR ?_
              refine SimE.thenR ?_
              refine SimE.loopR ?_
              refine SimE.blockR ?_
              refine SimE.blockR ?_
              refine SimE.thenR ?_
              refine SimE.loopR ?_
              refine SimE.blockR ?_
              refine SimE.thenR ?_
              exact SimE.fin (by kernel_rfl)
            · refine SimI.run 5 [(100, .one (lb r16.1.a3.On)), (99, .one (lb r16.1.a3.On)), (98, .one (.ptr 9 21)), (97, .one (.ptr 9 21)), (96, .one (li .i64 3))] [] (by kernel_rfl) ?_
              refine SimI.split 100 r16.1.a3.On (by kernel_rfl) ?_ ?_
              · refine SimI.run 7 [(107, .one (lb (!(r12.1.a3.On)))), (106, .one (lb (!(r12.1.a3.On)))), (105, .one (lb (!(r12.1.a3.On)))), (104, .one (lb r12.1.a3.On)), (103, .one (.ptr 7 21)), (102, .one (.ptr 7 21)), (101, .one (li .i64 3))] [] (by kernel_rfl) ?_
                refine SimI.split 107 (!(r12.1.a3.On)) (by kernel_rfl) ?_ ?_
                · refine SimI.run 11 [(118, .one (lb (r16.1.a3.Session == r12.1.a3.Session))), (117, .one (lb (r16.1.a3.Session == r12.1.a3.Session))), (116, .one (lb (r16.1.a3.Session == r12.1.a3.Session))), (115, .one (li .i64 r12.1.a3.Session)), (114, .one (.ptr 7 22)), (113, .one (.ptr 7 21)), (112, .one (li .i64 3)), (111, .one (li .i64 r16.1.a3.Session)), (110, .one (.ptr 9 22)), (109, .one (.ptr 9 21)), (108, .one (li .i64 3))] [] (by kernel_rfl) ?_
                  refine SimI.done (by kernel_rfl) ?_
                  refine SimE.thenN ?_
                  refine Sim.cond (r16.1.a3.Session == r12.1.a3.Session) (by kernel_rfl) ?_ ?_
                  · refine Sim.seq ?_
                    refine Sim.region0 ?_
                    refine SimI.run 1 [(4, .one (lb false))] [] (by kernel_rfl) ?_
                    refine SimI.done (by kernel_rfl) ?_
                    refine SimE.thenN ?_
                    refine Sim.ret ?_
                    refine SimE.blockR ?_
                    refine SimE.thenR ?_
                    refine SimE.loopR ?_
                    refine SimE.blockR ?_
                    refine SimE.blockR ?_
                    refine SimE.thenR ?_
                    refine SimE.loopR ?_
                    refine SimE.blockR ?_
                    refine SimE.thenR ?_
                    exact SimE.fin (by kernel_rfl)
                  · refine Sim.skip ?_
                    refine SimE.blockN ?_
                    refine SimE.thenN ?_
                    refine Sim.region0 ?_
                    refine SimI.run 3 [(10, .one (li .i64 4)), (49, .one (li .i64 4)), (48, .one (li .i64 3))] [] (by kernel_rfl) ?_
                    refine SimI.done (by kernel_rfl) ?_
                    refine SimE.loopN ?_
                    refine SimL.pre (ts := [0, 3, 5, 6, 7, 8, 9, 10]) (os := [3, 7, 9, 300000]) (ow := []) [(0, .one (vw Step.cod a0)), (3, .one (.ptr 3 0)), (5, .one (.ptr 300000 0)), (6, .one (li .i64 ii8)), (7, .one (.ptr 7 0)), (8, .one (li .i64 r15.1)), (9, .one (.ptr 9 0)), (10, .one (li .i64 4))] [(3, some (.cells [li .i64 a1.X, li .i64 a1.Y])), (7, some (.cells (A4_Watch.cells r12.1))), (9, some (.cells (A4_Watch.cells r16.1))), (300000, some (.cells (A4_Watch.cells r35.2.l)))] (by kernel_rfl) (by kernel_rfl) (by kernel_rfl) ?_
                    exact F12_u40_ok n a0 a1 ii8 r12 r15 r16 rec_l9 m_l9 ih_l9 r35.2
                · refine SimI.run 11 [(118, .one (lb false)), (117, .one (lb false)), (116, .tup []), (115, .tup []), (114, .tup []), (113, .tup []), (112, .tup []), (111, .tup []), (110, .tup []), (109, .tup []), (108, .tup [])] [] (by kernel_rfl) ?_
                  refine SimI.done (by kernel_rfl) ?_
                  refine SimE.thenN ?_
                  refine Sim.condF (by kernel_rfl) ?_
                  refine Sim.skip ?_
                  refine SimE.blockN ?_
                  refine SimE.thenN ?_
                  refine Sim.region0 ?_
                  refine SimI.run 3 [(10, .one (li .i64 4)), (49, .one (li .i64 4)), (48, .one (li .i64 3))] [] (by kernel_rfl) ?_
                  refine SimI.done (by kernel_rfl) ?_
                  refine SimE.loopN ?_
                  refine SimL.pre (ts := [0, 3, 5, 6, 7, 8, 9, 10]) (os := [3, 7, 9, 300000]) (ow := []) [(0, .one (vw Step.cod a0)), (3, .one (.ptr 3 0)), (5, .one (.ptr 300000 0)), (6, .one (li .i64 ii8)), (7, .one (.ptr 7 0)), (8, .one (li .i64 r15.1)), (9, .one (.ptr 9 0)), (10, .one (li .i64 4))] [(3, some (.cells [li .i64 a1.X, li .i64 a1.Y])), (7, some (.cells (A4_Watch.cells r12.1))), (9, some (.cells (A4_Watch.cells r16.1))), (300000, some (.cells (A4_Watch.cells r35.2.l)))] (by kernel_rfl) (by kernel_rfl) (by kernel_rfl) ?_
                  exact F12_u40_ok n a0 a1 ii8 r12 r15 r16 rec_l9 m_l9 ih_l9 r35.2
              · refine SimI.run 18 [(118, .one (lb false)), (117, .one (lb false)), (116, .tup []), (115, .tup []), (114, .tup []), (113, .tup []), (112, .tup []), (111, .tup []), (110, .tup []), (109, .tup []), (108, .tup []), (107, .one (lb false)), (106, .one (lb false)), (105, .tup []), (104, .tup []), (103, .tup []), (102, .tup []), (101, .tup [])] [] (by kernel_rfl) ?_
                refine SimI.done (by kernel_rfl) ?_
                refine SimE.thenN ?_
                refine Sim.condF (by kernel_rfl) ?_
                refine Sim.skip ?_
                refine SimE.blockN ?_
                refine SimE.thenN ?_
                refine Sim.region0 ?_
                refine SimI.run 3 [(10, .one (li .i64 4)), (49, .one (li .i64 4)), (48, .one (li .i64 3))] [] (by kernel_rfl) ?_
                refine SimI.done (by kernel_rfl) ?_
                refine SimE.loopN ?_
                refine SimL.pre (ts := [0, 3, 5, 6, 7, 8, 9, 10]) (os := [3, 7, 9, 300000]) (ow := []) [(0, .one (vw Step.cod a0)), (3, .one (.ptr 3 0)), (5, .one (.ptr 300000 0)), (6, .one (li .i64 ii8)), (7, .one (.ptr 7 0)), (8, .one (li .i64 r15.1)), (9, .one (.ptr 9 0)), (10, .one (li .i64 4))] [(3, some (.cells [li .i64 a1.X, li .i64 a1.Y])), (7, some (.cells (A4_Watch.cells r12.1))), (9, some (.cells (A4_Watch.cells r16.1))), (300000, some (.cells (A4_Watch.cells r35.2.l)))] (by kernel_rfl) (by kernel_rfl) (by kernel_rfl) ?_
                exact F12_u40_ok n a0 a1 ii8 r12 r15 r16 rec_l9 m_l9 ih_l9 r35.2
          · refine SimI.run 12 [(100, .one (lb r16.1.a3.On)), (99, .one (lb r16.1.a3.On)), (98, .one (.ptr 9 21)), (97, .one (.ptr 9 21)), (96, .one (li .i64 3)), (95, .one (lb false)), (94, .one (lb false)), (93, .one (lb false)), (92, .tup []), (91, .tup []), (90, .tup []), (89, .tup [])] [] (by kernel_rfl) ?_
            refine SimI.split 100 r16.1.a3.On (by kernel_rfl) ?_ ?_
            · refine SimI.run 7 [(107, .one (lb (!(r12.1.a3.On)))), (106, .one (lb (!(r12.1.a3.On)))), (105, .one (lb (!(r12.1.a3.On)))), (104, .one (lb r12.1.a3.On)), (103, .one (.ptr 7 21)), (102, .one (.ptr 7 21)), (101, .one (li .i64 3))] [] (by kernel_rfl) ?_
              refine SimI.split 107 (!(r12.1.a3.On)) (by kernel_rfl) ?_ ?_
              · refine SimI.run 11 [(118, .one (lb (r16.1.a3.Session == r12.1.a3.Session))), (117, .one (lb (r16.1.a3.Session == r12.1.a3.Session))), (116, .one (lb (r16.1.a3.Session == r12.1.a3.Session))), (115, .one (li .i64 r12.1.a3.Session)), (114, .one (.ptr 7 22)), (113, .one (.ptr 7 21)), (112, .one (li .i64 3)), (111, .one (li .i64 r16.1.a3.Session)), (110, .one (.ptr 9 22)), (109, .one (.ptr 9 21)), (108, .one (li .i64 3))] [] (by kernel_rfl) ?_
                refine SimI.done (by kernel_rfl) ?_
                refine SimE.thenN ?_
                refine Sim.cond (r16.1.a3.Session == r12.1.a3.Session) (by kernel_rfl) ?_ ?_
                · refine Sim.seq ?_
                  refine Sim.region0 ?_
                  refine SimI.run 1 [(4, .one (lb false))] [] (by kernel_rfl) ?_
                  refine SimI.done (by kernel_rfl) ?_
                  refine SimE.thenN ?_
                  refine Sim.ret ?_
                  refine SimE.blockR ?_
                  refine SimE.thenR ?_
                  refine SimE.loopR ?_
                  refine SimE.blockR ?_
                  refine SimE.blockR ?_
                  refine SimE.thenR ?_
                  refine SimE.loopR ?_
                  refine SimE.blockR ?_
                  refine SimE.thenR ?_
                  exact SimE.fin (by kernel_rfl)
                · refine Sim.skip ?_
                  refine SimE.blockN ?_
                  refine SimE.thenN ?_
                  refine Sim.region0 ?_
                  refine SimI.run 3 [(10, .one (li .i64 4)), (49, .one (li .i64 4)), (48, .one (li .i64 3))] [] (by kernel_rfl) ?_
                  refine SimI.done (by kernel_rfl) ?_
                  refine SimE.loopN ?_
                  refine SimL.pre (ts := [0, 3, 5, 6, 7, 8, 9, 10]) (os := [3, 7, 9, 300000]) (ow := []) [(0, .one (vw Step.cod a0)), (3, .one (.ptr 3 0)), (5, .one (.ptr 300000 0)), (6, .one (li .i64 ii8)), (7, .one (.ptr 7 0)), (8, .one (li .i64 r15.1)), (9, .one (.ptr 9 0)), (10, .one (li .i64 4))] [(3, some (.cells [li .i64 a1.X, li .i64 a1.Y])), (7, some (.cells (A4_Watch.cells r12.1))), (9, some (.cells (A4_Watch.cells r16.1))), (300000, some (.cells (A4_Watch.cells g33.l)))] (by kernel_rfl) (by kernel_rfl) (by kernel_rfl) ?_
                  exact F12_u40_ok n a0 a1 ii8 r12 r15 r16 rec_l9 m_l9 ih_l9 g33
              · refine SimI.run 11 [(118, .one (lb false)), (117, .one (lb false)), (116, .tup []), (115, .tup []), (114, .tup []), (113, .tup []), (112, .tup []), (111, .tup []), (110, .tup []), (109, .tup []), (108, .tup [])] [] (by kernel_rfl) ?_
                refine SimI.done (by kernel_rfl) ?_
                refine SimE.thenN ?_
                refine Sim.condF (by kernel_rfl) ?_
                refine Sim.skip ?_
                refine SimE.blockN ?_
                refine SimE.thenN ?_
                refine Sim.region0 ?_
                refine SimI.run 3 [(10, .one (li .i64 4)), (49, .one (li .i64 4)), (48, .one (li .i64 3))] [] (by kernel_rfl) ?_
                refine SimI.done (by kernel_rfl) ?_
                refine SimE.loopN ?_
                refine SimL.pre (ts := [0, 3, 5, 6, 7, 8, 9, 10]) (os := [3, 7, 9, 300000]) (ow := []) [(0, .one (vw Step.cod a0)), (3, .one (.ptr 3 0)), (5, .one (.ptr 300000 0)), (6, .one (li .i64 ii8)), (7, .one (.ptr 7 0)), (8, .one (li .i64 r15.1)), (9, .one (.ptr 9 0)), (10, .one (li .i64 4))] [(3, some (.cells [li .i64 a1.X, li .i64 a1.Y])), (7, some (.cells (A4_Watch.cells r12.1))), (9, some (.cells (A4_Watch.cells r16.1))), (300000, some (.cells (A4_Watch.cells g33.l)))] (by kernel_rfl) (by kernel_rfl) (by kernel_rfl) ?_
                exact F12_u40_ok n a0 a1 ii8 r12 r15 r16 rec_l9 m_l9 ih_l9 g33
            · refine SimI.run 18 [(118, .one (lb false)), (117, .one (lb false)), (116, .tup []), (115, .tup []), (114, .tup []), (113, .tup []), (112, .tup []), (111, .tup []), (110, .tup []), (109, .tup []), (108, .tup []), (107, .one (lb false)), (106, .one (lb false)), (105, .tup []), (104, .tup []), (103, .tup []), (102, .tup []), (101, .tup [])] [] (by kernel_rfl) ?_
              refine SimI.done (by kernel_rfl) ?_
              refine SimE.thenN ?_
              refine Sim.condF (by kernel_rfl) ?_
              refine Sim.skip ?_
              refine SimE.blockN ?_
              refine SimE.thenN ?_
              refine Sim.region0 ?_
              refine SimI.run 3 [(10, .one (li .i64 4)), (49, .one (li .i64 4)), (48, .one (li .i64 3))] [] (by kernel_rfl) ?_
              refine SimI.done (by kernel_rfl) ?_
              refine SimE.loopN ?_
              refine SimL.pre (ts := [0, 3, 5, 6, 7, 8, 9, 10]) (os := [3, 7, 9, 300000]) (ow := []) [(0, .one (vw Step.cod a0)), (3, .one (.ptr 3 0)), (5, .one (.ptr 300000 0)), (6, .one (li .i64 ii8)), (7, .one (.ptr 7 0)), (8, .one (li .i64 r15.1)), (9, .one (.ptr 9 0)), (10, .one (li .i64 4))] [(3, some (.cells [li .i64 a1.X, li .i64 a1.Y])), (7, some (.cells (A4_Watch.cells r12.1))), (9, some (.cells (A4_Watch.cells r16.1))), (300000, some (.cells (A4_Watch.cells g33.l)))] (by kernel_rfl) (by kernel_rfl) (by kernel_rfl) ?_
              exact F12_u40_ok n a0 a1 ii8 r12 r15 r16 rec_l9 m_l9 ih_l9 g33
    · refine SimI.run 3 [(55, .one (li .i64 ii8)), (54, .one (vw Step.cod a0)), (53, .one (li .i64 3))] [] (by kernel_rfl) ?_
      refine SimI.bind (og := ix a0 ii8) { dst := some 56, op := POp.iaddrS 23 (Operand.tmp 54) (Operand.tmp 55), guard := some (52, false), hints := [(54, Hint.imm), (55, Hint.imm)] } (fun x36 => [(56, .one (.eptr (Step.cod.enc x36) 0))]) (fun x36 => []) (by kernel_rfl) (fun x36 hr => pOp_eff (by kernel_rfl) (by kernel_rfl) (eff_idx (c := Step.cod) (l := a0) (k := .i64) (n := ii8) (by kernel_rfl) (by kernel_rfl) (by kernel_rfl) hr)) (fun x36 => ?_)
      refine SimI.run 6 [(62, .one (lb ((3 : Int) != x36.C.Client))), (61, .one (lb ((3 : Int) != x36.C.Client))), (60, .one (lb ((3 : Int) != x36.C.Client))), (59, .one (li .i64 x36.C.Client)), (58, .one (.eptr (Step.cod.enc x36) 16)), (57, .one (.eptr (Step.cod.enc x36) 0))] [] (by kernel_rfl) ?_
      refine SimI.split 62 ((3 : Int) != x36.C.Client) (by kernel_rfl) ?_ ?_
      · refine SimI.run 6 [(68, .agg (Watch.cells r12.1.a3)), (67, .one (.ptr 7 21)), (66, .one (li .i64 3)), (65, .agg (Watch.cells r16.1.a3)), (64, .one (.ptr 9 21)), (63, .one (li .i64 3))] [] (by kernel_rfl) ?_
        refine SimI.step { dst := some 69, op := POp.prim (Prim.bin BinOp.neq 68 false false) [Operand.tmp 65, Operand.tmp 68], guard := some (62, true), hints := [(65, Hint.imm), (68, Hint.imm)] } [(69, .one (lb (!(Watch.eqb r16.1.a3 r12.1.a3))))] [] (by kernel_rfl) (pOp_eff (by kernel_rfl) (by kernel_rfl) (eff_prim (by kernel_rfl) (Watch_eqn r16.1.a3 r12.1.a3 _ _))) ?_
        refine SimI.run 2 [(71, .one (lb (!(Watch.eqb r16.1.a3 r12.1.a3)))), (70, .one (lb (!(Watch.eqb r16.1.a3 r12.1.a3))))] [] (by kernel_rfl) ?_
        refine SimI.split 71 (!(Watch.eqb r16.1.a3 r12.1.a3)) (by kernel_rfl) ?_ ?_
        · refine SimI.run 47 [(118, .one (lb true)), (117, .tup []), (116, .tup []), (115, .tup []), (114, .tup []), (113, .tup []), (112, .tup []), (111, .tup []), (110, .tup []), (109, .tup []), (108, .tup []), (107, .tup []), (106, .tup []), (105, .tup []), (104, .tup []), (103, .tup []), (102, .tup []), (101, .tup []), (100, .tup []), (99, .tup []), (98, .tup []), (97, .tup []), (96, .tup []), (95, .one (lb true)), (94, .one (lb true)), (93, .tup []), (92, .tup []), (91, .tup []), (90, .tup []), (89, .tup []), (88, .tup []), (87, .tup []), (86, .tup []), (85, .tup []), (84, .tup []), (83, .tup []), (82, .one (lb true)), (81, .one (lb true)), (80, .tup []), (79, .tup []), (78, .tup []), (77, .tup []), (76, .tup []), (75, .tup []), (74, .tup []), (73, .tup []), (72, .tup [])] [] (by kernel_rfl) ?_
          refine SimI.done (by kernel_rfl) ?_
          refine SimE.thenN ?_
          refine Sim.condT (by kernel_rfl) ?_
          refine Sim.seq ?_
          refine Sim.region0 ?_
          refine SimI.run 1 [(4, .one (lb false))] [] (by kernel_rfl) ?_
          refine SimI.done (by kernel_rfl) ?_
          refine SimE.thenN ?_
          refine Sim.ret ?_
          refine SimE.blockR ?_
          refine SimE.thenR ?_
          refine SimE.loopR ?_
          refine SimE.blockR ?_
          refine SimE.blockR ?_
          refine SimE.thenR ?_
          refine SimE.loopR ?_
          refine SimE.blockR ?_
          refine SimE.thenR ?_
          exact SimE.fin (by kernel_rfl)
        · refine SimI.run 11 [(82, .one (lb (decide (r16.1.a3.Session < r12.1.a3.Session)))), (81, .one (lb (decide (r16.1.a3.Session < r12.1.a3.Session)))), (80, .one (lb (decide (r16.1.a3.Session < r12.1.a3.Session)))), (79, .one (li .i64 r12.1.a3.Session)), (78, .one (.ptr 7 22)), (77, .one (.ptr 7 21)), (76, .one (li .i64 3)), (75, .one (li .i64 r16.1.a3.Session)), (74, .one (.ptr 9 22)), (73, .one (.ptr 9 21)), (72, .one (li .i64 3))] [] (by kernel_rfl) ?_
          refine SimI.split 82 (decide (r16.1.a3.Session < r12.1.a3.Session)) (by kernel_rfl) ?_ ?_
          · refine SimI.run 36 [(118, .one (lb true)), (117, .tup []), (116, .tup []), (115, .tup []), (114, .tup []), (113, .tup []), (112, .tup []), (111, .tup []), (110, .tup []), (109, .tup []), (108, .tup []), (107, .tup []), (106, .tup []), (105, .tup []), (104, .tup []), (103, .tup []), (102, .tup []), (101, .tup []), (100, .tup []), (99, .tup []), (98, .tup []), (97, .tup []), (96, .tup []), (95, .one (lb true)), (94, .one (lb true)), (93, .tup []), (92, .tup []), (91, .tup []), (90, .tup []), (89, .tup []), (88, .tup []), (87, .tup []), (86, .tup []), (85, .tup []), (84, .tup []), (83, .tup [])] [] (by kernel_rfl) ?_
            refine SimI.done (by kernel_rfl) ?_
            refine SimE.thenN ?_
            refine Sim.condT (by kernel_rfl) ?_
            refine Sim.seq ?_
            refine Sim.region0 ?_
            refine SimI.run 1 [(4, .one (lb false))] [] (by kernel_rfl) ?_
            refine SimI.done (by kernel_rfl) ?_
            refine SimE.thenN ?_
            refine Sim.ret ?_
            refine SimE.blockR ?_
            refine SimE.thenR ?_
            refine SimE.loopR ?_
            refine SimE.blockR ?_
            refine SimE.blockR ?_
            refine SimE.thenR ?_
            refine SimE.loopR ?_
            refine SimE.blockR ?_
            refine SimE.thenR ?_
            exact SimE.fin (by kernel_rfl)
          · refine SimI.run 6 [(88, .one (lb (!(r16.1.a3.On)))), (87, .one (lb (!(r16.1.a3.On)))), (86, .one (lb r16.1.a3.On)), (85, .one (.ptr 9 21)), (84, .one (.ptr 9 21)), (83, .one (li .i64 3))] [] (by kernel_rfl) ?_
            refine SimI.split 88 (!(r16.1.a3.On)) (by kernel_rfl) ?_ ?_
            · refine SimI.run 3 [(91, .agg [li .i64 a1.X, li .i64 a1.Y]), (90, .one (li .i64 3)), (89, .one (.ptr 300000 0))] [] (by kernel_rfl) ?_
              refine SimI.bind (og := F42 n g33 3 a1) { dst := some 92, op := POp.call true [[], [], []] 42 [Operand.tmp 89, Operand.tmp 90, Operand.tmp 91], guard := some (88, true), hints := [(89, Hint.at_ 300000 0), (90, Hint.imm), (91, Hint.imm)] } (fun r37 => [(92, .one (lb r37.1))]) (fun r37 => [(300000, some (.cells (A4_Watch.cells r37.2.l)))]) (by kernel_rfl) (fun r37 hr => pOp_eff (by kernel_rfl) (by kernel_rfl) (eff_callp (ARGS := [.one (.ptr 300000 0), .one (li .i64 3), .agg [li .i64 a1.X, li .i64 a1.Y]]) (ARGS' := [.one (.ptr 1000000 0), .one (li .i64 3), .agg [li .i64 a1.X, li .i64 a1.Y]]) (ks := [300000]) (os := [(A4_Watch.cells g33.l)]) (os' := [(A4_Watch.cells r37.2.l)]) (by kernel_rfl) (args_ptr (by kernel_rfl) (args_clean (by kernel_rfl) (args_clean (by kernel_rfl) args_nil))) rfl (by kernel_rfl) (F42_ok n g33 3 a1 r37 hr) (by kernel_rfl) (by kernel_rfl))) (fun r37 => ?_)
              refine SimI.run 3 [(95, .one (lb r37.1)), (94, .one (lb r37.1)), (93, .one (lb r37.1))] [] (by kernel_rfl) ?_
              refine SimI.split 95 r37.1 (by kernel_rfl) ?_ ?_
              · refine SimI.run 23 [(118, .one (lb true)), (117, .tup []), (116, .tup []), (115, .tup []), (114, .tup []), (113, .tup []), (112, .tup []), (111, .tup []), (110, .tup []), (109, .tup []), (108, .tup []), (107, .tup []), (106, .tup []), (105, .tup []), (104, .tup []), (103, .tup []), (102, .tup []), (101, .tup []), (100, .tup []), (99, .tup []), (98, .tup []), (97, .tup []), (96, .tup [])] [] (by kernel_rfl) ?_
                refine SimI.done (by kernel_rfl) ?_
                refine SimE.thenN ?_
                refine Sim.condT (by kernel_rfl) ?_
                refine Sim.seq ?_
                refine Sim.region0 ?_
                refine SimI.run 1 [(4, .one (lb false))] [] (by kernel_rfl) ?_
                refine SimI.done (by kernel_rfl) ?_
                refine SimE.thenN ?_
                refine Sim.ret ?_
                refine SimE.blockR ?_
                refine SimE.thenR ?_
                refine SimE.loopR ?_
                refine SimE.blockR ?_
                refine SimE.blockR ?_
                refine SimE.thenR ?_
                refine SimE.loopR ?_
                refine SimE.blockR ?_
                refine SimE.thenR ?_
                exact SimE.fin (by kernel_rfl)
              · refine SimI.run 5 [(100, .one (lb r16.1.a3.On)), (99, .one (lb r16.1.a3.On)), (98, .one (.ptr 9 21)), (97, .one (.ptr 9 21)), (96, .one (li .i64 3))] [] (by kernel_rfl) ?_
                refine SimI.split 100 r16.1.a3.On (by kernel_rfl) ?_ ?_
                · refine SimI.run 7 [(107, .one (lb (!(r12.1.a3.On)))), (106, .one (lb (!(r12.1.a3.On)))), (105, .one (lb (!(r12.1.a3.On)))), (104, .one (lb r12.1.a3.On)), (103, .one (.ptr 7 21)), (102, .one (.ptr 7 21)), (101, .one (li .i64 3))] [] (by kernel_rfl) ?_
                  refine SimI.split 107 (!(r12.1.a3.On)) (by kernel_rfl) ?_ ?_
                  · refine SimI.run 11 [(118, .one (lb (r16.1.a3.Session == r12.1.a3.Session))), (117, .one (lb (r16.1.a3.Session == r12.1.a3.Session))), (116, .one (lb (r16.1.a3.Session == r12.1.a3.Session))), (115, .one (li .i64 r12.1.a3.Session)), (114, .one (.ptr 7 22)), (113, .one (.ptr 7 21)), (112, .one (li .i64 3)), (111, .one (li .i64 r16.1.a3.Session)), (110, .one (.ptr 9 22)), (109, .one (.ptr 9 21)), (108, .one (li .i64 3))] [] (by kernel_rfl) ?_
                    refine SimI.done (by kernel_rfl) ?_
                    refine SimE.thenN ?_
                    refine Sim.cond (r16.1.a3.Session == r12.1.a3.Session) (by kernel_rfl) ?_ ?_
                    · refine Sim.seq ?_
                      refine Sim.region0 ?_
                      refine SimI.run 1 [(4, .one (lb false))] [] (by kernel_rfl) ?_
                      refine SimI.done (by kernel_rfl) ?_
                      refine SimE.thenN ?_
                      refine Sim.ret ?_
                      refine SimE.blockR ?_
                      refine SimE.thenR ?_
                      refine SimE.loopR ?_
                      refine SimE.blockR ?_
                      refine SimE.blockR ?_
                      refine SimE.thenR ?_
                      refine SimE.loopR ?_
                      refine SimE.blockR ?_
                      refine SimE.thenR ?_
                      exact SimE.fin (by kernel_rfl)
                    · refine Sim.skip ?_
                      refine SimE.blockN ?_
                      refine SimE.thenN ?_
                      refine Sim.region0 ?_
                      refine SimI.run 3 [(10, .one (li .i64 4)), (49, .one (li .i64 4)), (48, .one (li .i64 3))] [] (by kernel_rfl) ?_
                      refine SimI.done (by kernel_rfl) ?_
                      refine SimE.loopN ?_
                      refine SimL.pre (ts := [0, 3, 5, 6, 7, 8, 9, 10]) (os := [3, 7, 9, 300000]) (ow := []) [(0, .one (vw Step.cod a0)), (3, .one (.ptr 3 0)), (5, .one (.ptr 300000 0)), (6, .one (li .i64 ii8)), (7, .one (.ptr 7 0)), (8, .one (li .i64 r15.1)), (9, .one (.ptr 9 0)), (10, .one (li .i64 4))] [(3, some (.cells [li .i64 a1.X, li .i64 a1.Y])), (7, some (.cells (A4_Watch.cells r12.1))), (9, some (.cells (A4_Watch.cells r16.1))), (300000, some (.cells (A4_Watch.cells r37.2.l)))] (by kernel_rfl) (by kernel_rfl) (by kernel_rfl) ?_
                      exact F12_u40_ok n a0 a1 ii8 r12 r15 r16 rec_l9 m_l9 ih_l9 r37.2
                  · refine SimI.run 11 [(118, .one (lb false)), (117, .one (lb false)), (116, .tup []), (115, .tup []), (114, .tup []), (113, .tup []), (112, .tup []), (111, .tup []), (110, .tup []), (109, .tup []), (108, .tup [])] [] (by kernel_rfl) ?_
                    refine SimI.done (by kernel_rfl) ?_
                    refine SimE.thenN ?_
                    refine Sim.condF (by kernel_rfl) ?_
                    refine Sim.skip ?_
                    refine SimE.blockN ?_
                    refine SimE.thenN ?_
                    refine Sim.region0 ?_
                    refine SimI.run 3 [(10, .one (li .i64 4)), (49, .one (li .i64 4)), (48, .one (li .i64 3))] [] (by kernel_rfl) ?_
                    refine SimI.done (by kernel_rfl) ?_
                    refine SimE.loopN ?_
                    refine SimL.pre (ts := [0, 3, 5, 6, 7, 8, 9, 10]) (os := [3, 7, 9, 300000]) (ow := []) [(0, .one (vw Step.cod a0)), (3, .one (.ptr 3 0)), (5, .one (.ptr 300000 0)), (6, .one (li .i64 ii8)), (7, .one (.ptr 7 0)), (8, .one (li .i64 r15.1)), (9, .one (.ptr 9 0)), (10, .one (li .i64 4))] [(3, some (.cells [li .i64 a1.X, li .i64 a1.Y])), (7, some (.cells (A4_Watch.cells r12.1))), (9, some (.cells (A4_Watch.cells r16.1))), (300000, some (.cells (A4_Watch.cells r37.2.l)))] (by kernel_rfl) (by kernel_rfl) (by kernel_rfl) ?_
                    exact F12_u40_ok n a0 a1 ii8 r12 r15 r16 rec_l9 m_l9 ih_l9 r37.2
                · refine SimI.run 18 [(118, .one (lb false)), (117, .one (lb false)), (116, .tup []), (115, .tup []), (114, .tup []), (113, .tup []), (112, .tup []), (111, .tup []), (110, .tup []), (109, .tup []), (108, .tup []), (107, .one (lb false)), (106, .one (lb false)), (105, .tup []), (104, .tup []), (103, .tup []), (102, .tup []), (101, .tup [])] [] (by kernel_rfl) ?_
                  refine SimI.done (by kernel_rfl) ?_
                  refine SimE.thenN ?_
                  refine Sim.condF (by kernel_rfl) ?_
                  refine Sim.skip ?_
                  refine SimE.blockN ?_
                  refine SimE.thenN ?_
                  refine Sim.region0 ?_
                  refine SimI.run 3 [(10, .one (li .i64 4)), (49, .one (li .i64 4)), (48, .one (li .i64 3))] [] (by kernel_rfl) ?_
                  refine SimI.done (by kernel_rfl) ?_
                  refine SimE.loopN ?_
                  refine SimL.pre (ts := [0, 3, 5, 6, 7, 8, 9, 10]) (os := [3, 7, 9, 300000]) (ow := []) [(0, .one (vw Step.cod a0)), (3, .one (.ptr 3 0)), (5, .one (.ptr 300000 0)), (6, .one (li .i64 ii8)), (7, .one (.ptr 7 0)), (8, .one (li .i64 r15.1)), (9, .one (.ptr 9 0)), (10, .one (li .i64 4))] [(3, some (.cells [li .i64 a1.X, li .i64 a1.Y])), (7, some (.cells (A4_Watch.cells r12.1))), (9, some (.cells (A4_Watch.cells r16.1))), (300000, some (.cells (A4_Watch.cells r37.2.l)))] (by kernel_rfl) (by kernel_rfl) (by kernel_rfl) ?_
                  exact F12_u40_ok n a0 a1 ii8 r12 r15 r16 rec_l9 m_l9 ih_l9 r37.2
            · refine SimI.run 12 [(100, .one (lb r16.1.a3.On)), (99, .one (lb r16.1.a3.On)), (98, .one (.ptr 9 21)), (97, .one (.ptr 9 21)), (96, .one (li .i64 3)), (95, .one (lb false)), (94, .one (lb false)), (93, .one (lb false)), (92, .tup []), (91, .tup []), (90, .tup []), (89, .tup [])] [] (by kernel_rfl) ?_
              refine SimI.split 100 r16.1.a3.On (by kernel_rfl) ?_ ?_
              · refine SimI.run 7 [(107, .one (lb (!(r12.1.a3.On)))), (106, .one (lb (!(r12.1.a3.On)))), (105, .one (lb (!(r12.1.a3.On)))), (104, .one (lb r12.1.a3.On)), (103, .one (.ptr 7 21)), (102, .one (.ptr 7 21)), (101, .one (li .i64 3))] [] (by kernel_rfl) ?_
                refine SimI.split 107 (!(r12.1.a3.On)) (by kernel_rfl) ?_ ?_
                · refine SimI.run 11 [(118, .one (lb (r16.1.a3.Session == r12.1.a3.Session))), (117, .one (lb (r16.1.a3.Session == r12.1.a3.Session))), (116, .one (lb (r16.1.a3.Session == r12.1.a3.Session))), (115, .one (li .i64 r12.1.a3.Session)), (114, .one (.ptr 7 22)), (113, .one (.ptr 7 21)), (112, .one (li .i64 3)), (111, .one (li .i64 r16.1.a3.Session)), (110, .one (.ptr 9 22)), (109, .one (.ptr 9 21)), (108, .one (li .i64 3))] [] (by kernel_rfl) ?_
                  refine SimI.done (by kernel_rfl) ?_
                  refine SimE.thenN ?_
                  refine Sim.cond (r16.1.a3.Session == r12.1.a3.Session) (by kernel_rfl) ?_ ?_
                  · refine Sim.seq ?_
                    refine Sim.region0 ?_
                    refine SimI.run 1 [(4, .one (lb false))] [] (by kernel_rfl) ?_
                    refine SimI.done (by kernel_rfl) ?_
                    refine SimE.thenN ?_
                    refine Sim.ret ?_
                    refine SimE.blockR ?_
                    refine SimE.thenR ?_
                    refine SimE.loopR ?_
                    refine SimE.blockR ?_
                    refine SimE.blockR ?_
                    refine SimE.thenR ?_
                    refine SimE.loopR ?_
                    refine SimE.blockR ?_
                    refine SimE.thenR ?_
                    exact SimE.fin (by kernel_rfl)
                  · refine Sim.skip ?_
                    refine SimE.blockN ?_
                    refine SimE.thenN ?_
                    refine Sim.region0 ?_
                    refine SimI.run 3 [(10, .one (li .i64 4)), (49, .one (li .i64 4)), (48, .one (li .i64 3))] [] (by kernel_rfl) ?_
                    refine SimI.done (by kernel_rfl) ?_
                    refine SimE.loopN ?_
                    refine SimL.pre (ts := [0, 3, 5, 6, 7, 8, 9, 10]) (os := [3, 7, 9, 300000]) (ow := []) [(0, .one (vw Step.cod a0)), (3, .one (.ptr 3 0)), (5, .one (.ptr 300000 0)), (6, .one (li .i64 ii8)), (7, .one (.ptr 7 0)), (8, .one (li .i64 r15.1)), (9, .one (.ptr 9 0)), (10, .one (li .i64 4))] [(3, some (.cells [li .i64 a1.X, li .i64 a1.Y])), (7, some (.cells (A4_Watch.cells r12.1))), (9, some (.cells (A4_Watch.cells r16.1))), (300000, some (.cells (A4_Watch.cells g33.l)))] (by kernel_rfl) (by kernel_rfl) (by kernel_rfl) ?_
                    exact F12_u40_ok n a0 a1 ii8 r12 r15 r16 rec_l9 m_l9 ih_l9 g33
                · refine SimI.run 11 [(118, .one (lb false)), (117, .one (lb false)), (116, .tup []), (115, .tup []), (114, .tup []), (113, .tup []), (112, .tup []), (111, .tup []), (110, .tup []), (109, .tup []), (108, .tup [])] [] (by kernel_rfl) ?_
                  refine SimI.done (by kernel_rfl) ?_
                  refine SimE.thenN ?_
                  refine Sim.condF (by kernel_rfl) ?_
                  refine Sim.skip ?_
                  refine SimE.blockN ?_
                  refine SimE.thenN ?_
                  refine Sim.region0 ?_
                  refine SimI.run 3 [(10, .one (li .i64 4)), (49, .one (li .i64 4)), (48, .one (li .i64 3))] [] (by kernel_rfl) ?_
                  refine SimI.done (by kernel_rfl) ?_
                  refine SimE.loopN ?_
                  refine SimL.pre (ts := [0, 3, 5, 6, 7, 8, 9, 10]) (os := [3, 7, 9, 300000]) (ow := []) [(0, .one (vw Step.cod a0)), (3, .one (.ptr 3 0)), (5, .one (.ptr 300000 0)), (6, .one (li .i64 ii8)), (7, .one (.ptr 7 0)), (8, .one (li .i64 r15.1)), (9, .one (.ptr 9 0)), (10, .one (li .i64 4))] [(3, some (.cells [li .i64 a1.X, li .i64 a1.Y])), (7, some (.cells (A4_Watch.cells r12.1))), (9, some (.cells (A4_Watch.cells r16.1))), (300000, some (.cells (A4_Watch.cells g33.l)))] (by kernel_rfl) (by kernel_rfl) (by kernel_rfl) ?_
                  exact F12_u40_ok n a0 a1 ii8 r12 r15 r16 rec_l9 m_l9 ih_l9 g33
              · refine SimI.run 18 [(118, .one (lb false)), (117, .one (lb false)), (116, .tup []), (115, .tup []), (114, .tup []), (113, .tup []), (112, .tup []), (111, .tup []), (110, .tup []), (109, .tup []), (108, .tup []), (107, .one (lb false)), (106, .one (lb false)), (105, .tup []), (104, .tup []), (103, .tup []), (102, .tup []), (101, .tup [])] [] (by kernel_rfl) ?_
                refine SimI.done (by kernel_rfl) ?_
                refine SimE.thenN ?_
                refine Sim.condF (by kernel_rfl) ?_
                refine Sim.skip ?_
                refine SimE.blockN ?_
                refine SimE.thenN ?_
                refine Sim.region0 ?_
                refine SimI.run 3 [(10, .one (li .i64 4)), (49, .one (li .i64 4)), (48, .one (li .i64 3))] [] (by kernel_rfl) ?_
                refine SimI.done (by kernel_rfl) ?_
                refine SimE.loopN ?_
                refine SimL.pre (ts := [0, 3, 5, 6, 7, 8, 9, 10]) (os := [3, 7, 9, 300000]) (ow := []) [(0, .one (vw Step.cod a0)), (3, .one (.ptr 3 0)), (5, .one (.ptr 300000 0)), (6, .one (li .i64 ii8)), (7, .one (.ptr 7 0)), (8, .one (li .i64 r15.1)), (9, .one (.ptr 9 0)), (10, .one (li .i64 4))] [(3, some (.cells [li .i64 a1.X, li .i64 a1.Y])), (7, some (.cells (A4_Watch.cells r12.1))), (9, some (.cells (A4_Watch.cells r16.1))), (300000, some (.cells (A4_Watch.cells g33.l)))] (by kernel_rfl) (by kernel_rfl) (by kernel_rfl) ?_
                exact F12_u40_ok n a0 a1 ii8 r12 r15 r16 rec_l9 m_l9 ih_l9 g33
      · refine SimI.run 20 [(82, .one (lb (decide (r16.1.a3.Session < r12.1.a3.Session)))), (81, .one (lb (decide (r16.1.a3.Session < r12.1.a3.Session)))), (80, .one (lb (decide (r16.1.a3.Session < r12.1.a3.Session)))), (79, .one (li .i64 r12.1.a3.Session)), (78, .one (.ptr 7 22)), (77, .one (.ptr 7 21)), (76, .one (li .i64 3)), (75, .one (li .i64 r16.1.a3.Session)), (74, .one (.ptr 9 22)), (73, .one (.ptr 9 21)), (72, .one (li .i64 3)), (71, .one (lb false)), (70, .one (lb false)), (69, .tup []), (68, .tup []), (67, .tup []), (66, .tup []), (65, .tup []), (64, .tup []), (63, .tup [])] [] (by kernel_rfl) ?_
        refine SimI.split 82 (decide (r16.1.a3.Session < r12.1.a3.Session)) (by kernel_rfl) ?_ ?_
        · refine SimI.run 36 [(118, .one (lb true)), (117, .tup []), (116, .tup []), (115, .tup []), (114, .tup []), (113, .tup []), (112, .tup []), (111, .tup []), (110, .tup []), (109, .tup []), (108, .tup []), (107, .tup []), (106, .tup []), (105, .tup []), (104, .tup []), (103, .tup []), (102, .tup []), (101, .tup []), (100, .tup []), (99, .tup []), (98, .tup []), (97, .tup []), (96, .tup []), (95, .one (lb true)), (94, .one (lb true)), (93, .tup []), (92, .tup []), (91, .tup []), (90, .tup []), (89, .tup []), (88, .tup []), (87, .tup []), (86, .tup []), (85, .tup []), (84, .tup []), (83, .tup [])] [] (by kernel_rfl) ?_
          refine SimI.done (by kernel_rfl) ?_
          refine SimE.thenN ?_
          refine Sim.condT (by kernel_rfl) ?_
          refine Sim.seq ?_
          refine Sim.region0 ?_
          refine SimI.run 1 [(4, .one (lb false))] [] (by kernel_rfl) ?_
          refine SimI.done (by kernel_rfl) ?_
          refine SimE.thenN ?_
          refine Sim.ret ?_
          refine SimE.blockR ?_
          refine SimE.thenR ?_
          refine SimE.loopR ?_
          refine SimE.blockR ?_
          refine SimE.blockR ?_
          refine SimE.thenR ?_
          refine SimE.loopR ?_
          refine SimE.blockR ?_
          refine SimE.thenR ?_
          exact SimE.fin (by kernel_rfl)
        · refine SimI.run 6 [(88, .one (lb (!(r16.1.a3.On)))), (87, .one (lb (!(r16.1.a3.On)))), (86, .one (lb r16.1.a3.On)), (85, .one (.ptr 9 21)), (84, .one (.ptr 9 21)), (83, .one (li .i64 3))] [] (by kernel_rfl) ?_
          refine SimI.split 88 (!(r16.1.a3.On)) (by kernel_rfl) ?_ ?_
          · refine SimI.run 3 [(91, .agg [li .i64 a1.X, li .i64 a1.Y]), (90, .one (li .i64 3)), (89, .one (.ptr 300000 0))] [] (by kernel_rfl) ?_
            refine SimI.bind (og := F42 n g33 3 a1) { dst := some 92, op := POp.call true [[], [], []] 42 [Operand.tmp 89, Operand.tmp 90, Operand.tmp 91], guard := some (88, true), hints := [(89, Hint.at_ 300000 0), (90, Hint.imm), (91, Hint.imm)] } (fun r38 => [(92, .one (lb r38.1))]) (fun r38 => [(300000, some (.cells (A4_Watch.cells r38.2.l)))]) (by kernel_rfl) (fun r38 hr => pOp_eff (by kernel_rfl) (by kernel_rfl) (eff_callp (ARGS := [.one (.ptr 300000 0), .one (li .i64 3), .agg [li .i64 a1.X, li .i64 a1.Y]]) (ARGS' := [.one (.ptr 1000000 0), .one (li .i64 3), .agg [li .i64 a1.X, li .i64 a1.Y]]) (ks := [300000]) (os := [(A4_Watch.cells g33.l)]) (os' := [(A4_Watch.cells r38.2.l)]) (by kernel_rfl) (args_ptr (by kernel_rfl) (args_clean (by kernel_rfl) (args_clean (by kernel_rfl) args_nil))) rfl (by kernel_rfl) (F42_ok n g33 3 a1 r38 hr) (by kernel_rfl) (by kernel_rfl))) (fun r38 => ?_)
            refine SimI.run 3 [(95, .one (lb r38.1)), (94, .one (lb r38.1)), (93, .one (lb r38.1))] [] (by kernel_rfl) ?_
            refine SimI.split 95 r38.1 (by kernel_rfl) ?_ ?_
            · refine SimI.run 23 [(118, .one (lb true)), (117, .tup []), (116, .tup []), (115, .tup []), (114, .tup []), (113, .tup []), (112, .tup []), (111, .tup []), (110, .tup []), (109, .tup []), (108, .tup []), (107, .tup []), (106, .tup []), (105, .tup []), (104, .tup []), (103, .tup []), (102, .tup []), (101, .tup []), (100, .tup []), (99, .tup []), (98, .tup []), (97, .tup []), (96, .tup [])] [] (by kernel_rfl) ?_
              refine SimI.done (by kernel_rfl) ?_
              refine SimE.thenN ?_
              refine Sim.condT (by kernel_rfl) ?_
              refine Sim.seq ?_
              refine Sim.region0 ?_
              refine SimI.run 1 [(4, .one (lb false))] [] (by kernel_rfl) ?_
              refine SimI.done (by kernel_rfl) ?_
              refine SimE.thenN ?_
              refine Sim.ret ?_
              refine SimE.blockR ?_
              refine SimE.thenR ?_
              refine SimE.loopR ?_
              refine SimE.blockR ?_
              refine SimE.blockR ?_
              refine SimE.thenR ?_
              refine SimE.loopR ?_
              refine SimE.blockR ?_
              refine SimE.thenR ?_
              exact SimE.fin (by kernel_rfl)
            · refine SimI.run 5 [(100, .one (lb r16.1.a3.On)), (99, .one (lb r16.1.a3.On)), (98, .one (.ptr 9 21)), (97, .one (.ptr 9 21)), (96, .one (li .i64 3))] [] (by kernel_rfl) ?_
              refine SimI.split 100 r16.1.a3.On (by kernel_rfl) ?_ ?_
              · refine SimI.run 7 [(107, .one (lb (!(r12.1.a3.On)))), (106, .one (lb (!(r12.1.a3.On)))), (105, .one (lb (!(r12.1.a3.On)))), (104, .one (lb r12.1.a3.On)), (103, .one (.ptr 7 21)), (102, .one (.ptr 7 21)), (101, .one (li .i64 3))] [] (by kernel_rfl) ?_
                refine SimI.split 107 (!(r12.1.a3.On)) (by kernel_rfl) ?_ ?_
                · refine SimI.run 11 [(118, .one (lb (r16.1.a3.Session == r12.1.a3.Session))), (117, .one (lb (r16.1.a3.Session == r12.1.a3.Session))), (116, .one (lb (r16.1.a3.Session == r12.1.a3.Session))), (115, .one (li .i64 r12.1.a3.Session)), (114, .one (.ptr 7 22)), (113, .one (.ptr 7 21)), (112, .one (li .i64 3)), (111, .one (li .i64 r16.1.a3.Session)), (110, .one (.ptr 9 22)), (109, .one (.ptr 9 21)), (108, .one (li .i64 3))] [] (by kernel_rfl) ?_
                  refine SimI.done (by kernel_rfl) ?_
                  refine SimE.thenN ?_
                  refine Sim.cond (r16.1.a3.Session == r12.1.a3.Session) (by kernel_rfl) ?_ ?_
                  · refine Sim.seq ?_
                    refine Sim.region0 ?_
                    refine SimI.run 1 [(4, .one (lb false))] [] (by kernel_rfl) ?_
                    refine SimI.done (by kernel_rfl) ?_
                    refine SimE.thenN ?_
                    refine Sim.ret ?_
                    refine SimE.blockR ?_
                    refine SimE.thenR ?_
                    refine SimE.loopR ?_
                    refine SimE.blockR ?_
                    refine SimE.blockR ?_
                    refine SimE.thenR ?_
                    refine SimE.loopR ?_
                    refine SimE.blockR ?_
                    refine SimE.thenR ?_
                    exact SimE.fin (by kernel_rfl)
                  · refine Sim.skip ?_
                    refine SimE.blockN ?_
                    refine SimE.thenN ?_
                    refine Sim.region0 ?_
                    refine SimI.run 3 [(10, .one (li .i64 4)), (49, .one (li .i64 4)), (48, .one (li .i64 3))] [] (by kernel_rfl) ?_
                    refine SimI.done (by kernel_rfl) ?_
                    refine SimE.loopN ?_
                    refine SimL.pre (ts := [0, 3, 5, 6, 7, 8, 9, 10]) (os := [3, 7, 9, 300000]) (ow := []) [(0, .one (vw Step.cod a0)), (3, .one (.ptr 3 0)), (5, .one (.ptr 300000 0)), (6, .one (li .i64 ii8)), (7, .one (.ptr 7 0)), (8, .one (li .i64 r15.1)), (9, .one (.ptr 9 0)), (10, .one (li .i64 4))] [(3, some (.cells [li .i64 a1.X, li .i64 a1.Y])), (7, some (.cells (A4_Watch.cells r12.1))), (9, some (.cells (A4_Watch.cells r16.1))), (300000, some (.cells (A4_Watch.cells r38.2.l)))] (by kernel_rfl) (by kernel_rfl) (by kernel_rfl) ?_
                    exact F12_u40_ok n a0 a1 ii8 r12 r15 r16 rec_l9 m_l9 ih_l9 r38.2
                · refine SimI.run 11 [(118, .one (lb false)), (117, .one (lb false)), (116, .tup []), (115, .tup []), (114, .tup []), (113, .tup []), (112, .tup []), (111, .tup []), (110, .tup []), (109, .tup []), (108, .tup [])] [] (by kernel_rfl) ?_
                  refine SimI.done (by kernel_rfl) ?_
                  refine SimE.thenN ?_
                  refine Sim.condF (by kernel_rfl) ?_
                  refine Sim.skip ?_
                  refine SimE.blockN ?_
                  refine SimE.thenN ?_
                  refine Sim.region0 ?_
                  refine SimI.run 3 [(10, .one (li .i64 4)), (49, .one (li .i64 4)), (48, .one (li .i64 3))] [] (by kernel_rfl) ?_
                  refine SimI.done (by kernel_rfl) ?_
                  refine SimE.loopN ?_
                  refine SimL.pre (ts := [0, 3, 5, 6, 7, 8, 9, 10]) (os := [3, 7, 9, 300000]) (ow := []) [(0, .one (vw Step.cod a0)), (3, .one (.ptr 3 0)), (5, .one (.ptr 300000 0)), (6, .one (li .i64 ii8)), (7, .one (.ptr 7 0)), (8, .one (li .i64 r15.1)), (9, .one (.ptr 9 0)), (10, .one (li .i64 4))] [(3, some (.cells [li .i64 a1.X, li .i64 a1.Y])), (7, some (.cells (A4_Watch.cells r12.1))), (9, some (.cells (A4_Watch.cells r16.1))), (300000, some (.cells (A4_Watch.cells r38.2.l)))] (by kernel_rfl) (by kernel_rfl) (by kernel_rfl) ?_
                  exact F12_u40_ok n a0 a1 ii8 r12 r15 r16 rec_l9 m_l9 ih_l9 r38.2
              · refine SimI.run 18 [(118, .one (lb false)), (117, .one (lb false)), (116, .tup []), (115, .tup []), (114, .tup []), (113, .tup []), (112, .tup []), (111, .tup []), (110, .tup []), (109, .tup []), (108, .tup []), (107, .one (lb false)), (106, .one (lb false)), (105, .tup []), (104, .tup []), (103, .tup []), (102, .tup []), (101, .tup [])] [] (by kernel_rfl) ?_
                refine SimI.done (by kernel_rfl) ?_
                refine SimE.thenN ?_
                refine Sim.condF (by kernel_rfl) ?_
                refine Sim.skip ?_
                refine SimE.blockN ?_
                refine SimE.thenN ?_
                refine Sim.region0 ?_
                refine SimI.run 3 [(10, .one (li .i64 4)), (49, .one (li .i64 4)), (48, .one (li .i64 3))] [] (by kernel_rfl) ?_
                refine SimI.done (by kernel_rfl) ?_
                refine SimE.loopN ?_
                refine SimL.pre (ts := [0, 3, 5, 6, 7, 8, 9, 10]) (os := [3, 7, 9, 300000]) (ow := []) [(0, .one (vw Step.cod a0)), (3, .one (.ptr 3 0)), (5, .one (.ptr 300000 0)), (6, .one (li .i64 ii8)), (7, .one (.ptr 7 0)), (8, .one (li .i64 r15.1)), (9, .one (.ptr 9 0)), (10, .one (li .i64 4))] [(3, some (.cells [li .i64 a1.X, li .i64 a1.Y])), (7, some (.cells (A4_Watch.cells r12.1))), (9, some (.cells (A4_Watch.cells r16.1))), (300000, some (.cells (A4_Watch.cells r38.2.l)))] (by kernel_rfl) (by kernel_rfl) (by kernel_rfl) ?_
                exact F12_u40_ok n a0 a1 ii8 r12 r15 r16 rec_l9 m_l9 ih_l9 r38.2
          · refine SimI.run 12 [(100, .one (lb r16.1.a3.On)), (99, .one (lb r16.1.a3.On)), (98, .one (.ptr 9 21)), (97, .one (.ptr 9 21)), (96, .one (li .i64 3)), (95, .one (lb false)), (94, .one (lb false)), (93, .one (lb false)), (92, .tup []), (91, .tup []), (90, .tup []), (89, .tup [])] [] (by kernel_rfl) ?_
            refine SimI.split 100 r16.1.a3.On (by kernel_rfl) ?_ ?_
            · refine SimI.run 7 [(107, .one (lb (!(r12.1.a3.On)))), (106, .one (lb (!(r12.1.a3.On)))), (105, .one (lb (!(r12.1.a3.On)))), (104, .one (lb r12.1.a3.On)), (103, .one (.ptr 7 21)), (102, .one (.ptr 7 21)), (101, .one (li .i64 3))] [] (by kernel_rfl) ?_
              refine SimI.split 107 (!(r12.1.a3.On)) (by kernel_rfl) ?_ ?_
              · refine SimI.run 11 [(118, .one (lb (r16.1.a3.Session == r12.1.a3.Session))), (117, .one (lb (r16.1.a3.Session == r12.1.a3.Session))), (116, .one (lb (r16.1.a3.Session == r12.1.a3.Session))), (115, .one (li .i64 r12.1.a3.Session)), (114, .one (.ptr 7 22)), (113, .one (.ptr 7 21)), (112, .one (li .i64 3)), (111, .one (li .i64 r16.1.a3.Session)), (110, .one (.ptr 9 22)), (109, .one (.ptr 9 21)), (108, .one (li .i64 3))] [] (by kernel_rfl) ?_
                refine SimI.done (by kernel_rfl) ?_
                refine SimE.thenN ?_
                refine Sim.cond (r16.1.a3.Session == r12.1.a3.Session) (by kernel_rfl) ?_ ?_
                · refine Sim.seq ?_
                  refine Sim.region0 ?_
                  refine SimI.run 1 [(4, .one (lb false))] [] (by kernel_rfl) ?_
                  refine SimI.done (by kernel_rfl) ?_
                  refine SimE.thenN ?_
                  refine Sim.ret ?_
                  refine SimE.blockR ?_
                  refine SimE.thenR ?_
                  refine SimE.loopR ?_
                  refine SimE.blockR ?_
                  refine SimE.blockR ?_
                  refine SimE.thenR ?_
                  refine SimE.loopR ?_
                  refine SimE.blockR ?_
                  refine SimE.thenR ?_
                  exact SimE.fin (by kernel_rfl)
                · refine Sim.skip ?_
                  refine SimE.blockN ?_
                  refine SimE.thenN ?_
                  refine Sim.region0 ?_
                  refine SimI.run 3 [(10, .one (li .i64 4)), (49, .one (li .i64 4)), (48, .one (li .i64 3))] [] (by kernel_rfl) ?_
                  refine SimI.done (by kernel_rfl) ?_
                  refine SimE.loopN ?_
                  refine SimL.pre (ts := [0, 3, 5, 6, 7, 8, 9, 10]) (os := [3, 7, 9, 300000]) (ow := []) [(0, .one (vw Step.cod a0)), (3, .one (.ptr 3 0)), (5, .one (.ptr 300000 0)), (6, .one (li .i64 ii8)), (7, .one (.ptr 7 0)), (8, .one (li .i64 r15.1)), (9, .one (.ptr 9 0)), (10, .one (li .i64 4))] [(3, some (.cells [li .i64 a1.X, li .i64 a1.Y])), (7, some (.cells (A4_Watch.cells r12.1))), (9, some (.cells (A4_Watch.cells r16.1))), (300000, some (.cells (A4_Watch.cells g33.l)))] (by kernel_rfl) (by kernel_rfl) (by kernel_rfl) ?_
                  exact F12_u40_ok n a0 a1 ii8 r12 r15 r16 rec_l9 m_l9 ih_l9 g33
              · refine SimI.run 11 [(118, .one (lb false)), (117, .one (lb false)), (116, .tup []), (115, .tup []), (114, .tup []), (113, .tup []), (112, .tup []), (111, .tup []), (110, .tup []), (109, .tup []), (108, .tup [])] [] (by kernel_rfl) ?_
                refine SimI.done (by kernel_rfl) ?_
                refine SimE.thenN ?_
                refine Sim.condF (by kernel_rfl) ?_
                refine Sim.skip ?_
                refine SimE.blockN ?_
                refine SimE.thenN ?_
                refine Sim.region0 ?_
                refine SimI.run 3 [(10, .one (li .i64 4)), (49, .one (li .i64 4)), (48, .one (li .i64 3))] [] (by kernel_rfl) ?_
                refine SimI.done (by kernel_rfl) ?_
                refine SimE.loopN ?_
                refine SimL.pre (ts := [0, 3, 5, 6, 7, 8, 9, 10]) (os := [3, 7, 9, 300000]) (ow := []) [(0, .one (vw Step.cod a0)), (3, .one (.ptr 3 0)), (5, .one (.ptr 300000 0)), (6, .one (li .i64 ii8)), (7, .one (.ptr 7 0)), (8, .one (li .i64 r15.1)), (9, .one (.ptr 9 0)), (10, .one (li .i64 4))] [(3, some (.cells [li .i64 a1.X, li .i64 a1.Y])), (7, some (.cells (A4_Watch.cells r12.1))), (9, some (.cells (A4_Watch.cells r16.1))), (300000, some (.cells (A4_Watch.cells g33.l)))] (by kernel_rfl) (by kernel_rfl) (by kernel_rfl) ?_
                exact F12_u40_ok n a0 a1 ii8 r12 r15 r16 rec_l9 m_l9 ih_l9 g33
            · refine SimI.run 18 [(118, .one (lb false)), (117, .one (lb false)), (116, .tup []), (115, .tup []), (114, .tup []), (113, .tup []), (112, .tup []), (111, .tup []), (110, .tup []), (109, .tup []), (108, .tup []), (107, .one (lb false)), (106, .one (lb false)), (105, .tup []), (104, .tup []), (103, .tup []), (102, .tup []), (101, .tup [])] [] (by kernel_rfl) ?_
              refine SimI.done (by kernel_rfl) ?_
              refine SimE.thenN ?_
              refine Sim.condF (by kernel_rfl) ?_
              refine Sim.skip ?_
              refine SimE.blockN ?_
              refine SimE.thenN ?_
              refine Sim.region0 ?_
              refine SimI.run 3 [(10, .one (li .i64 4)), (49, .one (li .i64 4)), (48, .one (li .i64 3))] [] (by kernel_rfl) ?_
              refine SimI.done (by kernel_rfl) ?_
              refine SimE.loopN ?_
              refine SimL.pre (ts := [0, 3, 5, 6, 7, 8, 9, 10]) (os := [3, 7, 9, 300000]) (ow := []) [(0, .one (vw Step.cod a0)), (3, .one (.ptr 3 0)), (5, .one (.ptr 300000 0)), (6, .one (li .i64 ii8)), (7, .one (.ptr 7 0)), (8, .one (li .i64 r15.1)), (9, .one (.ptr 9 0)), (10, .one (li .i64 4))] [(3, some (.cells [li .i64 a1.X, li .i64 a1.Y])), (7, some (.cells (A4_Watch.cells r12.1))), (9, some (.cells (A4_Watch.cells r16.1))), (300000, some (.cells (A4_Watch.cells g33.l)))] (by kernel_rfl) (by kernel_rfl) (by kernel_rfl) ?_
              exact F12_u40_ok n a0 a1 ii8 r12 r15 r16 rec_l9 m_l9 ih_l9 g33

def F12_u28 (n : Nat) (a0 : (List Step)) (a1 : Point) (ii8 : Int) (r12 : ((A4 Watch) × Book)) (r15 : (Int × Book)) (r16 : ((A4 Watch) × Book)) (rec_l9 : Book → Int → Option Bool) (g27 : Book) : Option Bool :=
    if r15.1 != 0 then
      if !(Watch.eqb r16.1.a2 r12.1.a2) then
        some false
      else
        if decide (r16.1.a2.Session < r12.1.a2.Session) then
          some false
        else
          if !(r16.1.a2.On) then
            (F42 n g27 2 a1).bind fun (r29 : (Bool × Book)) =>
            if r29.1 then
              some false
            else
              if r16.1.a2.On then
                if !(r12.1.a2.On) then
                  if r16.1.a2.Session == r12.1.a2.Session then
                    some false
                  else
                    F12_u34 n a0 a1 ii8 r12 r15 r16 rec_l9 r29.2
                else
                  F12_u34 n a0 a1 ii8 r12 r15 r16 rec_l9 r29.2
              else
                F12_u34 n a0 a1 ii8 r12 r15 r16 rec_l9 r29.2
          else
            if r16.1.a2.On then
              if !(r12.1.a2.On) then
                if r16.1.a2.Session == r12.1.a2.Session then
                  some false
                else
                  F12_u34 n a0 a1 ii8 r12 r15 r16 rec_l9 g27
              else
                F12_u34 n a0 a1 ii8 r12 r15 r16 rec_l9 g27
            else
              F12_u34 n a0 a1 ii8 r12 r15 r16 rec_l9 g27
    else
      (ix a0 ii8).bind fun (x30 : Step) =>
      if (2 : Int) != x30.C.Client then
        if !(Watch.eqb r16.1.a2 r12.1.a2) then
          some false
        else
          if decide (r16.1.a2.Session < r12.1.a2.Session) then
            some false
          else
            if !(r16.1.a2.On) then
              (F42 n g27 2 a1).bind fun (r31 : (Bool × Book)) =>
              if r31.1 then
                some false
              else
                if r16.1.a2.On then
                  if !(r12.1.a2.On) then
                    if r16.1.a2.Session == r12.1.a2.Session then
                      some false
                    else
                      F12_u34 n a0 a1 ii8 r12 r15 r16 rec_l9 r31.2
                  else
                    F12_u34 n a0 a1 ii8 r12 r15 r16 rec_l9 r31.2
                else
                  F12_u34 n a0 a1 ii8 r12 r15 r16 rec_l9 r31.2
            else
              if r16.1.a2.On then
                if !(r12.1.a2.On) then
                  if r16.1.a2.Session == r12.1.a2.Session then
                    some false
                  else
                    F12_u34 n a0 a1 ii8 r12 r15 r16 rec_l9 g27
                else
                  F12_u34 n a0 a1 ii8 r12 r15 r16 rec_l9 g27
              else
                F12_u34 n a0 a1 ii8 r12 r15 r16 rec_l9 g27
      else
        if decide (r16.1.a2.Session < r12.1.a2.Session) then
          some false
        else
          if !(r16.1.a2.On) then
            (F42 n g27 2 a1).bind fun (r32 : (Bool × Book)) =>
            if r32.1 then
              some false
            else
              if r16.1.a2.On then
                if !(r12.1.a2.On) then
                  if r16.1.a2.Session == r12.1.a2.Session then
                    some false
                  else
                    F12_u34 n a0 a1 ii8 r12 r15 r16 rec_l9 r32.2
                else
                  F12_u34 n a0 a1 ii8 r12 r15 r16 rec_l9 r32.2
              else
                F12_u34 n a0 a1 ii8 r12 r15 r16 rec_l9 r32.2
          else
            if r16.1.a2.On then
              if !(r12.1.a2.On) then
                if r16.1.a2.Session == r12.1.a2.Session then
                  some false
                else
                  F12_u34 n a0 a1 ii8 r12 r15 r16 rec_l9 g27
              else
                F12_u34 n a0 a1 ii8 r12 r15 r16 rec_l9 g27
            else
              F12_u34 n a0 a1 ii8 r12 r15 r16 rec_l9 g27
theorem F12_u28_ok (n : Nat) (a0 : (List Step)) (a1 : Point) (ii8 : Int) (r12 : ((A4 Watch) × Book)) (r15 : (Int × Book)) (r16 : ((A4 Watch) × Book)) (rec_l9 : Book → Int → Option Bool) (m_l9 : Nat) (ih_l9 : ∀ (g7 : Book) (ii8 : Int), SimL Try.prog D (n + 8) m_l9 pc12_c60 [(0, .one (vw Step.cod a0)), (3, .one (.ptr 3 0)), (5, .one (.ptr 300000 0)), (6, .one (li .i64 ii8))] [(3, some (.cells [li .i64 a1.X, li .i64 a1.Y])), (300000, some (.cells (A4_Watch.cells g7.l)))] (rec_l9 g7 ii8) (QB 0 (QT Try.prog D (n + 8) pc12_c66 (QF false pc12_r 0 F12_e)))) (g27 : Book) : SimL Try.prog D (n + 8) (n + 6) pc12_c49 [(0, .one (vw Step.cod a0)), (3, .one (.ptr 3 0)), (5, .one (.ptr 300000 0)), (6, .one (li .i64 ii8)), (7, .one (.ptr 7 0)), (8, .one (li .i64 r15.1)), (9, .one (.ptr 9 0)), (10, .one (li .i64 2))] [(3, some (.cells [li .i64 a1.X, li .i64 a1.Y])), (7, some (.cells (A4_Watch.cells r12.1))), (9, some (.cells (A4_Watch.cells r16.1))), (300000, some (.cells (A4_Watch.cells g27.l)))] (F12_u28 n a0 a1 ii8 r12 r15 r16 rec_l9 g27) (QB 2 (QB 1 (QT Try.prog D (n + 8) pc12_c58 (QL Try.prog D (n + 8) m_l9 pc12_c60 (QB 0 (QT Try.prog D (n + 8) pc12_c66 (QF false pc12_r 0 F12_e))))))) := by
    unfold F12_u28
    refine SimL.succ ?_
    refine Sim.seq ?_
    refine Sim.seq ?_
    refine Sim.region [(0, .one (vw Step.cod a0)), (3, .one (.ptr 3 0)), (5, .one (.ptr 300000 0)), (6, .one (li .i64 ii8)), (7, .one (.ptr 7 0)), (8, .one (li .i64 r15.1)), (9, .one (.ptr 9 0)), (10, .one (li .i64 2))] [(3, some (.cells [li .i64 a1.X, li .i64 a1.Y])), (7, some (.cells (A4_Watch.cells r12.1))), (9, some (.cells (A4_Watch.cells r16.1))), (300000, some (.cells (A4_Watch.cells g27.l)))] (by kernel_rfl) ?_
    refine SimI.run 2 [(47, .one (lb true)), (46, .one (li .i64 2))] [] (by kernel_rfl) ?_
    refine SimI.done (by kernel_rfl) ?_
    refine SimE.thenN ?_
    refine Sim.condT (by kernel_rfl) ?_
    refine Sim.skip ?_
    refine SimE.thenN ?_
    refine Sim.seq ?_
    refine Sim.block ?_
    refine Sim.seq ?_
    refine Sim.region0 ?_
    refine SimI.run 3 [(52, .one (lb (r15.1 != 0))), (51, .one (lb (r15.1 != 0))), (50, .one (li .i64 r15.1))] [] (by kernel_rfl) ?_
    refine SimI.split 52 (r15.1 != 0) (by kernel_rfl) ?_ ?_
    · refine SimI.run 16 [(68, .agg (Watch.cells r12.1.a2)), (67, .one (.ptr 7 14)), (66, .one (li .i64 2)), (65, .agg (Watch.cells r16.1.a2)), (64, .one (.ptr 9 14)), (63, .one (li .i64 2)), (62, .one (lb true)), (61, .one (lb true)), (60, .tup []), (59, .tup []), (58, .tup []), (57, .tup []), (56, .tup []), (55, .tup []), (54, .tup []), (53, .tup [])] [] (by kernel_rfl) ?_
      refine SimI.step { dst := some 69, op := POp.prim (Prim.bin BinOp.neq 68 false false) [Operand.tmp 65, Operand.tmp 68], guard := some (62, true), hints := [(65, Hint.imm), (68, Hint.imm)] } [(69, .one (lb (!(Watch.eqb r16.1.a2 r12.1.a2))))] [] (by kernel_rfl) (pOp_eff (by kernel_rfl) (by kernel_rfl) (eff_prim (by kernel_rfl) (Watch_eqn r16.1.a2 r12.1.a2 _ _))) ?_
      refine SimI.run 2 [(71, .one (lb (!(Watch.eqb r16.1.a2 r12.1.a2)))), (70, .one (lb (!(Watch.eqb r16.1.a2 r12.1.a2))))] [] (by kernel_rfl) ?_
      refine SimI.split 71 (!(Watch.eqb r16.1.a2 r12.1.a2)) (by kernel_rfl) ?_ ?_
      · refine SimI.run 47 [(118, .one (lb true)), (117, .tup []), (116, .tup []), (115, .tup []), (114, .tup []), (113, .tup []), (112, .tup []), (111, .tup []), (110, .tup []), (109, .tup []), (108, .tup []), (107, .tup []), (106, .tup []), (105, .tup []), (104, .tup []), (103, .tup []), (102, .tup []), (101, .tup []), (100, .tup []), (99, .tup []), (98, .tup []), (97, .tup []), (96, .tup []), (95, .one (lb true)), (94, .one (lb true)), (93, .tup []), (92, .tup []), (91, .tup []), (90, .tup []), (89, .tup []), (88, .tup []), (87, .tup []), (86, .tup []), (85, .tup []), (84, .tup []), (83, .tup []), (82, .one (lb true)), (81, .one (lb true)), (80, .tup []), (79, .tup []), (78, .tup []), (77, .tup []), (76, .tup []), (75, .tup []), (74, .tup []), (73, .tup []), (72, .tup [])] [] (by kernel_rfl) ?_
        refine SimI.done (by kernel_rfl) ?_
        refine SimE.thenN ?_
        refine Sim.condT (by kernel_rfl) ?_
        refine Sim.seq ?_
        refine Sim.region0 ?_
        refine SimI.run 1 [(4, .one (lb false))] [] (by kernel_rfl) ?_
        refine SimI.done (by kernel_rfl) ?_
        refine SimE.thenN ?_
        refine Sim.ret ?_
        refine SimE.blockR ?_
        refine SimE.thenR ?_
        refine SimE.loopR ?_
        refine SimE.blockR ?_
        refine SimE.blockR ?_
        refine SimE.thenR ?_
        refine SimE.loopR ?_
        refine SimE.blockR ?_
        refine SimE.thenR ?_
        exact SimE.fin (by kernel_rfl)
      · refine SimI.run 11 [(82, .one (lb (decide (r16.1.a2.Session < r12.1.a2.Session)))), (81, .one (lb (decide (r16.1.a2.Session < r12.1.a2.Session)))), (80, .one (lb (decide (r16.1.a2.Session < r12.1.a2.Session)))), (79, .one (li .i64 r12.1.a2.Session)), (78, .one (.ptr 7 15)), (77, .one (.ptr 7 14)), (76, .one (li .i64 2)), (75, .one (li .i64 r16.1.a2.Session)), (74, .one (.ptr 9 15)), (73, .one (.ptr 9 14)), (72, .one (li .i64 2))] [] (by kernel_rfl) ?_
        refine SimI.split 82 (decide (r16.1.a2.Session < r12.1.a2.Session)) (by kernel_rfl) ?_ ?_
        · refine SimI.run 36 [(118, .one (lb true)), (117, .tup []), (116, .tup []), (115, .tup []), (114, .tup []), (113, .tup []), (112, .tup []), (111, .tup []), (110, .tup []), (109, .tup []), (108, .tup []), (107, .tup []), (106, .tup []), (105, .tup []), (104, .tup []), (103, .tup []), (102, .tup []), (101, .tup []), (100, .tup []), (99, .tup []), (98, .tup []), (97, .tup []), (96, .tup []), (95, .one (lb true)), (94, .one (lb true)), (93, .tup []), (92, .tup []), (91, .tup []), (90, .tup []), (89, .tup []), (88, .tup []), (87, .tup []), (86, .tup []), (85, .tup []), (84, .tup []), (83, .tup [])] [] (by kernel_rfl) ?_
          refine SimI.done (by kernel_rfl) ?_
          refine SimE.thenN ?_
          refine Sim.condT (by kernel_rfl) ?_
          refine Sim.seq ?_
          refine Sim.region0 ?_
          refine SimI.run 1 [(4, .one (lb false))] [] (by kernel_rfl) ?_
          refine SimI.done (by kernel_rfl) ?_
          refine SimE.thenN ?_
          refine Sim.ret ?_
          refine SimE.blockR ?_
          refine SimE.thenR ?_
          refine SimE.loopR ?_
          refine SimE.blockR ?_
          refine SimE.blockR ?_
          refine SimE.thenR ?_
          refine SimE.loopR ?_
          refine SimE.blockR ?_
          refine SimE.thenR ?_
          exact SimE.fin (by kernel_rfl)
        · refine SimI.run 6 [(88, .one (lb (!(r16.1.a2.On)))), (87, .one (lb (!(r16.1.a2.On)))), (86, .one (lb r16.1.a2.On)), (85, .one (.ptr 9 14)), (84, .one (.ptr 9 14)), (83, .one (li .i64 2))] [] (by kernel_rfl) ?_
          refine SimI.split 88 (!(r16.1.a2.On)) (by kernel_rfl) ?_ ?_
          · refine SimI.run 3 [(91, .agg [li .i64 a1.X, li .i64 a1.Y]), (90, .one (li .i64 2)), (89, .one (.ptr 300000 0))] [] (by kernel_rfl) ?_
            refine SimI.bind (og := F42 n g27 2 a1) { dst := some 92, op := POp.call true [[], [], []] 42 [Operand.tmp 89, Operand.tmp 90, Operand.tmp 91], guard := some (88, true), hints := [(89, Hint.at_ 300000 0), (90, Hint.imm), (91, Hint.imm)] } (fun r29 => [(92, .one (lb r29.1))]) (fun r29 => [(300000, some (.cells (A4_Watch.cells r29.2.l)))]) (by kernel_rfl) (fun r29 hr => pOp_eff (by kernel_rfl) (by kernel_rfl) (eff_callp (ARGS := [.one (.ptr 300000 0), .one (li .i64 2), .agg [li .i64 a1.X, li .i64 a1.Y]]) (ARGS' := [.one (.ptr 1000000 0), .one (li .i64 2), .agg [li .i64 a1.X, li .i64 a1.Y]]) (ks := [300000]) (os := [(A4_Watch.cells g27.l)]) (os' := [(A4_Watch.cells r29.2.l)]) (by kernel_rfl) (args_ptr (by kernel_rfl) (args_clean (by kernel_rfl) (args_clean (by kernel_rfl) args_nil))) rfl (by kernel_rfl) (F42_ok n g27 2 a1 r29 hr) (by kernel_rfl) (by kernel_rfl))) (fun r29 => ?_)
            refine SimI.run 3 [(95, .one (lb r29.1)), (94, .one (lb r29.1)), (93, .one (lb r29.1))] [] (by kernel_rfl) ?_
            refine SimI.split 95 r29.1 (by kernel_rfl) ?_ ?_
            · refine SimI.run 23 [(118, .one (lb true)), (117, .tup []), (116, .tup []), (115, .tup []), (114, .tup []), (113, .tup []), (112, .tup []), (111, .tup []), (110, .tup []), (109, .tup []), (108, .tup []), (107, .tup []), (106, .tup []), (105, .tup []), (104, .tup []), (103, .tup []), (102, .tup []), (101, .tup []), (100, .tup []), (99, .tup []), (98, .tup []), (97, .tup []), (96, .tup [])] [] (by kernel_rfl) ?_
              refine SimI.done (by kernel_rfl) ?_
              refine SimE.thenN ?_
              refine Sim.condT (by kernel_rfl) ?_
              refine Sim.seq ?_
              refine Sim.region0 ?_
              refine SimI.run 1 [(4, .one (lb false))] [] (by kernel_rfl) ?_
              refine SimI.done (by kernel_rfl) ?_
              refine SimE.thenN ?_
              refine Sim.ret ?_
              refine SimE.blockR ?_
              refine SimE.thenR ?_
              refine SimE.loopR ?_
              refine SimE.blockR ?_
              refine SimE.blockR ?_
              refine SimE.thenR ?_
              refine SimE.loopR ?_
              refine SimE.blockR ?_
              refine SimE.thenR ?_
              exact SimE.fin (by kernel_rfl)
            · refine SimI.run 5 [(100, .one (lb r16.1.a2.On)), (99, .one (lb r16.1.a2.On)), (98, .one (.ptr 9 14)), (97, .one (.ptr 9 14)), (96, .one (li .i64 2))] [] (by kernel_rfl) ?_
              refine SimI.split 100 r16.1.a2.On (by kernel_rfl) ?_ ?_
              · refine SimI.run 7 [(107, .one (lb (!(r12.1.a2.On)))), (106, .one (lb (!(r12.1.a2.On)))), (105, .one (lb (!(r12.1.a2.On)))), (104, .one (lb r12.1.a2.On)), (103, .one (.ptr 7 14)), (102, .one (.ptr 7 14)), (101, .one (li .i64 2))] [] (by kernel_rfl) ?_
                refine SimI.split 107 (!(r12.1.a2.On)) (by kernel_rfl) ?_ ?_
                · refine SimI.run 11 [(118, .one (lb (r16.1.a2.Session == r12.1.a2.Session))), (117, .one (lb (r16.1.a2.Session == r12.1.a2.Session))), (116, .one (lb (r16.1.a2.Session == r12.1.a2.Session))), (115, .one (li .i64 r12.1.a2.Session)), (114, .one (.ptr 7 15)), (113, .one (.ptr 7 14)), (112, .one (li .i64 2)), (111, .one (li .i64 r16.1.a2.Session)), (110, .one (.ptr 9 15)), (109, .one (.ptr 9 14)), (108, .one (li .i64 2))] [] (by kernel_rfl) ?_
                  refine SimI.done (by kernel_rfl) ?_
                  refine SimE.thenN ?_
                  refine Sim.cond (r16.1.a2.Session == r12.1.a2.Session) (by kernel_rfl) ?_ ?_
                  · refine Sim.seq ?_
                    refine Sim.region0 ?_
                    refine SimI.run 1 [(4, .one (lb false))] [] (by kernel_rfl) ?_
                    refine SimI.done (by kernel_rfl) ?_
                    refine SimE.thenN ?_
                    refine Sim.ret ?_
                    refine SimE.blockR ?_
                    refine SimE.thenR ?_
                    refine SimE.loopR ?_
                    refine SimE.blockR ?_
                    refine SimE.blockR ?_
                    refine SimE.thenR ?_
                    refine SimE.loopR ?_
                    refine SimE.blockR ?_
                    refine SimE.thenR ?_
                    exact SimE.fin (by kernel_rfl)
                  · refine Sim.skip ?_
                    refine SimE.blockN ?_
                    refine SimE.thenN ?_
                    refine Sim.region0 ?_
                    refine SimI.run 3 [(10, .one (li .i64 3)), (49, .one (li .i64 3)), (48, .one (li .i64 2))] [] (by kernel_rfl) ?_
                    refine SimI.done (by kernel_rfl) ?_
                    refine SimE.loopN ?_
                    refine SimL.pre (ts := [0, 3, 5, 6, 7, 8, 9, 10]) (os := [3, 7, 9, 300000]) (ow := []) [(0, .one (vw Step.cod a0)), (3, .one (.ptr 3 0)), (5, .one (.ptr 300000 0)), (6, .one (li .i64 ii8)), (7, .one (.ptr 7 0)), (8, .one (li .i64 r15.1)), (9, .one (.ptr 9 0)), (10, .one (li .i64 3))] [(3, some (.cells [li .i64 a1.X, li .i64 a1.Y])), (7, some (.cells (A4_Watch.cells r12.1))), (9, some (.cells (A4_Watch.cells r16.1))), (300000, some (.cells (A4_Watch.cells r29.2.l)))] (by kernel_rfl) (by kernel_rfl) (by kernel_rfl) ?_
                    exact F12_u34_ok n a0 a1 ii8 r12 r15 r16 rec_l9 m_l9 ih_l9 r29.2
                · refine SimI.run 11 [(118, .one (lb false)), (117, .one (lb false)), (116, .tup []), (115, .tup []), (114, .tup []), (113, .tup []), (112, .tup []), (111, .tup []), (110, .tup []), (109, .tup []), (108, .tup [])] [] (by kernel_rfl) ?_
                  refine SimI.done (by kernel_rfl) ?_
                  refine SimE.thenN ?_
                  refine Sim.condF (by kernel_rfl) ?_
                  refine Sim.skip ?_
                  refine SimE.blockN ?_
                  refine SimE.thenN ?_
                  refine Sim.region0 ?_
                  refine SimI.run 3 [(10, .one (li .i64 3)), (49, .one (li .i64 3)), (48, .one (li .i64 2))] [] (by kernel_rfl) ?_
                  refine SimI.done (by kernel_rfl) ?_
                  refine SimE.loopN ?_
                  refine SimL.pre (ts := [0, 3, 5, 6, 7, 8, 9, 10]) (os := [3, 7, 9, 300000]) (ow := []) [(0, .one (vw Step.cod a0)), (3, .one (.ptr 3 0)), (5, .one (.ptr 300000 0)), (6, .one (li .i64 ii8)), (7, .one (.ptr 7 0)), (8, .one (li .i64 r15.1)), (9, .one (.ptr 9 0)), (10, .one (li .i64 3))] [(3, some (.cells [li .i64 a1.X, li .i64 a1.Y])), (7, some (.cells (A4_Watch.cells r12.1))), (9, some (.cells (A4_Watch.cells r16.1))), (300000, some (.cells (A4_Watch.cells r29.2.l)))] (by kernel_rfl) (by kernel_rfl) (by kernel_rfl) ?_
                  exact F12_u34_ok n a0 a1 ii8 r12 r15 r16 rec_l9 m_l9 ih_l9 r29.2
              · refine SimI.run 18 [(118, .one (lb false)), (117, .one (lb false)), (116, .tup []), (115, .tup []), (114, .tup []), (113, .tup []), (112, .tup []), (111, .tup []), (110, .tup []), (109, .tup []), (108, .tup []), (107, .one (lb false)), (106, .one (lb false)), (105, .tup []), (104, .tup []), (103, .tup []), (102, .tup []), (101, .tup [])] [] (by kernel_rfl) ?_
                refine SimI.done (by kernel_rfl) ?_
                refine SimE.thenN ?_
                refine Sim.condF (by kernel_rfl) ?_
                refine Sim.skip ?_
                refine SimE.blockN ?_
                refine SimE.thenN ?_
                refine Sim.region0 ?_
                refine SimI.run 3 [(10, .one (li .i64 3)), (49, .one (li .i64 3)), (48, .one (li .i64 2))] [] (by kernel_rfl) ?_
                refine SimI.done (by kernel_rfl) ?_
                refine SimE.loopN ?_
                refine SimL.pre (ts := [0, 3, 5, 6, 7, 8, 9, 10]) (os := [3, 7, 9, 300000]) (ow := []) [(0, .one (vw Step.cod a0)), (3, .one (.ptr 3 0)), (5, .one (.ptr 300000 0)), (6, .one (li .i64 ii8)), (7, .one (.ptr 7 0)), (8, .one (li .i64 r15.1)), (9, .one (.ptr 9 0)), (10, .one (li .i64 3))] [(3, some (.cells [li .i64 a1.X, li .i64 a1.Y])), (7, some (.cells (A4_Watch.cells r12.1))), (9, some (.cells (A4_Watch.cells r16.1))), (300000, some (.cells (A4_Watch.cells r29.2.l)))] (by kernel_rfl) (by kernel_rfl) (by kernel_rfl) ?_
                exact F12_u34_ok n a0 a1 ii8 r12 r15 r16 rec_l9 m_l9 ih_l9 r29.2
          · refine SimI.run 12 [(100, .one (lb r16.1.a2.On)), (99, .one (lb r16.1.a2.On)), (98, .one (.ptr 9 14)), (97, .one (.ptr 9 14)), (96, .one (li .i64 2)), (95, .one (lb false)), (94, .one (lb false)), (93, .one (lb false)), (92, .tup []), (91, .tup []), (90, .tup []), (89, .tup [])] [] (by kernel_rfl) ?_
            refine SimI.split 100 r16.1.a2.On (by kernel_rfl) ?_ ?_
            · refine SimI.run 7 [(107, .one (lb (!(r12.1.a2.On)))), (106, .one (lb (!(r12.1.a2.On)))), (105, .one (lb (!(r12.1.a2.On)))), (104, .one (lb r12.1.a2.On)), (103, .one (.ptr 7 14)), (102, .one (.ptr 7 14)), (101, .one (li .i64 2))] [] (by kernel_rfl) ?_
              refine SimI.split 107 (!(r12.1.a2.On)) (by kernel_rfl) ?_ ?_
              · refine SimI.run 11 [(118, .one (lb (r16.1.a2.Session == r12.1.a2.Session))), (117, .one (lb (r16.1.a2.Session == r12.1.a2.Session))), (116, .one (lb (r16.1.a2.Session == r12.1.a2.Session))), (115, .one (li .i64 r12.1.a2.Session)), (114, .one (.ptr 7 15)), (113, .one (.ptr 7 14)), (112, .one (li .i64 2)), (111, .one (li .i64 r16.1.a2.Session)), (110, .one (.ptr 9 15)), (109, .one (.ptr 9 14)), (108, .one (li .i64 2))] [] (by kernel_rfl) ?_
                refine SimI.done (by kernel_rfl) ?_
                refine SimE.thenN ?_
                refine Sim.cond (r16.1.a2.Session == r12.1.a2.Session) (by kernel_rfl) ?_ ?_
                · refine Sim.seq ?_
                  refine Sim.region0 ?_
                  refine SimI.run 1 [(4, .one (lb false))] [] (by kernel_rfl) ?_
                  refine SimI.done (by kernel_rfl) ?_
                  refine SimE.thenN ?_
                  refine Sim.ret ?_
                  refine SimE.blockR ?_
                  refine SimE.thenR ?_
                  refine SimE.loopR ?_
                  refine SimE.blockR ?_
                  refine SimE.blockR ?_
                  refine SimE.thenR ?_
                  refine SimE.loopR ?_
                  refine SimE.blockR ?_
                  refine SimE.thenR ?_
                  exact SimE.fin (by kernel_rfl)
                · refine Sim.skip ?_
                  refine SimE.blockN ?_
                  refine SimE.thenN ?_
                  refine Sim.region0 ?_
                  refine SimI.run 3 [(10, .one (li .i64 3)), (49, .one (li .i64 3)), (48, .one (li .i64 2))] [] (by kernel_rfl) ?_
                  refine SimI.done (by kernel_rfl) ?_
                  refine SimE.loopN ?_
                  refine SimL.pre (ts := [0, 3, 5, 6, 7, 8, 9, 10]) (os := [3, 7, 9, 300000]) (ow := []) [(0, .one (vw Step.cod a0)), (3, .one (.ptr 3 0)), (5, .one (.ptr 300000 0)), (6, .one (li .i64 ii8)), (7, .one (.ptr 7 0)), (8, .one (li .i64 r15.1)), (9, .one (.ptr 9 0)), (10, .one (li .i64 3))] [(3, some (.cells [li .i64 a1.X, li .i64 a1.Y])), (7, some (.cells (A4_Watch.cells r12.1))), (9, some (.cells (A4_Watch.cells r16.1))), (300000, some (.cells (A4_Watch.cells g27.l)))] (by kernel_rfl) (by kernel_rfl) (by kernel_rfl) ?_
                  exact F12_u34_ok n a0 a1 ii8 r12 r15 r16 rec_l9 m_l9 ih_l9 g27
              · refine SimI.run 11 [(118, .one (lb false)), (117, .one (lb false)), (116, .tup []), (115, .tup []), (114, .tup []), (113, .tup []), (112, .tup []), (111, .tup []), (110, .tup []), (109, .tup []), (108, .tup [])] [] (by kernel_rfl) ?_
                refine SimI.done (by kernel_rfl) ?_
                refine SimE.thenN ?_
                refine Sim.condF (by kernel_rfl) ?_
                refine Sim.skip ?_
                refine SimE.blockN ?_
                refine SimE.thenN ?_
                refine Sim.region0 ?_
                refine SimI.run 3 [(10, .one (li .i64 3)), (49, .one (li .i64 3)), (48, .one (li .i64 2))] [] (by kernel_rfl) ?_
                refine SimI.done (by kernel_rfl) ?_
                refine SimE.loopN ?_
                refine SimL.pre (ts := [0, 3, 5, 6, 7, 8, 9, 10]) (os := [3, 7, 9, 300000]) (ow := []) [(0, .one (vw Step.cod a0)), (3, .one (.ptr 3 0)), (5, .one (.ptr 300000 0)), (6, .one (li .i64 ii8)), (7, .one (.ptr 7 0)), (8, .one (li .i64 r15.1)), (9, .one (.ptr 9 0)), (10, .one (li .i64 3))] [(3, some (.cells [li .i64 a1.X, li .i64 a1.Y])), (7, some (.cells (A4_Watch.cells r12.1))), (9, some (.cells (A4_Watch.cells r16.1))), (300000, some (.cells (A4_Watch.cells g27.l)))] (by kernel_rfl) (by kernel_rfl) (by kernel_rfl) ?_
                exact F12_u34_ok n a0 a1 ii8 r12 r15 r16 rec_l9 m_l9 ih_l9 g27
            · refine SimI.run 18 [(118, .one (lb false)), (117, .one (lb false)), (116, .tup []), (115, .tup []), (114, .tup []), (113, .tup []), (112, .tup []), (111, .tup []), (110, .tup []), (109, .tup []), (108, .tup []), (107, .one (lb false)), (106, .one (lb false)), (105, .tup []), (104, .tup []), (103, .tup []), (102, .tup []), (101, .tup [])] [] (by kernel_rfl) ?_
              refine SimI.done (by kernel_rfl) ?_
              refine SimE.thenN ?_
              refine Sim.condF (by kernel_rfl) ?_
              refine Sim.skip ?_
              refine SimE.blockN ?_
              refine SimE.thenN ?_
              refine Sim.region0 ?_
              refine SimI.run 3 [(10, .one (li .i64 3)), (49, .one (li .i64 3)), (48, .one (li .i64 2))] [] (by kernel_rfl) ?_
              refine SimI.done (by kernel_rfl) ?_
              refine SimE.loopN ?_
              refine SimL.pre (ts := [0, 3, 5, 6, 7, 8, 9, 10]) (os := [3, 7, 9, 300000]) (ow := []) [(0, .one (vw Step.cod a0)), (3, .one (.ptr 3 0)), (5, .one (.ptr 300000 0)), (6, .one (li .i64 ii8)), (7, .one (.ptr 7 0)), (8, .one (li .i64 r15.1)), (9, .one (.ptr 9 0)), (10, .one (li .i64 3))] [(3, some (.cells [li .i64 a1.X, li .i64 a1.Y])), (7, some (.cells (A4_Watch.cells r12.1))), (9, some (.cells (A4_Watch.cells r16.1))), (300000, some (.cells (A4_Watch.cells g27.l)))] (by kernel_rfl) (by kernel_rfl) (by kernel_rfl) ?_
              exact F12_u34_ok n a0 a1 ii8 r12 r15 r16 rec_l9 m_l9 ih_l9 g27
    · refine SimI.run 3 [(55, .one (li .i64 ii8)), (54, .one (vw Step.cod a0)), (53, .one (li .i64 2))] [] (by kernel_rfl) ?_
      refine SimI.bind (og := ix a0 ii8) { dst := some 56, op := POp.iaddrS 23 (Operand.tmp 54) (Operand.tmp 55), guard := some (52, false), hints := [(54, Hint.imm), (55, Hint.imm)] } (fun x30 => [(56, .one (.eptr (Step.cod.enc x30) 0))]) (fun x30 => []) (by kernel_rfl) (fun x30 hr => pOp_eff (by kernel_rfl) (by kernel_rfl) (eff_idx (c := Step.cod) (l := a0) (k := .i64) (n := ii8) (by kernel_rfl) (by kernel_rfl) (by kernel_rfl) hr)) (fun x30 => ?_)
      refine SimI.run 6 [(62, .one (lb ((2 : Int) != x30.C.Client))), (61, .one (lb ((2 : Int) != x30.C.Client))), (60, .one (lb ((2 : Int) != x30.C.Client))), (59, .one (li .i64 x30.C.Client)), (58, .one (.eptr (Step.cod.enc x30) 16)), (57, .one (.eptr (Step.cod.enc x30) 0))] [] (by kernel_rfl) ?_
      refine SimI.split 62 ((2 : Int) != x30.C.Client) (by kernel_rfl) ?_ ?_
      · refine SimI.run 6 [(68, .agg (Watch.cells r12.1.a2)), (67, .one (.ptr 7 14)), (66, .one (li .i64 2)), (65, .agg (Watch.cells r16.1.a2)), (64, .one (.ptr 9 14)), (63, .one (li .i64 2))] [] (by kernel_rfl) ?_
        refine SimI.step { dst := some 69, op := POp.prim (Prim.bin BinOp.neq 68 false false) [Operand.tmp 65, Operand.tmp 68], guard := some (62, true), hints := [(65, Hint.imm), (68, Hint.imm)] } [(69, .one (lb (!(Watch.eqb r16.1.a2 r12.1.a2))))] [] (by kernel_rfl) (pOp_eff (by kernel_rfl) (by kernel_rfl) (eff_prim (by kernel_rfl) (Watch_eqn r16.1.a2 r12.1.a2 _ _))) ?_
        refine SimI.run 2 [(71, .one (lb (!(Watch.eqb r16.1.a2 r12.1.a2)))), (70, .one (lb (!(Watch.eqb r16.1.a2 r12.1.a2))))] [] (by kernel_rfl) ?_
        refine SimI.split 71 (!(Watch.eqb r16.1.a2 r12.1.a2)) (by kernel_rfl) ?_ ?_
        · refine SimI.run 47 [(118, .one (lb true)), (117, .tup []), (116, .tup []), (115, .tup []), (114, .tup []), (113, .tup []), (112, .tup []), (111, .tup []), (110, .tup []), (109, .tup []), (108, .tup []), (107, .tup []), (106, .tup []), (105, .tup []), (104, .tup []), (103, .tup []), (102, .tup []), (101, .tup []), (100, .tup []), (99, .tup []), (98, .tup []), (97, .tup []), (96, .tup []), (95, .one (lb true)), (94, .one (lb true)), (93, .tup []), (92, .tup []), (91, .tup []), (90, .tup []), (89, .tup []), (88, .tup []), (87, .tup []), (86, .tup []), (85, .tup []), (84, .tup []), (83, .tup []), (82, .one (lb true)), (81, .one (lb true)), (80, .tup []), (79, .tup []), (78, .tup []), (77, .tup []), (76, .tup []), (75, .tup []), (74, .tup []), (73, .tup []), (72, .tup [])] [] (by kernel_rfl) ?_
          refine SimI.done (by kernel_rfl) ?_
          refine SimE.thenN ?_
          refine Sim.condT (by kernel_rfl) ?_
          refine Sim.seq ?_
          refine Sim.region0 ?_
          refine SimI.run 1 [(4, .one (lb false))] [] (by kernel_rfl) ?_
          refine SimI.done (by kernel_rfl) ?_
          refine SimE.thenN ?_
          refine Sim.ret ?_
          refine SimE.blockR ?_
          refine SimE.thenR ?_
          refine SimE.loopR ?_
          refine SimE.blockR ?_
          refine SimE.blockR ?_
          refine SimE.thenR ?_
          refine SimE.loopR ?_
          refine SimE.blockR ?_
          refine SimE.thenR ?_
          exact SimE.fin (by kernel_rfl)
        · refine SimI.run 11 [(82, .one (lb (decide (r16.1.a2.Session < r12.1.a2.Session)))), (81, .one (lb (decide (r16.1.a2.Session < r12.1.a2.Session)))), (80, .one (lb (decide (r16.1.a2.Session < r12.1.a2.Session)))), (79, .one (li .i64 r12.1.a2.Session)), (78, .one (.ptr 7 15)), (77, .one (.ptr 7 14)), (76, .one (li .i64 2)), (75, .one (li .i64 r16.1.a2.Session)), (74, .one (.ptr 9 15)), (73, .one (.ptr 9 14)), (72, .one (li .i64 2))] [] (by kernel_rfl) ?_
          refine SimI.split 82 (decide (r16.1.a2.Session < r12.1.a2.Session)) (by kernel_rfl) ?_ ?_
          · refine SimI.run 36 [(118, .one (lb true)), (117, .tup []), (116, .tup []), (115, .tup []), (114, .tup []), (113, .tup []), (112, .tup []), (111, .tup []), (110, .tup []), (109, .tup []), (108, .tup []), (107, .tup []), (106, .tup []), (105, .tup []), (104, .tup []), (103, .tup []), (102, .tup []), (101, .tup []), (100, .tup []), (99, .tup []), (98, .tup []), (97, .tup []), (96, .tup []), (95, .one (lb true)), (94, .one (lb true)), (93, .tup []), (92, .tup []), (91, .tup []), (90, .tup []), (89, .tup []), (88, .tup []), (87, .tup []), (86, .tup []), (85, .tup []), (84, .tup []), (83, .tup [])] [] (by kernel_rfl) ?_
            refine SimI.done (by kernel_rfl) ?_
            refine SimE.thenN ?_
            refine Sim.condT (by kernel_rfl) ?_
            refine Sim.seq ?_
            refine Sim.region0 ?_
            refine SimI.run 1 [(4, .one (lb false))] [] (by kernel_rfl) ?_
            refine SimI.done (by kernel_rfl) ?_
            refine SimE.thenN ?_
            refine Sim.ret ?_
            refine SimE.blockR ?_
            refine SimE.thenR ?_
            refine SimE.loopR ?_
            refine SimE.blockR ?_
            refine SimE.blockR ?_
            refine SimE.thenR ?_
            refine SimE.loopR ?_
            refine SimE.blockR ?_
            refine SimE.thenR ?_
            exact SimE.fin (by kernel_rfl)
          · refine SimI.run 6 [(88, .one (lb (!(r16.1.a2.On)))), (87, .one (lb (!(r16.1.a2.On)))), (86, .one (lb r16.1.a2.On)), (85, .one (.ptr 9 14)), (84, .one (.ptr 9 14)), (83, .one (li .i64 2))] [] (by kernel_rfl) ?_
            refine SimI.split 88 (!(r16.1.a2.On)) (by kernel_rfl) ?_ ?_
            · refine SimI.run 3 [(91, .agg [li .i64 a1.X, li .i64 a1.Y]), (90, .one (li .i64 2)), (89, .one (.ptr 300000 0))] [] (by kernel_rfl) ?_
              refine SimI.bind (og := F42 n g27 2 a1) { dst := some 92, op := POp.call true [[], [], []] 42 [Operand.tmp 89, Operand.tmp 90, Operand.tmp 91], guard := some (88, true), hints := [(89, Hint.at_ 300000 0), (90, Hint.imm), (91, Hint.imm)] } (fun r31 => [(92, .one (lb r31.1))]) (fun r31 => [(300000, some (.cells (A4_Watch.cells r31.2.l)))]) (by kernel_rfl) (fun r31 hr => pOp_eff (by kernel_rfl) (by kernel_rfl) (eff_callp (ARGS := [.one (.ptr 300000 0), .one (li .i64 2), .agg [li .i64 a1.X, li .i64 a1.Y]]) (ARGS' := [.one (.ptr 1000000 0), .one (li .i64 2), .agg [li .i64 a1.X, li .i64 a1.Y]]) (ks := [300000]) (os := [(A4_Watch.cells g27.l)]) (os' := [(A4_Watch.cells r31.2.l)]) (by kernel_rfl) (args_ptr (by kernel_rfl) (args_clean (by kernel_rfl) (args_clean (by kernel_rfl) args_nil))) rfl (by kernel_rfl) (F42_ok n g27 2 a1 r31 hr) (by kernel_rfl) (by kernel_rfl))) (fun r31 => ?_)
              refine SimI.run 3 [(95, .one (lb r31.1)), (94, .one (lb r31.1)), (93, .one (lb r31.1))] [] (by kernel_rfl) ?_
              refine SimI.split 95 r31.1 (by kernel_rfl) ?_ ?_
              · refine SimI.run 23 [(118, .one (lb true)), (117, .tup []), (116, .tup []), (115, .tup []), (114, .tup []), (113, .tup []), (112, .tup []), (111, .tup []), (110, .tup []), (109, .tup []), (108, .tup []), (107, .tup []), (106, .tup []), (105, .tup []), (104, .tup []), (103, .tup []), (102, .tup []), (101, .tup []), (100, .tup []), (99, .tup []), (98, .tup []), (97, .tup []), (96, .tup [])] [] (by kernel_rfl) ?_
                refine SimI.done (by kernel_rfl) ?_
                refine SimE.thenN ?_
                refine Sim.condT (by kernel_rfl) ?_
                refine Sim.seq ?_
                refine Sim.region0 ?_
                refine SimI.run 1 [(4, .one (lb false))] [] (by kernel_rfl) ?_
                refine SimI.done (by kernel_rfl) ?_
                refine SimE.thenN ?_
                refine Sim.ret ?_
                refine SimE.blockR ?_
                refine SimE.thenR ?_
                refine SimE.loopR ?_
                refine SimE.blockR ?_
                refine SimE.blockR ?_
                refine SimE.thenR ?_
                refine SimE.loopR ?_
                refine SimE.blockR ?_
                refine SimE.thenR ?_
                exact SimE.fin (by kernel_rfl)
              · refine SimI.run 5 [(100, .one (lb r16.1.a2.On)), (99, .one (lb r16.1.a2.On)), (98, .one (.ptr 9 14)), (97, .one (.ptr 9 14)), (96, .one (li .i64 2))] [] (by kernel_rfl) ?_
                refine SimI.split 100 r16.1.a2.On (by kernel_rfl) ?_ ?_
                · refine SimI.run 7 [(107, .one (lb (!(r12.1.a2.On)))), (106, .one (lb (!(r12.1.a2.On)))), (105, .one (lb (!(r12.1.a2.On)))), (104, .one (lb r12.1.a2.On)), (103, .one (.ptr 7 14)), (102, .one (.ptr 7 14)), (101, .one (li .i64 2))] [] (by kernel_rfl) ?_
                  refine SimI.split 107 (!(r12.1.a2.On)) (by kernel_rfl) ?_ ?_
                  · refine SimI.run 11 [(118, .one (lb (r16.1.a2.Session == r12.1.a2.Session))), (117, .one (lb (r16.1.a2.Session == r12.1.a2.Session))), (116, .one (lb (r16.1.a2.Session == r12.1.a2.Session))), (115, .one (li .i64 r12.1.a2.Session)), (114, .one (.ptr 7 15)), (113, .one (.ptr 7 14)), (112, .one (li .i64 2)), (111, .one (li .i64 r16.1.a2.Session)), (110, .one (.ptr 9 15)), (109, .one (.ptr 9 14)), (108, .one (li .i64 2))] [] (by kernel_rfl) ?_
                    refine SimI.done (by kernel_rfl) ?_
                    refine SimE.thenN ?_
                    refine Sim.cond (r16.1.a2.Session == r12.1.a2.Session) (by kernel_rfl) ?_ ?_
                    · refine Sim.seq ?_
                      refine Sim.region0 ?_
                      refine SimI.run 1 [(4, .one (lb false))] [] (by kernel_rfl) ?_
                      refine SimI.done (by kernel_rfl) ?_
                      refine SimE.thenN ?_
                      refine Sim.ret ?_
                      refine SimE.blockR ?_
                      refine SimE.thenR ?_
                      refine SimE.loopR ?_
                      refine SimE.blockR ?_
                      refine SimE.blockR ?_
                      refine SimE.thenR ?_
                      refine SimE.loopR ?_
                      refine SimE.blockR ?_
                      refine SimE.thenR ?_
                      exact SimE.fin (by kernel_rfl)
                    · refine Sim.skip ?_
                      refine SimE.blockN ?_
                      refine SimE.thenN ?_
                      refine Sim.region0 ?_
                      refine SimI.run 3 [(10, .one (li .i64 3)), (49, .one (li .i64 3)), (48, .one (li .i64 2))] [] (by kernel_rfl) ?_
                      refine SimI.done (by kernel_rfl) ?_
                      refine SimE.loopN ?_
                      refine SimL.pre (ts := [0, 3, 5, 6, 7, 8, 9, 10]) (os := [3, 7, 9, 300000]) (ow := []) [(0, .one (vw Step.cod a0)), (3, .one (.ptr 3 0)), (5, .one (.ptr 300000 0)), (6, .one (li .i64 ii8)), (7, .one (.ptr 7 0)), (8, .one (li .i64 r15.1)), (9, .one (.ptr 9 0)), (10, .one (li .i64 3))] [(3, some (.cells [li .i64 a1.X, li .i64 a1.Y])), (7, some (.cells (A4_Watch.cells r12.1))), (9, some (.cells (A4_Watch.cells r16.1))), (300000, some (.cells (A4_Watch.cells r31.2.l)))] (by kernel_rfl) (by kernel_rfl) (by kernel_rfl) ?_
                      exact F12_u34_ok n a0 a1 ii8 r12 r15 r16 rec_l9 m_l9 ih_l9 r31.2
                  · refine SimI.run 11 [(118, .one (lb false)), (117, .one (lb false)), (116, .tup []), (115, .tup []), (114, .tup []), (113, .tup []), (112, .tup []), (111, .tup []), (110, .tup []), (109, .tup []), (108, .tup [])] [] (by kernel_rfl) ?_
                    refine SimI.done (by kernel_rfl) ?_
                    refine SimE.thenN ?_
                    refine Sim.condF (by kernel_rfl) ?_
                    refine Sim.skip ?_
                    refine SimE.blockN ?_
                    refine SimE.thenN ?_
                    refine Sim.region0 ?_
                    refine SimI.run 3 [(10, .one (li .i64 3)), (49, .one (li .i64 3)), (48, .one (li .i64 2))] [] (by kernel_rfl) ?_
                    refine SimI.done (by kernel_rfl) ?_
                    refine SimE.loopN ?_
                    refine SimL.pre (ts := [0, 3, 5, 6, 7, 8, 9, 10]) (os := [3, 7, 9, 300000]) (ow := []) [(0, .one (vw Step.cod a0)), (3, .one (.ptr 3 0)), (5, .one (.ptr 300000 0)), (6, .one (li .i64 ii8)), (7, .one (.ptr 7 0)), (8, .one (li .i64 r15.1)), (9, .one (.ptr 9 0)), (10, .one (li .i64 3))] [(3, some (.cells [li .i64 a1.X, li .i64 a1.Y])), (7, some (.cells (A4_Watch.cells r12.1))), (9, some (.cells (A4_Watch.cells r16.1))), (300000, some (.cells (A4_Watch.cells r31.2.l)))] (by kernel_rfl) (by kernel_rfl) (by kernel_rfl) ?_
                    exact F12_u34_ok n a0 a1 ii8 r12 r15 r16 rec_l9 m_l9 ih_l9 r31.2
                · refine SimI.run 18 [(118, .one (lb false)), (117, .one (lb false)), (116, .tup []), (115, .tup []), (114, .tup []), (113, .tup []), (112, .tup []), (111, .tup []), (110, .tup []), (109, .tup []), (108, .tup []), (107, .one (lb false)), (106, .one (lb false)), (105, .tup []), (104, .tup []), (103, .tup []), (102, .tup []), (101, .tup [])] [] (by kernel_rfl) ?_
                  refine SimI.done (by kernel_rfl) ?_
                  refine SimE.thenN ?_
                  refine Sim.condF (by kernel_rfl) ?_
                  refine Sim.skip ?_
                  refine SimE.blockN ?_
                  refine SimE.thenN ?_
                  refine Sim.region0 ?_
                  refine SimI.run 3 [(10, .one (li .i64 3)), (49, .one (li .i64 3)), (48, .one (li .i64 2))] [] (by kernel_rfl) ?_
                  refine SimI.done (by kernel_rfl) ?_
                  refine SimE.loopN ?_
                  refine SimL.pre (ts := [0, 3, 5, 6, 7, 8, 9, 10]) (os := [3, 7, 9, 300000]) (ow := []) [(0, .one (vw Step.cod a0)), (3, .one (.ptr 3 0)), (5, .one (.ptr 300000 0)), (6, .one (li .i64 ii8)), (7, .one (.ptr 7 0)), (8, .one (li .i64 r15.1)), (9, .one (.ptr 9 0)), (10, .one (li .i64 3))] [(3, some (.cells [li .i64 a1.X, li .i64 a1.Y])), (7, some (.cells (A4_Watch.cells r12.1))), (9, some (.cells (A4_Watch.cells r16.1))), (300000, some (.cells (A4_Watch.cells r31.2.l)))] (by kernel_rfl) (by kernel_rfl) (by kernel_rfl) ?_
                  exact F12_u34_ok n a0 a1 ii8 r12 r15 r16 rec_l9 m_l9 ih_l9 r31.2
            · refine SimI.run 12 [(100, .one (lb r16.1.a2.On)), (99, .one (lb r16.1.a2.On)), (98, .one (.ptr 9 14)), (97, .one (.ptr 9 14)), (96, .one (li .i64 2)), (95, .one (lb false)), (94, .one (lb false)), (93, .one (lb false)), (92, .tup []), (91, .tup []), (90, .tup []), (89, .tup [])] [] (by kernel_rfl) ?_
              refine SimI.split 100 r16.1.a2.On (by kernel_rfl) ?_ ?_
              · refine SimI.run 7 [(107, .one (lb (!(r12.1.a2.On)))), (106, .one (lb (!(r12.1.a2.On)))), (105, .one (lb (!(r12.1.a2.On)))), (104, .one (lb r12.1.a2.On)), (103, .one (.ptr 7 14)), (102, .one (.ptr 7 14)), (101, .one (li .i64 2))] [] (by kernel_rfl) ?_
                refine SimI.split 107 (!(r12.1.a2.On)) (by kernel_rfl) ?_ ?_
                · refine SimI.run 11 [(118, .one (lb (r16.1.a2.Session == r12.1.a2.Session))), (117, .one (lb (r16.1.a2.Session == r12.1.a2.Session))), (116, .one (lb (r16.1.a2.Session == r12.1.a2.Session))), (115, .one (li .i64 r12.1.a2.Session)), (114, .one (.ptr 7 15)), (113, .one (.ptr 7 14)), (112, .one (li .i64 2)), (111, .one (li .i64 r16.1.a2.Session)), (110, .one (.ptr 9 15)), (109, .one (.ptr 9 14)), (108, .one (li .i64 2))] [] (by kernel_rfl) ?_
                  refine SimI.done (by kernel_rfl) ?_
                  refine SimE.thenN ?_
                  refine Sim.cond (r16.1.a2.Session == r12.1.a2.Session) (by kernel_rfl) ?_ ?_
                  · refine Sim.seq ?_
                    refine Sim.region0 ?_
                    refine SimI.run 1 [(4, .one (lb false))] [] (by kernel_rfl) ?_
                    refine SimI.done (by kernel_rfl) ?_
                    refine SimE.thenN ?_
                    refine Sim.ret ?_
                    refine SimE.blockR ?_
                    refine SimE.thenR ?_
                    refine SimE.loopR ?_
                    refine SimE.blockR ?_
                    refine SimE.blockR ?_
                    refine SimE.thenR ?_
                    refine SimE.loopR ?_
                    refine SimE.blockR ?_
                    refine SimE.thenR ?_
                    exact SimE.fin (by kernel_rfl)
                  · refine Sim.skip ?_
                    refine SimE.blockN ?_
                    refine SimE.thenN ?_
                    refine Sim.region0 ?_
                    refine SimI.run 3 [(10, .one (li .i64 3)), (49, .one (li .i64 3)), (48, .one (li .i64 2))] [] (by kernel_rfl) ?_
                    refine SimI.done (by kernel_rfl) ?_
                    refine SimE.loopN ?_
                    refine SimL.pre (ts := [0, 3, 5, 6, 7, 8, 9, 10]) (os := [3, 7, 9, 300000]) (ow := []) [(0, .one (vw Step.cod a0)), (3, .one (.ptr 3 0)), (5, .one (.ptr 300000 0)), (6, .one (li .i64 ii8)), (7, .one (.ptr 7 0)), (8, .one (li .i64 r15.1)), (9, .one (.ptr 9 0)), (10, .one (li .i64 3))] [(3, some (.cells [li .i64 a1.X, li .i64 a1.Y])), (7, some (.cells (A4_Watch.cells r12.1))), (9, some (.cells (A4_Watch.cells r16.1))), (300000, some (.cells (A4_Watch.cells g27.l)))] (by kernel_rfl) (by kernel_rfl) (by kernel_rfl) ?_
                    exact F12_u34_ok n a0 a1 ii8 r12 r15 r16 rec_l9 m_l9 ih_l9 g27
                · refine SimI.run 11 [(118, .one (lb false)), (117, .one (lb false)), (116, .tup []), (115, .tup []), (114, .tup []), (113, .tup []), (112, .tup []), (111, .tup []), (110, .tup []), (109, .tup []), (108, .tup [])] [] (by kernel_rfl) ?_
                  refine SimI.done (by kernel_rfl) ?_
                  refine SimE.thenN ?_
                  refine Sim.condF (by kernel_rfl) ?_
                  refine Sim.skip ?_
                  refine SimE.blockN ?_
                  refine SimE.thenN ?_
                  refine Sim.region0 ?_
                  refine SimI.run 3 [(10, .one (li .i64 3)), (49, .one (li .i64 3)), (48, .one (li .i64 2))] [] (by kernel_rfl) ?_
                  refine SimI.done (by kernel_rfl) ?_
                  refine SimE.loopN ?_
                  refine SimL.pre (ts := [0, 3, 5, 6, 7, 8, 9, 10]) (os := [3, 7, 9, 300000]) (ow := []) [(0, .one (vw Step.cod a0)), (3, .one (.ptr 3 0)), (5, .one (.ptr 300000 0)), (6, .one (li .i64 ii8)), (7, .one (.ptr 7 0)), (8, .one (li .i64 r15.1)), (9, .one (.ptr 9 0)), (10, .one (li .i64 3))] [(3, some (.cells [li .i64 a1.X, li .i64 a1.Y])), (7, some (.cells (A4_Watch.cells r12.1))), (9, some (.cells (A4_Watch.cells r16.1))), (300000, some (.cells (A4_Watch.cells g27.l)))] (by kernel_rfl) (by kernel_rfl) (by kernel_rfl) ?_
                  exact F12_u34_ok n a0 a1 ii8 r12 r15 r16 rec_l9 m_l9 ih_l9 g27
              · refine SimI.run 18 [(118, .one (lb false)), (117, .one (lb false)), (116, .tup []), (115, .tup []), (114, .tup []), (113, .tup []), (112, .tup []), (111, .tup []), (110, .tup []), (109, .tup []), (108, .tup []), (107, .one (lb false)), (106, .one (lb false)), (105, .tup []), (104, .tup []), (103, .tup []), (102, .tup []), (101, .tup [])] [] (by kernel_rfl) ?_
                refine SimI.done (by kernel_rfl) ?_
                refine SimE.thenN ?_
                refine Sim.condF (by kernel_rfl) ?_
                refine Sim.skip ?_
                refine SimE.blockN ?_
                refine SimE.thenN ?_
                refine Sim.region0 ?_
                refine SimI.run 3 [(10, .one (li .i64 3)), (49, .one (li .i64 3)), (48, .one (li .i64 2))] [] (by kernel_rfl) ?_
                refine SimI.done (by kernel_rfl) ?_
                refine SimE.loopN ?_
                refine SimL.pre (ts := [0, 3, 5, 6, 7, 8, 9, 10]) (os := [3, 7, 9, 300000]) (ow := []) [(0, .one (vw Step.cod a0)), (3, .one (.ptr 3 0)), (5, .one (.ptr 300000 0)), (6, .one (li .i64 ii8)), (7, .one (.ptr 7 0)), (8, .one (li .i64 r15.1)), (9, .one (.ptr 9 0)), (10, .one (li .i64 3))] [(3, some (.cells [li .i64 a1.X, li .i64 a1.Y])), (7, some (.cells (A4_Watch.cells r12.1))), (9, some (.cells (A4_Watch.cells r16.1))), (300000, some (.cells (A4_Watch.cells g27.l)))] (by kernel_rfl) (by kernel_rfl) (by kernel_rfl) ?_
                exact F12_u34_ok n a0 a1 ii8 r12 r15 r16 rec_l9 m_l9 ih_l9 g27
      · refine SimI.run 20 [(82, .one (lb (decide (r16.1.a2.Session < r12.1.a2.Session)))), (81, .one (lb (decide (r16.1.a2.Session < r12.1.a2.Session)))), (80, .one (lb (decide (r16.1.a2.Session < r12.1.a2.Session)))), (79, .one (li .i64 r12.1.a2.Session)), (78, .one (.ptr 7 15)), (77, .one (.ptr 7 14)), (76, .one (li .i64 2)), (75, .one (li .i64 r16.1.a2.Session)), (74, .one (.ptr 9 15)), (73, .one (.ptr 9 14)), (72, .one (li .i64 2)), (71, .one (lb false)), (70, .one (lb false)), (69, .tup []), (68, .tup []), (67, .tup []), (66, .tup []), (65, .tup []), (64, .tup []), (63, .tup [])] [] (by kernel_rfl) ?_
        refine SimI.split 82 (decide (r16.1.a2.Session < r12.1.a2.Session)) (by kernel_rfl) ?_ ?_
        · refine SimI.run 36 [(118, .one (lb true)), (117, .tup []), (116, .tup []), (115, .tup []), (114, .tup []), (113, .tup []), (112, .tup []), (111, .tup []), (110, .tup []), (109, .tup []), (108, .tup []), (107, .tup []), (106, .tup []), (105, .tup []), (104, .tup []), (103, .tup []), (102, .tup []), (101, .tup []), (100, .tup []), (99, .tup []), (98, .tup []), (97, .tup []), (96, .tup []), (95, .one (lb true)), (94, .one (lb true)), (93, .tup []), (92, .tup []), (91, .tup []), (90, .tup []), (89, .tup []), (88, .tup []), (87, .tup []), (86, .tup []), (85, .tup []), (84, .tup []), (83, .tup [])] [] (by kernel_rfl) ?_
          refine SimI.done (by kernel_rfl) ?_
          refine SimE.thenN ?_
          refine Sim.condT (by kernel_rfl) ?_
          refine Sim.seq ?_
          refine Sim.region0 ?_
          refine SimI.run 1 [(4, .one (lb false))] [] (by kernel_rfl) ?_
          refine SimI.done (by kernel_rfl) ?_
          refine SimE.thenN ?_
          refine Sim.ret ?_
          refine SimE.blockR ?_
          refine SimE.thenR ?_
          refine SimE.loopR ?_
          refine SimE.blockR ?_
          refine SimE.blockR ?_
          refine SimE.thenR ?_
          refine SimE.loopR ?_
          refine SimE.blockR ?_
          refine SimE.thenR ?_
          exact SimE.fin (by kernel_rfl)
        · refine SimI.run 6 [(88, .one (lb (!(r16.1.a2.On)))), (87, .one (lb (!(r16.1.a2.On)))), (86, .one (lb r16.1.a2.On)), (85, .one (.ptr 9 14)), (84, .one (.ptr 9 14)), (83, .one (li .i64 2))] [] (by kernel_rfl) ?_
          refine SimI.split 88 (!(r16.1.a2.On)) (by kernel_rfl) ?_ ?_
          · refine SimI.run 3 [(91, .agg [li .i64 a1.X, li .i64 a1.Y]), (90, .one (li .i64 2)), (89, .one (.ptr 300000 0))] [] (by kernel_rfl) ?_
            refine SimI.bind (og := F42 n g27 2 a1) { dst := some 92, op := POp.call true [[], [], []] 42 [Operand.tmp 89, Operand.tmp 90, Operand.tmp 91], guard := some (88, true), hints := [(89, Hint.at_ 300000 0), (90, Hint.imm), (91, Hint.imm)] } (fun r32 => [(92, .one (lb r32.1))]) (fun r32 => [(300000, some (.cells (A4_Watch.cells r32.2.l)))]) (by kernel_rfl) (fun r32 hr => pOp_eff (by kernel_rfl) (by kernel_rfl) (eff_callp (ARGS := [.one (.ptr 300000 0), .one (li .i64 2), .agg [li .i64 a1.X, li .i64 a1.Y]]) (ARGS' := [.one (.ptr 1000000 0), .one (li .i64 2), .agg [li .i64 a1.X, li .i64 a1.Y]]) (ks := [300000]) (os := [(A4_Watch.cells g27.l)]) (os' := [(A4_Watch.cells r32.2.l)]) (by kernel_rfl) (args_ptr (by kernel_rfl) (args_clean (by kernel_rfl) (args_clean (by kernel_rfl) args_nil))) rfl (by kernel_rfl) (F42_ok n g27 2 a1 r32 hr) (by kernel_rfl) (by kernel_rfl))) (fun r32 => ?_)
            refine SimI.run 3 [(95, .one (lb r32.1)), (94, .one (lb r32.1)), (93, .one (lb r32.1))] [] (by kernel_rfl) ?_
            refine SimI.split 95 r32.1 (by kernel_rfl) ?_ ?_
            · refine SimI.run 23 [(118, .one (lb true)), (117, .tup []), (116, .tup []), (115, .tup []), (114, .tup []), (113, .tup []), (112, .tup []), (111, .tup []), (110, .tup []), (109, .tup []), (108, .tup []), (107, .tup []), (106, .tup []), (105, .tup []), (104, .tup []), (103, .tup []), (102, .tup []), (101, .tup []), (100, .tup []), (99, .tup []), (98, .tup []), (97, .tup []), (96, .tup [])] [] (by kernel_rfl) ?_
              refine SimI.done (by kernel_rfl) ?_
              refine SimE.thenN ?_
              refine Sim.condT (by kernel_rfl) ?_
              refine Sim.seq ?_
              refine Sim.region0 ?_
              refine SimI.run 1 [(4, .one (lb false))] [] (by kernel_rfl) ?_
              refine SimI.done (by kernel_rfl) ?_
              refine SimE.thenN ?_
              refine Sim.ret ?_
              refine SimE.blockR ?_
              refine SimE.thenR ?_
              refine SimE.loopR ?_
              refine SimE.blockR ?_
              refine SimE.blockR ?_
              refine SimE.thenR ?_
              refine SimE.loopR ?_
              refine SimE.blockR ?_
              refine SimE.thenR ?_
              exact SimE.fin (by kernel_rfl)
            · refine SimI.run 5 [(100, .one (lb r16.1.a2.On)), (99, .one (lb r16.1.a2.On)), (98, .one (.ptr 9 14)), (97, .one (.ptr 9 14)), (96, .one (li .i64 2))] [] (by kernel_rfl) ?_
              refine SimI.split 100 r16.1.a2.On (by kernel_rfl) ?_ ?_
              · refine SimI.run 7 [(107, .one (lb (!(r12.1.a2.On)))), (106, .one (lb (!(r12.1.a2.On)))), (105, .one (lb (!(r12.1.a2.On)))), (104, .one (lb r12.1.a2.On)), (103, .one (.ptr 7 14)), (102, .one (.ptr 7 14)), (101, .one (li .i64 2))] [] (by kernel_rfl) ?_
                refine SimI.split 107 (!(r12.1.a2.On)) (by kernel_rfl) ?_ ?_
                · refine SimI.run 11 [(118, .one (lb (r16.1.a2.Session == r12.1.a2.Session))), (117, .one (lb (r16.1.a2.Session == r12.1.a2.Session))), (116, .one (lb (r16.1.a2.Session == r12.1.a2.Session))), (115, .one (li .i64 r12.1.a2.Session)), (114, .one (.ptr 7 15)), (113, .one (.ptr 7 14)), (112, .one (li .i64 2)), (111, .one (li .i64 r16.1.a2.Session)), (110, .one (.ptr 9 15)), (109, .one (.ptr 9 14)), (108, .one (li .i64 2))] [] (by kernel_rfl) ?_
                  refine SimI.done (by kernel_rfl) ?_
                  refine SimE.thenN ?_
                  refine Sim.cond (r16.1.a2.Session == r12.1.a2.Session) (by kernel_rfl) ?_ ?_
                  · refine Sim.seq ?_
                    refine Sim.region0 ?_
                    refine SimI.run 1 [(4, .one (lb false))] [] (by kernel_rfl) ?_
                    refine SimI.done (by kernel_rfl) ?_
                    refine SimE.thenN ?_
                    refine Sim.ret ?_
                    refine SimE.blockR ?_
                    refine SimE.thenR ?_
                    refine SimE.loopR ?_
                    refine SimE.blockR ?_
                    refine SimE.blockR ?_
                    refine SimE.thenR ?_
                    refine SimE.loopR ?_
                    refine SimE.blockR ?_
                    refine SimE.thenR ?_
                    exact SimE.fin (by kernel_rfl)
                  · refine Sim.skip ?_
                    refine SimE.blockN ?_
                    refine SimE.thenN ?_
                    refine Sim.region0 ?_
                    refine SimI.run 3 [(10, .one (li .i64 3)), (49, .one (li .i64 3)), (48, .one (li .i64 2))] [] (by kernel_rfl) ?_
                    refine SimI.done (by kernel_rfl) ?_
                    refine SimE.loopN ?_
                    refine SimL.pre (ts := [0, 3, 5, 6, 7, 8, 9, 10]) (os := [3, 7, 9, 300000]) (ow := []) [(0, .one (vw Step.cod a0)), (3, .one (.ptr 3 0)), (5, .one (.ptr 300000 0)), (6, .one (li .i64 ii8)), (7, .one (.ptr 7 0)), (8, .one (li .i64 r15.1)), (9, .one (.ptr 9 0)), (10, .one (li .i64 3))] [(3, some (.cells [li .i64 a1.X, li .i64 a1.Y])), (7, some (.cells (A4_Watch.cells r12.1))), (9, some (.cells (A4_Watch.cells r16.1))), (300000, some (.cells (A4_Watch.cells r32.2.l)))] (by kernel_rfl) (by kernel_rfl) (by kernel_rfl) ?_
                    exact F12_u34_ok n a0 a1 ii8 r12 r15 r16 rec_l9 m_l9 ih_l9 r32.2
                · refine SimI.run 11 [(118, .one (lb false)), (117, .one (lb false)), (116, .tup []), (115, .tup []), (114, .tup []), (113, .tup []), (112, .tup []), (111, .tup []), (110, .tup []), (109, .tup []), (108, .tup [])] [] (by kernel_rfl) ?_
                  refine SimI.done (by kernel_rfl) ?_
                  refine SimE.thenN ?_
                  refine Sim.condF (by kernel_rfl) ?_
                  refine Sim.skip ?_
                  refine SimE.blockN ?_
                  refine SimE.thenN ?_
                  refine Sim.region0 ?_
                  refine SimI.run 3 [(10, .one (li .i64 3)), (49, .one (li .i64 3)), (48, .one (li .i64 2))] [] (by kernel_rfl) ?_
                  refine SimI.done (by kernel_rfl) ?_
                  refine SimE.loopN ?_
                  refine SimL.pre (ts := [0, 3, 5, 6, 7, 8, 9, 10]) (os := [3, 7, 9, 300000]) (ow := []) [(0, .one (vw Step.cod a0)), (3, .one (.ptr 3 0)), (5, .one (.ptr 300000 0)), (6, .one (li .i64 ii8)), (7, .one (.ptr 7 0)), (8, .one (li .i64 r15.1)), (9, .one (.ptr 9 0)), (10, .one (li .i64 3))] [(3, some (.cells [li .i64 a1.X, li .i64 a1.Y])), (7, some (.cells (A4_Watch.cells r12.1))), (9, some (.cells (A4_Watch.cells r16.1))), (300000, some (.cells (A4_Watch.cells r32.2.l)))] (by kernel_rfl) (by kernel_rfl) (by kernel_rfl) ?_
                  exact F12_u34_ok n a0 a1 ii8 r12 r15 r16 rec_l9 m_l9 ih_l9 r32.2
              · refine SimI.run 18 [(118, .one (lb false)), (117, .one (lb false)), (116, .tup []), (115, .tup []), (114, .tup []), (113, .tup []), (112, .tup []), (111, .tup []), (110, .tup []), (109, .tup []), (108, .tup []), (107, .one (lb false)), (106, .one (lb false)), (105, .tup []), (104, .tup []), (103, .tup []), (102, .tup []), (101, .tup [])] [] (by kernel_rfl) ?_
                refine SimI.done (by kernel_rfl) ?_
                refine SimE.thenN ?_
                refine Sim.condF (by kernel_rfl) ?_
                refine Sim.skip ?_
                refine SimE.blockN ?_
                refine SimE.thenN ?_
                refine Sim.region0 ?_
                refine SimI.run 3 [(10, .one (li .i64 3)), (49, .one (li .i64 3)), (48, .one (li .i64 2))] [] (by kernel_rfl) ?_
                refine SimI.done (by kernel_rfl) ?_
                refine SimE.loopN ?_
                refine SimL.pre (ts := [0, 3, 5, 6, 7, 8, 9, 10]) (os := [3, 7, 9, 300000]) (ow := []) [(0, .one (vw Step.cod a0)), (3, .one (.ptr 3 0)), (5, .one (.ptr 300000 0)), (6, .one (li .i64 ii8)), (7, .one (.ptr 7 0)), (8, .one (li .i64 r15.1)), (9, .one (.ptr 9 0)), (10, .one (li .i64 3))] [(3, some (.cells [li .i64 a1.X, li .i64 a1.Y])), (7, some (.cells (A4_Watch.cells r12.1))), (9, some (.cells (A4_Watch.cells r16.1))), (300000, some (.cells (A4_Watch.cells r32.2.l)))] (by kernel_rfl) (by kernel_rfl) (by kernel_rfl) ?_
                exact F12_u34_ok n a0 a1 ii8 r12 r15 r16 rec_l9 m_l9 ih_l9 r32.2
          · refine SimI.run 12 [(100, .one (lb r16.1.a2.On)), (99, .one (lb r16.1.a2.On)), (98, .one (.ptr 9 14)), (97, .one (.ptr 9 14)), (96, .one (li .i64 2)), (95, .one (lb false)), (94, .one (lb false)), (93, .one (lb false)), (92, .tup []), (91, .tup []), (90, .tup []), (89, .tup [])] [] (by kernel_rfl) ?_
            refine SimI.split 100 r16.1.a2.On (by kernel_rfl) ?_ ?_
            · refine SimI.run 7 [(107, .one (lb (!(r12.1.a2.On)))), (106, .one (lb (!(r12.1.a2.On)))), (105, .one (lb (!(r12.1.a2.On)))), (104, .one (lb r12.1.a2.On)), (103, .one (.ptr 7 14)), (102, .one (.ptr 7 14)), (101, .one (li .i64 2))] [] (by kernel_rfl) ?_
              refine SimI.split 107 (!(r12.1.a2.On)) (by kernel_rfl) ?_ ?_
              · refine SimI.run 11 [(118, .one (lb (r16.1.a2.Session == r12.1.a2.Session))), (117, .one (lb (r16.1.a2.Session == r12.1.a2.Session))), (116, .one (lb (r16.1.a2.Session == r12.1.a2.Session))), (115, .one (li .i64 r12.1.a2.Session)), (114, .one (.ptr 7 15)), (113, .one (.ptr 7 14)), (112, .one (li .i64 2)), (111, .one (li .i64 r16.1.a2.Session)), (110, .one (.ptr 9 15)), (109, .one (.ptr 9 14)), (108, .one (li .i64 2))] [] (by kernel_rfl) ?_
                refine SimI.done (by kernel_rfl) ?_
                refine SimE.thenN ?_
                refine Sim.cond (r16.1.a2.Session == r12.1.a2.Session) (by kernel_rfl) ?_ ?_
                · refine Sim.seq ?_
                  refine Sim.region0 ?_
                  refine SimI.run 1 [(4, .one (lb false))] [] (by kernel_rfl) ?_
                  refine SimI.done (by kernel_rfl) ?_
                  refine SimE.thenN ?_
                  refine Sim.ret ?_
                  refine SimE.blockR ?_
                  refine SimE.thenR ?_
                  refine SimE.loopR ?_
                  refine SimE.blockR ?_
                  refine SimE.blockR ?_
                  refine SimE.thenR ?_
                  refine SimE.loopR ?_
                  refine SimE.blockR ?_
                  refine SimE.thenR ?_
                  exact SimE.fin (by kernel_rfl)
                · refine Sim.skip ?_
                  refine SimE.blockN ?_
                  refine SimE.thenN ?_
                  refine Sim.region0 ?_
                  refine SimI.run 3 [(10, .one (li .i64 3)), (49, .one (li .i64 3)), (48, .one (li .i64 2))] [] (by kernel_rfl) ?_
                  refine SimI.done (by kernel_rfl) ?_
                  refine SimE.loopN ?_
                  refine SimL.pre (ts := [0, 3, 5, 6, 7, 8, 9, 10]) (os := [3, 7, 9, 300000]) (ow := []) [(0, .one (vw Step.cod a0)), (3, .one (.ptr 3 0)), (5, .one (.ptr 300000 0)), (6, .one (li .i64 ii8)), (7, .one (.ptr 7 0)), (8, .one (li .i64 r15.1)), (9, .one (.ptr 9 0)), (10, .one (li .i64 3))] [(3, some (.cells [li .i64 a1.X, li .i64 a1.Y])), (7, some (.cells (A4_Watch.cells r12.1))), (9, some (.cells (A4_Watch.cells r16.1))), (300000, some (.cells (A4_Watch.cells g27.l)))] (by kernel_rfl) (by kernel_rfl) (by kernel_rfl) ?_
                  exact F12_u34_ok n a0 a1 ii8 r12 r15 r16 rec_l9 m_l9 ih_l9 g27
              · refine SimI.run 11 [(118, .one (lb false)), (117, .one (lb false)), (116, .tup []), (115, .tup []), (114, .tup []), (113, .tup []), (112, .tup []), (111, .tup []), (110, .tup []), (109, .tup []), (108, .tup [])] [] (by kernel_rfl) ?_
                refine SimI.done (by kernel_rfl) ?_
                refine SimE.thenN ?_
                refine Sim.condF (by kernel_rfl) ?_
                refine Sim.skip ?_
                refine SimE.blockN ?_
                refine SimE.thenN ?_
                refine Sim.region0 ?_
                refine SimI.run 3 [(10, .one (li .i64 3)), (49, .one (li .i64 3)), (48, .one (li .i64 2))] [] (by kernel_rfl) ?_
                refine SimI.done (by kernel_rfl) ?_
                refine SimE.loopN ?_
                refine SimL.pre (ts := [0, 3, 5, 6, 7, 8, 9, 10]) (os := [3, 7, 9, 300000]) (ow := []) [(0, .one (vw Step.cod a0)), (3, .one (.ptr 3 0)), (5, .one (.ptr 300000 0)), (6, .one (li .i64 ii8)), (7, .one (.ptr 7 0)), (8, .one (li .i64 r15.1)), (9, .one (.ptr 9 0)), (10, .one (li .i64 3))] [(3, some (.cells [li .i64 a1.X, li .i64 a1.Y])), (7, some (.cells (A4_Watch.cells r12.1))), (9, some (.cells (A4_Watch.cells r16.1))), (300000, some (.cells (A4_Watch.cells g27.l)))] (by kernel_rfl) (by kernel_rfl) (by kernel_rfl) ?_
                exact F12_u34_ok n a0 a1 ii8 r12 r15 r16 rec_l9 m_l9 ih_l9 g27
            · refine SimI.run 18 [(118, .one (lb false)), (117, .one (lb false)), (116, .tup []), (115, .tup []), (114, .tup []), (113, .tup []), (112, .tup []), (111, .tup []), (110, .tup []), (109, .tup []), (108, .tup []), (107, .one (lb false)), (106, .one (lb false)), (105, .tup []), (104, .tup []), (103, .tup []), (102, .tup []), (101, .tup [])] [] (by kernel_rfl) ?_
              refine SimI.done (by kernel_rfl) ?_
              refine SimE.thenN ?_
              refine Sim.condF (by kernel_rfl) ?_
              refine Sim.skip ?_
              refine SimE.blockN ?_
              refine SimE.thenN ?_
              refine Sim.region0 ?_
              refine SimI.run 3 [(10, .one (li .i64 3)), (49, .one (li .i64 3)), (48, .one (li .i64 2))] [] (by kernel_rfl) ?_
              refine SimI.done (by kernel_rfl) ?_
              refine SimE.loopN ?_
              refine SimL.pre (ts := [0, 3, 5, 6, 7, 8, 9, 10]) (os := [3, 7, 9, 300000]) (ow := []) [(0, .one (vw Step.cod a0)), (3, .one (.ptr 3 0)), (5, .one (.ptr 300000 0)), (6, .one (li .i64 ii8)), (7, .one (.ptr 7 0)), (8, .one (li .i64 r15.1)), (9, .one (.ptr 9 0)), (10, .one (li .i64 3))] [(3, some (.cells [li .i64 a1.X, li .i64 a1.Y])), (7, some (.cells (A4_Watch.cells r12.1))), (9, some (.cells (A4_Watch.cells r16.1))), (300000, some (.cells (A4_Watch.cells g27.l)))] (by kernel_rfl) (by kernel_rfl) (by kernel_rfl) ?_
              exact F12_u34_ok n a0 a1 ii8 r12 r15 r16 rec_l9 m_l9 ih_l9 g27

def F12_u22 (n : Nat) (a0 : (List Step)) (a1 : Point) (ii8 : Int) (r12 : ((A4 Watch) × Book)) (r15 : (Int × Book)) (r16 : ((A4 Watch) × Book)) (rec_l9 : Book → Int → Option Bool) (g21 : Book) : Option Bool :=
    if r15.1 != 0 then
      if !(Watch.eqb r16.1.a1 r12.1.a1) then
        some false
      else
        if decide (r16.1.a1.Session < r12.1.a1.Session) then
          some false
        else
          if !(r16.1.a1.On) then
            (F42 n g21 1 a1).bind fun (r23 : (Bool × Book)) =>
            if r23.1 then
              some false
            else
              if r16.1.a1.On then
                if !(r12.1.a1.On) then
                  if r16.1.a1.Session == r12.1.a1.Session then
                    some false
                  else
                    F12_u28 n a0 a1 ii8 r12 r15 r16 rec_l9 r23.2
                else
                  F12_u28 n a0 a1 ii8 r12 r15 r16 rec_l9 r23.2
              else
                F12_u28 n a0 a1 ii8 r12 r15 r16 rec_l9 r23.2
          else
            if r16.1.a1.On then
              if !(r12.1.a1.On) then
                if r16.1.a1.Session == r12.1.a1.Session then
                  some false
                else
                  F12_u28 n a0 a1 ii8 r12 r15 r16 rec_l9 g21
              else
                F12_u28 n a0 a1 ii8 r12 r15 r16 rec_l9 g21
            else
              F12_u28 n a0 a1 ii8 r12 r15 r16 rec_l9 g21
    else
      (ix a0 ii8).bind fun (x24 : Step) =>
      if (1 : Int) != x24.C.Client then
        if !(Watch.eqb r16.1.a1 r12.1.a1) then
          some false
        else
          if decide (r16.1.a1.Session < r12.1.a1.Session) then
            some false
          else
            if !(r16.1.a1.On) then
              (F42 n g21 1 a1).bind fun (r25 : (Bool × Book)) =>
              if r25.1 then
                some false
              else
                if r16.1.a1.On then
                  if !(r12.1.a1.On) then
                    if r16.1.a1.Session == r12.1.a1.Session then
                      some false
                    else
                      F12_u28 n a0 a1 ii8 r12 r15 r16 rec_l9 r25.2
                  else
                    F12_u28 n a0 a1 ii8 r12 r15 r16 rec_l9 r25.2
                else
                  F12_u28 n a0 a1 ii8 r12 r15 r16 rec_l9 r25.2
            else
              if r16.1.a1.On then
                if !(r12.1.a1.On) then
                  if r16.1.a1.Session == r12.1.a1.Session then
                    some false
                  else
                    F12_u28 n a0 a1 ii8 r12 r15 r16 rec_l9 g21
                else
                  F12_u28 n a0 a1 ii8 r12 r15 r16 rec_l9 g21
              else
                F12_u28 n a0 a1 ii8 r12 r15 r16 rec_l9 g21
      else
        if decide (r16.1.a1.Session < r12.1.a1.Session) then
          some false
        else
          if !(r16.1.a1.On) then
            (F42 n g21 1 a1).bind fun (r26 : (Bool × Book)) =>
            if r26.1 then
              some false
            else
              if r16.1.a1.On then
                if !(r12.1.a1.On) then
                  if r16.1.a1.Session == r12.1.a1.Session then
                    some false
                  else
                    F12_u28 n a0 a1 ii8 r12 r15 r16 rec_l9 r26.2
                else
                  F12_u28 n a0 a1 ii8 r12 r15 r16 rec_l9 r26.2
              else
                F12_u28 n a0 a1 ii8 r12 r15 r16 rec_l9 r26.2
          else
            if r16.1.a1.On then
              if !(r12.1.a1.On) then
                if r16.1.a1.Session == r12.1.a1.Session then
                  some false
                else
                  F12_u28 n a0 a1 ii8 r12 r15 r16 rec_l9 g21
              else
                F12_u28 n a0 a1 ii8 r12 r15 r16 rec_l9 g21
            else
              F12_u28 n a0 a1 ii8 r12 r15 r16 rec_l9 g21
theorem F12_u22_ok (n : Nat) (a0 : (List Step)) (a1 : Point) (ii8 : Int) (r12 : ((A4 Watch) × Book)) (r15 : (Int × Book)) (r16 : ((A4 Watch) × Book)) (rec_l9 : Book → Int → Option Bool) (m_l9 : Nat) (ih_l9 : ∀ (g7 : Book) (ii8 : Int), SimL Try.prog D (n + 8) m_l9 pc12_c60 [(0, .one (vw Step.cod a0)), (3, .one (.ptr 3 0)), (5, .one (.ptr 300000 0)), (6, .one (li .i64 ii8))] [(3, some (.cells [li .i64 a1.X, li .i64 a1.Y])), (300000, some (.cells (A4_Watch.cells g7.l)))] (rec_l9 g7 ii8) (QB 0 (QT Try.prog D (n + 8) pc12_c66 (QF false pc12_r 0 F12_e)))) (g21 : Book) : SimL Try.prog D (n + 8) (n + 7) pc12_c49 [(0, .one (vw Step.cod a0)), (3, .one (.ptr 3 0)), (5, .one (.ptr 300000 0)), (6, .one (li .i64 ii8)), (7, .one (.ptr 7 0)), (8, .one (li .i64 r15.1)), (9, .one (.ptr 9 0)), (10, .one (li .i64 1))] [(3, some (.cells [li .i64 a1.X, li .i64 a1.Y])), (7, some (.cells (A4_Watch.cells r12.1))), (9, some (.cells (A4_Watch.cells r16.1))), (300000, some (.cells (A4_Watch.cells g21.l)))] (F12_u22 n a0 a1 ii8 r12 r15 r16 rec_l9 g21) (QB 2 (QB 1 (QT Try.prog D (n + 8) pc12_c58 (QL Try.prog D (n + 8) m_l9 pc12_c60 (QB 0 (QT Try.prog D (n + 8) pc12_c66 (QF false pc12_r 0 F12_e))))))) := by
    unfold F12_u22
    refine SimL.succ ?_
    refine Sim.seq ?_
    refine Sim.seq ?_
    refine Sim.region [(0, .one (vw Step.cod a0)), (3, .one (.ptr 3 0)), (5, .one (.ptr 300000 0)), (6, .one (li .i64 ii8)), (7, .one (.ptr 7 0)), (8, .one (li .i64 r15.1)), (9, .one (.ptr 9 0)), (10, .one (li .i64 1))] [(3, some (.cells [li .i64 a1.X, li .i64 a1.Y])), (7, some (.cells (A4_Watch.cells r12.1))), (9, some (.cells (A4_Watch.cells r16.1))), (300000, some (.cells (A4_Watch.cells g21.l)))] (by kernel_rfl) ?_
    refine SimI.run 2 [(47, .one (lb true)), (46, .one (li .i64 1))] [] (by kernel_rfl) ?_
    refine SimI.done (by kernel_rfl) ?_
    refine SimE.thenN ?_
    refine Sim.condT (by kernel_rfl) ?_
    refine Sim.skip ?_
    refine SimE.thenN ?_
    refine Sim.seq ?_
    refine Sim.block ?_
    refine Sim.seq ?_
    refine Sim.region0 ?_
    refine SimI.run 3 [(52, .one (lb (r15.1 != 0))), (51, .one (lb (r15.1 != 0))), (50, .one (li .i64 r15.1))] [] (by kernel_rfl) ?_
    refine SimI.split 52 (r15.1 != 0) (by kernel_rfl) ?_ ?_
    · refine SimI.run 16 [(68, .agg (Watch.cells r12.1.a1)), (67, .one (.ptr 7 7)), (66, .one (li .i64 1)), (65, .agg (Watch.cells r16.1.a1)), (64, .one (.ptr 9 7)), (63, .one (li .i64 1)), (62, .one (lb true)), (61, .one (lb true)), (60, .tup []), (59, .tup []), (58, .tup []), (57, .tup []), (56, .tup []), (55, .tup []), (54, .tup []), (53, .tup [])] [] (by kernel_rfl) ?_
      refine SimI.step { dst := some 69, op := POp.prim (Prim.bin BinOp.neq 68 false false) [Operand.tmp 65, Operand.tmp 68], guard := some (62, true), hints := [(65, Hint.imm), (68, Hint.imm)] } [(69, .one (lb (!(Watch.eqb r16.1.a1 r12.1.a1))))] [] (by kernel_rfl) (pOp_eff (by kernel_rfl) (by kernel_rfl) (eff_prim (by kernel_rfl) (Watch_eqn r16.1.a1 r12.1.a1 _ _))) ?_
      refine SimI.run 2 [(71, .one (lb (!(Watch.eqb r16.1.a1 r12.1.a1)))), (70, .one (lb (!(Watch.eqb r16.1.a1 r12.1.a1))))] [] (by kernel_rfl) ?_
      refine SimI.split 71 (!(Watch.eqb r16.1.a1 r12.1.a1)) (by kernel_rfl) ?_ ?_
      · refine SimI.run 47 [(118, .one (lb true)), (117, .tup []), (116, .tup []), (115, .tup []), (114, .tup []), (113, .tup []), (112, .tup []), (111, .tup []), (110, .tup []), (109, .tup []), (108, .tup []), (107, .tup []), (106, .tup []), (105, .tup []), (104, .tup []), (103, .tup []), (102, .tup []), (101, .tup []), (100, .tup []), (99, .tup []), (98, .tup []), (97, .tup []), (96, .tup []), (95, .one (lb true)), (94, .one (lb true)), (93, .tup []), (92, .tup []), (91, .tup []), (90, .tup []), (89, .tup []), (88, .tup []), (87, .tup []), (86, .tup []), (85, .tup []), (84, .tup []), (83, .tup []), (82, .one (lb true)), (81, .one (lb true)), (80, .tup []), (79, .tup []), (78, .tup []), (77, .tup []), (76, .tup []), (75, .tup []), (74, .tup []), (73, .tup []), (72, .tup [])] [] (by kernel_rfl) ?_
        refine SimI.done (by kernel_rfl) ?_
        refine SimE.thenN ?_
        refine Sim.condT (by kernel_rfl) ?_
        refine Sim.seq ?_
        refine Sim.region0 ?_
        refine SimI.run 1 [(4, .one (lb false))] [] (by kernel_rfl) ?_
        refine SimI.done (by kernel_rfl) ?_
        refine SimE.thenN ?_
        refine Sim.ret ?_
        refine SimE.blockR ?_
        refine SimE.thenR ?_
        refine SimE.loopR ?_
        refine SimE.blockR ?_
        refine SimE.blockR ?_
        refine SimE.thenR ?_
        refine SimE.loopR ?_
        refine SimE.blockR ?_
        refine SimE.thenR ?_
        exact SimE.fin (by kernel_rfl)
      · refine SimI.run 11 [(82, .one (lb (decide (r16.1.a1.Session < r12.1.a1.Session)))), (81, .one (lb (decide (r16.1.a1.Session < r12.1.a1.Session)))), (80, .one (lb (decide (r16.1.a1.Session < r12.1.a1.Session)))), (79, .one (li .i64 r12.1.a1.Session)), (78, .one (.ptr 7 8)), (77, .one (.ptr 7 7)), (76, .one (li .i64 1)), (75, .one (li .i64 r16.1.a1.Session)), (74, .one (.ptr 9 8)), (73, .one (.ptr 9 7)), (72, .one (li .i64 1))] [] (by kernel_rfl) ?_
        refine SimI.split 82 (decide (r16.1.a1.Session < r12.1.a1.Session)) (by kernel_rfl) ?_ ?_
        · refine SimI.run 36 [(118, .one (lb true)), (117, .tup []), (116, .tup []), (115, .tup []), (114, .tup []), (113, .tup []), (112, .tup []), (111, .tup []), (110, .tup []), (109, .tup []), (108, .tup []), (107, .tup []), (106, .tup []), (105, .tup []), (104, .tup []), (103, .tup []), (102, .tup []), (101, .tup []), (100, .tup []), (99, .tup []), (98, .tup []), (97, .tup []), (96, .tup []), (95, .one (lb true)), (94, .one (lb true)), (93, .tup []), (92, .tup []), (91, .tup []), (90, .tup []), (89, .tup []), (88, .tup []), (87, .tup []), (86, .tup []), (85, .tup []), (84, .tup []), (83, .tup [])] [] (by kernel_rfl) ?_
          refine SimI.done (by kernel_rfl) ?_
          refine SimE.thenN ?_
          refine Sim.condT (by kernel_rfl) ?_
          refine Sim.seq ?_
          refine Sim.region0 ?_
          refine SimI.run 1 [(4, .one (lb false))] [] (by kernel_rfl) ?_
          refine SimI.done (by kernel_rfl) ?_
          refine SimE.thenN ?_
          refine Sim.ret ?_
          refine SimE.blockR ?_
          refine SimE.thenR ?_
          refine SimE.loopR ?_
          refine SimE.blockR ?_
          refine SimE.blockR ?_
          refine SimE.thenR ?_
          refine SimE.loopR ?_
          refine SimE.blockR ?_
          refine SimE.thenR ?_
          exact SimE.fin (by kernel_rfl)
        · refine SimI.run 6 [(88, .one (lb (!(r16.1.a1.On)))), (87, .one (lb (!(r16.1.a1.On)))), (86, .one (lb r16.1.a1.On)), (85, .one (.ptr 9 7)), (84, .one (.ptr 9 7)), (83, .one (li .i64 1))] [] (by kernel_rfl) ?_
          refine SimI.split 88 (!(r16.1.a1.On)) (by kernel_rfl) ?_ ?_
          · refine SimI.run 3 [(91, .agg [li .i64 a1.X, li .i64 a1.Y]), (90, .one (li .i64 1)), (89, .one (.ptr 300000 0))] [] (by kernel_rfl) ?_
            refine SimI.bind (og := F42 n g21 1 a1) { dst := some 92, op := POp.call true [[], [], []] 42 [Operand.tmp 89, Operand.tmp 90, Operand.tmp 91], guard := some (88, true), hints := [(89, Hint.at_ 300000 0), (90, Hint.imm), (91, Hint.imm)] } (fun r23 => [(92, .one (lb r23.1))]) (fun r23 => [(300000, some (.cells (A4_Watch.cells r23.2.l)))]) (by kernel_rfl) (fun r23 hr => pOp_eff (by kernel_rfl) (by kernel_rfl) (eff_callp (ARGS := [.one (.ptr 300000 0), .one (li .i64 1), .agg [li .i64 a1.X, li .i64 a1.Y]]) (ARGS' := [.one (.ptr 1000000 0), .one (li .i64 1), .agg [li .i64 a1.X, li .i64 a1.Y]]) (ks := [300000]) (os := [(A4_Watch.cells g21.l)]) (os' := [(A4_Watch.cells r23.2.l)]) (by kernel_rfl) (args_ptr (by kernel_rfl) (args_clean (by kernel_rfl) (args_clean (by kernel_rfl) args_nil))) rfl (by kernel_rfl) (F42_ok n g21 1 a1 r23 hr) (by kernel_rfl) (by kernel_rfl))) (fun r23 => ?_)
            refine SimI.run 3 [(95, .one (lb r23.1)), (94, .one (lb r23.1)), (93, .one (lb r23.1))] [] (by kernel_rfl) ?_
            refine SimI.split 95 r23.1 (by kernel_rfl) ?_ ?_
            · refine SimI.run 23 [(118, .one (lb true)), (117, .tup []), (116, .tup []), (115, .tup []), (114, .tup []), (113, .tup []), (112, .tup []), (111, .tup []), (110, .tup []), (109, .tup []), (108, .tup []), (107, .tup []), (106, .tup []), (105, .tup []), (104, .tup []), (103, .tup []), (102, .tup []), (101, .tup []), (100, .tup []), (99, .tup []), (98, .tup []), (97, .tup []), (96, .tup [])] [] (by kernel_rfl) ?_
              refine SimI.done (by kernel_rfl) ?_
              refine SimE.thenN ?_
              refine Sim.condT (by kernel_rfl) ?_
              refine Sim.seq ?_
              refine Sim.region0 ?_
              refine SimI.run 1 [(4, .one (lb false))] [] (by kernel_rfl) ?_
              refine SimI.done (by kernel_rfl) ?_
              refine SimE.thenN ?_
              refine Sim.ret ?_
              refine SimE.blockR ?_
              refine SimE.thenR ?_
              refine SimE.loopR ?_
              refine SimE.blockR ?_
              refine SimE.blockR ?_
              refine SimE.thenR ?_
              refine SimE.loopR ?_
              refine SimE.blockR ?_
              refine SimE.thenR ?_
              exact SimE.fin (by kernel_rfl)
            · refine SimI.run 5 [(100, .one (lb r16.1.a1.On)), (99, .one (lb r16.1.a1.On)), (98, .one (.ptr 9 7)), (97, .one (.ptr 9 7)), (96, .one (li .i64 1))] [] (by kernel_rfl) ?_
              refine SimI.split 100 r16.1.a1.On (by kernel_rfl) ?_ ?_
              · refine SimI.run 7 [(107, .one (lb (!(r12.1.a1.On)))), (106, .one (lb (!(r12.1.a1.On)))), (105, .one (lb (!(r12.1.a1.On)))), (104, .one (lb r12.1.a1.On)), (103, .one (.ptr 7 7)), (102, .one (.ptr 7 7)), (101, .one (li .i64 1))] [] (by kernel_rfl) ?_
                refine SimI.split 107 (!(r12.1.a1.On)) (by kernel_rfl) ?_ ?_
                · refine SimI.run 11 [(118, .one (lb (r16.1.a1.Session == r12.1.a1.Session))), (117, .one (lb (r16.1.a1.Session == r12.1.a1.Session))), (116, .one (lb (r16.1.a1.Session == r12.1.a1.Session))), (115, .one (li .i64 r12.1.a1.Session)), (114, .one (.ptr 7 8)), (113, .one (.ptr 7 7)), (112, .one (li .i64 1)), (111, .one (li .i64 r16.1.a1.Session)), (110, .one (.ptr 9 8)), (109, .one (.ptr 9 7)), (108, .one (li .i64 1))] [] (by kernel_rfl) ?_
                  refine SimI.done (by kernel_rfl) ?_
                  refine SimE.thenN ?_
                  refine Sim.cond (r16.1.a1.Session == r12.1.a1.Session) (by kernel_rfl) ?_ ?_
                  · refine Sim.seq ?_
                    refine Sim.region0 ?_
                    refine SimI.run 1 [(4, .one (lb false))] [] (by kernel_rfl) ?_
                    refine SimI.done (by kernel_rfl) ?_
                    refine SimE.thenN ?_
                    refine Sim.ret ?_
                    refine SimE.blockR ?_
                    refine SimE.thenR ?_
                    refine SimE.loopR ?_
                    refine SimE.blockR ?_
                    refine SimE.blockR ?_
                    refine SimE.thenR ?_
                    refine SimE.loopR ?_
                    refine SimE.blockR ?_
                    refine SimE.thenR ?_
                    exact SimE.fin (by kernel_rfl)
                  · refine Sim.skip ?_
                    refine SimE.blockN ?_
                    refine SimE.thenN ?_
                    refine Sim.region0 ?_
                    refine SimI.run 3 [(10, .one (li .i64 2)), (49, .one (li .i64 2)), (48, .one (li .i64 1))] [] (by kernel_rfl) ?_
                    refine SimI.done (by kernel_rfl) ?_
                    refine SimE.loopN ?_
                    refine SimL.pre (ts := [0, 3, 5, 6, 7, 8, 9, 10]) (os := [3, 7, 9, 300000]) (ow := []) [(0, .one (vw Step.cod a0)), (3, .one (.ptr 3 0)), (5, .one (.ptr 300000 0)), (6, .one (li .i64 ii8)), (7, .one (.ptr 7 0)), (8, .one (li .i64 r15.1)), (9, .one (.ptr 9 0)), (10, .one (li .i64 2))] [(3, some (.cells [li .i64 a1.X, li .i64 a1.Y])), (7, some (.cells (A4_Watch.cells r12.1))), (9, some (.cells (A4_Watch.cells r16.1))), (300000, some (.cells (A4_Watch.cells r23.2.l)))] (by kernel_rfl) (by kernel_rfl) (by kernel_rfl) ?_
                    exact F12_u28_ok n a0 a1 ii8 r12 r15 r16 rec_l9 m_l9 ih_l9 r23.2
                · refine SimI.run 11 [(118, .one (lb false)), (117, .one (lb false)), (116, .tup []), (115, .tup []), (114, .tup []), (113, .tup []), (112, .tup []), (111, .tup []), (110, .tup []), (109, .tup []), (108, .tup [])] [] (by kernel_rfl) ?_
                  refine SimI.done (by kernel_rfl) ?_
                  refine SimE.thenN ?_
                  refine Sim.condF (by kernel_rfl) ?_
                  refine Sim.skip ?_
                  refine SimE.blockN ?_
                  refine SimE.thenN ?_
                  refine Sim.region0 ?_
                  refine SimI.run 3 [(10, .one (li .i64 2)), (49, .one (li .i64 2)), (48, .one (li .i64 1))] [] (by kernel_rfl) ?_
                  refine SimI.done (by kernel_rfl) ?_
                  refine SimE.loopN ?_
                  refine SimL.pre (ts := [0, 3, 5, 6, 7, 8, 9, 10]) (os := [3, 7, 9, 300000]) (ow := []) [(0, .one (vw Step.cod a0)), (3, .one (.ptr 3 0)), (5, .one (.ptr 300000 0)), (6, .one (li .i64 ii8)), (7, .one (.ptr 7 0)), (8, .one (li .i64 r15.1)), (9, .one (.ptr 9 0)), (10, .one (li .i64 2))] [(3, some (.cells [li .i64 a1.X, li .i64 a1.Y])), (7, some (.cells (A4_Watch.cells r12.1))), (9, some (.cells (A4_Watch.cells r16.1))), (300000, some (.cells (A4_Watch.cells r23.2.l)))] (by kernel_rfl) (by kernel_rfl) (by kernel_rfl) ?_
                  exact F12_u28_ok n a0 a1 ii8 r12 r15 r16 rec_l9 m_l9 ih_l9 r23.2
              · refine SimI.run 18 [(118, .one (lb false)), (117, .one (lb false)), (116, .tup []), (115, .tup []), (114, .tup []), (113, .tup []), (112, .tup []), (111, .tup []), (110, .tup []), (109, .tup []), (108, .tup []), (107, .one (lb false)), (106, .one (lb false)), (105, .tup []), (104, .tup []), (103, .tup []), (102, .tup []), (101, .tup [])] [] (by kernel_rfl) ?_
                refine SimI.done (by kernel_rfl) ?_
                refine SimE.thenN ?_
                refine Sim.condF (by kernel_rfl) ?_
                refine Sim.skip ?_
                refine SimE.blockN ?_
                refine SimE.thenN ?_
                refine Sim.region0 ?_
                refine SimI.run 3 [(10, .one (li .i64 2)), (49, .one (li .i64 2)), (48, .one (li .i64 1))] [] (by kernel_rfl) ?_
                refine SimI.done (by kernel_rfl) ?_
                refine SimE.loopN ?_
                refine SimL.pre (ts := [0, 3, 5, 6, 7, 8, 9, 10]) (os := [3, 7, 9, 300000]) (ow := []) [(0, .one (vw Step.cod a0)), (3, .one (.ptr 3 0)), (5, .one (.ptr 300000 0)), (6, .one (li .i64 ii8)), (7, .one (.ptr 7 0)), (8, .one (li .i64 r15.1)), (9, .one (.ptr 9 0)), (10, .one (li .i64 2))] [(3, some (.cells [li .i64 a1.X, li .i64 a1.Y])), (7, some (.cells (A4_Watch.cells r12.1))), (9, some (.cells (A4_Watch.cells r16.1))), (300000, some (.cells (A4_Watch.cells r23.2.l)))] (by kernel_rfl) (by kernel_rfl) (by kernel_rfl) ?_
                exact F12_u28_ok n a0 a1 ii8 r12 r15 r16 rec_l9 m_l9 ih_l9 r23.2
          · refine SimI.run 12 [(100, .one (lb r16.1.a1.On)), (99, .one (lb r16.1.a1.On)), (98, .one (.ptr 9 7)), (97, .one (.ptr 9 7)), (96, .one (li .i64 1)), (95, .one (lb false)), (94, .one (lb false)), (93, .one (lb false)), (92, .tup []), (91, .tup []), (90, .tup []), (89, .tup [])] [] (by kernel_rfl) ?_
            refine SimI.split 100 r16.1.a1.On (by kernel_rfl) ?_ ?_
            · refine SimI.run 7 [(107, .one (lb (!(r12.1.a1.On)))), (106, .one (lb (!(r12.1.a1.On)))), (105, .one (lb (!(r12.1.a1.On)))), (104, .one (lb r12.1.a1.On)), (103, .one (.ptr 7 7)), (102, .one (.ptr 7 7)), (101, .one (li .i64 1))] [] (by kernel_rfl) ?_
              refine SimI.split 107 (!(r12.1.a1.On)) (by kernel_rfl) ?_ ?_
              · refine SimI.run 11 [(118, .one (lb (r16.1.a1.Session == r12.1.a1.Session))), (117, .one (lb (r16.1.a1.Session == r12.1.a1.Session))), (116, .one (lb (r16.1.a1.Session == r12.1.a1.Session))), (115, .one (li .i64 r12.1.a1.Session)), (114, .one (.ptr 7 8)), (113, .one (.ptr 7 7)), (112, .one (li .i64 1)), (111, .one (li .i64 r16.1.a1.Session)), (110, .one (.ptr 9 8)), (109, .one (.ptr 9 7)), (108, .one (li .i64 1))] [] (by kernel_rfl) ?_
                refine SimI.done (by kernel_rfl) ?_
                refine SimE.thenN ?_
                refine Sim.cond (r16.1.a1.Session == r12.1.a1.Session) (by kernel_rfl) ?_ ?_
                · refine Sim.seq ?_
                  refine Sim.region0 ?_
                  refine SimI.run 1 [(4, .one (lb false))] [] (by kernel_rfl) ?_
                  refine SimI.done (by kernel_rfl) ?_
                  refine SimE.thenN ?_
                  refine Sim.ret ?_
                  refine SimE.blockR ?_
                  refine SimE.thenR ?_
                  refine SimE.loopR ?_
                  refine SimE.blockR ?_
                  refine SimE.blockR ?_
                  refine SimE.thenR ?_
                  refine SimE.loopR ?_
                  refine SimE.blockR ?_
                  refine SimE.thenR ?_
                  exact SimE.fin (by kernel_rfl)
                · refine Sim.skip ?_
                  refine SimE.blockN ?_
                  refine SimE.thenN ?_
                  refine Sim.region0 ?_
                  refine SimI.run 3 [(10, .one (li .i64 2)), (49, .one (li .i64 2)), (48, .one (li .i64 1))] [] (by kernel_rfl) ?_
                  refine SimI.done (by kernel_rfl) ?_
                  refine SimE.loopN ?_
                  refine SimL.pre (ts := [0, 3, 5, 6, 7, 8, 9, 10]) (os := [3, 7, 9, 300000]) (ow := []) [(0, .one (vw Step.cod a0)), (3, .one (.ptr 3 0)), (5, .one (.ptr 300000 0)), (6, .one (li .i64 ii8)), (7, .one (.ptr 7 0)), (8, .one (li .i64 r15.1)), (9, .one (.ptr 9 0)), (10, .one (li .i64 2))] [(3, some (.cells [li .i64 a1.X, li .i64 a1.Y])), (7, some (.cells (A4_Watch.cells r12.1))), (9, some (.cells (A4_Watch.cells r16.1))), (300000, some (.cells (A4_Watch.cells g21.l)))] (by kernel_rfl) (by kernel_rfl) (by kernel_rfl) ?_
                  exact F12_u28_ok n a0 a1 ii8 r12 r15 r16 rec_l9 m_l9 ih_l9 g21
              · refine SimI.run 11 [(118, .one (lb false)), (117, .one (lb false)), (116, .tup []), (115, .tup []), (114, .tup []), (113, .tup []), (112, .tup []), (111, .tup []), (110, .tup []), (109, .tup []), (108, .tup [])] [] (by kernel_rfl) ?_
                refine SimI.done (by kernel_rfl) ?_
                refine SimE.thenN ?_
                refine Sim.condF (by kernel_rfl) ?_
                refine Sim.skip ?_
                refine SimE.blockN ?_
                refine SimE.thenN ?_
                refine Sim.region0 ?_
                refine SimI.run 3 [(10, .one (li .i64 2)), (49, .one (li .i64 2)), (48, .one (li .i64 1))] [] (by kernel_rfl) ?_
                refine SimI.done (by kernel_rfl) ?_
                refine SimE.loopN ?_
                refine SimL.pre (ts := [0, 3, 5, 6, 7, 8, 9, 10]) (os := [3, 7, 9, 300000]) (ow := []) [(0, .one (vw Step.cod a0)), (3, .one (.ptr 3 0)), (5, .one (.ptr 300000 0)), (6, .one (li .i64 ii8)), (7, .one (.ptr 7 0)), (8, .one (li .i64 r15.1)), (9, .one (.ptr 9 0)), (10, .one (li .i64 2))] [(3, some (.cells [li .i64 a1.X, li .i64 a1.Y])), (7, some (.cells (A4_Watch.cells r12.1))), (9, some (.cells (A4_Watch.cells r16.1))), (300000, some (.cells (A4_Watch.cells g21.l)))] (by kernel_rfl) (by kernel_rfl) (by kernel_rfl) ?_
                exact F12_u28_ok n a0 a1 ii8 r12 r15 r16 rec_l9 m_l9 ih_l9 g21
            · refine SimI.run 18 [(118, .one (lb false)), (117, .one (lb false)), (116, .tup []), (115, .tup []), (114, .tup []), (113, .tup []), (112, .tup []), (111, .tup []), (110, .tup []), (109, .tup []), (108, .tup []), (107, .one (lb false)), (106, .one (lb false)), (105, .tup []), (104, .tup []), (103, .tup []), (102, .tup []), (101, .tup [])] [] (by kernel_rfl) ?_
              refine SimI.done (by kernel_rfl) ?_
              refine SimE.thenN ?_
              refine Sim.condF (by kernel_rfl) ?_
              refine Sim.skip ?_
              refine SimE.blockN ?_
              refine SimE.thenN ?_
              refine Sim.region0 ?_
              refine SimI.run 3 [(10, .one (li .i64 2)), (49, .one (li .i64 2)), (48, .one (li .i64 1))] [] (by kernel_rfl) ?_
              refine SimI.done (by kernel_rfl) ?_
              refine SimE.loopN ?_
              refine SimL.pre (ts := [0, 3, 5, 6, 7, 8, 9, 10]) (os := [3, 7, 9, 300000]) (ow := []) [(0, .one (vw Step.cod a0)), (3, .one (.ptr 3 0)), (5, .one (.ptr 300000 0)), (6, .one (li .i64 ii8)), (7, .one (.ptr 7 0)), (8, .one (li .i64 r15.1)), (9, .one (.ptr 9 0)), (10, .one (li .i64 2))] [(3, some (.cells [li .i64 a1.X, li .i64 a1.Y])), (7, some (.cells (A4_Watch.cells r12.1))), (9, some (.cells (A4_Watch.cells r16.1))), (300000, some (.cells (A4_Watch.cells g21.l)))] (by kernel_rfl) (by kernel_rfl) (by kernel_rfl) ?_
              exact F12_u28_ok n a0 a1 ii8 r12 r15 r16 rec_l9 m_l9 ih_l9 g21
    · refine SimI.run 3 [(55, .one (li .i64 ii8)), (54, .one (vw Step.cod a0)), (53, .one (li .i64 1))] [] (by kernel_rfl) ?_
      refine SimI.bind (og := ix a0 ii8) { dst := some 56, op := POp.iaddrS 23 (Operand.tmp 54) (Operand.tmp 55), guard := some (52, false), hints := [(54, Hint.imm), (55, Hint.imm)] } (fun x24 => [(56, .one (.eptr (Step.cod.enc x24) 0))]) (fun x24 => []) (by kernel_rfl) (fun x24 hr => pOp_eff (by kernel_rfl) (by kernel_rfl) (eff_idx (c := Step.cod) (l := a0) (k := .i64) (n := ii8) (by kernel_rfl) (by kernel_rfl) (by kernel_rfl) hr)) (fun x24 => ?_)
      refine SimI.run 6 [(62, .one (lb ((1 : Int) != x24.C.Client))), (61, .one (lb ((1 : Int) != x24.C.Client))), (60, .one (lb ((1 : Int) != x24.C.Client))), (59, .one (li .i64 x24.C.Client)), (58, .one (.eptr (Step.cod.enc x24) 16)), (57, .one (.eptr (Step.cod.enc x24) 0))] [] (by kernel_rfl) ?_
      refine SimI.split 62 ((1 : Int) != x24.C.Client) (by kernel_rfl) ?_ ?_
      · refine SimI.run 6 [(68, .agg (Watch.cells r12.1.a1)), (67, .one (.ptr 7 7)), (66, .one (li .i64 1)), (65, .agg (Watch.cells r16.1.a1)), (64, .one (.ptr 9 7)), (63, .one (li .i64 1))] [] (by kernel_rfl) ?_
        refine SimI.step { dst := some 69, op := POp.prim (Prim.bin BinOp.neq 68 false false) [Operand.tmp 65, Operand.tmp 68], guard := some (62, true), hints := [(65, Hint.imm), (68, Hint.imm)] } [(69, .one (lb (!(Watch.eqb r16.1.a1 r12.1.a1))))] [] (by kernel_rfl) (pOp_eff (by kernel_rfl) (by kernel_rfl) (eff_prim (by kernel_rfl) (Watch_eqn r16.1.a1 r12.1.a1 _ _))) ?_
        refine SimI.run 2 [(71, .one (lb (!(Watch.eqb r16.1.a1 r12.1.a1)))), (70, .one (lb (!(Watch.eqb r16.1.a1 r12.1.a1))))] [] (by kernel_rfl) ?_
        refine SimI.split 71 (!(Watch.eqb r16.1.a1 r12.1.a1)) (by kernel_rfl) ?_ ?_
        · refine SimI.run 47 [(118, .one (lb true)), (117, .tup []), (116, .tup []), (115, .tup []), (114, .tup []), (113, .tup []), (112, .tup []), (111, .tup []), (110, .tup []), (109, .tup []), (108, .tup []), (107, .tup []), (106, .tup []), (105, .tup []), (104, .tup []), (103, .tup []), (102, .tup []), (101, .tup []), (100, .tup []), (99, .tup []), (98, .tup []), (97, .tup []), (96, .tup []), (95, .one (lb true)), (94, .one (lb true)), (93, .tup []), (92, .tup []), (91, .tup []), (90, .tup []), (89, .tup []), (88, .tup []), (87, .tup []), (86, .tup []), (85, .tup []), (84, .tup []), (83, .tup []), (82, .one (lb true)), (81, .one (lb true)), (80, .tup []), (79, .tup []), (78, .tup []), (77, .tup []), (76, .tup []), (75, .tup []), (74, .tup []), (73, .tup []), (72, .tup [])] [] (by kernel_rfl) ?_
          refine SimI.done (by kernel_rfl) ?_
          refine SimE.thenN ?_
          refine Sim.condT (by kernel_rfl) ?_
          refine Sim.seq ?_
          refine Sim.region0 ?_
          refine SimI.run 1 [(4, .one (lb false))] [] (by kernel_rfl) ?_
          refine SimI.done (by kernel_rfl) ?_
          refine SimE.thenN ?_
          refine Sim.ret ?_
          refine SimE.blockR ?_
          refine SimE.thenR ?_
          refine SimE.loopR ?_
          refine SimE.blockR ?_
          refine SimE.blockR ?_
          refine SimE.thenR ?_
          refine SimE.loopR ?_
          refine SimE.blockR ?_
          refine SimE.thenR ?_
          exact SimE.fin (by kernel_rfl)
        · refine SimI.run 11 [(82, .one (lb (decide (r16.1.a1.Session < r12.1.a1.Session)))), (81, .one (lb (decide (r16.1.a1.Session < r12.1.a1.Session)))), (80, .one (lb (decide (r16.1.a1.Session < r12.1.a1.Session)))), (79, .one (li .i64 r12.1.a1.Session)), (78, .one (.ptr 7 8)), (77, .one (.ptr 7 7)), (76, .one (li .i64 1)), (75, .one (li .i64 r16.1.a1.Session)), (74, .one (.ptr 9 8)), (73, .one (.ptr 9 7)), (72, .one (li .i64 1))] [] (by kernel_rfl) ?_
          refine SimI.split 82 (decide (r16.1.a1.Session < r12.1.a1.Session)) (by kernel_rfl) ?_ ?_
          · refine SimI.run 36 [(118, .one (lb true)), (117, .tup []), (116, .tup []), (115, .tup []), (114, .tup []), (113, .tup []), (112, .tup []), (111, .tup []), (110, .tup []), (109, .tup []), (108, .tup []), (107, .tup []), (106, .tup []), (105, .tup []), (104, .tup []), (103, .tup []), (102, .tup []), (101, .tup []), (100, .tup []), (99, .tup []), (98, .tup []), (97, .tup []), (96, .tup []), (95, .one (lb true)), (94, .one (lb true)), (93, .tup []), (92, .tup []), (91, .tup []), (90, .tup []), (89, .tup []), (88, .tup []), (87, .tup []), (86, .tup []), (85, .tup []), (84, .tup []), (83, .tup [])] [] (by kernel_rfl) ?_
            refine SimI.done (by kernel_rfl) ?_
            refine SimE.thenN ?_
            refine Sim.condT (by kernel_rfl) ?_
            refine Sim.seq ?_
            refine Sim.region0 ?_
            refine SimI.run 1 [(4, .one (lb false))] [] (by kernel_rfl) ?_
            refine SimI.done (by kernel_rfl) ?_
            refine SimE.thenN ?_
            refine Sim.ret ?_
            refine SimE.blockR ?_
            refine SimE.thenR ?_
            refine SimE.loopR ?_
            refine SimE.blockR ?_
            refine SimE.blockR ?_
            refine SimE.thenR ?_
            refine SimE.loopR ?_
            refine SimE.blockR ?_
            refine SimE.thenR ?_
            exact SimE.fin (by kernel_rfl)
          · refine SimI.run 6 [(88, .one (lb (!(r16.1.a1.On)))), (87, .one (lb (!(r16.1.a1.On)))), (86, .one (lb r16.1.a1.On)), (85, .one (.ptr 9 7)), (84, .one (.ptr 9 7)), (83, .one (li .i64 1))] [] (by kernel_rfl) ?_
            refine SimI.split 88 (!(r16.1.a1.On)) (by kernel_rfl) ?_ ?_
            · refine SimI.run 3 [(91, .agg [li .i64 a1.X, li .i64 a1.Y]), (90, .one (li .i64 1)), (89, .one (.ptr 300000 0))] [] (by kernel_rfl) ?_
              refine SimI.bind (og := F42 n g21 1 a1) { dst := some 92, op := POp.call true [[], [], []] 42 [Operand.tmp 89, Operand.tmp 90, Operand.tmp 91], guard := some (88, true), hints := [(89, Hint.at_ 300000 0), (90, Hint.imm), (91, Hint.imm)] } (fun r25 => [(92, .one (lb r25.1))]) (fun r25 => [(300000, some (.cells (A4_Watch.cells r25.2.l)))]) (by kernel_rfl) (fun r25 hr => pOp_eff (by kernel_rfl) (by kernel_rfl) (eff_callp (ARGS := [.one (.ptr 300000 0), .one (li .i64 1), .agg [li .i64 a1.X, li .i64 a1.Y]]) (ARGS' := [.one (.ptr 1000000 0), .one (li .i64 1), .agg [li .i64 a1.X, li .i64 a1.Y]]) (ks := [300000]) (os := [(A4_Watch.cells g21.l)]) (os' := [(A4_Watch.cells r25.2.l)]) (by kernel_rfl) (args_ptr (by kernel_rfl) (args_clean (by kernel_rfl) (args_clean (by kernel_rfl) args_nil))) rfl (by kernel_rfl) (F42_ok n g21 1 a1 r25 hr) (by kernel_rfl) (by kernel_rfl))) (fun r25 => ?_)
              refine SimI.run 3 [(95, .one (lb r25.1)), (94, .one (lb r25.1)), (93, .one (lb r25.1))] [] (by kernel_rfl) ?_
              refine SimI.split 95 r25.1 (by kernel_rfl) ?_ ?_
              · refine SimI.run 23 [(118, .one (lb true)), (117, .tup []), (116, .tup []), (115, .tup []), (114, .tup []), (113, .tup []), (112, .tup []), (111, .tup []), (110, .tup []), (109, .tup []), (108, .tup []), (107, .tup []), (106, .tup []), (105, .tup []), (104, .tup []), (103, .tup []), (102, .tup []), (101, .tup []), (100, .tup []), (99, .tup []), (98, .tup []), (97, .tup []), (96, .tup [])] [] (by kernel_rfl) ?_
                refine SimI.done (by kernel_rfl) ?_
                refine SimE.thenN ?_
                refine Sim.condT (by kernel_rfl) ?_
                refine Sim.seq ?_
                refine Sim.region0 ?_
                refine SimI.run 1 [(4, .one (lb false))] [] (by kernel_rfl) ?_
                refine SimI.done (by kernel_rfl) ?_
                refine SimE.thenN ?_
                refine Sim.ret ?_
                refine SimE.blockR ?_
                refine SimE.thenR ?_
                refine SimE.loopR ?_
                refine SimE.blockR ?_
                refine SimE.blockR ?_
                refine SimE.thenR ?_
                refine SimE.loopR ?_
                refine SimE.blockR ?_
                refine SimE.thenR ?_
                exact SimE.fin (by kernel_rfl)
              · refine SimI.run 5 [(100, .one (lb r16.1.a1.On)), (99, .one (lb r16.1.a1.On)), (98, .one (.ptr 9 7)), (97, .one (.ptr 9 7)), (96, .one (li .i64 1))] [] (by kernel_rfl) ?_
                refine SimI.split 100 r16.1.a1.On (by kernel_rfl) ?_ ?_
                · refine SimI.run 7 [(107, .one (lb (!(r12.1.a1.On)))), (106, .one (lb (!(r12.1.a1.On)))), (105, .one (lb (!(r12.1.a1.On)))), (104, .one (lb r12.1.a1.On)), (103, .one (.ptr 7 7)), (102, .one (.ptr 7 7)), (101, .one (li .i64 1))] [] (by kernel_rfl) ?_
                  refine SimI.split 107 (!(r12.1.a1.On)) (by kernel_rfl) ?_ ?_
                  · refine SimI.run 11 [(118, .one (lb (r16.1.a1.Session == r12.1.a1.Session))), (117, .one (lb (r16.1.a1.Session == r12.1.a1.Session))), (116, .one (lb (r16.1.a1.Session == r12.1.a1.Session))), (115, .one (li .i64 r12.1.a1.Session)), (114, .one (.ptr 7 8)), (113, .one (.ptr 7 7)), (112, .one (li .i64 1)), (111, .one (li .i64 r16.1.a1.Session)), (110, .one (.ptr 9 8)), (109, .one (.ptr 9 7)), (108, .one (li .i64 1))] [] (by kernel_rfl) ?_
                    refine SimI.done (by kernel_rfl) ?_
                    refine SimE.thenN ?_
                    refine Sim.cond (r16.1.a1.Session == r12.1.a1.Session) (by kernel_rfl) ?_ ?_
                    · refine Sim.seq ?_
                      refine Sim.region0 ?_
                      refine SimI.run 1 [(4, .one (lb false))] [] (by kernel_rfl) ?_
                      refine SimI.done (by kernel_rfl) ?_
                      refine SimE.thenN ?_
                      refine Sim.ret ?_
                      refine SimE.blockR ?_
                      refine SimE.thenR ?_
                      refine SimE.loopR ?_
                      refine SimE.blockR ?_
                      refine SimE.blockR ?_
                      refine SimE.thenR ?_
                      refine SimE.loopR ?_
                      refine SimE.blockR ?_
                      refine SimE.thenR ?_
                      exact SimE.fin (by kernel_rfl)
                    · refine Sim.skip ?_
                      refine SimE.blockN ?_
                      refine SimE.thenN ?_
                      refine Sim.region0 ?_
                      refine SimI.run 3 [(10, .one (li .i64 2)), (49, .one (li .i64 2)), (48, .one (li .i64 1))] [] (by kernel_rfl) ?_
                      refine SimI.done (by kernel_rfl) ?_
                      refine SimE.loopN ?_
                      refine SimL.pre (ts := [0, 3, 5, 6, 7, 8, 9, 10]) (os := [3, 7, 9, 300000]) (ow := []) [(0, .one (vw Step.cod a0)), (3, .one (.ptr 3 0)), (5, .one (.ptr 300000 0)), (6, .one (li .i64 ii8)), (7, .one (.ptr 7 0)), (8, .one (li .i64 r15.1)), (9, .one (.ptr 9 0)), (10, .one (li .i64 2))] [(3, some (.cells [li .i64 a1.X, li .i64 a1.Y])), (7, some (.cells (A4_Watch.cells r12.1))), (9, some (.cells (A4_Watch.cells r16.1))), (300000, some (.cells (A4_Watch.cells r25.2.l)))] (by kernel_rfl) (by kernel_rfl) (by kernel_rfl) ?_
                      exact F12_u28_ok n a0 a1 ii8 r12 r15 r16 rec_l9 m_l9 ih_l9 r25.2
                  · refine SimI.run 11 [(118, .one (lb false)), (117, .one (lb false)), (116, .tup []), (115, .tup []), (114, .tup []), (113, .tup []), (112, .tup []), (111, .tup []), (110, .tup []), (109, .tup []), (108, .tup [])] [] (by kernel_rfl) ?_
                    refine SimI.done (by kernel_rfl) ?_
                    refine SimE.thenN ?_
                    refine Sim.condF (by kernel_rfl) ?_
                    refine Sim.skip ?_
                    refine SimE.blockN ?_
                    refine SimE.thenN ?_
                    refine Sim.region0 ?_
                    refine SimI.run 3 [(10, .one (li .i64 2)), (49, .one (li .i64 2)), (48, .one (li .i64 1))] [] (by kernel_rfl) ?_
                    refine SimI.done (by kernel_rfl) ?_
                    refine SimE.loopN ?_
                    refine SimL.pre (ts := [0, 3, 5, 6, 7, 8, 9, 10]) (os := [3, 7, 9, 300000]) (ow := []) [(0, .one (vw Step.cod a0)), (3, .one (.ptr 3 0)), (5, .one (.ptr 300000 0)), (6, .one (li .i64 ii8)), (7, .one (.ptr 7 0)), (8, .one (li .i64 r15.1)), (9, .one (.ptr 9 0)), (10, .one (li .i64 2))] [(3, some (.cells [li .i64 a1.X, li .i64 a1.Y])), (7, some (.cells (A4_Watch.cells r12.1))), (9, some (.cells (A4_Watch.cells r16.1))), (300000, some (.cells (A4_Watch.cells r25.2.l)))] (by kernel_rfl) (by kernel_rfl) (by kernel_rfl) ?_
                    exact F12_u28_ok n a0 a1 ii8 r12 r15 r16 rec_l9 m_l9 ih_l9 r25.2
                · refine SimI.run 18 [(118, .one (lb false)), (117, .one (lb false)), (116, .tup []), (115, .tup []), (114, .tup []), (113, .tup []), (112, .tup []), (111, .tup []), (110, .tup []), (109, .tup []), (108, .tup []), (107, .one (lb false)), (106, .one (lb false)), (105, .tup []), (104, .tup []), (103, .tup []), (102, .tup []), (101, .tup [])] [] (by kernel_rfl) ?_
                  refine SimI.done (by kernel_rfl) ?_
                  refine SimE.thenN ?_
                  refine Sim.condF (by kernel_rfl) ?_
                  refine Sim.skip ?_
                  refine SimE.blockN ?_
                  refine SimE.thenN ?_
                  refine Sim.region0 ?_
                  refine SimI.run 3 [(10, .one (li .i64 2)), (49, .one (li .i64 2)), (48, .one (li .i64 1))] [] (by kernel_rfl) ?_
                  refine SimI.done (by kernel_rfl) ?_
                  refine SimE.loopN ?_
                  refine SimL.pre (ts := [0, 3, 5, 6, 7, 8, 9, 10]) (os := [3, 7, 9, 300000]) (ow := []) [(0, .one (vw Step.cod a0)), (3, .one (.ptr 3 0)), (5, .one (.ptr 300000 0)), (6, .one (li .i64 ii8)), (7, .one (.ptr 7 0)), (8, .one (li .i64 r15.1)), (9, .one (.ptr 9 0)), (10, .one (li .i64 2))] [(3, some (.cells [li .i64 a1.X, li .i64 a1.Y])), (7, some (.cells (A4_Watch.cells r12.1))), (9, some (.cells (A4_Watch.cells r16.1))), (300000, some (.cells (A4_Watch.cells r25.2.l)))] (by kernel_rfl) (by kernel_rfl) (by kernel_rfl) ?_
                  exact F12_u28_ok n a0 a1 ii8 r12 r15 r16 rec_l9 m_l9 ih_l9 r25.2
            · refine SimI.run 12 [(100, .one (lb r16.1.a1.On)), (99, .one (lb r16.1.a1.On)), (98, .one (.ptr 9 7)), (97, .one (.ptr 9 7)), (96, .one (li .i64 1)), (95, .one (lb false)), (94, .one (lb false)), (93, .one (lb false)), (92, .tup []), (91, .tup []), (90, .tup []), (89, .tup [])] [] (by kernel_rfl) ?_
              refine SimI.split 100 r16.1.a1.On (by kernel_rfl) ?_ ?_
              · refine SimI.run 7 [(107, .one (lb (!(r12.1.a1.On)))), (106, .one (lb (!(r12.1.a1.On)))), (105, .one (lb (!(r12.1.a1.On)))), (104, .one (lb r12.1.a1.On)), (103, .one (.ptr 7 7)), (102, .one (.ptr 7 7)), (101, .one (li .i64 1))] [] (by kernel_rfl) ?_
                refine SimI.split 107 (!(r12.1.a1.On)) (by kernel_rfl) ?_ ?_
                · refine SimI.run 11 [(118, .one (lb (r16.1.a1.Session == r12.1.a1.Session))), (117, .one (lb (r16.1.a1.Session == r12.1.a1.Session))), (116, .one (lb (r16.1.a1.Session == r12.1.a1.Session))), (115, .one (li .i64 r12.1.a1.Session)), (114, .one (.ptr 7 8)), (113, .one (.ptr 7 7)), (112, .one (li .i64 1)), (111, .one (li .i64 r16.1.a1.Session)), (110, .one (.ptr 9 8)), (109, .one (.ptr 9 7)), (108, .one (li .i64 1))] [] (by kernel_rfl) ?_
                  refine SimI.done (by kernel_rfl) ?_
                  refine SimE.thenN ?_
                  refine Sim.cond (r16.1.a1.Session == r12.1.a1.Session) (by kernel_rfl) ?_ ?_
                  · refine Sim.seq ?_
                    refine Sim.region0 ?_
                    refine SimI.run 1 [(4, .one (lb false))] [] (by kernel_rfl) ?_
                    refine SimI.done (by kernel_rfl) ?_
                    refine SimE.thenN ?_
                    refine Sim.ret ?_
                    refine SimE.blockR ?_
                    refine SimE.thenR ?_
                    refine SimE.loopR ?_
                    refine SimE.blockR ?_
                    refine SimE.blockR ?_
                    refine SimE.thenR ?_
                    refine SimE.loopR ?_
                    refine SimE.blockR ?_
                    refine SimE.thenR ?_
                    exact SimE.fin (by kernel_rfl)
                  · refine Sim.skip ?_
                    refine SimE.blockN ?_
                    refine SimE.thenN ?_
                    refine Sim.region0 ?_
                    refine SimI.run 3 [(10, .one (li .i64 2)), (49, .one (li .i64 2)), (48, .one (li .i64 1))] [] (by kernel_rfl) ?_
                    refine SimI.done (by kernel_rfl) ?_
                    refine SimE.loopN ?_
                    refine SimL.pre (ts := [0, 3, 5, 6, 7, 8, 9, 10]) (os := [3, 7, 9, 300000]) (ow := []) [(0, .one (vw Step.cod a0)), (3, .one (.ptr 3 0)), (5, .one (.ptr 300000 0)), (6, .one (li .i64 ii8)), (7, .one (.ptr 7 0)), (8, .one (li .i64 r15.1)), (9, .one (.ptr 9 0)), (10, .one (li .i64 2))] [(3, some (.cells [li .i64 a1.X, li .i64 a1.Y])), (7, some (.cells (A4_Watch.cells r12.1))), (9, some (.cells (A4_Watch.cells r16.1))), (300000, some (.cells (A4_Watch.cells g21.l)))] (by kernel_rfl) (by kernel_rfl) (by kernel_rfl) ?_
                    exact F12_u28_ok n a0 a1 ii8 r12 r15 r16 rec_l9 m_l9 ih_l9 g21
                · refine SimI.run 11 [(118, .one (lb false)), (117, .one (lb false)), (116, .tup []), (115, .tup []), (114, .tup []), (113, .tup []), (112, .tup []), (111, .tup []), (110, .tup []), (109, .tup []), (108, .tup [])] [] (by kernel_rfl) ?_
                  refine SimI.done (by kernel_rfl) ?_
                  refine SimE.thenN ?_
                  refine Sim.condF (by kernel_rfl) ?_
                  refine Sim.skip ?_
                  refine SimE.blockN ?_
                  refine SimE.thenN ?_
                  refine Sim.region0 ?_
                  refine SimI.run 3 [(10, .one (li .i64 2)), (49, .one (li .i64 2)), (48, .one (li .i64 1))] [] (by kernel_rfl) ?_
                  refine SimI.done (by kernel_rfl) ?_
                  refine SimE.loopN ?_
                  refine SimL.pre (ts := [0, 3, 5, 6, 7, 8, 9, 10]) (os := [3, 7, 9, 300000]) (ow := []) [(0, .one (vw Step.cod a0)), (3, .one (.ptr 3 0)), (5, .one (.ptr 300000 0)), (6, .one (li .i64 ii8)), (7, .one (.ptr 7 0)), (8, .one (li .i64 r15.1)), (9, .one (.ptr 9 0)), (10, .one (li .i64 2))] [(3, some (.cells [li .i64 a1.X, li .i64 a1.Y])), (7, some (.cells (A4_Watch.cells r12.1))), (9, some (.cells (A4_Watch.cells r16.1))), (300000, some (.cells (A4_Watch.cells g21.l)))] (by kernel_rfl) (by kernel_rfl) (by kernel_rfl) ?_
                  exact F12_u28_ok n a0 a1 ii8 r12 r15 r16 rec_l9 m_l9 ih_l9 g21
              · refine SimI.run 18 [(118, .one (lb false)), (117, .one (lb false)), (116, .tup []), (115, .tup []), (114, .tup []), (113, .tup []), (112, .tup []), (111, .tup []), (110, .tup []), (109, .tup []), (108, .tup []), (107, .one (lb false)), (106, .one (lb false)), (105, .tup []), (104, .tup []), (103, .tup []), (102, .tup []), (101, .tup [])] [] (by kernel_rfl) ?_
                refine SimI.done (by kernel_rfl) ?_
                refine SimE.thenN ?_
                refine Sim.condF (by kernel_rfl) ?_
                refine Sim.skip ?_
                refine SimE.blockN ?_
                refine SimE.thenN ?_
                refine Sim.region0 ?_
                refine SimI.run 3 [(10, .one (li .i64 2)), (49, .one (li .i64 2)), (48, .one (li .i64 1))] [] (by kernel_rfl) ?_
                refine SimI.done (by kernel_rfl) ?_
                refine SimE.loopN ?_
                refine SimL.pre (ts := [0, 3, 5, 6, 7, 8, 9, 10]) (os := [3, 7, 9, 300000]) (ow := []) [(0, .one (vw Step.cod a0)), (3, .one (.ptr 3 0)), (5, .one (.ptr 300000 0)), (6, .one (li .i64 ii8)), (7, .one (.ptr 7 0)), (8, .one (li .i64 r15.1)), (9, .one (.ptr 9 0)), (10, .one (li .i64 2))] [(3, some (.cells [li .i64 a1.X, li .i64 a1.Y])), (7, some (.cells (A4_Watch.cells r12.1))), (9, some (.cells (A4_Watch.cells r16.1))), (300000, some (.cells (A4_Watch.cells g21.l)))] (by kernel_rfl) (by kernel_rfl) (by kernel_rfl) ?_
                exact F12_u28_ok n a0 a1 ii8 r12 r15 r16 rec_l9 m_l9 ih_l9 g21
      · refine SimI.run 20 [(82, .one (lb (decide (r16.1.a1.Session < r12.1.a1.Session)))), (81, .one (lb (decide (r16.1.a1.Session < r12.1.a1.Session)))), (80, .one (lb (decide (r16.1.a1.Session < r12.1.a1.Session)))), (79, .one (li .i64 r12.1.a1.Session)), (78, .one (.ptr 7 8)), (77, .one (.ptr 7 7)), (76, .one (li .i64 1)), (75, .one (li .i64 r16.1.a1.Session)), (74, .one (.ptr 9 8)), (73, .one (.ptr 9 7)), (72, .one (li .i64 1)), (71, .one (lb false)), (70, .one (lb false)), (69, .tup []), (68, .tup []), (67, .tup []), (66, .tup []), (65, .tup []), (64, .tup []), (63, .tup [])] [] (by kernel_rfl) ?_
        refine SimI.split 82 (decide (r16.1.a1.Session < r12.1.a1.Session)) (by kernel_rfl) ?_ ?_
        · refine SimI.run 36 [(118, .one (lb true)), (117, .tup []), (116, .tup []), (115, .tup []), (114, .tup []), (113, .tup []), (112, .tup []), (111, .tup []), (110, .tup []), (109, .tup []), (108, .tup []), (107, .tup []), (106, .tup []), (105, .tup []), (104, .tup []), (103, .tup []), (102, .tup []), (101, .tup []), (100, .tup []), (99, .tup []), (98, .tup []), (97, .tup []), (96, .tup []), (95, .one (lb true)), (94, .one (lb true)), (93, .tup []), (92, .tup []), (91, .tup []), (90, .tup []), (89, .tup []), (88, .tup []), (87, .tup []), (86, .tup []), (85, .tup []), (84, .tup []), (83, .tup [])] [] (by kernel_rfl) ?_
          refine SimI.done (by kernel_rfl) ?_
          refine SimE.thenN ?_
          refine Sim.condT (by kernel_rfl) ?_
          refine Sim.seq ?_
          refine Sim.region0 ?_
          refine SimI.run 1 [(4, .one (lb false))] [] (by kernel_rfl) ?_
          refine SimI.done (by kernel_rfl) ?_
          refine SimE.thenN ?_
          refine Sim.ret ?_
          refine SimE.blockR ?_
          refine SimE.thenR ?_
          refine SimE.loopR ?_
          refine SimE.blockR ?_
          refine SimE.blockR ?_
          refine SimE.thenR ?_
          refine SimE.loopR ?_
          refine SimE.blockR ?_
          refine SimE.thenR ?_
          exact SimE.fin (by kernel_rfl)
        · refine SimI.run 6 [(88, .one (lb (!(r16.1.a1.On)))), (87, .one (lb (!(r16.1.a1.On)))), (86, .one (lb r16.1.a1.On)), (85, .one (.ptr 9 7)), (84, .one (.ptr 9 7)), (83, .one (li .i64 1))] [] (by kernel_rfl) ?_
          refine SimI.split 88 (!(r16.1.a1.On)) (by kernel_rfl) ?_ ?_
          · refine SimI.run 3 [(91, .agg [li .i64 a1.X, li .i64 a1.Y]), (90, .one (li .i64 1)), (89, .one (.ptr 300000 0))] [] (by kernel_rfl) ?_
            refine SimI.bind (og := F42 n g21 1 a1) { dst := some 92, op := POp.call true [[], [], []] 42 [Operand.tmp 89, Operand.tmp 90, Operand.tmp 91], guard := some (88, true), hints := [(89, Hint.at_ 300000 0), (90, Hint.imm), (91, Hint.imm)] } (fun r26 => [(92, .one (lb r26.1))]) (fun r26 => [(300000, some (.cells (A4_Watch.cells r26.2.l)))]) (by kernel_rfl) (fun r26 hr => pOp_eff (by kernel_rfl) (by kernel_rfl) (eff_callp (ARGS := [.one (.ptr 300000 0), .one (li .i64 1), .agg [li .i64 a1.X, li .i64 a1.Y]]) (ARGS' := [.one (.ptr 1000000 0), .one (li .i64 1), .agg [li .i64 a1.X, li .i64 a1.Y]]) (ks := [300000]) (os := [(A4_Watch.cells g21.l)]) (os' := [(A4_Watch.cells r26.2.l)]) (by kernel_rfl) (args_ptr (by kernel_rfl) (args_clean (by kernel_rfl) (args_clean (by kernel_rfl) args_nil))) rfl (by kernel_rfl) (F42_ok n g21 1 a1 r26 hr) (by kernel_rfl) (by kernel_rfl))) (fun r26 => ?_)
            refine SimI.run 3 [(95, .one (lb r26.1)), (94, .one (lb r26.1)), (93, .one (lb r26.1))] [] (by kernel_rfl) ?_
            refine SimI.split 95 r26.1 (by kernel_rfl) ?_ ?_
            · refine SimI.run 23 [(118, .one (lb true)), (117, .tup []), (116, .tup []), (115, .tup []), (114, .tup []), (113, .tup []), (112, .tup []), (111, .tup []), (110, .tup []), (109, .tup []), (108, .tup []), (107, .tup []), (106, .tup []), (105, .tup []), (104, .tup []), (103, .tup []), (102, .tup []), (101, .tup []), (100, .tup []), (99, .tup []), (98, .tup []), (97, .tup []), (96, .tup [])] [] (by kernel_rfl) ?_
              refine SimI.done (by kernel_rfl) ?_
              refine SimE.thenN ?_
              refine Sim.condT (by kernel_rfl) ?_
              refine Sim.seq ?_
              refine Sim.region0 ?_
              refine SimI.run 1 [(4, .one (lb false))] [] (by kernel_rfl) ?_
              refine SimI.done (by kernel_rfl) ?_
              refine SimE.thenN ?_
              refine Sim.ret ?_
              refine SimE.blockR ?_
              refine SimE.thenR ?_
              refine SimE.loopR ?_
              refine SimE.blockR ?_
              refine SimE.blockR ?_
              refine SimE.thenR ?_
              refine SimE.loopR ?_
              refine SimE.blockR ?_
              refine SimE.thenR ?_
              exact SimE.fin (by kernel_rfl)
            · refine SimI.run 5 [(100, .one (lb r16.1.a1.On)), (99, .one (lb r16.1.a1.On)), (98, .one (.ptr 9 7)), (97, .one (.ptr 9 7)), (96, .one (li .i64 1))] [] (by kernel_rfl) ?_
              refine SimI.split 100 r16.1.a1.On (by kernel_rfl) ?_ ?_
              · refine SimI.run 7 [(107, .one (lb (!(r12.1.a1.On)))), (106, .one (lb (!(r12.1.a1.On)))), (105, .one (lb (!(r12.1.a1.On)))), (104, .one (lb r12.1.a1.On)), (103, .one (.ptr 7 7)), (102, .one (.ptr 7 7)), (101, .one (li .i64 1))] [] (by kernel_rfl) ?_
                refine SimI.split 107 (!(r12.1.a1.On)) (by kernel_rfl) ?_ ?_
                · refine SimI.run 11 [(118, .one (lb (r16.1.a1.Session == r12.1.a1.Session))), (117, .one (lb (r16.1.a1.Session == r12.1.a1.Session))), (116, .one (lb (r16.1.a1.Session == r12.1.a1.Session))), (115, .one (li .i64 r12.1.a1.Session)), (114, .one (.ptr 7 8)), (113, .one (.ptr 7 7)), (112, .one (li .i64 1)), (111, .one (li .i64 r16.1.a1.Session)), (110, .one (.ptr 9 8)), (109, .one (.ptr 9 7)), (108, .one (li .i64 1))] [] (by kernel_rfl) ?_
                  refine SimI.done (by kernel_rfl) ?_
                  refine SimE.thenN ?_
                  refine Sim.cond (r16.1.a1.Session == r12.1.a1.Session) (by kernel_rfl) ?_ ?_
                  · refine Sim.seq ?_
                    refine Sim.region0 ?_
                    refine SimI.run 1 [(4, .one (lb false))] [] (by kernel_rfl) ?_
                    refine SimI.done (by kernel_rfl) ?_
                    refine SimE.thenN ?_
                    refine Sim.ret ?_
                    refine SimE.blockR ?_
                    refine SimE.thenR ?_
                    refine SimE.loopR ?_
                    refine SimE.blockR ?_
                    refine SimE.blockR ?_
                    refine SimE.thenR ?_
                    refine SimE.loopR ?_
                    refine SimE.blockR ?_
                    refine SimE.thenR ?_
                    exact SimE.fin (by kernel_rfl)
                  · refine Sim.skip ?_
                    refine SimE.blockN ?_
                    refine SimE.thenN ?_
                    refine Sim.region0 ?_
                    refine SimI.run 3 [(10, .one (li .i64 2)), (49, .one (li .i64 2)), (48, .one (li .i64 1))] [] (by kernel_rfl) ?_
                    refine SimI.done (by kernel_rfl) ?_
                    refine SimE.loopN ?_
                    refine SimL.pre (ts := [0, 3, 5, 6, 7, 8, 9, 10]) (os := [3, 7, 9, 300000]) (ow := []) [(0, .one (vw Step.cod a0)), (3, .one (.ptr 3 0)), (5, .one (.ptr 300000 0)), (6, .one (li .i64 ii8)), (7, .one (.ptr 7 0)), (8, .one (li .i64 r15.1)), (9, .one (.ptr 9 0)), (10, .one (li .i64 2))] [(3, some (.cells [li .i64 a1.X, li .i64 a1.Y])), (7, some (.cells (A4_Watch.cells r12.1))), (9, some (.cells (A4_Watch.cells r16.1))), (300000, some (.cells (A4_Watch.cells r26.2.l)))] (by kernel_rfl) (by kernel_rfl) (by kernel_rfl) ?_
                    exact F12_u28_ok n a0 a1 ii8 r12 r15 r16 rec_l9 m_l9 ih_l9 r26.2
                · refine SimI.run 11 [(118, .one (lb false)), (117, .one (lb false)), (116, .tup []), (115, .tup []), (114, .tup []), (113, .tup []), (112, .tup []), (111, .tup []), (110, .tup []), (109, .tup []), (108, .tup [])] [] (by kernel_rfl) ?_
                  refine SimI.done (by kernel_rfl) ?_
                  refine SimE.thenN ?_
                  refine Sim.condF (by kernel_rfl) ?_
                  refine Sim.skip ?_
                  refine SimE.blockN ?_
                  refine SimE.thenN ?_
                  refine Sim.region0 ?_
                  refine SimI.run 3 [(10, .one (li .i64 2)), (49, .one (li .i64 2)), (48, .one (li .i64 1))] [] (by kernel_rfl) ?_
                  refine SimI.done (by kernel_rfl) ?_
                  refine SimE.loopN ?_
                  refine SimL.pre (ts := [0, 3, 5, 6, 7, 8, 9, 10]) (os := [3, 7, 9, 300000]) (ow := []) [(0, .one (vw Step.cod a0)), (3, .one (.ptr 3 0)), (5, .one (.ptr 300000 0)), (6, .one (li .i64 ii8)), (7, .one (.ptr 7 0)), (8, .one (li .i64 r15.1)), (9, .one (.ptr 9 0)), (10, .one (li .i64 2))] [(3, some (.cells [li .i64 a1.X, li .i64 a1.Y])), (7, some (.cells (A4_Watch.cells r12.1))), (9, some (.cells (A4_Watch.cells r16.1))), (300000, some (.cells (A4_Watch.cells r26.2.l)))] (by kernel_rfl) (by kernel_rfl) (by kernel_rfl) ?_
                  exact F12_u28_ok n a0 a1 ii8 r12 r15 r16 rec_l9 m_l9 ih_l9 r26.2
              · refine SimI.run 18 [(118, .one (lb false)), (117, .one (lb false)), (116, .tup []), (115, .tup []), (114, .tup []), (113, .tup []), (112, .tup []), (111, .tup []), (110, .tup []), (109, .tup []), (108, .tup []), (107, .one (lb false)), (106, .one (lb false)), (105, .tup []), (104, .tup []), (103, .tup []), (102, .tup []), (101, .tup [])] [] (by kernel_rfl) ?_
                refine SimI.done (by kernel_rfl) ?_
                refine SimE.thenN ?_
                refine Sim.condF (by kernel_rfl) ?_
                refine Sim.skip ?_
                refine SimE.blockN ?_
                refine SimE.thenN ?_
                refine Sim.region0 ?_
                refine SimI.run 3 [(10, .one (li .i64 2)), (49, .one (li .i64 2)), (48, .one (li .i64 1))] [] (by kernel_rfl) ?_
                refine SimI.done (by kernel_rfl) ?_
                refine SimE.loopN ?_
                refine SimL.pre (ts := [0, 3, 5, 6, 7, 8, 9, 10]) (os := [3, 7, 9, 300000]) (ow := []) [(0, .one (vw Step.cod a0)), (3, .one (.ptr 3 0)), (5, .one (.ptr 300000 0)), (6, .one (li .i64 ii8)), (7, .one (.ptr 7 0)), (8, .one (li .i64 r15.1)), (9, .one (.ptr 9 0)), (10, .one (li .i64 2))] [(3, some (.cells [li .i64 a1.X, li .i64 a1.Y])), (7, some (.cells (A4_Watch.cells r12.1))), (9, some (.cells (A4_Watch.cells r16.1))), (300000, some (.cells (A4_Watch.cells r26.2.l)))] (by kernel_rfl) (by kernel_rfl) (by kernel_rfl) ?_
                exact F12_u28_ok n a0 a1 ii8 r12 r15 r16 rec_l9 m_l9 ih_l9 r26.2
          · refine SimI.run 12 [(100, .one (lb r16.1.a1.On)), (99, .one (lb r16.1.a1.On)), (98, .one (.ptr 9 7)), (97, .one (.ptr 9 7)), (96, .one (li .i64 1)), (95, .one (lb false)), (94, .one (lb false)), (93, .one (lb false)), (92, .tup []), (91, .tup []), (90, .tup []), (89, .tup [])] [] (by kernel_rfl) ?_
            refine SimI.split 100 r16.1.a1.On (by kernel_rfl) ?_ ?_
            · refine SimI.run 7 [(107, .one (lb (!(r12.1.a1.On)))), (106, .one (lb (!(r12.1.a1.On)))), (105, .one (lb (!(r12.1.a1.On)))), (104, .one (lb r12.1.a1.On)), (103, .one (.ptr 7 7)), (102, .one (.ptr 7 7)), (101, .one (li .i64 1))] [] (by kernel_rfl) ?_
              refine SimI.split 107 (!(r12.1.a1.On)) (by kernel_rfl) ?_ ?_
              · refine SimI.run 11 [(118, .one (lb (r16.1.a1.Session == r12.1.a1.Session))), (117, .one (lb (r16.1.a1.Session == r12.1.a1.Session))), (116, .one (lb (r16.1.a1.Session == r12.1.a1.Session))), (115, .one (li .i64 r12.1.a1.Session)), (114, .one (.ptr 7 8)), (113, .one (.ptr 7 7)), (112, .one (li .i64 1)), (111, .one (li .i64 r16.1.a1.Session)), (110, .one (.ptr 9 8)), (109, .one (.ptr 9 7)), (108, .one (li .i64 1))] [] (by kernel_rfl) ?_
                refine SimI.done (by kernel_rfl) ?_
                refine SimE.thenN ?_
                refine Sim.cond (r16.1.a1.Session == r12.1.a1.Session) (by kernel_rfl) ?_ ?_
                · refine Sim.seq ?_
                  refine Sim.region0 ?_
                  refine SimI.run 1 [(4, .one (lb false))] [] (by kernel_rfl) ?_
                  refine SimI.done (by kernel_rfl) ?_
                  refine SimE.thenN ?_
                  refine Sim.ret ?_
                  refine SimE.blockR ?_
                  refine SimE.thenR ?_
                  refine SimE.loopR ?_
                  refine SimE.blockR ?_
                  refine SimE.blockR ?_
                  refine SimE.thenR ?_
                  refine SimE.loopR ?_
                  refine SimE.blockR ?_
                  refine SimE.thenR ?_
                  exact SimE.fin (by kernel_rfl)
                · refine Sim.skip ?_
                  refine SimE.blockN ?_
                  refine SimE.thenN ?_
                  refine Sim.region0 ?_
                  refine SimI.run 3 [(10, .one (li .i64 2)), (49, .one (li .i64 2)), (48, .one (li .i64 1))] [] (by kernel_rfl) ?_
                  refine SimI.done (by kernel_rfl) ?_
                  refine SimE.loopN ?_
                  refine SimL.pre (ts := [0, 3, 5, 6, 7, 8, 9, 10]) (os := [3, 7, 9, 300000]) (ow := []) [(0, .one (vw Step.cod a0)), (3, .one (.ptr 3 0)), (5, .one (.ptr 300000 0)), (6, .one (li .i64 ii8)), (7, .one (.ptr 7 0)), (8, .one (li .i64 r15.1)), (9, .one (.ptr 9 0)), (10, .one (li .i64 2))] [(3, some (.cells [li .i64 a1.X, li .i64 a1.Y])), (7, some (.cells (A4_Watch.cells r12.1))), (9, some (.cells (A4_Watch.cells r16.1))), (300000, some (.cells (A4_Watch.cells g21.l)))] (by kernel_rfl) (by kernel_rfl) (by kernel_rfl) ?_
                  exact F12_u28_ok n a0 a1 ii8 r12 r15 r16 rec_l9 m_l9 ih_l9 g21
              · refine SimI.run 11 [(118, .one (lb false)), (117, .one (lb false)), (116, .tup []), (115, .tup []), (114, .tup []), (113, .tup []), (112, .tup []), (111, .tup []), (110, .tup []), (109, .tup []), (108, .tup [])] [] (by kernel_rfl) ?_
                refine SimI.done (by kernel_rfl) ?_
                refine SimE.thenN ?_
                refine Sim.condF (by kernel_rfl) ?_
                refine Sim.skip ?_
                refine SimE.blockN ?_
                refine SimE.thenN ?_
                refine Sim.region0 ?_
                refine SimI.run 3 [(10, .one (li .i64 2)), (49, .one (li .i64 2)), (48, .one (li .i64 1))] [] (by kernel_rfl) ?_
                refine SimI.done (by kernel_rfl) ?_
                refine SimE.loopN ?_
                refine SimL.pre (ts := [0, 3, 5, 6, 7, 8, 9, 10]) (os := [3, 7, 9, 300000]) (ow := []) [(0, .one (vw Step.cod a0)), (3, .one (.ptr 3 0)), (5, .one (.ptr 300000 0)), (6, .one (li .i64 ii8)), (7, .one (.ptr 7 0)), (8, .one (li .i64 r15.1)), (9, .one (.ptr 9 0)), (10, .one (li .i64 2))] [(3, some (.cells [li .i64 a1.X, li .i64 a1.Y])), (7, some (.cells (A4_Watch.cells r12.1))), (9, some (.cells (A4_Watch.cells r16.1))), (300000, some (.cells (A4_Watch.cells g21.l)))] (by kernel_rfl) (by kernel_rfl) (by kernel_rfl) ?_
                exact F12_u28_ok n a0 a1 ii8 r12 r15 r16 rec_l9 m_l9 ih_l9 g21
            · refine SimI.run 18 [(118, .one (lb false)), (117, .one (lb false)), (116, .tup []), (115, .tup []), (114, .tup []), (113, .tup []), (112, .tup []), (111, .tup []), (110, .tup []), (109, .tup []), (108, .tup []), (107, .one (lb false)), (106, .one (lb false)), (105, .tup []), (104, .tup []), (103, .tup []), (102, .tup []), (101, .tup [])] [] (by kernel_rfl) ?_
              refine SimI.done (by kernel_rfl) ?_
              refine SimE.thenN ?_
              refine Sim.condF (by kernel_rfl) ?_
              refine Sim.skip ?_
              refine SimE.blockN ?_
              refine SimE.thenN ?_
              refine Sim.region0 ?_
              refine SimI.run 3 [(10, .one (li .i64 2)), (49, .one (li .i64 2)), (48, .one (li .i64 1))] [] (by kernel_rfl) ?_
              refine SimI.done (by kernel_rfl) ?_
              refine SimE.loopN ?_
              refine SimL.pre (ts := [0, 3, 5, 6, 7, 8, 9, 10]) (os := [3, 7, 9, 300000]) (ow := []) [(0, .one (vw Step.cod a0)), (3, .one (.ptr 3 0)), (5, .one (.ptr 300000 0)), (6, .one (li .i64 ii8)), (7, .one (.ptr 7 0)), (8, .one (li .i64 r15.1)), (9, .one (.ptr 9 0)), (10, .one (li .i64 2))] [(3, some (.cells [li .i64 a1.X, li .i64 a1.Y])), (7, some (.cells (A4_Watch.cells r12.1))), (9, some (.cells (A4_Watch.cells r16.1))), (300000, some (.cells (A4_Watch.cells g21.l)))] (by kernel_rfl) (by kernel_rfl) (by kernel_rfl) ?_
              exact F12_u28_ok n a0 a1 ii8 r12 r15 r16 rec_l9 m_l9 ih_l9 g21

def F12_l9 (n : Nat) (a0 : (List Step)) (a1 : Point) : Nat → Book → Int → Option Bool
  | 0, _, _ => none
  | m + 1, g7, ii8 =>
    if decide (ii8 < ((a0).length : Int)) then
      (ix a0 ii8).bind fun (x10 : Step) =>
      (F37 n x10.C).bind fun (r11 : Bool) =>
      if !(r11) then
        some true
      else
        (F41 n g7).bind fun (r12 : ((A4 Watch) × Book)) =>
        (ix a0 ii8).bind fun (x13 : Step) =>
        (ix a0 ii8).bind fun (x14 : Step) =>
        (F39 n r12.2 x13.C x14.Beat).bind fun (r15 : (Int × Book)) =>
        (F41 n r15.2).bind fun (r16 : ((A4 Watch) × Book)) =>
        if r15.1 != 0 then
          if !(Watch.eqb r16.1.a0 r12.1.a0) then
            some false
          else
            if decide (r16.1.a0.Session < r12.1.a0.Session) then
              some false
            else
              if !(r16.1.a0.On) then
                (F42 n r16.2 0 a1).bind fun (r17 : (Bool × Book)) =>
                if r17.1 then
                  some false
                else
                  if r16.1.a0.On then
                    if !(r12.1.a0.On) then
                      if r16.1.a0.Session == r12.1.a0.Session then
                        some false
                      else
                        F12_u22 n a0 a1 ii8 r12 r15 r16 (F12_l9 n a0 a1 m) r17.2
                    else
                      F12_u22 n a0 a1 ii8 r12 r15 r16 (F12_l9 n a0 a1 m) r17.2
                  else
                    F12_u22 n a0 a1 ii8 r12 r15 r16 (F12_l9 n a0 a1 m) r17.2
              else
                if r16.1.a0.On then
                  if !(r12.1.a0.On) then
                    if r16.1.a0.Session == r12.1.a0.Session then
                      some false
                    else
                      F12_u22 n a0 a1 ii8 r12 r15 r16 (F12_l9 n a0 a1 m) r16.2
                  else
                    F12_u22 n a0 a1 ii8 r12 r15 r16 (F12_l9 n a0 a1 m) r16.2
                else
                  F12_u22 n a0 a1 ii8 r12 r15 r16 (F12_l9 n a0 a1 m) r16.2
        else
          (ix a0 ii8).bind fun (x18 : Step) =>
          if (0 : Int) != x18.C.Client then
            if !(Watch.eqb r16.1.a0 r12.1.a0) then
              some false
            else
              if decide (r16.1.a0.Session < r12.1.a0.Session) then
                some false
              else
                if !(r16.1.a0.On) then
                  (F42 n r16.2 0 a1).bind fun (r19 : (Bool × Book)) =>
                  if r19.1 then
                    some false
                  else
                    if r16.1.a0.On then
                      if !(r12.1.a0.On) then
                        if r16.1.a0.Session == r12.1.a0.Session then
                          some false
                        else
                          F12_u22 n a0 a1 ii8 r12 r15 r16 (F12_l9 n a0 a1 m) r19.2
                      else
                        F12_u22 n a0 a1 ii8 r12 r15 r16 (F12_l9 n a0 a1 m) r19.2
                    else
                      F12_u22 n a0 a1 ii8 r12 r15 r16 (F12_l9 n a0 a1 m) r19.2
                else
                  if r16.1.a0.On then
                    if !(r12.1.a0.On) then
                      if r16.1.a0.Session == r12.1.a0.Session then
                        some false
                      else
                        F12_u22 n a0 a1 ii8 r12 r15 r16 (F12_l9 n a0 a1 m) r16.2
                    else
                      F12_u22 n a0 a1 ii8 r12 r15 r16 (F12_l9 n a0 a1 m) r16.2
                  else
                    F12_u22 n a0 a1 ii8 r12 r15 r16 (F12_l9 n a0 a1 m) r16.2
          else
            if decide (r16.1.a0.Session < r12.1.a0.Session) then
              some false
            else
              if !(r16.1.a0.On) then
                (F42 n r16.2 0 a1).bind fun (r20 : (Bool × Book)) =>
                if r20.1 then
                  some false
                else
                  if r16.1.a0.On then
                    if !(r12.1.a0.On) then
                      if r16.1.a0.Session == r12.1.a0.Session then
                        some false
                      else
                        F12_u22 n a0 a1 ii8 r12 r15 r16 (F12_l9 n a0 a1 m) r20.2
                    else
                      F12_u22 n a0 a1 ii8 r12 r15 r16 (F12_l9 n a0 a1 m) r20.2
                  else
                    F12_u22 n a0 a1 ii8 r12 r15 r16 (F12_l9 n a0 a1 m) r20.2
              else
                if r16.1.a0.On then
                  if !(r12.1.a0.On) then
                    if r16.1.a0.Session == r12.1.a0.Session then
                      some false
                    else
                      F12_u22 n a0 a1 ii8 r12 r15 r16 (F12_l9 n a0 a1 m) r16.2
                  else
                    F12_u22 n a0 a1 ii8 r12 r15 r16 (F12_l9 n a0 a1 m) r16.2
                else
                  F12_u22 n a0 a1 ii8 r12 r15 r16 (F12_l9 n a0 a1 m) r16.2
    else
      some true
theorem F12_l9_ok (n : Nat) (a0 : (List Step)) (a1 : Point) : ∀ (m : Nat) (g7 : Book) (ii8 : Int), SimL Try.prog D (n + 8) m pc12_c60 [(0, .one (vw Step.cod a0)), (3, .one (.ptr 3 0)), (5, .one (.ptr 300000 0)), (6, .one (li .i64 ii8))] [(3, some (.cells [li .i64 a1.X, li .i64 a1.Y])), (300000, some (.cells (A4_Watch.cells g7.l)))] (F12_l9 n a0 a1 m g7 ii8) (QB 0 (QT Try.prog D (n + 8) pc12_c66 (QF false pc12_r 0 F12_e))) := by
  intro m_l9
  induction m_l9 with
  | zero => intro g7 ii8; exact SimL.zero'  rfl
  | succ m_l9 ih_l9 =>
    intro g7 ii8
    refine SimL.succ ?_
    unfold F12_l9
    refine Sim.seq ?_
    refine Sim.seq ?_
    refine Sim.region [(0, .one (vw Step.cod a0)), (3, .one (.ptr 3 0)), (5, .one (.ptr 300000 0)), (6, .one (li .i64 ii8))] [(3, some (.cells [li .i64 a1.X, li .i64 a1.Y])), (300000, some (.cells (A4_Watch.cells g7.l)))] (by kernel_rfl) ?_
    refine SimI.run 4 [(20, .one (lb (decide (ii8 < ((a0).length : Int))))), (19, .one (li .i64 ((a0).length : Int))), (18, .one (vw Step.cod a0)), (17, .one (li .i64 ii8))] [] (by kernel_rfl) ?_
    refine SimI.done (by kernel_rfl) ?_
    refine SimE.thenN ?_
    refine Sim.cond (decide (ii8 < ((a0).length : Int))) (by kernel_rfl) ?_ ?_
    · refine Sim.skip ?_
      refine SimE.thenN ?_
      refine Sim.seq ?_
      refine Sim.block ?_
      refine Sim.seq ?_
      refine Sim.seq ?_
      refine Sim.region0 ?_
      refine SimI.run 2 [(24, .one (li .i64 ii8)), (23, .one (vw Step.cod a0))] [] (by kernel_rfl) ?_
      refine SimI.bind (og := ix a0 ii8) { dst := some 25, op := POp.iaddrS 23 (Operand.tmp 23) (Operand.tmp 24), guard := none, hints := [] } (fun x10 => [(25, .one (.eptr (Step.cod.enc x10) 0))]) (fun x10 => []) (by kernel_rfl) (fun x10 hr => pOp_eff (by kernel_rfl) (by kernel_rfl) (eff_idx (c := Step.cod) (l := a0) (k := .i64) (n := ii8) (by kernel_rfl) (by kernel_rfl) (by kernel_rfl) hr)) (fun x10 => ?_)
      refine SimI.run 2 [(27, .agg (Command.cells x10.C)), (26, .one (.eptr (Step.cod.enc x10) 0))] [] (by kernel_rfl) ?_
      refine SimI.bind (og := F37 n x10.C) { dst := some 28, op := POp.call true [[]] 37 [Operand.tmp 27], guard := none, hints := [] } (fun r11 => [(28, .one (lb r11))]) (fun r11 => []) (by kernel_rfl) (fun r11 hr => pOp_eff (by kernel_rfl) (by kernel_rfl) (eff_call (ARGS := [.agg (Command.cells x10.C)]) (by kernel_rfl) (args_clean (by kernel_rfl) args_nil) (F37_ok n x10.C r11 hr) (by kernel_rfl))) (fun r11 => ?_)
      refine SimI.run 1 [(29, .one (lb (!(r11))))] [] (by kernel_rfl) ?_
      refine SimI.done (by kernel_rfl) ?_
      refine SimE.thenN ?_
      refine Sim.cond (!(r11)) (by kernel_rfl) ?_ ?_
      · refine Sim.seq ?_
        refine Sim.region0 ?_
        refine SimI.run 1 [(4, .one (lb true))] [] (by kernel_rfl) ?_
        refine SimI.done (by kernel_rfl) ?_
        refine SimE.thenN ?_
        refine Sim.ret ?_
        refine SimE.thenR ?_
        refine SimE.blockR ?_
        refine SimE.thenR ?_
        refine SimE.loopR ?_
        refine SimE.blockR ?_
        refine SimE.thenR ?_
        exact SimE.fin (by kernel_rfl)
      · refine Sim.skip ?_
        refine SimE.thenN ?_
        refine Sim.seq ?_
        refine Sim.region0 ?_
        refine SimI.run 1 [(30, .one (.ptr 300000 0))] [] (by kernel_rfl) ?_
        refine SimI.bind (og := F41 n g7) { dst := some 31, op := POp.call true [[]] 41 [Operand.tmp 30], guard := none, hints := [] } (fun r12 => [(31, .agg (A4_Watch.cells r12.1))]) (fun r12 => [(300000, some (.cells (A4_Watch.cells r12.2.l)))]) (by kernel_rfl) (fun r12 hr => pOp_eff (by kernel_rfl) (by kernel_rfl) (eff_callp (ARGS := [.one (.ptr 300000 0)]) (ARGS' := [.one (.ptr 1000000 0)]) (ks := [300000]) (os := [(A4_Watch.cells g7.l)]) (os' := [(A4_Watch.cells r12.2.l)]) (by kernel_rfl) (args_ptr (by kernel_rfl) args_nil) rfl (by kernel_rfl) (F41_ok n g7 r12 hr) (by kernel_rfl) (by kernel_rfl))) (fun r12 => ?_)
        refine SimI.run 2 [(7, .one (.ptr 7 0))] [(7, some (.cells (A4_Watch.cells r12.1))), (7, some (.cells [lb false, li .i64 0, li .i64 0, li .i64 0, li .i64 0, li .i64 0, li .i64 0, lb false, li .i64 0, li .i64 0, li .i64 0, li .i64 0, li .i64 0, li .i64 0, lb false, li .i64 0, li .i64 0, li .i64 0, li .i64 0, li .i64 0, li .i64 0, lb false, li .i64 0, li .i64 0, li .i64 0, li .i64 0, li .i64 0, li .i64 0]))] (by kernel_rfl) ?_
        refine SimI.done (by kernel_rfl) ?_
        refine SimE.thenN ?_
        refine Sim.seq ?_
        refine Sim.region0 ?_
        refine SimI.run 3 [(34, .one (li .i64 ii8)), (33, .one (vw Step.cod a0)), (32, .one (.ptr 300000 0))] [] (by kernel_rfl) ?_
        refine SimI.bind (og := ix a0 ii8) { dst := some 35, op := POp.iaddrS 23 (Operand.tmp 33) (Operand.tmp 34), guard := none, hints := [(33, Hint.imm), (34, Hint.imm)] } (fun x13 => [(35, .one (.eptr (Step.cod.enc x13) 0))]) (fun x13 => []) (by kernel_rfl) (fun x13 hr => pOp_eff (by kernel_rfl) (by kernel_rfl) (eff_idx (c := Step.cod) (l := a0) (k := .i64) (n := ii8) (by kernel_rfl) (by kernel_rfl) (by kernel_rfl) hr)) (fun x13 => ?_)
        refine SimI.run 4 [(39, .one (li .i64 ii8)), (38, .one (vw Step.cod a0)), (37, .agg (Command.cells x13.C)), (36, .one (.eptr (Step.cod.enc x13) 0))] [] (by kernel_rfl) ?_
        refine SimI.bind (og := ix a0 ii8) { dst := some 40, op := POp.iaddrS 23 (Operand.tmp 38) (Operand.tmp 39), guard := none, hints := [(38, Hint.imm), (39, Hint.imm)] } (fun x14 => [(40, .one (.eptr (Step.cod.enc x14) 0))]) (fun x14 => []) (by kernel_rfl) (fun x14 hr => pOp_eff (by kernel_rfl) (by kernel_rfl) (eff_idx (c := Step.cod) (l := a0) (k := .i64) (n := ii8) (by kernel_rfl) (by kernel_rfl) (by kernel_rfl) hr)) (fun x14 => ?_)
        refine SimI.run 2 [(42, .one (li .i64 x14.Beat)), (41, .one (.eptr (Step.cod.enc x14) 22))] [] (by kernel_rfl) ?_
        refine SimI.bind (og := F39 n r12.2 x13.C x14.Beat) { dst := some 43, op := POp.call true [[], [], []] 39 [Operand.tmp 32, Operand.tmp 37, Operand.tmp 42], guard := none, hints := [(32, Hint.at_ 300000 0), (37, Hint.imm), (42, Hint.imm)] } (fun r15 => [(43, .one (li .i64 r15.1))]) (fun r15 => [(300000, some (.cells (A4_Watch.cells r15.2.l)))]) (by kernel_rfl) (fun r15 hr => pOp_eff (by kernel_rfl) (by kernel_rfl) (eff_callp (ARGS := [.one (.ptr 300000 0), .agg (Command.cells x13.C), .one (li .i64 x14.Beat)]) (ARGS' := [.one (.ptr 1000000 0), .agg (Command.cells x13.C), .one (li .i64 x14.Beat)]) (ks := [300000]) (os := [(A4_Watch.cells r12.2.l)]) (os' := [(A4_Watch.cells r15.2.l)]) (by kernel_rfl) (args_ptr (by kernel_rfl) (args_clean (by kernel_rfl) (args_clean (by kernel_rfl) args_nil))) rfl (by kernel_rfl) (F39_ok n r12.2 x13.C x14.Beat r15 hr) (by kernel_rfl) (by kernel_rfl))) (fun r15 => ?_)
        refine SimI.run 1 [(8, .one (li .i64 r15.1))] [] (by kernel_rfl) ?_
        refine SimI.done (by kernel_rfl) ?_
        refine SimE.thenN ?_
        refine Sim.seq ?_
        refine Sim.region0 ?_
        refine SimI.run 1 [(44, .one (.ptr 300000 0))] [] (by kernel_rfl) ?_
        refine SimI.bind (og := F41 n r15.2) { dst := some 45, op := POp.call true [[]] 41 [Operand.tmp 44], guard := none, hints := [] } (fun r16 => [(45, .agg (A4_Watch.cells r16.1))]) (fun r16 => [(300000, some (.cells (A4_Watch.cells r16.2.l)))]) (by kernel_rfl) (fun r16 hr => pOp_eff (by kernel_rfl) (by kernel_rfl) (eff_callp (ARGS := [.one (.ptr 300000 0)]) (ARGS' := [.one (.ptr 1000000 0)]) (ks := [300000]) (os := [(A4_Watch.cells r15.2.l)]) (os' := [(A4_Watch.cells r16.2.l)]) (by kernel_rfl) (args_ptr (by kernel_rfl) args_nil) rfl (by kernel_rfl) (F41_ok n r15.2 r16 hr) (by kernel_rfl) (by kernel_rfl))) (fun r16 => ?_)
        refine SimI.run 2 [(9, .one (.ptr 9 0))] [(9, some (.cells (A4_Watch.cells r16.1))), (9, some (.cells [lb false, li .i64 0, li .i64 0, li .i64 0, li .i64 0, li .i64 0, li .i64 0, lb false, li .i64 0, li .i64 0, li .i64 0, li .i64 0, li .i64 0, li .i64 0, lb false, li .i64 0, li .i64 0, li .i64 0, li .i64 0, li .i64 0, li .i64 0, lb false, li .i64 0, li .i64 0, li .i64 0, li .i64 0, li .i64 0, li .i64 0]))] (by kernel_rfl) ?_
        refine SimI.done (by kernel_rfl) ?_
        refine SimE.thenN ?_
        refine Sim.seq ?_
        refine Sim.region0 ?_
        refine SimI.run 1 [(10, .one (li .i64 0))] [] (by kernel_rfl) ?_
        refine SimI.done (by kernel_rfl) ?_
        refine SimE.thenN ?_
        refine Sim.block ?_
        refine Sim.loop ?_
        refine SimL.succ ?_
        refine Sim.seq ?_
        refine Sim.seq ?_
        refine Sim.region [(0, .one (vw Step.cod a0)), (3, .one (.ptr 3 0)), (5, .one (.ptr 300000 0)), (6, .one (li .i64 ii8)), (7, .one (.ptr 7 0)), (8, .one (li .i64 r15.1)), (9, .one (.ptr 9 0)), (10, .one (li .i64 0))] [(3, some (.cells [li .i64 a1.X, li .i64 a1.Y])), (7, some (.cells (A4_Watch.cells r12.1))), (9, some (.cells (A4_Watch.cells r16.1))), (300000, some (.cells (A4_Watch.cells r16.2.l)))] (by kernel_rfl) ?_
        refine SimI.run 2 [(47, .one (lb true)), (46, .one (li .i64 0))] [] (by kernel_rfl) ?_
        refine SimI.done (by kernel_rfl) ?_
        refine SimE.thenN ?_
        refine Sim.condT (by kernel_rfl) ?_
        refine Sim.skip ?_
        refine SimE.thenN ?_
        refine Sim.seq ?_
        refine Sim.block ?_
        refine Sim.seq ?_
        refine Sim.region0 ?_
        refine SimI.run 3 [(52, .one (lb (r15.1 != 0))), (51, .one (lb (r15.1 != 0))), (50, .one (li .i64 r15.1))] [] (by kernel_rfl) ?_
        refine SimI.split 52 (r15.1 != 0) (by kernel_rfl) ?_ ?_
        · refine SimI.run 16 [(68, .agg (Watch.cells r12.1.a0)), (67, .one (.ptr 7 0)), (66, .one (li .i64 0)), (65, .agg (Watch.cells r16.1.a0)), (64, .one (.ptr 9 0)), (63, .one (li .i64 0)), (62, .one (lb true)), (61, .one (lb true)), (60, .tup []), (59, .tup []), (58, .tup []), (57, .tup []), (56, .tup []), (55, .tup []), (54, .tup []), (53, .tup [])] [] (by kernel_rfl) ?_
          refine SimI.step { dst := some 69, op := POp.prim (Prim.bin BinOp.neq 68 false false) [Operand.tmp 65, Operand.tmp 68], guard := some (62, true), hints := [(65, Hint.imm), (68, Hint.imm)] } [(69, .one (lb (!(Watch.eqb r16.1.a0 r12.1.a0))))] [] (by kernel_rfl) (pOp_eff (by kernel_rfl) (by kernel_rfl) (eff_prim (by kernel_rfl) (Watch_eqn r16.1.a0 r12.1.a0 _ _))) ?_
          refine SimI.run 2 [(71, .one (lb (!(Watch.eqb r16.1.a0 r12.1.a0)))), (70, .one (lb (!(Watch.eqb r16.1.a0 r12.1.a0))))] [] (by kernel_rfl) ?_
          refine SimI.split 71 (!(Watch.eqb r16.1.a0 r12.1.a0)) (by kernel_rfl) ?_ ?_
          · refine SimI.run 47 [(118, .one (lb true)), (117, .tup []), (116, .tup []), (115, .tup []), (114, .tup []), (113, .tup []), (112, .tup []), (111, .tup []), (110, .tup []), (109, .tup []), (108, .tup []), (107, .tup []), (106, .tup []), (105, .tup []), (104, .tup []), (103, .tup []), (102, .tup []), (101, .tup []), (100, .tup []), (99, .tup []), (98, .tup []), (97, .tup []), (96, .tup []), (95, .one (lb true)), (94, .one (lb true)), (93, .tup []), (92, .tup []), (91, .tup []), (90, .tup []), (89, .tup []), (88, .tup []), (87, .tup []), (86, .tup []), (85, .tup []), (84, .tup []), (83, .tup []), (82, .one (lb true)), (81, .one (lb true)), (80, .tup []), (79, .tup []), (78, .tup []), (77, .tup []), (76, .tup []), (75, .tup []), (74, .tup []), (73, .tup []), (72, .tup [])] [] (by kernel_rfl) ?_
            refine SimI.done (by kernel_rfl) ?_
            refine SimE.thenN ?_
            refine Sim.condT (by kernel_rfl) ?_
            refine Sim.seq ?_
            refine Sim.region0 ?_
            refine SimI.run 1 [(4, .one (lb false))] [] (by kernel_rfl) ?_
            refine SimI.done (by kernel_rfl) ?_
            refine SimE.thenN ?_
            refine Sim.ret ?_
            refine SimE.blockR ?_
            refine SimE.thenR ?_
            refine SimE.loopR ?_
            refine SimE.blockR ?_
            refine SimE.blockR ?_
            refine SimE.thenR ?_
            refine SimE.loopR ?_
            refine SimE.blockR ?_
            refine SimE.thenR ?_
            exact SimE.fin (by kernel_rfl)
          · refine SimI.run 11 [(82, .one (lb (decide (r16.1.a0.Session < r12.1.a0.Session)))), (81, .one (lb (decide (r16.1.a0.Session < r12.1.a0.Session)))), (80, .one (lb (decide (r16.1.a0.Session < r12.1.a0.Session)))), (79, .one (li .i64 r12.1.a0.Session)), (78, .one (.ptr 7 1)), (77, .one (.ptr 7 0)), (76, .one (li .i64 0)), (75, .one (li .i64 r16.1.a0.Session)), (74, .one (.ptr 9 1)), (73, .one (.ptr 9 0)), (72, .one (li .i64 0))] [] (by kernel_rfl) ?_
            refine SimI.split 82 (decide (r16.1.a0.Session < r12.1.a0.Session)) (by kernel_rfl) ?_ ?_
            · refine SimI.run 36 [(118, .one (lb true)), (117, .tup []), (116, .tup []), (115, .tup []), (114, .tup []), (113, .tup []), (112, .tup []), (111, .tup []), (110, .tup []), (109, .tup []), (108, .tup []), (107, .tup []), (106, .tup []), (105, .tup []), (104, .tup []), (103, .tup []), (102, .tup []), (101, .tup []), (100, .tup []), (99, .tup []), (98, .tup []), (97, .tup []), (96, .tup []), (95, .one (lb true)), (94, .one (lb true)), (93, .tup []), (92, .tup []), (91, .tup []), (90, .tup []), (89, .tup []), (88, .tup []), (87, .tup []), (86, .tup []), (85, .tup []), (84, .tup []), (83, .tup [])] [] (by kernel_rfl) ?_
              refine SimI.done (by kernel_rfl) ?_
              refine SimE.thenN ?_
              refine Sim.condT (by kernel_rfl) ?_
              refine Sim.seq ?_
              refine Sim.region0 ?_
              refine SimI.run 1 [(4, .one (lb false))] [] (by kernel_rfl) ?_
              refine SimI.done (by kernel_rfl) ?_
              refine SimE.thenN ?_
              refine Sim.ret ?_
              refine SimE.blockR ?_
              refine SimE.thenR ?_
              refine SimE.loopR ?_
              refine SimE.blockR ?_
              refine SimE.blockR ?_
              refine SimE.thenR ?_
              refine SimE.loopR ?_
              refine SimE.blockR ?_
              refine SimE.thenR ?_
              exact SimE.fin (by kernel_rfl)
            · refine SimI.run 6 [(88, .one (lb (!(r16.1.a0.On)))), (87, .one (lb (!(r16.1.a0.On)))), (86, .one (lb r16.1.a0.On)), (85, .one (.ptr 9 0)), (84, .one (.ptr 9 0)), (83, .one (li .i64 0))] [] (by kernel_rfl) ?_
              refine SimI.split 88 (!(r16.1.a0.On)) (by kernel_rfl) ?_ ?_
              · refine SimI.run 3 [(91, .agg [li .i64 a1.X, li .i64 a1.Y]), (90, .one (li .i64 0)), (89, .one (.ptr 300000 0))] [] (by kernel_rfl) ?_
                refine SimI.bind (og := F42 n r16.2 0 a1) { dst := some 92, op := POp.call true [[], [], []] 42 [Operand.tmp 89, Operand.tmp 90, Operand.tmp 91], guard := some (88, true), hints := [(89, Hint.at_ 300000 0), (90, Hint.imm), (91, Hint.imm)] } (fun r17 => [(92, .one (lb r17.1))]) (fun r17 => [(300000, some (.cells (A4_Watch.cells r17.2.l)))]) (by kernel_rfl) (fun r17 hr => pOp_eff (by kernel_rfl) (by kernel_rfl) (eff_callp (ARGS := [.one (.ptr 300000 0), .one (li .i64 0), .agg [li .i64 a1.X, li .i64 a1.Y]]) (ARGS' := [.one (.ptr 1000000 0), .one (li .i64 0), .agg [li .i64 a1.X, li .i64 a1.Y]]) (ks := [300000]) (os := [(A4_Watch.cells r16.2.l)]) (os' := [(A4_Watch.cells r17.2.l)]) (by kernel_rfl) (args_ptr (by kernel_rfl) (args_clean (by kernel_rfl) (args_clean (by kernel_rfl) args_nil))) rfl (by kernel_rfl) (F42_ok n r16.2 0 a1 r17 hr) (by kernel_rfl) (by kernel_rfl))) (fun r17 => ?_)
                refine SimI.run 3 [(95, .one (lb r17.1)), (94, .one (lb r17.1)), (93, .one (lb r17.1))] [] (by kernel_rfl) ?_
                refine SimI.split 95 r17.1 (by kernel_rfl) ?_ ?_
                · refine SimI.run 23 [(118, .one (lb true)), (117, .tup []), (116, .tup []), (115, .tup []), (114, .tup []), (113, .tup []), (112, .tup []), (111, .tup []), (110, .tup []), (109, .tup []), (108, .tup []), (107, .tup []), (106, .tup []), (105, .tup []), (104, .tup []), (103, .tup []), (102, .tup []), (101, .tup []), (100, .tup []), (99, .tup []), (98, .tup []), (97, .tup []), (96, .tup [])] [] (by kernel_rfl) ?_
                  refine SimI.done (by kernel_rfl) ?_
                  refine SimE.thenN ?_
                  refine Sim.condT (by kernel_rfl) ?_
                  refine Sim.seq ?_
                  refine Sim.region0 ?_
                  refine SimI.run 1 [(4, .one (lb false))] [] (by kernel_rfl) ?_
                  refine SimI.done (by kernel_rfl) ?_
                  refine SimE.thenN ?_
                  refine Sim.ret ?_
                  refine SimE.blockR ?_
                  refine SimE.thenR ?_
                  refine SimE.loopR ?_
                  refine SimE.blockR ?_
                  refine SimE.blockR ?_
                  refine SimE.thenR ?_
                  refine SimE.loopR ?_
                  refine SimE.blockR ?_
                  refine SimE.thenR ?_
                  exact SimE.fin (by kernel_rfl)
                · refine SimI.run 5 [(100, .one (lb r16.1.a0.On)), (99, .one (lb r16.1.a0.On)), (98, .one (.ptr 9 0)), (97, .one (.ptr 9 0)), (96, .one (li .i64 0))] [] (by kernel_rfl) ?_
                  refine SimI.split 100 r16.1.a0.On (by kernel_rfl) ?_ ?_
                  · refine SimI.run 7 [(107, .one (lb (!(r12.1.a0.On)))), (106, .one (lb (!(r12.1.a0.On)))), (105, .one (lb (!(r12.1.a0.On)))), (104, .one (lb r12.1.a0.On)), (103, .one (.ptr 7 0)), (102, .one (.ptr 7 0)), (101, .one (li .i64 0))] [] (by kernel_rfl) ?_
                    refine SimI.split 107 (!(r12.1.a0.On)) (by kernel_rfl) ?_ ?_
                    · refine SimI.run 11 [(118, .one (lb (r16.1.a0.Session == r12.1.a0.Session))), (117, .one (lb (r16.1.a0.Session == r12.1.a0.Session))), (116, .one (lb (r16.1.a0.Session == r12.1.a0.Session))), (115, .one (li .i64 r12.1.a0.Session)), (114, .one (.ptr 7 1)), (113, .one (.ptr 7 0)), (112, .one (li .i64 0)), (111, .one (li .i64 r16.1.a0.Session)), (110, .one (.ptr 9 1)), (109, .one (.ptr 9 0)), (108, .one (li .i64 0))] [] (by kernel_rfl) ?_
                      refine SimI.done (by kernel_rfl) ?_
                      refine SimE.thenN ?_
                      refine Sim.cond (r16.1.a0.Session == r12.1.a0.Session) (by kernel_rfl) ?_ ?_
                      · refine Sim.seq ?_
                        refine Sim.region0 ?_
                        refine SimI.run 1 [(4, .one (lb false))] [] (by kernel_rfl) ?_
                        refine SimI.done (by kernel_rfl) ?_
                        refine SimE.thenN ?_
                        refine Sim.ret ?_
                        refine SimE.blockR ?_
                        refine SimE.thenR ?_
                        refine SimE.loopR ?_
                        refine SimE.blockR ?_
                        refine SimE.blockR ?_
                        refine SimE.thenR ?_
                        refine SimE.loopR ?_
                        refine SimE.blockR ?_
                        refine SimE.thenR ?_
                        exact SimE.fin (by kernel_rfl)
                      · refine Sim.skip ?_
                        refine SimE.blockN ?_
                        refine SimE.thenN ?_
                        refine Sim.region0 ?_
                        refine SimI.run 3 [(10, .one (li .i64 1)), (49, .one (li .i64 1)), (48, .one (li .i64 0))] [] (by kernel_rfl) ?_
                        refine SimI.done (by kernel_rfl) ?_
                        refine SimE.loopN ?_
                        refine SimL.pre (ts := [0, 3, 5, 6, 7, 8, 9, 10]) (os := [3, 7, 9, 300000]) (ow := []) [(0, .one (vw Step.cod a0)), (3, .one (.ptr 3 0)), (5, .one (.ptr 300000 0)), (6, .one (li .i64 ii8)), (7, .one (.ptr 7 0)), (8, .one (li .i64 r15.1)), (9, .one (.ptr 9 0)), (10, .one (li .i64 1))] [(3, some (.cells [li .i64 a1.X, li .i64 a1.Y])), (7, some (.cells (A4_Watch.cells r12.1))), (9, some (.cells (A4_Watch.cells r16.1))), (300000, some (.cells (A4_Watch.cells r17.2.l)))] (by kernel_rfl) (by kernel_rfl) (by kernel_rfl) ?_
                        exact F12_u22_ok n a0 a1 ii8 r12 r15 r16 (F12_l9 n a0 a1 m_l9) m_l9 ih_l9 r17.2
                    · refine SimI.run 11 [(118, .one (lb false)), (117, .one (lb false)), (116, .tup []), (115, .tup []), (114, .tup []), (113, .tup []), (112, .tup []), (111, .tup []), (110, .tup []), (109, .tup []), (108, .tup [])] [] (by kernel_rfl) ?_
                      refine SimI.done (by kernel_rfl) ?_
                      refine SimE.thenN ?_
                      refine Sim.condF (by kernel_rfl) ?_
                      refine Sim.skip ?_
                      refine SimE.blockN ?_
                      refine SimE.thenN ?_
                      refine Sim.region0 ?_
                      refine SimI.run 3 [(10, .one (li .i64 1)), (49, .one (li .i64 1)), (48, .one (li .i64 0))] [] (by kernel_rfl) ?_
                      refine SimI.done (by kernel_rfl) ?_
                      refine SimE.loopN ?_
                      refine SimL.pre (ts := [0, 3, 5, 6, 7, 8, 9, 10]) (os := [3, 7, 9, 300000]) (ow := []) [(0, .one (vw Step.cod a0)), (3, .one (.ptr 3 0)), (5, .one (.ptr 300000 0)), (6, .one (li .i64 ii8)), (7, .one (.ptr 7 0)), (8, .one (li .i64 r15.1)), (9, .one (.ptr 9 0)), (10, .one (li .i64 1))] [(3, some (.cells [li .i64 a1.X, li .i64 a1.Y])), (7, some (.cells (A4_Watch.cells r12.1))), (9, some (.cells (A4_Watch.cells r16.1))), (300000, some (.cells (A4_Watch.cells r17.2.l)))] (by kernel_rfl) (by kernel_rfl) (by kernel_rfl) ?_
                      exact F12_u22_ok n a0 a1 ii8 r12 r15 r16 (F12_l9 n a0 a1 m_l9) m_l9 ih_l9 r17.2
                  · refine SimI.run 18 [(118, .one (lb false)), (117, .one (lb false)), (116, .tup []), (115, .tup []), (114, .tup []), (113, .tup []), (112, .tup []), (111, .tup []), (110, .tup []), (109, .tup []), (108, .tup []), (107, .one (lb false)), (106, .one (lb false)), (105, .tup []), (104, .tup []), (103, .tup []), (102, .tup []), (101, .tup [])] [] (by kernel_rfl) ?_
                    refine SimI.done (by kernel_rfl) ?_
                    refine SimE.thenN ?_
                    refine Sim.condF (by kernel_rfl) ?_
                    refine Sim.skip ?_
                    refine SimE.blockN ?_
                    refine SimE.thenN ?_
                    refine Sim.region0 ?_
                    refine SimI.run 3 [(10, .one (li .i64 1)), (49, .one (li .i64 1)), (48, .one (li .i64 0))] [] (by kernel_rfl) ?_
                    refine SimI.done (by kernel_rfl) ?_
                    refine SimE.loopN ?_
                    refine SimL.pre (ts := [0, 3, 5, 6, 7, 8, 9, 10]) (os := [3, 7, 9, 300000]) (ow := []) [(0, .one (vw Step.cod a0)), (3, .one (.ptr 3 0)), (5, .one (.ptr 300000 0)), (6, .one (li .i64 ii8)), (7, .one (.ptr 7 0)), (8, .one (li .i64 r15.1)), (9, .one (.ptr 9 0)), (10, .one (li .i64 1))] [(3, some (.cells [li .i64 a1.X, li .i64 a1.Y])), (7, some (.cells (A4_Watch.cells r12.1))), (9, some (.cells (A4_Watch.cells r16.1))), (300000, some (.cells (A4_Watch.cells r17.2.l)))] (by kernel_rfl) (by kernel_rfl) (by kernel_rfl) ?_
                    exact F12_u22_ok n a0 a1 ii8 r12 r15 r16 (F12_l9 n a0 a1 m_l9) m_l9 ih_l9 r17.2
              · refine SimI.run 12 [(100, .one (lb r16.1.a0.On)), (99, .one (lb r16.1.a0.On)), (98, .one (.ptr 9 0)), (97, .one (.ptr 9 0)), (96, .one (li .i64 0)), (95, .one (lb false)), (94, .one (lb false)), (93, .one (lb false)), (92, .tup []), (91, .tup []), (90, .tup []), (89, .tup [])] [] (by kernel_rfl) ?_
                refine SimI.split 100 r16.1.a0.On (by kernel_rfl) ?_ ?_
                · refine SimI.run 7 [(107, .one (lb (!(r12.1.a0.On)))), (106, .one (lb (!(r12.1.a0.On)))), (105, .one (lb (!(r12.1.a0.On)))), (104, .one (lb r12.1.a0.On)), (103, .one (.ptr 7 0)), (102, .one (.ptr 7 0)), (101, .one (li .i64 0))] [] (by kernel_rfl) ?_
                  refine SimI.split 107 (!(r12.1.a0.On)) (by kernel_rfl) ?_ ?_
                  · refine SimI.run 11 [(118, .one (lb (r16.1.a0.Session == r12.1.a0.Session))), (117, .one (lb (r16.1.a0.Session == r12.1.a0.Session))), (116, .one (lb (r16.1.a0.Session == r12.1.a0.Session))), (115, .one (li .i64 r12.1.a0.Session)), (114, .one (.ptr 7 1)), (113, .one (.ptr 7 0)), (112, .one (li .i64 0)), (111, .one (li .i64 r16.1.a0.Session)), (110, .one (.ptr 9 1)), (109, .one (.ptr 9 0)), (108, .one (li .i64 0))] [] (by kernel_rfl) ?_
                    refine SimI.done (by kernel_rfl) ?_
                    refine SimE.thenN ?_
                    refine Sim.cond (r16.1.a0.Session == r12.1.a0.Session) (by kernel_rfl) ?_ ?_
                    · refine Sim.seq ?_
                      refine Sim.region0 ?_
                      refine SimI.run 1 [(4, .one (lb false))] [] (by kernel_rfl) ?_
                      refine SimI.done (by kernel_rfl) ?_
                      refine SimE.thenN ?_
                      refine Sim.ret ?_
                      refine SimE.blockR ?_
                      refine SimE.thenR ?_
                      refine SimE.loopR ?_
                      refine SimE.blockR ?_
                      refine SimE.blockR ?_
                      refine SimE.thenR ?_
                      refine SimE.loopR ?_
                      refine SimE.blockR ?_
                      refine SimE.thenR ?_
                      exact SimE.fin (by kernel_rfl)
                    · refine Sim.skip ?_
                      refine SimE.blockN ?_
                      refine SimE.thenN ?_
                      refine Sim.region0 ?_
                      refine SimI.run 3 [(10, .one (li .i64 1)), (49, .one (li .i64 1)), (48, .one (li .i64 0))] [] (by kernel_rfl) ?_
                      refine SimI.done (by kernel_rfl) ?_
                      refine SimE.loopN ?_
                      refine SimL.pre (ts := [0, 3, 5, 6, 7, 8, 9, 10]) (os := [3, 7, 9, 300000]) (ow := []) [(0, .one (vw Step.cod a0)), (3, .one (.ptr 3 0)), (5, .one (.ptr 300000 0)), (6, .one (li .i64 ii8)), (7, .one (.ptr 7 0)), (8, .one (li .i64 r15.1)), (9, .one (.ptr 9 0)), (10, .one (li .i64 1))] [(3, some (.cells [li .i64 a1.X, li .i64 a1.Y])), (7, some (.cells (A4_Watch.cells r12.1))), (9, some (.cells (A4_Watch.cells r16.1))), (300000, some (.cells (A4_Watch.cells r16.2.l)))] (by kernel_rfl) (by kernel_rfl) (by kernel_rfl) ?_
                      exact F12_u22_ok n a0 a1 ii8 r12 r15 r16 (F12_l9 n a0 a1 m_l9) m_l9 ih_l9 r16.2
                  · refine SimI.run 11 [(118, .one (lb false)), (117, .one (lb false)), (116, .tup []), (115, .tup []), (114, .tup []), (113, .tup []), (112, .tup []), (111, .tup []), (110, .tup []), (109, .tup []), (108, .tup [])] [] (by kernel_rfl) ?_
                    refine SimI.done (by kernel_rfl) ?_
                    refine SimE.thenN ?_
                    refine Sim.condF (by kernel_rfl) ?_
                    refine Sim.skip ?_
                    refine SimE.blockN ?_
                    refine SimE.thenN ?_
                    refine Sim.region0 ?_
                    refine SimI.run 3 [(10, .one (li .i64 1)), (49, .one (li .i64 1)), (48, .one (li .i64 0))] [] (by kernel_rfl) ?_
                    refine SimI.done (by kernel_rfl) ?_
                    refine SimE.loopN ?_
                    refine SimL.pre (ts := [0, 3, 5, 6, 7, 8, 9, 10]) (os := [3, 7, 9, 300000]) (ow := []) [(0, .one (vw Step.cod a0)), (3, .one (.ptr 3 0)), (5, .one (.ptr 300000 0)), (6, .one (li .i64 ii8)), (7, .one (.ptr 7 0)), (8, .one (li .i64 r15.1)), (9, .one (.ptr 9 0)), (10, .one (li .i64 1))] [(3, some (.cells [li .i64 a1.X, li .i64 a1.Y])), (7, some (.cells (A4_Watch.cells r12.1))), (9, some (.cells (A4_Watch.cells r16.1))), (300000, some (.cells (A4_Watch.cells r16.2.l)))] (by kernel_rfl) (by kernel_rfl) (by kernel_rfl) ?_
                    exact F12_u22_ok n a0 a1 ii8 r12 r15 r16 (F12_l9 n a0 a1 m_l9) m_l9 ih_l9 r16.2
                · refine SimI.run 18 [(118, .one (lb false)), (117, .one (lb false)), (116, .tup []), (115, .tup []), (114, .tup []), (113, .tup []), (112, .tup []), (111, .tup []), (110, .tup []), (109, .tup []), (108, .tup []), (107, .one (lb false)), (106, .one (lb false)), (105, .tup []), (104, .tup []), (103, .tup []), (102, .tup []), (101, .tup [])] [] (by kernel_rfl) ?_
                  refine SimI.done (by kernel_rfl) ?_
                  refine SimE.thenN ?_
                  refine Sim.condF (by kernel_rfl) ?_
                  refine Sim.skip ?_
                  refine SimE.blockN ?_
                  refine SimE.thenN ?_
                  refine Sim.region0 ?_
                  refine SimI.run 3 [(10, .one (li .i64 1)), (49, .one (li .i64 1)), (48, .one (li .i64 0))] [] (by kernel_rfl) ?_
                  refine SimI.done (by kernel_rfl) ?_
                  refine SimE.loopN ?_
                  refine SimL.pre (ts := [0, 3, 5, 6, 7, 8, 9, 10]) (os := [3, 7, 9, 300000]) (ow := []) [(0, .one (vw Step.cod a0)), (3, .one (.ptr 3 0)), (5, .one (.ptr 300000 0)), (6, .one (li .i64 ii8)), (7, .one (.ptr 7 0)), (8, .one (li .i64 r15.1)), (9, .one (.ptr 9 0)), (10, .one (li .i64 1))] [(3, some (.cells [li .i64 a1.X, li .i64 a1.Y])), (7, some (.cells (A4_Watch.cells r12.1))), (9, some (.cells (A4_Watch.cells r16.1))), (300000, some (.cells (A4_Watch.cells r16.2.l)))] (by kernel_rfl) (by kernel_rfl) (by kernel_rfl) ?_
                  exact F12_u22_ok n a0 a1 ii8 r12 r15 r16 (F12_l9 n a0 a1 m_l9) m_l9 ih_l9 r16.2
        · refine SimI.run 3 [(55, .one (li .i64 ii8)), (54, .one (vw Step.cod a0)), (53, .one (li .i64 0))] [] (by kernel_rfl) ?_
          refine SimI.bind (og := ix a0 ii8) { dst := some 56, op := POp.iaddrS 23 (Operand.tmp 54) (Operand.tmp 55), guard := some (52, false), hints := [(54, Hint.imm), (55, Hint.imm)] } (fun x18 => [(56, .one (.eptr (Step.cod.enc x18) 0))]) (fun x18 => []) (by kernel_rfl) (fun x18 hr => pOp_eff (by kernel_rfl) (by kernel_rfl) (eff_idx (c := Step.cod) (l := a0) (k := .i64) (n := ii8) (by kernel_rfl) (by kernel_rfl) (by kernel_rfl) hr)) (fun x18 => ?_)
          refine SimI.run 6 [(62, .one (lb ((0 : Int) != x18.C.Client))), (61, .one (lb ((0 : Int) != x18.C.Client))), (60, .one (lb ((0 : Int) != x18.C.Client))), (59, .one (li .i64 x18.C.Client)), (58, .one (.eptr (Step.cod.enc x18) 16)), (57, .one (.eptr (Step.cod.enc x18) 0))] [] (by kernel_rfl) ?_
          refine SimI.split 62 ((0 : Int) != x18.C.Client) (by kernel_rfl) ?_ ?_
          · refine SimI.run 6 [(68, .agg (Watch.cells r12.1.a0)), (67, .one (.ptr 7 0)), (66, .one (li .i64 0)), (65, .agg (Watch.cells r16.1.a0)), (64, .one (.ptr 9 0)), (63, .one (li .i64 0))] [] (by kernel_rfl) ?_
            refine SimI.step { dst := some 69, op := POp.prim (Prim.bin BinOp.neq 68 false false) [Operand.tmp 65, Operand.tmp 68], guard := some (62, true), hints := [(65, Hint.imm), (68, Hint.imm)] } [(69, .one (lb (!(Watch.eqb r16.1.a0 r12.1.a0))))] [] (by kernel_rfl) (pOp_eff (by kernel_rfl) (by kernel_rfl) (eff_prim (by kernel_rfl) (Watch_eqn r16.1.a0 r12.1.a0 _ _))) ?_
            refine SimI.run 2 [(71, .one (lb (!(Watch.eqb r16.1.a0 r12.1.a0)))), (70, .one (lb (!(Watch.eqb r16.1.a0 r12.1.a0))))] [] (by kernel_rfl) ?_
            refine SimI.split 71 (!(Watch.eqb r16.1.a0 r12.1.a0)) (by kernel_rfl) ?_ ?_
            · refine SimI.run 47 [(118, .one (lb true)), (117, .tup []), (116, .tup []), (115, .tup []), (114, .tup []), (113, .tup []), (112, .tup []), (111, .tup []), (110, .tup []), (109, .tup []), (108, .tup []), (107, .tup []), (106, .tup []), (105, .tup []), (104, .tup []), (103, .tup []), (102, .tup []), (101, .tup []), (100, .tup []), (99, .tup []), (98, .tup []), (97, .tup []), (96, .tup []), (95, .one (lb true)), (94, .one (lb true)), (93, .tup []), (92, .tup []), (91, .tup []), (90, .tup []), (89, .tup []), (88, .tup []), (87, .tup []), (86, .tup []), (85, .tup []), (84, .tup []), (83, .tup []), (82, .one (lb true)), (81, .one (lb true)), (80, .tup []), (79, .tup []), (78, .tup []), (77, .tup []), (76, .tup []), (75, .tup []), (74, .tup []), (73, .tup []), (72, .tup [])] [] (by kernel_rfl) ?_
              refine SimI.done (by kernel_rfl) ?_
              refine SimE.thenN ?_
              refine Sim.condT (by kernel_rfl) ?_
              refine Sim.seq ?_
              refine Sim.region0 ?_
              refine SimI.run 1 [(4, .one (lb false))] [] (by kernel_rfl) ?_
              refine SimI.done (by kernel_rfl) ?_
              refine SimE.thenN ?_
              refine Sim.ret ?_
              refine SimE.blockR ?_
              refine SimE.thenR ?_
              refine SimE.loopR ?_
              refine SimE.blockR ?_
              refine SimE.blockR ?_
              refine SimE.thenR ?_
              refine SimE.loopR ?_
              refine SimE.blockR ?_
              refine SimE.thenR ?_
              exact SimE.fin (by kernel_rfl)
            · refine SimI.run 11 [(82, .one (lb (decide (r16.1.a0.Session < r12.1.a0.Session)))), (81, .one (lb (decide (r16.1.a0.Session < r12.1.a0.Session)))), (80, .one (lb (decide (r16.1.a0.Session < r12.1.a0.Session)))), (79, .one (li .i64 r12.1.a0.Session)), (78, .one (.ptr 7 1)), (77, .one (.ptr 7 0)), (76, .one (li .i64 0)), (75, .one (li .i64 r16.1.a0.Session)), (74, .one (.ptr 9 1)), (73, .one (.ptr 9 0)), (72, .one (li .i64 0))] [] (by kernel_rfl) ?_
              refine SimI.split 82 (decide (r16.1.a0.Session < r12.1.a0.Session)) (by kernel_rfl) ?_ ?_
              · refine SimI.run 36 [(118, .one (lb true)), (117, .tup []), (116, .tup []), (115, .tup []), (114, .tup []), (113, .tup []), (112, .tup []), (111, .tup []), (110, .tup []), (109, .tup []), (108, .tup []), (107, .tup []), (106, .tup []), (105, .tup []), (104, .tup []), (103, .tup []), (102, .tup []), (101, .tup []), (100, .tup []), (99, .tup []), (98, .tup []), (97, .tup []), (96, .tup []), (95, .one (lb true)), (94, .one (lb true)), (93, .tup []), (92, .tup []), (91, .tup []), (90, .tup []), (89, .tup []), (88, .tup []), (87, .tup []), (86, .tup []), (85, .tup []), (84, .tup []), (83, .tup [])] [] (by kernel_rfl) ?_
                refine SimI.done (by kernel_rfl) ?_
                refine SimE.thenN ?_
                refine Sim.condT (by kernel_rfl) ?_
                refine Sim.seq ?_
                refine Sim.region0 ?_
                refine SimI.run 1 [(4, .one (lb false))] [] (by kernel_rfl) ?_
                refine SimI.done (by kernel_rfl) ?_
                refine SimE.thenN ?_
                refine Sim.ret ?_
                refine SimE.blockR ?_
                refine SimE.thenR ?_
                refine SimE.loopR ?_
                refine SimE.blockR ?_
                refine SimE.blockR ?_
                refine SimE.thenR ?_
                refine SimE.loopR ?_
                refine SimE.blockR ?_
                refine SimE.thenR ?_
                exact SimE.fin (by kernel_rfl)
              · refine SimI.run 6 [(88, .one (lb (!(r16.1.a0.On)))), (87, .one (lb (!(r16.1.a0.On)))), (86, .one (lb r16.1.a0.On)), (85, .one (.ptr 9 0)), (84, .one (.ptr 9 0)), (83, .one (li .i64 0))] [] (by kernel_rfl) ?_
                refine SimI.split 88 (!(r16.1.a0.On)) (by kernel_rfl) ?_ ?_
                · refine SimI.run 3 [(91, .agg [li .i64 a1.X, li .i64 a1.Y]), (90, .one (li .i64 0)), (89, .one (.ptr 300000 0))] [] (by kernel_rfl) ?_
                  refine SimI.bind (og := F42 n r16.2 0 a1) { dst := some 92, op := POp.call true [[], [], []] 42 [Operand.tmp 89, Operand.tmp 90, Operand.tmp 91], guard := some (88, true), hints := [(89, Hint.at_ 300000 0), (90, Hint.imm), (91, Hint.imm)] } (fun r19 => [(92, .one (lb r19.1))]) (fun r19 => [(300000, some (.cells (A4_Watch.cells r19.2.l)))]) (by kernel_rfl) (fun r19 hr => pOp_eff (by kernel_rfl) (by kernel_rfl) (eff_callp (ARGS := [.one (.ptr 300000 0), .one (li .i64 0), .agg [li .i64 a1.X, li .i64 a1.Y]]) (ARGS' := [.one (.ptr 1000000 0), .one (li .i64 0), .agg [li .i64 a1.X, li .i64 a1.Y]]) (ks := [300000]) (os := [(A4_Watch.cells r16.2.l)]) (os' := [(A4_Watch.cells r19.2.l)]) (by kernel_rfl) (args_ptr (by kernel_rfl) (args_clean (by kernel_rfl) (args_clean (by kernel_rfl) args_nil))) rfl (by kernel_rfl) (F42_ok n r16.2 0 a1 r19 hr) (by kernel_rfl) (by kernel_rfl))) (fun r19 => ?_)
                  refine SimI.run 3 [(95, .one (lb r19.1)), (94, .one (lb r19.1)), (93, .one (lb r19.1))] [] (by kernel_rfl) ?_
                  refine SimI.split 95 r19.1 (by kernel_rfl) ?_ ?_
                  · refine SimI.run 23 [(118, .one (lb true)), (117, .tup []), (116, .tup []), (115, .tup []), (114, .tup []), (113, .tup []), (112, .tup []), (111, .tup []), (110, .tup []), (109, .tup []), (108, .tup []), (107, .tup []), (106, .tup []), (105, .tup []), (104, .tup []), (103, .tup []), (102, .tup []), (101, .tup []), (100, .tup []), (99, .tup []), (98, .tup []), (97, .tup []), (96, .tup [])] [] (by kernel_rfl) ?_
                    refine SimI.done (by kernel_rfl) ?_
                    refine SimE.thenN ?_
                    refine Sim.condT (by kernel_rfl) ?_
                    refine Sim.seq ?_
                    refine Sim.region0 ?_
                    refine SimI.run 1 [(4, .one (lb false))] [] (by kernel_rfl) ?_
                    refine SimI.done (by kernel_rfl) ?_
                    refine SimE.thenN ?_
                    refine Sim.ret ?_
                    refine SimE.blockR ?_
                    refine SimE.thenR ?_
                    refine SimE.loopR ?_
                    refine SimE.blockR ?_
                    refine SimE.blockR ?_
                    refine SimE.thenR ?_
                    refine SimE.loopR ?_
                    refine SimE.blockR ?_
                    refine SimE.thenR ?_
                    exact SimE.fin (by kernel_rfl)
                  · refine SimI.run 5 [(100, .one (lb r16.1.a0.On)), (99, .one (lb r16.1.a0.On)), (98, .one (.ptr 9 0)), (97, .one (.ptr 9 0)), (96, .one (li .i64 0))] [] (by kernel_rfl) ?_
                    refine SimI.split 100 r16.1.a0.On (by kernel_rfl) ?_ ?_
                    · refine SimI.run 7 [(107, .one (lb (!(r12.1.a0.On)))), (106, .one (lb (!(r12.1.a0.On)))), (105, .one (lb (!(r12.1.a0.On)))), (104, .one (lb r12.1.a0.On)), (103, .one (.ptr 7 0)), (102, .one (.ptr 7 0)), (101, .one (li .i64 0))] [] (by kernel_rfl) ?_
                      refine SimI.split 107 (!(r12.1.a0.On)) (by kernel_rfl) ?_ ?_
                      · refine SimI.run 11 [(118, .one (lb (r16.1.a0.Session == r12.1.a0.Session))), (117, .one (lb (r16.1.a0.Session == r12.1.a0.Session))), (116, .one (lb (r16.1.a0.Session == r12.1.a0.Session))), (115, .one (li .i64 r12.1.a0.Session)), (114, .one (.ptr 7 1)), (113, .one (.ptr 7 0)), (112, .one (li .i64 0)), (111, .one (li .i64 r16.1.a0.Session)), (110, .one (.ptr 9 1)), (109, .one (.ptr 9 0)), (108, .one (li .i64 0))] [] (by kernel_rfl) ?_
                        refine SimI.done (by kernel_rfl) ?_
                        refine SimE.thenN ?_
                        refine Sim.cond (r16.1.a0.Session == r12.1.a0.Session) (by kernel_rfl) ?_ ?_
                        · refine Sim.seq ?_
                          refine Sim.region0 ?_
                          refine SimI.run 1 [(4, .one (lb false))] [] (by kernel_rfl) ?_
                          refine SimI.done (by kernel_rfl) ?_
                          refine SimE.thenN ?_
                          refine Sim.ret ?_
                          refine SimE.blockR ?_
                          refine SimE.thenR ?_
                          refine SimE.loopR ?_
                          refine SimE.blockR ?_
                          refine SimE.blockR ?_
                          refine SimE.thenR ?_
                          refine SimE.loopR ?_
                          refine SimE.blockR ?_
                          refine SimE.thenR ?_
                          exact SimE.fin (by kernel_rfl)
                        · refine Sim.skip ?_
                          refine SimE.blockN ?_
                          refine SimE.thenN ?_
                          refine Sim.region0 ?_
                          refine SimI.run 3 [(10, .one (li .i64 1)), (49, .one (li .i64 1)), (48, .one (li .i64 0))] [] (by kernel_rfl) ?_
                          refine SimI.done (by kernel_rfl) ?_
                          refine SimE.loopN ?_
                          refine SimL.pre (ts := [0, 3, 5, 6, 7, 8, 9, 10]) (os := [3, 7, 9, 300000]) (ow := []) [(0, .one (vw Step.cod a0)), (3, .one (.ptr 3 0)), (5, .one (.ptr 300000 0)), (6, .one (li .i64 ii8)), (7, .one (.ptr 7 0)), (8, .one (li .i64 r15.1)), (9, .one (.ptr 9 0)), (10, .one (li .i64 1))] [(3, some (.cells [li .i64 a1.X, li .i64 a1.Y])), (7, some (.cells (A4_Watch.cells r12.1))), (9, some (.cells (A4_Watch.cells r16.1))), (300000, some (.cells (A4_Watch.cells r19.2.l)))] (by kernel_rfl) (by kernel_rfl) (by kernel_rfl) ?_
                          exact F12_u22_ok n a0 a1 ii8 r12 r15 r16 (F12_l9 n a0 a1 m_l9) m_l9 ih_l9 r19.2
                      · refine SimI.run 11 [(118, .one (lb false)), (117, .one (lb false)), (116, .tup []), (115, .tup []), (114, .tup []), (113, .tup []), (112, .tup []), (111, .tup []), (110, .tup []), (109, .tup []), (108, .tup [])] [] (by kernel_rfl) ?_
                        refine SimI.done (by kernel_rfl) ?_
                        refine SimE.thenN ?_
                        refine Sim.condF (by kernel_rfl) ?_
                        refine Sim.skip ?_
                        refine SimE.blockN ?_
                        refine SimE.thenN ?_
                        refine Sim.region0 ?_
                        refine SimI.run 3 [(10, .one (li .i64 1)), (49, .one (li .i64 1)), (48, .one (li .i64 0))] [] (by kernel_rfl) ?_
                        refine SimI.done (by kernel_rfl) ?_
                        refine SimE.loopN ?_
                        refine SimL.pre (ts := [0, 3, 5, 6, 7, 8, 9, 10]) (os := [3, 7, 9, 300000]) (ow := []) [(0, .one (vw Step.cod a0)), (3, .one (.ptr 3 0)), (5, .one (.ptr 300000 0)), (6, .one (li .i64 ii8)), (7, .one (.ptr 7 0)), (8, .one (li .i64 r15.1)), (9, .one (.ptr 9 0)), (10, .one (li .i64 1))] [(3, some (.cells [li .i64 a1.X, li .i64 a1.Y])), (7, some (.cells (A4_Watch.cells r12.1))), (9, some (.cells (A4_Watch.cells r16.1))), (300000, some (.cells (A4_Watch.cells r19.2.l)))] (by kernel_rfl) (by kernel_rfl) (by kernel_rfl) ?_
                        exact F12_u22_ok n a0 a1 ii8 r12 r15 r16 (F12_l9 n a0 a1 m_l9) m_l9 ih_l9 r19.2
                    · refine SimI.run 18 [(118, .one (lb false)), (117, .one (lb false)), (116, .tup []), (115, .tup []), (114, .tup []), (113, .tup []), (112, .tup []), (111, .tup []), (110, .tup []), (109, .tup []), (108, .tup []), (107, .one (lb false)), (106, .one (lb false)), (105, .tup []), (104, .tup []), (103, .tup []), (102, .tup []), (101, .tup [])] [] (by kernel_rfl) ?_
                      refine SimI.done (by kernel_rfl) ?_
                      refine SimE.thenN ?_
                      refine Sim.condF (by kernel_rfl) ?_
                      refine Sim.skip ?_
                      refine SimE.blockN ?_
                      refine SimE.thenN ?_
                      refine Sim.region0 ?_
                      refine SimI.run 3 [(10, .one (li .i64 1)), (49, .one (li .i64 1)), (48, .one (li .i64 0))] [] (by kernel_rfl) ?_
                      refine SimI.done (by kernel_rfl) ?_
                      refine SimE.loopN ?_
                      refine SimL.pre (ts := [0, 3, 5, 6, 7, 8, 9, 10]) (os := [3, 7, 9, 300000]) (ow := []) [(0, .one (vw Step.cod a0)), (3, .one (.ptr 3 0)), (5, .one (.ptr 300000 0)), (6, .one (li .i64 ii8)), (7, .one (.ptr 7 0)), (8, .one (li .i64 r15.1)), (9, .one (.ptr 9 0)), (10, .one (li .i64 1))] [(3, some (.cells [li .i64 a1.X, li .i64 a1.Y])), (7, some (.cells (A4_Watch.cells r12.1))), (9, some (.cells (A4_Watch.cells r16.1))), (300000, some (.cells (A4_Watch.cells r19.2.l)))] (by kernel_rfl) (by kernel_rfl) (by kernel_rfl) ?_
                      exact F12_u22_ok n a0 a1 ii8 r12 r15 r16 (F12_l9 n a0 a1 m_l9) m_l9 ih_l9 r19.2
                · refine SimI.run 12 [(100, .one (lb r16.1.a0.On)), (99, .one (lb r16.1.a0.On)), (98, .one (.ptr 9 0)), (97, .one (.ptr 9 0)), (96, .one (li .i64 0)), (95, .one (lb false)), (94, .one (lb false)), (93, .one (lb false)), (92, .tup []), (91, .tup []), (90, .tup []), (89, .tup [])] [] (by kernel_rfl) ?_
                  refine SimI.split 100 r16.1.a0.On (by kernel_rfl) ?_ ?_
                  · refine SimI.run 7 [(107, .one (lb (!(r12.1.a0.On)))), (106, .one (lb (!(r12.1.a0.On)))), (105, .one (lb (!(r12.1.a0.On)))), (104, .one (lb r12.1.a0.On)), (103, .one (.ptr 7 0)), (102, .one (.ptr 7 0)), (101, .one (li .i64 0))] [] (by kernel_rfl) ?_
                    refine SimI.split 107 (!(r12.1.a0.On)) (by kernel_rfl) ?_ ?_
                    · refine SimI.run 11 [(118, .one (lb (r16.1.a0.Session == r12.1.a0.Session))), (117, .one (lb (r16.1.a0.Session == r12.1.a0.Session))), (116, .one (lb (r16.1.a0.Session == r12.1.a0.Session))), (115, .one (li .i64 r12.1.a0.Session)), (114, .one (.ptr 7 1)), (113, .one (.ptr 7 0)), (112, .one (li .i64 0)), (111, .one (li .i64 r16.1.a0.Session)), (110, .one (.ptr 9 1)), (109, .one (.ptr 9 0)), (108, .one (li .i64 0))] [] (by kernel_rfl) ?_
                      refine SimI.done (by kernel_rfl) ?_
                      refine SimE.thenN ?_
                      refine Sim.cond (r16.1.a0.Session == r12.1.a0.Session) (by kernel_rfl) ?_ ?_
                      · refine Sim.seq ?_
                        refine Sim.region0 ?_
                        refine SimI.run 1 [(4, .one (lb false))] [] (by kernel_rfl) ?_
                        refine SimI.done (by kernel_rfl) ?_
                        refine SimE.thenN ?_
                        refine Sim.ret ?_
                        refine SimE.blockR ?_
                        refine SimE.thenR ?_
                        refine SimE.loopR ?_
                        refine SimE.blockR ?_
                        refine SimE.blockR ?_
                        refine SimE.thenR ?_
                        refine SimE.loopR ?_
                        refine SimE.blockR ?_
                        refine SimE.thenR ?_
                        exact SimE.fin (by kernel_rfl)
                      · refine Sim.skip ?_
                        refine SimE.blockN ?_
                        refine SimE.thenN ?_
                        refine Sim.region0 ?_
                        refine SimI.run 3 [(10, .one (li .i64 1)), (49, .one (li .i64 1)), (48, .one (li .i64 0))] [] (by kernel_rfl) ?_
                        refine SimI.done (by kernel_rfl) ?_
                        refine SimE.loopN ?_
                        refine SimL.pre (ts := [0, 3, 5, 6, 7, 8, 9, 10]) (os := [3, 7, 9, 300000]) (ow := []) [(0, .one (vw Step.cod a0)), (3, .one (.ptr 3 0)), (5, .one (.ptr 300000 0)), (6, .one (li .i64 ii8)), (7, .one (.ptr 7 0)), (8, .one (li .i64 r15.1)), (9, .one (.ptr 9 0)), (10, .one (li .i64 1))] [(3, some (.cells [li .i64 a1.X, li .i64 a1.Y])), (7, some (.cells (A4_Watch.cells r12.1))), (9, some (.cells (A4_Watch.cells r16.1))), (300000, some (.cells (A4_Watch.cells r16.2.l)))] (by kernel_rfl) (by kernel_rfl) (by kernel_rfl) ?_
                        exact F12_u22_ok n a0 a1 ii8 r12 r15 r16 (F12_l9 n a0 a1 m_l9) m_l9 ih_l9 r16.2
                    · refine SimI.run 11 [(118, .one (lb false)), (117, .one (lb false)), (116, .tup []), (115, .tup []), (114, .tup []), (113, .tup []), (112, .tup []), (111, .tup []), (110, .tup []), (109, .tup []), (108, .tup [])] [] (by kernel_rfl) ?_
                      refine SimI.done (by kernel_rfl) ?_
                      refine SimE.thenN ?_
                      refine Sim.condF (by kernel_rfl) ?_
                      refine Sim.skip ?_
                      refine SimE.blockN ?_
                      refine SimE.thenN ?_
                      refine Sim.region0 ?_
                      refine SimI.run 3 [(10, .one (li .i64 1)), (49, .one (li .i64 1)), (48, .one (li .i64 0))] [] (by kernel_rfl) ?_
                      refine SimI.done (by kernel_rfl) ?_
                      refine SimE.loopN ?_
                      refine SimL.pre (ts := [0, 3, 5, 6, 7, 8, 9, 10]) (os := [3, 7, 9, 300000]) (ow := []) [(0, .one (vw Step.cod a0)), (3, .one (.ptr 3 0)), (5, .one (.ptr 300000 0)), (6, .one (li .i64 ii8)), (7, .one (.ptr 7 0)), (8, .one (li .i64 r15.1)), (9, .one (.ptr 9 0)), (10, .one (li .i64 1))] [(3, some (.cells [li .i64 a1.X, li .i64 a1.Y])), (7, some (.cells (A4_Watch.cells r12.1))), (9, some (.cells (A4_Watch.cells r16.1))), (300000, some (.cells (A4_Watch.cells r16.2.l)))] (by kernel_rfl) (by kernel_rfl) (by kernel_rfl) ?_
                      exact F12_u22_ok n a0 a1 ii8 r12 r15 r16 (F12_l9 n a0 a1 m_l9) m_l9 ih_l9 r16.2
                  · refine SimI.run 18 [(118, .one (lb false)), (117, .one (lb false)), (116, .tup []), (115, .tup []), (114, .tup []), (113, .tup []), (112, .tup []), (111, .tup []), (110, .tup []), (109, .tup []), (108, .tup []), (107, .one (lb false)), (106, .one (lb false)), (105, .tup []), (104, .tup []), (103, .tup []), (102, .tup []), (101, .tup [])] [] (by kernel_rfl) ?_
                    refine SimI.done (by kernel_rfl) ?_
                    refine SimE.thenN ?_
                    refine Sim.condF (by kernel_rfl) ?_
                    refine Sim.skip ?_
                    refine SimE.blockN ?_
                    refine SimE.thenN ?_
                    refine Sim.region0 ?_
                    refine SimI.run 3 [(10, .one (li .i64 1)), (49, .one (li .i64 1)), (48, .one (li .i64 0))] [] (by kernel_rfl) ?_
                    refine SimI.done (by kernel_rfl) ?_
                    refine SimE.loopN ?_
                    refine SimL.pre (ts := [0, 3, 5, 6, 7, 8, 9, 10]) (os := [3, 7, 9, 300000]) (ow := []) [(0, .one (vw Step.cod a0)), (3, .one (.ptr 3 0)), (5, .one (.ptr 300000 0)), (6, .one (li .i64 ii8)), (7, .one (.ptr 7 0)), (8, .one (li .i64 r15.1)), (9, .one (.ptr 9 0)), (10, .one (li .i64 1))] [(3, some (.cells [li .i64 a1.X, li .i64 a1.Y])), (7, some (.cells (A4_Watch.cells r12.1))), (9, some (.cells (A4_Watch.cells r16.1))), (300000, some (.cells (A4_Watch.cells r16.2.l)))] (by kernel_rfl) (by kernel_rfl) (by kernel_rfl) ?_
                    exact F12_u22_ok n a0 a1 ii8 r12 r15 r16 (F12_l9 n a0 a1 m_l9) m_l9 ih_l9 r16.2
          · refine SimI.run 20 [(82, .one (lb (decide (r16.1.a0.Session < r12.1.a0.Session)))), (81, .one (lb (decide (r16.1.a0.Session < r12.1.a0.Session)))), (80, .one (lb (decide (r16.1.a0.Session < r12.1.a0.Session)))), (79, .one (li .i64 r12.1.a0.Session)), (78, .one (.ptr 7 1)), (77, .one (.ptr 7 0)), (76, .one (li .i64 0)), (75, .one (li .i64 r16.1.a0.Session)), (74, .one (.ptr 9 1)), (73, .one (.ptr 9 0)), (72, .one (li .i64 0)), (71, .one (lb false)), (70, .one (lb false)), (69, .tup []), (68, .tup []), (67, .tup []), (66, .tup []), (65, .tup []), (64, .tup []), (63, .tup [])] [] (by kernel_rfl) ?_
            refine SimI.split 82 (decide (r16.1.a0.Session < r12.1.a0.Session)) (by kernel_rfl) ?_ ?_
            · refine SimI.run 36 [(118, .one (lb true)), (117, .tup []), (116, .tup []), (115, .tup []), (114, .tup []), (113, .tup []), (112, .tup []), (111, .tup []), (110, .tup []), (109, .tup []), (108, .tup []), (107, .tup []), (106, .tup []), (105, .tup []), (104, .tup []), (103, .tup []), (102, .tup []), (101, .tup []), (100, .tup []), (99, .tup []), (98, .tup []), (97, .tup []), (96, .tup []), (95, .one (lb true)), (94, .one (lb true)), (93, .tup []), (92, .tup []), (91, .tup []), (90, .tup []), (89, .tup []), (88, .tup []), (87, .tup []), (86, .tup []), (85, .tup []), (84, .tup []), (83, .tup [])] [] (by kernel_rfl) ?_
              refine SimI.done (by kernel_rfl) ?_
              refine SimE.thenN ?_
              refine Sim.condT (by kernel_rfl) ?_
              refine Sim.seq ?_
              refine Sim.region0 ?_
              refine SimI.run 1 [(4, .one (lb false))] [] (by kernel_rfl) ?_
              refine SimI.done (by kernel_rfl) ?_
              refine SimE.thenN ?_
              refine Sim.ret ?_
              refine SimE.blockR ?_
              refine SimE.thenR ?_
              refine SimE.loopR ?_
              refine SimE.blockR ?_
              refine SimE.blockR ?_
              refine SimE.thenR ?_
              refine SimE.loopR ?_
              refine SimE.blockR ?_
              refine SimE.thenR ?_
              exact SimE.fin (by kernel_rfl)
            · refine SimI.run 6 [(88, .one (lb (!(r16.1.a0.On)))), (87, .one (lb (!(r16.1.a0.On)))), (86, .one (lb r16.1.a0.On)), (85, .one (.ptr 9 0)), (84, .one (.ptr 9 0)), (83, .one (li .i64 0))] [] (by kernel_rfl) ?_
              refine SimI.split 88 (!(r16.1.a0.On)) (by kernel_rfl) ?_ ?_
              · refine SimI.run 3 [(91, .agg [li .i64 a1.X, li .i64 a1.Y]), (90, .one (li .i64 0)), (89, .one (.ptr 300000 0))] [] (by kernel_rfl) ?_
                refine SimI.bind (og := F42 n r16.2 0 a1) { dst := some 92, op := POp.call true [[], [], []] 42 [Operand.tmp 89, Operand.tmp 90, Operand.tmp 91], guard := some (88, true), hints := [(89, Hint.at_ 300000 0), (90, Hint.imm), (91, Hint.imm)] } (fun r20 => [(92, .one (lb r20.1))]) (fun r20 => [(300000, some (.cells (A4_Watch.cells r20.2.l)))]) (by kernel_rfl) (fun r20 hr => pOp_eff (by kernel_rfl) (by kernel_rfl) (eff_callp (ARGS := [.one (.ptr 300000 0), .one (li .i64 0), .agg [li .i64 a1.X, li .i64 a1.Y]]) (ARGS' := [.one (.ptr 1000000 0), .one (li .i64 0), .agg [li .i64 a1.X, li .i64 a1.Y]]) (ks := [300000]) (os := [(A4_Watch.cells r16.2.l)]) (os' := [(A4_Watch.cells r20.2.l)]) (by kernel_rfl) (args_ptr (by kernel_rfl) (args_clean (by kernel_rfl) (args_clean (by kernel_rfl) args_nil))) rfl (by kernel_rfl) (F42_ok n r16.2 0 a1 r20 hr) (by kernel_rfl) (by kernel_rfl))) (fun r20 => ?_)
                refine SimI.run 3 [(95, .one (lb r20.1)), (94, .one (lb r20.1)), (93, .one (lb r20.1))] [] (by kernel_rfl) ?_
                refine SimI.split 95 r20.1 (by kernel_rfl) ?_ ?_
                · refine SimI.run 23 [(118, .one (lb true)), (117, .tup []), (116, .tup []), (115, .tup []), (114, .tup []), (113, .tup []), (112, .tup []), (111, .tup []), (110, .tup []), (109, .tup []), (108, .tup []), (107, .tup []), (106, .tup []), (105, .tup []), (104, .tup []), (103, .tup []), (102, .tup []), (101, .tup []), (100, .tup []), (99, .tup []), (98, .tup []), (97, .tup []), (96, .tup [])] [] (by kernel_rfl) ?_
                  refine SimI.done (by kernel_rfl) ?_
                  refine SimE.thenN ?_
                  refine Sim.condT (by kernel_rfl) ?_
                  refine Sim.seq ?_
                  refine Sim.region0 ?_
                  refine SimI.run 1 [(4, .one (lb false))] [] (by kernel_rfl) ?_
                  refine SimI.done (by kernel_rfl) ?_
                  refine SimE.thenN ?_
                  refine Sim.ret ?_
                  refine SimE.blockR ?_
                  refine SimE.thenR ?_
                  refine SimE.loopR ?_
                  refine SimE.blockR ?_
                  refine SimE.blockR ?_
                  refine SimE.thenR ?_
                  refine SimE.loopR ?_
                  refine SimE.blockR ?_
                  refine SimE.thenR ?_
                  exact SimE.fin (by kernel_rfl)
                · refine SimI.run 5 [(100, .one (lb r16.1.a0.On)), (99, .one (lb r16.1.a0.On)), (98, .one (.ptr 9 0)), (97, .one (.ptr 9 0)), (96, .one (li .i64 0))] [] (by kernel_rfl) ?_
                  refine SimI.split 100 r16.1.a0.On (by kernel_rfl) ?_ ?_
                  · refine SimI.run 7 [(107, .one (lb (!(r12.1.a0.On)))), (106, .one (lb (!(r12.1.a0.On)))), (105, .one (lb (!(r12.1.a0.On)))), (104, .one (lb r12.1.a0.On)), (103, .one (.ptr 7 0)), (102, .one (.ptr 7 0)), (101, .one (li .i64 0))] [] (by kernel_rfl) ?_
                    refine SimI.split 107 (!(r12.1.a0.On)) (by kernel_rfl) ?_ ?_
                    · refine SimI.run 11 [(118, .one (lb (r16.1.a0.Session == r12.1.a0.Session))), (117, .one (lb (r16.1.a0.Session == r12.1.a0.Session))), (116, .one (lb (r16.1.a0.Session == r12.1.a0.Session))), (115, .one (li .i64 r12.1.a0.Session)), (114, .one (.ptr 7 1)), (113, .one (.ptr 7 0)), (112, .one (li .i64 0)), (111, .one (li .i64 r16.1.a0.Session)), (110, .one (.ptr 9 1)), (109, .one (.ptr 9 0)), (108, .one (li .i64 0))] [] (by kernel_rfl) ?_
                      refine SimI.done (by kernel_rfl) ?_
                      refine SimE.thenN ?_
                      refine Sim.cond (r16.1.a0.Session == r12.1.a0.Session) (by kernel_rfl) ?_ ?_
                      · refine Sim.seq ?_
                        refine Sim.region0 ?_
                        refine SimI.run 1 [(4, .one (lb false))] [] (by kernel_rfl) ?_
                        refine SimI.done (by kernel_rfl) ?_
                        refine SimE.thenN ?_
                        refine Sim.ret ?_
                        refine SimE.blockR ?_
                        refine SimE.thenR ?_
                        refine SimE.loopR ?_
                        refine SimE.blockR ?_
                        refine SimE.blockR ?_
                        refine SimE.thenR ?_
                        refine SimE.loopR ?_
                        refine SimE.blockR ?_
                        refine SimE.thenR ?_
                        exact SimE.fin (by kernel_rfl)
                      · refine Sim.skip ?_
                        refine SimE.blockN ?_
                        refine SimE.thenN ?_
                        refine Sim.region0 ?_
                        refine SimI.run 3 [(10, .one (li .i64 1)), (49, .one (li .i64 1)), (48, .one (li .i64 0))] [] (by kernel_rfl) ?_
                        refine SimI.done (by kernel_rfl) ?_
                        refine SimE.loopN ?_
                        refine SimL.pre (ts := [0, 3, 5, 6, 7, 8, 9, 10]) (os := [3, 7, 9, 300000]) (ow := []) [(0, .one (vw Step.cod a0)), (3, .one (.ptr 3 0)), (5, .one (.ptr 300000 0)), (6, .one (li .i64 ii8)), (7, .one (.ptr 7 0)), (8, .one (li .i64 r15.1)), (9, .one (.ptr 9 0)), (10, .one (li .i64 1))] [(3, some (.cells [li .i64 a1.X, li .i64 a1.Y])), (7, some (.cells (A4_Watch.cells r12.1))), (9, some (.cells (A4_Watch.cells r16.1))), (300000, some (.cells (A4_Watch.cells r20.2.l)))] (by kernel_rfl) (by kernel_rfl) (by kernel_rfl) ?_
                        exact F12_u22_ok n a0 a1 ii8 r12 r15 r16 (F12_l9 n a0 a1 m_l9) m_l9 ih_l9 r20.2
                    · refine SimI.run 11 [(118, .one (lb false)), (117, .one (lb false)), (116, .tup []), (115, .tup []), (114, .tup []), (113, .tup []), (112, .tup []), (111, .tup []), (110, .tup []), (109, .tup []), (108, .tup [])] [] (by kernel_rfl) ?_
                      refine SimI.done (by kernel_rfl) ?_
                      refine SimE.thenN ?_
                      refine Sim.condF (by kernel_rfl) ?_
                      refine Sim.skip ?_
                      refine SimE.blockN ?_
                      refine SimE.thenN ?_
                      refine Sim.region0 ?_
                      refine SimI.run 3 [(10, .one (li .i64 1)), (49, .one (li .i64 1)), (48, .one (li .i64 0))] [] (by kernel_rfl) ?_
                      refine SimI.done (by kernel_rfl) ?_
                      refine SimE.loopN ?_
                      refine SimL.pre (ts := [0, 3, 5, 6, 7, 8, 9, 10]) (os := [3, 7, 9, 300000]) (ow := []) [(0, .one (vw Step.cod a0)), (3, .one (.ptr 3 0)), (5, .one (.ptr 300000 0)), (6, .one (li .i64 ii8)), (7, .one (.ptr 7 0)), (8, .one (li .i64 r15.1)), (9, .one (.ptr 9 0)), (10, .one (li .i64 1))] [(3, some (.cells [li .i64 a1.X, li .i64 a1.Y])), (7, some (.cells (A4_Watch.cells r12.1))), (9, some (.cells (A4_Watch.cells r16.1))), (300000, some (.cells (A4_Watch.cells r20.2.l)))] (by kernel_rfl) (by kernel_rfl) (by kernel_rfl) ?_
                      exact F12_u22_ok n a0 a1 ii8 r12 r15 r16 (F12_l9 n a0 a1 m_l9) m_l9 ih_l9 r20.2
                  · refine SimI.run 18 [(118, .one (lb false)), (117, .one (lb false)), (116, .tup []), (115, .tup []), (114, .tup []), (113, .tup []), (112, .tup []), (111, .tup []), (110, .tup []), (109, .tup []), (108, .tup []), (107, .one (lb false)), (106, .one (lb false)), (105, .tup []), (104, .tup []), (103, .tup []), (102, .tup []), (101, .tup [])] [] (by kernel_rfl) ?_
                    refine SimI.done (by kernel_rfl) ?_
                    refine SimE.thenN ?_
                    refine Sim.condF (by kernel_rfl) ?_
                    refine Sim.skip ?_
                    refine SimE.blockN ?_
                    refine SimE.thenN ?_
                    refine Sim.region0 ?_
                    refine SimI.run 3 [(10, .one (li .i64 1)), (49, .one (li .i64 1)), (48, .one (li .i64 0))] [] (by kernel_rfl) ?_
                    refine SimI.done (by kernel_rfl) ?_
                    refine SimE.loopN ?_
                    refine SimL.pre (ts := [0, 3, 5, 6, 7, 8, 9, 10]) (os := [3, 7, 9, 300000]) (ow := []) [(0, .one (vw Step.cod a0)), (3, .one (.ptr 3 0)), (5, .one (.ptr 300000 0)), (6, .one (li .i64 ii8)), (7, .one (.ptr 7 0)), (8, .one (li .i64 r15.1)), (9, .one (.ptr 9 0)), (10, .one (li .i64 1))] [(3, some (.cells [li .i64 a1.X, li .i64 a1.Y])), (7, some (.cells (A4_Watch.cells r12.1))), (9, some (.cells (A4_Watch.cells r16.1))), (300000, some (.cells (A4_Watch.cells r20.2.l)))] (by kernel_rfl) (by kernel_rfl) (by kernel_rfl) ?_
                    exact F12_u22_ok n a0 a1 ii8 r12 r15 r16 (F12_l9 n a0 a1 m_l9) m_l9 ih_l9 r20.2
              · refine SimI.run 12 [(100, .one (lb r16.1.a0.On)), (99, .one (lb r16.1.a0.On)), (98, .one (.ptr 9 0)), (97, .one (.ptr 9 0)), (96, .one (li .i64 0)), (95, .one (lb false)), (94, .one (lb false)), (93, .one (lb false)), (92, .tup []), (91, .tup []), (90, .tup []), (89, .tup [])] [] (by kernel_rfl) ?_
                refine SimI.split 100 r16.1.a0.On (by kernel_rfl) ?_ ?_
                · refine SimI.run 7 [(107, .one (lb (!(r12.1.a0.On)))), (106, .one (lb (!(r12.1.a0.On)))), (105, .one (lb (!(r12.1.a0.On)))), (104, .one (lb r12.1.a0.On)), (103, .one (.ptr 7 0)), (102, .one (.ptr 7 0)), (101, .one (li .i64 0))] [] (by kernel_rfl) ?_
                  refine SimI.split 107 (!(r12.1.a0.On)) (by kernel_rfl) ?_ ?_
                  · refine SimI.run 11 [(118, .one (lb (r16.1.a0.Session == r12.1.a0.Session))), (117, .one (lb (r16.1.a0.Session == r12.1.a0.Session))), (116, .one (lb (r16.1.a0.Session == r12.1.a0.Session))), (115, .one (li .i64 r12.1.a0.Session)), (114, .one (.ptr 7 1)), (113, .one (.ptr 7 0)), (112, .one (li .i64 0)), (111, .one (li .i64 r16.1.a0.Session)), (110, .one (.ptr 9 1)), (109, .one (.ptr 9 0)), (108, .one (li .i64 0))] [] (by kernel_rfl) ?_
                    refine SimI.done (by kernel_rfl) ?_
                    refine SimE.thenN ?_
                    refine Sim.cond (r16.1.a0.Session == r12.1.a0.Session) (by kernel_rfl) ?_ ?_
                    · refine Sim.seq ?_
                      refine Sim.region0 ?_
                      refine SimI.run 1 [(4, .one (lb false))] [] (by kernel_rfl) ?_
                      refine SimI.done (by kernel_rfl) ?_
                      refine SimE.thenN ?_
                      refine Sim.ret ?_
                      refine SimE.blockR ?_
                      refine SimE.thenR ?_
                      refine SimE.loopR ?_
                      refine SimE.blockR ?_
                      refine SimE.blockR ?_
                      refine SimE.thenR ?_
                      refine SimE.loopR ?_
                      refine SimE.blockR ?_
                      refine SimE.thenR ?_
                      exact SimE.fin (by kernel_rfl)
                    · refine Sim.skip ?_
                      refine SimE.blockN ?_
                      refine SimE.thenN ?_
                      refine Sim.region0 ?_
                      refine SimI.run 3 [(10, .one (li .i64 1)), (49, .one (li .i64 1)), (48, .one (li .i64 0))] [] (by kernel_rfl) ?_
                      refine SimI.done (by kernel_rfl) ?_
                      refine SimE.loopN ?_
                      refine SimL.pre (ts := [0, 3, 5, 6, 7, 8, 9, 10]) (os := [3, 7, 9, 300000]) (ow := []) [(0, .one (vw Step.cod a0)), (3, .one (.ptr 3 0)), (5, .one (.ptr 300000 0)), (6, .one (li .i64 ii8)), (7, .one (.ptr 7 0)), (8, .one (li .i64 r15.1)), (9, .one (.ptr 9 0)), (10, .one (li .i64 1))] [(3, some (.cells [li .i64 a1.X, li .i64 a1.Y])), (7, some (.cells (A4_Watch.cells r12.1))), (9, some (.cells (A4_Watch.cells r16.1))), (300000, some (.cells (A4_Watch.cells r16.2.l)))] (by kernel_rfl) (by kernel_rfl) (by kernel_rfl) ?_
                      exact F12_u22_ok n a0 a1 ii8 r12 r15 r16 (F12_l9 n a0 a1 m_l9) m_l9 ih_l9 r16.2
                  · refine SimI.run 11 [(118, .one (lb false)), (117, .one (lb false)), (116, .tup []), (115, .tup []), (114, .tup []), (113, .tup []), (112, .tup []), (111, .tup []), (110, .tup []), (109, .tup []), (108, .tup [])] [] (by kernel_rfl) ?_
                    refine SimI.done (by kernel_rfl) ?_
                    refine SimE.thenN ?_
                    refine Sim.condF (by kernel_rfl) ?_
                    refine Sim.skip ?_
                    refine SimE.blockN ?_
                    refine SimE.thenN ?_
                    refine Sim.region0 ?_
                    refine SimI.run 3 [(10, .one (li .i64 1)), (49, .one (li .i64 1)), (48, .one (li .i64 0))] [] (by kernel_rfl) ?_
                    refine SimI.done (by kernel_rfl) ?_
                    refine SimE.loopN ?_
                    refine SimL.pre (ts := [0, 3, 5, 6, 7, 8, 9, 10]) (os := [3, 7, 9, 300000]) (ow := []) [(0, .one (vw Step.cod a0)), (3, .one (.ptr 3 0)), (5, .one (.ptr 300000 0)), (6, .one (li .i64 ii8)), (7, .one (.ptr 7 0)), (8, .one (li .i64 r15.1)), (9, .one (.ptr 9 0)), (10, .one (li .i64 1))] [(3, some (.cells [li .i64 a1.X, li .i64 a1.Y])), (7, some (.cells (A4_Watch.cells r12.1))), (9, some (.cells (A4_Watch.cells r16.1))), (300000, some (.cells (A4_Watch.cells r16.2.l)))] (by kernel_rfl) (by kernel_rfl) (by kernel_rfl) ?_
                    exact F12_u22_ok n a0 a1 ii8 r12 r15 r16 (F12_l9 n a0 a1 m_l9) m_l9 ih_l9 r16.2
                · refine SimI.run 18 [(118, .one (lb false)), (117, .one (lb false)), (116, .tup []), (115, .tup []), (114, .tup []), (113, .tup []), (112, .tup []), (111, .tup []), (110, .tup []), (109, .tup []), (108, .tup []), (107, .one (lb false)), (106, .one (lb false)), (105, .tup []), (104, .tup []), (103, .tup []), (102, .tup []), (101, .tup [])] [] (by kernel_rfl) ?_
                  refine SimI.done (by kernel_rfl) ?_
                  refine SimE.thenN ?_
                  refine Sim.condF (by kernel_rfl) ?_
                  refine Sim.skip ?_
                  refine SimE.blockN ?_
                  refine SimE.thenN ?_
                  refine Sim.region0 ?_
                  refine SimI.run 3 [(10, .one (li .i64 1)), (49, .one (li .i64 1)), (48, .one (li .i64 0))] [] (by kernel_rfl) ?_
                  refine SimI.done (by kernel_rfl) ?_
                  refine SimE.loopN ?_
                  refine SimL.pre (ts := [0, 3, 5, 6, 7, 8, 9, 10]) (os := [3, 7, 9, 300000]) (ow := []) [(0, .one (vw Step.cod a0)), (3, .one (.ptr 3 0)), (5, .one (.ptr 300000 0)), (6, .one (li .i64 ii8)), (7, .one (.ptr 7 0)), (8, .one (li .i64 r15.1)), (9, .one (.ptr 9 0)), (10, .one (li .i64 1))] [(3, some (.cells [li .i64 a1.X, li .i64 a1.Y])), (7, some (.cells (A4_Watch.cells r12.1))), (9, some (.cells (A4_Watch.cells r16.1))), (300000, some (.cells (A4_Watch.cells r16.2.l)))] (by kernel_rfl) (by kernel_rfl) (by kernel_rfl) ?_
                  exact F12_u22_ok n a0 a1 ii8 r12 r15 r16 (F12_l9 n a0 a1 m_l9) m_l9 ih_l9 r16.2
    · refine Sim.exit ?_
      refine SimE.thenX ?_
      refine SimE.loopX ?_
      refine SimE.blockX ?_
      refine SimE.thenN ?_
      refine Sim.seq ?_
      refine Sim.region0 ?_
      refine SimI.run 1 [(4, .one (lb true))] [] (by kernel_rfl) ?_
      refine SimI.done (by kernel_rfl) ?_
      refine SimE.thenN ?_
      refine Sim.ret ?_
      exact SimE.fin (by kernel_rfl)

def F12 (n : Nat) (a0 : (List Step)) (a1 : Point) : Option Bool :=
  ((some true)).bind fun (r1 : Bool) =>
  if !(r1) then
    some false
  else
    if decide ((60 : Int) < ((a0).length : Int)) then
      some true
    else
      (F36 n).bind fun (r2 : Book) =>
      F12_l9 n a0 a1 (n + 8) r2 0
theorem F12_ok (n : Nat) (a0 : (List Step)) (a1 : Point) : ∀ r, F12 n a0 a1 = some r → D 12 [.one (vw Step.cod a0), .agg [li .i64 a1.X, li .i64 a1.Y]] [] = some (F12_e r) := by
  refine fn_to (D := D) (n := n + 8) (nt := 119) (rs := pc12_r) (c := pc12_c71) (L := [(0, .one (vw Step.cod a0)), (1, .agg [li .i64 a1.X, li .i64 a1.Y])]) (M := []) (k := 0) rfl rfl rfl rfl rfl rfl rfl ?_
  unfold F12
  refine Sim.seq ?_
  refine Sim.region0 ?_
  refine SimI.run 2 [(4, .one (lb false)), (3, .one (.ptr 3 0))] [(3, some (.cells [li .i64 a1.X, li .i64 a1.Y]))] (by kernel_rfl) ?_
  refine SimI.done (by kernel_rfl) ?_
  refine SimE.thenN ?_
  refine Sim.seq ?_
  refine Sim.seq ?_
  refine Sim.region0 ?_
  refine SimI.bind (og := (some true)) { dst := some 11, op := POp.call true [] 35 [], guard := none, hints := [] } (fun r1 => [(11, .one (lb r1))]) (fun r1 => []) (by kernel_rfl) (fun r1 hr => pOp_eff (by kernel_rfl) (by kernel_rfl) (eff_call (ARGS := []) (by kernel_rfl) (args_nil) (F35_ok n r1 hr) (by kernel_rfl))) (fun r1 => ?_)
  refine SimI.run 1 [(12, .one (lb (!(r1))))] [] (by kernel_rfl) ?_
  refine SimI.done (by kernel_rfl) ?_
  refine SimE.thenN ?_
  refine Sim.cond (!(r1)) (by kernel_rfl) ?_ ?_
  · refine Sim.seq ?_
    refine Sim.region0 ?_
    refine SimI.run 1 [(4, .one (lb false))] [] (by kernel_rfl) ?_
    refine SimI.done (by kernel_rfl) ?_
    refine SimE.thenN ?_
    refine Sim.ret ?_
    refine SimE.thenR ?_
    exact SimE.fin (by kernel_rfl)
  · refine Sim.skip ?_
    refine SimE.thenN ?_
    refine Sim.seq ?_
    refine Sim.seq ?_
    refine Sim.region0 ?_
    refine SimI.run 3 [(15, .one (lb (decide ((60 : Int) < ((a0).length : Int))))), (14, .one (li .i64 ((a0).length : Int))), (13, .one (vw Step.cod a0))] [] (by kernel_rfl) ?_
    refine SimI.done (by kernel_rfl) ?_
    refine SimE.thenN ?_
    refine Sim.cond (decide ((60 : Int) < ((a0).length : Int))) (by kernel_rfl) ?_ ?_
    · refine Sim.seq ?_
      refine Sim.region0 ?_
      refine SimI.run 1 [(4, .one (lb true))] [] (by kernel_rfl) ?_
      refine SimI.done (by kernel_rfl) ?_
      refine SimE.thenN ?_
      refine Sim.ret ?_
      refine SimE.thenR ?_
      exact SimE.fin (by kernel_rfl)
    · refine Sim.skip ?_
      refine SimE.thenN ?_
      refine Sim.seq ?_
      refine Sim.region0 ?_
      refine SimI.bind (og := F36 n) { dst := some 16, op := POp.gcall false false [300000, 300001, 300002, 300003, 300004, 300005, 300006, 300007] [] 36 [], guard := none, hints := [] } (fun r2 => [(16, .one (.ptr 300000 0))]) (fun r2 => [(300000, some (.cells (A4_Watch.cells r2.l)))]) (by kernel_rfl) (fun r2 hr => pOp_eff (by kernel_rfl) (by kernel_rfl) (eff_gcall (ks := []) (rks := []) (new := [300000]) (ARGS := []) (args1 := []) (args2 := []) (os := []) (os' := [.cells (A4_Watch.cells r2.l)]) (os1 := [.cells (A4_Watch.cells r2.l)]) (res := .one (.ptr 1000000 0)) (res1 := .one (.ptr 1000000 0)) (r := .one (.ptr 300000 0)) (N := [(300000, some (.cells (A4_Watch.cells r2.l)))]) (by kernel_rfl) (readA_ow (readA_nil)) (by kernel_rfl) (by kernel_rfl) (by kernel_rfl) (by kernel_rfl) (F36_ok n r2 hr) (by kernel_rfl) (by kernel_rfl) (by kernel_rfl) rfl (by kernel_rfl) (by kernel_rfl) (by kernel_rfl))) (fun r2 => ?_)
      refine SimI.run 1 [(5, .one (.ptr 300000 0))] [] (by kernel_rfl) ?_
      refine SimI.done (by kernel_rfl) ?_
      refine SimE.thenN ?_
      refine Sim.seq ?_
      refine Sim.seq ?_
      refine Sim.region0 ?_
      refine SimI.run 1 [(6, .one (li .i64 0))] [] (by kernel_rfl) ?_
      refine SimI.done (by kernel_rfl) ?_
      refine SimE.thenN ?_
      refine Sim.block ?_
      refine Sim.loop ?_
      refine SimL.pre (ts := [0, 3, 5, 6]) (os := [3, 7, 9, 300000]) (ow := []) [(0, .one (vw Step.cod a0)), (3, .one (.ptr 3 0)), (5, .one (.ptr 300000 0)), (6, .one (li .i64 0))] [(3, some (.cells [li .i64 a1.X, li .i64 a1.Y])), (300000, some (.cells (A4_Watch.cells r2.l)))] (by kernel_rfl) (by kernel_rfl) (by kernel_rfl) ?_
      exact F12_l9_ok n a0 a1 (n + 8) r2 0


end Go.Proofs.Ytajfdeeepklfoaa
