/-
  Functions of the program as functions of Lean. No condition.
-/
import Derived.Test.YthmbegagkgdopaaCmdRowsP1
namespace Go.Proofs.Ythmbegagkgdopaa
open Go Go.Rx
set_option maxRecDepth 100000
set_option linter.unusedVariables false
set_option linter.unusedSimpArgs false
set_option linter.unnecessarySimpa false
-- 33: vedette/vedettelaw10.fewCmd
def F33_e : Bool → PV × List Ob := fun r => (.one (lb r), [])
def F33 (n : Nat) (a0 : Command) : Option Bool :=
  if decide ((40 : Int) < (a0.F.a0.Text.size : Int)) then
    some false
  else
    if decide ((40 : Int) < (a0.F.a1.Text.size : Int)) then
      some false
    else
      if decide ((40 : Int) < (a0.F.a2.Text.size : Int)) then
        some false
      else
        if decide ((40 : Int) < (a0.F.a3.Text.size : Int)) then
          some false
        else
          some (decide ((a0.Value.Text.size : Int) ≤ 40))
theorem F33_ok (n : Nat) (a0 : Command) : ∀ r, F33 n a0 = some r → D 33 [.agg (Command.cells a0)] [] = some (F33_e r) := by
  refine fn_to (D := D) (n := n + 8) (nt := 20) (rs := pc33_r) (c := pc33_c26) (L := [(0, .agg (Command.cells a0))]) (M := []) (k := 0) rfl rfl rfl rfl rfl rfl rfl ?_
  unfold F33
  refine Sim.seq ?_
  refine Sim.region0 ?_
  refine SimI.run 2 [(2, .one (lb false)), (1, .one (.ptr 1 0))] [(1, some (.cells (Command.cells a0)))] (by kernel_rfl) ?_
  refine SimI.done (by kernel_rfl) ?_
  refine SimE.thenN ?_
  refine Sim.seq ?_
  refine Sim.seq ?_
  refine Sim.region0 ?_
  refine SimI.run 1 [(3, .one (li .i64 0))] [] (by kernel_rfl) ?_
  refine SimI.done (by kernel_rfl) ?_
  refine SimE.thenN ?_
  refine Sim.block ?_
  refine Sim.loop ?_
  refine SimL.succ ?_
  refine Sim.seq ?_
  refine Sim.seq ?_
  refine Sim.region [(1, .one (.ptr 1 0)), (3, .one (li .i64 0))] [(1, some (.cells (Command.cells a0)))] (by kernel_rfl) ?_
  refine SimI.run 2 [(5, .one (lb true)), (4, .one (li .i64 0))] [] (by kernel_rfl) ?_
  refine SimI.done (by kernel_rfl) ?_
  refine SimE.thenN ?_
  refine Sim.condT (by kernel_rfl) ?_
  refine Sim.skip ?_
  refine SimE.thenN ?_
  refine Sim.seq ?_
  refine Sim.block ?_
  refine Sim.seq ?_
  refine Sim.region0 ?_
  refine SimI.run 7 [(14, .one (lb (decide ((40 : Int) < (a0.F.a0.Text.size : Int))))), (13, .one (li .i64 (a0.F.a0.Text.size : Int))), (12, .one (ls a0.F.a0.Text)), (11, .one (.ptr 1 7)), (10, .one (.ptr 1 6)), (9, .one (.ptr 1 6)), (8, .one (li .i64 0))] [] (by kernel_rfl) ?_
  refine SimI.done (by kernel_rfl) ?_
  refine SimE.thenN ?_
  refine Sim.cond (decide ((40 : Int) < (a0.F.a0.Text.size : Int))) (by kernel_rfl) ?_ ?_
  · refine Sim.seq ?_
    refine Sim.region0 ?_
    refine SimI.run 1 [(2, .one (lb false))] [] (by kernel_rfl) ?_
    refine SimI.done (by kernel_rfl) ?_
    refine SimE.thenN ?_
    refine Sim.ret ?_
    refine SimE.blockR ?_
    refine SimE.thenR ?_
    refine SimE.loopR ?_
    refine SimE.blockR ?_
    refine SimE.thenR ?_
    exact SimE.fin (by kernel_rfl)
  · refine Sim.skip ?_
    refine SimE.blockN ?_
    refine SimE.thenN ?_
    refine Sim.region0 ?_
    refine SimI.run 3 [(3, .one (li .i64 1)), (7, .one (li .i64 1)), (6, .one (li .i64 0))] [] (by kernel_rfl) ?_
    refine SimI.done (by kernel_rfl) ?_
    refine SimE.loopN ?_
    refine SimL.succ ?_
    refine Sim.seq ?_
    refine Sim.seq ?_
    refine Sim.region [(1, .one (.ptr 1 0)), (3, .one (li .i64 1))] [(1, some (.cells (Command.cells a0)))] (by kernel_rfl) ?_
    refine SimI.run 2 [(5, .one (lb true)), (4, .one (li .i64 1))] [] (by kernel_rfl) ?_
    refine SimI.done (by kernel_rfl) ?_
    refine SimE.thenN ?_
    refine Sim.condT (by kernel_rfl) ?_
    refine Sim.skip ?_
    refine SimE.thenN ?_
    refine Sim.seq ?_
    refine Sim.block ?_
    refine Sim.seq ?_
    refine Sim.region0 ?_
    refine SimI.run 7 [(14, .one (lb (decide ((40 : Int) < (a0.F.a1.Text.size : Int))))), (13, .one (li .i64 (a0.F.a1.Text.size : Int))), (12, .one (ls a0.F.a1.Text)), (11, .one (.ptr 1 9)), (10, .one (.ptr 1 8)), (9, .one (.ptr 1 6)), (8, .one (li .i64 1))] [] (by kernel_rfl) ?_
    refine SimI.done (by kernel_rfl) ?_
    refine SimE.thenN ?_
    refine Sim.cond (decide ((40 : Int) < (a0.F.a1.Text.size : Int))) (by kernel_rfl) ?_ ?_
    · refine Sim.seq ?_
      refine Sim.region0 ?_
      refine SimI.run 1 [(2, .one (lb false))] [] (by kernel_rfl) ?_
      refine SimI.done (by kernel_rfl) ?_
      refine SimE.thenN ?_
      refine Sim.ret ?_
      refine SimE.blockR ?_
      refine SimE.thenR ?_
      refine SimE.loopR ?_
      refine SimE.blockR ?_
      refine SimE.thenR ?_
      exact SimE.fin (by kernel_rfl)
    · refine Sim.skip ?_
      refine SimE.blockN ?_
      refine SimE.thenN ?_
      refine Sim.region0 ?_
      refine SimI.run 3 [(3, .one (li .i64 2)), (7, .one (li .i64 2)), (6, .one (li .i64 1))] [] (by kernel_rfl) ?_
      refine SimI.done (by kernel_rfl) ?_
      refine SimE.loopN ?_
      refine SimL.succ ?_
      refine Sim.seq ?_
      refine Sim.seq ?_
      refine Sim.region [(1, .one (.ptr 1 0)), (3, .one (li .i64 2))] [(1, some (.cells (Command.cells a0)))] (by kernel_rfl) ?_
      refine SimI.run 2 [(5, .one (lb true)), (4, .one (li .i64 2))] [] (by kernel_rfl) ?_
      refine SimI.done (by kernel_rfl) ?_
      refine SimE.thenN ?_
      refine Sim.condT (by kernel_rfl) ?_
      refine Sim.skip ?_
      refine SimE.thenN ?_
      refine Sim.seq ?_
      refine Sim.block ?_
      refine Sim.seq ?_
      refine Sim.region0 ?_
      refine SimI.run 7 [(14, .one (lb (decide ((40 : Int) < (a0.F.a2.Text.size : Int))))), (13, .one (li .i64 (a0.F.a2.Text.size : Int))), (12, .one (ls a0.F.a2.Text)), (11, .one (.ptr 1 11)), (10, .one (.ptr 1 10)), (9, .one (.ptr 1 6)), (8, .one (li .i64 2))] [] (by kernel_rfl) ?_
      refine SimI.done (by kernel_rfl) ?_
      refine SimE.thenN ?_
      refine Sim.cond (decide ((40 : Int) < (a0.F.a2.Text.size : Int))) (by kernel_rfl) ?_ ?_
      · refine Sim.seq ?_
        refine Sim.region0 ?_
        refine SimI.run 1 [(2, .one (lb false))] [] (by kernel_rfl) ?_
        refine SimI.done (by kernel_rfl) ?_
        refine SimE.thenN ?_
        refine Sim.ret ?_
        refine SimE.blockR ?_
        refine SimE.thenR ?_
        refine SimE.loopR ?_
        refine SimE.blockR ?_
        refine SimE.thenR ?_
        exact SimE.fin (by kernel_rfl)
      · refine Sim.skip ?_
        refine SimE.blockN ?_
        refine SimE.thenN ?_
        refine Sim.region0 ?_
        refine SimI.run 3 [(3, .one (li .i64 3)), (7, .one (li .i64 3)), (6, .one (li .i64 2))] [] (by kernel_rfl) ?_
        refine SimI.done (by kernel_rfl) ?_
        refine SimE.loopN ?_
        refine SimL.succ ?_
        refine Sim.seq ?_
        refine Sim.seq ?_
        refine Sim.region [(1, .one (.ptr 1 0)), (3, .one (li .i64 3))] [(1, some (.cells (Command.cells a0)))] (by kernel_rfl) ?_
        refine SimI.run 2 [(5, .one (lb true)), (4, .one (li .i64 3))] [] (by kernel_rfl) ?_
        refine SimI.done (by kernel_rfl) ?_
        refine SimE.thenN ?_
        refine Sim.condT (by kernel_rfl) ?_
        refine Sim.skip ?_
        refine SimE.thenN ?_
        refine Sim.seq ?_
        refine Sim.block ?_
        refine Sim.seq ?_
        refine Sim.region0 ?_
        refine SimI.run 7 [(14, .one (lb (decide ((40 : Int) < (a0.F.a3.Text.size : Int))))), (13, .one (li .i64 (a0.F.a3.Text.size : Int))), (12, .one (ls a0.F.a3.Text)), (11, .one (.ptr 1 13)), (10, .one (.ptr 1 12)), (9, .one (.ptr 1 6)), (8, .one (li .i64 3))] [] (by kernel_rfl) ?_
        refine SimI.done (by kernel_rfl) ?_
        refine SimE.thenN ?_
        refine Sim.cond (decide ((40 : Int) < (a0.F.a3.Text.size : Int))) (by kernel_rfl) ?_ ?_
        · refine Sim.seq ?_
          refine Sim.region0 ?_
          refine SimI.run 1 [(2, .one (lb false))] [] (by kernel_rfl) ?_
          refine SimI.done (by kernel_rfl) ?_
          refine SimE.thenN ?_
          refine Sim.ret ?_
          refine SimE.blockR ?_
          refine SimE.thenR ?_
          refine SimE.loopR ?_
          refine SimE.blockR ?_
          refine SimE.thenR ?_
          exact SimE.fin (by kernel_rfl)
        · refine Sim.skip ?_
          refine SimE.blockN ?_
          refine SimE.thenN ?_
          refine Sim.region0 ?_
          refine SimI.run 3 [(3, .one (li .i64 4)), (7, .one (li .i64 4)), (6, .one (li .i64 3))] [] (by kernel_rfl) ?_
          refine SimI.done (by kernel_rfl) ?_
          refine SimE.loopN ?_
          refine SimL.succ ?_
          refine Sim.seq ?_
          refine Sim.seq ?_
          refine Sim.region [(1, .one (.ptr 1 0)), (3, .one (li .i64 4))] [(1, some (.cells (Command.cells a0)))] (by kernel_rfl) ?_
          refine SimI.run 2 [(5, .one (lb false)), (4, .one (li .i64 4))] [] (by kernel_rfl) ?_
          refine SimI.done (by kernel_rfl) ?_
          refine SimE.thenN ?_
          refine Sim.condF (by kernel_rfl) ?_
          refine Sim.exit ?_
          refine SimE.thenX ?_
          refine SimE.loopX ?_
          refine SimE.blockX ?_
          refine SimE.thenN ?_
          refine Sim.seq ?_
          refine Sim.region0 ?_
          refine SimI.run 6 [(2, .one (lb (decide ((a0.Value.Text.size : Int) ≤ 40)))), (19, .one (lb (decide ((a0.Value.Text.size : Int) ≤ 40)))), (18, .one (li .i64 (a0.Value.Text.size : Int))), (17, .one (ls a0.Value.Text)), (16, .one (.ptr 1 15)), (15, .one (.ptr 1 14))] [] (by kernel_rfl) ?_
          refine SimI.done (by kernel_rfl) ?_
          refine SimE.thenN ?_
          refine Sim.ret ?_
          exact SimE.fin (by kernel_rfl)


-- 13: vedette/vedettelaw10.CmdRows
def F13_e : Bool → PV × List Ob := fun r => (.one (lb r), [])
def F13_l23 (n : Nat) (s8 : ByteArray) (l9 : (List Command)) : Nat → Int → Int → Option Bool
  | 0, _, _ => none
  | m + 1, i21, i22 =>
    if decide (i22 < ((l9).length : Int)) then
      if 0 ≤ (i21 : Int) ∧ (i21 : Int) ≤ (s8.size : Int) then
        (F40 n (s8.extract i21.toNat s8.size)).bind fun (r24 : (Command × Int × Int)) =>
        if r24.2.2 != 0 then
          some false
        else
          (ix l9 i22).bind fun (x25 : Command) =>
          if !(Command.eqb r24.1 x25) then
            some false
          else
            if decide (r24.2.1 < 1) then
              some false
            else
              (F13_l23 n s8 l9 m) (IntKind.wrap .i64 (i21 + r24.2.1)) (IntKind.wrap .i64 (i22 + 1))
      else none
    else
      some (i21 == (s8.size : Int))
theorem F13_l23_ok (n : Nat) (s8 : ByteArray) (l9 : (List Command)) : ∀ (m : Nat) (i21 : Int) (i22 : Int), SimL Try.prog D (n + 8) m pc13_c69 [(3, .one (ls s8)), (4, .one (.osl 100004 0 0 (l9).length)), (8, .one (li .i64 i21)), (9, .one (li .i64 i22))] [(100004, some (.arr 57 Command.cod.sz 0 (l9).length (getOf Command.cod l9)))] (F13_l23 n s8 l9 m i21 i22) (QB 2 (QT Try.prog D (n + 8) pc13_c75 (QF false pc13_r 0 F13_e))) := by
  intro m_l23
  induction m_l23 with
  | zero => intro i21 i22; exact SimL.zero'  rfl
  | succ m_l23 ih_l23 =>
    intro i21 i22
    refine SimL.succ ?_
    unfold F13_l23
    refine Sim.seq ?_
    refine Sim.seq ?_
    refine Sim.region [(3, .one (ls s8)), (4, .one (.osl 100004 0 0 (l9).length)), (8, .one (li .i64 i21)), (9, .one (li .i64 i22))] [(100004, some (.arr 57 Command.cod.sz 0 (l9).length (getOf Command.cod l9)))] (by kernel_rfl) ?_
    refine SimI.run 4 [(53, .one (lb (decide (i22 < ((l9).length : Int))))), (52, .one (li .i64 ((l9).length : Int))), (51, .one (.osl 100004 0 0 (l9).length)), (50, .one (li .i64 i22))] [] (by kernel_rfl) ?_
    refine SimI.done (by kernel_rfl) ?_
    refine SimE.thenN ?_
    refine Sim.cond (decide (i22 < ((l9).length : Int))) (by kernel_rfl) ?_ ?_
    · refine Sim.skip ?_
      refine SimE.thenN ?_
      refine Sim.seq ?_
      refine Sim.block ?_
      refine Sim.seq ?_
      refine Sim.region0 ?_
      refine SimI.run 2 [(58, .one (li .i64 i21)), (57, .one (ls s8))] [] (by kernel_rfl) ?_
      refine SimI.guard (c := 0 ≤ (i21 : Int) ∧ (i21 : Int) ≤ (s8.size : Int)) { dst := some 59, op := POp.prim (Prim.slice 9 true false) [Operand.tmp 57, Operand.tmp 58], guard := none, hints := [] } [(59, .one (ls (s8.extract i21.toNat s8.size)))] [] (by kernel_rfl) (fun hc => pOp_eff (by kernel_rfl) (by kernel_rfl) (eff_prim (by kernel_rfl) (pr_cutL (s := s8) (k := .i64) (a := i21) Try.underlying9 hc))) ?_
      refine SimI.bind (og := F40 n (s8.extract i21.toNat s8.size)) { dst := some 60, op := POp.call true [[]] 40 [Operand.tmp 59], guard := none, hints := [] } (fun r24 => [(60, .tup [.agg (Command.cells r24.1), .one (li .i64 r24.2.1), .one (li .i64 r24.2.2)])]) (fun r24 => []) (by kernel_rfl) (fun r24 hr => pOp_eff (by kernel_rfl) (by kernel_rfl) (eff_call (ARGS := [.one (ls (s8.extract i21.toNat s8.size))]) (by kernel_rfl) (args_clean (by kernel_rfl) args_nil) (F40_ok n (s8.extract i21.toNat s8.size) r24 hr) (by kernel_rfl))) (fun r24 => ?_)
      refine SimI.run 8 [(12, .one (li .i64 r24.2.2)), (11, .one (li .i64 r24.2.1)), (10, .one (.ptr 10 0)), (63, .one (li .i64 r24.2.2)), (62, .one (li .i64 r24.2.1)), (61, .agg (Command.cells r24.1)), (56, .tup [.agg (Command.cells r24.1), .one (li .i64 r24.2.1), .one (li .i64 r24.2.2)])] [(10, some (.cells (Command.cells r24.1))), (10, some (.cells [li .i64 0, li .i64 0, li .i64 0, li .i64 0, li .i64 0, li .i64 0, li .i64 0, ls ByteArray.empty, li .i64 0, ls ByteArray.empty, li .i64 0, ls ByteArray.empty, li .i64 0, ls ByteArray.empty, li .i64 0, ls ByteArray.empty, li .i64 0, li .i64 0, li .i64 0, li .i64 0, li .i64 0, li .i64 0]))] (by kernel_rfl) ?_
      refine SimI.done (by kernel_rfl) ?_
      refine SimE.thenN ?_
      refine Sim.seq ?_
      refine Sim.seq ?_
      refine Sim.region0 ?_
      refine SimI.run 3 [(66, .one (lb (r24.2.2 != 0))), (65, .one (lb (r24.2.2 != 0))), (64, .one (li .i64 r24.2.2))] [] (by kernel_rfl) ?_
      refine SimI.split 66 (r24.2.2 != 0) (by kernel_rfl) ?_ ?_
      · refine SimI.run 11 [(77, .one (lb true)), (76, .tup []), (75, .tup []), (74, .one (lb true)), (73, .one (lb true)), (72, .tup []), (71, .tup []), (70, .tup []), (69, .tup []), (68, .tup []), (67, .tup [])] [] (by kernel_rfl) ?_
        refine SimI.done (by kernel_rfl) ?_
        refine SimE.thenN ?_
        refine Sim.condT (by kernel_rfl) ?_
        refine Sim.seq ?_
        refine Sim.region0 ?_
        refine SimI.run 1 [(2, .one (lb false))] [] (by kernel_rfl) ?_
        refine SimI.done (by kernel_rfl) ?_
        refine SimE.thenN ?_
        refine Sim.ret ?_
        refine SimE.thenR ?_
        refine SimE.blockR ?_
        refine SimE.thenR ?_
        refine SimE.loopR ?_
        refine SimE.blockR ?_
        refine SimE.thenR ?_
        exact SimE.fin (by kernel_rfl)
      · refine SimI.run 3 [(69, .one (li .i64 i22)), (68, .one (.osl 100004 0 0 (l9).length)), (67, .agg (Command.cells r24.1))] [] (by kernel_rfl) ?_
        refine SimI.bindh (og := ix l9 i22) { dst := some 70, op := POp.iaddrS 22 (Operand.tmp 68) (Operand.tmp 69), guard := some (66, false), hints := [(68, Hint.obj 100004), (69, Hint.imm)] } (fun x25 => [(70, .one (.aptr 100004 0 ((i22).toNat) 0))]) (fun x25 => []) (by kernel_rfl) (fun x25 hr => pOp_eff (by kernel_rfl) (by kernel_rfl) (eff_idxO (c := Command.cod) (l := l9) (g := 0) (el := 57) (k := .i64) (n := i22) (by kernel_rfl) (by kernel_rfl) (by kernel_rfl) (by kernel_rfl) hr)) (fun x25 hx25 => ?_)
        refine SimI.step { dst := some 71, op := POp.load true 22 (Operand.tmp 70), guard := some (66, false), hints := [(70, Hint.obj 100004)] } [(71, .agg (Command.cells x25))] [] (by kernel_rfl) (pOp_eff (by kernel_rfl) (by kernel_rfl) (eff_loadO (c := Command.cod) (a := x25) (l := l9) (key := 100004) (g := 0) (el := 57) (off := 0) (i := (i22).toNat) (by kernel_rfl) (by kernel_rfl) (ix_some hx25).2.2.2 (by kernel_rfl))) ?_
        refine SimI.step { dst := some 72, op := POp.prim (Prim.bin BinOp.neq 57 false false) [Operand.tmp 67, Operand.tmp 71], guard := some (66, false), hints := [(67, Hint.imm), (71, Hint.imm)] } [(72, .one (lb (!(Command.eqb r24.1 x25))))] [] (by kernel_rfl) (pOp_eff (by kernel_rfl) (by kernel_rfl) (eff_prim (by kernel_rfl) (Command_eqn r24.1 x25 _ _))) ?_
        refine SimI.run 2 [(74, .one (lb (!(Command.eqb r24.1 x25)))), (73, .one (lb (!(Command.eqb r24.1 x25))))] [] (by kernel_rfl) ?_
        refine SimI.split 74 (!(Command.eqb r24.1 x25)) (by kernel_rfl) ?_ ?_
        · refine SimI.run 3 [(77, .one (lb true)), (76, .tup []), (75, .tup [])] [] (by kernel_rfl) ?_
          refine SimI.done (by kernel_rfl) ?_
          refine SimE.thenN ?_
          refine Sim.condT (by kernel_rfl) ?_
          refine Sim.seq ?_
          refine Sim.region0 ?_
          refine SimI.run 1 [(2, .one (lb false))] [] (by kernel_rfl) ?_
          refine SimI.done (by kernel_rfl) ?_
          refine SimE.thenN ?_
          refine Sim.ret ?_
          refine SimE.thenR ?_
          refine SimE.blockR ?_
          refine SimE.thenR ?_
          refine SimE.loopR ?_
          refine SimE.blockR ?_
          refine SimE.thenR ?_
          exact SimE.fin (by kernel_rfl)
        · refine SimI.run 3 [(77, .one (lb (decide (r24.2.1 < 1)))), (76, .one (lb (decide (r24.2.1 < 1)))), (75, .one (li .i64 r24.2.1))] [] (by kernel_rfl) ?_
          refine SimI.done (by kernel_rfl) ?_
          refine SimE.thenN ?_
          refine Sim.cond (decide (r24.2.1 < 1)) (by kernel_rfl) ?_ ?_
          · refine Sim.seq ?_
            refine Sim.region0 ?_
            refine SimI.run 1 [(2, .one (lb false))] [] (by kernel_rfl) ?_
            refine SimI.done (by kernel_rfl) ?_
            refine SimE.thenN ?_
            refine Sim.ret ?_
            refine SimE.thenR ?_
            refine SimE.blockR ?_
            refine SimE.thenR ?_
            refine SimE.loopR ?_
            refine SimE.blockR ?_
            refine SimE.thenR ?_
            exact SimE.fin (by kernel_rfl)
          · refine Sim.skip ?_
            refine SimE.thenN ?_
            refine Sim.region0 ?_
            refine SimI.run 4 [(8, .one (li .i64 (IntKind.wrap .i64 (i21 + r24.2.1)))), (80, .one (li .i64 (IntKind.wrap .i64 (i21 + r24.2.1)))), (79, .one (li .i64 r24.2.1)), (78, .one (li .i64 i21))] [] (by kernel_rfl) ?_
            refine SimI.done (by kernel_rfl) ?_
            refine SimE.blockN ?_
            refine SimE.thenN ?_
            refine Sim.region0 ?_
            refine SimI.run 3 [(9, .one (li .i64 (IntKind.wrap .i64 (i22 + 1)))), (55, .one (li .i64 (IntKind.wrap .i64 (i22 + 1)))), (54, .one (li .i64 i22))] [] (by kernel_rfl) ?_
            refine SimI.done (by kernel_rfl) ?_
            refine SimE.loopN ?_
            refine SimL.pre (ts := [3, 4, 8, 9]) (os := [10, 100004]) (ow := []) [(3, .one (ls s8)), (4, .one (.osl 100004 0 0 (l9).length)), (8, .one (li .i64 (IntKind.wrap .i64 (i21 + r24.2.1)))), (9, .one (li .i64 (IntKind.wrap .i64 (i22 + 1))))] [(100004, some (.arr 57 Command.cod.sz 0 (l9).length (getOf Command.cod l9)))] (by kernel_rfl) (by kernel_rfl) (by kernel_rfl) ?_
            exact ih_l23 (IntKind.wrap .i64 (i21 + r24.2.1)) (IntKind.wrap .i64 (i22 + 1))
    · refine Sim.exit ?_
      refine SimE.thenX ?_
      refine SimE.loopX ?_
      refine SimE.blockX ?_
      refine SimE.thenN ?_
      refine Sim.seq ?_
      refine Sim.region0 ?_
      refine SimI.run 5 [(2, .one (lb (i21 == (s8.size : Int)))), (84, .one (lb (i21 == (s8.size : Int)))), (83, .one (li .i64 (s8.size : Int))), (82, .one (ls s8)), (81, .one (li .i64 i21))] [] (by kernel_rfl) ?_
      refine SimI.done (by kernel_rfl) ?_
      refine SimE.thenN ?_
      refine Sim.ret ?_
      exact SimE.fin (by kernel_rfl)

def F13_l11 (n : Nat) (a0 : (List Command)) : Nat → ByteArray → (List Command) → Int → Option Bool
  | 0, _, _, _ => none
  | m + 1, s8, l9, i10 =>
    if decide (i10 < ((a0).length : Int)) then
      (ix a0 i10).bind fun (x12 : Command) =>
      (F33 n x12).bind fun (r13 : Bool) =>
      if !(r13) then
        some true
      else
        (ix a0 i10).bind fun (x14 : Command) =>
        (F34 n x14).bind fun (r15 : (ByteArray × Int)) =>
        if r15.2 == 0 then
          if s8.size + r15.1.size ≤ 9223372036854775807 then
            (ix a0 i10).bind fun (x16 : Command) =>
            if ((l9).length + 1) * 216 ≤ maxCells ∧ (l9).length + 1 ≤ maxCells then
              (F13_l11 n a0 m) (s8 ++ r15.1) (l9 ++ [x16]) (IntKind.wrap .i64 (i10 + 1))
            else none
          else none
        else
          (F13_l11 n a0 m) s8 l9 (IntKind.wrap .i64 (i10 + 1))
    else
      F13_l23 n s8 l9 (n + 8) 0 0
theorem F13_l11_ok (n : Nat) (a0 : (List Command)) : ∀ (m : Nat) (s8 : ByteArray) (l9 : (List Command)) (i10 : Int), SimL Try.prog D (n + 8) m pc13_c44 [(0, .one (vw Command.cod a0)), (3, .one (ls s8)), (4, .one (.osl 100004 0 0 (l9).length)), (5, .one (li .i64 i10))] [(100004, some (.arr 57 Command.cod.sz 0 (l9).length (getOf Command.cod l9)))] (F13_l11 n a0 m s8 l9 i10) (QB 0 (QT Try.prog D (n + 8) pc13_c77 (QF false pc13_r 0 F13_e))) := by
  intro m_l11
  induction m_l11 with
  | zero => intro s8 l9 i10; exact SimL.zero'  rfl
  | succ m_l11 ih_l11 =>
    intro s8 l9 i10
    refine SimL.succ ?_
    unfold F13_l11
    refine Sim.seq ?_
    refine Sim.seq ?_
    refine Sim.region [(0, .one (vw Command.cod a0)), (3, .one (ls s8)), (4, .one (.osl 100004 0 0 (l9).length)), (5, .one (li .i64 i10))] [(100004, some (.arr 57 Command.cod.sz 0 (l9).length (getOf Command.cod l9)))] (by kernel_rfl) ?_
    refine SimI.run 4 [(21, .one (lb (decide (i10 < ((a0).length : Int))))), (20, .one (li .i64 ((a0).length : Int))), (19, .one (vw Command.cod a0)), (18, .one (li .i64 i10))] [] (by kernel_rfl) ?_
    refine SimI.done (by kernel_rfl) ?_
    refine SimE.thenN ?_
    refine Sim.cond (decide (i10 < ((a0).length : Int))) (by kernel_rfl) ?_ ?_
    · refine Sim.skip ?_
      refine SimE.thenN ?_
      refine Sim.seq ?_
      refine Sim.block ?_
      refine Sim.seq ?_
      refine Sim.seq ?_
      refine Sim.region0 ?_
      refine SimI.run 2 [(25, .one (li .i64 i10)), (24, .one (vw Command.cod a0))] [] (by kernel_rfl) ?_
      refine SimI.bind (og := ix a0 i10) { dst := some 26, op := POp.iaddrS 22 (Operand.tmp 24) (Operand.tmp 25), guard := none, hints := [] } (fun x12 => [(26, .one (.eptr (Command.cod.enc x12) 0))]) (fun x12 => []) (by kernel_rfl) (fun x12 hr => pOp_eff (by kernel_rfl) (by kernel_rfl) (eff_idx (c := Command.cod) (l := a0) (k := .i64) (n := i10) (by kernel_rfl) (by kernel_rfl) (by kernel_rfl) hr)) (fun x12 => ?_)
      refine SimI.run 1 [(27, .agg (Command.cells x12))] [] (by kernel_rfl) ?_
      refine SimI.bind (og := F33 n x12) { dst := some 28, op := POp.call true [[]] 33 [Operand.tmp 27], guard := none, hints := [] } (fun r13 => [(28, .one (lb r13))]) (fun r13 => []) (by kernel_rfl) (fun r13 hr => pOp_eff (by kernel_rfl) (by kernel_rfl) (eff_call (ARGS := [.agg (Command.cells x12)]) (by kernel_rfl) (args_clean (by kernel_rfl) args_nil) (F33_ok n x12 r13 hr) (by kernel_rfl))) (fun r13 => ?_)
      refine SimI.run 1 [(29, .one (lb (!(r13))))] [] (by kernel_rfl) ?_
      refine SimI.done (by kernel_rfl) ?_
      refine SimE.thenN ?_
      refine Sim.cond (!(r13)) (by kernel_rfl) ?_ ?_
      · refine Sim.seq ?_
        refine Sim.region0 ?_
        refine SimI.run 1 [(2, .one (lb true))] [] (by kernel_rfl) ?_
        refine SimI.done (by kernel_rfl) ?_
        refine SimE.thenN ?_
        refine Sim.ret ?_
        refine SimE.thenR ?_
        refine SimE.blockR ?_
        refine SimE.thenR ?_
        refine SimE.loopR ?_
        refine SimE.blockR ?_
        refine SimE.thenR ?_
        exact SimE.fin (by kernel_rfl)
      · refine Sim.skip ?_
        refine SimE.thenN ?_
        refine Sim.seq ?_
        refine Sim.region0 ?_
        refine SimI.run 2 [(32, .one (li .i64 i10)), (31, .one (vw Command.cod a0))] [] (by kernel_rfl) ?_
        refine SimI.bind (og := ix a0 i10) { dst := some 33, op := POp.iaddrS 22 (Operand.tmp 31) (Operand.tmp 32), guard := none, hints := [] } (fun x14 => [(33, .one (.eptr (Command.cod.enc x14) 0))]) (fun x14 => []) (by kernel_rfl) (fun x14 hr => pOp_eff (by kernel_rfl) (by kernel_rfl) (eff_idx (c := Command.cod) (l := a0) (k := .i64) (n := i10) (by kernel_rfl) (by kernel_rfl) (by kernel_rfl) hr)) (fun x14 => ?_)
        refine SimI.run 1 [(34, .agg (Command.cells x14))] [] (by kernel_rfl) ?_
        refine SimI.bind (og := F34 n x14) { dst := some 35, op := POp.call true [[]] 34 [Operand.tmp 34], guard := none, hints := [] } (fun r15 => [(35, .tup [.one (ls r15.1), .one (li .i64 r15.2)])]) (fun r15 => []) (by kernel_rfl) (fun r15 hr => pOp_eff (by kernel_rfl) (by kernel_rfl) (eff_call (ARGS := [.agg (Command.cells x14)]) (by kernel_rfl) (args_clean (by kernel_rfl) args_nil) (F34_ok n x14 r15 hr) (by kernel_rfl))) (fun r15 => ?_)
        refine SimI.run 5 [(7, .one (li .i64 r15.2)), (6, .one (ls r15.1)), (37, .one (li .i64 r15.2)), (36, .one (ls r15.1)), (30, .tup [.one (ls r15.1), .one (li .i64 r15.2)])] [] (by kernel_rfl) ?_
        refine SimI.done (by kernel_rfl) ?_
        refine SimE.thenN ?_
        refine Sim.seq ?_
        refine Sim.region0 ?_
        refine SimI.run 2 [(39, .one (lb (r15.2 == 0))), (38, .one (li .i64 r15.2))] [] (by kernel_rfl) ?_
        refine SimI.done (by kernel_rfl) ?_
        refine SimE.thenN ?_
        refine Sim.cond (r15.2 == 0) (by kernel_rfl) ?_ ?_
        · refine Sim.seq ?_
          refine Sim.region0 ?_
          refine SimI.run 2 [(41, .one (ls r15.1)), (40, .one (ls s8))] [] (by kernel_rfl) ?_
          refine SimI.guard (c := s8.size + r15.1.size ≤ 9223372036854775807) { dst := some 42, op := POp.prim (Prim.bin BinOp.add 9 false false) [Operand.tmp 40, Operand.tmp 41], guard := none, hints := [] } [(42, .one (ls (s8 ++ r15.1)))] [] (by kernel_rfl) (fun hc => pOp_eff (by kernel_rfl) (by kernel_rfl) (eff_prim (by kernel_rfl) (pr_addS _ _ _ s8 r15.1 hc))) ?_
          refine SimI.run 1 [(3, .one (ls (s8 ++ r15.1)))] [] (by kernel_rfl) ?_
          refine SimI.done (by kernel_rfl) ?_
          refine SimE.thenN ?_
          refine Sim.region0 ?_
          refine SimI.run 3 [(45, .one (li .i64 i10)), (44, .one (vw Command.cod a0)), (43, .one (.osl 100004 0 0 (l9).length))] [] (by kernel_rfl) ?_
          refine SimI.bind (og := ix a0 i10) { dst := some 46, op := POp.iaddrS 22 (Operand.tmp 44) (Operand.tmp 45), guard := none, hints := [] } (fun x16 => [(46, .one (.eptr (Command.cod.enc x16) 0))]) (fun x16 => []) (by kernel_rfl) (fun x16 hr => pOp_eff (by kernel_rfl) (by kernel_rfl) (eff_idx (c := Command.cod) (l := a0) (k := .i64) (n := i10) (by kernel_rfl) (by kernel_rfl) (by kernel_rfl) hr)) (fun x16 => ?_)
          refine SimI.run 2 [(48, .one (vw Command.cod [x16])), (47, .agg (Command.cells x16))] [] (by kernel_rfl) ?_
          refine SimI.guard (c := ((l9).length + 1) * 216 ≤ maxCells ∧ (l9).length + 1 ≤ maxCells) { dst := some 49, op := POp.app 100004 57 22 216 (Operand.tmp 43) (Operand.tmp 48), guard := none, hints := [] } [(49, .one (.osl 100004 (0 + 1) 0 ((l9 ++ [x16])).length))] [(100004, some (.arr 57 Command.cod.sz (0 + 1) ((l9 ++ [x16])).length (getOf Command.cod (l9 ++ [x16]))))] (by kernel_rfl) (fun hc => pOp_eff (by kernel_rfl) (by kernel_rfl) (eff_appO (c := Command.cod) (g := 0) (l := l9) (a := x16) (by kernel_rfl) (by kernel_rfl) (by kernel_rfl) (by kernel_rfl) hc)) ?_
          refine SimI.run 1 [(4, .one (.osl 100004 (0 + 1) 0 ((l9 ++ [x16])).length))] [] (by kernel_rfl) ?_
          refine SimI.done (by kernel_rfl) ?_
          refine SimE.blockN ?_
          refine SimE.thenN ?_
          refine Sim.region0 ?_
          refine SimI.run 3 [(5, .one (li .i64 (IntKind.wrap .i64 (i10 + 1)))), (23, .one (li .i64 (IntKind.wrap .i64 (i10 + 1)))), (22, .one (li .i64 i10))] [] (by kernel_rfl) ?_
          refine SimI.done (by kernel_rfl) ?_
          refine SimE.loopN ?_
          refine SimL.pre (ts := [0, 3, 4, 5]) (os := [100004]) (ow := [(false, 4, 0, 100004, 57, 22)]) [(0, .one (vw Command.cod a0)), (3, .one (ls (s8 ++ r15.1))), (4, .one (.osl 100004 0 0 ((l9 ++ [x16])).length)), (5, .one (li .i64 (IntKind.wrap .i64 (i10 + 1))))] [(100004, some (.arr 57 Command.cod.sz 0 ((l9 ++ [x16])).length (getOf Command.cod (l9 ++ [x16]))))] (by kernel_rfl) (by kernel_rfl) (by kernel_rfl) ?_
          exact ih_l11 (s8 ++ r15.1) (l9 ++ [x16]) (IntKind.wrap .i64 (i10 + 1))
        · refine Sim.skip ?_
          refine SimE.blockN ?_
          refine SimE.thenN ?_
          refine Sim.region0 ?_
          refine SimI.run 3 [(5, .one (li .i64 (IntKind.wrap .i64 (i10 + 1)))), (23, .one (li .i64 (IntKind.wrap .i64 (i10 + 1)))), (22, .one (li .i64 i10))] [] (by kernel_rfl) ?_
          refine SimI.done (by kernel_rfl) ?_
          refine SimE.loopN ?_
          refine SimL.pre (ts := [0, 3, 4, 5]) (os := [100004]) (ow := [(false, 4, 0, 100004, 57, 22)]) [(0, .one (vw Command.cod a0)), (3, .one (ls s8)), (4, .one (.osl 100004 0 0 (l9).length)), (5, .one (li .i64 (IntKind.wrap .i64 (i10 + 1))))] [(100004, some (.arr 57 Command.cod.sz 0 (l9).length (getOf Command.cod l9)))] (by kernel_rfl) (by kernel_rfl) (by kernel_rfl) ?_
          exact ih_l11 s8 l9 (IntKind.wrap .i64 (i10 + 1))
    · refine Sim.exit ?_
      refine SimE.thenX ?_
      refine SimE.loopX ?_
      refine SimE.blockX ?_
      refine SimE.thenN ?_
      refine Sim.seq ?_
      refine Sim.region0 ?_
      refine SimI.run 1 [(8, .one (li .i64 0))] [] (by kernel_rfl) ?_
      refine SimI.done (by kernel_rfl) ?_
      refine SimE.thenN ?_
      refine Sim.seq ?_
      refine Sim.seq ?_
      refine Sim.region0 ?_
      refine SimI.run 1 [(9, .one (li .i64 0))] [] (by kernel_rfl) ?_
      refine SimI.done (by kernel_rfl) ?_
      refine SimE.thenN ?_
      refine Sim.block ?_
      refine Sim.loop ?_
      refine SimL.pre (ts := [3, 4, 8, 9]) (os := [10, 100004]) (ow := []) [(3, .one (ls s8)), (4, .one (.osl 100004 0 0 (l9).length)), (8, .one (li .i64 0)), (9, .one (li .i64 0))] [(100004, some (.arr 57 Command.cod.sz 0 (l9).length (getOf Command.cod l9)))] (by kernel_rfl) (by kernel_rfl) (by kernel_rfl) ?_
      exact F13_l23_ok n s8 l9 (n + 8) 0 0

def F13 (n : Nat) (a0 : (List Command)) : Option Bool :=
  ((some true)).bind fun (r1 : Bool) =>
  if !(r1) then
    some false
  else
    if decide ((20 : Int) < ((a0).length : Int)) then
      some true
    else
      F13_l11 n a0 (n + 8) ByteArray.empty ([] : List Command) 0
theorem F13_ok (n : Nat) (a0 : (List Command)) : ∀ r, F13 n a0 = some r → D 13 [.one (vw Command.cod a0)] [] = some (F13_e r) := by
  refine fn_to (D := D) (n := n + 8) (nt := 85) (rs := pc13_r) (c := pc13_c83) (L := [(0, .one (vw Command.cod a0))]) (M := []) (k := 0) rfl rfl rfl rfl rfl rfl rfl ?_
  unfold F13
  refine Sim.seq ?_
  refine Sim.region0 ?_
  refine SimI.run 1 [(2, .one (lb false))] [] (by kernel_rfl) ?_
  refine SimI.done (by kernel_rfl) ?_
  refine SimE.thenN ?_
  refine Sim.seq ?_
  refine Sim.seq ?_
  refine Sim.region0 ?_
  refine SimI.bind (og := (some true)) { dst := some 13, op := POp.call true [] 32 [], guard := none, hints := [] } (fun r1 => [(13, .one (lb r1))]) (fun r1 => []) (by kernel_rfl) (fun r1 hr => pOp_eff (by kernel_rfl) (by kernel_rfl) (eff_call (ARGS := []) (by kernel_rfl) (args_nil) (F32_ok n r1 hr) (by kernel_rfl))) (fun r1 => ?_)
  refine SimI.run 1 [(14, .one (lb (!(r1))))] [] (by kernel_rfl) ?_
  refine SimI.done (by kernel_rfl) ?_
  refine SimE.thenN ?_
  refine Sim.cond (!(r1)) (by kernel_rfl) ?_ ?_
  · refine Sim.seq ?_
    refine Sim.region0 ?_
    refine SimI.run 1 [(2, .one (lb false))] [] (by kernel_rfl) ?_
    refine SimI.done (by kernel_rfl) ?_
    refine SimE.thenN ?_
    refine Sim.ret ?_
    refine SimE.thenR ?_
    exact SimE.fin (by kernel_rfl)
  · refine Sim.skip ?_
    refine SimE.thenN ?_
    refine Sim.seq ?_
    refine Sim.seq ?_
    refine Sim.region0 ?_
    refine SimI.run 3 [(17, .one (lb (decide ((20 : Int) < ((a0).length : Int))))), (16, .one (li .i64 ((a0).length : Int))), (15, .one (vw Command.cod a0))] [] (by kernel_rfl) ?_
    refine SimI.done (by kernel_rfl) ?_
    refine SimE.thenN ?_
    refine Sim.cond (decide ((20 : Int) < ((a0).length : Int))) (by kernel_rfl) ?_ ?_
    · refine Sim.seq ?_
      refine Sim.region0 ?_
      refine SimI.run 1 [(2, .one (lb true))] [] (by kernel_rfl) ?_
      refine SimI.done (by kernel_rfl) ?_
      refine SimE.thenN ?_
      refine Sim.ret ?_
      refine SimE.thenR ?_
      exact SimE.fin (by kernel_rfl)
    · refine Sim.skip ?_
      refine SimE.thenN ?_
      refine Sim.seq ?_
      refine Sim.region0 ?_
      refine SimI.run 1 [(3, .one (ls ByteArray.empty))] [] (by kernel_rfl) ?_
      refine SimI.done (by kernel_rfl) ?_
      refine SimE.thenN ?_
      refine Sim.seq ?_
      refine Sim.region0 ?_
      refine SimI.run 1 [(4, .one (lnil))] [] (by kernel_rfl) ?_
      refine SimI.done (by kernel_rfl) ?_
      refine SimE.thenN ?_
      refine Sim.seq ?_
      refine Sim.seq ?_
      refine Sim.region0 ?_
      refine SimI.run 1 [(5, .one (li .i64 0))] [] (by kernel_rfl) ?_
      refine SimI.done (by kernel_rfl) ?_
      refine SimE.thenN ?_
      refine Sim.block ?_
      refine Sim.loop ?_
      refine SimL.pre (ts := [0, 3, 4, 5]) (os := [100004]) (ow := [(false, 4, 0, 100004, 57, 22)]) [(0, .one (vw Command.cod a0)), (3, .one (ls ByteArray.empty)), (4, .one (.osl 100004 0 0 (([] : List Command)).length)), (5, .one (li .i64 0))] [(100004, some (.arr 57 Command.cod.sz 0 (([] : List Command)).length (getOf Command.cod ([] : List Command))))] (by kernel_rfl) (by kernel_rfl) (by kernel_rfl) ?_
      exact F13_l11_ok n a0 (n + 8) ByteArray.empty ([] : List Command) 0


end Go.Proofs.Ythmbegagkgdopaa
